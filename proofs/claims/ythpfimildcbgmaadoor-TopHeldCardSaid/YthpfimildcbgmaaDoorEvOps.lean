/-
The operations that leave the boxes alone: what the interpreter answers is what the model's operation gives.
-/
import Derived.Test.YthpfimildcbgmaaDoorEvStep
import Derived.Laws.Entries
import Derived.Laws.StructEq
import Derived.Laws.BytesString
import Derived.Laws.BytesArg
import Derived.Laws.Slices
import Derived.WalkKit
namespace Go.Proofs.YthpfimildcbgmaaDoor
namespace Ev
set_option linter.all false
open Go

/-- The package-level variables that the interpreter is told hold what it is told, and stay. -/
def GRel (E : Env) (C : Ctx) : Prop := ∀ g cs, E.G g = some cs → plains cs = true ∧ ones cs = true ∧ Els C C.S 1 g cs 0

theorem GRel.mono {E : Env} {C C' : Ctx} (h : GRel E C) (e : Ext C C') : GRel E C' := fun g cs hg =>
  ⟨(h g cs hg).1, (h g cs hg).2.1, Els.mono e (fun _ _ _ => e.S _ _) _ _ (h g cs hg).2.2⟩

/-- The slots. -/
def TRel (C : Ctx) (t : List V) (ts : Array Value) : Prop := Rels C t ts.toList

theorem TRel.mono {C C' : Ctx} {t : List V} {ts : Array Value} (h : TRel C t ts) (e : Ext C C') : TRel C' t ts := Rels.mono e _ _ h

theorem TRel.get {C : Ctx} {t : List V} {ts : Array Value} (h : TRel C t ts) (i : Nat) : Rel C (t.getD i .wild) (ts.getD i undef) := by
  by_cases hi : i < t.length
  · obtain ⟨y, hy, hr⟩ := Rels_get _ _ h i t[i] (List.getElem?_eq_getElem hi)
    have : ts.getD i undef = y := by simp [Array.getD_eq_getD_getElem?]; simp at hy; simp [hy]
    rw [this]
    simpa [List.getD_eq_getElem?_getD, List.getElem?_eq_getElem hi] using hr
  · simp only [List.getD_eq_getElem?_getD, List.getElem?_eq_none (Nat.le_of_not_lt hi), Option.getD_none, Rel]

theorem TRel.put {C : Ctx} {t : List V} {ts : Array Value} (h : TRel C t ts) (i : Nat) {v : V} {x : Value} (hv : Rel C v x) : TRel C (t.set i v) (ts.setIfInBounds i x) := by
  have hl := Rels_length _ _ h
  refine Rels_mk _ _ (by simpa using hl) fun k u y hu hy => ?_
  rw [List.getElem?_set] at hu
  rw [Array.toList_setIfInBounds, List.getElem?_set] at hy
  by_cases hk : i = k
  · subst hk
    by_cases hi : i < t.length
    · have hi' : i < ts.toList.length := hl ▸ hi
      rw [if_pos rfl, if_pos hi] at hu
      rw [if_pos rfl, if_pos hi'] at hy
      cases hu; cases hy
      exact hv
    · rw [if_pos rfl, if_neg hi] at hu; cases hu
  · rw [if_neg hk] at hu hy
    obtain ⟨z, hz, hr⟩ := Rels_get _ _ h k u hu
    rw [hz] at hy
    cases hy
    exact hr

theorem val1_rel (C : Ctx) (v : Value) : Rel C (val1 v) v := by
  unfold val1
  split
  case h_3 =>
    split
    · rename_i h; simp [Rel, h]
    · simp only [Rel]
  all_goals simp only [Rel]

theorem val_rel (C : Ctx) (v : Value) : Rel C (val v) v := by
  unfold val
  split
  · rename_i cs
    simp only [Rel]
    refine ⟨cs, rfl, Rels_mk _ _ (by simp) fun k u y hu hy => ?_⟩
    rw [List.getElem?_map, hy] at hu
    cases hu
    exact val1_rel C y
  · exact val1_rel C v

theorem arg_rel {E : Env} {C : Ctx} {t : List V} {a : Act} (hg : GRel E C) (ht : TRel C t a.tmps) (x : Operand) : Rel C (arg E t x) (a.eval x) := by
  cases x with
  | tmp i => exact ht.get i
  | const v => exact val_rel C v
  | global g =>
    simp only [arg, Act.eval]
    split
    · rename_i cs h
      obtain ⟨h1, h2, h3⟩ := hg g cs h
      simp only [Rel]
      exact ⟨h1, h2, g, 0, rfl, h3⟩
    · simp only [Rel]
  | func f =>
    simp only [arg, Act.eval, Rel]
    exact ⟨#[], #[], rfl, by simp [Rels], by simp [Rels]⟩

theorem args_rel {E : Env} {C : Ctx} {t : List V} {a : Act} (hg : GRel E C) (ht : TRel C t a.tmps) (xs : Array Operand) : Rels C (args E t xs) (xs.map a.eval).toList := by
  unfold args
  rw [Array.toList_map]
  generalize xs.toList = l
  induction l with
  | nil => simp [Rels]
  | cons x r ih => simp only [List.map_cons, Rels]; exact ⟨_, _, rfl, arg_rel hg ht x, ih⟩

section runs
variable {P : Program} {t : TypeId}

theorem run_sizeT (h : 0 < sizeT P t) (w : World) : (sizeOf t).run P w = .ok (sizeT P t) w := by
  unfold sizeT at *
  cases hi : P.info? t with
  | none => rw [hi] at h; simp at h
  | some i => simp [sizeOf, typeInfo, hi]

theorem run_aggT {b : Bool} (h : aggT P t = some b) (w : World) : (isAgg t).run P w = .ok b w := by
  unfold aggT at h
  cases hu : P.underlying t with
  | none => rw [hu] at h; simp at h
  | some d =>
    rw [hu] at h
    simp only [isAgg, Sem.run_bind, run_underlying hu, Result.andThen_ok]
    cases d <;> simp at h <;> subst h <;> rfl

end runs

/-- Binary operations on whole numbers. -/
theorem binI_run {P : Program} {op : BinOp} {k k' : IntKind} {a b : Int} {v : V} (C : Ctx) (ty : TypeId) (w : World) (hk : op = .shl ∨ op = .shr ∨ k = k') (h : binI op k a b = some v) :
    ∃ x, (binOp op ty (.int k a) (.int k' b)).run P w = .ok x w ∧ Rel C v x := by
  have hk' : op ≠ .shl → op ≠ .shr → k = k' := fun h1 h2 => hk.resolve_left h1 |>.resolve_left h2
  cases op <;> simp only [binI, Option.some.injEq] at h
  case quo =>
    obtain rfl := hk' (by simp) (by simp)
    split at h
    · cases h
    · rename_i hb
      cases h
      simp only [Rel]
      exact ⟨_, by simp [binOp, Op.intDiv, hb], rfl⟩
  case rem =>
    obtain rfl := hk' (by simp) (by simp)
    split at h
    · cases h
    · rename_i hb
      cases h
      simp only [Rel]
      exact ⟨_, by simp [binOp, Op.intDiv, hb], rfl⟩
  case shl =>
    split at h
    · cases h
    · rename_i hb
      cases h
      simp only [Rel]
      exact ⟨_, by simp [binOp, Op.shift, hb], rfl⟩
  case shr =>
    split at h
    · cases h
    · rename_i hb
      cases h
      simp only [Rel]
      exact ⟨_, by simp [binOp, Op.shift, hb], rfl⟩
  all_goals
    obtain rfl := hk' (by simp) (by simp)
    subst h
    simp only [Rel]
    exact ⟨_, by simp [binOp, Op.intArith, Op.intBits, Op.intCmp], rfl⟩

/-- Two words of one number, or both none. -/
def FEq (k : FloatKind) (b b' : Nat) : Prop := b' < 2 ^ k.format.width ∧ (b = b' ∨ ((k.decode b).isNaN = true ∧ (k.decode b').isNaN = true))

theorem Rel.fl {C : Ctx} {k : FloatKind} {b : Nat} {x : Value} (h : Rel C (.fl k b) x) : ∃ b', x = .float k b' ∧ FEq k b b' := by
  simp only [Rel] at h
  rcases h with ⟨h, rfl⟩ | ⟨_, h1, b', h2, rfl, h3⟩
  · exact ⟨b, rfl, h, .inl rfl⟩
  · exact ⟨b', rfl, h2, .inr ⟨h1, h3⟩⟩

theorem nan_of {d : Ieee.Datum} (h : d.isNaN = true) : ∃ s f, d = .nan s f := by
  cases d <;> simp [Ieee.Datum.isNaN] at h
  exact ⟨_, _, rfl⟩

theorem FEq.cases {k : FloatKind} {b b' : Nat} (h : FEq k b b') : b = b' ∨ ∃ s f s' f', k.format.read b = .nan s f ∧ k.format.read b' = .nan s' f' := by
  rcases h.2 with h | ⟨h1, h2⟩
  · exact .inl h
  · obtain ⟨s, f, e⟩ := nan_of h1
    obtain ⟨s', f', e'⟩ := nan_of h2
    exact .inr ⟨s, f, s', f', e, e'⟩

theorem order_nan_left (s : Bool) (f : Nat) (d : Ieee.Datum) : (Ieee.Datum.nan s f).order d = none := by cases d <;> rfl
theorem order_nan_right (s : Bool) (f : Nat) (d : Ieee.Datum) : d.order (.nan s f) = none := by cases d <;> rfl
theorem sum_nan_left (s : Bool) (f : Nat) (d : Ieee.Datum) : (Ieee.Datum.nan s f).sum d = none := by cases d <;> rfl
theorem sum_nan_right (s : Bool) (f : Nat) (d : Ieee.Datum) : d.sum (.nan s f) = none := by cases d <;> rfl
theorem product_nan_left (s : Bool) (f : Nat) (d : Ieee.Datum) : (Ieee.Datum.nan s f).product d = none := by cases d <;> rfl
theorem product_nan_right (s : Bool) (f : Nat) (d : Ieee.Datum) : d.product (.nan s f) = none := by cases d <;> rfl
theorem quotient_nan_left (n : Nat) (s : Bool) (f : Nat) (d : Ieee.Datum) : (Ieee.Datum.nan s f).quotient n d = none := by cases d <;> rfl
theorem quotient_nan_right (n : Nat) (s : Bool) (f : Nat) (d : Ieee.Datum) : d.quotient n (.nan s f) = none := by cases d <;> rfl

theorem FEq.order {k : FloatKind} {a a' b b' : Nat} (ha : FEq k a a') (hb : FEq k b b') : k.format.order a' b' = k.format.order a b := by
  rcases ha.cases with rfl | ⟨s, f, s', f', e, e'⟩
  · rcases hb.cases with rfl | ⟨s, f, s', f', e, e'⟩
    · rfl
    · simp only [Ieee.Format.order, e, e', order_nan_right]
  · simp only [Ieee.Format.order, e, e', order_nan_left]

theorem opposite_nan (s : Bool) (f : Nat) : (Ieee.Datum.nan s f).opposite = .nan (!s) f := rfl

theorem FEq.arith {k : FloatKind} {a a' b b' : Nat} (ha : FEq k a a') (hb : FEq k b b') :
    k.format.add a' b' = k.format.add a b ∧ k.format.sub a' b' = k.format.sub a b ∧ k.format.mul a' b' = k.format.mul a b ∧ k.format.div a' b' = k.format.div a b := by
  rcases ha.cases with rfl | ⟨s, f, s', f', e, e'⟩
  · rcases hb.cases with rfl | ⟨s, f, s', f', e, e'⟩
    · exact ⟨rfl, rfl, rfl, rfl⟩
    · simp only [Ieee.Format.add, Ieee.Format.sub, Ieee.Format.mul, Ieee.Format.div, e, e', opposite_nan, sum_nan_right, product_nan_right, quotient_nan_right, and_self]
  · simp only [Ieee.Format.add, Ieee.Format.sub, Ieee.Format.mul, Ieee.Format.div, e, e', sum_nan_left, product_nan_left, quotient_nan_left, and_self]

theorem nanMark_le (k : FloatKind) : 2 ^ k.format.width ≤ nanMark k := by cases k <;> decide
theorem nanMark_nan (k : FloatKind) : (k.decode (nanMark k)).isNaN = true := by cases k <;> decide

theorem nan_cut (k : FloatKind) (x y t : Nat) : (Question.nanBits k x y).cut t < 2 ^ k.format.width ∧ (k.decode ((Question.nanBits k x y).cut t)).isNaN = true := by
  cases k
  · have h1 : (t / 2) % (2 ^ 23 - 1) < 2 ^ 23 - 1 := Nat.mod_lt _ (by decide)
    have h2 : t % 2 < 2 := Nat.mod_lt _ (by decide)
    have hw : FloatKind.f32.format.width = 32 := rfl
    have e : (Question.nanBits .f32 x y).cut t = (t % 2) * 2 ^ 31 + 0x7f800000 + 1 + (t / 2) % (2 ^ 23 - 1) := rfl
    rw [e, hw]
    generalize (t / 2) % (2 ^ 23 - 1) = m at *
    generalize t % 2 = s at *
    refine ⟨by omega, ?_⟩
    have hs : Ieee.single.signWeight = 2147483648 := by decide
    have hi : Ieee.single.infRung = 2139095040 := by decide
    have hbn : Ieee.single.binade = 8388608 := by decide
    simp only [FloatKind.decode, FloatKind.format, Ieee.Format.read, hs, hi, hbn]
    have e2 : (s * 2 ^ 31 + 0x7f800000 + 1 + m) % 2147483648 = 2139095041 + m := by omega
    rw [e2, if_neg (by omega), if_neg (by omega), if_neg (by omega)]
    rfl
  · have h1 : (t / 2) % (2 ^ 52 - 1) < 2 ^ 52 - 1 := Nat.mod_lt _ (by decide)
    have h2 : t % 2 < 2 := Nat.mod_lt _ (by decide)
    have hw : FloatKind.f64.format.width = 64 := rfl
    have e : (Question.nanBits .f64 x y).cut t = (t % 2) * 2 ^ 63 + 0x7ff0000000000000 + 1 + (t / 2) % (2 ^ 52 - 1) := rfl
    rw [e, hw]
    generalize (t / 2) % (2 ^ 52 - 1) = m at *
    generalize t % 2 = s at *
    refine ⟨by omega, ?_⟩
    have hs : Ieee.double.signWeight = 9223372036854775808 := by decide
    have hi : Ieee.double.infRung = 9218868437227405312 := by decide
    have hbn : Ieee.double.binade = 4503599627370496 := by decide
    simp only [FloatKind.decode, FloatKind.format, Ieee.Format.read, hs, hi, hbn]
    have e2 : (s * 2 ^ 63 + 0x7ff0000000000000 + 1 + m) % 9223372036854775808 = 9218868437227405313 + m := by omega
    rw [e2, if_neg (by omega), if_neg (by omega), if_neg (by omega)]
    rfl

theorem float_res {k : FloatKind} {x y : Nat} {r : Option Nat} (hr : ∀ b, r = some b → b < 2 ^ k.format.width) (C : Ctx) (P : Program) (w : World) {H : Heap} (hh : HRel C H w) (s : Sem Value)
    (hs : ∀ b, r = some b → s.run P w = .ok (.float k b) w) (hn : r = none → s.run P w = .ok (.float k ((Question.nanBits k x y).cut (w.tape w.drawn (.nanBits k x y)))) w.drew) :
    ∃ z w', s.run P w = .ok z w' ∧ Rel C (.fl k (r.getD (nanMark k))) z ∧ HRel C H w' ∧ Step C w C w' := by
  cases r with
  | some b => exact ⟨_, _, hs b rfl, by simp [Rel, hr b rfl], hh, .refl C w⟩
  | none =>
    refine ⟨_, _, hn rfl, ?_, hh.drew, .drew C w⟩
    obtain ⟨h1, h2⟩ := nan_cut k x y (w.tape w.drawn (.nanBits k x y))
    simp only [Rel, Option.getD_none]
    exact .inr ⟨nanMark_le k, nanMark_nan k, _, h1, rfl, h2⟩

/-- What an operation that leaves the boxes alone owes. -/
def Ans (C : Ctx) (H : Heap) (P : Program) (w : World) (s : Sem Value) (v : V) : Prop :=
  ∃ x w' C', s.run P w = .ok x w' ∧ Rel C' v x ∧ HRel C' H w' ∧ Step C w C' w'

theorem Ans.pure {C : Ctx} {H : Heap} {P : Program} {w : World} {s : Sem Value} {v : V} {x : Value} (hh : HRel C H w) (h : s.run P w = .ok x w) (hr : Rel C v x) : Ans C H P w s v :=
  ⟨x, w, C, h, hr, hh, .refl C w⟩

theorem Ans.bool {C : Ctx} {H : Heap} {P : Program} {w : World} {s : Sem Value} (hh : HRel C H w) (c : Bool) (h : s.run P w = .ok (.bool c) w) : Ans C H P w s (.bool c) :=
  .pure hh h (by simp only [Rel])

theorem binF_run {P : Program} {op : BinOp} {k : FloatKind} {a b a' b' : Nat} {v : V} {C : Ctx} {H : Heap} (ty : TypeId) {w : World} (hh : HRel C H w) (ha : FEq k a a') (hb : FEq k b b') (h : binF op k a b = some v) :
    Ans C H P w (binOp op ty (.float k a') (.float k b')) v := by
  have ho := ha.order hb
  obtain ⟨h1, h2, h3, h4⟩ := ha.arith hb
  cases op <;> simp only [binF, Option.some.injEq, reduceCtorEq] at h <;> subst h
  case add =>
    rw [← h1]
    obtain ⟨z, w', e1, e2, e3, e4⟩ := float_res (k := k) (x := a') (y := b') (r := k.format.add a' b') (fun b hb => k.format.add_lt hb) C P w hh (binOp .add ty (.float k a') (.float k b'))
      (fun b hb => by simp [binOp, Op.floatArith, hb]) (fun hb => by simp [binOp, Op.floatArith, hb, Question.forced])
    exact ⟨z, w', C, e1, e2, e3, e4⟩
  case sub =>
    rw [← h2]
    obtain ⟨z, w', e1, e2, e3, e4⟩ := float_res (k := k) (x := a') (y := b') (r := k.format.sub a' b') (fun b hb => k.format.sub_lt hb) C P w hh (binOp .sub ty (.float k a') (.float k b'))
      (fun b hb => by simp [binOp, Op.floatArith, hb]) (fun hb => by simp [binOp, Op.floatArith, hb, Question.forced])
    exact ⟨z, w', C, e1, e2, e3, e4⟩
  case mul =>
    rw [← h3]
    obtain ⟨z, w', e1, e2, e3, e4⟩ := float_res (k := k) (x := a') (y := b') (r := k.format.mul a' b') (fun b hb => k.format.mul_lt hb) C P w hh (binOp .mul ty (.float k a') (.float k b'))
      (fun b hb => by simp [binOp, Op.floatArith, hb]) (fun hb => by simp [binOp, Op.floatArith, hb, Question.forced])
    exact ⟨z, w', C, e1, e2, e3, e4⟩
  case quo =>
    rw [← h4]
    obtain ⟨z, w', e1, e2, e3, e4⟩ := float_res (k := k) (x := a') (y := b') (r := k.format.div a' b') (fun b hb => k.format.div_lt hb) C P w hh (binOp .quo ty (.float k a') (.float k b'))
      (fun b hb => by simp [binOp, Op.floatArith, hb]) (fun hb => by simp [binOp, Op.floatArith, hb, Question.forced])
    exact ⟨z, w', C, e1, e2, e3, e4⟩
  all_goals
    exact Ans.bool hh _ (by simp [binOp, Op.floatCmp, ho])

theorem binS_run {P : Program} {op : BinOp} {a b : ByteArray} {v : V} (C : Ctx) (ty : TypeId) (w : World) (h : binS op a b = some v) :
    ∃ x, (binOp op ty (.string a) (.string b)).run P w = .ok x w ∧ Rel C v x := by
  cases op <;> simp only [binS, Option.some.injEq, reduceCtorEq] at h
  case add =>
    split at h
    · rename_i hl
      cases h
      simp only [Rel]
      refine ⟨_, ?_, rfl⟩
      have : ¬ (((a.size + b.size : Nat) : Int) > IntKind.i64.max) := by
        have : IntKind.i64.max = 9223372036854775807 := by decide
        rw [this]; omega
      simp only [binOp, Op.stringOp, this, if_false, Sem.run_pure]
    · cases h
  all_goals
    subst h
    simp only [Rel]
    exact ⟨_, by simp [binOp, Op.stringOp], rfl⟩

theorem neg_lt {k : FloatKind} {b : Nat} (h : b < 2 ^ k.format.width) : Op.negFloat k b < 2 ^ k.format.width := by
  unfold Op.negFloat
  exact Nat.xor_lt_two_pow h (Nat.pow_lt_pow_right (by omega) (by unfold Ieee.Format.width; omega))

theorem neg_ge {k : FloatKind} {b : Nat} (h : 2 ^ k.format.width ≤ b) : 2 ^ k.format.width ≤ Op.negFloat k b := by
  unfold Op.negFloat
  refine Nat.le_of_not_lt fun hl => ?_
  have h2 : 2 ^ (k.format.exponentBits + k.format.fractionBits) < 2 ^ k.format.width := Nat.pow_lt_pow_right (by omega) (by unfold Ieee.Format.width; omega)
  have := Nat.xor_lt_two_pow hl h2
  rw [Nat.xor_assoc, Nat.xor_self, Nat.xor_zero] at this
  omega

theorem neg_nan (k : FloatKind) (b : Nat) : (k.decode (Op.negFloat k b)).isNaN = (k.decode b).isNaN := by
  have key : (Op.negFloat k b) % k.format.signWeight = b % k.format.signWeight := by
    unfold Op.negFloat Ieee.Format.signWeight
    rw [Nat.xor_mod_two_pow, Nat.mod_self, Nat.xor_zero]
  simp only [FloatKind.decode, Ieee.Format.read, key]
  split
  · rfl
  · split
    · rfl
    · split <;> rfl

theorem un_run {P : Program} {op : UnOp} {v r : V} {x : Value} (C : Ctx) (w : World) (hx : Rel C v x) (h : un op v = some r) :
    ∃ y, (Op.unary op x).run P w = .ok y w ∧ Rel C r y := by
  cases op <;> cases v <;> simp only [un, Option.some.injEq, reduceCtorEq] at h
  case neg.int k n =>
    simp only [Rel] at hx
    subst hx h
    simp only [Rel]
    exact ⟨_, by simp [Op.unary, Op.intArith], rfl⟩
  case xor.int k n =>
    simp only [Rel] at hx
    subst hx h
    simp only [Rel]
    exact ⟨_, by simp [Op.unary, Op.intBits], rfl⟩
  case not.bool b =>
    simp only [Rel] at hx
    subst hx h
    simp only [Rel]
    exact ⟨_, by simp [Op.unary], rfl⟩
  case neg.fl k b =>
    obtain ⟨b', rfl, hb⟩ := hx.fl
    subst h
    refine ⟨_, rfl, ?_⟩
    simp only [Rel] at hx ⊢
    rcases hx with ⟨h1, h2⟩ | ⟨h1, h2, b'', h3, h4, h5⟩
    · cases h2
      exact .inl ⟨neg_lt h1, rfl⟩
    · cases h4
      exact .inr ⟨neg_ge h1, by rw [neg_nan]; exact h2, _, neg_lt h3, rfl, by rw [neg_nan]; exact h5⟩

end Ev
end Go.Proofs.YthpfimildcbgmaaDoor
