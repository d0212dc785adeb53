/-
Regions that draw their order.
-/
import Derived.Test.YthpfimildcbgmaaDoorEvReg
namespace Go.Proofs.YthpfimildcbgmaaDoor
namespace Ev
set_option linter.all false
open Go

theorem args_congr {E : Env} {t t' : List V} {xs : Array Operand} (h : ∀ x ∈ xs, arg E t x = arg E t' x) : args E t xs = args E t' xs := by
  unfold args
  exact List.map_congr_left fun x hx => h x (by simpa using hx)

theorem evRd_congr {E : Env} {f : Nat} {t t' : List V} {o : Oper} {H : Heap} (h : ∀ x ∈ o.op.operands, arg E t x = arg E t' x) : evRd E f t o H = evRd E f t' o H := by
  obtain ⟨dst, op, type, pos, after, guard⟩ := o
  have pairs : ∀ ps : Array (Nat × Operand), (∀ x ∈ ps.map (·.2), arg E t x = arg E t' x) →
      (ps.toList.map fun p => (p.1, arg E t p.2)) = (ps.toList.map fun p => (p.1, arg E t' p.2)) := fun ps hp =>
    List.map_congr_left fun p hm => by
      obtain ⟨i, x⟩ := p
      simp only [hp x (Array.mem_map.2 ⟨(i, x), by simpa using hm, rfl⟩)]
  cases op <;> simp only [Op.operands] at h <;> simp only [evRd]
  case build T ps => rw [pairs ps fun x hx => h x (by simpa using hx)]
  case buildSlice T n ps => rw [pairs ps fun x hx => h x (by simpa using hx)]
  case makeFunc fn first captured =>
    cases fn <;> try rfl
    simp only
    rw [args_congr (xs := first) fun x hx => h x (by simp [hx]), args_congr (xs := captured) fun x hx => h x (by simp [hx])]
  case call c =>
    obtain ⟨callee, cargs, ctys⟩ := c
    have hargs : args E t cargs = args E t' cargs := args_congr fun x hx => h x (by simp [Call.operands, hx])
    cases callee with
    | builtin b => cases b <;> simp only [hargs]
    | value g => rfl
    | invoke r m => rfl
  case slice T x lo hi mx => cases lo <;> cases hi <;> cases mx <;> simp_all
  all_goals (first | rfl | (simp_all; done))

theorem evEff_congr {E : Env} {c : Calls_} {f : Nat} {t t' : List V} {o : Oper} {H : Heap} (h : ∀ x ∈ o.op.operands, arg E t x = arg E t' x) : evEff E c f t o H = evEff E c f t' o H := by
  obtain ⟨dst, op, type, pos, after, guard⟩ := o
  cases op <;> simp only [Op.operands] at h <;> simp only [evEff]
  case call q =>
    obtain ⟨callee, cargs, ctys⟩ := q
    have hargs : args E t cargs = args E t' cargs := args_congr fun x hx => h x (by simp [Call.operands, hx])
    cases callee with
    | builtin b => cases b <;> simp only [hargs]
    | value g =>
      have hg : arg E t g = arg E t' g := h g (by simp [Call.operands])
      simp only [hargs, hg]
    | invoke r m => rfl
  case slice T x lo hi mx => cases lo <;> cases hi <;> cases mx <;> simp_all
  all_goals (first | rfl | (simp_all; done))

def guardB (ops : Array Oper) (t : List V) (g : Option (Nat × Bool)) : Option Bool :=
  match g with
  | none => some true
  | some (j, want) => (match ((ops[j]?).bind (·.dst)).map fun d => t.getD d .wild with
    | some (.bool b) => some (b == want)
    | some .undef => some false
    | _ => none)

theorem guardV_B {ops : Array Oper} {t : List V} {g : Option (Nat × Bool)} {go pass : Res} {res : V × Heap} (h : guardV ops t g go pass = some res) : (guardB ops t g = some true ∧ go = some res) ∨ (guardB ops t g = some false ∧ pass = some res) := by
  unfold guardV at h
  unfold guardB
  split at h
  · exact .inl ⟨rfl, h⟩
  · rename_i j want
    simp only
    split at h
    · rename_i b hb
      rw [hb]
      cases want <;> cases b <;> simp_all
    · rename_i hb
      rw [hb]
      exact .inr ⟨rfl, h⟩
    · cases h

theorem guardB_run {C : Ctx} {ops : Array Oper} {t : List V} {a : Act} {o : Oper} {b : Bool} (ht : TRel C t a.tmps) (h : guardB ops t o.guard = some b) : Region.wanted o (yielded ops a.tmps) = b := by
  have key : guardV ops t o.guard (if b then some (.undef, []) else none) (if b then none else some (.undef, [])) = some (.undef, []) := by
    unfold guardB at h
    unfold guardV
    split at h
    · rename_i hg; cases h; rw [hg]; rfl
    · rename_i j want hg
      rw [hg]
      simp only
      split at h
      · rename_i b' hb
        rw [hb]
        cases h
        cases want <;> cases b' <;> rfl
      · rename_i hb
        rw [hb]
        cases h
        rfl
      · cases h
  rcases guard_run ht key with ⟨h1, h2⟩ | ⟨h1, h2⟩
  · cases b
    · simp at h2
    · exact h1
  · cases b
    · exact h1
    · simp at h2

theorem guardB_congr {ops : Array Oper} {t t' : List V} {g : Option (Nat × Bool)} (h : ∀ j w d, g = some (j, w) → (ops[j]?).bind (·.dst) = some d → t.getD d .wild = t'.getD d .wild) : guardB ops t g = guardB ops t' g := by
  unfold guardB
  split
  · rfl
  · rename_i j want
    cases hd : (ops[j]?).bind (·.dst) with
    | none => rfl
    | some d =>
      simp only [Option.map_some]
      rw [h j want d rfl hd]

theorem evRdD_congr {E : Env} {f : Nat} {t t' : List V} {o : Oper} {H : Heap} (h : ∀ x ∈ o.op.operands, arg E t x = arg E t' x) : evRdD E f t o H = evRdD E f t' o H := by
  unfold evRdD
  rw [evRd_congr h]

theorem evRdD_some {E : Env} {f : Nat} {t : List V} {o : Oper} {H : Heap} {v : V} (h : evRdD E f t o H = some v) : ∃ u, evRd E f t o H = some u ∧ (v = u ∨ v = .wild) := by
  unfold evRdD at h
  cases hb : blindB (E.blind f) o.dst with
  | true =>
    rw [hb] at h
    obtain ⟨u, h1, h2⟩ := Option.map_eq_some_iff.1 (show (evRd E f t o H).map (fun _ => V.wild) = some v from h)
    exact ⟨u, h1, .inr h2.symm⟩
  | false =>
    rw [hb] at h
    exact ⟨v, h, .inl rfl⟩

/-! ### What the run in the text's order was -/

structure Tr where
  tm : List V
  hp : Heap
  val : V
  want : Bool

def bfT (bf : Array Nat) (i j : Nat) : Bool := (bf.getD i 0).testBit j

structure TraceOk (E : Env) (c : Calls_) (f : Nat) (ops : Array Oper) (bf : Array Nat) (i : Nat) (pend : List (Nat × (Heap → Option V) × V)) (past : List (Nat × Heap)) (T : Nat → Tr) : Prop where
  guard : ∀ j o, i ≤ j → ops[j]? = some o → guardB ops (T j).tm o.guard = some (T j).want
  next : ∀ j o, i ≤ j → ops[j]? = some o → (T (j + 1)).tm = putV (T j).tm o.dst (T j).val
  skip : ∀ j o, i ≤ j → ops[j]? = some o → (T j).want = false → (T j).val = .undef ∧ (T (j + 1)).hp = (T j).hp
  eff : ∀ j o, i ≤ j → ops[j]? = some o → (T j).want = true → isEff E f o = true → evEff E c f (T j).tm o (T j).hp = some ((T j).val, (T (j + 1)).hp)
  rd : ∀ j o, i ≤ j → ops[j]? = some o → (T j).want = true → isEff E f o = false → evRdD E f (T j).tm o (T j).hp = some (T j).val ∧ (T (j + 1)).hp = (T j).hp
  past : ∀ j o, i ≤ j → ops[j]? = some o → (T j).want = true → isEff E f o = false → ∀ p ∈ past, bfT bf j p.1 = false → evRdD E f (T j).tm o p.2 = some (T j).val
  pend : ∀ j o, i ≤ j → ops[j]? = some o → (T j).want = true → isEff E f o = true → ∀ p ∈ pend, bfT bf j p.1 = false → p.2.1 (T (j + 1)).hp = some p.2.2
  past' : ∀ j o, i ≤ j → ops[j]? = some o → (T j).want = true → isEff E f o = false → ∀ k u, i ≤ k → k < j → ops[k]? = some u → (T k).want = true → isEff E f u = true → bfT bf j k = false → evRdD E f (T j).tm o (T k).hp = some (T j).val
  pend' : ∀ j o, i ≤ j → ops[j]? = some o → (T j).want = true → isEff E f o = true → ∀ k u, i ≤ k → k < j → ops[k]? = some u → (T k).want = true → isEff E f u = false → bfT bf j k = false → evRdD E f (T k).tm u (T (j + 1)).hp = some (T k).val

theorem chk_some {p : Prop} {k : Res} {res : V × Heap} (h : chk p k = some res) : p ∧ k = some res := by
  unfold chk at h
  split at h
  · rename_i hp; exact ⟨hp, h⟩
  · cases h

theorem chks_some {k : Res} {res : V × Heap} : ∀ (ps : List Prop), chks ps k = some res → (∀ p ∈ ps, p) ∧ k = some res
  | [], h => ⟨by simp, h⟩
  | p :: ps, h => by
    obtain ⟨h1, h2⟩ := chk_some (show chk p (chks ps k) = some res from h)
    obtain ⟨h3, h4⟩ := chks_some ps h2
    refine ⟨fun q hq => ?_, h4⟩
    rcases List.mem_cons.1 hq with rfl | hq
    · exact h1
    · exact h3 q hq

/-- One record ahead of a trace. -/
def Tr.cons (i : Nat) (x : Tr) (T : Nat → Tr) : Nat → Tr := fun j => if j = i then x else T j

theorem Tr.cons_self (i : Nat) (x : Tr) (T : Nat → Tr) : Tr.cons i x T i = x := by simp [Tr.cons]
theorem Tr.cons_gt {i j : Nat} (x : Tr) (T : Nat → Tr) (h : i < j) : Tr.cons i x T j = T j := by unfold Tr.cons; rw [if_neg (by omega)]

theorem evDraw_trace {E : Env} {c : Calls_} {f : Nat} {ops : Array Oper} {bf : Array Nat} {K : List V → Heap → Res} {res : V × Heap} :
    ∀ (r : List Oper) (i : Nat) (pend : List (Nat × (Heap → Option V) × V)) (past : List (Nat × Heap)) (t : List V) (H : Heap), ops.toList.drop i = r → evDraw E c f ops bf i r pend past t H K = some res →
      ∃ T : Nat → Tr, (T i).tm = t ∧ (T i).hp = H ∧ K (T (i + r.length)).tm (T (i + r.length)).hp = some res ∧ TraceOk E c f ops bf i pend past T
  | [], i, pend, past, t, H, hr, h => by
    have hn : ∀ j o, i ≤ j → ops[j]? = some o → False := fun j o hj ho => by
      have h1 : ops.toList.length ≤ i := List.drop_eq_nil_iff.1 hr
      have := (Array.getElem?_eq_some_iff.1 ho).1
      simp at h1
      omega
    exact ⟨fun _ => ⟨t, H, .undef, false⟩, rfl, rfl, h, fun j o hj ho => (hn j o hj ho).elim, fun j o hj ho => (hn j o hj ho).elim, fun j o hj ho => (hn j o hj ho).elim, fun j o hj ho => (hn j o hj ho).elim, fun j o hj ho => (hn j o hj ho).elim, fun j o hj ho => (hn j o hj ho).elim, fun j o hj ho => (hn j o hj ho).elim, fun j o hj ho => (hn j o hj ho).elim, fun j o hj ho => (hn j o hj ho).elim⟩
  | o :: r, i, pend, past, t, H, hr, h => by
    have ho : ops[i]? = some o := by
      have : (ops.toList.drop i)[0]? = some o := by rw [hr]; rfl
      rw [List.getElem?_drop] at this
      simpa using this
    have hr' : ops.toList.drop (i + 1) = r := by
      rw [← List.drop_drop, hr]; rfl
    have hlen : i + (o :: r).length = i + 1 + r.length := by simp; omega
    have split : ∀ {j : Nat}, i ≤ j → j = i ∨ i + 1 ≤ j := fun h => by omega
    simp only [evDraw] at h
    rcases guardV_B h with ⟨hg, h⟩ | ⟨hg, h⟩
    · split at h
      · -- it acts
        rename_i he
        obtain ⟨⟨v, H'⟩, h1, h⟩ := Option.bind_eq_some_iff.1 h
        obtain ⟨h2, h⟩ := chks_some _ h
        obtain ⟨T, q1, q2, q3, q4⟩ := evDraw_trace r (i + 1) _ _ _ _ hr' h
        have tail : ∀ j, i + 1 ≤ j → Tr.cons i ⟨t, H, v, true⟩ T j = T j := fun j hj => Tr.cons_gt _ _ (by omega)
        have self : Tr.cons i ⟨t, H, v, true⟩ T i = ⟨t, H, v, true⟩ := Tr.cons_self _ _ _
        refine ⟨Tr.cons i ⟨t, H, v, true⟩ T, by rw [self], by rw [self], by rw [hlen, tail _ (by omega)]; exact q3, ?_, ?_, ?_, ?_, ?_, ?_, ?_, ?_, ?_⟩
        · intro j u hj hu
          rcases split hj with rfl | hj
          · rw [ho] at hu; cases hu; rw [self]; exact hg
          · rw [tail j hj]; exact q4.guard j u hj hu
        · intro j u hj hu
          rw [tail (j + 1) (by omega)]
          rcases split hj with rfl | hj
          · rw [ho] at hu; cases hu; rw [self, q1]
          · rw [tail j hj]; exact q4.next j u hj hu
        · intro j u hj hu hw
          rw [tail (j + 1) (by omega)]
          rcases split hj with rfl | hj
          · rw [self] at hw; cases hw
          · rw [tail j hj] at hw ⊢; exact q4.skip j u hj hu hw
        · intro j u hj hu hw hf
          rw [tail (j + 1) (by omega)]
          rcases split hj with rfl | hj
          · rw [ho] at hu; cases hu; rw [self, q2]; exact h1
          · rw [tail j hj] at hw ⊢; exact q4.eff j u hj hu hw hf
        · intro j u hj hu hw hf
          rw [tail (j + 1) (by omega)]
          rcases split hj with rfl | hj
          · rw [ho] at hu; cases hu; rw [he] at hf; cases hf
          · rw [tail j hj] at hw ⊢; exact q4.rd j u hj hu hw hf
        · intro j u hj hu hw hf p hp hb
          rcases split hj with rfl | hj
          · rw [ho] at hu; cases hu; rw [he] at hf; cases hf
          · rw [tail j hj] at hw ⊢; exact q4.past j u hj hu hw hf p (.tail _ hp) hb
        · intro j u hj hu hw hf p hp hb
          rw [tail (j + 1) (by omega)]
          rcases split hj with rfl | hj
          · rw [q2]
            exact h2 _ (List.mem_map.2 ⟨p, List.mem_filter.2 ⟨hp, by simpa [bfT] using hb⟩, rfl⟩)
          · rw [tail j hj] at hw; exact q4.pend j u hj hu hw hf p hp hb
        · intro j u hj hu hw hf k x hk hkj hx hwk hfk hb
          rcases split hj with rfl | hj
          · rw [ho] at hu; cases hu; rw [he] at hf; cases hf
          · rw [tail j hj] at hw ⊢
            rcases split hk with rfl | hk
            · rw [self]
              exact q4.past j u hj hu hw hf (k, H) (.head _) hb
            · rw [tail k hk] at hwk ⊢
              exact q4.past' j u hj hu hw hf k x hk hkj hx hwk hfk hb
        · intro j u hj hu hw hf k x hk hkj hx hwk hfk hb
          rw [tail (j + 1) (by omega)]
          rcases split hj with rfl | hj
          · omega
          · rw [tail j hj] at hw
            rcases split hk with rfl | hk
            · rw [ho] at hx; cases hx; rw [he] at hfk; cases hfk
            · rw [tail k hk] at hwk ⊢
              exact q4.pend' j u hj hu hw hf k x hk hkj hx hwk hfk hb
      · -- it looks
        rename_i he
        obtain ⟨v, h1, h⟩ := Option.bind_eq_some_iff.1 h
        obtain ⟨h2, h⟩ := chks_some _ h
        obtain ⟨T, q1, q2, q3, q4⟩ := evDraw_trace r (i + 1) _ _ _ _ hr' h
        have tail : ∀ j, i + 1 ≤ j → Tr.cons i ⟨t, H, v, true⟩ T j = T j := fun j hj => Tr.cons_gt _ _ (by omega)
        have self : Tr.cons i ⟨t, H, v, true⟩ T i = ⟨t, H, v, true⟩ := Tr.cons_self _ _ _
        refine ⟨Tr.cons i ⟨t, H, v, true⟩ T, by rw [self], by rw [self], by rw [hlen, tail _ (by omega)]; exact q3, ?_, ?_, ?_, ?_, ?_, ?_, ?_, ?_, ?_⟩
        · intro j u hj hu
          rcases split hj with rfl | hj
          · rw [ho] at hu; cases hu; rw [self]; exact hg
          · rw [tail j hj]; exact q4.guard j u hj hu
        · intro j u hj hu
          rw [tail (j + 1) (by omega)]
          rcases split hj with rfl | hj
          · rw [ho] at hu; cases hu; rw [self, q1]
          · rw [tail j hj]; exact q4.next j u hj hu
        · intro j u hj hu hw
          rw [tail (j + 1) (by omega)]
          rcases split hj with rfl | hj
          · rw [self] at hw; cases hw
          · rw [tail j hj] at hw ⊢; exact q4.skip j u hj hu hw
        · intro j u hj hu hw hf
          rw [tail (j + 1) (by omega)]
          rcases split hj with rfl | hj
          · rw [ho] at hu; cases hu; rw [he] at hf; cases hf
          · rw [tail j hj] at hw ⊢; exact q4.eff j u hj hu hw hf
        · intro j u hj hu hw hf
          rw [tail (j + 1) (by omega)]
          rcases split hj with rfl | hj
          · rw [ho] at hu; cases hu; rw [self, q2]; exact ⟨h1, rfl⟩
          · rw [tail j hj] at hw ⊢; exact q4.rd j u hj hu hw hf
        · intro j u hj hu hw hf p hp hb
          rcases split hj with rfl | hj
          · rw [ho] at hu; cases hu; rw [self]
            exact h2 _ (List.mem_map.2 ⟨p, List.mem_filter.2 ⟨hp, by simpa [bfT] using hb⟩, rfl⟩)
          · rw [tail j hj] at hw ⊢; exact q4.past j u hj hu hw hf p hp hb
        · intro j u hj hu hw hf p hp hb
          rw [tail (j + 1) (by omega)]
          rcases split hj with rfl | hj
          · rw [ho] at hu; cases hu; rw [he] at hf; cases hf
          · rw [tail j hj] at hw; exact q4.pend j u hj hu hw hf p (.tail _ hp) hb
        · intro j u hj hu hw hf k x hk hkj hx hwk hfk hb
          rcases split hj with rfl | hj
          · omega
          · rw [tail j hj] at hw ⊢
            rcases split hk with rfl | hk
            · rw [ho] at hx; cases hx; rw [he] at hfk; cases hfk
            · rw [tail k hk] at hwk ⊢
              exact q4.past' j u hj hu hw hf k x hk hkj hx hwk hfk hb
        · intro j u hj hu hw hf k x hk hkj hx hwk hfk hb
          rw [tail (j + 1) (by omega)]
          rcases split hj with rfl | hj
          · omega
          · rw [tail j hj] at hw
            rcases split hk with rfl | hk
            · rw [ho] at hx; cases hx
              rw [self]
              exact q4.pend j u hj hu hw hf (k, evRdD E f t o, v) (.head _) hb
            · rw [tail k hk] at hwk ⊢
              exact q4.pend' j u hj hu hw hf k x hk hkj hx hwk hfk hb
    · -- it is passed over
      obtain ⟨T, q1, q2, q3, q4⟩ := evDraw_trace r (i + 1) _ _ _ _ hr' h
      have tail : ∀ j, i + 1 ≤ j → Tr.cons i ⟨t, H, .undef, false⟩ T j = T j := fun j hj => Tr.cons_gt _ _ (by omega)
      have self : Tr.cons i ⟨t, H, .undef, false⟩ T i = ⟨t, H, .undef, false⟩ := Tr.cons_self _ _ _
      refine ⟨Tr.cons i ⟨t, H, .undef, false⟩ T, by rw [self], by rw [self], by rw [hlen, tail _ (by omega)]; exact q3, ?_, ?_, ?_, ?_, ?_, ?_, ?_, ?_, ?_⟩
      · intro j u hj hu
        rcases split hj with rfl | hj
        · rw [ho] at hu; cases hu; rw [self]; exact hg
        · rw [tail j hj]; exact q4.guard j u hj hu
      · intro j u hj hu
        rw [tail (j + 1) (by omega)]
        rcases split hj with rfl | hj
        · rw [ho] at hu; cases hu; rw [self, q1]
        · rw [tail j hj]; exact q4.next j u hj hu
      · intro j u hj hu hw
        rw [tail (j + 1) (by omega)]
        rcases split hj with rfl | hj
        · rw [self, q2]; exact ⟨rfl, rfl⟩
        · rw [tail j hj] at hw ⊢; exact q4.skip j u hj hu hw
      · intro j u hj hu hw hf
        rw [tail (j + 1) (by omega)]
        rcases split hj with rfl | hj
        · rw [self] at hw; cases hw
        · rw [tail j hj] at hw ⊢; exact q4.eff j u hj hu hw hf
      · intro j u hj hu hw hf
        rw [tail (j + 1) (by omega)]
        rcases split hj with rfl | hj
        · rw [self] at hw; cases hw
        · rw [tail j hj] at hw ⊢; exact q4.rd j u hj hu hw hf
      · intro j u hj hu hw hf p hp hb
        rcases split hj with rfl | hj
        · rw [self] at hw; cases hw
        · rw [tail j hj] at hw ⊢; exact q4.past j u hj hu hw hf p hp hb
      · intro j u hj hu hw hf p hp hb
        rw [tail (j + 1) (by omega)]
        rcases split hj with rfl | hj
        · rw [self] at hw; cases hw
        · rw [tail j hj] at hw; exact q4.pend j u hj hu hw hf p hp hb
      · intro j u hj hu hw hf k x hk hkj hx hwk hfk hb
        rcases split hj with rfl | hj
        · omega
        · rw [tail j hj] at hw ⊢
          rcases split hk with rfl | hk
          · rw [self] at hwk; cases hwk
          · rw [tail k hk] at hwk ⊢
            exact q4.past' j u hj hu hw hf k x hk hkj hx hwk hfk hb
      · intro j u hj hu hw hf k x hk hkj hx hwk hfk hb
        rw [tail (j + 1) (by omega)]
        rcases split hj with rfl | hj
        · omega
        · rw [tail j hj] at hw
          rcases split hk with rfl | hk
          · rw [self] at hwk; cases hwk
          · rw [tail k hk] at hwk ⊢
            exact q4.pend' j u hj hu hw hf k x hk hkj hx hwk hfk hb

end Ev
end Go.Proofs.YthpfimildcbgmaaDoor
