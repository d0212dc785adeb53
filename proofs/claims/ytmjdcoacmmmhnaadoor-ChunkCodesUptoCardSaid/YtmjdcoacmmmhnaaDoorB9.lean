/-
Decode: a point. Decode: the second point. Decode: a later point.
-/
import Derived.Test.YtmjdcoacmmmhnaaDoorB6
namespace Go.Proofs.YtmjdcoacmmmhnaaDoor
open Go Ev
set_option linter.all false
set_option maxHeartbeats 4000000
set_option maxRecDepth 5000
attribute [local irreducible] codeL condL loopL callL callV evOps evDraw rdK effK wayK oneK wayD oneD rdD effD chks chkB res


attribute [local irreducible] RB

structure DOk (L : List Int) (d : DS) : Prop where
  a : -9223372036854775808 ≤ d.at_ ∧ d.at_ ≤ 9223372036854775807
  s : 0 ≤ d.step ∧ d.step < 18446744073709551616
  v : d.value < 2 ^ 64
  f : d.short L = false → FrR d.fr
  p : d.p ≤ 200 * d.i
theorem sh_false {L : List Int} {d : DS} (h : d.short L = false) : d.bad = false ∧ d.p ≤ L.length := by
  unfold DS.short at h
  rw [Bool.or_eq_false_iff] at h
  exact ⟨h.1, by simpa using h.2⟩
theorem decPt_ok {L : List Int} (hL : Bits01 L) {d : DS} (h : DOk L d) (hs : d.short L = false) : DOk L (decPt L d) := by
  obtain ⟨h1, h2, h3, k4, h5⟩ := h
  have h4 := k4 hs
  clear k4
  obtain ⟨hb, hp⟩ := sh_false hs
  clear hs
  obtain ⟨i, p, at_, st, v, f, bad⟩ := d
  simp only at h1 h2 h3 h4 h5 hb hp
  subst hb
  have hv := varP_bd L hL 10 0 0 p rfl (by decide) (by intro _; decide) (by decide)
  have hg := varP_ge L 10 0 0 p
  obtain ⟨x0, x1⟩ := gp_lt hL (varP L 10 0 0 p).2.1 64
  have e64 : (2 : Int) ^ 64 = 18446744073709551616 := by decide
  match i with
  | 0 =>
    refine ⟨?_, h2, ?_, fun _ => h4, ?_⟩
    · show -9223372036854775808 ≤ zag (varP L 10 0 0 p).1 ∧ zag (varP L 10 0 0 p).1 ≤ 9223372036854775807
      unfold zag
      split <;> omega
    · show (gp L (varP L 10 0 0 p).2.1 64).toNat < 2 ^ 64
      omega
    · show (varP L 10 0 0 p).2.1 + 64 ≤ 200 * 1
      omega
  | 1 =>
    have hx := xorP_bd L hL (varP L 10 0 0 p).2.1 f h4
    have hq := xorP_ge L hL (varP L 10 0 0 p).2.1 f
    refine ⟨?_, hv, ?_, fun hh => ?_, ?_⟩
    · show -9223372036854775808 ≤ wrapS (at_ + (varP L 10 0 0 p).1) ∧ wrapS (at_ + (varP L 10 0 0 p).1) ≤ 9223372036854775807
      unfold wrapS
      omega
    · show v ^^^ (xorP L (varP L 10 0 0 p).2.1 f).1.toNat < 2 ^ 64
      exact Nat.xor_lt_two_pow h3 (by omega)
    · have := (sh_false hh).1
      have h6 : (false || (varP L 10 0 0 p).2.2 || (xorP L (varP L 10 0 0 p).2.1 f).2.2.2) = false := this
      rw [Bool.or_eq_false_iff] at h6
      exact xorP_frR L hL _ f h4 h6.2
    · show (xorP L (varP L 10 0 0 p).2.1 f).2.1 ≤ 200 * 2
      omega
  | i + 2 =>
    have hx := xorP_bd L hL (difP L p).2 f h4
    have hq := xorP_ge L hL (difP L p).2 f
    have hd := difP_ge L p
    refine ⟨?_, ?_, ?_, fun hh => ?_, ?_⟩
    · show -9223372036854775808 ≤ wrapS (at_ + (st + (difP L p).1) % 18446744073709551616) ∧ wrapS (at_ + (st + (difP L p).1) % 18446744073709551616) ≤ 9223372036854775807
      unfold wrapS
      omega
    · show 0 ≤ (st + (difP L p).1) % 18446744073709551616 ∧ (st + (difP L p).1) % 18446744073709551616 < 18446744073709551616
      omega
    · show v ^^^ (xorP L (difP L p).2 f).1.toNat < 2 ^ 64
      exact Nat.xor_lt_two_pow h3 (by omega)
    · have := (sh_false hh).1
      have h6 : (false || (xorP L (difP L p).2 f).2.2.2) = false := this
      rw [Bool.or_eq_false_iff] at h6
      exact xorP_frR L hL _ f h4 h6.2
    · show (xorP L (difP L p).2 f).2.1 ≤ 200 * (i + 3)
      omega
/-- The row of points made so far. -/
def OutOk (H : Heap) (ov : V) (out : List (Int × Nat)) : Prop :=
  (ov = .nils ∧ out = []) ∨ (out ≠ [] ∧ ∃ r, ov = .row r out.length ∧ 0 < r ∧ r < H.length ∧ H[r]? = some ⟨encD out, 2, true, false⟩)
abbrev dot (a : Int) (v : Nat) : Box := ⟨[.int .i64 a, .fl .f64 v], 0, false, false⟩
theorem step0 (by_ : List Int) (c c2 : Bool) (b : List Int) (hby : Us8 by_) (hlen : by_.length ≤ 200000000000000) (n : Nat) (hn : 0 < n) (a : Code) (ha : loopIn Tryd.prog 11 8 = some a) (d : DS) (hd : DOk (unpack by_) d) (hs : d.short (unpack by_) = false) (hi : d.i = 0) (H : Heap) (h0 : 0 < H.length) :
    ∃ H2 ov2, 0 < List.length H2 ∧ OutOk H2 ov2 [((decPt (unpack by_) d).at_, (decPt (unpack by_) d).value)] ∧ ∀ K : Kont,
      res (loopL lore 11 a (Sl 119 .wild [(0, .sl (enc8 b) 1 c), (4, .int .i64 (n : Nat)), (5, .ptr 0 0), (6, .nils), (7, .int .u64 d.step), (8, .int .u64 (d.value : Nat)), (9, .int .i64 0)]) (RB H 0 by_ c2 (d.p : Nat) false d.fr) K) =
      res (loopL lore 11 a (Sl 119 .wild [(0, .sl (enc8 b) 1 c), (4, .int .i64 (n : Nat)), (5, .ptr 0 0), (6, ov2), (7, .int .u64 (decPt (unpack by_) d).step), (8, .int .u64 ((decPt (unpack by_) d).value : Nat)), (9, .int .i64 1)]) (RB H2 0 by_ c2 ((decPt (unpack by_) d).p : Nat) ((decPt (unpack by_) d).short (unpack by_)) (decPt (unpack by_) d).fr) K) := by
  have hk := loop_key ha
  simp only [loopIn, Tryd.func11, Tryd.f11, loopAt, Option.bind_some, codeKey, if_true, Option.some.injEq, Nat.reduceEqDiff, if_false] at ha
  obtain ⟨h1, h2, h3, h4, h5⟩ := hd
  have hL := unpack_01 by_
  have hLl := unpack_len by_
  obtain ⟨hb, hp⟩ := sh_false hs
  obtain ⟨i, p, at_, st, v, f, bad⟩ := d
  simp only at h1 h2 h3 h4 h5 hb hp hi
  subst hb hi
  have hv := varP_bd (unpack by_) hL 10 0 0 p rfl (by decide) (by intro _; decide) (by decide)
  have hg := varP_ge (unpack by_) 10 0 0 p
  have hr := fun (H' : Heap) (e : 0 < H'.length) => varR_cv H' 0 e by_ c2 hby hlen f p (by omega) false (varP (unpack by_) 10 0 0 p).1 (varP (unpack by_) 10 0 0 p).2.1 (varP (unpack by_) 10 0 0 p).2.2 rfl
  have hsh : ∀ q, q + 64 = (varP (unpack by_) 10 0 0 p).2.1 + 64 → (DS.short (unpack by_) (decPt (unpack by_) ⟨0, p, at_, st, v, f, false⟩)) = (false || decide (8 * by_.length < (varP (unpack by_) 10 0 0 p).2.1) || (varP (unpack by_) 10 0 0 p).2.2 || decide (8 * by_.length < (varP (unpack by_) 10 0 0 p).2.1 + 64)) := by
    intro q hq
    show ((false || (varP (unpack by_) 10 0 0 p).2.2) || decide ((unpack by_).length < (varP (unpack by_) 10 0 0 p).2.1 + 64)) = _
    rw [hLl]
    generalize (varP (unpack by_) 10 0 0 p).2.1 = Q
    generalize (varP (unpack by_) 10 0 0 p).2.2 = o
    by_cases g1 : 8 * by_.length < Q
    · have : 8 * by_.length < Q + 64 := by omega
      simp [g1, this]
    · simp [g1]
  have hsh := hsh _ rfl
  have hx := fun (H' : Heap) (e : 0 < H'.length) => get_n H' 0 e by_ c2 hby hlen (varP (unpack by_) 10 0 0 p).2.1 64 (by decide) (by decide) (by omega) (((varP (unpack by_) 10 0 0 p).2.1 : Nat) : Int) 64 (((varP (unpack by_) 10 0 0 p).2.1 + 64 : Nat) : Int) rfl rfl rfl (false || decide (8 * by_.length < (varP (unpack by_) 10 0 0 p).2.1) || (varP (unpack by_) 10 0 0 p).2.2) f
  obtain ⟨x0, x1⟩ := gp_lt hL (varP (unpack by_) 10 0 0 p).2.1 64
  have e64 : (2 : Int) ^ 64 = 18446744073709551616 := by decide
  obtain ⟨w, hw⟩ : ∃ w : Nat, gp (unpack by_) (varP (unpack by_) 10 0 0 p).2.1 64 = w := ⟨(gp (unpack by_) (varP (unpack by_) 10 0 0 p).2.1 64).toNat, by omega⟩
  have hdec : decPt (unpack by_) ⟨0, p, at_, st, v, f, false⟩ = ⟨1, (varP (unpack by_) 10 0 0 p).2.1 + 64, zag (varP (unpack by_) 10 0 0 p).1, st, w, f, false || (varP (unpack by_) 10 0 0 p).2.2⟩ := by
    show DS.mk 1 ((varP (unpack by_) 10 0 0 p).2.1 + 64) (zag (varP (unpack by_) 10 0 0 p).1) st (gp (unpack by_) (varP (unpack by_) 10 0 0 p).2.1 64).toNat f (false || (varP (unpack by_) 10 0 0 p).2.2) = _
    rw [hw]; rfl
  rw [hsh, hdec]
  rw [hw] at hx x0 x1
  have hfb := frombits_cv w (by omega)
  have hand := and_u64_1 hv.1 hv.2
  have hzag := zag_eq hv.1 hv.2
  rw [← Int.zero_sub] at hzag
  have hz2 : 0 ≤ (varP (unpack by_) 10 0 0 p).1 / 2 ∧ (varP (unpack by_) 10 0 0 p).1 / 2 ≤ 9223372036854775807 := by omega
  have hz3 : 0 ≤ (varP (unpack by_) 10 0 0 p).1 % 2 ∧ (varP (unpack by_) 10 0 0 p).1 % 2 ≤ 1 := by omega
  have hn0 : (0 : Int) < (n : Int) := by omega
  have hne : ¬ H.length = 0 := by omega
  have lB : ∀ b : Box, 0 < (H ++ [b]).length := fun b => by simp
  generalize (varP (unpack by_) 10 0 0 p).1 = X at *
  generalize (varP (unpack by_) 10 0 0 p).2.1 = Q at *
  generalize (varP (unpack by_) 10 0 0 p).2.2 = o at *
  have hap := fun H => appD_nils (H := H) (p := (zag X, w))
  simp only at hap
  refine ⟨H ++ [dot (zag X) w] ++ [⟨encD [(zag X, w)], 2, true, false⟩], .row (H ++ [dot (zag X) w]).length 1, by simp, Or.inr ⟨by simp, _, rfl, by simp, by simp, by simp⟩, fun K => ?_⟩
  rw [loopL_step' ha]
  repeat' (first | (refine cond_by (F := res) (fun _ => ?_) (fun _ => ?_)) | (refine wayK_by (F := res) (fun _ hb_ => ?_) (fun _ hb_ => ?_) <;> simp only [hb_]) | (refine wayK_byN (F := res) (fun _ hb_ => ?_) (fun _ hb_ => ?_) <;> simp only [hb_]) | (refine wayD_by (F := res) (fun _ hb_ => ?_) (fun _ hb_ => ?_) <;> simp only [hb_]) | (refine wayD_byN (F := res) (fun _ hb_ => ?_) (fun _ hb_ => ?_) <;> simp only [hb_]) | (refine rdK_by (F := res) (fun _ => ?_) (fun _ => ?_)) | (refine effK_by (F := res) (fun _ => ?_) (fun _ => ?_)) | (refine effK_by2 (F := res) (fun _ => ?_) (fun _ => ?_)) | (refine rdD_by (F := res) (fun _ => ?_) (fun _ => ?_)) | (refine effD_by (F := res) (fun _ => ?_) (fun _ => ?_)) | (refine effD_by2 (F := res) (fun _ => ?_) (fun _ => ?_)) | simp -implicitDefEqProofs (disch := first | omega | (simp only [List.length_append, List.length_cons, List.length_nil, List.length_drop, List.length_take]; omega)) only [evs, tys, lors, Nat.reduceAdd, Nat.reduceSub, Nat.reduceMul, Nat.reducePow, Nat.reduceBEq, Nat.reduceLT, Nat.reduceLeDiff, Nat.reduceEqDiff, Int.reduceLT, Int.reduceLE, Int.reduceEq, Int.reduceNe, Int.reduceToNat, Int.reduceAdd, Int.reduceSub, Int.reduceMul, Int.reducePow, Int.reduceDiv, Int.reduceMod, Int.reduceNeg, reduceCtorEq, codeKey, List.contains, List.elem, Ev.load, peek, pack, storeV, fieldAddr, field, cvB, hk, rb_h h0, hn0, rb_app h0, rb_len, hr _ (lB _), rb_get hne, rb_set hne, new_get, new_set, hx _ (lB _), hand, hzag, hfb, srcD_sl, hap, elem22, decide_true, decide_false, shr_u64])
  all_goals (rw [rb_app (lB _)])


theorem step1 (by_ : List Int) (c c2 : Bool) (b : List Int) (hby : Us8 by_) (hlen : by_.length ≤ 200000000000000) (n : Nat) (hn : 1 < n) (a : Code) (ha : loopIn Tryd.prog 11 8 = some a) (d : DS) (hd : DOk (unpack by_) d) (hs : d.short (unpack by_) = false) (hi : d.i = 1) (H : Heap) (h0 : 0 < H.length) (r : Nat) (hr0 : ¬ r = 0) (hr : r < H.length) (out : List (Int × Nat)) (hol : out.length = 1) (hH : H[r]? = some ⟨encD out, 2, true, false⟩) (u : Nat) (hla : (encD out)[0]? = some (.agg [.int .i64 d.at_, .fl .f64 u])) :
    ∃ H2, 0 < List.length H2 ∧ r < List.length H2 ∧ H2[r]? = some ⟨encD (out ++ [((decPt (unpack by_) d).at_, (decPt (unpack by_) d).value)]), 2, true, false⟩ ∧ ∀ K : Kont,
      res (loopL lore 11 a (Sl 119 .wild [(0, .sl (enc8 b) 1 c), (4, .int .i64 (n : Nat)), (5, .ptr 0 0), (6, .row r out.length), (7, .int .u64 d.step), (8, .int .u64 (d.value : Nat)), (9, .int .i64 1)]) (RB H 0 by_ c2 (d.p : Nat) false d.fr) K) =
      res (loopL lore 11 a (Sl 119 .wild [(0, .sl (enc8 b) 1 c), (4, .int .i64 (n : Nat)), (5, .ptr 0 0), (6, .row r (out.length + 1)), (7, .int .u64 (decPt (unpack by_) d).step), (8, .int .u64 ((decPt (unpack by_) d).value : Nat)), (9, .int .i64 2)]) (RB H2 0 by_ c2 ((decPt (unpack by_) d).p : Nat) ((decPt (unpack by_) d).short (unpack by_)) (decPt (unpack by_) d).fr) K) := by
  have hk := loop_key ha
  simp only [loopIn, Tryd.func11, Tryd.f11, loopAt, Option.bind_some, codeKey, if_true, Option.some.injEq, Nat.reduceEqDiff, if_false] at ha
  obtain ⟨h1, h2, h3, k4, h5⟩ := hd
  have h4 := k4 hs
  clear k4
  have hL := unpack_01 by_
  have hLl := unpack_len by_
  obtain ⟨hb, hp⟩ := sh_false hs
  clear hs
  obtain ⟨i, p, at_, st, v, f, bad⟩ := d
  simp only at h1 h2 h3 h4 h5 hb hp hi hla
  subst hb hi
  have hv := varP_bd (unpack by_) hL 10 0 0 p rfl (by decide) (by intro _; decide) (by decide)
  have hg := varP_ge (unpack by_) 10 0 0 p
  have hxr := fun (H' : Heap) (e : 0 < H'.length) => varR_cv H' 0 e by_ c2 hby hlen f p (by omega) false (varP (unpack by_) 10 0 0 p).1 (varP (unpack by_) 10 0 0 p).2.1 (varP (unpack by_) 10 0 0 p).2.2 rfl
  have hx := fun (H' : Heap) (e : 0 < H'.length) => xorR_cv H' 0 e by_ c2 hby hlen f h4 (varP (unpack by_) 10 0 0 p).2.1 (by omega) (false || decide (8 * by_.length < (varP (unpack by_) 10 0 0 p).2.1) || (varP (unpack by_) 10 0 0 p).2.2)
  have hxb := xorP_bd (unpack by_) hL (varP (unpack by_) 10 0 0 p).2.1 f h4
  have hxg := xorP_ge (unpack by_) hL (varP (unpack by_) 10 0 0 p).2.1 f
  have hsh : (DS.short (unpack by_) (decPt (unpack by_) ⟨1, p, at_, st, v, f, false⟩)) = (false || decide (8 * by_.length < (varP (unpack by_) 10 0 0 p).2.1) || (varP (unpack by_) 10 0 0 p).2.2 || decide (8 * by_.length < (xorP (unpack by_) (varP (unpack by_) 10 0 0 p).2.1 f).2.1) || (xorP (unpack by_) (varP (unpack by_) 10 0 0 p).2.1 f).2.2.2) := by
    show ((false || (varP (unpack by_) 10 0 0 p).2.2 || (xorP (unpack by_) (varP (unpack by_) 10 0 0 p).2.1 f).2.2.2) || decide ((unpack by_).length < (xorP (unpack by_) (varP (unpack by_) 10 0 0 p).2.1 f).2.1)) = _
    rw [hLl]
    generalize (xorP (unpack by_) (varP (unpack by_) 10 0 0 p).2.1 f).2.2.2 = o2
    generalize (xorP (unpack by_) (varP (unpack by_) 10 0 0 p).2.1 f).2.1 = q2 at *
    generalize (varP (unpack by_) 10 0 0 p).2.1 = Q at *
    generalize (varP (unpack by_) 10 0 0 p).2.2 = o
    by_cases g1 : 8 * by_.length < Q
    · have : 8 * by_.length < q2 := by omega
      simp [g1, this]
    · cases o <;> cases o2 <;> simp [g1]
  have hdec : decPt (unpack by_) ⟨1, p, at_, st, v, f, false⟩ = ⟨2, (xorP (unpack by_) (varP (unpack by_) 10 0 0 p).2.1 f).2.1, wrapS (at_ + (varP (unpack by_) 10 0 0 p).1), (varP (unpack by_) 10 0 0 p).1, v ^^^ (xorP (unpack by_) (varP (unpack by_) 10 0 0 p).2.1 f).1.toNat, (xorP (unpack by_) (varP (unpack by_) 10 0 0 p).2.1 f).2.2.1, false || (varP (unpack by_) 10 0 0 p).2.2 || (xorP (unpack by_) (varP (unpack by_) 10 0 0 p).2.1 f).2.2.2⟩ := rfl
  rw [hsh, hdec]
  clear hsh hdec
  generalize (xorP (unpack by_) (varP (unpack by_) 10 0 0 p).2.1 f).2.2.2 = o2 at *
  generalize (xorP (unpack by_) (varP (unpack by_) 10 0 0 p).2.1 f).2.2.1 = f2 at *
  generalize (xorP (unpack by_) (varP (unpack by_) 10 0 0 p).2.1 f).2.1 = q2 at *
  generalize (xorP (unpack by_) (varP (unpack by_) 10 0 0 p).2.1 f).1 = x at *
  generalize (varP (unpack by_) 10 0 0 p).1 = X at *
  generalize (varP (unpack by_) 10 0 0 p).2.1 = Q at *
  generalize (varP (unpack by_) 10 0 0 p).2.2 = o at *
  obtain ⟨xn, rfl⟩ := Int.eq_ofNat_of_zero_le hxb.1
  have hxo := xorI_natU (x := v) (y := xn) h3 (by omega)
  have hw64 : v ^^^ xn < 2 ^ 64 := Nat.xor_lt_two_pow h3 (by omega)
  have hfb := frombits_cv (v ^^^ xn) hw64
  simp only [Int.toNat_natCast]
  generalize v ^^^ xn = w at *
  have hws : ((at_ % 18446744073709551616 + X) % 18446744073709551616 + 9223372036854775808) % 18446744073709551616 - 9223372036854775808 = wrapS (at_ + X) := by unfold wrapS; omega
  have hn0 : (1 : Int) < (n : Int) := by omega
  have hne : ¬ H.length = 0 := by omega
  have lB : ∀ b : Box, 0 < (H ++ [b]).length := fun b => by simp
  have lC : ∀ (b : Box) (y : Box), 0 < ((H ++ [b]).set r y).length := fun b y => by simp
  have hgr : ∀ b, (H ++ [b])[r]? = some ⟨encD out, 2, true, false⟩ := fun b => by rw [List.getElem?_append_left hr, hH]
  have hol2 : (encD out).length = 1 := by rw [encD_len, hol]
  have hap := fun (b : Box) (p' : Int) (s' : Bool) (f' : Fr) => appD_row (H := RB (H ++ [b]) 0 by_ c2 p' s' f') (p := (wrapS (at_ + X), w)) (by rw [rb_get hr0]; exact hgr b) hol (by omega)
  simp only [rb_set hr0] at hap
  refine ⟨(H ++ [dot (wrapS (at_ + X)) w]).set r ⟨encD (out ++ [(wrapS (at_ + X), w)]), 2, true, false⟩, by simp, by simp; omega, List.getElem?_set_self (by simp; omega), fun K => ?_⟩
  rw [loopL_step' ha]
  repeat' (first | (refine cond_by (F := res) (fun _ => ?_) (fun _ => ?_)) | (refine wayK_by (F := res) (fun _ hb_ => ?_) (fun _ hb_ => ?_) <;> simp only [hb_]) | (refine wayK_byN (F := res) (fun _ hb_ => ?_) (fun _ hb_ => ?_) <;> simp only [hb_]) | (refine wayD_by (F := res) (fun _ hb_ => ?_) (fun _ hb_ => ?_) <;> simp only [hb_]) | (refine wayD_byN (F := res) (fun _ hb_ => ?_) (fun _ hb_ => ?_) <;> simp only [hb_]) | (refine rdK_by (F := res) (fun _ => ?_) (fun _ => ?_)) | (refine effK_by (F := res) (fun _ => ?_) (fun _ => ?_)) | (refine effK_by2 (F := res) (fun _ => ?_) (fun _ => ?_)) | (refine rdD_by (F := res) (fun _ => ?_) (fun _ => ?_)) | (refine effD_by (F := res) (fun _ => ?_) (fun _ => ?_)) | (refine effD_by2 (F := res) (fun _ => ?_) (fun _ => ?_)) | simp -implicitDefEqProofs (disch := first | omega | (simp only [List.length_append, List.length_cons, List.length_nil, List.length_drop, List.length_take]; omega)) only [evs, tys, lors, Nat.reduceAdd, Nat.reduceSub, Nat.reduceMul, Nat.reducePow, Nat.reduceBEq, Nat.reduceLT, Nat.reduceLeDiff, Nat.reduceEqDiff, Int.reduceLT, Int.reduceLE, Int.reduceEq, Int.reduceNe, Int.reduceToNat, Int.reduceAdd, Int.reduceSub, Int.reduceMul, Int.reducePow, Int.reduceDiv, Int.reduceMod, Int.reduceNeg, reduceCtorEq, codeKey, List.contains, List.elem, Ev.load, peek, pack, storeV, fieldAddr, field, cvB, hk, rb_h h0, hn0, rb_app h0, rb_len, hxr _ (lB _), rb_get hne, rb_set hne, rb_get hr0, rb_set hr0, hgr, hla, hol, hol2, new_get, new_set, hx _ (lB _), hxo, hfb, hws, srcD_sl, hap, elem22, IntKind.wrap_i64, IntKind.wrap_u64, decide_true, decide_false])
  all_goals trace_state


theorem step2 (by_ : List Int) (c c2 : Bool) (b : List Int) (hby : Us8 by_) (hlen : by_.length ≤ 200000000000000) (n m : Nat) (hn : m + 2 < n) (hm : m ≤ 100000) (a : Code) (ha : loopIn Tryd.prog 11 8 = some a) (d : DS) (hd : DOk (unpack by_) d) (hs : d.short (unpack by_) = false) (hi : d.i = m + 2) (H : Heap) (h0 : 0 < H.length) (r : Nat) (hr0 : ¬ r = 0) (hr : r < H.length) (out : List (Int × Nat)) (hol : out.length = m + 2) (hH : H[r]? = some ⟨encD out, 2, true, false⟩) (u : Nat) (hla : (encD out)[m + 1]? = some (.agg [.int .i64 d.at_, .fl .f64 u])) :
    ∃ H2, 0 < List.length H2 ∧ r < List.length H2 ∧ H2[r]? = some ⟨encD (out ++ [((decPt (unpack by_) d).at_, (decPt (unpack by_) d).value)]), 2, true, false⟩ ∧ ∀ K : Kont,
      res (loopL lore 11 a (Sl 119 .wild [(0, .sl (enc8 b) 1 c), (4, .int .i64 (n : Nat)), (5, .ptr 0 0), (6, .row r out.length), (7, .int .u64 d.step), (8, .int .u64 (d.value : Nat)), (9, .int .i64 ((m + 2 : Nat) : Int))]) (RB H 0 by_ c2 (d.p : Nat) false d.fr) K) =
      res (loopL lore 11 a (Sl 119 .wild [(0, .sl (enc8 b) 1 c), (4, .int .i64 (n : Nat)), (5, .ptr 0 0), (6, .row r (out.length + 1)), (7, .int .u64 (decPt (unpack by_) d).step), (8, .int .u64 ((decPt (unpack by_) d).value : Nat)), (9, .int .i64 ((m + 3 : Nat) : Int))]) (RB H2 0 by_ c2 ((decPt (unpack by_) d).p : Nat) ((decPt (unpack by_) d).short (unpack by_)) (decPt (unpack by_) d).fr) K) := by
  have hk := loop_key ha
  simp only [loopIn, Tryd.func11, Tryd.f11, loopAt, Option.bind_some, codeKey, if_true, Option.some.injEq, Nat.reduceEqDiff, if_false] at ha
  obtain ⟨h1, h2, h3, k4, h5⟩ := hd
  have h4 := k4 hs
  clear k4
  have hL := unpack_01 by_
  have hLl := unpack_len by_
  obtain ⟨hb, hp⟩ := sh_false hs
  clear hs
  obtain ⟨i, p, at_, st, v, f, bad⟩ := d
  simp only at h1 h2 h3 h4 h5 hb hp hi hla
  subst hb hi
  have hg := difP_ge (unpack by_) p
  obtain ⟨XX, hxr⟩ := difR_cv (H ++ [dot 0 0]) 0 (by simp) by_ c2 hby hlen f p (by omega) false
  have hx := fun (H' : Heap) (e : 0 < H'.length) => xorR_cv H' 0 e by_ c2 hby hlen f h4 (difP (unpack by_) p).2 (by omega) (false || decide (8 * by_.length < (difP (unpack by_) p).2))
  have hxb := xorP_bd (unpack by_) hL (difP (unpack by_) p).2 f h4
  have hxg := xorP_ge (unpack by_) hL (difP (unpack by_) p).2 f
  have hsh : (DS.short (unpack by_) (decPt (unpack by_) ⟨m + 2, p, at_, st, v, f, false⟩)) = (false || decide (8 * by_.length < (difP (unpack by_) p).2) || decide (8 * by_.length < (xorP (unpack by_) (difP (unpack by_) p).2 f).2.1) || (xorP (unpack by_) (difP (unpack by_) p).2 f).2.2.2) := by
    show ((false || (xorP (unpack by_) (difP (unpack by_) p).2 f).2.2.2) || decide ((unpack by_).length < (xorP (unpack by_) (difP (unpack by_) p).2 f).2.1)) = _
    rw [hLl]
    generalize (xorP (unpack by_) (difP (unpack by_) p).2 f).2.2.2 = o2
    generalize (xorP (unpack by_) (difP (unpack by_) p).2 f).2.1 = q2 at *
    generalize (difP (unpack by_) p).2 = Q at *
    by_cases g1 : 8 * by_.length < Q
    · have : 8 * by_.length < q2 := by omega
      simp [g1, this]
    · cases o2 <;> simp [g1]
  have hdec : decPt (unpack by_) ⟨m + 2, p, at_, st, v, f, false⟩ = ⟨m + 3, (xorP (unpack by_) (difP (unpack by_) p).2 f).2.1, wrapS (at_ + (st + (difP (unpack by_) p).1) % 18446744073709551616), (st + (difP (unpack by_) p).1) % 18446744073709551616, v ^^^ (xorP (unpack by_) (difP (unpack by_) p).2 f).1.toNat, (xorP (unpack by_) (difP (unpack by_) p).2 f).2.2.1, false || (xorP (unpack by_) (difP (unpack by_) p).2 f).2.2.2⟩ := rfl
  rw [hsh, hdec]
  clear hsh hdec
  generalize (xorP (unpack by_) (difP (unpack by_) p).2 f).2.2.2 = o2 at *
  generalize (xorP (unpack by_) (difP (unpack by_) p).2 f).2.2.1 = f2 at *
  generalize (xorP (unpack by_) (difP (unpack by_) p).2 f).2.1 = q2 at *
  generalize (xorP (unpack by_) (difP (unpack by_) p).2 f).1 = x at *
  generalize (difP (unpack by_) p).1 = dd at *
  have hst : (st + dd % 18446744073709551616) % 18446744073709551616 = (st + dd) % 18446744073709551616 := by omega
  have hX : 0 ≤ (st + dd) % 18446744073709551616 ∧ (st + dd) % 18446744073709551616 < 18446744073709551616 := by omega
  generalize (st + dd) % 18446744073709551616 = X at *
  generalize (difP (unpack by_) p).2 = Q at *
  obtain ⟨xn, rfl⟩ := Int.eq_ofNat_of_zero_le hxb.1
  have hxo := xorI_natU (x := v) (y := xn) h3 (by omega)
  have hw64 : v ^^^ xn < 2 ^ 64 := Nat.xor_lt_two_pow h3 (by omega)
  have hfb := frombits_cv (v ^^^ xn) hw64
  simp only [Int.toNat_natCast]
  generalize v ^^^ xn = w at *
  have hws : ((at_ % 18446744073709551616 + X) % 18446744073709551616 + 9223372036854775808) % 18446744073709551616 - 9223372036854775808 = wrapS (at_ + X) := by unfold wrapS; omega
  have hn0 : ((m + 2 : Nat) : Int) < (n : Int) := by omega
  have hne : ¬ H.length = 0 := by omega
  have hz1 : ¬ ((m + 2 : Nat) : Int) = 0 := by omega
  have hz2 : ¬ ((m + 2 : Nat) : Int) = 1 := by omega
  have hz3 : (0 : Int) < ((m + 2 : Nat) : Int) := by omega
  have hz4 : ((m + 2 : Nat) : Int) - 1 = ((m + 1 : Nat) : Int) := by omega
  have hz5 : ((m + 2 : Nat) : Int) + 1 = ((m + 3 : Nat) : Int) := by omega
  have lB : ∀ b : Box, 0 < (H ++ [b]).length := fun b => by simp
  have lX : ∀ b : Box, 0 < (H ++ [b] ++ XX).length := fun b => by simp; try omega
  have lC : ∀ (b : Box) (y : Box), 0 < ((H ++ [b]).set r y).length := fun b y => by simp
  have hgr : ∀ b, (H ++ [b] ++ XX)[r]? = some ⟨encD out, 2, true, false⟩ := fun b => by rw [List.append_assoc, List.getElem?_append_left hr, hH]
  have hol2 : (encD out).length = m + 2 := by rw [encD_len, hol]
  have hap := fun (b : Box) (p' : Int) (s' : Bool) (f' : Fr) => appD_row (H := RB (H ++ [b] ++ XX) 0 by_ c2 p' s' f') (p := (wrapS (at_ + X), w)) (by rw [rb_get hr0]; exact hgr b) hol (by omega)
  simp only [rb_set hr0] at hap
  refine ⟨(H ++ [dot (wrapS (at_ + X)) w] ++ XX).set r ⟨encD (out ++ [(wrapS (at_ + X), w)]), 2, true, false⟩, by simp; omega, by simp; omega, List.getElem?_set_self (by simp; omega), fun K => ?_⟩
  rw [loopL_step' ha]
  repeat' (first | (refine cond_by (F := res) (fun _ => ?_) (fun _ => ?_)) | (refine wayK_by (F := res) (fun _ hb_ => ?_) (fun _ hb_ => ?_) <;> simp only [hb_]) | (refine wayK_byN (F := res) (fun _ hb_ => ?_) (fun _ hb_ => ?_) <;> simp only [hb_]) | (refine wayD_by (F := res) (fun _ hb_ => ?_) (fun _ hb_ => ?_) <;> simp only [hb_]) | (refine wayD_byN (F := res) (fun _ hb_ => ?_) (fun _ hb_ => ?_) <;> simp only [hb_]) | (refine rdK_by (F := res) (fun _ => ?_) (fun _ => ?_)) | (refine effK_by (F := res) (fun _ => ?_) (fun _ => ?_)) | (refine effK_by2 (F := res) (fun _ => ?_) (fun _ => ?_)) | (refine rdD_by (F := res) (fun _ => ?_) (fun _ => ?_)) | (refine effD_by (F := res) (fun _ => ?_) (fun _ => ?_)) | (refine effD_by2 (F := res) (fun _ => ?_) (fun _ => ?_)) | simp -implicitDefEqProofs (disch := first | omega | (simp only [List.length_append, List.length_cons, List.length_nil, List.length_drop, List.length_take]; omega)) only [evs, tys, lors, Nat.reduceAdd, Nat.reduceSub, Nat.reduceMul, Nat.reducePow, Nat.reduceBEq, Nat.reduceLT, Nat.reduceLeDiff, Nat.reduceEqDiff, Int.reduceLT, Int.reduceLE, Int.reduceEq, Int.reduceNe, Int.reduceToNat, Int.reduceAdd, Int.reduceSub, Int.reduceMul, Int.reducePow, Int.reduceDiv, Int.reduceMod, Int.reduceNeg, reduceCtorEq, codeKey, List.contains, List.elem, Ev.load, peek, pack, storeV, fieldAddr, field, cvB, hk, rb_h h0, hn0, rb_app h0, rb_len, hxr, old_get, old_set, hst, hz1, hz2, hz3, hz4, hz5, rb_get hne, rb_set hne, rb_get hr0, rb_set hr0, hgr, hla, hol, hol2, new_get, new_set, hx _ (lX _), Int.toNat_natCast, hxo, hfb, hws, srcD_sl, hap, elem22, IntKind.wrap_i64, IntKind.wrap_u64, decide_true, decide_false])
  all_goals trace_state
end Go.Proofs.YtmjdcoacmmmhnaaDoor
