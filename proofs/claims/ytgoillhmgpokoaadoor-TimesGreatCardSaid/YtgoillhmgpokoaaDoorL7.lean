/-
TimesGreat as plain Lean.
-/
import Derived.Test.YtgoillhmgpokoaaDoorL4
namespace Go.Proofs.YtgoillhmgpokoaaDoor
open Go Ev
set_option linter.all false
set_option maxHeartbeats 4000000
set_option maxRecDepth 5000
attribute [local irreducible] codeL condL loopL callL callV evOps evDraw rdK effK wayK oneK wayD oneD rdD effD chks chkB res

theorem cmp_lt {A B : Int} : cmpZ A B < 0 ↔ A < B := by
  unfold cmpZ; split
  · omega
  · split <;> omega
theorem cmp_gt {A B : Int} : 0 < cmpZ A B ↔ B < A := by
  unfold cmpZ; split
  · omega
  · split <;> omega
theorem cmp_swap (A B : Int) : cmpZ B A = - cmpZ A B := by
  unfold cmpZ
  rcases Int.lt_trichotomy A B with h | h | h
  · rw [if_neg (by omega), if_pos h, if_pos h]; rfl
  · rw [if_neg (by omega), if_neg (by omega), if_neg (by omega), if_neg (by omega)]; rfl
  · rw [if_pos h, if_neg (by omega), if_pos h]
theorem le_trans3 {n p m q k r : Int} (hp : 1 ≤ p) (hq : 1 ≤ q) (hr : 1 ≤ r) (h1 : n * q ≤ m * p) (h2 : m * r ≤ k * q) : n * r ≤ k * p := by
  have a := Int.mul_le_mul_of_nonneg_right h1 (show 0 ≤ r by omega)
  have b := Int.mul_le_mul_of_nonneg_right h2 (show 0 ≤ p by omega)
  refine Int.le_of_mul_le_mul_right (a := q) ?_ (by omega)
  rw [Int.mul_right_comm n r q, Int.mul_right_comm k p q]
  rw [Int.mul_right_comm m p r] at a
  omega
theorem div_mono {n p m q t : Int} (hp : 1 ≤ p) (hq : 1 ≤ q) (ht : 0 ≤ t) (h1 : n * q ≤ m * p) : n * t / p ≤ m * t / q := by
  rw [Int.le_ediv_iff_mul_le (by omega)]
  have h2 := Int.mul_ediv_self_le (x := n * t) (k := p) (by omega)
  refine Int.le_of_mul_le_mul_right (a := p) ?_ (show 0 < p by omega)
  have a := Int.mul_le_mul_of_nonneg_right h1 ht
  have b := Int.mul_le_mul_of_nonneg_right h2 (show 0 ≤ q by omega)
  have e1 : n * t / p * q * p = p * (n * t / p) * q := by rw [Int.mul_right_comm, Int.mul_comm p]
  have e2 : m * t * p = m * p * t := Int.mul_right_comm ..
  have e3 : n * t * q = n * q * t := Int.mul_right_comm ..
  rw [e1, e2]
  rw [e3] at b
  omega
theorem div_same {n p m q t : Int} (hp : 1 ≤ p) (hq : 1 ≤ q) (ht : 0 ≤ t) (h1 : n * q = m * p) : n * t / p = m * t / q := by
  have a := div_mono (t := t) hp hq ht (show n * q ≤ m * p by omega)
  have b := div_mono (n := m) (p := q) (m := n) (q := p) (t := t) hq hp ht (by omega)
  omega
theorem low_right {n p : Int} (h : RightR n p) : RightR (n / gcdR n p) (p / gcdR n p) ∧ n * (p / gcdR n p) = n / gcdR n p * p := by
  have hg := gcdR_pos n p h
  have d1 : gcdR n p ∣ n := by
    have : ((Nat.gcd p.toNat n.toNat : Nat) : Int) ∣ (n.toNat : Int) := Int.natCast_dvd_natCast.2 (Nat.gcd_dvd_right _ _)
    rw [Int.toNat_of_nonneg (by have := h.1; omega)] at this
    exact this
  have d2 : gcdR n p ∣ p := by
    have : ((Nat.gcd p.toNat n.toNat : Nat) : Int) ∣ (p.toNat : Int) := Int.natCast_dvd_natCast.2 (Nat.gcd_dvd_left _ _)
    rw [Int.toNat_of_nonneg (by have := h.2; omega)] at this
    exact this
  have e1 := Int.ediv_mul_cancel d1
  have e2 := Int.ediv_mul_cancel d2
  have n0 : 0 ≤ n / gcdR n p := Int.ediv_nonneg (by have := h.1; omega) (by omega)
  have p0 : 0 ≤ p / gcdR n p := Int.ediv_nonneg (by have := h.2; omega) (by omega)
  have n1 := Int.ediv_le_self (gcdR n p) (show 0 ≤ n by have := h.1; omega)
  have p1 := Int.ediv_le_self (gcdR n p) (show 0 ≤ p by have := h.2; omega)
  have p2 : ¬ p / gcdR n p = 0 := fun hz => by rw [hz, Int.zero_mul] at e2; have := h.2; omega
  refine ⟨by have := h; omega, ?_⟩
  have : n / gcdR n p * p = n / gcdR n p * (p / gcdR n p * gcdR n p) := by rw [e2]
  rw [this, Int.mul_comm (p / gcdR n p), ← Int.mul_assoc, e1]
theorem timesGreat_ev (n p m q k r t : Int) : ans (callL lore 7 [.agg [.int .i64 n, .int .i64 p], .agg [.int .i64 m, .int .i64 q], .agg [.int .i64 k, .int .i64 r], .int .i64 t] []) = some (.bool true) := by
  rw [call_start lore_ext7 Tryd.func7 rfl lore_okf7 (Nat.le_of_ble_eq_true rfl)]
  by_cases hx : RightR n p
  · by_cases hy : RightR m q
    · by_cases hz : RightR k r
      · have hc : ∀ H, callV (CL lore) 22 [.agg [.int .i64 n, .int .i64 p], .agg [.int .i64 m, .int .i64 q]] H = some (.tup [.int .i64 (cmpZ (n * q) (m * p)), .int .i64 0], H) := fun H => by rw [compare_cv, if_pos ⟨hx, hy⟩]
        have hc' : ∀ H, callV (CL lore) 22 [.agg [.int .i64 m, .int .i64 q], .agg [.int .i64 n, .int .i64 p]] H = some (.tup [.int .i64 (- cmpZ (n * q) (m * p)), .int .i64 0], H) := fun H => by rw [compare_cv, if_pos ⟨hy, hx⟩, cmp_swap]
        have hd : ∀ H, callV (CL lore) 22 [.agg [.int .i64 m, .int .i64 q], .agg [.int .i64 k, .int .i64 r]] H = some (.tup [.int .i64 (cmpZ (m * r) (k * q)), .int .i64 0], H) := fun H => by rw [compare_cv, if_pos ⟨hy, hz⟩]
        have he : ∀ H, callV (CL lore) 22 [.agg [.int .i64 n, .int .i64 p], .agg [.int .i64 k, .int .i64 r]] H = some (.tup [.int .i64 (cmpZ (n * r) (k * p)), .int .i64 0], H) := fun H => by rw [compare_cv, if_pos ⟨hx, hz⟩]
        obtain ⟨hl, hle⟩ := low_right hx
        have hw : ∀ H, callV (CL lore) 23 [.agg [.int .i64 n, .int .i64 p]] H = some (.tup [.agg [.int .i64 (n / gcdR n p), .int .i64 (p / gcdR n p)], .int .i64 0], H) := fun H => by rw [lowest_cv, if_pos hx]
        generalize n / gcdR n p = n' at *
        generalize p / gcdR n p = p' at *
        have hf : ∀ H, callV (CL lore) 22 [.agg [.int .i64 n, .int .i64 p], .agg [.int .i64 n', .int .i64 p']] H = some (.tup [.int .i64 0, .int .i64 0], H) := fun H => by
          rw [compare_cv, if_pos ⟨hx, hl⟩, ← hle, cmpZ, if_neg (by omega), if_neg (by omega)]
        have b1 := cmpZ_bounds (n * q) (m * p)
        have b2 := cmpZ_bounds (m * r) (k * q)
        have b3 := cmpZ_bounds (n * r) (k * p)
        have l1 := @cmp_lt (n * q) (m * p)
        have l2 := @cmp_lt (m * r) (k * q)
        have l3 := @cmp_lt (n * r) (k * p)
        have g1 := @cmp_gt (n * q) (m * p)
        have g2 := @cmp_gt (m * r) (k * q)
        have g3 := @cmp_gt (n * r) (k * p)
        have tr : n * q ≤ m * p → m * r ≤ k * q → n * r ≤ k * p := le_trans3 (by omega) (by omega) (by omega)
        have tr' : k * q ≤ m * r → m * p ≤ n * q → k * p ≤ n * r := le_trans3 (by omega) (by omega) (by omega)
        by_cases ht : InM t
        · have hA := fun H => accrued_cv n p t H
          have hB := fun H => accrued_cv m q t H
          have hC := fun H => accrued_cv n' p' t H
          have e1 : n * t / p = n' * t / p' := div_same (by omega) (by omega) ht.1 hle
          have m1 : n * q ≤ m * p → n * t / p ≤ m * t / q := div_mono (by omega) (by omega) ht.1
          have m2 : m * p ≤ n * q → m * t / q ≤ n * t / p := div_mono (by omega) (by omega) ht.1
          have q0 : 0 ≤ n * t / p := Int.ediv_nonneg (Int.mul_nonneg (by omega) (by omega)) (by omega)
          have q1 : 0 ≤ m * t / q := Int.ediv_nonneg (Int.mul_nonneg (by omega) (by omega)) (by omega)
          rw [← e1] at hC
          simp only [if_pos hx, if_pos hy, if_pos hl, if_pos ht] at hA hB hC
          generalize n * t / p = X at *
          generalize m * t / q = Y at *
          generalize cmpZ (n * q) (m * p) = c1 at *
          generalize cmpZ (m * r) (k * q) = c2 at *
          generalize cmpZ (n * r) (k * p) = c3 at *
          repeat' (first | (refine cond_by (F := ans) (fun _ => ?_) (fun _ => ?_)) | (refine wayK_by (F := ans) (fun _ hb_ => ?_) (fun _ hb_ => ?_) <;> simp only [hb_]) | (refine wayK_byN (F := ans) (fun _ hb_ => ?_) (fun _ hb_ => ?_) <;> simp only [hb_]) | (refine wayD_by (F := ans) (fun _ hb_ => ?_) (fun _ hb_ => ?_) <;> simp only [hb_]) | (refine wayD_byN (F := ans) (fun _ hb_ => ?_) (fun _ hb_ => ?_) <;> simp only [hb_]) | (refine rdK_by (F := ans) (fun _ => ?_) (fun _ => ?_)) | (refine effK_by (F := ans) (fun _ => ?_) (fun _ => ?_)) | (refine effK_by2 (F := ans) (fun _ => ?_) (fun _ => ?_)) | (refine rdD_by (F := ans) (fun _ => ?_) (fun _ => ?_)) | (refine effD_by (F := ans) (fun _ => ?_) (fun _ => ?_)) | (refine effD_by2 (F := ans) (fun _ => ?_) (fun _ => ?_)) | simp -implicitDefEqProofs (disch := first | omega | (simp only [List.length_append, List.length_cons, List.length_nil, List.length_drop, List.length_take]; omega)) only [evs, tys, lors, Nat.reduceAdd, Nat.reduceSub, Nat.reduceMul, Nat.reducePow, Nat.reduceBEq, Nat.reduceLT, Nat.reduceLeDiff, Nat.reduceEqDiff, Int.reduceLT, Int.reduceLE, Int.reduceEq, Int.reduceNe, Int.reduceToNat, Int.reduceAdd, Int.reduceSub, Int.reduceMul, Int.reducePow, Int.reduceDiv, Int.reduceMod, Int.reduceNeg, reduceCtorEq, codeKey, List.contains, List.elem, Ev.load, peek, pack, storeV, fieldAddr, field, cvB, begins_cv, hc, hc', hd, he, hw, hf, hA, hB, hC])
          all_goals first | contradiction | (exfalso; omega) | (refine congrArg some (congrArg V.bool ?_); rw [decide_eq_true_eq]; omega) | trace_state
        · have hA : ∀ H, callV (CL lore) 15 [.agg [.int .i64 n, .int .i64 p], .int .i64 t] H = some (.tup [.int .i64 0, .int .i64 2], H) := fun H => by rw [accrued_cv, if_pos hx, if_neg ht]
          have hB : ∀ H, callV (CL lore) 15 [.agg [.int .i64 m, .int .i64 q], .int .i64 t] H = some (.tup [.int .i64 0, .int .i64 2], H) := fun H => by rw [accrued_cv, if_pos hy, if_neg ht]
          have hC : ∀ H, callV (CL lore) 15 [.agg [.int .i64 n', .int .i64 p'], .int .i64 t] H = some (.tup [.int .i64 0, .int .i64 2], H) := fun H => by rw [accrued_cv, if_pos hl, if_neg ht]
          generalize cmpZ (n * q) (m * p) = c1 at *
          generalize cmpZ (m * r) (k * q) = c2 at *
          generalize cmpZ (n * r) (k * p) = c3 at *
          repeat' (first | (refine cond_by (F := ans) (fun _ => ?_) (fun _ => ?_)) | (refine wayK_by (F := ans) (fun _ hb_ => ?_) (fun _ hb_ => ?_) <;> simp only [hb_]) | (refine wayK_byN (F := ans) (fun _ hb_ => ?_) (fun _ hb_ => ?_) <;> simp only [hb_]) | (refine wayD_by (F := ans) (fun _ hb_ => ?_) (fun _ hb_ => ?_) <;> simp only [hb_]) | (refine wayD_byN (F := ans) (fun _ hb_ => ?_) (fun _ hb_ => ?_) <;> simp only [hb_]) | (refine rdK_by (F := ans) (fun _ => ?_) (fun _ => ?_)) | (refine effK_by (F := ans) (fun _ => ?_) (fun _ => ?_)) | (refine effK_by2 (F := ans) (fun _ => ?_) (fun _ => ?_)) | (refine rdD_by (F := ans) (fun _ => ?_) (fun _ => ?_)) | (refine effD_by (F := ans) (fun _ => ?_) (fun _ => ?_)) | (refine effD_by2 (F := ans) (fun _ => ?_) (fun _ => ?_)) | simp -implicitDefEqProofs (disch := first | omega | (simp only [List.length_append, List.length_cons, List.length_nil, List.length_drop, List.length_take]; omega)) only [evs, tys, lors, Nat.reduceAdd, Nat.reduceSub, Nat.reduceMul, Nat.reducePow, Nat.reduceBEq, Nat.reduceLT, Nat.reduceLeDiff, Nat.reduceEqDiff, Int.reduceLT, Int.reduceLE, Int.reduceEq, Int.reduceNe, Int.reduceToNat, Int.reduceAdd, Int.reduceSub, Int.reduceMul, Int.reducePow, Int.reduceDiv, Int.reduceMod, Int.reduceNeg, reduceCtorEq, codeKey, List.contains, List.elem, Ev.load, peek, pack, storeV, fieldAddr, field, cvB, begins_cv, hc, hc', hd, he, hw, hf, hA, hB, hC])
          all_goals first | contradiction | (exfalso; omega) | (refine congrArg some (congrArg V.bool ?_); rw [decide_eq_true_eq]; omega) | trace_state
      · repeat' (first | (refine cond_by (F := ans) (fun _ => ?_) (fun _ => ?_)) | (refine wayK_by (F := ans) (fun _ hb_ => ?_) (fun _ hb_ => ?_) <;> simp only [hb_]) | (refine wayK_byN (F := ans) (fun _ hb_ => ?_) (fun _ hb_ => ?_) <;> simp only [hb_]) | (refine wayD_by (F := ans) (fun _ hb_ => ?_) (fun _ hb_ => ?_) <;> simp only [hb_]) | (refine wayD_byN (F := ans) (fun _ hb_ => ?_) (fun _ hb_ => ?_) <;> simp only [hb_]) | (refine rdK_by (F := ans) (fun _ => ?_) (fun _ => ?_)) | (refine effK_by (F := ans) (fun _ => ?_) (fun _ => ?_)) | (refine effK_by2 (F := ans) (fun _ => ?_) (fun _ => ?_)) | (refine rdD_by (F := ans) (fun _ => ?_) (fun _ => ?_)) | (refine effD_by (F := ans) (fun _ => ?_) (fun _ => ?_)) | (refine effD_by2 (F := ans) (fun _ => ?_) (fun _ => ?_)) | simp -implicitDefEqProofs (disch := first | omega | (simp only [List.length_append, List.length_cons, List.length_nil, List.length_drop, List.length_take]; omega)) only [evs, tys, lors, Nat.reduceAdd, Nat.reduceSub, Nat.reduceMul, Nat.reducePow, Nat.reduceBEq, Nat.reduceLT, Nat.reduceLeDiff, Nat.reduceEqDiff, Int.reduceLT, Int.reduceLE, Int.reduceEq, Int.reduceNe, Int.reduceToNat, Int.reduceAdd, Int.reduceSub, Int.reduceMul, Int.reducePow, Int.reduceDiv, Int.reduceMod, Int.reduceNeg, reduceCtorEq, codeKey, List.contains, List.elem, Ev.load, peek, pack, storeV, fieldAddr, field, cvB, begins_cv, compare_cv])
        all_goals first | contradiction | (exfalso; omega) | (refine congrArg some (congrArg V.bool ?_); rw [decide_eq_true_eq]; omega) | trace_state
    · repeat' (first | (refine cond_by (F := ans) (fun _ => ?_) (fun _ => ?_)) | (refine wayK_by (F := ans) (fun _ hb_ => ?_) (fun _ hb_ => ?_) <;> simp only [hb_]) | (refine wayK_byN (F := ans) (fun _ hb_ => ?_) (fun _ hb_ => ?_) <;> simp only [hb_]) | (refine wayD_by (F := ans) (fun _ hb_ => ?_) (fun _ hb_ => ?_) <;> simp only [hb_]) | (refine wayD_byN (F := ans) (fun _ hb_ => ?_) (fun _ hb_ => ?_) <;> simp only [hb_]) | (refine rdK_by (F := ans) (fun _ => ?_) (fun _ => ?_)) | (refine effK_by (F := ans) (fun _ => ?_) (fun _ => ?_)) | (refine effK_by2 (F := ans) (fun _ => ?_) (fun _ => ?_)) | (refine rdD_by (F := ans) (fun _ => ?_) (fun _ => ?_)) | (refine effD_by (F := ans) (fun _ => ?_) (fun _ => ?_)) | (refine effD_by2 (F := ans) (fun _ => ?_) (fun _ => ?_)) | simp -implicitDefEqProofs (disch := first | omega | (simp only [List.length_append, List.length_cons, List.length_nil, List.length_drop, List.length_take]; omega)) only [evs, tys, lors, Nat.reduceAdd, Nat.reduceSub, Nat.reduceMul, Nat.reducePow, Nat.reduceBEq, Nat.reduceLT, Nat.reduceLeDiff, Nat.reduceEqDiff, Int.reduceLT, Int.reduceLE, Int.reduceEq, Int.reduceNe, Int.reduceToNat, Int.reduceAdd, Int.reduceSub, Int.reduceMul, Int.reducePow, Int.reduceDiv, Int.reduceMod, Int.reduceNeg, reduceCtorEq, codeKey, List.contains, List.elem, Ev.load, peek, pack, storeV, fieldAddr, field, cvB, begins_cv, compare_cv])
      all_goals first | contradiction | (exfalso; omega) | (refine congrArg some (congrArg V.bool ?_); rw [decide_eq_true_eq]; omega) | trace_state
  · repeat' (first | (refine cond_by (F := ans) (fun _ => ?_) (fun _ => ?_)) | (refine wayK_by (F := ans) (fun _ hb_ => ?_) (fun _ hb_ => ?_) <;> simp only [hb_]) | (refine wayK_byN (F := ans) (fun _ hb_ => ?_) (fun _ hb_ => ?_) <;> simp only [hb_]) | (refine wayD_by (F := ans) (fun _ hb_ => ?_) (fun _ hb_ => ?_) <;> simp only [hb_]) | (refine wayD_byN (F := ans) (fun _ hb_ => ?_) (fun _ hb_ => ?_) <;> simp only [hb_]) | (refine rdK_by (F := ans) (fun _ => ?_) (fun _ => ?_)) | (refine effK_by (F := ans) (fun _ => ?_) (fun _ => ?_)) | (refine effK_by2 (F := ans) (fun _ => ?_) (fun _ => ?_)) | (refine rdD_by (F := ans) (fun _ => ?_) (fun _ => ?_)) | (refine effD_by (F := ans) (fun _ => ?_) (fun _ => ?_)) | (refine effD_by2 (F := ans) (fun _ => ?_) (fun _ => ?_)) | simp -implicitDefEqProofs (disch := first | omega | (simp only [List.length_append, List.length_cons, List.length_nil, List.length_drop, List.length_take]; omega)) only [evs, tys, lors, Nat.reduceAdd, Nat.reduceSub, Nat.reduceMul, Nat.reducePow, Nat.reduceBEq, Nat.reduceLT, Nat.reduceLeDiff, Nat.reduceEqDiff, Int.reduceLT, Int.reduceLE, Int.reduceEq, Int.reduceNe, Int.reduceToNat, Int.reduceAdd, Int.reduceSub, Int.reduceMul, Int.reducePow, Int.reduceDiv, Int.reduceMod, Int.reduceNeg, reduceCtorEq, codeKey, List.contains, List.elem, Ev.load, peek, pack, storeV, fieldAddr, field, cvB, begins_cv, compare_cv])
    all_goals first | contradiction | (exfalso; omega) | (refine congrArg some (congrArg V.bool ?_); rw [decide_eq_true_eq]; omega) | trace_state
end Go.Proofs.YtgoillhmgpokoaaDoor
