/-
ScaleExact as plain Lean.
-/
import Derived.Test.YtacnpljkcpomnaaF11
namespace Go.Proofs.Ytacnpljkcpomnaa
open Go Ev
set_option linter.all false
set_option maxHeartbeats 4000000
set_option maxRecDepth 5000
attribute [local irreducible] codeL condL loopL callL callV evOps evDraw rdK effK wayK oneK wayD oneD rdD effD chks chkB res

theorem fl_lt {a b : Nat} (hb : b < 9218868437227405312) (h : a < b) : binF .lss .f64 a b = some (.bool true) ∧ binF .leq .f64 a b = some (.bool true) ∧ binF .gtr .f64 a b = some (.bool false) ∧ binF .geq .f64 a b = some (.bool false) ∧ binF .eql .f64 a b = some (.bool false) := by
  rw [bF_lss, bF_leq, bF_gtr, bF_geq, bF_eql, ord_lt hb h]
  exact ⟨rfl, rfl, rfl, rfl, rfl⟩
theorem fl_gt {a b : Nat} (ha : a < 9218868437227405312) (h : b < a) : binF .lss .f64 a b = some (.bool false) ∧ binF .leq .f64 a b = some (.bool false) ∧ binF .gtr .f64 a b = some (.bool true) ∧ binF .geq .f64 a b = some (.bool true) ∧ binF .eql .f64 a b = some (.bool false) := by
  rw [bF_lss, bF_leq, bF_gtr, bF_geq, bF_eql, ord_gt ha h]
  exact ⟨rfl, rfl, rfl, rfl, rfl⟩
theorem fl_eq {a : Nat} (ha : a < 9218868437227405312) : binF .lss .f64 a a = some (.bool false) ∧ binF .leq .f64 a a = some (.bool true) ∧ binF .gtr .f64 a a = some (.bool false) ∧ binF .geq .f64 a a = some (.bool true) ∧ binF .eql .f64 a a = some (.bool true) := by
  rw [bF_lss, bF_leq, bF_gtr, bF_geq, bF_eql, ord_eq ha]
  exact ⟨rfl, rfl, rfl, rfl, rfl⟩
theorem fl_le {a b : Nat} (hb : b < 9218868437227405312) (h : a ≤ b) : binF .leq .f64 a b = some (.bool true) := by
  rcases Nat.eq_or_lt_of_le h with rfl | h
  · exact (fl_eq hb).2.1
  · exact (fl_lt hb h).2.1
theorem fl_neg0 {b : Nat} (hb : b < 9218868437227405312) (h : 0 < b) : binF .lss .f64 (9223372036854775808 + b) 0 = some (.bool true) ∧ binF .gtr .f64 (9223372036854775808 + b) 0 = some (.bool false) := by
  rw [bF_lss, bF_gtr, ord_neg hb h]
  exact ⟨rfl, rfl⟩
theorem neg_f {x : Nat} (hx : x < 18446744073709551616) : (x ^^^ 9223372036854775808) < 18446744073709551616 ∧ (x ^^^ 9223372036854775808) % 9223372036854775808 = x % 9223372036854775808 ∧ (x ^^^ 9223372036854775808 < 9223372036854775808 ↔ ¬ x < 9223372036854775808) := by
  by_cases h : x < 9223372036854775808
  · rw [(xor_hi h).2]
    omega
  · obtain ⟨r, rfl⟩ : ∃ r, x = 9223372036854775808 + r := ⟨x - 9223372036854775808, by omega⟩
    rw [(xor_hi (r := r) (by omega)).1]
    omega
theorem exact_core {s : Int} (hs : -4 ≤ s ∧ s ≤ 8) {x y rx : Nat} (S J : Int) (hx : x < 18446744073709551616) (hrx : 0 < rx) (hf : rx < 9218868437227405312) (ry : Nat) (hfy : ry < 9218868437227405312)
    (hj : 0 < ry → J = placeF s ry) (hJb : -1000000 ≤ J ∧ J ≤ 1000000) (S' : Int)
    (c1 : ∀ H, callV (CL lore) 19 [.int .i64 s, .fl .f64 x] H = some (.tup [.agg [.int .i64 S, .int .i64 (placeF s rx)], .int .i64 0], H))
    (c2 : ∀ H, callV (CL lore) 19 [.int .i64 s, .fl .f64 y] H = some (.tup [.agg [.int .i64 S', .int .i64 J], .int .i64 0], H))
    (c3 : ∀ H, callV (CL lore) 19 [.int .i64 s, .fl .f64 (x ^^^ 9223372036854775808)] H = some (.tup [.agg [.int .i64 (0 - S), .int .i64 (placeF s rx)], .int .i64 0], H))
    (a1 : ∀ H, callV (CL lore) 28 [.fl .f64 x] H = some (.fl .f64 rx, H)) (a2 : ∀ H, callV (CL lore) 28 [.fl .f64 y] H = some (.fl .f64 ry, H))
    (hS : (S = 1 ∧ binF .gtr .f64 x 0 = some (.bool true) ∧ binF .lss .f64 x 0 = some (.bool false)) ∨ (S = -1 ∧ binF .gtr .f64 x 0 = some (.bool false) ∧ binF .lss .f64 x 0 = some (.bool true))) :
    ans (callL lore 7 [.int .i64 s, .fl .f64 x, .fl .f64 y] []) = some (.bool true) := by
  rw [call_start lore_ext7 Try.func7 rfl lore_okf7 (Nat.le_of_ble_eq_true rfl)]
  obtain ⟨p1, p2, p3, p4⟩ := place_b hs hrx hf
  obtain ⟨W1, hW1⟩ := upw_ex s (placeF s rx)
  obtain ⟨W2, hW2⟩ := upw_ex s (placeF s rx - 1)
  have u1 := fun H => upper_cv s (placeF s rx) W1 hW1 H
  have u2 := fun H => upper_cv s (placeF s rx - 1) W2 hW2 H
  unfold upperV at u1 u2
  simp only [if_pos (show (-4 ≤ s ∧ s ≤ 8) ∧ placeF s 1 - 1 ≤ placeF s rx ∧ placeF s rx ≤ placeF s 9218868437227405311 by omega)] at u1
  simp only [if_pos (show (-4 ≤ s ∧ s ≤ 8) ∧ placeF s 1 - 1 ≤ placeF s rx - 1 ∧ placeF s rx - 1 ≤ placeF s 9218868437227405311 by omega)] at u2
  have hw1 : rx ≤ W1 := by
    rcases Nat.lt_or_ge W1 rx with h | h
    · have := hW1.2.2 rx h (by omega)
      omega
    · exact h
  have hw2 : W2 < rx := by
    rcases Nat.lt_or_ge W2 rx with h | h
    · exact h
    · have := hW2.2.1 rx hrx h
      omega
  have l1 := fl_le (show W1 < 9218868437227405312 by have := hW1.1; omega) hw1
  have l2 := (fl_lt hf hw2).1
  have l3 := (fl_gt hf hrx).2.2.2.2
  have hI : placeF s rx ≤ 1000000 ∧ -1000000 ≤ placeF s rx := by omega
  have hcmp : (binF .gtr .f64 ry 0 = some (.bool false)) ∨ (binF .gtr .f64 ry 0 = some (.bool true) ∧ binF .leq .f64 rx ry = some (.bool true) ∧ binF .geq .f64 rx ry = some (.bool false) ∧ ¬ J < placeF s rx) ∨
      (binF .gtr .f64 ry 0 = some (.bool true) ∧ binF .leq .f64 rx ry = some (.bool true) ∧ binF .geq .f64 rx ry = some (.bool true) ∧ J = placeF s rx) ∨
      (binF .gtr .f64 ry 0 = some (.bool true) ∧ binF .leq .f64 rx ry = some (.bool false) ∧ binF .geq .f64 rx ry = some (.bool true) ∧ ¬ placeF s rx < J) := by
    rcases Nat.eq_zero_or_pos ry with h | h
    · subst h
      exact Or.inl (by kernel_rfl)
    · have g := (fl_gt hfy h).2.2.1
      rw [hj h]
      rcases Nat.lt_trichotomy rx ry with hh | hh | hh
      · have := placeF_mono s hrx (Nat.le_of_lt hh) hfy
        exact Or.inr (Or.inl ⟨g, (fl_lt hfy hh).2.1, (fl_lt hfy hh).2.2.2.1, by omega⟩)
      · subst hh
        exact Or.inr (Or.inr (Or.inl ⟨g, (fl_eq hfy).2.1, (fl_eq hfy).2.2.2.1, rfl⟩))
      · have := placeF_mono s h (Nat.le_of_lt hh) hf
        exact Or.inr (Or.inr (Or.inr ⟨g, (fl_gt hf hh).2.1, (fl_gt hf hh).2.2.2.1, by omega⟩))
  generalize placeF s rx = I at *
  rcases hS with ⟨rfl, s1, s2⟩ | ⟨rfl, s1, s2⟩
  all_goals simp only [Int.reduceSub, Int.reduceNeg] at c3
  all_goals rcases hcmp with k1 | ⟨k1, k2, k3, k4⟩ | ⟨k1, k2, k3, k4⟩ | ⟨k1, k2, k3, k4⟩
  all_goals try subst k4
  · repeat' (first | (refine cond_by (F := ans) (fun _ => ?_) (fun _ => ?_)) | (refine wayK_by (F := ans) (fun _ hb_ => ?_) (fun _ hb_ => ?_) <;> simp only [hb_]) | (refine wayK_byN (F := ans) (fun _ hb_ => ?_) (fun _ hb_ => ?_) <;> simp only [hb_]) | (refine wayD_by (F := ans) (fun _ hb_ => ?_) (fun _ hb_ => ?_) <;> simp only [hb_]) | (refine wayD_byN (F := ans) (fun _ hb_ => ?_) (fun _ hb_ => ?_) <;> simp only [hb_]) | (refine rdK_by (F := ans) (fun _ => ?_) (fun _ => ?_)) | (refine effK_by (F := ans) (fun _ => ?_) (fun _ => ?_)) | (refine effK_by2 (F := ans) (fun _ => ?_) (fun _ => ?_)) | (refine rdD_by (F := ans) (fun _ => ?_) (fun _ => ?_)) | (refine effD_by (F := ans) (fun _ => ?_) (fun _ => ?_)) | (refine effD_by2 (F := ans) (fun _ => ?_) (fun _ => ?_)) | simp -implicitDefEqProofs (disch := first | omega | (simp only [List.length_append, List.length_cons, List.length_nil, List.length_drop, List.length_take]; omega)) only [evs, tys, lors, Nat.reduceAdd, Nat.reduceSub, Nat.reduceMul, Nat.reducePow, Nat.reduceBEq, Nat.reduceLT, Nat.reduceLeDiff, Nat.reduceEqDiff, Int.reduceLT, Int.reduceLE, Int.reduceEq, Int.reduceNe, Int.reduceToNat, Int.reduceAdd, Int.reduceSub, Int.reduceMul, Int.reducePow, Int.reduceDiv, Int.reduceMod, Int.reduceNeg, reduceCtorEq, codeKey, List.contains, List.elem, Ev.load, peek, pack, storeV, fieldAddr, field, cvB, w64, c1, c2, c3, a1, a2, u1, u2, l1, l2, l3, s1, s2, k1, un_neg_f, b_fl, begins_cv, eqX_eql, decide_true, decide_false])
    all_goals first | rfl | (exfalso; omega) | trace_state
  · repeat' (first | (refine cond_by (F := ans) (fun _ => ?_) (fun _ => ?_)) | (refine wayK_by (F := ans) (fun _ hb_ => ?_) (fun _ hb_ => ?_) <;> simp only [hb_]) | (refine wayK_byN (F := ans) (fun _ hb_ => ?_) (fun _ hb_ => ?_) <;> simp only [hb_]) | (refine wayD_by (F := ans) (fun _ hb_ => ?_) (fun _ hb_ => ?_) <;> simp only [hb_]) | (refine wayD_byN (F := ans) (fun _ hb_ => ?_) (fun _ hb_ => ?_) <;> simp only [hb_]) | (refine rdK_by (F := ans) (fun _ => ?_) (fun _ => ?_)) | (refine effK_by (F := ans) (fun _ => ?_) (fun _ => ?_)) | (refine effK_by2 (F := ans) (fun _ => ?_) (fun _ => ?_)) | (refine rdD_by (F := ans) (fun _ => ?_) (fun _ => ?_)) | (refine effD_by (F := ans) (fun _ => ?_) (fun _ => ?_)) | (refine effD_by2 (F := ans) (fun _ => ?_) (fun _ => ?_)) | simp -implicitDefEqProofs (disch := first | omega | (simp only [List.length_append, List.length_cons, List.length_nil, List.length_drop, List.length_take]; omega)) only [evs, tys, lors, Nat.reduceAdd, Nat.reduceSub, Nat.reduceMul, Nat.reducePow, Nat.reduceBEq, Nat.reduceLT, Nat.reduceLeDiff, Nat.reduceEqDiff, Int.reduceLT, Int.reduceLE, Int.reduceEq, Int.reduceNe, Int.reduceToNat, Int.reduceAdd, Int.reduceSub, Int.reduceMul, Int.reducePow, Int.reduceDiv, Int.reduceMod, Int.reduceNeg, reduceCtorEq, codeKey, List.contains, List.elem, Ev.load, peek, pack, storeV, fieldAddr, field, cvB, w64, c1, c2, c3, a1, a2, u1, u2, l1, l2, l3, s1, s2, k1, k2, k3, k4, un_neg_f, b_fl, begins_cv, eqX_eql, decide_true, decide_false])
    all_goals first | rfl | (exfalso; omega) | trace_state
  · repeat' (first | (refine cond_by (F := ans) (fun _ => ?_) (fun _ => ?_)) | (refine wayK_by (F := ans) (fun _ hb_ => ?_) (fun _ hb_ => ?_) <;> simp only [hb_]) | (refine wayK_byN (F := ans) (fun _ hb_ => ?_) (fun _ hb_ => ?_) <;> simp only [hb_]) | (refine wayD_by (F := ans) (fun _ hb_ => ?_) (fun _ hb_ => ?_) <;> simp only [hb_]) | (refine wayD_byN (F := ans) (fun _ hb_ => ?_) (fun _ hb_ => ?_) <;> simp only [hb_]) | (refine rdK_by (F := ans) (fun _ => ?_) (fun _ => ?_)) | (refine effK_by (F := ans) (fun _ => ?_) (fun _ => ?_)) | (refine effK_by2 (F := ans) (fun _ => ?_) (fun _ => ?_)) | (refine rdD_by (F := ans) (fun _ => ?_) (fun _ => ?_)) | (refine effD_by (F := ans) (fun _ => ?_) (fun _ => ?_)) | (refine effD_by2 (F := ans) (fun _ => ?_) (fun _ => ?_)) | simp -implicitDefEqProofs (disch := first | omega | (simp only [List.length_append, List.length_cons, List.length_nil, List.length_drop, List.length_take]; omega)) only [evs, tys, lors, Nat.reduceAdd, Nat.reduceSub, Nat.reduceMul, Nat.reducePow, Nat.reduceBEq, Nat.reduceLT, Nat.reduceLeDiff, Nat.reduceEqDiff, Int.reduceLT, Int.reduceLE, Int.reduceEq, Int.reduceNe, Int.reduceToNat, Int.reduceAdd, Int.reduceSub, Int.reduceMul, Int.reducePow, Int.reduceDiv, Int.reduceMod, Int.reduceNeg, reduceCtorEq, codeKey, List.contains, List.elem, Ev.load, peek, pack, storeV, fieldAddr, field, cvB, w64, c1, c2, c3, a1, a2, u1, u2, l1, l2, l3, s1, s2, k1, k2, k3, un_neg_f, b_fl, begins_cv, eqX_eql, Int.lt_irrefl, decide_true, decide_false])
    all_goals first | rfl | (exfalso; omega) | trace_state
  · repeat' (first | (refine cond_by (F := ans) (fun _ => ?_) (fun _ => ?_)) | (refine wayK_by (F := ans) (fun _ hb_ => ?_) (fun _ hb_ => ?_) <;> simp only [hb_]) | (refine wayK_byN (F := ans) (fun _ hb_ => ?_) (fun _ hb_ => ?_) <;> simp only [hb_]) | (refine wayD_by (F := ans) (fun _ hb_ => ?_) (fun _ hb_ => ?_) <;> simp only [hb_]) | (refine wayD_byN (F := ans) (fun _ hb_ => ?_) (fun _ hb_ => ?_) <;> simp only [hb_]) | (refine rdK_by (F := ans) (fun _ => ?_) (fun _ => ?_)) | (refine effK_by (F := ans) (fun _ => ?_) (fun _ => ?_)) | (refine effK_by2 (F := ans) (fun _ => ?_) (fun _ => ?_)) | (refine rdD_by (F := ans) (fun _ => ?_) (fun _ => ?_)) | (refine effD_by (F := ans) (fun _ => ?_) (fun _ => ?_)) | (refine effD_by2 (F := ans) (fun _ => ?_) (fun _ => ?_)) | simp -implicitDefEqProofs (disch := first | omega | (simp only [List.length_append, List.length_cons, List.length_nil, List.length_drop, List.length_take]; omega)) only [evs, tys, lors, Nat.reduceAdd, Nat.reduceSub, Nat.reduceMul, Nat.reducePow, Nat.reduceBEq, Nat.reduceLT, Nat.reduceLeDiff, Nat.reduceEqDiff, Int.reduceLT, Int.reduceLE, Int.reduceEq, Int.reduceNe, Int.reduceToNat, Int.reduceAdd, Int.reduceSub, Int.reduceMul, Int.reducePow, Int.reduceDiv, Int.reduceMod, Int.reduceNeg, reduceCtorEq, codeKey, List.contains, List.elem, Ev.load, peek, pack, storeV, fieldAddr, field, cvB, w64, c1, c2, c3, a1, a2, u1, u2, l1, l2, l3, s1, s2, k1, k2, k3, k4, un_neg_f, b_fl, begins_cv, eqX_eql, decide_true, decide_false])
    all_goals first | rfl | (exfalso; omega) | trace_state
  · repeat' (first | (refine cond_by (F := ans) (fun _ => ?_) (fun _ => ?_)) | (refine wayK_by (F := ans) (fun _ hb_ => ?_) (fun _ hb_ => ?_) <;> simp only [hb_]) | (refine wayK_byN (F := ans) (fun _ hb_ => ?_) (fun _ hb_ => ?_) <;> simp only [hb_]) | (refine wayD_by (F := ans) (fun _ hb_ => ?_) (fun _ hb_ => ?_) <;> simp only [hb_]) | (refine wayD_byN (F := ans) (fun _ hb_ => ?_) (fun _ hb_ => ?_) <;> simp only [hb_]) | (refine rdK_by (F := ans) (fun _ => ?_) (fun _ => ?_)) | (refine effK_by (F := ans) (fun _ => ?_) (fun _ => ?_)) | (refine effK_by2 (F := ans) (fun _ => ?_) (fun _ => ?_)) | (refine rdD_by (F := ans) (fun _ => ?_) (fun _ => ?_)) | (refine effD_by (F := ans) (fun _ => ?_) (fun _ => ?_)) | (refine effD_by2 (F := ans) (fun _ => ?_) (fun _ => ?_)) | simp -implicitDefEqProofs (disch := first | omega | (simp only [List.length_append, List.length_cons, List.length_nil, List.length_drop, List.length_take]; omega)) only [evs, tys, lors, Nat.reduceAdd, Nat.reduceSub, Nat.reduceMul, Nat.reducePow, Nat.reduceBEq, Nat.reduceLT, Nat.reduceLeDiff, Nat.reduceEqDiff, Int.reduceLT, Int.reduceLE, Int.reduceEq, Int.reduceNe, Int.reduceToNat, Int.reduceAdd, Int.reduceSub, Int.reduceMul, Int.reducePow, Int.reduceDiv, Int.reduceMod, Int.reduceNeg, reduceCtorEq, codeKey, List.contains, List.elem, Ev.load, peek, pack, storeV, fieldAddr, field, cvB, w64, c1, c2, c3, a1, a2, u1, u2, l1, l2, l3, s1, s2, k1, un_neg_f, b_fl, begins_cv, eqX_eql, decide_true, decide_false])
    all_goals first | rfl | (exfalso; omega) | trace_state
  · repeat' (first | (refine cond_by (F := ans) (fun _ => ?_) (fun _ => ?_)) | (refine wayK_by (F := ans) (fun _ hb_ => ?_) (fun _ hb_ => ?_) <;> simp only [hb_]) | (refine wayK_byN (F := ans) (fun _ hb_ => ?_) (fun _ hb_ => ?_) <;> simp only [hb_]) | (refine wayD_by (F := ans) (fun _ hb_ => ?_) (fun _ hb_ => ?_) <;> simp only [hb_]) | (refine wayD_byN (F := ans) (fun _ hb_ => ?_) (fun _ hb_ => ?_) <;> simp only [hb_]) | (refine rdK_by (F := ans) (fun _ => ?_) (fun _ => ?_)) | (refine effK_by (F := ans) (fun _ => ?_) (fun _ => ?_)) | (refine effK_by2 (F := ans) (fun _ => ?_) (fun _ => ?_)) | (refine rdD_by (F := ans) (fun _ => ?_) (fun _ => ?_)) | (refine effD_by (F := ans) (fun _ => ?_) (fun _ => ?_)) | (refine effD_by2 (F := ans) (fun _ => ?_) (fun _ => ?_)) | simp -implicitDefEqProofs (disch := first | omega | (simp only [List.length_append, List.length_cons, List.length_nil, List.length_drop, List.length_take]; omega)) only [evs, tys, lors, Nat.reduceAdd, Nat.reduceSub, Nat.reduceMul, Nat.reducePow, Nat.reduceBEq, Nat.reduceLT, Nat.reduceLeDiff, Nat.reduceEqDiff, Int.reduceLT, Int.reduceLE, Int.reduceEq, Int.reduceNe, Int.reduceToNat, Int.reduceAdd, Int.reduceSub, Int.reduceMul, Int.reducePow, Int.reduceDiv, Int.reduceMod, Int.reduceNeg, reduceCtorEq, codeKey, List.contains, List.elem, Ev.load, peek, pack, storeV, fieldAddr, field, cvB, w64, c1, c2, c3, a1, a2, u1, u2, l1, l2, l3, s1, s2, k1, k2, k3, k4, un_neg_f, b_fl, begins_cv, eqX_eql, decide_true, decide_false])
    all_goals first | rfl | (exfalso; omega) | trace_state
  · repeat' (first | (refine cond_by (F := ans) (fun _ => ?_) (fun _ => ?_)) | (refine wayK_by (F := ans) (fun _ hb_ => ?_) (fun _ hb_ => ?_) <;> simp only [hb_]) | (refine wayK_byN (F := ans) (fun _ hb_ => ?_) (fun _ hb_ => ?_) <;> simp only [hb_]) | (refine wayD_by (F := ans) (fun _ hb_ => ?_) (fun _ hb_ => ?_) <;> simp only [hb_]) | (refine wayD_byN (F := ans) (fun _ hb_ => ?_) (fun _ hb_ => ?_) <;> simp only [hb_]) | (refine rdK_by (F := ans) (fun _ => ?_) (fun _ => ?_)) | (refine effK_by (F := ans) (fun _ => ?_) (fun _ => ?_)) | (refine effK_by2 (F := ans) (fun _ => ?_) (fun _ => ?_)) | (refine rdD_by (F := ans) (fun _ => ?_) (fun _ => ?_)) | (refine effD_by (F := ans) (fun _ => ?_) (fun _ => ?_)) | (refine effD_by2 (F := ans) (fun _ => ?_) (fun _ => ?_)) | simp -implicitDefEqProofs (disch := first | omega | (simp only [List.length_append, List.length_cons, List.length_nil, List.length_drop, List.length_take]; omega)) only [evs, tys, lors, Nat.reduceAdd, Nat.reduceSub, Nat.reduceMul, Nat.reducePow, Nat.reduceBEq, Nat.reduceLT, Nat.reduceLeDiff, Nat.reduceEqDiff, Int.reduceLT, Int.reduceLE, Int.reduceEq, Int.reduceNe, Int.reduceToNat, Int.reduceAdd, Int.reduceSub, Int.reduceMul, Int.reducePow, Int.reduceDiv, Int.reduceMod, Int.reduceNeg, reduceCtorEq, codeKey, List.contains, List.elem, Ev.load, peek, pack, storeV, fieldAddr, field, cvB, w64, c1, c2, c3, a1, a2, u1, u2, l1, l2, l3, s1, s2, k1, k2, k3, un_neg_f, b_fl, begins_cv, eqX_eql, Int.lt_irrefl, decide_true, decide_false])
    all_goals first | rfl | (exfalso; omega) | trace_state
  · repeat' (first | (refine cond_by (F := ans) (fun _ => ?_) (fun _ => ?_)) | (refine wayK_by (F := ans) (fun _ hb_ => ?_) (fun _ hb_ => ?_) <;> simp only [hb_]) | (refine wayK_byN (F := ans) (fun _ hb_ => ?_) (fun _ hb_ => ?_) <;> simp only [hb_]) | (refine wayD_by (F := ans) (fun _ hb_ => ?_) (fun _ hb_ => ?_) <;> simp only [hb_]) | (refine wayD_byN (F := ans) (fun _ hb_ => ?_) (fun _ hb_ => ?_) <;> simp only [hb_]) | (refine rdK_by (F := ans) (fun _ => ?_) (fun _ => ?_)) | (refine effK_by (F := ans) (fun _ => ?_) (fun _ => ?_)) | (refine effK_by2 (F := ans) (fun _ => ?_) (fun _ => ?_)) | (refine rdD_by (F := ans) (fun _ => ?_) (fun _ => ?_)) | (refine effD_by (F := ans) (fun _ => ?_) (fun _ => ?_)) | (refine effD_by2 (F := ans) (fun _ => ?_) (fun _ => ?_)) | simp -implicitDefEqProofs (disch := first | omega | (simp only [List.length_append, List.length_cons, List.length_nil, List.length_drop, List.length_take]; omega)) only [evs, tys, lors, Nat.reduceAdd, Nat.reduceSub, Nat.reduceMul, Nat.reducePow, Nat.reduceBEq, Nat.reduceLT, Nat.reduceLeDiff, Nat.reduceEqDiff, Int.reduceLT, Int.reduceLE, Int.reduceEq, Int.reduceNe, Int.reduceToNat, Int.reduceAdd, Int.reduceSub, Int.reduceMul, Int.reducePow, Int.reduceDiv, Int.reduceMod, Int.reduceNeg, reduceCtorEq, codeKey, List.contains, List.elem, Ev.load, peek, pack, storeV, fieldAddr, field, cvB, w64, c1, c2, c3, a1, a2, u1, u2, l1, l2, l3, s1, s2, k1, k2, k3, k4, un_neg_f, b_fl, begins_cv, eqX_eql, decide_true, decide_false])
    all_goals first | rfl | (exfalso; omega) | trace_state
theorem scaleExact_ev (s : Int) (x : Nat) (hx : x < 18446744073709551616) (y : Nat) (hy : y < 18446744073709551616) : ans (callL lore 7 [.int .i64 s, .fl .f64 x, .fl .f64 y] []) = some (.bool true) := by
  have c1 := fun H => exp_cv s x hx H
  have c2 := fun H => exp_cv s y hy H
  unfold expV at c1 c2
  by_cases h1 : expE s x = 0
  · simp only [if_pos h1] at c1
    by_cases h2 : expE s y = 0
    · simp only [if_pos h2] at c2
      have hs : -4 ≤ s ∧ s ≤ 8 := by
        unfold expE at h1
        split at h1
        · assumption
        · exact absurd h1 (by decide)
      have hf : x % 9223372036854775808 < 9218868437227405312 := by
        unfold expE at h1
        rw [if_pos hs] at h1
        split at h1
        · assumption
        · exact absurd h1 (by decide)
      have hfy : y % 9223372036854775808 < 9218868437227405312 := by
        unfold expE at h2
        rw [if_pos hs] at h2
        split at h2
        · assumption
        · exact absurd h2 (by decide)
      obtain ⟨n1, n2, n3⟩ := neg_f hx
      have c3 := fun H => exp_cv s (x ^^^ 9223372036854775808) n1 H
      have hE3 : expE s (x ^^^ 9223372036854775808) = 0 := by unfold expE; rw [n2, if_pos hs, if_pos hf]
      unfold expV at c3
      simp only [if_pos hE3] at c3
      have hI3 : expI s (x ^^^ 9223372036854775808) = expI s x := by unfold expI; rw [n2]
      have hS3 : expS (x ^^^ 9223372036854775808) = 0 - expS x := by
        unfold expS
        rw [n2]
        by_cases hz : x % 9223372036854775808 = 0
        · rw [if_pos hz, if_pos hz]; rfl
        · rw [if_neg hz, if_neg hz]
          by_cases hp : x < 9223372036854775808
          · rw [if_pos hp, if_neg (by omega)]; rfl
          · rw [if_neg hp, if_pos (by omega)]; rfl
      rw [hI3, hS3] at c3
      have a1 := abs_cv x hx
      have a2 := abs_cv y hy
      by_cases hz : x % 9223372036854775808 = 0
      · have e1 : expS x = 0 := by unfold expS; rw [if_pos hz]
        have e2 : expI s x = 0 := by unfold expI; rw [if_pos hz]
        rw [e1, e2] at c1 c3
        rw [hz] at a1
        simp only [Int.reduceSub] at c3
        have f0 := (fl_eq (a := 0) (by decide)).2.2.2.2
        rw [call_start lore_ext7 Try.func7 rfl lore_okf7 (Nat.le_of_ble_eq_true rfl)]
        repeat' (first | (refine cond_by (F := ans) (fun _ => ?_) (fun _ => ?_)) | (refine wayK_by (F := ans) (fun _ hb_ => ?_) (fun _ hb_ => ?_) <;> simp only [hb_]) | (refine wayK_byN (F := ans) (fun _ hb_ => ?_) (fun _ hb_ => ?_) <;> simp only [hb_]) | (refine wayD_by (F := ans) (fun _ hb_ => ?_) (fun _ hb_ => ?_) <;> simp only [hb_]) | (refine wayD_byN (F := ans) (fun _ hb_ => ?_) (fun _ hb_ => ?_) <;> simp only [hb_]) | (refine rdK_by (F := ans) (fun _ => ?_) (fun _ => ?_)) | (refine effK_by (F := ans) (fun _ => ?_) (fun _ => ?_)) | (refine effK_by2 (F := ans) (fun _ => ?_) (fun _ => ?_)) | (refine rdD_by (F := ans) (fun _ => ?_) (fun _ => ?_)) | (refine effD_by (F := ans) (fun _ => ?_) (fun _ => ?_)) | (refine effD_by2 (F := ans) (fun _ => ?_) (fun _ => ?_)) | simp -implicitDefEqProofs (disch := first | omega | (simp only [List.length_append, List.length_cons, List.length_nil, List.length_drop, List.length_take]; omega)) only [evs, tys, lors, Nat.reduceAdd, Nat.reduceSub, Nat.reduceMul, Nat.reducePow, Nat.reduceBEq, Nat.reduceLT, Nat.reduceLeDiff, Nat.reduceEqDiff, Int.reduceLT, Int.reduceLE, Int.reduceEq, Int.reduceNe, Int.reduceToNat, Int.reduceAdd, Int.reduceSub, Int.reduceMul, Int.reducePow, Int.reduceDiv, Int.reduceMod, Int.reduceNeg, reduceCtorEq, codeKey, List.contains, List.elem, Ev.load, peek, pack, storeV, fieldAddr, field, cvB, w64, c1, c2, c3, a1, a2, f0, un_neg_f, b_fl, begins_cv, eqX_eql, and_self, decide_true, decide_false])
        all_goals first | rfl | (exfalso; omega) | trace_state
      · have e2 : expI s x = placeF s (x % 9223372036854775808) := by unfold expI; rw [if_neg hz]
        rw [e2] at c1 c3
        refine exact_core hs (expS x) (expI s y) hx (rx := x % 9223372036854775808) (by omega) hf (y % 9223372036854775808) hfy (fun h => by unfold expI; rw [if_neg (by omega)]) ?_ (expS y) c1 c2 c3 a1 a2 ?_
        · unfold expI
          split
          · decide
          · obtain ⟨p1, p2, p3, p4⟩ := place_b hs (b := y % 9223372036854775808) (by omega) hfy
            omega
        · unfold expS
          rw [if_neg hz]
          by_cases hp : x < 9223372036854775808
          · rw [if_pos hp]
            rw [Nat.mod_eq_of_lt hp] at hf hz
            have g := fl_gt hf (show 0 < x by omega)
            exact Or.inl ⟨rfl, g.2.2.1, g.1⟩
          · rw [if_neg hp]
            obtain ⟨r, rfl⟩ : ∃ r, x = 9223372036854775808 + r := ⟨x - 9223372036854775808, by omega⟩
            have g := fl_neg0 (b := r) (by omega) (by omega)
            exact Or.inr ⟨rfl, g.2, g.1⟩
    · simp only [if_neg h2] at c2
      rw [call_start lore_ext7 Try.func7 rfl lore_okf7 (Nat.le_of_ble_eq_true rfl)]
      generalize expE s y = e at *
      repeat' (first | (refine cond_by (F := ans) (fun _ => ?_) (fun _ => ?_)) | (refine wayK_by (F := ans) (fun _ hb_ => ?_) (fun _ hb_ => ?_) <;> simp only [hb_]) | (refine wayK_byN (F := ans) (fun _ hb_ => ?_) (fun _ hb_ => ?_) <;> simp only [hb_]) | (refine wayD_by (F := ans) (fun _ hb_ => ?_) (fun _ hb_ => ?_) <;> simp only [hb_]) | (refine wayD_byN (F := ans) (fun _ hb_ => ?_) (fun _ hb_ => ?_) <;> simp only [hb_]) | (refine rdK_by (F := ans) (fun _ => ?_) (fun _ => ?_)) | (refine effK_by (F := ans) (fun _ => ?_) (fun _ => ?_)) | (refine effK_by2 (F := ans) (fun _ => ?_) (fun _ => ?_)) | (refine rdD_by (F := ans) (fun _ => ?_) (fun _ => ?_)) | (refine effD_by (F := ans) (fun _ => ?_) (fun _ => ?_)) | (refine effD_by2 (F := ans) (fun _ => ?_) (fun _ => ?_)) | simp -implicitDefEqProofs (disch := first | omega | (simp only [List.length_append, List.length_cons, List.length_nil, List.length_drop, List.length_take]; omega)) only [evs, tys, lors, Nat.reduceAdd, Nat.reduceSub, Nat.reduceMul, Nat.reducePow, Nat.reduceBEq, Nat.reduceLT, Nat.reduceLeDiff, Nat.reduceEqDiff, Int.reduceLT, Int.reduceLE, Int.reduceEq, Int.reduceNe, Int.reduceToNat, Int.reduceAdd, Int.reduceSub, Int.reduceMul, Int.reducePow, Int.reduceDiv, Int.reduceMod, Int.reduceNeg, reduceCtorEq, codeKey, List.contains, List.elem, Ev.load, peek, pack, storeV, fieldAddr, field, cvB, w64, c1, c2, h2, un_neg_f, b_fl, begins_cv, eqX_eql, and_self, decide_true, decide_false])
      all_goals first | rfl | (exfalso; omega) | trace_state
  · simp only [if_neg h1] at c1
    have c2' : ∃ a b e, ∀ H, callV (CL lore) 19 [.int .i64 s, .fl .f64 y] H = some (.tup [.agg [.int .i64 a, .int .i64 b], .int .i64 e], H) := by
      by_cases hu : expE s y = 0
      · simp only [if_pos hu] at c2
        exact ⟨_, _, _, c2⟩
      · simp only [if_neg hu] at c2
        exact ⟨_, _, _, c2⟩
    obtain ⟨a, b, e, c2'⟩ := c2'
    rw [call_start lore_ext7 Try.func7 rfl lore_okf7 (Nat.le_of_ble_eq_true rfl)]
    generalize expE s x = e1 at *
    repeat' (first | (refine cond_by (F := ans) (fun _ => ?_) (fun _ => ?_)) | (refine wayK_by (F := ans) (fun _ hb_ => ?_) (fun _ hb_ => ?_) <;> simp only [hb_]) | (refine wayK_byN (F := ans) (fun _ hb_ => ?_) (fun _ hb_ => ?_) <;> simp only [hb_]) | (refine wayD_by (F := ans) (fun _ hb_ => ?_) (fun _ hb_ => ?_) <;> simp only [hb_]) | (refine wayD_byN (F := ans) (fun _ hb_ => ?_) (fun _ hb_ => ?_) <;> simp only [hb_]) | (refine rdK_by (F := ans) (fun _ => ?_) (fun _ => ?_)) | (refine effK_by (F := ans) (fun _ => ?_) (fun _ => ?_)) | (refine effK_by2 (F := ans) (fun _ => ?_) (fun _ => ?_)) | (refine rdD_by (F := ans) (fun _ => ?_) (fun _ => ?_)) | (refine effD_by (F := ans) (fun _ => ?_) (fun _ => ?_)) | (refine effD_by2 (F := ans) (fun _ => ?_) (fun _ => ?_)) | simp -implicitDefEqProofs (disch := first | omega | (simp only [List.length_append, List.length_cons, List.length_nil, List.length_drop, List.length_take]; omega)) only [evs, tys, lors, Nat.reduceAdd, Nat.reduceSub, Nat.reduceMul, Nat.reducePow, Nat.reduceBEq, Nat.reduceLT, Nat.reduceLeDiff, Nat.reduceEqDiff, Int.reduceLT, Int.reduceLE, Int.reduceEq, Int.reduceNe, Int.reduceToNat, Int.reduceAdd, Int.reduceSub, Int.reduceMul, Int.reducePow, Int.reduceDiv, Int.reduceMod, Int.reduceNeg, reduceCtorEq, codeKey, List.contains, List.elem, Ev.load, peek, pack, storeV, fieldAddr, field, cvB, w64, c1, c2', h1, un_neg_f, b_fl, begins_cv, eqX_eql, and_self, decide_true, decide_false])
    all_goals first | rfl | (exfalso; omega) | trace_state
end Go.Proofs.Ytacnpljkcpomnaa
