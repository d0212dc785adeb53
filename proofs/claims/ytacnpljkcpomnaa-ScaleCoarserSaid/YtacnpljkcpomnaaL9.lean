/-
ScaleCoarser as plain Lean.
-/
import Derived.Test.YtacnpljkcpomnaaF11
namespace Go.Proofs.Ytacnpljkcpomnaa
open Go Ev
set_option linter.all false
set_option maxHeartbeats 4000000
set_option maxRecDepth 5000
attribute [local irreducible] codeL condL loopL callL callV evOps evDraw rdK effK wayK oneK wayD oneD rdD effD chks chkB res

theorem one_place : ∀ n : Nat, n < 13 → placeF ((n : Int) - 4) 4607182418800017408 = 0 := by decide +kernel
theorem place_one {s : Int} (hs : -4 ≤ s ∧ s ≤ 8) : placeF s 4607182418800017408 = 0 := by
  have h := one_place (s + 4).toNat (by omega)
  rwa [show (((s + 4).toNat : Nat) : Int) - 4 = s by omega] at h
/-- The index of a finite float is that of a float above nought. -/
theorem exp_as {s : Int} (hs : -4 ≤ s ∧ s ≤ 8) {x : Nat} (hf : x % 9223372036854775808 < 9218868437227405312) : ∃ r, 0 < r ∧ r < 9218868437227405312 ∧ ∀ t, -4 ≤ t ∧ t ≤ 8 → expI t x = placeF t r := by
  by_cases hz : x % 9223372036854775808 = 0
  · exact ⟨4607182418800017408, by decide, by decide, fun t ht => by unfold expI; rw [if_pos hz, place_one ht]⟩
  · exact ⟨x % 9223372036854775808, by omega, hf, fun t ht => by unfold expI; rw [if_neg hz]⟩
theorem place_coarser (s : Int) {r : Nat} (h0 : 0 < r) (h1 : r < 9218868437227405312) : placeF (s - 1) r = coarV (placeF s r) := by
  rw [placeF_eq s h0 h1, placeF_eq (s - 1) h0 h1]
  exact placeV_coarser s (VF_pos h0)
theorem upw_coarse {s i : Int} {W : Nat} (h : UpW (s - 1) i W) : UpW s (2 * i) W := by
  obtain ⟨a1, a2, a3⟩ := h
  refine ⟨a1, fun b h0 h1 => ?_, fun b h0 h1 => ?_⟩
  · have := a2 b h0 h1
    rw [place_coarser s h0 (by omega)] at this
    unfold coarV at this
    omega
  · have := a3 b h0 h1
    rw [place_coarser s (by omega) (by omega)] at this
    unfold coarV at this
    omega
theorem scaleCoarser_ev (s : Int) (hb : -9223372036854775808 ≤ s ∧ s ≤ 9223372036854775807) (x : Nat) (hx : x < 18446744073709551616) : ans (callL lore 9 [.int .i64 s, .fl .f64 x] []) = some (.bool true) := by
  rw [call_start lore_ext9 Try.func9 rfl lore_okf9 (Nat.le_of_ble_eq_true rfl)]
  have c1 := fun H => exp_cv s x hx H
  have c2 := fun H => exp_cv (s - 1) x hx H
  unfold expV expE at c1 c2
  by_cases hs : -4 ≤ s ∧ s ≤ 8
  · by_cases hf : x % 9223372036854775808 < 9218868437227405312
    · simp only [if_pos hs, if_pos hf, if_true] at c1
      by_cases h4 : s = -4
      · subst h4
        simp only [Int.reduceSub, Int.reduceLE, Int.reduceNeg, false_and, if_false, Int.reduceEq] at c2
        repeat' (first | (refine cond_by (F := ans) (fun _ => ?_) (fun _ => ?_)) | (refine wayK_by (F := ans) (fun _ hb_ => ?_) (fun _ hb_ => ?_) <;> simp only [hb_]) | (refine wayK_byN (F := ans) (fun _ hb_ => ?_) (fun _ hb_ => ?_) <;> simp only [hb_]) | (refine wayD_by (F := ans) (fun _ hb_ => ?_) (fun _ hb_ => ?_) <;> simp only [hb_]) | (refine wayD_byN (F := ans) (fun _ hb_ => ?_) (fun _ hb_ => ?_) <;> simp only [hb_]) | (refine rdK_by (F := ans) (fun _ => ?_) (fun _ => ?_)) | (refine effK_by (F := ans) (fun _ => ?_) (fun _ => ?_)) | (refine effK_by2 (F := ans) (fun _ => ?_) (fun _ => ?_)) | (refine rdD_by (F := ans) (fun _ => ?_) (fun _ => ?_)) | (refine effD_by (F := ans) (fun _ => ?_) (fun _ => ?_)) | (refine effD_by2 (F := ans) (fun _ => ?_) (fun _ => ?_)) | simp -implicitDefEqProofs (disch := first | omega | (simp only [List.length_append, List.length_cons, List.length_nil, List.length_drop, List.length_take]; omega)) only [evs, tys, lors, Nat.reduceAdd, Nat.reduceSub, Nat.reduceMul, Nat.reducePow, Nat.reduceBEq, Nat.reduceLT, Nat.reduceLeDiff, Nat.reduceEqDiff, Int.reduceLT, Int.reduceLE, Int.reduceEq, Int.reduceNe, Int.reduceToNat, Int.reduceAdd, Int.reduceSub, Int.reduceMul, Int.reducePow, Int.reduceDiv, Int.reduceMod, Int.reduceNeg, reduceCtorEq, codeKey, List.contains, List.elem, Ev.load, peek, pack, storeV, fieldAddr, field, cvB, w64, c1, c2, begins_cv, eqX_eql, and_self, decide_true, decide_false])
        all_goals first
          | rfl
          | trace_state
      · have hs' : -4 ≤ s - 1 ∧ s - 1 ≤ 8 := by omega
        simp only [if_pos hs', if_pos hf, if_true] at c2
        obtain ⟨r, r0, r1, hr⟩ := exp_as hs hf
        rw [hr s hs] at c1
        rw [hr (s - 1) hs'] at c2
        obtain ⟨p1, p2, p3, p4⟩ := place_b hs r0 r1
        obtain ⟨q1, q2, q3, q4⟩ := place_b hs' r0 r1
        have hc := place_coarser s r0 r1
        have c3 := fun H => coarser_cv (placeF s r) (by omega) (by omega) H
        rw [← hc] at c3
        have hc' : placeF (s - 1) r = -((-(placeF s r)) / 2) := hc
        have c4 := fun H => ends_cv s H
        simp only [if_pos hs] at c4
        obtain ⟨W, hW⟩ := upw_ex (s - 1) (placeF (s - 1) r)
        have c5 := fun H => upper_cv (s - 1) (placeF (s - 1) r) W hW H
        have c6 := fun H => upper_cv s (2 * placeF (s - 1) r) W (upw_coarse hW) H
        have c7 := bits_cv W (by have := hW.1; omega)
        unfold upperV at c5 c6
        simp only [if_pos (show (-4 ≤ s - 1 ∧ s - 1 ≤ 8) ∧ placeF (s - 1) 1 - 1 ≤ placeF (s - 1) r ∧ placeF (s - 1) r ≤ placeF (s - 1) 9218868437227405311 by omega)] at c5
        have hS : -1 ≤ expS x ∧ expS x ≤ 1 := by unfold expS; split <;> (try split) <;> decide
        by_cases h2 : placeF s 9218868437227405311 < 2 * placeF (s - 1) r
        · simp only [if_neg (show ¬ ((-4 ≤ s ∧ s ≤ 8) ∧ placeF s 1 - 1 ≤ 2 * placeF (s - 1) r ∧ 2 * placeF (s - 1) r ≤ placeF s 9218868437227405311) by omega)] at c6
          generalize placeF s 1 = A at *
          generalize placeF s 9218868437227405311 = B at *
          generalize placeF s r = I at *
          generalize placeF (s - 1) r = J at *
          generalize expS x = S at *
          repeat' (first | (refine cond_by (F := ans) (fun _ => ?_) (fun _ => ?_)) | (refine wayK_by (F := ans) (fun _ hb_ => ?_) (fun _ hb_ => ?_) <;> simp only [hb_]) | (refine wayK_byN (F := ans) (fun _ hb_ => ?_) (fun _ hb_ => ?_) <;> simp only [hb_]) | (refine wayD_by (F := ans) (fun _ hb_ => ?_) (fun _ hb_ => ?_) <;> simp only [hb_]) | (refine wayD_byN (F := ans) (fun _ hb_ => ?_) (fun _ hb_ => ?_) <;> simp only [hb_]) | (refine rdK_by (F := ans) (fun _ => ?_) (fun _ => ?_)) | (refine effK_by (F := ans) (fun _ => ?_) (fun _ => ?_)) | (refine effK_by2 (F := ans) (fun _ => ?_) (fun _ => ?_)) | (refine rdD_by (F := ans) (fun _ => ?_) (fun _ => ?_)) | (refine effD_by (F := ans) (fun _ => ?_) (fun _ => ?_)) | (refine effD_by2 (F := ans) (fun _ => ?_) (fun _ => ?_)) | simp -implicitDefEqProofs (disch := first | omega | (simp only [List.length_append, List.length_cons, List.length_nil, List.length_drop, List.length_take]; omega)) only [evs, tys, lors, Nat.reduceAdd, Nat.reduceSub, Nat.reduceMul, Nat.reducePow, Nat.reduceBEq, Nat.reduceLT, Nat.reduceLeDiff, Nat.reduceEqDiff, Int.reduceLT, Int.reduceLE, Int.reduceEq, Int.reduceNe, Int.reduceToNat, Int.reduceAdd, Int.reduceSub, Int.reduceMul, Int.reducePow, Int.reduceDiv, Int.reduceMod, Int.reduceNeg, reduceCtorEq, codeKey, List.contains, List.elem, Ev.load, peek, pack, storeV, fieldAddr, field, cvB, w64, c1, c2, c3, c4, c5, c6, c7, h2, begins_cv, eqX_eql, and_self, decide_true, decide_false])
          all_goals first
            | rfl
            | (exfalso; omega)
            | trace_state
        · simp only [if_pos (show (-4 ≤ s ∧ s ≤ 8) ∧ placeF s 1 - 1 ≤ 2 * placeF (s - 1) r ∧ 2 * placeF (s - 1) r ≤ placeF s 9218868437227405311 by omega)] at c6
          generalize placeF s 1 = A at *
          generalize placeF s 9218868437227405311 = B at *
          generalize placeF s r = I at *
          generalize placeF (s - 1) r = J at *
          generalize expS x = S at *
          repeat' (first | (refine cond_by (F := ans) (fun _ => ?_) (fun _ => ?_)) | (refine wayK_by (F := ans) (fun _ hb_ => ?_) (fun _ hb_ => ?_) <;> simp only [hb_]) | (refine wayK_byN (F := ans) (fun _ hb_ => ?_) (fun _ hb_ => ?_) <;> simp only [hb_]) | (refine wayD_by (F := ans) (fun _ hb_ => ?_) (fun _ hb_ => ?_) <;> simp only [hb_]) | (refine wayD_byN (F := ans) (fun _ hb_ => ?_) (fun _ hb_ => ?_) <;> simp only [hb_]) | (refine rdK_by (F := ans) (fun _ => ?_) (fun _ => ?_)) | (refine effK_by (F := ans) (fun _ => ?_) (fun _ => ?_)) | (refine effK_by2 (F := ans) (fun _ => ?_) (fun _ => ?_)) | (refine rdD_by (F := ans) (fun _ => ?_) (fun _ => ?_)) | (refine effD_by (F := ans) (fun _ => ?_) (fun _ => ?_)) | (refine effD_by2 (F := ans) (fun _ => ?_) (fun _ => ?_)) | simp -implicitDefEqProofs (disch := first | omega | (simp only [List.length_append, List.length_cons, List.length_nil, List.length_drop, List.length_take]; omega)) only [evs, tys, lors, Nat.reduceAdd, Nat.reduceSub, Nat.reduceMul, Nat.reducePow, Nat.reduceBEq, Nat.reduceLT, Nat.reduceLeDiff, Nat.reduceEqDiff, Int.reduceLT, Int.reduceLE, Int.reduceEq, Int.reduceNe, Int.reduceToNat, Int.reduceAdd, Int.reduceSub, Int.reduceMul, Int.reducePow, Int.reduceDiv, Int.reduceMod, Int.reduceNeg, reduceCtorEq, codeKey, List.contains, List.elem, Ev.load, peek, pack, storeV, fieldAddr, field, cvB, w64, c1, c2, c3, c4, c5, c6, c7, h2, begins_cv, eqX_eql, and_self, decide_true, decide_false])
          all_goals first
            | rfl
            | (exfalso; omega)
            | trace_state
    · simp only [if_pos hs, if_neg hf, Int.reduceEq, if_false] at c1
      have c2' : ∃ e, e ≠ 0 ∧ ∀ H, callV (CL lore) 19 [.int .i64 (s - 1), .fl .f64 x] H = some (.tup [.agg [.int .i64 0, .int .i64 0], .int .i64 e], H) := by
        by_cases hs' : -4 ≤ s - 1 ∧ s - 1 ≤ 8
        · exact ⟨81, by decide, fun H => by rw [c2, if_pos hs', if_neg hf, if_neg (by decide)]⟩
        · exact ⟨2, by decide, fun H => by rw [c2, if_neg hs', if_neg (by decide)]⟩
      obtain ⟨e, he, c2'⟩ := c2'
      repeat' (first | (refine cond_by (F := ans) (fun _ => ?_) (fun _ => ?_)) | (refine wayK_by (F := ans) (fun _ hb_ => ?_) (fun _ hb_ => ?_) <;> simp only [hb_]) | (refine wayK_byN (F := ans) (fun _ hb_ => ?_) (fun _ hb_ => ?_) <;> simp only [hb_]) | (refine wayD_by (F := ans) (fun _ hb_ => ?_) (fun _ hb_ => ?_) <;> simp only [hb_]) | (refine wayD_byN (F := ans) (fun _ hb_ => ?_) (fun _ hb_ => ?_) <;> simp only [hb_]) | (refine rdK_by (F := ans) (fun _ => ?_) (fun _ => ?_)) | (refine effK_by (F := ans) (fun _ => ?_) (fun _ => ?_)) | (refine effK_by2 (F := ans) (fun _ => ?_) (fun _ => ?_)) | (refine rdD_by (F := ans) (fun _ => ?_) (fun _ => ?_)) | (refine effD_by (F := ans) (fun _ => ?_) (fun _ => ?_)) | (refine effD_by2 (F := ans) (fun _ => ?_) (fun _ => ?_)) | simp -implicitDefEqProofs (disch := first | omega | (simp only [List.length_append, List.length_cons, List.length_nil, List.length_drop, List.length_take]; omega)) only [evs, tys, lors, Nat.reduceAdd, Nat.reduceSub, Nat.reduceMul, Nat.reducePow, Nat.reduceBEq, Nat.reduceLT, Nat.reduceLeDiff, Nat.reduceEqDiff, Int.reduceLT, Int.reduceLE, Int.reduceEq, Int.reduceNe, Int.reduceToNat, Int.reduceAdd, Int.reduceSub, Int.reduceMul, Int.reducePow, Int.reduceDiv, Int.reduceMod, Int.reduceNeg, reduceCtorEq, codeKey, List.contains, List.elem, Ev.load, peek, pack, storeV, fieldAddr, field, cvB, w64, c1, c2', begins_cv, eqX_eql, and_self, decide_true, decide_false])
      all_goals first
        | rfl
        | trace_state
  · simp only [if_neg hs, Int.reduceEq, if_false] at c1
    have c2' : ∃ a b e, ∀ H, callV (CL lore) 19 [.int .i64 (IntKind.i64.wrap (s - 1)), .fl .f64 x] H = some (.tup [.agg [.int .i64 a, .int .i64 b], .int .i64 e], H) := by
      have h := fun H => exp_cv (IntKind.i64.wrap (s - 1)) x hx H
      unfold expV at h
      generalize IntKind.i64.wrap (s - 1) = u at *
      by_cases hu : expE u x = 0
      · simp only [if_pos hu] at h
        exact ⟨_, _, _, h⟩
      · simp only [if_neg hu] at h
        exact ⟨_, _, _, h⟩
    obtain ⟨a, b, e, c2'⟩ := c2'
    clear c2
    rcases Int.lt_or_le (-9223372036854775808) s with h | h
    · rw [w_i64 (by omega) (by omega)] at c2'
      repeat' (first | (refine cond_by (F := ans) (fun _ => ?_) (fun _ => ?_)) | (refine wayK_by (F := ans) (fun _ hb_ => ?_) (fun _ hb_ => ?_) <;> simp only [hb_]) | (refine wayK_byN (F := ans) (fun _ hb_ => ?_) (fun _ hb_ => ?_) <;> simp only [hb_]) | (refine wayD_by (F := ans) (fun _ hb_ => ?_) (fun _ hb_ => ?_) <;> simp only [hb_]) | (refine wayD_byN (F := ans) (fun _ hb_ => ?_) (fun _ hb_ => ?_) <;> simp only [hb_]) | (refine rdK_by (F := ans) (fun _ => ?_) (fun _ => ?_)) | (refine effK_by (F := ans) (fun _ => ?_) (fun _ => ?_)) | (refine effK_by2 (F := ans) (fun _ => ?_) (fun _ => ?_)) | (refine rdD_by (F := ans) (fun _ => ?_) (fun _ => ?_)) | (refine effD_by (F := ans) (fun _ => ?_) (fun _ => ?_)) | (refine effD_by2 (F := ans) (fun _ => ?_) (fun _ => ?_)) | simp -implicitDefEqProofs (disch := first | omega | (simp only [List.length_append, List.length_cons, List.length_nil, List.length_drop, List.length_take]; omega)) only [evs, tys, lors, Nat.reduceAdd, Nat.reduceSub, Nat.reduceMul, Nat.reducePow, Nat.reduceBEq, Nat.reduceLT, Nat.reduceLeDiff, Nat.reduceEqDiff, Int.reduceLT, Int.reduceLE, Int.reduceEq, Int.reduceNe, Int.reduceToNat, Int.reduceAdd, Int.reduceSub, Int.reduceMul, Int.reducePow, Int.reduceDiv, Int.reduceMod, Int.reduceNeg, reduceCtorEq, codeKey, List.contains, List.elem, Ev.load, peek, pack, storeV, fieldAddr, field, cvB, w64, c1, c2', begins_cv, eqX_eql, and_self, decide_true, decide_false])
      all_goals first
        | rfl
        | trace_state
    · obtain rfl : s = -9223372036854775808 := by omega
      simp only [Int.reduceSub, Int.reduceNeg] at c2'
      repeat' (first | (refine cond_by (F := ans) (fun _ => ?_) (fun _ => ?_)) | (refine wayK_by (F := ans) (fun _ hb_ => ?_) (fun _ hb_ => ?_) <;> simp only [hb_]) | (refine wayK_byN (F := ans) (fun _ hb_ => ?_) (fun _ hb_ => ?_) <;> simp only [hb_]) | (refine wayD_by (F := ans) (fun _ hb_ => ?_) (fun _ hb_ => ?_) <;> simp only [hb_]) | (refine wayD_byN (F := ans) (fun _ hb_ => ?_) (fun _ hb_ => ?_) <;> simp only [hb_]) | (refine rdK_by (F := ans) (fun _ => ?_) (fun _ => ?_)) | (refine effK_by (F := ans) (fun _ => ?_) (fun _ => ?_)) | (refine effK_by2 (F := ans) (fun _ => ?_) (fun _ => ?_)) | (refine rdD_by (F := ans) (fun _ => ?_) (fun _ => ?_)) | (refine effD_by (F := ans) (fun _ => ?_) (fun _ => ?_)) | (refine effD_by2 (F := ans) (fun _ => ?_) (fun _ => ?_)) | simp -implicitDefEqProofs (disch := first | omega | (simp only [List.length_append, List.length_cons, List.length_nil, List.length_drop, List.length_take]; omega)) only [evs, tys, lors, Nat.reduceAdd, Nat.reduceSub, Nat.reduceMul, Nat.reducePow, Nat.reduceBEq, Nat.reduceLT, Nat.reduceLeDiff, Nat.reduceEqDiff, Int.reduceLT, Int.reduceLE, Int.reduceEq, Int.reduceNe, Int.reduceToNat, Int.reduceAdd, Int.reduceSub, Int.reduceMul, Int.reducePow, Int.reduceDiv, Int.reduceMod, Int.reduceNeg, reduceCtorEq, codeKey, List.contains, List.elem, Ev.load, peek, pack, storeV, fieldAddr, field, cvB, w64, c1, c2', begins_cv, eqX_eql, and_self, decide_true, decide_false])
      all_goals first
        | rfl
        | trace_state
end Go.Proofs.Ytacnpljkcpomnaa
