/-
scale.Exp, Ends, Coarser; the law's beginning.
-/
import Derived.Test.YtacnpljkcpomnaaF3
namespace Go.Proofs.Ytacnpljkcpomnaa
open Go Ev
set_option linter.all false
set_option maxHeartbeats 4000000
set_option maxRecDepth 5000
attribute [local irreducible] codeL condL loopL callL callV evOps evDraw rdK effK wayK oneK wayD oneD rdD effD chks chkB res

theorem not_dec8 {p : Prop} [Decidable p] : (!decide p) = decide (¬ p) := by by_cases h : p <;> simp [h]
theorem eqV39 (x y x' y' : Int) : eqV Try.prog 39 (.agg [.int .i64 x, .int .i64 y]) (.agg [.int .i64 x', .int .i64 y']) = some (decide (x = x' ∧ y = y')) := by
  have h1 : Try.prog.stoodInHeld 39 = false ∧ Try.prog.eqGuardType Try.prog.depth 39 = false := ⟨by kernel_rfl, by kernel_rfl⟩
  simp only [eqV, Try.underlying39]
  rw [if_pos h1]
  simp [eqFlat, eqCell, Try.underlying3]
  by_cases ha : x = x' <;> by_cases hb : y = y' <;> simp [ha, hb]
theorem eqX_eql (x y x' y' : Int) : eqOp Try.prog .eql 39 (.agg [.int .i64 x, .int .i64 y]) (.agg [.int .i64 x', .int .i64 y']) = some (.bool (decide (x = x' ∧ y = y'))) := by
  simp only [eqOp, eqV39]; rfl
theorem eqX_neq (x y x' y' : Int) : eqOp Try.prog .neq 39 (.agg [.int .i64 x, .int .i64 y]) (.agg [.int .i64 x', .int .i64 y']) = some (.bool (decide (¬ (x = x' ∧ y = y')))) := by
  simp only [eqOp, eqV39, Option.map, not_dec8]
theorem un_neg_f {b : Nat} : un .neg (.fl .f64 b) = some (.fl .f64 (b ^^^ 9223372036854775808)) := by
  show some (V.fl .f64 (b ^^^ 2 ^ (FloatKind.f64.format.exponentBits + FloatKind.f64.format.fractionBits))) = _
  rw [show 2 ^ (FloatKind.f64.format.exponentBits + FloatKind.f64.format.fractionBits) = 9223372036854775808 by decide]
/-- Where a float stands. -/
def expS (x : Nat) : Int := if x % 9223372036854775808 = 0 then 0 else if x < 9223372036854775808 then 1 else -1
def expI (s : Int) (x : Nat) : Int := if x % 9223372036854775808 = 0 then 0 else placeF s (x % 9223372036854775808)
def expE (s : Int) (x : Nat) : Int := if -4 ≤ s ∧ s ≤ 8 then if x % 9223372036854775808 < 9218868437227405312 then 0 else 81 else 2
def expV (s : Int) (x : Nat) : V := if expE s x = 0 then .tup [.agg [.int .i64 (expS x), .int .i64 (expI s x)], .int .i64 0] else .tup [.agg [.int .i64 0, .int .i64 0], .int .i64 (expE s x)]
theorem exp_cv (s : Int) (x : Nat) (hx : x < 18446744073709551616) (H : Heap) : callV (CL lore) 19 [.int .i64 s, .fl .f64 x] H = some (expV s x, H) := by
  refine callV_ans (r := some _) ?_ lore_sh19 rfl H
  rw [call_start lore_ext19 Try.func19 rfl lore_okf19 (Nat.le_of_ble_eq_true rfl)]
  have hsch := fun H => schemed_cv s H
  unfold expV expE
  by_cases hs : -4 ≤ s ∧ s ≤ 8
  · rw [if_pos hs]
    rw [decide_eq_true hs] at hsch
    by_cases hf : x % 9223372036854775808 < 9218868437227405312
    · rw [if_pos hf, if_pos rfl]
      have f1 : binF .sub .f64 x x = some (.fl .f64 0) := by rw [bF_sub, sub_self hf hx]; rfl
      have f2 : binF .neq .f64 0 0 = some (.bool false) := by kernel_rfl
      unfold expS expI
      by_cases hz : x % 9223372036854775808 = 0
      · rw [if_pos hz, if_pos hz]
        have f3 : binF .gtr .f64 x 0 = some (.bool false) ∧ binF .lss .f64 x 0 = some (.bool false) := by
          have hx2 : x = 0 ∨ x = 9223372036854775808 := by omega
          rcases hx2 with rfl | rfl
          · exact ⟨by kernel_rfl, by kernel_rfl⟩
          · exact ⟨by kernel_rfl, by kernel_rfl⟩
        repeat' (first | (refine cond_by (F := ans) (fun _ => ?_) (fun _ => ?_)) | (refine wayK_by (F := ans) (fun _ hb_ => ?_) (fun _ hb_ => ?_) <;> simp only [hb_]) | (refine wayK_byN (F := ans) (fun _ hb_ => ?_) (fun _ hb_ => ?_) <;> simp only [hb_]) | (refine wayD_by (F := ans) (fun _ hb_ => ?_) (fun _ hb_ => ?_) <;> simp only [hb_]) | (refine wayD_byN (F := ans) (fun _ hb_ => ?_) (fun _ hb_ => ?_) <;> simp only [hb_]) | (refine rdK_by (F := ans) (fun _ => ?_) (fun _ => ?_)) | (refine effK_by (F := ans) (fun _ => ?_) (fun _ => ?_)) | (refine effK_by2 (F := ans) (fun _ => ?_) (fun _ => ?_)) | (refine rdD_by (F := ans) (fun _ => ?_) (fun _ => ?_)) | (refine effD_by (F := ans) (fun _ => ?_) (fun _ => ?_)) | (refine effD_by2 (F := ans) (fun _ => ?_) (fun _ => ?_)) | simp -implicitDefEqProofs (disch := first | omega | (simp only [List.length_append, List.length_cons, List.length_nil, List.length_drop, List.length_take]; omega)) only [evs, tys, lors, Nat.reduceAdd, Nat.reduceSub, Nat.reduceMul, Nat.reducePow, Nat.reduceBEq, Nat.reduceLT, Nat.reduceLeDiff, Nat.reduceEqDiff, Int.reduceLT, Int.reduceLE, Int.reduceEq, Int.reduceNe, Int.reduceToNat, Int.reduceAdd, Int.reduceSub, Int.reduceMul, Int.reducePow, Int.reduceDiv, Int.reduceMod, Int.reduceNeg, reduceCtorEq, codeKey, List.contains, List.elem, Ev.load, peek, pack, storeV, fieldAddr, field, cvB, hsch, b_fl, w64, f1, f2, f3.1, f3.2])
      · rw [if_neg hz, if_neg hz]
        by_cases hp : x < 9223372036854775808
        · rw [if_pos hp]
          rw [Nat.mod_eq_of_lt hp] at hz hf ⊢
          have f3 : binF .gtr .f64 x 0 = some (.bool true) := by rw [bF_gtr, ord_gt hf (by omega)]; rfl
          have hpl := fun H => place_f_cv s hs x (by omega) hf H
          repeat' (first | (refine cond_by (F := ans) (fun _ => ?_) (fun _ => ?_)) | (refine wayK_by (F := ans) (fun _ hb_ => ?_) (fun _ hb_ => ?_) <;> simp only [hb_]) | (refine wayK_byN (F := ans) (fun _ hb_ => ?_) (fun _ hb_ => ?_) <;> simp only [hb_]) | (refine wayD_by (F := ans) (fun _ hb_ => ?_) (fun _ hb_ => ?_) <;> simp only [hb_]) | (refine wayD_byN (F := ans) (fun _ hb_ => ?_) (fun _ hb_ => ?_) <;> simp only [hb_]) | (refine rdK_by (F := ans) (fun _ => ?_) (fun _ => ?_)) | (refine effK_by (F := ans) (fun _ => ?_) (fun _ => ?_)) | (refine effK_by2 (F := ans) (fun _ => ?_) (fun _ => ?_)) | (refine rdD_by (F := ans) (fun _ => ?_) (fun _ => ?_)) | (refine effD_by (F := ans) (fun _ => ?_) (fun _ => ?_)) | (refine effD_by2 (F := ans) (fun _ => ?_) (fun _ => ?_)) | simp -implicitDefEqProofs (disch := first | omega | (simp only [List.length_append, List.length_cons, List.length_nil, List.length_drop, List.length_take]; omega)) only [evs, tys, lors, Nat.reduceAdd, Nat.reduceSub, Nat.reduceMul, Nat.reducePow, Nat.reduceBEq, Nat.reduceLT, Nat.reduceLeDiff, Nat.reduceEqDiff, Int.reduceLT, Int.reduceLE, Int.reduceEq, Int.reduceNe, Int.reduceToNat, Int.reduceAdd, Int.reduceSub, Int.reduceMul, Int.reducePow, Int.reduceDiv, Int.reduceMod, Int.reduceNeg, reduceCtorEq, codeKey, List.contains, List.elem, Ev.load, peek, pack, storeV, fieldAddr, field, cvB, hsch, b_fl, w64, f1, f2, f3, hpl])
        · rw [if_neg hp]
          obtain ⟨r, rfl⟩ : ∃ r, x = 9223372036854775808 + r := ⟨x - 9223372036854775808, by omega⟩
          have hr : (9223372036854775808 + r) % 9223372036854775808 = r := by omega
          rw [hr] at hz hf ⊢
          have f3 : binF .gtr .f64 (9223372036854775808 + r) 0 = some (.bool false) := by rw [bF_gtr, ord_neg hf (by omega)]; rfl
          have f4 : binF .lss .f64 (9223372036854775808 + r) 0 = some (.bool true) := by rw [bF_lss, ord_neg hf (by omega)]; rfl
          have hpl := fun H => place_f_cv s hs r (by omega) hf H
          have hx1 := (xor_hi (r := r) (by omega)).1
          repeat' (first | (refine cond_by (F := ans) (fun _ => ?_) (fun _ => ?_)) | (refine wayK_by (F := ans) (fun _ hb_ => ?_) (fun _ hb_ => ?_) <;> simp only [hb_]) | (refine wayK_byN (F := ans) (fun _ hb_ => ?_) (fun _ hb_ => ?_) <;> simp only [hb_]) | (refine wayD_by (F := ans) (fun _ hb_ => ?_) (fun _ hb_ => ?_) <;> simp only [hb_]) | (refine wayD_byN (F := ans) (fun _ hb_ => ?_) (fun _ hb_ => ?_) <;> simp only [hb_]) | (refine rdK_by (F := ans) (fun _ => ?_) (fun _ => ?_)) | (refine effK_by (F := ans) (fun _ => ?_) (fun _ => ?_)) | (refine effK_by2 (F := ans) (fun _ => ?_) (fun _ => ?_)) | (refine rdD_by (F := ans) (fun _ => ?_) (fun _ => ?_)) | (refine effD_by (F := ans) (fun _ => ?_) (fun _ => ?_)) | (refine effD_by2 (F := ans) (fun _ => ?_) (fun _ => ?_)) | simp -implicitDefEqProofs (disch := first | omega | (simp only [List.length_append, List.length_cons, List.length_nil, List.length_drop, List.length_take]; omega)) only [evs, tys, lors, Nat.reduceAdd, Nat.reduceSub, Nat.reduceMul, Nat.reducePow, Nat.reduceBEq, Nat.reduceLT, Nat.reduceLeDiff, Nat.reduceEqDiff, Int.reduceLT, Int.reduceLE, Int.reduceEq, Int.reduceNe, Int.reduceToNat, Int.reduceAdd, Int.reduceSub, Int.reduceMul, Int.reducePow, Int.reduceDiv, Int.reduceMod, Int.reduceNeg, reduceCtorEq, codeKey, List.contains, List.elem, Ev.load, peek, pack, storeV, fieldAddr, field, cvB, hsch, b_fl, w64, f1, f2, f3, f4, un_neg_f, hx1, hpl])
    · rw [if_neg hf, if_neg (by decide)]
      have f1 : binF .sub .f64 x x = some (.fl .f64 (nanMark .f64)) := by rw [bF_sub, sub_bad hf]; rfl
      have f2 : binF .neq .f64 (nanMark .f64) 0 = some (.bool true) := by rw [bF_neq, ord_nan]; rfl
      repeat' (first | (refine cond_by (F := ans) (fun _ => ?_) (fun _ => ?_)) | (refine wayK_by (F := ans) (fun _ hb_ => ?_) (fun _ hb_ => ?_) <;> simp only [hb_]) | (refine wayK_byN (F := ans) (fun _ hb_ => ?_) (fun _ hb_ => ?_) <;> simp only [hb_]) | (refine wayD_by (F := ans) (fun _ hb_ => ?_) (fun _ hb_ => ?_) <;> simp only [hb_]) | (refine wayD_byN (F := ans) (fun _ hb_ => ?_) (fun _ hb_ => ?_) <;> simp only [hb_]) | (refine rdK_by (F := ans) (fun _ => ?_) (fun _ => ?_)) | (refine effK_by (F := ans) (fun _ => ?_) (fun _ => ?_)) | (refine effK_by2 (F := ans) (fun _ => ?_) (fun _ => ?_)) | (refine rdD_by (F := ans) (fun _ => ?_) (fun _ => ?_)) | (refine effD_by (F := ans) (fun _ => ?_) (fun _ => ?_)) | (refine effD_by2 (F := ans) (fun _ => ?_) (fun _ => ?_)) | simp -implicitDefEqProofs (disch := first | omega | (simp only [List.length_append, List.length_cons, List.length_nil, List.length_drop, List.length_take]; omega)) only [evs, tys, lors, Nat.reduceAdd, Nat.reduceSub, Nat.reduceMul, Nat.reducePow, Nat.reduceBEq, Nat.reduceLT, Nat.reduceLeDiff, Nat.reduceEqDiff, Int.reduceLT, Int.reduceLE, Int.reduceEq, Int.reduceNe, Int.reduceToNat, Int.reduceAdd, Int.reduceSub, Int.reduceMul, Int.reducePow, Int.reduceDiv, Int.reduceMod, Int.reduceNeg, reduceCtorEq, codeKey, List.contains, List.elem, Ev.load, peek, pack, storeV, fieldAddr, field, cvB, hsch, b_fl, w64, f1, f2])
  · rw [if_neg hs, if_neg (by decide)]
    rw [decide_eq_false hs] at hsch
    repeat' (first | (refine cond_by (F := ans) (fun _ => ?_) (fun _ => ?_)) | (refine wayK_by (F := ans) (fun _ hb_ => ?_) (fun _ hb_ => ?_) <;> simp only [hb_]) | (refine wayK_byN (F := ans) (fun _ hb_ => ?_) (fun _ hb_ => ?_) <;> simp only [hb_]) | (refine wayD_by (F := ans) (fun _ hb_ => ?_) (fun _ hb_ => ?_) <;> simp only [hb_]) | (refine wayD_byN (F := ans) (fun _ hb_ => ?_) (fun _ hb_ => ?_) <;> simp only [hb_]) | (refine rdK_by (F := ans) (fun _ => ?_) (fun _ => ?_)) | (refine effK_by (F := ans) (fun _ => ?_) (fun _ => ?_)) | (refine effK_by2 (F := ans) (fun _ => ?_) (fun _ => ?_)) | (refine rdD_by (F := ans) (fun _ => ?_) (fun _ => ?_)) | (refine effD_by (F := ans) (fun _ => ?_) (fun _ => ?_)) | (refine effD_by2 (F := ans) (fun _ => ?_) (fun _ => ?_)) | simp -implicitDefEqProofs (disch := first | omega | (simp only [List.length_append, List.length_cons, List.length_nil, List.length_drop, List.length_take]; omega)) only [evs, tys, lors, Nat.reduceAdd, Nat.reduceSub, Nat.reduceMul, Nat.reducePow, Nat.reduceBEq, Nat.reduceLT, Nat.reduceLeDiff, Nat.reduceEqDiff, Int.reduceLT, Int.reduceLE, Int.reduceEq, Int.reduceNe, Int.reduceToNat, Int.reduceAdd, Int.reduceSub, Int.reduceMul, Int.reducePow, Int.reduceDiv, Int.reduceMod, Int.reduceNeg, reduceCtorEq, codeKey, List.contains, List.elem, Ev.load, peek, pack, storeV, fieldAddr, field, cvB, hsch])
theorem begins_cv (H : Heap) : callV (CL lore) 10 [] H = some (.bool true, H) := by
  refine callV_ans (r := some _) ?_ lore_sh10 rfl H
  rw [call_start lore_ext10 Try.func10 rfl lore_okf10 (Nat.le_of_ble_eq_true rfl)]
  have e1 := fun H => indexP_cv 1 1000 1 63 H
  rw [show indexV 1 1000 1 63 = .tup [.int .i64 47, .int .i64 0] by kernel_rfl] at e1
  have e2 := fun H => boundsP_cv 1 1000 1 48 H
  rw [show boundsV 1 1000 1 48 = .tup [.int .i64 64, .int .i64 67, .int .i64 0] by kernel_rfl] at e2
  have e3 := fun H => exp_cv 1 4608983858650965606 (by decide) H
  rw [show expV 1 4608983858650965606 = .tup [.agg [.int .i64 1, .int .i64 1], .int .i64 0] by kernel_rfl] at e3
  repeat' (first | (refine cond_by (F := ans) (fun _ => ?_) (fun _ => ?_)) | (refine wayK_by (F := ans) (fun _ hb_ => ?_) (fun _ hb_ => ?_) <;> simp only [hb_]) | (refine wayK_byN (F := ans) (fun _ hb_ => ?_) (fun _ hb_ => ?_) <;> simp only [hb_]) | (refine wayD_by (F := ans) (fun _ hb_ => ?_) (fun _ hb_ => ?_) <;> simp only [hb_]) | (refine wayD_byN (F := ans) (fun _ hb_ => ?_) (fun _ hb_ => ?_) <;> simp only [hb_]) | (refine rdK_by (F := ans) (fun _ => ?_) (fun _ => ?_)) | (refine effK_by (F := ans) (fun _ => ?_) (fun _ => ?_)) | (refine effK_by2 (F := ans) (fun _ => ?_) (fun _ => ?_)) | (refine rdD_by (F := ans) (fun _ => ?_) (fun _ => ?_)) | (refine effD_by (F := ans) (fun _ => ?_) (fun _ => ?_)) | (refine effD_by2 (F := ans) (fun _ => ?_) (fun _ => ?_)) | simp -implicitDefEqProofs (disch := first | omega | (simp only [List.length_append, List.length_cons, List.length_nil, List.length_drop, List.length_take]; omega)) only [evs, tys, lors, Nat.reduceAdd, Nat.reduceSub, Nat.reduceMul, Nat.reducePow, Nat.reduceBEq, Nat.reduceLT, Nat.reduceLeDiff, Nat.reduceEqDiff, Int.reduceLT, Int.reduceLE, Int.reduceEq, Int.reduceNe, Int.reduceToNat, Int.reduceAdd, Int.reduceSub, Int.reduceMul, Int.reducePow, Int.reduceDiv, Int.reduceMod, Int.reduceNeg, reduceCtorEq, codeKey, List.contains, List.elem, Ev.load, peek, pack, storeV, fieldAddr, field, cvB, w64, e1, e2, e3, coarser3_cv, eqX_eql, true_and, decide_true, and_self])
  all_goals trace_state
/-- The next lower schema's bucket. -/
theorem ends_cv (s : Int) (H : Heap) : callV (CL lore) 21 [.int .i64 s] H = if -4 ≤ s ∧ s ≤ 8 then some (.tup [.int .i64 (placeF s 1), .int .i64 (placeF s 9218868437227405311), .int .i64 0], H) else some (.tup [.int .i64 0, .int .i64 0, .int .i64 2], H) := by
  rw [callV_ans (r := if -4 ≤ s ∧ s ≤ 8 then some (.tup [.int .i64 (placeF s 1), .int .i64 (placeF s 9218868437227405311), .int .i64 0]) else some (.tup [.int .i64 0, .int .i64 0, .int .i64 2])) ?_ lore_sh21 rfl H]
  · split <;> rfl
  rw [call_start lore_ext21 Try.func21 rfl lore_okf21 (Nat.le_of_ble_eq_true rfl)]
  have hsch := fun H => schemed_cv s H
  by_cases hs : -4 ≤ s ∧ s ≤ 8
  · rw [if_pos hs]
    rw [decide_eq_true hs] at hsch
    have h1 := place_f_cv s hs 1 (by decide) (by decide)
    have h2 := place_f_cv s hs 9218868437227405311 (by decide) (by decide)
    repeat' (first | (refine cond_by (F := ans) (fun _ => ?_) (fun _ => ?_)) | (refine wayK_by (F := ans) (fun _ hb_ => ?_) (fun _ hb_ => ?_) <;> simp only [hb_]) | (refine wayK_byN (F := ans) (fun _ hb_ => ?_) (fun _ hb_ => ?_) <;> simp only [hb_]) | (refine wayD_by (F := ans) (fun _ hb_ => ?_) (fun _ hb_ => ?_) <;> simp only [hb_]) | (refine wayD_byN (F := ans) (fun _ hb_ => ?_) (fun _ hb_ => ?_) <;> simp only [hb_]) | (refine rdK_by (F := ans) (fun _ => ?_) (fun _ => ?_)) | (refine effK_by (F := ans) (fun _ => ?_) (fun _ => ?_)) | (refine effK_by2 (F := ans) (fun _ => ?_) (fun _ => ?_)) | (refine rdD_by (F := ans) (fun _ => ?_) (fun _ => ?_)) | (refine effD_by (F := ans) (fun _ => ?_) (fun _ => ?_)) | (refine effD_by2 (F := ans) (fun _ => ?_) (fun _ => ?_)) | simp -implicitDefEqProofs (disch := first | omega | (simp only [List.length_append, List.length_cons, List.length_nil, List.length_drop, List.length_take]; omega)) only [evs, tys, lors, Nat.reduceAdd, Nat.reduceSub, Nat.reduceMul, Nat.reducePow, Nat.reduceBEq, Nat.reduceLT, Nat.reduceLeDiff, Nat.reduceEqDiff, Int.reduceLT, Int.reduceLE, Int.reduceEq, Int.reduceNe, Int.reduceToNat, Int.reduceAdd, Int.reduceSub, Int.reduceMul, Int.reducePow, Int.reduceDiv, Int.reduceMod, Int.reduceNeg, reduceCtorEq, codeKey, List.contains, List.elem, Ev.load, peek, pack, storeV, fieldAddr, field, cvB, w64, hsch, h1, h2])
  · rw [if_neg hs]
    rw [decide_eq_false hs] at hsch
    repeat' (first | (refine cond_by (F := ans) (fun _ => ?_) (fun _ => ?_)) | (refine wayK_by (F := ans) (fun _ hb_ => ?_) (fun _ hb_ => ?_) <;> simp only [hb_]) | (refine wayK_byN (F := ans) (fun _ hb_ => ?_) (fun _ hb_ => ?_) <;> simp only [hb_]) | (refine wayD_by (F := ans) (fun _ hb_ => ?_) (fun _ hb_ => ?_) <;> simp only [hb_]) | (refine wayD_byN (F := ans) (fun _ hb_ => ?_) (fun _ hb_ => ?_) <;> simp only [hb_]) | (refine rdK_by (F := ans) (fun _ => ?_) (fun _ => ?_)) | (refine effK_by (F := ans) (fun _ => ?_) (fun _ => ?_)) | (refine effK_by2 (F := ans) (fun _ => ?_) (fun _ => ?_)) | (refine rdD_by (F := ans) (fun _ => ?_) (fun _ => ?_)) | (refine effD_by (F := ans) (fun _ => ?_) (fun _ => ?_)) | (refine effD_by2 (F := ans) (fun _ => ?_) (fun _ => ?_)) | simp -implicitDefEqProofs (disch := first | omega | (simp only [List.length_append, List.length_cons, List.length_nil, List.length_drop, List.length_take]; omega)) only [evs, tys, lors, Nat.reduceAdd, Nat.reduceSub, Nat.reduceMul, Nat.reducePow, Nat.reduceBEq, Nat.reduceLT, Nat.reduceLeDiff, Nat.reduceEqDiff, Int.reduceLT, Int.reduceLE, Int.reduceEq, Int.reduceNe, Int.reduceToNat, Int.reduceAdd, Int.reduceSub, Int.reduceMul, Int.reducePow, Int.reduceDiv, Int.reduceMod, Int.reduceNeg, reduceCtorEq, codeKey, List.contains, List.elem, Ev.load, peek, pack, storeV, fieldAddr, field, cvB, hsch])
end Go.Proofs.Ytacnpljkcpomnaa
