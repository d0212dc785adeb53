/-
TimesParts as plain Lean.
-/
import Derived.Test.YtgoillhmgpokoaaDoorG10
namespace Go.Proofs.YtgoillhmgpokoaaDoor
open Go Ev
set_option linter.all false
set_option maxHeartbeats 4000000
set_option maxRecDepth 5000
attribute [local irreducible] codeL condL loopL callL callV evOps evDraw rdK effK wayK oneK wayD oneD rdD effD chks chkB res

theorem div_parts {A B p : Int} (hp : 1 ≤ p) : A / p + B / p ≤ (A + B) / p ∧ (A + B) / p ≤ A / p + B / p + 1 := by
  have h1 := Int.mul_ediv_add_emod A p
  have h2 := Int.mul_ediv_add_emod B p
  have a0 := Int.emod_nonneg A (show p ≠ 0 by omega)
  have b0 := Int.emod_nonneg B (show p ≠ 0 by omega)
  have a1 := Int.emod_lt_of_pos A (show 0 < p by omega)
  have b1 := Int.emod_lt_of_pos B (show 0 < p by omega)
  refine ⟨(Int.le_ediv_iff_mul_le (by omega)).2 ?_, ?_⟩
  · rw [Int.add_mul, Int.mul_comm (A / p), Int.mul_comm (B / p)]
    omega
  · have : (A + B) / p < A / p + B / p + 2 := (Int.ediv_lt_iff_lt_mul (by omega)).2 (by
      rw [Int.add_mul, Int.add_mul, Int.mul_comm (A / p), Int.mul_comm (B / p)]
      omega)
    omega
theorem timesParts_ev (n p a b : Int) : ans (callL lore 4 [.agg [.int .i64 n, .int .i64 p], .int .i64 a, .int .i64 b] []) = some (.bool true) := by
  rw [call_start lore_ext4 Tryd.func4 rfl lore_okf4 (Nat.le_of_ble_eq_true rfl)]
  by_cases hr : RightR n p
  · have hd := div_parts (A := n * a) (B := n * b) (p := p) (by omega)
    have e : n * (a + b) = n * a + n * b := Int.mul_add n a b
    rw [← e] at hd
    have q0 : InM a → 0 ≤ n * a / p := fun h => Int.ediv_nonneg (Int.mul_nonneg (by omega) (by omega)) (by omega)
    have q1 : InM b → 0 ≤ n * b / p := fun h => Int.ediv_nonneg (Int.mul_nonneg (by omega) (by omega)) (by omega)
    have q2 : InM (a + b) → 0 ≤ n * (a + b) / p := fun h => Int.ediv_nonneg (Int.mul_nonneg (by omega) (by omega)) (by omega)
    repeat' (first | (refine cond_by (F := ans) (fun _ => ?_) (fun _ => ?_)) | (refine wayK_by (F := ans) (fun _ hb_ => ?_) (fun _ hb_ => ?_) <;> simp only [hb_]) | (refine wayK_byN (F := ans) (fun _ hb_ => ?_) (fun _ hb_ => ?_) <;> simp only [hb_]) | (refine wayD_by (F := ans) (fun _ hb_ => ?_) (fun _ hb_ => ?_) <;> simp only [hb_]) | (refine wayD_byN (F := ans) (fun _ hb_ => ?_) (fun _ hb_ => ?_) <;> simp only [hb_]) | (refine rdK_by (F := ans) (fun _ => ?_) (fun _ => ?_)) | (refine effK_by (F := ans) (fun _ => ?_) (fun _ => ?_)) | (refine effK_by2 (F := ans) (fun _ => ?_) (fun _ => ?_)) | (refine rdD_by (F := ans) (fun _ => ?_) (fun _ => ?_)) | (refine effD_by (F := ans) (fun _ => ?_) (fun _ => ?_)) | (refine effD_by2 (F := ans) (fun _ => ?_) (fun _ => ?_)) | simp -implicitDefEqProofs (disch := first | omega | (simp only [List.length_append, List.length_cons, List.length_nil, List.length_drop, List.length_take]; omega)) only [evs, tys, lors, Nat.reduceAdd, Nat.reduceSub, Nat.reduceMul, Nat.reducePow, Nat.reduceBEq, Nat.reduceLT, Nat.reduceLeDiff, Nat.reduceEqDiff, Int.reduceLT, Int.reduceLE, Int.reduceEq, Int.reduceNe, Int.reduceToNat, Int.reduceAdd, Int.reduceSub, Int.reduceMul, Int.reducePow, Int.reduceDiv, Int.reduceMod, Int.reduceNeg, reduceCtorEq, codeKey, List.contains, List.elem, Ev.load, peek, pack, storeV, fieldAddr, field, cvB, begins_cv, accrued_cv])
    all_goals first
      | contradiction
      | (exfalso; omega)
      | (refine congrArg some (congrArg V.bool ?_); rw [decide_eq_true_eq]; omega)
      | trace_state
  · repeat' (first | (refine cond_by (F := ans) (fun _ => ?_) (fun _ => ?_)) | (refine wayK_by (F := ans) (fun _ hb_ => ?_) (fun _ hb_ => ?_) <;> simp only [hb_]) | (refine wayK_byN (F := ans) (fun _ hb_ => ?_) (fun _ hb_ => ?_) <;> simp only [hb_]) | (refine wayD_by (F := ans) (fun _ hb_ => ?_) (fun _ hb_ => ?_) <;> simp only [hb_]) | (refine wayD_byN (F := ans) (fun _ hb_ => ?_) (fun _ hb_ => ?_) <;> simp only [hb_]) | (refine rdK_by (F := ans) (fun _ => ?_) (fun _ => ?_)) | (refine effK_by (F := ans) (fun _ => ?_) (fun _ => ?_)) | (refine effK_by2 (F := ans) (fun _ => ?_) (fun _ => ?_)) | (refine rdD_by (F := ans) (fun _ => ?_) (fun _ => ?_)) | (refine effD_by (F := ans) (fun _ => ?_) (fun _ => ?_)) | (refine effD_by2 (F := ans) (fun _ => ?_) (fun _ => ?_)) | simp -implicitDefEqProofs (disch := first | omega | (simp only [List.length_append, List.length_cons, List.length_nil, List.length_drop, List.length_take]; omega)) only [evs, tys, lors, Nat.reduceAdd, Nat.reduceSub, Nat.reduceMul, Nat.reducePow, Nat.reduceBEq, Nat.reduceLT, Nat.reduceLeDiff, Nat.reduceEqDiff, Int.reduceLT, Int.reduceLE, Int.reduceEq, Int.reduceNe, Int.reduceToNat, Int.reduceAdd, Int.reduceSub, Int.reduceMul, Int.reducePow, Int.reduceDiv, Int.reduceMod, Int.reduceNeg, reduceCtorEq, codeKey, List.contains, List.elem, Ev.load, peek, pack, storeV, fieldAddr, field, cvB, begins_cv, accrued_cv])
    all_goals first
      | contradiction
      | (exfalso; omega)
      | (refine congrArg some (congrArg V.bool ?_); rw [decide_eq_true_eq]; omega)
      | trace_state
end Go.Proofs.YtgoillhmgpokoaaDoor
