/-
ScaleIndexes as plain Lean, 'begins' being given.
-/
import Derived.Test.YtacnpljkcpomnaaS6
namespace Go.Proofs.Ytacnpljkcpomnaa
open Go Ev
set_option linter.all false
set_option maxHeartbeats 4000000
set_option maxRecDepth 5000
attribute [local irreducible] codeL condL loopL callL callV evOps evDraw rdK effK wayK oneK wayD oneD rdD effD chks chkB res

theorem eqB_neq (a b : Bool) : eqOp Try.prog .neq 4 (.bool a) (.bool b) = some (.bool (!(a == b))) := by
  simp only [eqOp, eqV, Try.underlying4]; rfl
theorem eqB_eql (a b : Bool) : eqOp Try.prog .eql 4 (.bool a) (.bool b) = some (.bool (a == b)) := by
  simp only [eqOp, eqV, Try.underlying4]; rfl
theorem scaleIndexes_of (hbg : ∀ H, callV (CL lore) 10 [] H = some (.bool true, H)) (L M D v i : Int) : ans (callL lore 4 [.agg [.int .i64 L, .int .i64 M, .int .i64 D], .int .i64 v, .int .i64 i] []) = some (.bool true) := by
  rw [call_start lore_ext4 Try.func4 rfl lore_okf4 (Nat.le_of_ble_eq_true rfl)]
  have e1 := fun H => indexP_cv L M D v H
  have e2 := fun H => indexD_cv L M D v H
  have e3 := fun H => boundsP_cv L M D i H
  have e4 := fun H => boundsD_cv L M D i H
  have hv : ∃ a b, indexV L M D v = .tup [.int .i64 a, .int .i64 b] := by
    unfold indexV
    repeat' split
    all_goals exact ⟨_, _, rfl⟩
  have hw : ∃ a b c, boundsV L M D i = .tup [.int .i64 a, .int .i64 b, .int .i64 c] := by
    unfold boundsV
    repeat' split
    all_goals exact ⟨_, _, _, rfl⟩
  obtain ⟨a, b, hv⟩ := hv
  obtain ⟨c, d, f, hw⟩ := hw
  rw [hv] at e1 e2
  rw [hw] at e3 e4
  by_cases hr : RightS L M D
  · have hc := fun H => countd_cv L M D hr H
    have hn := fun H => count_cv L M D H
    have hk := fun H => check_cv L M D H
    simp only [if_pos hr] at hn hk
    generalize topOf L M D = t at *
    have hR : ∀ H, callV (CL lore) 12 [.agg [.int .i64 L, .int .i64 M, .int .i64 D]] H = some (.bool true, H) := fun H => by rw [right_cv, decide_eq_true hr]
    repeat' (first | (refine cond_by (F := ans) (fun _ => ?_) (fun _ => ?_)) | (refine wayK_by (F := ans) (fun _ hb_ => ?_) (fun _ hb_ => ?_) <;> simp only [hb_]) | (refine wayK_byN (F := ans) (fun _ hb_ => ?_) (fun _ hb_ => ?_) <;> simp only [hb_]) | (refine wayD_by (F := ans) (fun _ hb_ => ?_) (fun _ hb_ => ?_) <;> simp only [hb_]) | (refine wayD_byN (F := ans) (fun _ hb_ => ?_) (fun _ hb_ => ?_) <;> simp only [hb_]) | (refine rdK_by (F := ans) (fun _ => ?_) (fun _ => ?_)) | (refine effK_by (F := ans) (fun _ => ?_) (fun _ => ?_)) | (refine effK_by2 (F := ans) (fun _ => ?_) (fun _ => ?_)) | (refine rdD_by (F := ans) (fun _ => ?_) (fun _ => ?_)) | (refine effD_by (F := ans) (fun _ => ?_) (fun _ => ?_)) | (refine effD_by2 (F := ans) (fun _ => ?_) (fun _ => ?_)) | simp -implicitDefEqProofs (disch := first | omega | (simp only [List.length_append, List.length_cons, List.length_nil, List.length_drop, List.length_take]; omega)) only [evs, tys, lors, Nat.reduceAdd, Nat.reduceSub, Nat.reduceMul, Nat.reducePow, Nat.reduceBEq, Nat.reduceLT, Nat.reduceLeDiff, Nat.reduceEqDiff, Int.reduceLT, Int.reduceLE, Int.reduceEq, Int.reduceNe, Int.reduceToNat, Int.reduceAdd, Int.reduceSub, Int.reduceMul, Int.reducePow, Int.reduceDiv, Int.reduceMod, Int.reduceNeg, reduceCtorEq, codeKey, List.contains, List.elem, Ev.load, peek, pack, storeV, fieldAddr, field, cvB, hR, eqB_neq, eqB_eql, hn, hk, hc, e1, e2, e3, e4, hbg])
    all_goals first
      | contradiction
      | (exfalso; omega)
      | trace_state
  · have hR : ∀ H, callV (CL lore) 12 [.agg [.int .i64 L, .int .i64 M, .int .i64 D]] H = some (.bool false, H) := fun H => by rw [right_cv, decide_eq_false hr]
    repeat' (first | (refine cond_by (F := ans) (fun _ => ?_) (fun _ => ?_)) | (refine wayK_by (F := ans) (fun _ hb_ => ?_) (fun _ hb_ => ?_) <;> simp only [hb_]) | (refine wayK_byN (F := ans) (fun _ hb_ => ?_) (fun _ hb_ => ?_) <;> simp only [hb_]) | (refine wayD_by (F := ans) (fun _ hb_ => ?_) (fun _ hb_ => ?_) <;> simp only [hb_]) | (refine wayD_byN (F := ans) (fun _ hb_ => ?_) (fun _ hb_ => ?_) <;> simp only [hb_]) | (refine rdK_by (F := ans) (fun _ => ?_) (fun _ => ?_)) | (refine effK_by (F := ans) (fun _ => ?_) (fun _ => ?_)) | (refine effK_by2 (F := ans) (fun _ => ?_) (fun _ => ?_)) | (refine rdD_by (F := ans) (fun _ => ?_) (fun _ => ?_)) | (refine effD_by (F := ans) (fun _ => ?_) (fun _ => ?_)) | (refine effD_by2 (F := ans) (fun _ => ?_) (fun _ => ?_)) | simp -implicitDefEqProofs (disch := first | omega | (simp only [List.length_append, List.length_cons, List.length_nil, List.length_drop, List.length_take]; omega)) only [evs, tys, lors, Nat.reduceAdd, Nat.reduceSub, Nat.reduceMul, Nat.reducePow, Nat.reduceBEq, Nat.reduceLT, Nat.reduceLeDiff, Nat.reduceEqDiff, Int.reduceLT, Int.reduceLE, Int.reduceEq, Int.reduceNe, Int.reduceToNat, Int.reduceAdd, Int.reduceSub, Int.reduceMul, Int.reducePow, Int.reduceDiv, Int.reduceMod, Int.reduceNeg, reduceCtorEq, codeKey, List.contains, List.elem, Ev.load, peek, pack, storeV, fieldAddr, field, cvB, hR, eqB_neq, eqB_eql, count_cv, check_cv, e1, e2, e3, e4, hbg])
    all_goals first
      | contradiction
      | (exfalso; omega)
      | trace_state
end Go.Proofs.Ytacnpljkcpomnaa
