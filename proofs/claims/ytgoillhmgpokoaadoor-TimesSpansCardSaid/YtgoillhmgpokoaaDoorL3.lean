/-
TimesSpans as plain Lean.
-/
import Derived.Test.YtgoillhmgpokoaaDoorG4
namespace Go.Proofs.YtgoillhmgpokoaaDoor
open Go Ev
set_option linter.all false
set_option maxHeartbeats 4000000
set_option maxRecDepth 5000
attribute [local irreducible] codeL condL loopL callL callV evOps evDraw rdK effK wayK oneK wayD oneD rdD effD chks chkB res

theorem timesSpans_ev (d : Int) (s : List UInt8) (hs : s.length < 4611686018427387904) : ans (callL lore 3 [.int .i64 d, .str (bs s)] []) = some (.bool true) := by
  rw [call_start lore_ext3 Tryd.func3 rfl lore_okf3 (Nat.le_of_ble_eq_true rfl)]
  have hp := fun H => parseSpan_cv s hs H
  have hq := fun H => parseSpand_cv s hs H
  simp only [parseV] at hp hq
  repeat' (first | (refine cond_by (F := ans) (fun _ => ?_) (fun _ => ?_)) | (refine wayK_by (F := ans) (fun _ hb => ?_) (fun _ hb => ?_) <;> simp only [hb]) | (refine wayK_byN (F := ans) (fun _ hb => ?_) (fun _ hb => ?_) <;> simp only [hb]) | (refine wayD_by (F := ans) (fun _ hb => ?_) (fun _ hb => ?_) <;> simp only [hb]) | (refine wayD_byN (F := ans) (fun _ hb => ?_) (fun _ hb => ?_) <;> simp only [hb]) | (refine rdK_by (F := ans) (fun _ => ?_) (fun _ => ?_)) | (refine effK_by (F := ans) (fun _ => ?_) (fun _ => ?_)) | (refine effK_by2 (F := ans) (fun _ => ?_) (fun _ => ?_)) | (refine rdD_by (F := ans) (fun _ => ?_) (fun _ => ?_)) | (refine effD_by (F := ans) (fun _ => ?_) (fun _ => ?_)) | (refine effD_by2 (F := ans) (fun _ => ?_) (fun _ => ?_)) | simp -implicitDefEqProofs (disch := first | omega | (simp only [List.length_append, List.length_cons, List.length_nil, List.length_drop, List.length_take]; omega)) only [evs, tys, lors, Nat.reduceAdd, Nat.reduceSub, Nat.reduceMul, Nat.reducePow, Nat.reduceBEq, Nat.reduceLT, Nat.reduceLeDiff, Nat.reduceEqDiff, Int.reduceLT, Int.reduceLE, Int.reduceEq, Int.reduceNe, Int.reduceToNat, reduceCtorEq, codeKey, List.contains, List.elem, Ev.load, peek, pack, storeV, fieldAddr, field, cvB, printSpan_cv, printSpand_cv, hp, hq])
  all_goals (exfalso; omega)
end Go.Proofs.YtgoillhmgpokoaaDoor
