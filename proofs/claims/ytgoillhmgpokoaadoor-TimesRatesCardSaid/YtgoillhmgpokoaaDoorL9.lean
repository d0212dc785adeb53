/-
TimesRates as plain Lean.
-/
import Derived.Test.YtgoillhmgpokoaaDoorG8
namespace Go.Proofs.YtgoillhmgpokoaaDoor
open Go Ev
set_option linter.all false
set_option maxHeartbeats 4000000
set_option maxRecDepth 5000
attribute [local irreducible] codeL condL loopL callL callV evOps evDraw rdK effK wayK oneK wayD oneD rdD effD chks chkB res

theorem timesRates_ev (n p m q : Int) (s : List UInt8) (hs : s.length < 4611686018427387904) : ans (callL lore 9 [.agg [.int .i64 n, .int .i64 p], .agg [.int .i64 m, .int .i64 q], .str (bs s)] []) = some (.bool true) := by
  rw [call_start lore_ext9 Tryd.func9 rfl lore_okf9 (Nat.le_of_ble_eq_true rfl)]
  have hv : ∃ x y e z, parseRV s = .tup [.agg [.int .i64 x, .int .i64 y], .int .i64 e, .int .i64 z] := by
    unfold parseRV
    repeat' split
    all_goals exact ⟨_, _, _, _, rfl⟩
  obtain ⟨x, y, e, z, hv⟩ := hv
  have h1 := fun H => parseRate_cv s hs H
  have h2 := fun H => parseRated_cv s hs H
  rw [hv] at h1 h2
  repeat' (first | (refine cond_by (F := ans) (fun _ => ?_) (fun _ => ?_)) | (refine wayK_by (F := ans) (fun _ hb => ?_) (fun _ hb => ?_) <;> simp only [hb]) | (refine wayK_byN (F := ans) (fun _ hb => ?_) (fun _ hb => ?_) <;> simp only [hb]) | (refine wayD_by (F := ans) (fun _ hb => ?_) (fun _ hb => ?_) <;> simp only [hb]) | (refine wayD_byN (F := ans) (fun _ hb => ?_) (fun _ hb => ?_) <;> simp only [hb]) | (refine rdK_by (F := ans) (fun _ => ?_) (fun _ => ?_)) | (refine effK_by (F := ans) (fun _ => ?_) (fun _ => ?_)) | (refine effK_by2 (F := ans) (fun _ => ?_) (fun _ => ?_)) | (refine rdD_by (F := ans) (fun _ => ?_) (fun _ => ?_)) | (refine effD_by (F := ans) (fun _ => ?_) (fun _ => ?_)) | (refine effD_by2 (F := ans) (fun _ => ?_) (fun _ => ?_)) | simp -implicitDefEqProofs (disch := first | omega | (simp only [List.length_append, List.length_cons, List.length_nil, List.length_drop, List.length_take]; omega)) only [evs, tys, lors, Nat.reduceAdd, Nat.reduceSub, Nat.reduceMul, Nat.reducePow, Nat.reduceBEq, Nat.reduceLT, Nat.reduceLeDiff, Nat.reduceEqDiff, Int.reduceLT, Int.reduceLE, Int.reduceEq, Int.reduceNe, Int.reduceToNat, Int.reduceAdd, Int.reduceSub, Int.reduceMul, Int.reducePow, Int.reduceDiv, Int.reduceMod, Int.reduceNeg, reduceCtorEq, codeKey, List.contains, List.elem, Ev.load, peek, pack, storeV, fieldAddr, field, cvB, check_cv, checkd_cv, lowest_cv, lowestd_cv, compare_cv, compared_cv, printRate_cv, printRated_cv, h1, h2, begins_cv, eqR_eql, eqR_neq])
  all_goals first
    | contradiction
    | (exfalso; omega)
end Go.Proofs.YtgoillhmgpokoaaDoor
