/-
TimesParted, TimesWindows as plain Lean.
-/
import Derived.Test.YtgoillhmgpokoaaDoorG5
namespace Go.Proofs.YtgoillhmgpokoaaDoor
open Go Ev
set_option linter.all false
set_option maxHeartbeats 4000000
set_option maxRecDepth 5000
attribute [local irreducible] codeL condL loopL callL callV evOps evDraw rdK effK wayK oneK wayD oneD rdD effD chks chkB res

theorem timesWindows_ev (a b l n : Int) : ans (callL lore 6 [.int .i64 a, .int .i64 b, .int .i64 l, .int .i64 n] []) = some (.bool true) := by
  rw [call_start lore_ext6 Tryd.func6 rfl lore_okf6 (Nat.le_of_ble_eq_true rfl)]
  repeat' (first | (refine cond_by (F := ans) (fun _ => ?_) (fun _ => ?_)) | (refine wayK_by (F := ans) (fun _ hb => ?_) (fun _ hb => ?_) <;> simp only [hb]) | (refine wayK_byN (F := ans) (fun _ hb => ?_) (fun _ hb => ?_) <;> simp only [hb]) | (refine wayD_by (F := ans) (fun _ hb => ?_) (fun _ hb => ?_) <;> simp only [hb]) | (refine wayD_byN (F := ans) (fun _ hb => ?_) (fun _ hb => ?_) <;> simp only [hb]) | (refine rdK_by (F := ans) (fun _ => ?_) (fun _ => ?_)) | (refine effK_by (F := ans) (fun _ => ?_) (fun _ => ?_)) | (refine effK_by2 (F := ans) (fun _ => ?_) (fun _ => ?_)) | (refine rdD_by (F := ans) (fun _ => ?_) (fun _ => ?_)) | (refine effD_by (F := ans) (fun _ => ?_) (fun _ => ?_)) | (refine effD_by2 (F := ans) (fun _ => ?_) (fun _ => ?_)) | simp -implicitDefEqProofs (disch := first | omega | (simp only [List.length_append, List.length_cons, List.length_nil, List.length_drop, List.length_take]; omega)) only [evs, tys, lors, Nat.reduceAdd, Nat.reduceSub, Nat.reduceMul, Nat.reducePow, Nat.reduceBEq, Nat.reduceLT, Nat.reduceLeDiff, Nat.reduceEqDiff, Int.reduceLT, Int.reduceLE, Int.reduceEq, Int.reduceNe, Int.reduceToNat, reduceCtorEq, codeKey, List.contains, List.elem, Ev.load, peek, pack, storeV, fieldAddr, field, cvB, window_cv, rwindow_cv, bounds_cv, rbounds_cv, touched_cv, rtouched_cv, begins_cv])
  all_goals (exfalso; omega)
theorem div_split (a : Int) {l : Int} (hl : 1 ≤ l) : a / l * l ≤ a ∧ a < a / l * l + l := by
  have h1 := Int.mul_ediv_add_emod a l
  have h2 := Int.emod_nonneg a (show l ≠ 0 by omega)
  have h3 := Int.emod_lt_of_pos a (show 0 < l by omega)
  rw [Int.mul_comm] at h1
  omega
theorem timesParted_ev (a l n : Int) : ans (callL lore 5 [.int .i64 a, .int .i64 l, .int .i64 n] []) = some (.bool true) := by
  rw [call_start lore_ext5 Tryd.func5 rfl lore_okf5 (Nat.le_of_ble_eq_true rfl)]
  by_cases hw : (0 ≤ a ∧ a ≤ 2305843009213693952) ∧ 1 ≤ l ∧ l ≤ 2305843009213693952
  · have h1 := div_split a hw.2.1
    have h2 : 0 ≤ a / l := Int.ediv_nonneg hw.1.1 (by omega)
    have h4 := Int.ediv_le_self l hw.1.1
    have h3 : a / l ≤ 2305843009213693952 / l := Int.ediv_le_ediv (by omega) hw.1.2
    have hm : ((1 ≤ l ∧ l ≤ 2305843009213693952) ∧ 0 ≤ n ∧ n ≤ 2305843009213693952 / l) → 0 ≤ n * l ∧ n * l ≤ 2305843009213693952 := fun ⟨h1, h2, h3⟩ => mul_bound h2 h1.1 h3
    have hlt : n < a / l → n * l + l ≤ a / l * l := fun h => by
      have := Int.mul_le_mul_of_nonneg_right (show n + 1 ≤ a / l by omega) (show 0 ≤ l by omega)
      rw [Int.add_mul, Int.one_mul] at this
      exact this
    have hgt : a / l < n → a / l * l + l ≤ n * l := fun h => by
      have := Int.mul_le_mul_of_nonneg_right (show a / l + 1 ≤ n by omega) (show 0 ≤ l by omega)
      rw [Int.add_mul, Int.one_mul] at this
      exact this
    have heq : n = a / l + 1 → n * l = a / l * l + l := fun h => by rw [h, Int.add_mul, Int.one_mul]
    have hgt2 : a / l + 1 < n → a / l * l + l + l ≤ n * l := fun h => by
      have := Int.mul_le_mul_of_nonneg_right (show a / l + 1 + 1 ≤ n by omega) (show 0 ≤ l by omega)
      rw [Int.add_mul, Int.add_mul, Int.one_mul] at this
      exact this
    repeat' (first | (refine cond_by (F := ans) (fun _ => ?_) (fun _ => ?_)) | (refine wayK_by (F := ans) (fun _ hb => ?_) (fun _ hb => ?_) <;> simp only [hb]) | (refine wayK_byN (F := ans) (fun _ hb => ?_) (fun _ hb => ?_) <;> simp only [hb]) | (refine wayD_by (F := ans) (fun _ hb => ?_) (fun _ hb => ?_) <;> simp only [hb]) | (refine wayD_byN (F := ans) (fun _ hb => ?_) (fun _ hb => ?_) <;> simp only [hb]) | (refine rdK_by (F := ans) (fun _ => ?_) (fun _ => ?_)) | (refine effK_by (F := ans) (fun _ => ?_) (fun _ => ?_)) | (refine effK_by2 (F := ans) (fun _ => ?_) (fun _ => ?_)) | (refine rdD_by (F := ans) (fun _ => ?_) (fun _ => ?_)) | (refine effD_by (F := ans) (fun _ => ?_) (fun _ => ?_)) | (refine effD_by2 (F := ans) (fun _ => ?_) (fun _ => ?_)) | simp -implicitDefEqProofs (disch := first | omega | (simp only [List.length_append, List.length_cons, List.length_nil, List.length_drop, List.length_take]; omega)) only [evs, tys, lors, Nat.reduceAdd, Nat.reduceSub, Nat.reduceMul, Nat.reducePow, Nat.reduceBEq, Nat.reduceLT, Nat.reduceLeDiff, Nat.reduceEqDiff, Int.reduceLT, Int.reduceLE, Int.reduceEq, Int.reduceNe, Int.reduceToNat, reduceCtorEq, codeKey, List.contains, List.elem, Ev.load, peek, pack, storeV, fieldAddr, field, cvB, window_cv, bounds_cv, begins_cv])
    all_goals first
      | (exfalso; omega)
      | (refine congrArg some (congrArg V.bool ?_); rw [decide_eq_true_eq]; omega)
  · repeat' (first | (refine cond_by (F := ans) (fun _ => ?_) (fun _ => ?_)) | (refine wayK_by (F := ans) (fun _ hb => ?_) (fun _ hb => ?_) <;> simp only [hb]) | (refine wayK_byN (F := ans) (fun _ hb => ?_) (fun _ hb => ?_) <;> simp only [hb]) | (refine wayD_by (F := ans) (fun _ hb => ?_) (fun _ hb => ?_) <;> simp only [hb]) | (refine wayD_byN (F := ans) (fun _ hb => ?_) (fun _ hb => ?_) <;> simp only [hb]) | (refine rdK_by (F := ans) (fun _ => ?_) (fun _ => ?_)) | (refine effK_by (F := ans) (fun _ => ?_) (fun _ => ?_)) | (refine effK_by2 (F := ans) (fun _ => ?_) (fun _ => ?_)) | (refine rdD_by (F := ans) (fun _ => ?_) (fun _ => ?_)) | (refine effD_by (F := ans) (fun _ => ?_) (fun _ => ?_)) | (refine effD_by2 (F := ans) (fun _ => ?_) (fun _ => ?_)) | simp -implicitDefEqProofs (disch := first | omega | (simp only [List.length_append, List.length_cons, List.length_nil, List.length_drop, List.length_take]; omega)) only [evs, tys, lors, Nat.reduceAdd, Nat.reduceSub, Nat.reduceMul, Nat.reducePow, Nat.reduceBEq, Nat.reduceLT, Nat.reduceLeDiff, Nat.reduceEqDiff, Int.reduceLT, Int.reduceLE, Int.reduceEq, Int.reduceNe, Int.reduceToNat, reduceCtorEq, codeKey, List.contains, List.elem, Ev.load, peek, pack, storeV, fieldAddr, field, cvB, window_cv, bounds_cv, begins_cv])
    all_goals (exfalso; omega)
end Go.Proofs.YtgoillhmgpokoaaDoor
