/-
Accrued of the program, in general.
-/
import Derived.Test.YtgoillhmgpokoaaDoorG8
import Derived.Test.YtgoillhmgpokoaaDoorG9
namespace Go.Proofs.YtgoillhmgpokoaaDoor
open Go Ev
set_option linter.all false
set_option maxHeartbeats 4000000
set_option maxRecDepth 5000
attribute [local irreducible] codeL condL loopL callL callV evOps evDraw rdK effK wayK oneK wayD oneD rdD effD chks chkB res

theorem over_cv (N y : Int) (hN : 0 ≤ N) (hy0 : 1 ≤ y) (hy : y ≤ 2305843009213693952) (hh : N / 18446744073709551616 < y) (H : Heap) :
    callV (CL lore) 45 [.agg [.int .u64 (N / 18446744073709551616), .int .u64 (N % 18446744073709551616)], .int .i64 y] H = some (.tup [.int .u64 (N / y), .int .u64 (N % y), .bool true], H) := by
  refine callV_ans (r := some _) ?_ (lore_shared 45) rfl H
  rw [call_start lore_ext45 Tryd.func45 rfl lore_okf45 (Nat.le_of_ble_eq_true rfl)]
  have h1 : N / y ≤ N := Int.ediv_le_self y hN
  by_cases hz : N / 18446744073709551616 = 0
  · have hm : N % 18446744073709551616 = N := by omega
    rw [hz, hm]
    repeat' (first | (refine cond_by (F := ans) (fun _ => ?_) (fun _ => ?_)) | (refine wayK_by (F := ans) (fun _ hb_ => ?_) (fun _ hb_ => ?_) <;> simp only [hb_]) | (refine wayK_byN (F := ans) (fun _ hb_ => ?_) (fun _ hb_ => ?_) <;> simp only [hb_]) | (refine wayD_by (F := ans) (fun _ hb_ => ?_) (fun _ hb_ => ?_) <;> simp only [hb_]) | (refine wayD_byN (F := ans) (fun _ hb_ => ?_) (fun _ hb_ => ?_) <;> simp only [hb_]) | (refine rdK_by (F := ans) (fun _ => ?_) (fun _ => ?_)) | (refine effK_by (F := ans) (fun _ => ?_) (fun _ => ?_)) | (refine effK_by2 (F := ans) (fun _ => ?_) (fun _ => ?_)) | (refine rdD_by (F := ans) (fun _ => ?_) (fun _ => ?_)) | (refine effD_by (F := ans) (fun _ => ?_) (fun _ => ?_)) | (refine effD_by2 (F := ans) (fun _ => ?_) (fun _ => ?_)) | simp -implicitDefEqProofs (disch := first | omega | (simp only [List.length_append, List.length_cons, List.length_nil, List.length_drop, List.length_take]; omega)) only [evs, tys, lors, Nat.reduceAdd, Nat.reduceSub, Nat.reduceMul, Nat.reducePow, Nat.reduceBEq, Nat.reduceLT, Nat.reduceLeDiff, Nat.reduceEqDiff, Int.reduceLT, Int.reduceLE, Int.reduceEq, Int.reduceNe, Int.reduceToNat, Int.reduceAdd, Int.reduceSub, Int.reduceMul, Int.reducePow, Int.reduceDiv, Int.reduceMod, Int.reduceNeg, reduceCtorEq, codeKey, List.contains, List.elem, Ev.load, peek, pack, storeV, fieldAddr, field, cvB, div64_zero])
    all_goals (exfalso; omega)
  · have hd := fun H => div64_cv (N / 18446744073709551616) (N % 18446744073709551616) y (by omega) hh hy (by omega) (by omega) H
    rw [show N / 18446744073709551616 * 18446744073709551616 + N % 18446744073709551616 = N by omega] at hd
    have b1 : 0 ≤ N / 18446744073709551616 ∧ N / 18446744073709551616 < 18446744073709551616 := by omega
    have b2 : 0 ≤ N % 18446744073709551616 ∧ N % 18446744073709551616 < 18446744073709551616 := by omega
    generalize N / 18446744073709551616 = hi at *
    generalize N % 18446744073709551616 = lo at *
    repeat' (first | (refine cond_by (F := ans) (fun _ => ?_) (fun _ => ?_)) | (refine wayK_by (F := ans) (fun _ hb_ => ?_) (fun _ hb_ => ?_) <;> simp only [hb_]) | (refine wayK_byN (F := ans) (fun _ hb_ => ?_) (fun _ hb_ => ?_) <;> simp only [hb_]) | (refine wayD_by (F := ans) (fun _ hb_ => ?_) (fun _ hb_ => ?_) <;> simp only [hb_]) | (refine wayD_byN (F := ans) (fun _ hb_ => ?_) (fun _ hb_ => ?_) <;> simp only [hb_]) | (refine rdK_by (F := ans) (fun _ => ?_) (fun _ => ?_)) | (refine effK_by (F := ans) (fun _ => ?_) (fun _ => ?_)) | (refine effK_by2 (F := ans) (fun _ => ?_) (fun _ => ?_)) | (refine rdD_by (F := ans) (fun _ => ?_) (fun _ => ?_)) | (refine effD_by (F := ans) (fun _ => ?_) (fun _ => ?_)) | (refine effD_by2 (F := ans) (fun _ => ?_) (fun _ => ?_)) | simp -implicitDefEqProofs (disch := first | omega | (simp only [List.length_append, List.length_cons, List.length_nil, List.length_drop, List.length_take]; omega)) only [evs, tys, lors, Nat.reduceAdd, Nat.reduceSub, Nat.reduceMul, Nat.reducePow, Nat.reduceBEq, Nat.reduceLT, Nat.reduceLeDiff, Nat.reduceEqDiff, Int.reduceLT, Int.reduceLE, Int.reduceEq, Int.reduceNe, Int.reduceToNat, Int.reduceAdd, Int.reduceSub, Int.reduceMul, Int.reducePow, Int.reduceDiv, Int.reduceMod, Int.reduceNeg, reduceCtorEq, codeKey, List.contains, List.elem, Ev.load, peek, pack, storeV, fieldAddr, field, cvB, hd])
    all_goals (exfalso; omega)
theorem over_big (N y : Int) (hN : 0 ≤ N) (hy0 : 1 ≤ y) (hy : y ≤ 2305843009213693952) (hh : ¬ N / 18446744073709551616 < y) (H : Heap) :
    callV (CL lore) 45 [.agg [.int .u64 (N / 18446744073709551616), .int .u64 (N % 18446744073709551616)], .int .i64 y] H = some (.tup [.int .u64 0, .int .u64 0, .bool false], H) := by
  refine callV_ans (r := some _) ?_ (lore_shared 45) rfl H
  rw [call_start lore_ext45 Tryd.func45 rfl lore_okf45 (Nat.le_of_ble_eq_true rfl)]
  repeat' (first | (refine cond_by (F := ans) (fun _ => ?_) (fun _ => ?_)) | (refine wayK_by (F := ans) (fun _ hb_ => ?_) (fun _ hb_ => ?_) <;> simp only [hb_]) | (refine wayK_byN (F := ans) (fun _ hb_ => ?_) (fun _ hb_ => ?_) <;> simp only [hb_]) | (refine wayD_by (F := ans) (fun _ hb_ => ?_) (fun _ hb_ => ?_) <;> simp only [hb_]) | (refine wayD_byN (F := ans) (fun _ hb_ => ?_) (fun _ hb_ => ?_) <;> simp only [hb_]) | (refine rdK_by (F := ans) (fun _ => ?_) (fun _ => ?_)) | (refine effK_by (F := ans) (fun _ => ?_) (fun _ => ?_)) | (refine effK_by2 (F := ans) (fun _ => ?_) (fun _ => ?_)) | (refine rdD_by (F := ans) (fun _ => ?_) (fun _ => ?_)) | (refine effD_by (F := ans) (fun _ => ?_) (fun _ => ?_)) | (refine effD_by2 (F := ans) (fun _ => ?_) (fun _ => ?_)) | simp -implicitDefEqProofs (disch := first | omega | (simp only [List.length_append, List.length_cons, List.length_nil, List.length_drop, List.length_take]; omega)) only [evs, tys, lors, Nat.reduceAdd, Nat.reduceSub, Nat.reduceMul, Nat.reducePow, Nat.reduceBEq, Nat.reduceLT, Nat.reduceLeDiff, Nat.reduceEqDiff, Int.reduceLT, Int.reduceLE, Int.reduceEq, Int.reduceNe, Int.reduceToNat, Int.reduceAdd, Int.reduceSub, Int.reduceMul, Int.reducePow, Int.reduceDiv, Int.reduceMod, Int.reduceNeg, reduceCtorEq, codeKey, List.contains, List.elem, Ev.load, peek, pack, storeV, fieldAddr, field, cvB])
  all_goals (exfalso; omega)
abbrev InM (x : Int) : Prop := 0 ≤ x ∧ x ≤ 2305843009213693952
theorem div_room {N p : Int} (hp : 1 ≤ p) (h : N / p ≤ 2305843009213693952) (hN : 0 ≤ N) : N / 18446744073709551616 < p := by
  have h1 := Int.mul_ediv_add_emod N p
  have h2 := Int.emod_lt_of_pos N (show 0 < p by omega)
  have h3 := Int.mul_le_mul_of_nonneg_left h (show 0 ≤ p by omega)
  omega
theorem accrued_cv (n p x : Int) (H : Heap) : callV (CL lore) 15 [.agg [.int .i64 n, .int .i64 p], .int .i64 x] H =
    if RightR n p then if InM x then if n * x / p ≤ 2305843009213693952 then some (.tup [.int .i64 (n * x / p), .int .i64 0], H) else some (.tup [.int .i64 0, .int .i64 3], H) else some (.tup [.int .i64 0, .int .i64 2], H) else some (.tup [.int .i64 0, .int .i64 21], H) := by
  rw [callV_ans (r := if RightR n p then if InM x then if n * x / p ≤ 2305843009213693952 then some (.tup [.int .i64 (n * x / p), .int .i64 0]) else some (.tup [.int .i64 0, .int .i64 3]) else some (.tup [.int .i64 0, .int .i64 2]) else some (.tup [.int .i64 0, .int .i64 21])) ?_ (lore_shared 15) rfl H]
  · repeat' split
    all_goals rfl
  rw [call_start lore_ext15 Tryd.func15 rfl lore_okf15 (Nat.le_of_ble_eq_true rfl)]
  by_cases hr : RightR n p
  · rw [if_pos hr]
    by_cases hx : InM x
    · rw [if_pos hx]
      have hN : 0 ≤ n * x := Int.mul_nonneg (by omega) (by omega)
      have hN2 : n * x ≤ 2305843009213693952 * 2305843009213693952 := Int.mul_le_mul (by omega) (by omega) (by omega) (by omega)
      have hq0 : 0 ≤ n * x / p := Int.ediv_nonneg hN (by omega)
      have hm0 := Int.emod_nonneg (n * x) (show p ≠ 0 by omega)
      have hm1 := Int.emod_lt_of_pos (n * x) (show 0 < p by omega)
      have hroom := fun h => div_room (N := n * x) (p := p) (by omega) h hN
      by_cases hh : n * x / 18446744073709551616 < p
      · have ho := fun H => over_cv (n * x) p hN (by omega) (by omega) hh H
        repeat' (first | (refine cond_by (F := ans) (fun _ => ?_) (fun _ => ?_)) | (refine wayK_by (F := ans) (fun _ hb_ => ?_) (fun _ hb_ => ?_) <;> simp only [hb_]) | (refine wayK_byN (F := ans) (fun _ hb_ => ?_) (fun _ hb_ => ?_) <;> simp only [hb_]) | (refine wayD_by (F := ans) (fun _ hb_ => ?_) (fun _ hb_ => ?_) <;> simp only [hb_]) | (refine wayD_byN (F := ans) (fun _ hb_ => ?_) (fun _ hb_ => ?_) <;> simp only [hb_]) | (refine rdK_by (F := ans) (fun _ => ?_) (fun _ => ?_)) | (refine effK_by (F := ans) (fun _ => ?_) (fun _ => ?_)) | (refine effK_by2 (F := ans) (fun _ => ?_) (fun _ => ?_)) | (refine rdD_by (F := ans) (fun _ => ?_) (fun _ => ?_)) | (refine effD_by (F := ans) (fun _ => ?_) (fun _ => ?_)) | (refine effD_by2 (F := ans) (fun _ => ?_) (fun _ => ?_)) | simp -implicitDefEqProofs (disch := first | omega | (simp only [List.length_append, List.length_cons, List.length_nil, List.length_drop, List.length_take]; omega)) only [evs, tys, lors, Nat.reduceAdd, Nat.reduceSub, Nat.reduceMul, Nat.reducePow, Nat.reduceBEq, Nat.reduceLT, Nat.reduceLeDiff, Nat.reduceEqDiff, Int.reduceLT, Int.reduceLE, Int.reduceEq, Int.reduceNe, Int.reduceToNat, Int.reduceAdd, Int.reduceSub, Int.reduceMul, Int.reducePow, Int.reduceDiv, Int.reduceMod, Int.reduceNeg, reduceCtorEq, codeKey, List.contains, List.elem, Ev.load, peek, pack, storeV, fieldAddr, field, cvB, right_cv, moment_cv, product_cv, ho])
        all_goals first | rfl | (rw [if_pos (by omega)]; done) | (rw [if_neg (by omega)]; done) | (exfalso; omega)
      · rw [if_neg (by omega)]
        have ho := fun H => over_big (n * x) p hN (by omega) (by omega) hh H
        repeat' (first | (refine cond_by (F := ans) (fun _ => ?_) (fun _ => ?_)) | (refine wayK_by (F := ans) (fun _ hb_ => ?_) (fun _ hb_ => ?_) <;> simp only [hb_]) | (refine wayK_byN (F := ans) (fun _ hb_ => ?_) (fun _ hb_ => ?_) <;> simp only [hb_]) | (refine wayD_by (F := ans) (fun _ hb_ => ?_) (fun _ hb_ => ?_) <;> simp only [hb_]) | (refine wayD_byN (F := ans) (fun _ hb_ => ?_) (fun _ hb_ => ?_) <;> simp only [hb_]) | (refine rdK_by (F := ans) (fun _ => ?_) (fun _ => ?_)) | (refine effK_by (F := ans) (fun _ => ?_) (fun _ => ?_)) | (refine effK_by2 (F := ans) (fun _ => ?_) (fun _ => ?_)) | (refine rdD_by (F := ans) (fun _ => ?_) (fun _ => ?_)) | (refine effD_by (F := ans) (fun _ => ?_) (fun _ => ?_)) | (refine effD_by2 (F := ans) (fun _ => ?_) (fun _ => ?_)) | simp -implicitDefEqProofs (disch := first | omega | (simp only [List.length_append, List.length_cons, List.length_nil, List.length_drop, List.length_take]; omega)) only [evs, tys, lors, Nat.reduceAdd, Nat.reduceSub, Nat.reduceMul, Nat.reducePow, Nat.reduceBEq, Nat.reduceLT, Nat.reduceLeDiff, Nat.reduceEqDiff, Int.reduceLT, Int.reduceLE, Int.reduceEq, Int.reduceNe, Int.reduceToNat, Int.reduceAdd, Int.reduceSub, Int.reduceMul, Int.reducePow, Int.reduceDiv, Int.reduceMod, Int.reduceNeg, reduceCtorEq, codeKey, List.contains, List.elem, Ev.load, peek, pack, storeV, fieldAddr, field, cvB, right_cv, moment_cv, product_cv, ho])
        all_goals first | rfl | (rw [if_pos (by omega)]; done) | (rw [if_neg (by omega)]; done) | (exfalso; omega)
    · rw [if_neg hx]
      repeat' (first | (refine cond_by (F := ans) (fun _ => ?_) (fun _ => ?_)) | (refine wayK_by (F := ans) (fun _ hb_ => ?_) (fun _ hb_ => ?_) <;> simp only [hb_]) | (refine wayK_byN (F := ans) (fun _ hb_ => ?_) (fun _ hb_ => ?_) <;> simp only [hb_]) | (refine wayD_by (F := ans) (fun _ hb_ => ?_) (fun _ hb_ => ?_) <;> simp only [hb_]) | (refine wayD_byN (F := ans) (fun _ hb_ => ?_) (fun _ hb_ => ?_) <;> simp only [hb_]) | (refine rdK_by (F := ans) (fun _ => ?_) (fun _ => ?_)) | (refine effK_by (F := ans) (fun _ => ?_) (fun _ => ?_)) | (refine effK_by2 (F := ans) (fun _ => ?_) (fun _ => ?_)) | (refine rdD_by (F := ans) (fun _ => ?_) (fun _ => ?_)) | (refine effD_by (F := ans) (fun _ => ?_) (fun _ => ?_)) | (refine effD_by2 (F := ans) (fun _ => ?_) (fun _ => ?_)) | simp -implicitDefEqProofs (disch := first | omega | (simp only [List.length_append, List.length_cons, List.length_nil, List.length_drop, List.length_take]; omega)) only [evs, tys, lors, Nat.reduceAdd, Nat.reduceSub, Nat.reduceMul, Nat.reducePow, Nat.reduceBEq, Nat.reduceLT, Nat.reduceLeDiff, Nat.reduceEqDiff, Int.reduceLT, Int.reduceLE, Int.reduceEq, Int.reduceNe, Int.reduceToNat, Int.reduceAdd, Int.reduceSub, Int.reduceMul, Int.reducePow, Int.reduceDiv, Int.reduceMod, Int.reduceNeg, reduceCtorEq, codeKey, List.contains, List.elem, Ev.load, peek, pack, storeV, fieldAddr, field, cvB, right_cv, moment_cv])
      all_goals first | rfl | (rw [if_pos (by omega)]; done) | (rw [if_neg (by omega)]; done) | (exfalso; omega)
  · rw [if_neg hr]
    repeat' (first | (refine cond_by (F := ans) (fun _ => ?_) (fun _ => ?_)) | (refine wayK_by (F := ans) (fun _ hb_ => ?_) (fun _ hb_ => ?_) <;> simp only [hb_]) | (refine wayK_byN (F := ans) (fun _ hb_ => ?_) (fun _ hb_ => ?_) <;> simp only [hb_]) | (refine wayD_by (F := ans) (fun _ hb_ => ?_) (fun _ hb_ => ?_) <;> simp only [hb_]) | (refine wayD_byN (F := ans) (fun _ hb_ => ?_) (fun _ hb_ => ?_) <;> simp only [hb_]) | (refine rdK_by (F := ans) (fun _ => ?_) (fun _ => ?_)) | (refine effK_by (F := ans) (fun _ => ?_) (fun _ => ?_)) | (refine effK_by2 (F := ans) (fun _ => ?_) (fun _ => ?_)) | (refine rdD_by (F := ans) (fun _ => ?_) (fun _ => ?_)) | (refine effD_by (F := ans) (fun _ => ?_) (fun _ => ?_)) | (refine effD_by2 (F := ans) (fun _ => ?_) (fun _ => ?_)) | simp -implicitDefEqProofs (disch := first | omega | (simp only [List.length_append, List.length_cons, List.length_nil, List.length_drop, List.length_take]; omega)) only [evs, tys, lors, Nat.reduceAdd, Nat.reduceSub, Nat.reduceMul, Nat.reducePow, Nat.reduceBEq, Nat.reduceLT, Nat.reduceLeDiff, Nat.reduceEqDiff, Int.reduceLT, Int.reduceLE, Int.reduceEq, Int.reduceNe, Int.reduceToNat, Int.reduceAdd, Int.reduceSub, Int.reduceMul, Int.reducePow, Int.reduceDiv, Int.reduceMod, Int.reduceNeg, reduceCtorEq, codeKey, List.contains, List.elem, Ev.load, peek, pack, storeV, fieldAddr, field, cvB, right_cv])
    all_goals first | rfl | (rw [if_pos (by omega)]; done) | (rw [if_neg (by omega)]; done) | (exfalso; omega)
end Go.Proofs.YtgoillhmgpokoaaDoor
