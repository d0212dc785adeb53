/-
scale: Check, Count, Index, of the program and of the document.
-/
import Derived.Test.YtacnpljkcpomnaaS3
namespace Go.Proofs.Ytacnpljkcpomnaa
open Go Ev
set_option linter.all false
set_option maxHeartbeats 4000000
set_option maxRecDepth 5000
attribute [local irreducible] codeL condL loopL callL callV evOps evDraw rdK effK wayK oneK wayD oneD rdD effD chks chkB res

theorem sub3 {D : Int} (h : 1 ≤ D ∧ D ≤ 3) : Sub3 (subE D) := by
  have hD' : D = 1 ∨ D = 2 ∨ D = 3 := by omega
  rcases hD' with rfl | rfl | rfl <;> decide
theorem shaped2_cv (L M D : Int) (H : Heap) : callV (CL lore) 30 [.agg [.int .i64 L, .int .i64 M, .int .i64 D]] H =
    if RightS L M D then some (.tup [.agg [.int .i64 (uOf L : Nat), .int .i64 (subE D : Nat)], .bool true], H) else some (.tup [.agg [.int .i64 0, .int .i64 0], .bool false], H) := by
  rw [shaped_cv]
  split
  · rw [(uOf_facts (by omega) (by omega)).2.2.2]
  · rfl
theorem idxZ_bounds (e : Nat) (he : Sub3 e) (x : Int) (h0 : 0 ≤ x) (h1 : x ≤ 2305843009213693952) : 0 ≤ idxZ e x ∧ idxZ e x ≤ 1000000 := by
  have kf := k_facts e (by rcases he with rfl | rfl | rfl <;> decide) x h0 h1
  unfold idxZ
  split
  · rcases he with rfl | rfl | rfl <;> omega
  · rename_i hx
    have kf3 := kf.2.2 hx
    have hk : kOf e x ≤ 62 := by unfold kOf; omega
    have hk1 : 1 ≤ kOf e x := by
      have := kf.2.1
      unfold kOf
      omega
    generalize kOf e x = k at *
    rcases he with rfl | rfl | rfl
    all_goals
      simp only [Nat.reduceSub, Int.reducePow] at *
      omega
theorem check_cv (L M D : Int) (H : Heap) : callV (CL lore) 14 [.agg [.int .i64 L, .int .i64 M, .int .i64 D]] H = if RightS L M D then some (.int .i64 0, H) else some (.int .i64 80, H) := by
  rw [callV_ans (r := if RightS L M D then some (.int .i64 0) else some (.int .i64 80)) ?_ lore_sh14 rfl H]
  · split <;> rfl
  rw [call_start lore_ext14 Try.func14 rfl lore_okf14 (Nat.le_of_ble_eq_true rfl)]
  repeat' (first | (refine cond_by (F := ans) (fun _ => ?_) (fun _ => ?_)) | (refine wayK_by (F := ans) (fun _ hb_ => ?_) (fun _ hb_ => ?_) <;> simp only [hb_]) | (refine wayK_byN (F := ans) (fun _ hb_ => ?_) (fun _ hb_ => ?_) <;> simp only [hb_]) | (refine wayD_by (F := ans) (fun _ hb_ => ?_) (fun _ hb_ => ?_) <;> simp only [hb_]) | (refine wayD_byN (F := ans) (fun _ hb_ => ?_) (fun _ hb_ => ?_) <;> simp only [hb_]) | (refine rdK_by (F := ans) (fun _ => ?_) (fun _ => ?_)) | (refine effK_by (F := ans) (fun _ => ?_) (fun _ => ?_)) | (refine effK_by2 (F := ans) (fun _ => ?_) (fun _ => ?_)) | (refine rdD_by (F := ans) (fun _ => ?_) (fun _ => ?_)) | (refine effD_by (F := ans) (fun _ => ?_) (fun _ => ?_)) | (refine effD_by2 (F := ans) (fun _ => ?_) (fun _ => ?_)) | simp -implicitDefEqProofs (disch := first | omega | (simp only [List.length_append, List.length_cons, List.length_nil, List.length_drop, List.length_take]; omega)) only [evs, tys, lors, Nat.reduceAdd, Nat.reduceSub, Nat.reduceMul, Nat.reducePow, Nat.reduceBEq, Nat.reduceLT, Nat.reduceLeDiff, Nat.reduceEqDiff, Int.reduceLT, Int.reduceLE, Int.reduceEq, Int.reduceNe, Int.reduceToNat, Int.reduceAdd, Int.reduceSub, Int.reduceMul, Int.reducePow, Int.reduceDiv, Int.reduceMod, Int.reduceNeg, reduceCtorEq, codeKey, List.contains, List.elem, Ev.load, peek, pack, storeV, fieldAddr, field, cvB, shaped2_cv])
  all_goals first | rfl | (rw [if_pos (by omega)]; done) | (rw [if_neg (by omega)]; done) | (exfalso; omega)
abbrev topOf (L M D : Int) : Int := idxZ (subE D) (M / 2 ^ uOf L)
theorem x_facts {L M D : Int} (hr : RightS L M D) {v : Int} (v0 : 0 ≤ v) (v1 : v ≤ 2305843009213693952) : uOf L ≤ 40 ∧ 0 ≤ v / 2 ^ uOf L ∧ v / 2 ^ uOf L ≤ 2305843009213693952 ∧ Sub3 (subE D) ∧ 0 ≤ idxZ (subE D) (v / 2 ^ uOf L) ∧ idxZ (subE D) (v / 2 ^ uOf L) ≤ 1000000 := by
  have hp : (0 : Int) < 2 ^ uOf L := Int.pow_pos (by decide)
  have x0 : 0 ≤ v / 2 ^ uOf L := Int.ediv_nonneg v0 (by omega)
  have x1 : v / 2 ^ uOf L ≤ v := Int.ediv_le_self _ v0
  have he := sub3 hr.2.2
  have := idxZ_bounds _ he _ x0 (by omega)
  exact ⟨(uOf_facts (by omega) (by omega)).1, x0, by omega, he, this.1, this.2⟩
theorem count_cv (L M D : Int) (H : Heap) : callV (CL lore) 13 [.agg [.int .i64 L, .int .i64 M, .int .i64 D]] H = if RightS L M D then some (.tup [.int .i64 (topOf L M D + 1), .int .i64 0], H) else some (.tup [.int .i64 0, .int .i64 80], H) := by
  rw [callV_ans (r := if RightS L M D then some (.tup [.int .i64 (topOf L M D + 1), .int .i64 0]) else some (.tup [.int .i64 0, .int .i64 80])) ?_ lore_sh13 rfl H]
  · split <;> rfl
  rw [call_start lore_ext13 Try.func13 rfl lore_okf13 (Nat.le_of_ble_eq_true rfl)]
  by_cases hr : RightS L M D
  · rw [if_pos hr]
    obtain ⟨f1, f2, f3, f4, f5, f6⟩ := x_facts hr (v := M) (by omega) (by omega)
    have hi := fun H => index_cv (uOf L) (subE D) f1 f4 M (by omega) (by omega) H
    repeat' (first | (refine cond_by (F := ans) (fun _ => ?_) (fun _ => ?_)) | (refine wayK_by (F := ans) (fun _ hb_ => ?_) (fun _ hb_ => ?_) <;> simp only [hb_]) | (refine wayK_byN (F := ans) (fun _ hb_ => ?_) (fun _ hb_ => ?_) <;> simp only [hb_]) | (refine wayD_by (F := ans) (fun _ hb_ => ?_) (fun _ hb_ => ?_) <;> simp only [hb_]) | (refine wayD_byN (F := ans) (fun _ hb_ => ?_) (fun _ hb_ => ?_) <;> simp only [hb_]) | (refine rdK_by (F := ans) (fun _ => ?_) (fun _ => ?_)) | (refine effK_by (F := ans) (fun _ => ?_) (fun _ => ?_)) | (refine effK_by2 (F := ans) (fun _ => ?_) (fun _ => ?_)) | (refine rdD_by (F := ans) (fun _ => ?_) (fun _ => ?_)) | (refine effD_by (F := ans) (fun _ => ?_) (fun _ => ?_)) | (refine effD_by2 (F := ans) (fun _ => ?_) (fun _ => ?_)) | simp -implicitDefEqProofs (disch := first | omega | (simp only [List.length_append, List.length_cons, List.length_nil, List.length_drop, List.length_take]; omega)) only [evs, tys, lors, Nat.reduceAdd, Nat.reduceSub, Nat.reduceMul, Nat.reducePow, Nat.reduceBEq, Nat.reduceLT, Nat.reduceLeDiff, Nat.reduceEqDiff, Int.reduceLT, Int.reduceLE, Int.reduceEq, Int.reduceNe, Int.reduceToNat, Int.reduceAdd, Int.reduceSub, Int.reduceMul, Int.reducePow, Int.reduceDiv, Int.reduceMod, Int.reduceNeg, reduceCtorEq, codeKey, List.contains, List.elem, Ev.load, peek, pack, storeV, fieldAddr, field, cvB, shaped2_cv, hi])
    all_goals first | rfl | (rw [if_pos (by omega)]; done) | (rw [if_neg (by omega)]; done) | (exfalso; omega)
  · rw [if_neg hr]
    repeat' (first | (refine cond_by (F := ans) (fun _ => ?_) (fun _ => ?_)) | (refine wayK_by (F := ans) (fun _ hb_ => ?_) (fun _ hb_ => ?_) <;> simp only [hb_]) | (refine wayK_byN (F := ans) (fun _ hb_ => ?_) (fun _ hb_ => ?_) <;> simp only [hb_]) | (refine wayD_by (F := ans) (fun _ hb_ => ?_) (fun _ hb_ => ?_) <;> simp only [hb_]) | (refine wayD_byN (F := ans) (fun _ hb_ => ?_) (fun _ hb_ => ?_) <;> simp only [hb_]) | (refine rdK_by (F := ans) (fun _ => ?_) (fun _ => ?_)) | (refine effK_by (F := ans) (fun _ => ?_) (fun _ => ?_)) | (refine effK_by2 (F := ans) (fun _ => ?_) (fun _ => ?_)) | (refine rdD_by (F := ans) (fun _ => ?_) (fun _ => ?_)) | (refine effD_by (F := ans) (fun _ => ?_) (fun _ => ?_)) | (refine effD_by2 (F := ans) (fun _ => ?_) (fun _ => ?_)) | simp -implicitDefEqProofs (disch := first | omega | (simp only [List.length_append, List.length_cons, List.length_nil, List.length_drop, List.length_take]; omega)) only [evs, tys, lors, Nat.reduceAdd, Nat.reduceSub, Nat.reduceMul, Nat.reducePow, Nat.reduceBEq, Nat.reduceLT, Nat.reduceLeDiff, Nat.reduceEqDiff, Int.reduceLT, Int.reduceLE, Int.reduceEq, Int.reduceNe, Int.reduceToNat, Int.reduceAdd, Int.reduceSub, Int.reduceMul, Int.reducePow, Int.reduceDiv, Int.reduceMod, Int.reduceNeg, reduceCtorEq, codeKey, List.contains, List.elem, Ev.load, peek, pack, storeV, fieldAddr, field, cvB, shaped2_cv])
    all_goals first | rfl | (rw [if_pos (by omega)]; done) | (rw [if_neg (by omega)]; done) | (exfalso; omega)
theorem countd_cv (L M D : Int) (hr : RightS L M D) (H : Heap) : callV (CL lore) 15 [.agg [.int .i64 L, .int .i64 M, .int .i64 D]] H = some (.int .i64 (topOf L M D + 1), H) := by
  refine callV_ans (r := some _) ?_ lore_sh15 rfl H
  rw [call_start lore_ext15 Try.func15 rfl lore_okf15 (Nat.le_of_ble_eq_true rfl)]
  obtain ⟨f1, f2, f3, f4, f5, f6⟩ := x_facts hr (v := M) (by omega) (by omega)
  have hi := fun H => place_cv L M D (by omega) (by omega) hr.2.2 M (by omega) (by omega) H
  repeat' (first | (refine cond_by (F := ans) (fun _ => ?_) (fun _ => ?_)) | (refine wayK_by (F := ans) (fun _ hb_ => ?_) (fun _ hb_ => ?_) <;> simp only [hb_]) | (refine wayK_byN (F := ans) (fun _ hb_ => ?_) (fun _ hb_ => ?_) <;> simp only [hb_]) | (refine wayD_by (F := ans) (fun _ hb_ => ?_) (fun _ hb_ => ?_) <;> simp only [hb_]) | (refine wayD_byN (F := ans) (fun _ hb_ => ?_) (fun _ hb_ => ?_) <;> simp only [hb_]) | (refine rdK_by (F := ans) (fun _ => ?_) (fun _ => ?_)) | (refine effK_by (F := ans) (fun _ => ?_) (fun _ => ?_)) | (refine effK_by2 (F := ans) (fun _ => ?_) (fun _ => ?_)) | (refine rdD_by (F := ans) (fun _ => ?_) (fun _ => ?_)) | (refine effD_by (F := ans) (fun _ => ?_) (fun _ => ?_)) | (refine effD_by2 (F := ans) (fun _ => ?_) (fun _ => ?_)) | simp -implicitDefEqProofs (disch := first | omega | (simp only [List.length_append, List.length_cons, List.length_nil, List.length_drop, List.length_take]; omega)) only [evs, tys, lors, Nat.reduceAdd, Nat.reduceSub, Nat.reduceMul, Nat.reducePow, Nat.reduceBEq, Nat.reduceLT, Nat.reduceLeDiff, Nat.reduceEqDiff, Int.reduceLT, Int.reduceLE, Int.reduceEq, Int.reduceNe, Int.reduceToNat, Int.reduceAdd, Int.reduceSub, Int.reduceMul, Int.reducePow, Int.reduceDiv, Int.reduceMod, Int.reduceNeg, reduceCtorEq, codeKey, List.contains, List.elem, Ev.load, peek, pack, storeV, fieldAddr, field, cvB, hi])
def indexV (L M D v : Int) : V := if RightS L M D then if 0 ≤ v ∧ v ≤ M then .tup [.int .i64 (idxZ (subE D) (v / 2 ^ uOf L)), .int .i64 0] else .tup [.int .i64 0, .int .i64 2] else .tup [.int .i64 0, .int .i64 80]
theorem indexP_cv (L M D v : Int) (H : Heap) : callV (CL lore) 16 [.agg [.int .i64 L, .int .i64 M, .int .i64 D], .int .i64 v] H = some (indexV L M D v, H) := by
  refine callV_ans (r := some _) ?_ lore_sh16 rfl H
  rw [call_start lore_ext16 Try.func16 rfl lore_okf16 (Nat.le_of_ble_eq_true rfl)]
  unfold indexV
  by_cases hr : RightS L M D
  · rw [if_pos hr]
    by_cases hv : 0 ≤ v ∧ v ≤ M
    · rw [if_pos hv]
      obtain ⟨f1, f2, f3, f4, f5, f6⟩ := x_facts hr (v := v) (by omega) (by omega)
      have hi := fun H => index_cv (uOf L) (subE D) f1 f4 v (by omega) (by omega) H
      repeat' (first | (refine cond_by (F := ans) (fun _ => ?_) (fun _ => ?_)) | (refine wayK_by (F := ans) (fun _ hb_ => ?_) (fun _ hb_ => ?_) <;> simp only [hb_]) | (refine wayK_byN (F := ans) (fun _ hb_ => ?_) (fun _ hb_ => ?_) <;> simp only [hb_]) | (refine wayD_by (F := ans) (fun _ hb_ => ?_) (fun _ hb_ => ?_) <;> simp only [hb_]) | (refine wayD_byN (F := ans) (fun _ hb_ => ?_) (fun _ hb_ => ?_) <;> simp only [hb_]) | (refine rdK_by (F := ans) (fun _ => ?_) (fun _ => ?_)) | (refine effK_by (F := ans) (fun _ => ?_) (fun _ => ?_)) | (refine effK_by2 (F := ans) (fun _ => ?_) (fun _ => ?_)) | (refine rdD_by (F := ans) (fun _ => ?_) (fun _ => ?_)) | (refine effD_by (F := ans) (fun _ => ?_) (fun _ => ?_)) | (refine effD_by2 (F := ans) (fun _ => ?_) (fun _ => ?_)) | simp -implicitDefEqProofs (disch := first | omega | (simp only [List.length_append, List.length_cons, List.length_nil, List.length_drop, List.length_take]; omega)) only [evs, tys, lors, Nat.reduceAdd, Nat.reduceSub, Nat.reduceMul, Nat.reducePow, Nat.reduceBEq, Nat.reduceLT, Nat.reduceLeDiff, Nat.reduceEqDiff, Int.reduceLT, Int.reduceLE, Int.reduceEq, Int.reduceNe, Int.reduceToNat, Int.reduceAdd, Int.reduceSub, Int.reduceMul, Int.reducePow, Int.reduceDiv, Int.reduceMod, Int.reduceNeg, reduceCtorEq, codeKey, List.contains, List.elem, Ev.load, peek, pack, storeV, fieldAddr, field, cvB, shaped2_cv, hi])
      all_goals first | rfl | (rw [if_pos (by omega)]; done) | (rw [if_neg (by omega)]; done) | (exfalso; omega)
    · rw [if_neg hv]
      repeat' (first | (refine cond_by (F := ans) (fun _ => ?_) (fun _ => ?_)) | (refine wayK_by (F := ans) (fun _ hb_ => ?_) (fun _ hb_ => ?_) <;> simp only [hb_]) | (refine wayK_byN (F := ans) (fun _ hb_ => ?_) (fun _ hb_ => ?_) <;> simp only [hb_]) | (refine wayD_by (F := ans) (fun _ hb_ => ?_) (fun _ hb_ => ?_) <;> simp only [hb_]) | (refine wayD_byN (F := ans) (fun _ hb_ => ?_) (fun _ hb_ => ?_) <;> simp only [hb_]) | (refine rdK_by (F := ans) (fun _ => ?_) (fun _ => ?_)) | (refine effK_by (F := ans) (fun _ => ?_) (fun _ => ?_)) | (refine effK_by2 (F := ans) (fun _ => ?_) (fun _ => ?_)) | (refine rdD_by (F := ans) (fun _ => ?_) (fun _ => ?_)) | (refine effD_by (F := ans) (fun _ => ?_) (fun _ => ?_)) | (refine effD_by2 (F := ans) (fun _ => ?_) (fun _ => ?_)) | simp -implicitDefEqProofs (disch := first | omega | (simp only [List.length_append, List.length_cons, List.length_nil, List.length_drop, List.length_take]; omega)) only [evs, tys, lors, Nat.reduceAdd, Nat.reduceSub, Nat.reduceMul, Nat.reducePow, Nat.reduceBEq, Nat.reduceLT, Nat.reduceLeDiff, Nat.reduceEqDiff, Int.reduceLT, Int.reduceLE, Int.reduceEq, Int.reduceNe, Int.reduceToNat, Int.reduceAdd, Int.reduceSub, Int.reduceMul, Int.reducePow, Int.reduceDiv, Int.reduceMod, Int.reduceNeg, reduceCtorEq, codeKey, List.contains, List.elem, Ev.load, peek, pack, storeV, fieldAddr, field, cvB, shaped2_cv])
      all_goals first | rfl | (rw [if_pos (by omega)]; done) | (rw [if_neg (by omega)]; done) | (exfalso; omega)
  · rw [if_neg hr]
    repeat' (first | (refine cond_by (F := ans) (fun _ => ?_) (fun _ => ?_)) | (refine wayK_by (F := ans) (fun _ hb_ => ?_) (fun _ hb_ => ?_) <;> simp only [hb_]) | (refine wayK_byN (F := ans) (fun _ hb_ => ?_) (fun _ hb_ => ?_) <;> simp only [hb_]) | (refine wayD_by (F := ans) (fun _ hb_ => ?_) (fun _ hb_ => ?_) <;> simp only [hb_]) | (refine wayD_byN (F := ans) (fun _ hb_ => ?_) (fun _ hb_ => ?_) <;> simp only [hb_]) | (refine rdK_by (F := ans) (fun _ => ?_) (fun _ => ?_)) | (refine effK_by (F := ans) (fun _ => ?_) (fun _ => ?_)) | (refine effK_by2 (F := ans) (fun _ => ?_) (fun _ => ?_)) | (refine rdD_by (F := ans) (fun _ => ?_) (fun _ => ?_)) | (refine effD_by (F := ans) (fun _ => ?_) (fun _ => ?_)) | (refine effD_by2 (F := ans) (fun _ => ?_) (fun _ => ?_)) | simp -implicitDefEqProofs (disch := first | omega | (simp only [List.length_append, List.length_cons, List.length_nil, List.length_drop, List.length_take]; omega)) only [evs, tys, lors, Nat.reduceAdd, Nat.reduceSub, Nat.reduceMul, Nat.reducePow, Nat.reduceBEq, Nat.reduceLT, Nat.reduceLeDiff, Nat.reduceEqDiff, Int.reduceLT, Int.reduceLE, Int.reduceEq, Int.reduceNe, Int.reduceToNat, Int.reduceAdd, Int.reduceSub, Int.reduceMul, Int.reducePow, Int.reduceDiv, Int.reduceMod, Int.reduceNeg, reduceCtorEq, codeKey, List.contains, List.elem, Ev.load, peek, pack, storeV, fieldAddr, field, cvB, shaped2_cv])
    all_goals first | rfl | (rw [if_pos (by omega)]; done) | (rw [if_neg (by omega)]; done) | (exfalso; omega)
theorem indexD_cv (L M D v : Int) (H : Heap) : callV (CL lore) 17 [.agg [.int .i64 L, .int .i64 M, .int .i64 D], .int .i64 v] H = some (indexV L M D v, H) := by
  refine callV_ans (r := some _) ?_ lore_sh17 rfl H
  rw [call_start lore_ext17 Try.func17 rfl lore_okf17 (Nat.le_of_ble_eq_true rfl)]
  unfold indexV
  by_cases hr : RightS L M D
  · rw [if_pos hr]
    by_cases hv : 0 ≤ v ∧ v ≤ M
    · rw [if_pos hv]
      obtain ⟨f1, f2, f3, f4, f5, f6⟩ := x_facts hr (v := v) (by omega) (by omega)
      have hi := fun H => place_cv L M D (by omega) (by omega) hr.2.2 v (by omega) (by omega) H
      repeat' (first | (refine cond_by (F := ans) (fun _ => ?_) (fun _ => ?_)) | (refine wayK_by (F := ans) (fun _ hb_ => ?_) (fun _ hb_ => ?_) <;> simp only [hb_]) | (refine wayK_byN (F := ans) (fun _ hb_ => ?_) (fun _ hb_ => ?_) <;> simp only [hb_]) | (refine wayD_by (F := ans) (fun _ hb_ => ?_) (fun _ hb_ => ?_) <;> simp only [hb_]) | (refine wayD_byN (F := ans) (fun _ hb_ => ?_) (fun _ hb_ => ?_) <;> simp only [hb_]) | (refine rdK_by (F := ans) (fun _ => ?_) (fun _ => ?_)) | (refine effK_by (F := ans) (fun _ => ?_) (fun _ => ?_)) | (refine effK_by2 (F := ans) (fun _ => ?_) (fun _ => ?_)) | (refine rdD_by (F := ans) (fun _ => ?_) (fun _ => ?_)) | (refine effD_by (F := ans) (fun _ => ?_) (fun _ => ?_)) | (refine effD_by2 (F := ans) (fun _ => ?_) (fun _ => ?_)) | simp -implicitDefEqProofs (disch := first | omega | (simp only [List.length_append, List.length_cons, List.length_nil, List.length_drop, List.length_take]; omega)) only [evs, tys, lors, Nat.reduceAdd, Nat.reduceSub, Nat.reduceMul, Nat.reducePow, Nat.reduceBEq, Nat.reduceLT, Nat.reduceLeDiff, Nat.reduceEqDiff, Int.reduceLT, Int.reduceLE, Int.reduceEq, Int.reduceNe, Int.reduceToNat, Int.reduceAdd, Int.reduceSub, Int.reduceMul, Int.reducePow, Int.reduceDiv, Int.reduceMod, Int.reduceNeg, reduceCtorEq, codeKey, List.contains, List.elem, Ev.load, peek, pack, storeV, fieldAddr, field, cvB, right_cv, hi])
      all_goals first | rfl | (rw [if_pos (by omega)]; done) | (rw [if_neg (by omega)]; done) | (exfalso; omega)
    · rw [if_neg hv]
      repeat' (first | (refine cond_by (F := ans) (fun _ => ?_) (fun _ => ?_)) | (refine wayK_by (F := ans) (fun _ hb_ => ?_) (fun _ hb_ => ?_) <;> simp only [hb_]) | (refine wayK_byN (F := ans) (fun _ hb_ => ?_) (fun _ hb_ => ?_) <;> simp only [hb_]) | (refine wayD_by (F := ans) (fun _ hb_ => ?_) (fun _ hb_ => ?_) <;> simp only [hb_]) | (refine wayD_byN (F := ans) (fun _ hb_ => ?_) (fun _ hb_ => ?_) <;> simp only [hb_]) | (refine rdK_by (F := ans) (fun _ => ?_) (fun _ => ?_)) | (refine effK_by (F := ans) (fun _ => ?_) (fun _ => ?_)) | (refine effK_by2 (F := ans) (fun _ => ?_) (fun _ => ?_)) | (refine rdD_by (F := ans) (fun _ => ?_) (fun _ => ?_)) | (refine effD_by (F := ans) (fun _ => ?_) (fun _ => ?_)) | (refine effD_by2 (F := ans) (fun _ => ?_) (fun _ => ?_)) | simp -implicitDefEqProofs (disch := first | omega | (simp only [List.length_append, List.length_cons, List.length_nil, List.length_drop, List.length_take]; omega)) only [evs, tys, lors, Nat.reduceAdd, Nat.reduceSub, Nat.reduceMul, Nat.reducePow, Nat.reduceBEq, Nat.reduceLT, Nat.reduceLeDiff, Nat.reduceEqDiff, Int.reduceLT, Int.reduceLE, Int.reduceEq, Int.reduceNe, Int.reduceToNat, Int.reduceAdd, Int.reduceSub, Int.reduceMul, Int.reducePow, Int.reduceDiv, Int.reduceMod, Int.reduceNeg, reduceCtorEq, codeKey, List.contains, List.elem, Ev.load, peek, pack, storeV, fieldAddr, field, cvB, right_cv])
      all_goals first | rfl | (rw [if_pos (by omega)]; done) | (rw [if_neg (by omega)]; done) | (exfalso; omega)
  · rw [if_neg hr]
    repeat' (first | (refine cond_by (F := ans) (fun _ => ?_) (fun _ => ?_)) | (refine wayK_by (F := ans) (fun _ hb_ => ?_) (fun _ hb_ => ?_) <;> simp only [hb_]) | (refine wayK_byN (F := ans) (fun _ hb_ => ?_) (fun _ hb_ => ?_) <;> simp only [hb_]) | (refine wayD_by (F := ans) (fun _ hb_ => ?_) (fun _ hb_ => ?_) <;> simp only [hb_]) | (refine wayD_byN (F := ans) (fun _ hb_ => ?_) (fun _ hb_ => ?_) <;> simp only [hb_]) | (refine rdK_by (F := ans) (fun _ => ?_) (fun _ => ?_)) | (refine effK_by (F := ans) (fun _ => ?_) (fun _ => ?_)) | (refine effK_by2 (F := ans) (fun _ => ?_) (fun _ => ?_)) | (refine rdD_by (F := ans) (fun _ => ?_) (fun _ => ?_)) | (refine effD_by (F := ans) (fun _ => ?_) (fun _ => ?_)) | (refine effD_by2 (F := ans) (fun _ => ?_) (fun _ => ?_)) | simp -implicitDefEqProofs (disch := first | omega | (simp only [List.length_append, List.length_cons, List.length_nil, List.length_drop, List.length_take]; omega)) only [evs, tys, lors, Nat.reduceAdd, Nat.reduceSub, Nat.reduceMul, Nat.reducePow, Nat.reduceBEq, Nat.reduceLT, Nat.reduceLeDiff, Nat.reduceEqDiff, Int.reduceLT, Int.reduceLE, Int.reduceEq, Int.reduceNe, Int.reduceToNat, Int.reduceAdd, Int.reduceSub, Int.reduceMul, Int.reducePow, Int.reduceDiv, Int.reduceMod, Int.reduceNeg, reduceCtorEq, codeKey, List.contains, List.elem, Ev.load, peek, pack, storeV, fieldAddr, field, cvB, right_cv])
    all_goals first | rfl | (rw [if_pos (by omega)]; done) | (rw [if_neg (by omega)]; done) | (exfalso; omega)
end Go.Proofs.Ytacnpljkcpomnaa
