/-
scale: Bounds, of the program and of the document.
-/
import Derived.Test.YtacnpljkcpomnaaS5
namespace Go.Proofs.Ytacnpljkcpomnaa
open Go Ev
set_option linter.all false
set_option maxHeartbeats 4000000
set_option maxRecDepth 5000
attribute [local irreducible] codeL condL loopL callL callV evOps evDraw rdK effK wayK oneK wayD oneD rdD effD chks chkB res

abbrev lowZ (L D i : Int) : Int := sbZ (subE D) i * 2 ^ shN (subE D) i * 2 ^ uOf L
abbrev widZ (L D i : Int) : Int := 2 ^ shN (subE D) i * 2 ^ uOf L
def boundsV (L M D i : Int) : V := if RightS L M D then if 0 ≤ i ∧ i ≤ topOf L M D then .tup [.int .i64 (lowZ L D i), .int .i64 (lowZ L D i + widZ L D i - 1), .int .i64 0] else .tup [.int .i64 0, .int .i64 0, .int .i64 2] else .tup [.int .i64 0, .int .i64 0, .int .i64 80]
theorem boundsP_cv (L M D i : Int) (H : Heap) : callV (CL lore) 11 [.agg [.int .i64 L, .int .i64 M, .int .i64 D], .int .i64 i] H = some (boundsV L M D i, H) := by
  refine callV_ans (r := some _) ?_ lore_sh11 rfl H
  rw [call_start lore_ext11 Try.func11 rfl lore_okf11 (Nat.le_of_ble_eq_true rfl)]
  unfold boundsV
  by_cases hr : RightS L M D
  · rw [if_pos hr]
    obtain ⟨f1, f2, f3, f4, f5, f6⟩ := x_facts hr (v := M) (by omega) (by omega)
    have hi := fun H => index_cv (uOf L) (subE D) f1 f4 M (by omega) (by omega) H
    simp only [topOf]
    by_cases hv : 0 ≤ i ∧ i ≤ idxZ (subE D) (M / 2 ^ uOf L)
    · rw [if_pos hv]
      have hp : (0 : Int) < 2 ^ uOf L := Int.pow_pos (by decide)
      have hm : M / 2 ^ uOf L * 2 ^ uOf L ≤ M := Int.ediv_mul_le _ (by omega)
      have hb := fun H => bounds_cv (uOf L) (subE D) f1 f4 (M / 2 ^ uOf L) i f2 (by omega) hv.1 hv.2 H
      repeat' (first | (refine cond_by (F := ans) (fun _ => ?_) (fun _ => ?_)) | (refine wayK_by (F := ans) (fun _ hb_ => ?_) (fun _ hb_ => ?_) <;> simp only [hb_]) | (refine wayK_byN (F := ans) (fun _ hb_ => ?_) (fun _ hb_ => ?_) <;> simp only [hb_]) | (refine wayD_by (F := ans) (fun _ hb_ => ?_) (fun _ hb_ => ?_) <;> simp only [hb_]) | (refine wayD_byN (F := ans) (fun _ hb_ => ?_) (fun _ hb_ => ?_) <;> simp only [hb_]) | (refine rdK_by (F := ans) (fun _ => ?_) (fun _ => ?_)) | (refine effK_by (F := ans) (fun _ => ?_) (fun _ => ?_)) | (refine effK_by2 (F := ans) (fun _ => ?_) (fun _ => ?_)) | (refine rdD_by (F := ans) (fun _ => ?_) (fun _ => ?_)) | (refine effD_by (F := ans) (fun _ => ?_) (fun _ => ?_)) | (refine effD_by2 (F := ans) (fun _ => ?_) (fun _ => ?_)) | simp -implicitDefEqProofs (disch := first | omega | (simp only [List.length_append, List.length_cons, List.length_nil, List.length_drop, List.length_take]; omega)) only [evs, tys, lors, Nat.reduceAdd, Nat.reduceSub, Nat.reduceMul, Nat.reducePow, Nat.reduceBEq, Nat.reduceLT, Nat.reduceLeDiff, Nat.reduceEqDiff, Int.reduceLT, Int.reduceLE, Int.reduceEq, Int.reduceNe, Int.reduceToNat, Int.reduceAdd, Int.reduceSub, Int.reduceMul, Int.reducePow, Int.reduceDiv, Int.reduceMod, Int.reduceNeg, reduceCtorEq, codeKey, List.contains, List.elem, Ev.load, peek, pack, storeV, fieldAddr, field, cvB, shaped2_cv, hi, hb])
      all_goals first | rfl | (rw [if_pos (by omega)]; done) | (rw [if_neg (by omega)]; done) | (exfalso; omega)
    · rw [if_neg hv]
      repeat' (first | (refine cond_by (F := ans) (fun _ => ?_) (fun _ => ?_)) | (refine wayK_by (F := ans) (fun _ hb_ => ?_) (fun _ hb_ => ?_) <;> simp only [hb_]) | (refine wayK_byN (F := ans) (fun _ hb_ => ?_) (fun _ hb_ => ?_) <;> simp only [hb_]) | (refine wayD_by (F := ans) (fun _ hb_ => ?_) (fun _ hb_ => ?_) <;> simp only [hb_]) | (refine wayD_byN (F := ans) (fun _ hb_ => ?_) (fun _ hb_ => ?_) <;> simp only [hb_]) | (refine rdK_by (F := ans) (fun _ => ?_) (fun _ => ?_)) | (refine effK_by (F := ans) (fun _ => ?_) (fun _ => ?_)) | (refine effK_by2 (F := ans) (fun _ => ?_) (fun _ => ?_)) | (refine rdD_by (F := ans) (fun _ => ?_) (fun _ => ?_)) | (refine effD_by (F := ans) (fun _ => ?_) (fun _ => ?_)) | (refine effD_by2 (F := ans) (fun _ => ?_) (fun _ => ?_)) | simp -implicitDefEqProofs (disch := first | omega | (simp only [List.length_append, List.length_cons, List.length_nil, List.length_drop, List.length_take]; omega)) only [evs, tys, lors, Nat.reduceAdd, Nat.reduceSub, Nat.reduceMul, Nat.reducePow, Nat.reduceBEq, Nat.reduceLT, Nat.reduceLeDiff, Nat.reduceEqDiff, Int.reduceLT, Int.reduceLE, Int.reduceEq, Int.reduceNe, Int.reduceToNat, Int.reduceAdd, Int.reduceSub, Int.reduceMul, Int.reducePow, Int.reduceDiv, Int.reduceMod, Int.reduceNeg, reduceCtorEq, codeKey, List.contains, List.elem, Ev.load, peek, pack, storeV, fieldAddr, field, cvB, shaped2_cv, hi])
      all_goals first | rfl | (rw [if_pos (by omega)]; done) | (rw [if_neg (by omega)]; done) | (exfalso; omega)
  · rw [if_neg hr]
    repeat' (first | (refine cond_by (F := ans) (fun _ => ?_) (fun _ => ?_)) | (refine wayK_by (F := ans) (fun _ hb_ => ?_) (fun _ hb_ => ?_) <;> simp only [hb_]) | (refine wayK_byN (F := ans) (fun _ hb_ => ?_) (fun _ hb_ => ?_) <;> simp only [hb_]) | (refine wayD_by (F := ans) (fun _ hb_ => ?_) (fun _ hb_ => ?_) <;> simp only [hb_]) | (refine wayD_byN (F := ans) (fun _ hb_ => ?_) (fun _ hb_ => ?_) <;> simp only [hb_]) | (refine rdK_by (F := ans) (fun _ => ?_) (fun _ => ?_)) | (refine effK_by (F := ans) (fun _ => ?_) (fun _ => ?_)) | (refine effK_by2 (F := ans) (fun _ => ?_) (fun _ => ?_)) | (refine rdD_by (F := ans) (fun _ => ?_) (fun _ => ?_)) | (refine effD_by (F := ans) (fun _ => ?_) (fun _ => ?_)) | (refine effD_by2 (F := ans) (fun _ => ?_) (fun _ => ?_)) | simp -implicitDefEqProofs (disch := first | omega | (simp only [List.length_append, List.length_cons, List.length_nil, List.length_drop, List.length_take]; omega)) only [evs, tys, lors, Nat.reduceAdd, Nat.reduceSub, Nat.reduceMul, Nat.reducePow, Nat.reduceBEq, Nat.reduceLT, Nat.reduceLeDiff, Nat.reduceEqDiff, Int.reduceLT, Int.reduceLE, Int.reduceEq, Int.reduceNe, Int.reduceToNat, Int.reduceAdd, Int.reduceSub, Int.reduceMul, Int.reducePow, Int.reduceDiv, Int.reduceMod, Int.reduceNeg, reduceCtorEq, codeKey, List.contains, List.elem, Ev.load, peek, pack, storeV, fieldAddr, field, cvB, shaped2_cv])
    all_goals first | rfl | (rw [if_pos (by omega)]; done) | (rw [if_neg (by omega)]; done) | (exfalso; omega)
theorem loop18 (sh : Nat) (hsh : sh ≤ 62) (u : Nat) (hb : (2 : Int) ^ sh * 2 ^ u ≤ 4611686018427387904) (sb : Int) (K : Kont) (R : Option V) (a : Code) (ha : loopIn Try.prog 18 15 = some a) (H : Heap)
    (hR : ans (K (.exit 0) (Sl 77 .wild [(11, .int .i64 (sh : Nat)), (12, .int .i64 sb), (13, .int .i64 (2 ^ sh * 2 ^ u)), (14, .int .i64 (sh : Nat))]) H) = R) :
    ∀ (n j : Nat) (y z : Int), y = 2 ^ j * 2 ^ u → z = j → sh - j = n → j ≤ sh → ans (loopL lore 18 a (Sl 77 .wild [(11, .int .i64 (sh : Nat)), (12, .int .i64 sb), (13, .int .i64 y), (14, .int .i64 z)]) H K) = R := by
  have hk := loop_key ha
  simp only [loopIn, Try.func18, Try.f18, loopAt, Option.bind_some, codeKey, if_true, Option.some.injEq, Nat.reduceEqDiff, if_false] at ha
  have hp : (0 : Int) < 2 ^ u := Int.pow_pos (by decide)
  intro n
  induction n with
  | zero =>
    intro j y z hy hz hn hj
    subst hy hz
    obtain rfl : j = sh := by omega
    rw [loopL_step' ha]
    repeat' (first | (refine cond_by (F := ans) (fun _ => ?_) (fun _ => ?_)) | (refine wayK_by (F := ans) (fun _ hb_ => ?_) (fun _ hb_ => ?_) <;> simp only [hb_]) | (refine wayK_byN (F := ans) (fun _ hb_ => ?_) (fun _ hb_ => ?_) <;> simp only [hb_]) | (refine wayD_by (F := ans) (fun _ hb_ => ?_) (fun _ hb_ => ?_) <;> simp only [hb_]) | (refine wayD_byN (F := ans) (fun _ hb_ => ?_) (fun _ hb_ => ?_) <;> simp only [hb_]) | (refine rdK_by (F := ans) (fun _ => ?_) (fun _ => ?_)) | (refine effK_by (F := ans) (fun _ => ?_) (fun _ => ?_)) | (refine effK_by2 (F := ans) (fun _ => ?_) (fun _ => ?_)) | (refine rdD_by (F := ans) (fun _ => ?_) (fun _ => ?_)) | (refine effD_by (F := ans) (fun _ => ?_) (fun _ => ?_)) | (refine effD_by2 (F := ans) (fun _ => ?_) (fun _ => ?_)) | simp -implicitDefEqProofs (disch := first | omega | (simp only [List.length_append, List.length_cons, List.length_nil, List.length_drop, List.length_take]; omega)) only [evs, tys, lors, Nat.reduceAdd, Nat.reduceSub, Nat.reduceMul, Nat.reducePow, Nat.reduceBEq, Nat.reduceLT, Nat.reduceLeDiff, Nat.reduceEqDiff, Int.reduceLT, Int.reduceLE, Int.reduceEq, Int.reduceNe, Int.reduceToNat, Int.reduceAdd, Int.reduceSub, Int.reduceMul, Int.reducePow, Int.reduceDiv, Int.reduceMod, Int.reduceNeg, reduceCtorEq, codeKey, List.contains, List.elem, Ev.load, peek, pack, storeV, fieldAddr, field, cvB, hk])
    · exfalso; omega
    · exact hR
  | succ n ih =>
    intro j y z hy hz hn hj
    have e : (2 : Int) ^ (j + 1) * 2 ^ u = 2 * (2 ^ j * 2 ^ u) := by rw [Int.pow_succ', Int.mul_assoc]
    have hs := Int.mul_le_mul_of_nonneg_right (pow_le (show j + 1 ≤ sh by omega)) (show (0 : Int) ≤ 2 ^ u by omega)
    have h0 : 0 ≤ (2 : Int) ^ j * 2 ^ u := Int.mul_nonneg (Int.le_of_lt (Int.pow_pos (by decide))) (by omega)
    rw [← hy] at e h0
    rw [loopL_step' ha]
    repeat' (first | (refine cond_by (F := ans) (fun _ => ?_) (fun _ => ?_)) | (refine wayK_by (F := ans) (fun _ hb_ => ?_) (fun _ hb_ => ?_) <;> simp only [hb_]) | (refine wayK_byN (F := ans) (fun _ hb_ => ?_) (fun _ hb_ => ?_) <;> simp only [hb_]) | (refine wayD_by (F := ans) (fun _ hb_ => ?_) (fun _ hb_ => ?_) <;> simp only [hb_]) | (refine wayD_byN (F := ans) (fun _ hb_ => ?_) (fun _ hb_ => ?_) <;> simp only [hb_]) | (refine rdK_by (F := ans) (fun _ => ?_) (fun _ => ?_)) | (refine effK_by (F := ans) (fun _ => ?_) (fun _ => ?_)) | (refine effK_by2 (F := ans) (fun _ => ?_) (fun _ => ?_)) | (refine rdD_by (F := ans) (fun _ => ?_) (fun _ => ?_)) | (refine effD_by (F := ans) (fun _ => ?_) (fun _ => ?_)) | (refine effD_by2 (F := ans) (fun _ => ?_) (fun _ => ?_)) | simp -implicitDefEqProofs (disch := first | omega | (simp only [List.length_append, List.length_cons, List.length_nil, List.length_drop, List.length_take]; omega)) only [evs, tys, lors, Nat.reduceAdd, Nat.reduceSub, Nat.reduceMul, Nat.reducePow, Nat.reduceBEq, Nat.reduceLT, Nat.reduceLeDiff, Nat.reduceEqDiff, Int.reduceLT, Int.reduceLE, Int.reduceEq, Int.reduceNe, Int.reduceToNat, Int.reduceAdd, Int.reduceSub, Int.reduceMul, Int.reducePow, Int.reduceDiv, Int.reduceMod, Int.reduceNeg, reduceCtorEq, codeKey, List.contains, List.elem, Ev.load, peek, pack, storeV, fieldAddr, field, cvB, hk])
    · exact ih (j + 1) _ _ (by rw [e]) (by omega) (by omega) (by omega)
    · exfalso; omega
theorem boundsD_cv (L M D i : Int) (H : Heap) : callV (CL lore) 18 [.agg [.int .i64 L, .int .i64 M, .int .i64 D], .int .i64 i] H = some (boundsV L M D i, H) := by
  refine callV_ans (r := some _) ?_ lore_sh18 rfl H
  rw [call_start lore_ext18 Try.func18 rfl lore_okf18 (Nat.le_of_ble_eq_true rfl)]
  unfold boundsV
  by_cases hr : RightS L M D
  · rw [if_pos hr]
    obtain ⟨f1, f2, f3, f4, f5, f6⟩ := x_facts hr (v := M) (by omega) (by omega)
    have hc := fun H => countd_cv L M D hr H
    have hu := fun H => unit_cv L M D hr.1.1 hr.1.2 H
    have hs := fun H => sub_cv L M D hr.2.2 H
    by_cases hv : 0 ≤ i ∧ i ≤ topOf L M D
    · rw [if_pos hv]
      have hp : (0 : Int) < 2 ^ uOf L := Int.pow_pos (by decide)
      have hm : M / 2 ^ uOf L * 2 ^ uOf L ≤ M := Int.ediv_mul_le _ (by omega)
      obtain ⟨l1, l2, l3, l4, l5⟩ := low_le (subE D) f4 (M / 2 ^ uOf L) i f2 f3 hv.1 hv.2
      have p40 := pow_le f1
      have c40 : (2 : Int) ^ 40 = 1099511627776 := by decide
      have hps : (0 : Int) < 2 ^ shN (subE D) i := Int.pow_pos (by decide)
      have m1 := Int.mul_le_mul_of_nonneg_right l4 (show (0 : Int) ≤ 2 ^ uOf L by omega)
      have m2 := Int.mul_le_mul_of_nonneg_right l5 (show (0 : Int) ≤ 2 ^ uOf L by omega)
      have m3 : 0 ≤ sbZ (subE D) i * 2 ^ shN (subE D) i := Int.mul_nonneg l2 (by omega)
      have m4 := Int.mul_nonneg m3 (show (0 : Int) ≤ 2 ^ uOf L by omega)
      have m5 : 0 ≤ (2 : Int) ^ shN (subE D) i * 2 ^ uOf L := Int.mul_nonneg (by omega) (by omega)
      rw [Int.add_mul, Int.one_mul] at m2
      unfold lowZ widZ
      generalize hte : topOf L M D = top at *
      by_cases hi : i < 2 ^ subE D
      · have e1 : shN (subE D) i = 0 := by unfold shN; rw [if_pos hi]
        have e2 : sbZ (subE D) i = i := by unfold sbZ; rw [if_pos hi]
        rw [e1, e2, Int.pow_zero, Int.mul_one] at m1 m3 m4
        rw [e1, Int.pow_zero, Int.one_mul] at m2 m5
        rw [e1, e2, Int.pow_zero, Int.mul_one, Int.one_mul]
        repeat' (first | (refine cond_by (F := ans) (fun _ => ?_) (fun _ => ?_)) | (refine wayK_by (F := ans) (fun _ hb_ => ?_) (fun _ hb_ => ?_) <;> simp only [hb_]) | (refine wayK_byN (F := ans) (fun _ hb_ => ?_) (fun _ hb_ => ?_) <;> simp only [hb_]) | (refine wayD_by (F := ans) (fun _ hb_ => ?_) (fun _ hb_ => ?_) <;> simp only [hb_]) | (refine wayD_byN (F := ans) (fun _ hb_ => ?_) (fun _ hb_ => ?_) <;> simp only [hb_]) | (refine rdK_by (F := ans) (fun _ => ?_) (fun _ => ?_)) | (refine effK_by (F := ans) (fun _ => ?_) (fun _ => ?_)) | (refine effK_by2 (F := ans) (fun _ => ?_) (fun _ => ?_)) | (refine rdD_by (F := ans) (fun _ => ?_) (fun _ => ?_)) | (refine effD_by (F := ans) (fun _ => ?_) (fun _ => ?_)) | (refine effD_by2 (F := ans) (fun _ => ?_) (fun _ => ?_)) | simp -implicitDefEqProofs (disch := first | omega | (simp only [List.length_append, List.length_cons, List.length_nil, List.length_drop, List.length_take]; omega)) only [evs, tys, lors, Nat.reduceAdd, Nat.reduceSub, Nat.reduceMul, Nat.reducePow, Nat.reduceBEq, Nat.reduceLT, Nat.reduceLeDiff, Nat.reduceEqDiff, Int.reduceLT, Int.reduceLE, Int.reduceEq, Int.reduceNe, Int.reduceToNat, Int.reduceAdd, Int.reduceSub, Int.reduceMul, Int.reducePow, Int.reduceDiv, Int.reduceMod, Int.reduceNeg, reduceCtorEq, codeKey, List.contains, List.elem, Ev.load, peek, pack, storeV, fieldAddr, field, cvB, right_cv, hc, hu, hs, hte])
        all_goals (exfalso; omega)
      · have e1 : shN (subE D) i = ((i - 2 ^ subE D) / 2 ^ (subE D - 1) + 1).toNat := by unfold shN; rw [if_neg hi]
        have e2 : sbZ (subE D) i = (i - 2 ^ subE D) % 2 ^ (subE D - 1) + 2 ^ (subE D - 1) := by unfold sbZ; rw [if_neg hi]
        have hl18 := loop18 (shN (subE D) i) l1 (uOf L) (by omega) (sbZ (subE D) i)
        rw [Int.mul_assoc] at m1 m4 ⊢
        generalize subE D = e at *
        have e3 : (i - 2 ^ e) / 2 ^ (e - 1) + 1 = (shN e i : Int) := by
          rcases f4 with rfl | rfl | rfl
          all_goals
            simp only [Nat.reduceSub, Int.reducePow] at *
            omega
        generalize shN e i = sh at *
        generalize sbZ e i = sb at *
        rcases f4 with rfl | rfl | rfl
        all_goals
          simp only [Nat.reduceSub, Int.reducePow] at *
          repeat' (first | (refine cond_by (F := ans) (fun _ => ?_) (fun _ => ?_)) | (refine wayK_by (F := ans) (fun _ hb_ => ?_) (fun _ hb_ => ?_) <;> simp only [hb_]) | (refine wayK_byN (F := ans) (fun _ hb_ => ?_) (fun _ hb_ => ?_) <;> simp only [hb_]) | (refine wayD_by (F := ans) (fun _ hb_ => ?_) (fun _ hb_ => ?_) <;> simp only [hb_]) | (refine wayD_byN (F := ans) (fun _ hb_ => ?_) (fun _ hb_ => ?_) <;> simp only [hb_]) | (refine rdK_by (F := ans) (fun _ => ?_) (fun _ => ?_)) | (refine effK_by (F := ans) (fun _ => ?_) (fun _ => ?_)) | (refine effK_by2 (F := ans) (fun _ => ?_) (fun _ => ?_)) | (refine rdD_by (F := ans) (fun _ => ?_) (fun _ => ?_)) | (refine effD_by (F := ans) (fun _ => ?_) (fun _ => ?_)) | (refine effD_by2 (F := ans) (fun _ => ?_) (fun _ => ?_)) | simp -implicitDefEqProofs (disch := first | omega | (simp only [List.length_append, List.length_cons, List.length_nil, List.length_drop, List.length_take]; omega)) only [evs, tys, lors, Nat.reduceAdd, Nat.reduceSub, Nat.reduceMul, Nat.reducePow, Nat.reduceBEq, Nat.reduceLT, Nat.reduceLeDiff, Nat.reduceEqDiff, Int.reduceLT, Int.reduceLE, Int.reduceEq, Int.reduceNe, Int.reduceToNat, Int.reduceAdd, Int.reduceSub, Int.reduceMul, Int.reducePow, Int.reduceDiv, Int.reduceMod, Int.reduceNeg, reduceCtorEq, codeKey, List.contains, List.elem, Ev.load, peek, pack, storeV, fieldAddr, field, cvB, right_cv, hc, hu, hs, hte, e3, ← e2])
        all_goals first
          | contradiction
          | (exfalso; omega)
          | skip
        all_goals
          refine hl18 _ _ _ (by rfl) _ ?_ _ 0 _ _ (by rw [Int.pow_zero, Int.one_mul]) rfl rfl (by omega)
          repeat' (first | (refine cond_by (F := ans) (fun _ => ?_) (fun _ => ?_)) | (refine wayK_by (F := ans) (fun _ hb_ => ?_) (fun _ hb_ => ?_) <;> simp only [hb_]) | (refine wayK_byN (F := ans) (fun _ hb_ => ?_) (fun _ hb_ => ?_) <;> simp only [hb_]) | (refine wayD_by (F := ans) (fun _ hb_ => ?_) (fun _ hb_ => ?_) <;> simp only [hb_]) | (refine wayD_byN (F := ans) (fun _ hb_ => ?_) (fun _ hb_ => ?_) <;> simp only [hb_]) | (refine rdK_by (F := ans) (fun _ => ?_) (fun _ => ?_)) | (refine effK_by (F := ans) (fun _ => ?_) (fun _ => ?_)) | (refine effK_by2 (F := ans) (fun _ => ?_) (fun _ => ?_)) | (refine rdD_by (F := ans) (fun _ => ?_) (fun _ => ?_)) | (refine effD_by (F := ans) (fun _ => ?_) (fun _ => ?_)) | (refine effD_by2 (F := ans) (fun _ => ?_) (fun _ => ?_)) | simp -implicitDefEqProofs (disch := first | omega | (simp only [List.length_append, List.length_cons, List.length_nil, List.length_drop, List.length_take]; omega)) only [evs, tys, lors, Nat.reduceAdd, Nat.reduceSub, Nat.reduceMul, Nat.reducePow, Nat.reduceBEq, Nat.reduceLT, Nat.reduceLeDiff, Nat.reduceEqDiff, Int.reduceLT, Int.reduceLE, Int.reduceEq, Int.reduceNe, Int.reduceToNat, Int.reduceAdd, Int.reduceSub, Int.reduceMul, Int.reducePow, Int.reduceDiv, Int.reduceMod, Int.reduceNeg, reduceCtorEq, codeKey, List.contains, List.elem, Ev.load, peek, pack, storeV, fieldAddr, field, cvB])
        all_goals trace_state
    · rw [if_neg hv]
      repeat' (first | (refine cond_by (F := ans) (fun _ => ?_) (fun _ => ?_)) | (refine wayK_by (F := ans) (fun _ hb_ => ?_) (fun _ hb_ => ?_) <;> simp only [hb_]) | (refine wayK_byN (F := ans) (fun _ hb_ => ?_) (fun _ hb_ => ?_) <;> simp only [hb_]) | (refine wayD_by (F := ans) (fun _ hb_ => ?_) (fun _ hb_ => ?_) <;> simp only [hb_]) | (refine wayD_byN (F := ans) (fun _ hb_ => ?_) (fun _ hb_ => ?_) <;> simp only [hb_]) | (refine rdK_by (F := ans) (fun _ => ?_) (fun _ => ?_)) | (refine effK_by (F := ans) (fun _ => ?_) (fun _ => ?_)) | (refine effK_by2 (F := ans) (fun _ => ?_) (fun _ => ?_)) | (refine rdD_by (F := ans) (fun _ => ?_) (fun _ => ?_)) | (refine effD_by (F := ans) (fun _ => ?_) (fun _ => ?_)) | (refine effD_by2 (F := ans) (fun _ => ?_) (fun _ => ?_)) | simp -implicitDefEqProofs (disch := first | omega | (simp only [List.length_append, List.length_cons, List.length_nil, List.length_drop, List.length_take]; omega)) only [evs, tys, lors, Nat.reduceAdd, Nat.reduceSub, Nat.reduceMul, Nat.reducePow, Nat.reduceBEq, Nat.reduceLT, Nat.reduceLeDiff, Nat.reduceEqDiff, Int.reduceLT, Int.reduceLE, Int.reduceEq, Int.reduceNe, Int.reduceToNat, Int.reduceAdd, Int.reduceSub, Int.reduceMul, Int.reducePow, Int.reduceDiv, Int.reduceMod, Int.reduceNeg, reduceCtorEq, codeKey, List.contains, List.elem, Ev.load, peek, pack, storeV, fieldAddr, field, cvB, right_cv, hc])
      all_goals first | rfl | (rw [if_pos (by omega)]; done) | (rw [if_neg (by omega)]; done) | (exfalso; omega)
  · rw [if_neg hr]
    repeat' (first | (refine cond_by (F := ans) (fun _ => ?_) (fun _ => ?_)) | (refine wayK_by (F := ans) (fun _ hb_ => ?_) (fun _ hb_ => ?_) <;> simp only [hb_]) | (refine wayK_byN (F := ans) (fun _ hb_ => ?_) (fun _ hb_ => ?_) <;> simp only [hb_]) | (refine wayD_by (F := ans) (fun _ hb_ => ?_) (fun _ hb_ => ?_) <;> simp only [hb_]) | (refine wayD_byN (F := ans) (fun _ hb_ => ?_) (fun _ hb_ => ?_) <;> simp only [hb_]) | (refine rdK_by (F := ans) (fun _ => ?_) (fun _ => ?_)) | (refine effK_by (F := ans) (fun _ => ?_) (fun _ => ?_)) | (refine effK_by2 (F := ans) (fun _ => ?_) (fun _ => ?_)) | (refine rdD_by (F := ans) (fun _ => ?_) (fun _ => ?_)) | (refine effD_by (F := ans) (fun _ => ?_) (fun _ => ?_)) | (refine effD_by2 (F := ans) (fun _ => ?_) (fun _ => ?_)) | simp -implicitDefEqProofs (disch := first | omega | (simp only [List.length_append, List.length_cons, List.length_nil, List.length_drop, List.length_take]; omega)) only [evs, tys, lors, Nat.reduceAdd, Nat.reduceSub, Nat.reduceMul, Nat.reducePow, Nat.reduceBEq, Nat.reduceLT, Nat.reduceLeDiff, Nat.reduceEqDiff, Int.reduceLT, Int.reduceLE, Int.reduceEq, Int.reduceNe, Int.reduceToNat, Int.reduceAdd, Int.reduceSub, Int.reduceMul, Int.reducePow, Int.reduceDiv, Int.reduceMod, Int.reduceNeg, reduceCtorEq, codeKey, List.contains, List.elem, Ev.load, peek, pack, storeV, fieldAddr, field, cvB, right_cv])
    all_goals first | rfl | (rw [if_pos (by omega)]; done) | (rw [if_neg (by omega)]; done) | (exfalso; omega)
end Go.Proofs.Ytacnpljkcpomnaa
