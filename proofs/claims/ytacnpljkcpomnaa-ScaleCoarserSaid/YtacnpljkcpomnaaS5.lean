/-
scale: Bounds, of the program and of the document.
-/
import Derived.Test.YtacnpljkcpomnaaS4
namespace Go.Proofs.Ytacnpljkcpomnaa
open Go Ev
set_option linter.all false
set_option maxHeartbeats 4000000
set_option maxRecDepth 5000
attribute [local irreducible] codeL condL loopL callL callV evOps evDraw rdK effK wayK oneK wayD oneD rdD effD chks chkB res

def shN (e : Nat) (i : Int) : Nat := if i < 2 ^ e then 0 else ((i - 2 ^ e) / 2 ^ (e - 1) + 1).toNat
def sbZ (e : Nat) (i : Int) : Int := if i < 2 ^ e then i else (i - 2 ^ e) % 2 ^ (e - 1) + 2 ^ (e - 1)
theorem low_le (e : Nat) (he : Sub3 e) (x i : Int) (h0 : 0 ≤ x) (h1 : x ≤ 2305843009213693952) (i0 : 0 ≤ i) (i1 : i ≤ idxZ e x) : shN e i ≤ 62 ∧ 0 ≤ sbZ e i ∧ sbZ e i < 2 ^ e ∧ sbZ e i * 2 ^ shN e i ≤ x ∧ (2 : Int) ^ shN e i ≤ x + 1 := by
  have kf := k_facts e (by rcases he with rfl | rfl | rfl <;> decide) x h0 h1
  have hb := idxZ_bounds e he x h0 h1
  by_cases hi : i < 2 ^ e
  · have e1 : shN e i = 0 := by unfold shN; rw [if_pos hi]
    have e2 : sbZ e i = i := by unfold sbZ; rw [if_pos hi]
    rw [e1, e2, Int.pow_zero, Int.mul_one]
    refine ⟨by decide, i0, hi, ?_, by omega⟩
    by_cases hx : x < 2 ^ e
    · unfold idxZ at i1
      rw [if_pos hx] at i1
      exact i1
    · omega
  · have hx : ¬ x < 2 ^ e := fun hx => by
      unfold idxZ at i1
      rw [if_pos hx] at i1
      omega
    obtain ⟨k0, k1, k2⟩ := kf.2.2 hx
    have hk : kOf e x ≤ 62 := by unfold kOf; omega
    have hk1 : 1 ≤ kOf e x := by
      have := kf.2.1
      unfold kOf
      omega
    unfold idxZ at i1
    rw [if_neg hx] at i1
    have e1 : shN e i = ((i - 2 ^ e) / 2 ^ (e - 1) + 1).toNat := by unfold shN; rw [if_neg hi]
    have e2 : sbZ e i = (i - 2 ^ e) % 2 ^ (e - 1) + 2 ^ (e - 1) := by unfold sbZ; rw [if_neg hi]
    have hxk := Int.mul_ediv_self_le (x := x) (k := 2 ^ kOf e x) (by have : (0 : Int) < 2 ^ kOf e x := Int.pow_pos (by decide); omega)
    rw [e2]
    generalize shN e i = sh at *
    generalize kOf e x = k at *
    generalize hr : x / 2 ^ k = r at *
    have hsk : sh ≤ k ∧ (sh = k → (i - 2 ^ e) % 2 ^ (e - 1) + 2 ^ (e - 1) ≤ r) ∧ 1 ≤ sh ∧ 0 ≤ (i - 2 ^ e) % 2 ^ (e - 1) ∧ (i - 2 ^ e) % 2 ^ (e - 1) + 2 ^ (e - 1) < 2 ^ e ∧ 1 ≤ (i - 2 ^ e) % 2 ^ (e - 1) + 2 ^ (e - 1) := by
      rcases he with rfl | rfl | rfl
      all_goals
        simp only [Nat.reduceSub, Int.reducePow] at *
        omega
    obtain ⟨s1, s2, s3, s4, s5, s6⟩ := hsk
    generalize (i - 2 ^ e) % 2 ^ (e - 1) + 2 ^ (e - 1) = sb at *
    have hp : (0 : Int) < 2 ^ sh := Int.pow_pos (by decide)
    have hle : sb * 2 ^ sh ≤ x := by
      by_cases h : sh = k
      · have := Int.mul_le_mul_of_nonneg_right (s2 h) (show (0 : Int) ≤ 2 ^ sh by omega)
        rw [h, Int.mul_comm r] at this
        rw [h]
        omega
      · have a := Int.mul_le_mul_of_nonneg_right (show sb ≤ 2 * r by omega) (show (0 : Int) ≤ 2 ^ sh by omega)
        have b := pow_le (show sh + 1 ≤ k by omega)
        have c := Int.mul_le_mul_of_nonneg_right b k0
        rw [Int.pow_succ, Int.mul_assoc, Int.mul_comm] at c
        omega
    refine ⟨by omega, by omega, s5, hle, ?_⟩
    have := Int.mul_le_mul_of_nonneg_right s6 (show (0 : Int) ≤ 2 ^ sh by omega)
    omega
theorem bounds_cv (u e : Nat) (hu : u ≤ 40) (he : Sub3 e) (x i : Int) (h0 : 0 ≤ x) (h1 : x * 2 ^ u ≤ 2305843009213693952) (i0 : 0 ≤ i) (i1 : i ≤ idxZ e x) (H : Heap) :
    callV (CL lore) 32 [.agg [.int .i64 (u : Int), .int .i64 (e : Int)], .int .i64 i] H = some (.tup [.int .i64 (sbZ e i * 2 ^ shN e i * 2 ^ u), .int .i64 (sbZ e i * 2 ^ shN e i * 2 ^ u + 2 ^ shN e i * 2 ^ u - 1)], H) := by
  refine callV_ans (r := some _) ?_ lore_sh32 rfl H
  rw [call_start lore_ext32 Try.func32 rfl lore_okf32 (Nat.le_of_ble_eq_true rfl)]
  have hp : (0 : Int) < 2 ^ u := Int.pow_pos (by decide)
  have hx1 : x ≤ x * 2 ^ u := by
    have := Int.mul_le_mul_of_nonneg_left (show (1 : Int) ≤ 2 ^ u by omega) h0
    omega
  have hb := idxZ_bounds e he x h0 (by omega)
  obtain ⟨l1, l2, l3, l4, l5⟩ := low_le e he x i h0 (by omega) i0 i1
  have p40 := pow_le hu
  have hps : (0 : Int) < 2 ^ shN e i := Int.pow_pos (by decide)
  have m1 := Int.mul_le_mul_of_nonneg_right l4 (show (0 : Int) ≤ 2 ^ u by omega)
  have m2 := Int.mul_le_mul_of_nonneg_right l5 (show (0 : Int) ≤ 2 ^ u by omega)
  have m3 : 0 ≤ sbZ e i * 2 ^ shN e i := Int.mul_nonneg l2 (by omega)
  have m4 := Int.mul_nonneg m3 (show (0 : Int) ≤ 2 ^ u by omega)
  have m5 : 0 ≤ (2 : Int) ^ shN e i * 2 ^ u := Int.mul_nonneg (by omega) (by omega)
  rw [Int.add_mul, Int.one_mul] at m2
  have c40 : (2 : Int) ^ 40 = 1099511627776 := by decide
  by_cases hi : i < 2 ^ e
  · have e1 : shN e i = 0 := by unfold shN; rw [if_pos hi]
    have e2 : sbZ e i = i := by unfold sbZ; rw [if_pos hi]
    rw [e1, e2, Int.pow_zero, Int.mul_one] at m1 m3 m4
    rw [e1, Int.pow_zero, Int.one_mul] at m2 m5
    rw [e1, e2, Int.pow_zero, Int.mul_one, Int.one_mul]
    rcases he with rfl | rfl | rfl
    all_goals repeat' (first | (refine cond_by (F := ans) (fun _ => ?_) (fun _ => ?_)) | (refine wayK_by (F := ans) (fun _ hb_ => ?_) (fun _ hb_ => ?_) <;> simp only [hb_]) | (refine wayK_byN (F := ans) (fun _ hb_ => ?_) (fun _ hb_ => ?_) <;> simp only [hb_]) | (refine wayD_by (F := ans) (fun _ hb_ => ?_) (fun _ hb_ => ?_) <;> simp only [hb_]) | (refine wayD_byN (F := ans) (fun _ hb_ => ?_) (fun _ hb_ => ?_) <;> simp only [hb_]) | (refine rdK_by (F := ans) (fun _ => ?_) (fun _ => ?_)) | (refine effK_by (F := ans) (fun _ => ?_) (fun _ => ?_)) | (refine effK_by2 (F := ans) (fun _ => ?_) (fun _ => ?_)) | (refine rdD_by (F := ans) (fun _ => ?_) (fun _ => ?_)) | (refine effD_by (F := ans) (fun _ => ?_) (fun _ => ?_)) | (refine effD_by2 (F := ans) (fun _ => ?_) (fun _ => ?_)) | simp -implicitDefEqProofs (disch := first | omega | (simp only [List.length_append, List.length_cons, List.length_nil, List.length_drop, List.length_take]; omega)) only [evs, tys, lors, Nat.reduceAdd, Nat.reduceSub, Nat.reduceMul, Nat.reducePow, Nat.reduceBEq, Nat.reduceLT, Nat.reduceLeDiff, Nat.reduceEqDiff, Int.reduceLT, Int.reduceLE, Int.reduceEq, Int.reduceNe, Int.reduceToNat, Int.reduceAdd, Int.reduceSub, Int.reduceMul, Int.reducePow, Int.reduceDiv, Int.reduceMod, Int.reduceNeg, reduceCtorEq, codeKey, List.contains, List.elem, Ev.load, peek, pack, storeV, fieldAddr, field, cvB, bits1, Int.pow_zero, Int.mul_one, Int.one_mul])
    all_goals (exfalso; omega)
  · have e1 : shN e i = ((i - 2 ^ e) / 2 ^ (e - 1) + 1).toNat := by unfold shN; rw [if_neg hi]
    have e2 : sbZ e i = (i - 2 ^ e) % 2 ^ (e - 1) + 2 ^ (e - 1) := by unfold sbZ; rw [if_neg hi]
    have e3 : (i - 2 ^ e) / 2 ^ (e - 1) + 1 = (shN e i : Int) := by
      rcases he with rfl | rfl | rfl
      all_goals
        simp only [Nat.reduceSub, Int.reducePow] at *
        omega
    generalize shN e i = sh at *
    generalize sbZ e i = sb at *
    rcases he with rfl | rfl | rfl
    all_goals
      simp only [Nat.reduceSub, Int.reducePow] at *
      repeat' (first | (refine cond_by (F := ans) (fun _ => ?_) (fun _ => ?_)) | (refine wayK_by (F := ans) (fun _ hb_ => ?_) (fun _ hb_ => ?_) <;> simp only [hb_]) | (refine wayK_byN (F := ans) (fun _ hb_ => ?_) (fun _ hb_ => ?_) <;> simp only [hb_]) | (refine wayD_by (F := ans) (fun _ hb_ => ?_) (fun _ hb_ => ?_) <;> simp only [hb_]) | (refine wayD_byN (F := ans) (fun _ hb_ => ?_) (fun _ hb_ => ?_) <;> simp only [hb_]) | (refine rdK_by (F := ans) (fun _ => ?_) (fun _ => ?_)) | (refine effK_by (F := ans) (fun _ => ?_) (fun _ => ?_)) | (refine effK_by2 (F := ans) (fun _ => ?_) (fun _ => ?_)) | (refine rdD_by (F := ans) (fun _ => ?_) (fun _ => ?_)) | (refine effD_by (F := ans) (fun _ => ?_) (fun _ => ?_)) | (refine effD_by2 (F := ans) (fun _ => ?_) (fun _ => ?_)) | simp -implicitDefEqProofs (disch := first | omega | (simp only [List.length_append, List.length_cons, List.length_nil, List.length_drop, List.length_take]; omega)) only [evs, tys, lors, Nat.reduceAdd, Nat.reduceSub, Nat.reduceMul, Nat.reducePow, Nat.reduceBEq, Nat.reduceLT, Nat.reduceLeDiff, Nat.reduceEqDiff, Int.reduceLT, Int.reduceLE, Int.reduceEq, Int.reduceNe, Int.reduceToNat, Int.reduceAdd, Int.reduceSub, Int.reduceMul, Int.reducePow, Int.reduceDiv, Int.reduceMod, Int.reduceNeg, reduceCtorEq, codeKey, List.contains, List.elem, Ev.load, peek, pack, storeV, fieldAddr, field, cvB, bits1, e3, ← e2, Int.one_mul])
    all_goals (exfalso; omega)
end Go.Proofs.Ytacnpljkcpomnaa
