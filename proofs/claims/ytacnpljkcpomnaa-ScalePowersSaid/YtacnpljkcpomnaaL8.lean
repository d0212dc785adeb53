/-
ScalePowers as plain Lean.
-/
import Derived.Test.YtacnpljkcpomnaaF11
namespace Go.Proofs.Ytacnpljkcpomnaa
open Go Ev
set_option linter.all false
set_option maxHeartbeats 4000000
set_option maxRecDepth 5000
attribute [local irreducible] codeL condL loopL callL callV evOps evDraw rdK effK wayK oneK wayD oneD rdD effD chks chkB res

theorem ldlow_cv (k : Int) (k0 : -1074 ≤ k) (k1 : k ≤ -1023) (H : Heap) : callV (CL lore) 29 [.fl .f64 4607182418800017408, .int .i64 k] H = some (.fl .f64 (2 ^ (k + 1074).toNat), H) := by
  have hin : ∀ H, callV (CL lore) 45 [.fl .f64 4607182418800017408, .int .i64 k] H = some (.fl .f64 (2 ^ (k + 1074).toNat), H) := by
    intro H
    refine callV_ans (r := some _) ?_ lore_sh45 rfl H
    rw [call_start lore_ext45 Try.func45 rfl lore_okf45 (Nat.le_of_ble_eq_true rfl)]
    have f1 : binF .eql .f64 4607182418800017408 0 = some (.bool false) := by kernel_rfl
    have f2 := finite_bits (b := 4607182418800017408) (by decide)
    have f3 := inf0_cv 4607182418800017408 (by decide)
    have f4 := norm_cv 4607182418800017408 (by decide) (by decide)
    rw [(nb_norm (b := 4607182418800017408) (by decide)).1, (nb_norm (b := 4607182418800017408) (by decide)).2] at f4
    have g1 := bits_cv 4607182418800017408 (by decide)
    have e0 : ((4607182418800017408 : Nat) : Int) = 4607182418800017408 := rfl
    rw [e0] at g1
    have g2 := frombits_cv ((k + 1076).toNat * 4503599627370496) (by omega)
    have e1 : (((k + 1076).toNat * 4503599627370496 : Nat) : Int) = (k + 53 + 1023) * 4503599627370496 := by omega
    rw [e1] at g2
    have f5 : binF .mul .f64 4368491638549381120 ((k + 1076).toNat * 4503599627370496) = some (.fl .f64 (2 ^ (k + 1074).toNat)) := by
      rw [bF_mul, mul_low (by omega) (by omega), show (k + 1076).toNat - 2 = (k + 1074).toNat by omega]; rfl
    have g4 := or_exp (r := 0) (e := k + 53 + 1023) (by decide) (by decide) (by omega) (by omega)
    rw [Int.add_zero] at g4
    have g5 : k + (1023 - 1023) = k := by omega
    repeat' (first | (refine cond_by (F := ans) (fun _ => ?_) (fun _ => ?_)) | (refine wayK_by (F := ans) (fun _ hb_ => ?_) (fun _ hb_ => ?_) <;> simp only [hb_]) | (refine wayK_byN (F := ans) (fun _ hb_ => ?_) (fun _ hb_ => ?_) <;> simp only [hb_]) | (refine wayD_by (F := ans) (fun _ hb_ => ?_) (fun _ hb_ => ?_) <;> simp only [hb_]) | (refine wayD_byN (F := ans) (fun _ hb_ => ?_) (fun _ hb_ => ?_) <;> simp only [hb_]) | (refine rdK_by (F := ans) (fun _ => ?_) (fun _ => ?_)) | (refine effK_by (F := ans) (fun _ => ?_) (fun _ => ?_)) | (refine effK_by2 (F := ans) (fun _ => ?_) (fun _ => ?_)) | (refine rdD_by (F := ans) (fun _ => ?_) (fun _ => ?_)) | (refine effD_by (F := ans) (fun _ => ?_) (fun _ => ?_)) | (refine effD_by2 (F := ans) (fun _ => ?_) (fun _ => ?_)) | simp -implicitDefEqProofs (disch := first | omega | (simp only [List.length_append, List.length_cons, List.length_nil, List.length_drop, List.length_take]; omega)) only [evs, tys, lors, Nat.reduceAdd, Nat.reduceSub, Nat.reduceMul, Nat.reducePow, Nat.reduceBEq, Nat.reduceLT, Nat.reduceLeDiff, Nat.reduceEqDiff, Int.reduceLT, Int.reduceLE, Int.reduceEq, Int.reduceNe, Int.reduceToNat, Int.reduceAdd, Int.reduceSub, Int.reduceMul, Int.reducePow, Int.reduceDiv, Int.reduceMod, Int.reduceNeg, reduceCtorEq, codeKey, List.contains, List.elem, Ev.load, peek, pack, storeV, fieldAddr, field, cvB, b_fl, w64, f1, f2, f3, f4, f5, g1, g2, g4, g5, nan_cv, nand_exp, and_i64_11, bits1, Int.add_zero])
    all_goals first
      | (exfalso; omega)
      | trace_state
  refine callV_ans (r := some _) ?_ lore_sh29 rfl H
  rw [call_start lore_ext29 Try.func29 rfl lore_okf29 (Nat.le_of_ble_eq_true rfl)]
  repeat' (first | (refine cond_by (F := ans) (fun _ => ?_) (fun _ => ?_)) | (refine wayK_by (F := ans) (fun _ hb_ => ?_) (fun _ hb_ => ?_) <;> simp only [hb_]) | (refine wayK_byN (F := ans) (fun _ hb_ => ?_) (fun _ hb_ => ?_) <;> simp only [hb_]) | (refine wayD_by (F := ans) (fun _ hb_ => ?_) (fun _ hb_ => ?_) <;> simp only [hb_]) | (refine wayD_byN (F := ans) (fun _ hb_ => ?_) (fun _ hb_ => ?_) <;> simp only [hb_]) | (refine rdK_by (F := ans) (fun _ => ?_) (fun _ => ?_)) | (refine effK_by (F := ans) (fun _ => ?_) (fun _ => ?_)) | (refine effK_by2 (F := ans) (fun _ => ?_) (fun _ => ?_)) | (refine rdD_by (F := ans) (fun _ => ?_) (fun _ => ?_)) | (refine effD_by (F := ans) (fun _ => ?_) (fun _ => ?_)) | (refine effD_by2 (F := ans) (fun _ => ?_) (fun _ => ?_)) | simp -implicitDefEqProofs (disch := first | omega | (simp only [List.length_append, List.length_cons, List.length_nil, List.length_drop, List.length_take]; omega)) only [evs, tys, lors, Nat.reduceAdd, Nat.reduceSub, Nat.reduceMul, Nat.reducePow, Nat.reduceBEq, Nat.reduceLT, Nat.reduceLeDiff, Nat.reduceEqDiff, Int.reduceLT, Int.reduceLE, Int.reduceEq, Int.reduceNe, Int.reduceToNat, Int.reduceAdd, Int.reduceSub, Int.reduceMul, Int.reducePow, Int.reduceDiv, Int.reduceMod, Int.reduceNeg, reduceCtorEq, codeKey, List.contains, List.elem, Ev.load, peek, pack, storeV, fieldAddr, field, cvB, b_fl, w64, hin])
/-- The power of two as a float. -/
theorem ldone_cv (k : Int) (k0 : -1074 ≤ k) (k1 : k ≤ 1023) : ∃ X : Nat, 0 < X ∧ X < 9218868437227405312 ∧ VF X = 2 ^ (k + 1074).toNat ∧ ∀ H, callV (CL lore) 29 [.fl .f64 4607182418800017408, .int .i64 k] H = some (.fl .f64 X, H) := by
  rcases Int.lt_or_le k (-1022) with h | h
  · have hp := Nat.pow_le_pow_right (show 0 < 2 by decide) (show (k + 1074).toNat ≤ 51 by omega)
    have hq := Nat.two_pow_pos (k + 1074).toNat
    have e51 : (2 : Nat) ^ 51 = 2251799813685248 := by decide
    refine ⟨2 ^ (k + 1074).toNat, hq, by omega, ?_, ldlow_cv k k0 (by omega)⟩
    have h1 : 2 ^ (k + 1074).toNat < 4503599627370496 := by omega
    unfold VF mR sR
    rw [if_pos h1, if_pos h1, Nat.pow_zero, Nat.mul_one]
  · have hl := ldexp_cv 4607182418800017408 k (by decide) (by decide) (by omega) (by omega)
    have e1 : ((4607182418800017408 / 4503599627370496 : Nat) : Int) = 1023 := by decide
    have e2 : (4607182418800017408 : Nat) % 4503599627370496 = 0 := by decide
    rw [e1, e2, Nat.add_zero] at hl
    refine ⟨(k + 1023).toNat * 4503599627370496, by omega, by omega, ?_, hl⟩
    have h1 : ¬ (k + 1023).toNat * 4503599627370496 < 4503599627370496 := by omega
    have e3 : mR ((k + 1023).toNat * 4503599627370496) = 2 ^ 52 := by unfold mR; rw [if_neg h1]; omega
    have e4 : sR ((k + 1023).toNat * 4503599627370496) = (k + 1022).toNat := by unfold sR; rw [if_neg h1]; omega
    unfold VF
    rw [e3, e4, ← Nat.pow_add]
    congr 1
    omega
theorem scalePowers_ev (s k : Int) : ans (callL lore 8 [.int .i64 s, .int .i64 k] []) = some (.bool true) := by
  rw [call_start lore_ext8 Try.func8 rfl lore_okf8 (Nat.le_of_ble_eq_true rfl)]
  by_cases hg : (0 ≤ s ∧ s ≤ 8) ∧ -1074 ≤ k ∧ k ≤ 1023
  · obtain ⟨hs, k0, k1⟩ := hg
    obtain ⟨X, x0, x1, hv, hl⟩ := ldone_cv k k0 k1
    obtain ⟨n, rfl⟩ : ∃ n : Nat, s = (n : Int) := ⟨s.toNat, by omega⟩
    have hp : placeF (n : Int) X = k * 2 ^ n := by
      rw [placeF_eq _ x0 x1, hv, Int.natCast_pow]
      have := placeV_pow (n : Int) (by omega) (k + 1074).toNat
      rw [Int.toNat_natCast] at this
      rw [show (((k + 1074).toNat : Nat) : Int) - 1074 = k by omega] at this
      exact this
    have hW : UpW (n : Int) (k * 2 ^ n) X := by
      refine ⟨by omega, fun b h0 h1 => ?_, fun b h0 h1 => ?_⟩
      · rw [← hp]
        exact placeF_mono _ h0 h1 x1
      · rw [placeF_eq _ (by omega) (by omega)]
        have hlt := VF_lt h0
        have := placeV_above (n : Int) (by omega) (k + 1074).toNat (x := (VF b : Int)) (by
          rw [hv] at hlt
          have := Int.ofNat_lt.2 hlt
          rw [Int.natCast_pow] at this
          exact this)
        rw [Int.toNat_natCast] at this
        rw [show (((k + 1074).toNat : Nat) : Int) - 1074 = k by omega] at this
        exact this
    have hs' : -4 ≤ (n : Int) ∧ (n : Int) ≤ 8 := by omega
    have c1 := fun H => exp_cv (n : Int) X (by omega) H
    unfold expV expE expS expI at c1
    have hm : X % 9223372036854775808 = X := Nat.mod_eq_of_lt (by omega)
    simp only [hm, if_pos hs', if_pos x1, if_true, if_neg (show ¬ X = 0 by omega), if_pos (show X < 9223372036854775808 by omega), hp] at c1
    have c2 := fun H => upper_cv (n : Int) (k * 2 ^ n) X hW H
    obtain ⟨p1, p2, p3, p4⟩ := place_b hs' x0 x1
    rw [hp] at p2 p3
    unfold upperV at c2
    simp only [if_pos (show (-4 ≤ (n : Int) ∧ (n : Int) ≤ 8) ∧ placeF (n : Int) 1 - 1 ≤ k * 2 ^ n ∧ k * 2 ^ n ≤ placeF (n : Int) 9218868437227405311 by omega)] at c2
    have c3 := bits_cv X (by omega)
    have hP : 0 ≤ (2 : Int) ^ n ∧ (2 : Int) ^ n ≤ 256 := by
      have a1 := powz_le (show n ≤ 8 by omega)
      have a2 := powz_pos n
      have e8 : (2 : Int) ^ 8 = 256 := by decide
      omega
    have hkb : -300000 ≤ k * 2 ^ n ∧ k * 2 ^ n ≤ 300000 := by omega
    generalize hke : k * 2 ^ n = P at *
    repeat' (first | (refine cond_by (F := ans) (fun _ => ?_) (fun _ => ?_)) | (refine wayK_by (F := ans) (fun _ hb_ => ?_) (fun _ hb_ => ?_) <;> simp only [hb_]) | (refine wayK_byN (F := ans) (fun _ hb_ => ?_) (fun _ hb_ => ?_) <;> simp only [hb_]) | (refine wayD_by (F := ans) (fun _ hb_ => ?_) (fun _ hb_ => ?_) <;> simp only [hb_]) | (refine wayD_byN (F := ans) (fun _ hb_ => ?_) (fun _ hb_ => ?_) <;> simp only [hb_]) | (refine rdK_by (F := ans) (fun _ => ?_) (fun _ => ?_)) | (refine effK_by (F := ans) (fun _ => ?_) (fun _ => ?_)) | (refine effK_by2 (F := ans) (fun _ => ?_) (fun _ => ?_)) | (refine rdD_by (F := ans) (fun _ => ?_) (fun _ => ?_)) | (refine effD_by (F := ans) (fun _ => ?_) (fun _ => ?_)) | (refine effD_by2 (F := ans) (fun _ => ?_) (fun _ => ?_)) | simp -implicitDefEqProofs (disch := first | omega | (simp only [List.length_append, List.length_cons, List.length_nil, List.length_drop, List.length_take]; omega)) only [evs, tys, lors, Nat.reduceAdd, Nat.reduceSub, Nat.reduceMul, Nat.reducePow, Nat.reduceBEq, Nat.reduceLT, Nat.reduceLeDiff, Nat.reduceEqDiff, Int.reduceLT, Int.reduceLE, Int.reduceEq, Int.reduceNe, Int.reduceToNat, Int.reduceAdd, Int.reduceSub, Int.reduceMul, Int.reducePow, Int.reduceDiv, Int.reduceMod, Int.reduceNeg, reduceCtorEq, codeKey, List.contains, List.elem, Ev.load, peek, pack, storeV, fieldAddr, field, cvB, w64, hl, c1, c2, c3, hke, begins_cv, eqX_eql, shl_i64, Int.one_mul, and_self, decide_true, decide_false])
    all_goals first
      | rfl
      | (exfalso; omega)
      | trace_state
  · repeat' (first | (refine cond_by (F := ans) (fun _ => ?_) (fun _ => ?_)) | (refine wayK_by (F := ans) (fun _ hb_ => ?_) (fun _ hb_ => ?_) <;> simp only [hb_]) | (refine wayK_byN (F := ans) (fun _ hb_ => ?_) (fun _ hb_ => ?_) <;> simp only [hb_]) | (refine wayD_by (F := ans) (fun _ hb_ => ?_) (fun _ hb_ => ?_) <;> simp only [hb_]) | (refine wayD_byN (F := ans) (fun _ hb_ => ?_) (fun _ hb_ => ?_) <;> simp only [hb_]) | (refine rdK_by (F := ans) (fun _ => ?_) (fun _ => ?_)) | (refine effK_by (F := ans) (fun _ => ?_) (fun _ => ?_)) | (refine effK_by2 (F := ans) (fun _ => ?_) (fun _ => ?_)) | (refine rdD_by (F := ans) (fun _ => ?_) (fun _ => ?_)) | (refine effD_by (F := ans) (fun _ => ?_) (fun _ => ?_)) | (refine effD_by2 (F := ans) (fun _ => ?_) (fun _ => ?_)) | simp -implicitDefEqProofs (disch := first | omega | (simp only [List.length_append, List.length_cons, List.length_nil, List.length_drop, List.length_take]; omega)) only [evs, tys, lors, Nat.reduceAdd, Nat.reduceSub, Nat.reduceMul, Nat.reducePow, Nat.reduceBEq, Nat.reduceLT, Nat.reduceLeDiff, Nat.reduceEqDiff, Int.reduceLT, Int.reduceLE, Int.reduceEq, Int.reduceNe, Int.reduceToNat, Int.reduceAdd, Int.reduceSub, Int.reduceMul, Int.reducePow, Int.reduceDiv, Int.reduceMod, Int.reduceNeg, reduceCtorEq, codeKey, List.contains, List.elem, Ev.load, peek, pack, storeV, fieldAddr, field, cvB, w64, begins_cv])
    all_goals first
      | rfl
      | (exfalso; omega)
      | trace_state
end Go.Proofs.Ytacnpljkcpomnaa
