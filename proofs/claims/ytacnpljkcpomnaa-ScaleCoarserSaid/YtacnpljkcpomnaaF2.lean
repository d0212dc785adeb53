/-
Floats: the library's Abs, IsInf, IsNaN, Frexp, Ldexp.
-/
import Derived.Test.YtacnpljkcpomnaaS8
import Derived.Test.YtacnpljkcpomnaaF1
namespace Go.Proofs.Ytacnpljkcpomnaa
open Go Ev
set_option linter.all false
set_option maxHeartbeats 4000000
set_option maxRecDepth 5000
attribute [local irreducible] codeL condL loopL callL callV evOps evDraw rdK effK wayK oneK wayD oneD rdD effD chks chkB res

theorem nandI_natU {x m : Nat} (hx : x < 2 ^ 64) (hm : m < 2 ^ 64) : nandI .u64 x m = ((x &&& (2 ^ 64 - 1 - m) : Nat) : Int) := by
  show IntKind.u64.wrap ((BitVec.ofInt 64 (x : Int) &&& ~~~BitVec.ofInt 64 (m : Int)).toNat : Int) = _
  rw [BitVec.toNat_and, BitVec.toNat_not, ofNat_toNat hx, ofNat_toNat hm]
  have := Nat.and_le_left (n := x) (m := 2 ^ 64 - 1 - m)
  rw [w_u64 (by omega) (by omega)]
theorem nand_sign {x : Int} (h0 : 0 ≤ x) (h1 : x < 18446744073709551616) : nandI .u64 x 9223372036854775808 = x % 9223372036854775808 := by
  obtain ⟨n, rfl⟩ := Int.eq_ofNat_of_zero_le h0
  have := nandI_natU (x := n) (m := 9223372036854775808) (by omega) (by decide)
  rw [show ((9223372036854775808 : Nat) : Int) = 9223372036854775808 by rfl] at this
  rw [this, show 2 ^ 64 - 1 - 9223372036854775808 = 2 ^ 63 - 1 by decide, mask_mod]
  rfl
theorem nand_exp {x : Int} (h0 : 0 ≤ x) (h1 : x < 9223372036854775808) : nandI .u64 x 9218868437227405312 = x % 4503599627370496 := by
  obtain ⟨n, rfl⟩ := Int.eq_ofNat_of_zero_le h0
  have := nandI_natU (x := n) (m := 9218868437227405312) (by omega) (by decide)
  rw [show ((9218868437227405312 : Nat) : Int) = 9218868437227405312 by rfl] at this
  rw [this]
  have e1 : n &&& (2 ^ 64 - 1 - 9218868437227405312) = n % 2 ^ 52 := by
    have hle := Nat.and_le_left (n := n) (m := 2 ^ 64 - 1 - 9218868437227405312)
    have e2 := Nat.and_mod_two_pow (a := n) (b := 2 ^ 64 - 1 - 9218868437227405312) (n := 63)
    rw [Nat.mod_eq_of_lt (show n &&& (2 ^ 64 - 1 - 9218868437227405312) < 2 ^ 63 by omega), Nat.mod_eq_of_lt (show n < 2 ^ 63 by omega)] at e2
    have e3 : (2 ^ 64 - 1 - 9218868437227405312) % 2 ^ 63 = 2 ^ 52 - 1 := by decide
    rw [e2, e3, mask_mod]
  rw [e1]
  rfl
theorem or_exp {r e : Int} (h0 : 0 ≤ r) (h1 : r < 4503599627370496) (e0 : 0 ≤ e) (e1 : e < 4096) : orI .u64 r (e * 4503599627370496) = e * 4503599627370496 + r := by
  obtain ⟨n, rfl⟩ := Int.eq_ofNat_of_zero_le h0
  obtain ⟨k, rfl⟩ := Int.eq_ofNat_of_zero_le e0
  have := orI_natU (x := n) (y := k * 4503599627370496) (by omega) (by omega)
  rw [Nat.or_comm, show (4503599627370496 : Nat) = 2 ^ 52 by decide, or_apart (show n < 2 ^ 52 by omega)] at this
  have e3 : ((k * 2 ^ 52 : Nat) : Int) = (k : Int) * 4503599627370496 := by rw [Int.natCast_mul]; rfl
  have e4 : ((k * 4503599627370496 : Nat) : Int) = (k : Int) * 4503599627370496 := by rw [Int.natCast_mul]; rfl
  rw [show (2 : Nat) ^ 52 = 4503599627370496 by decide, e4, Int.natCast_add, e4] at this
  exact this
theorem and_i64_11 {x : Int} (h0 : 0 ≤ x) (h1 : x < 9223372036854775808) : andI .i64 x 2047 = x % 2048 := and_i64_m 11 h0 h1 rfl (by decide)

theorem abs_cv (b : Nat) (hb : b < 18446744073709551616) (H : Heap) : callV (CL lore) 28 [.fl .f64 b] H = some (.fl .f64 (b % 9223372036854775808), H) := by
  refine callV_ans (r := some _) ?_ lore_sh28 rfl H
  rw [call_start lore_ext28 Try.func28 rfl lore_okf28 (Nat.le_of_ble_eq_true rfl)]
  have h1 := bits_cv b (by omega)
  have h2 := frombits_cv (b % 9223372036854775808) (by omega)
  have h3 : ((b % 9223372036854775808 : Nat) : Int) = (b : Int) % 9223372036854775808 := by omega
  rw [h3] at h2
  repeat' (first | (refine cond_by (F := ans) (fun _ => ?_) (fun _ => ?_)) | (refine wayK_by (F := ans) (fun _ hb_ => ?_) (fun _ hb_ => ?_) <;> simp only [hb_]) | (refine wayK_byN (F := ans) (fun _ hb_ => ?_) (fun _ hb_ => ?_) <;> simp only [hb_]) | (refine wayD_by (F := ans) (fun _ hb_ => ?_) (fun _ hb_ => ?_) <;> simp only [hb_]) | (refine wayD_byN (F := ans) (fun _ hb_ => ?_) (fun _ hb_ => ?_) <;> simp only [hb_]) | (refine rdK_by (F := ans) (fun _ => ?_) (fun _ => ?_)) | (refine effK_by (F := ans) (fun _ => ?_) (fun _ => ?_)) | (refine effK_by2 (F := ans) (fun _ => ?_) (fun _ => ?_)) | (refine rdD_by (F := ans) (fun _ => ?_) (fun _ => ?_)) | (refine effD_by (F := ans) (fun _ => ?_) (fun _ => ?_)) | (refine effD_by2 (F := ans) (fun _ => ?_) (fun _ => ?_)) | simp -implicitDefEqProofs (disch := first | omega | (simp only [List.length_append, List.length_cons, List.length_nil, List.length_drop, List.length_take]; omega)) only [evs, tys, lors, Nat.reduceAdd, Nat.reduceSub, Nat.reduceMul, Nat.reducePow, Nat.reduceBEq, Nat.reduceLT, Nat.reduceLeDiff, Nat.reduceEqDiff, Int.reduceLT, Int.reduceLE, Int.reduceEq, Int.reduceNe, Int.reduceToNat, Int.reduceAdd, Int.reduceSub, Int.reduceMul, Int.reducePow, Int.reduceDiv, Int.reduceMod, Int.reduceNeg, reduceCtorEq, codeKey, List.contains, List.elem, Ev.load, peek, pack, storeV, fieldAddr, field, cvB, h1, h2, nand_sign])
theorem bF_lss {a b : Nat} : binF .lss .f64 a b = some (.bool (FD.order a b == some .lt)) := rfl
theorem bF_gtr {a b : Nat} : binF .gtr .f64 a b = some (.bool (FD.order a b == some .gt)) := rfl
theorem bF_leq {a b : Nat} : binF .leq .f64 a b = some (.bool (FD.order a b == some .lt || FD.order a b == some .eq)) := rfl
theorem bF_geq {a b : Nat} : binF .geq .f64 a b = some (.bool (FD.order a b == some .gt || FD.order a b == some .eq)) := rfl
theorem bF_eql {a b : Nat} : binF .eql .f64 a b = some (.bool (FD.order a b == some .eq)) := rfl
theorem bF_neq {a b : Nat} : binF .neq .f64 a b = some (.bool (FD.order a b != some .eq)) := rfl
theorem bF_mul {a b : Nat} : binF .mul .f64 a b = some (.fl .f64 ((FD.mul a b).getD (nanMark .f64))) := rfl
theorem bF_sub {a b : Nat} : binF .sub .f64 a b = some (.fl .f64 ((FD.sub a b).getD (nanMark .f64))) := rfl
theorem beqs : ((some Ordering.lt == some Ordering.lt) = true ∧ (some Ordering.lt == some Ordering.eq) = false ∧ (some Ordering.lt == some Ordering.gt) = false) ∧ ((some Ordering.eq == some Ordering.lt) = false ∧ (some Ordering.eq == some Ordering.eq) = true ∧ (some Ordering.eq == some Ordering.gt) = false) ∧ ((some Ordering.gt == some Ordering.lt) = false ∧ (some Ordering.gt == some Ordering.eq) = false ∧ (some Ordering.gt == some Ordering.gt) = true) ∧ (some Ordering.lt != some Ordering.eq) = true ∧ (some Ordering.eq != some Ordering.eq) = false ∧ (some Ordering.gt != some Ordering.eq) = true := by decide
theorem fin_cmp {b : Nat} (h : b < 9218868437227405312) : binF .gtr .f64 b 9218868437227405311 = some (.bool false) := by
  rw [bF_gtr, ordN h (by decide)]
  rcases Nat.lt_or_ge b 9218868437227405311 with hh | hh
  · rw [Nat.compare_eq_lt.2 hh]; rfl
  · obtain rfl : b = 9218868437227405311 := by omega
    rw [Nat.compare_eq_eq.2 rfl]; rfl
theorem inf0_cv (b : Nat) (hb : b < 9218868437227405312) (H : Heap) : callV (CL lore) 56 [.fl .f64 b, .int .i64 0] H = some (.bool false, H) := by
  refine callV_ans (r := some _) ?_ lore_sh56 rfl H
  rw [call_start lore_ext56 Try.func56 rfl lore_okf56 (Nat.le_of_ble_eq_true rfl)]
  have h1 := abs_cv b (by omega)
  rw [Nat.mod_eq_of_lt (by omega)] at h1
  have f1 := fin_cmp hb
  repeat' (first | (refine cond_by (F := ans) (fun _ => ?_) (fun _ => ?_)) | (refine wayK_by (F := ans) (fun _ hb_ => ?_) (fun _ hb_ => ?_) <;> simp only [hb_]) | (refine wayK_byN (F := ans) (fun _ hb_ => ?_) (fun _ hb_ => ?_) <;> simp only [hb_]) | (refine wayD_by (F := ans) (fun _ hb_ => ?_) (fun _ hb_ => ?_) <;> simp only [hb_]) | (refine wayD_byN (F := ans) (fun _ hb_ => ?_) (fun _ hb_ => ?_) <;> simp only [hb_]) | (refine rdK_by (F := ans) (fun _ => ?_) (fun _ => ?_)) | (refine effK_by (F := ans) (fun _ => ?_) (fun _ => ?_)) | (refine effK_by2 (F := ans) (fun _ => ?_) (fun _ => ?_)) | (refine rdD_by (F := ans) (fun _ => ?_) (fun _ => ?_)) | (refine effD_by (F := ans) (fun _ => ?_) (fun _ => ?_)) | (refine effD_by2 (F := ans) (fun _ => ?_) (fun _ => ?_)) | simp -implicitDefEqProofs (disch := first | omega | (simp only [List.length_append, List.length_cons, List.length_nil, List.length_drop, List.length_take]; omega)) only [evs, tys, lors, Nat.reduceAdd, Nat.reduceSub, Nat.reduceMul, Nat.reducePow, Nat.reduceBEq, Nat.reduceLT, Nat.reduceLeDiff, Nat.reduceEqDiff, Int.reduceLT, Int.reduceLE, Int.reduceEq, Int.reduceNe, Int.reduceToNat, Int.reduceAdd, Int.reduceSub, Int.reduceMul, Int.reducePow, Int.reduceDiv, Int.reduceMod, Int.reduceNeg, reduceCtorEq, codeKey, List.contains, List.elem, Ev.load, peek, pack, storeV, fieldAddr, field, cvB, b_fl, w64, h1, f1])
/-- As a normal one, and the exponent that was taken off. -/
def nb (b : Nat) : Nat := if b < 4503599627370496 then b.log2 * 4503599627370496 + b * 2 ^ (52 - b.log2) else b
def neZ (b : Nat) : Int := if b < 4503599627370496 then -52 else 0
theorem nb_sub {b : Nat} (h0 : 0 < b) (h1 : b < 4503599627370496) : b.log2 ≤ 51 ∧ 4503599627370496 ≤ b * 2 ^ (52 - b.log2) ∧ b * 2 ^ (52 - b.log2) < 9007199254740992 := by
  have hb : b ≠ 0 := by omega
  obtain ⟨a, c⟩ := (Nat.log2_eq_iff hb).1 rfl
  have hl : b.log2 ≤ 51 := by
    have : 2 ^ b.log2 < 2 ^ 52 := by omega
    have := (Nat.pow_lt_pow_iff_right (show 1 < 2 by decide)).1 this
    omega
  have h2 : b * 2 ^ (52 - b.log2) < 2 ^ (b.log2 + 1) * 2 ^ (52 - b.log2) := Nat.mul_lt_mul_of_pos_right c (Nat.two_pow_pos _)
  have h3 : 2 ^ b.log2 * 2 ^ (52 - b.log2) ≤ b * 2 ^ (52 - b.log2) := Nat.mul_le_mul_right _ a
  rw [← Nat.pow_add, show b.log2 + 1 + (52 - b.log2) = 53 by omega] at h2
  rw [← Nat.pow_add, show b.log2 + (52 - b.log2) = 52 by omega] at h3
  exact ⟨hl, by omega, by omega⟩
theorem nb_facts {b : Nat} (h0 : 0 < b) (h1 : b < 9218868437227405312) : 4503599627370496 ≤ nb b ∧ nb b < 9218868437227405312 := by
  unfold nb
  split
  · obtain ⟨a1, a2, a3⟩ := nb_sub h0 (by assumption)
    omega
  · omega
theorem norm_cv (b : Nat) (h0 : 0 < b) (h1 : b < 9218868437227405312) (H : Heap) : callV (CL lore) 58 [.fl .f64 b] H = some (.tup [.fl .f64 (nb b), .int .i64 (neZ b)], H) := by
  refine callV_ans (r := some _) ?_ lore_sh58 rfl H
  rw [call_start lore_ext58 Try.func58 rfl lore_okf58 (Nat.le_of_ble_eq_true rfl)]
  have h2 := abs_cv b (by omega)
  rw [Nat.mod_eq_of_lt (by omega)] at h2
  unfold nb neZ
  by_cases hs : b < 4503599627370496
  · rw [if_pos hs, if_pos hs]
    have f1 : binF .lss .f64 b 4503599627370496 = some (.bool true) := by rw [bF_lss, ord_lt (by decide) hs]; rfl
    have f2 : binF .mul .f64 b 4841369599423283200 = some (.fl .f64 (b.log2 * 4503599627370496 + b * 2 ^ (52 - b.log2))) := by rw [bF_mul, mul_sub h0 hs]; rfl
    repeat' (first | (refine cond_by (F := ans) (fun _ => ?_) (fun _ => ?_)) | (refine wayK_by (F := ans) (fun _ hb_ => ?_) (fun _ hb_ => ?_) <;> simp only [hb_]) | (refine wayK_byN (F := ans) (fun _ hb_ => ?_) (fun _ hb_ => ?_) <;> simp only [hb_]) | (refine wayD_by (F := ans) (fun _ hb_ => ?_) (fun _ hb_ => ?_) <;> simp only [hb_]) | (refine wayD_byN (F := ans) (fun _ hb_ => ?_) (fun _ hb_ => ?_) <;> simp only [hb_]) | (refine rdK_by (F := ans) (fun _ => ?_) (fun _ => ?_)) | (refine effK_by (F := ans) (fun _ => ?_) (fun _ => ?_)) | (refine effK_by2 (F := ans) (fun _ => ?_) (fun _ => ?_)) | (refine rdD_by (F := ans) (fun _ => ?_) (fun _ => ?_)) | (refine effD_by (F := ans) (fun _ => ?_) (fun _ => ?_)) | (refine effD_by2 (F := ans) (fun _ => ?_) (fun _ => ?_)) | simp -implicitDefEqProofs (disch := first | omega | (simp only [List.length_append, List.length_cons, List.length_nil, List.length_drop, List.length_take]; omega)) only [evs, tys, lors, Nat.reduceAdd, Nat.reduceSub, Nat.reduceMul, Nat.reducePow, Nat.reduceBEq, Nat.reduceLT, Nat.reduceLeDiff, Nat.reduceEqDiff, Int.reduceLT, Int.reduceLE, Int.reduceEq, Int.reduceNe, Int.reduceToNat, Int.reduceAdd, Int.reduceSub, Int.reduceMul, Int.reducePow, Int.reduceDiv, Int.reduceMod, Int.reduceNeg, reduceCtorEq, codeKey, List.contains, List.elem, Ev.load, peek, pack, storeV, fieldAddr, field, cvB, b_fl, w64, h2, f1, f2])
  · rw [if_neg hs, if_neg hs]
    have f1 : binF .lss .f64 b 4503599627370496 = some (.bool false) := by
      rw [bF_lss, ordN h1 (by decide)]
      rcases Nat.lt_or_ge 4503599627370496 b with hh | hh
      · rw [Nat.compare_eq_gt.2 hh]; rfl
      · obtain rfl : b = 4503599627370496 := by omega
        rw [Nat.compare_eq_eq.2 rfl]; rfl
    repeat' (first | (refine cond_by (F := ans) (fun _ => ?_) (fun _ => ?_)) | (refine wayK_by (F := ans) (fun _ hb_ => ?_) (fun _ hb_ => ?_) <;> simp only [hb_]) | (refine wayK_byN (F := ans) (fun _ hb_ => ?_) (fun _ hb_ => ?_) <;> simp only [hb_]) | (refine wayD_by (F := ans) (fun _ hb_ => ?_) (fun _ hb_ => ?_) <;> simp only [hb_]) | (refine wayD_byN (F := ans) (fun _ hb_ => ?_) (fun _ hb_ => ?_) <;> simp only [hb_]) | (refine rdK_by (F := ans) (fun _ => ?_) (fun _ => ?_)) | (refine effK_by (F := ans) (fun _ => ?_) (fun _ => ?_)) | (refine effK_by2 (F := ans) (fun _ => ?_) (fun _ => ?_)) | (refine rdD_by (F := ans) (fun _ => ?_) (fun _ => ?_)) | (refine effD_by (F := ans) (fun _ => ?_) (fun _ => ?_)) | (refine effD_by2 (F := ans) (fun _ => ?_) (fun _ => ?_)) | simp -implicitDefEqProofs (disch := first | omega | (simp only [List.length_append, List.length_cons, List.length_nil, List.length_drop, List.length_take]; omega)) only [evs, tys, lors, Nat.reduceAdd, Nat.reduceSub, Nat.reduceMul, Nat.reducePow, Nat.reduceBEq, Nat.reduceLT, Nat.reduceLeDiff, Nat.reduceEqDiff, Int.reduceLT, Int.reduceLE, Int.reduceEq, Int.reduceNe, Int.reduceToNat, Int.reduceAdd, Int.reduceSub, Int.reduceMul, Int.reducePow, Int.reduceDiv, Int.reduceMod, Int.reduceNeg, reduceCtorEq, codeKey, List.contains, List.elem, Ev.load, peek, pack, storeV, fieldAddr, field, cvB, b_fl, w64, h2, f1])
theorem finite_bits {b : Nat} (h1 : b < 9218868437227405312) : (FloatKind.f64.format.order b b != some .eq) = false := by
  have := ord_eq h1
  rw [this]
  rfl
theorem frexp_cv (b : Nat) (h0 : 0 < b) (h1 : b < 9218868437227405312) (H : Heap) : callV (CL lore) 47 [.fl .f64 b] H = some (.tup [.fl .f64 (4602678819172646912 + nb b % 4503599627370496), .int .i64 ((nb b / 4503599627370496 : Nat) - 1022 + neZ b)], H) := by
  have hin : ∀ H, callV (CL lore) 61 [.fl .f64 b] H = some (.tup [.fl .f64 (4602678819172646912 + nb b % 4503599627370496), .int .i64 ((nb b / 4503599627370496 : Nat) - 1022 + neZ b)], H) := by
    intro H
    refine callV_ans (r := some _) ?_ lore_sh61 rfl H
    rw [call_start lore_ext61 Try.func61 rfl lore_okf61 (Nat.le_of_ble_eq_true rfl)]
    have f1 : binF .eql .f64 b 0 = some (.bool false) := by rw [bF_eql, ord_gt h1 h0]; rfl
    have f2 := finite_bits h1
    have f3 := inf0_cv b h1
    have f4 := norm_cv b h0 h1
    obtain ⟨n0, n1⟩ := nb_facts h0 h1
    have hz : neZ b = -52 ∨ neZ b = 0 := by unfold neZ; split <;> simp
    generalize nb b = n at *
    generalize neZ b = z at *
    have g1 := bits_cv n (by omega)
    have g2 := frombits_cv (4602678819172646912 + n % 4503599627370496) (by omega)
    have g3 : (((4602678819172646912 + n % 4503599627370496 : Nat)) : Int) = 1022 * 4503599627370496 + (n : Int) % 4503599627370496 := by omega
    rw [g3] at g2
    have g4 := or_exp (r := (n : Int) % 4503599627370496) (e := 1022) (by omega) (by omega) (by decide) (by decide)
    simp only [Int.reduceMul] at g2 g4
    have g5 : ((n / 4503599627370496 : Nat) : Int) = (n : Int) / 4503599627370496 := by omega
    rw [g5]
    have g9 : z + ((n : Int) / 4503599627370496 % 2048 - 1023 + 1) = (n : Int) / 4503599627370496 - 1022 + z := by omega
    repeat' (first | (refine cond_by (F := ans) (fun _ => ?_) (fun _ => ?_)) | (refine wayK_by (F := ans) (fun _ hb_ => ?_) (fun _ hb_ => ?_) <;> simp only [hb_]) | (refine wayK_byN (F := ans) (fun _ hb_ => ?_) (fun _ hb_ => ?_) <;> simp only [hb_]) | (refine wayD_by (F := ans) (fun _ hb_ => ?_) (fun _ hb_ => ?_) <;> simp only [hb_]) | (refine wayD_byN (F := ans) (fun _ hb_ => ?_) (fun _ hb_ => ?_) <;> simp only [hb_]) | (refine rdK_by (F := ans) (fun _ => ?_) (fun _ => ?_)) | (refine effK_by (F := ans) (fun _ => ?_) (fun _ => ?_)) | (refine effK_by2 (F := ans) (fun _ => ?_) (fun _ => ?_)) | (refine rdD_by (F := ans) (fun _ => ?_) (fun _ => ?_)) | (refine effD_by (F := ans) (fun _ => ?_) (fun _ => ?_)) | (refine effD_by2 (F := ans) (fun _ => ?_) (fun _ => ?_)) | simp -implicitDefEqProofs (disch := first | omega | (simp only [List.length_append, List.length_cons, List.length_nil, List.length_drop, List.length_take]; omega)) only [evs, tys, lors, Nat.reduceAdd, Nat.reduceSub, Nat.reduceMul, Nat.reducePow, Nat.reduceBEq, Nat.reduceLT, Nat.reduceLeDiff, Nat.reduceEqDiff, Int.reduceLT, Int.reduceLE, Int.reduceEq, Int.reduceNe, Int.reduceToNat, Int.reduceAdd, Int.reduceSub, Int.reduceMul, Int.reducePow, Int.reduceDiv, Int.reduceMod, Int.reduceNeg, reduceCtorEq, codeKey, List.contains, List.elem, Ev.load, peek, pack, storeV, fieldAddr, field, cvB, b_fl, w64, f1, f2, f3, f4, g1, g2, g4, g9, nan_cv, nand_exp, bits1])
  refine callV_ans (r := some _) ?_ lore_sh47 rfl H
  rw [call_start lore_ext47 Try.func47 rfl lore_okf47 (Nat.le_of_ble_eq_true rfl)]
  repeat' (first | (refine cond_by (F := ans) (fun _ => ?_) (fun _ => ?_)) | (refine wayK_by (F := ans) (fun _ hb_ => ?_) (fun _ hb_ => ?_) <;> simp only [hb_]) | (refine wayK_byN (F := ans) (fun _ hb_ => ?_) (fun _ hb_ => ?_) <;> simp only [hb_]) | (refine wayD_by (F := ans) (fun _ hb_ => ?_) (fun _ hb_ => ?_) <;> simp only [hb_]) | (refine wayD_byN (F := ans) (fun _ hb_ => ?_) (fun _ hb_ => ?_) <;> simp only [hb_]) | (refine rdK_by (F := ans) (fun _ => ?_) (fun _ => ?_)) | (refine effK_by (F := ans) (fun _ => ?_) (fun _ => ?_)) | (refine effK_by2 (F := ans) (fun _ => ?_) (fun _ => ?_)) | (refine rdD_by (F := ans) (fun _ => ?_) (fun _ => ?_)) | (refine effD_by (F := ans) (fun _ => ?_) (fun _ => ?_)) | (refine effD_by2 (F := ans) (fun _ => ?_) (fun _ => ?_)) | simp -implicitDefEqProofs (disch := first | omega | (simp only [List.length_append, List.length_cons, List.length_nil, List.length_drop, List.length_take]; omega)) only [evs, tys, lors, Nat.reduceAdd, Nat.reduceSub, Nat.reduceMul, Nat.reducePow, Nat.reduceBEq, Nat.reduceLT, Nat.reduceLeDiff, Nat.reduceEqDiff, Int.reduceLT, Int.reduceLE, Int.reduceEq, Int.reduceNe, Int.reduceToNat, Int.reduceAdd, Int.reduceSub, Int.reduceMul, Int.reducePow, Int.reduceDiv, Int.reduceMod, Int.reduceNeg, reduceCtorEq, codeKey, List.contains, List.elem, Ev.load, peek, pack, storeV, fieldAddr, field, cvB, b_fl, w64, hin])
theorem nb_norm {b : Nat} (h : 4503599627370496 ≤ b) : nb b = b ∧ neZ b = 0 := by
  unfold nb neZ
  rw [if_neg (by omega), if_neg (by omega)]
  exact ⟨rfl, rfl⟩
theorem ldexp_cv (b : Nat) (k : Int) (h0 : 4503599627370496 ≤ b) (h1 : b < 9218868437227405312) (k0 : -1022 ≤ k + (b / 4503599627370496 : Nat) - 1023) (k1 : k + (b / 4503599627370496 : Nat) - 1023 ≤ 1023) (H : Heap) : callV (CL lore) 29 [.fl .f64 b, .int .i64 k] H = some (.fl .f64 ((k + (b / 4503599627370496 : Nat)).toNat * 4503599627370496 + b % 4503599627370496), H) := by
  have hin : ∀ H, callV (CL lore) 45 [.fl .f64 b, .int .i64 k] H = some (.fl .f64 ((k + (b / 4503599627370496 : Nat)).toNat * 4503599627370496 + b % 4503599627370496), H) := by
    intro H
    refine callV_ans (r := some _) ?_ lore_sh45 rfl H
    rw [call_start lore_ext45 Try.func45 rfl lore_okf45 (Nat.le_of_ble_eq_true rfl)]
    have f1 : binF .eql .f64 b 0 = some (.bool false) := by rw [bF_eql, ord_gt h1 (by omega)]; rfl
    have f2 := finite_bits h1
    have f3 := inf0_cv b h1
    have f4 := norm_cv b (by omega) h1
    rw [(nb_norm h0).1, (nb_norm h0).2] at f4
    have g1 := bits_cv b (by omega)
    have g6 : (k + ((b / 4503599627370496 : Nat) : Int)).toNat * 4503599627370496 + b % 4503599627370496 < 9218868437227405312 ∧ 4503599627370496 ≤ (k + ((b / 4503599627370496 : Nat) : Int)).toNat * 4503599627370496 + b % 4503599627370496 := by omega
    have f5 : binF .mul .f64 4607182418800017408 ((k + ((b / 4503599627370496 : Nat) : Int)).toNat * 4503599627370496 + b % 4503599627370496) = some (.fl .f64 ((k + ((b / 4503599627370496 : Nat) : Int)).toNat * 4503599627370496 + b % 4503599627370496)) := by
      rw [bF_mul, mul_one_f g6.2 g6.1]; rfl
    have g2 := frombits_cv ((k + ((b / 4503599627370496 : Nat) : Int)).toNat * 4503599627370496 + b % 4503599627370496) (by omega)
    have g5 : ((b / 4503599627370496 : Nat) : Int) = (b : Int) / 4503599627370496 := by omega
    have g3 : (((k + ((b / 4503599627370496 : Nat) : Int)).toNat * 4503599627370496 + b % 4503599627370496 : Nat) : Int) = (k + (b : Int) / 4503599627370496) * 4503599627370496 + (b : Int) % 4503599627370496 := by omega
    rw [g3] at g2
    rw [g5] at f5 g2 k0 k1 ⊢
    have g4 := or_exp (r := (b : Int) % 4503599627370496) (e := k + (b : Int) / 4503599627370496) (by omega) (by omega) (by omega) (by omega)
    have g7 : (b : Int) / 4503599627370496 % 2048 = (b : Int) / 4503599627370496 := by omega
    have g8 : k + ((b : Int) / 4503599627370496 - 1023) + 1023 = k + (b : Int) / 4503599627370496 := by omega
    repeat' (first | (refine cond_by (F := ans) (fun _ => ?_) (fun _ => ?_)) | (refine wayK_by (F := ans) (fun _ hb_ => ?_) (fun _ hb_ => ?_) <;> simp only [hb_]) | (refine wayK_byN (F := ans) (fun _ hb_ => ?_) (fun _ hb_ => ?_) <;> simp only [hb_]) | (refine wayD_by (F := ans) (fun _ hb_ => ?_) (fun _ hb_ => ?_) <;> simp only [hb_]) | (refine wayD_byN (F := ans) (fun _ hb_ => ?_) (fun _ hb_ => ?_) <;> simp only [hb_]) | (refine rdK_by (F := ans) (fun _ => ?_) (fun _ => ?_)) | (refine effK_by (F := ans) (fun _ => ?_) (fun _ => ?_)) | (refine effK_by2 (F := ans) (fun _ => ?_) (fun _ => ?_)) | (refine rdD_by (F := ans) (fun _ => ?_) (fun _ => ?_)) | (refine effD_by (F := ans) (fun _ => ?_) (fun _ => ?_)) | (refine effD_by2 (F := ans) (fun _ => ?_) (fun _ => ?_)) | simp -implicitDefEqProofs (disch := first | omega | (simp only [List.length_append, List.length_cons, List.length_nil, List.length_drop, List.length_take]; omega)) only [evs, tys, lors, Nat.reduceAdd, Nat.reduceSub, Nat.reduceMul, Nat.reducePow, Nat.reduceBEq, Nat.reduceLT, Nat.reduceLeDiff, Nat.reduceEqDiff, Int.reduceLT, Int.reduceLE, Int.reduceEq, Int.reduceNe, Int.reduceToNat, Int.reduceAdd, Int.reduceSub, Int.reduceMul, Int.reducePow, Int.reduceDiv, Int.reduceMod, Int.reduceNeg, reduceCtorEq, codeKey, List.contains, List.elem, Ev.load, peek, pack, storeV, fieldAddr, field, cvB, b_fl, w64, f1, f2, f3, f4, f5, g1, g2, g4, g7, g8, nan_cv, nand_exp, and_i64_11, bits1, Int.add_zero])
    all_goals first
      | (exfalso; omega)
      | trace_state
  refine callV_ans (r := some _) ?_ lore_sh29 rfl H
  rw [call_start lore_ext29 Try.func29 rfl lore_okf29 (Nat.le_of_ble_eq_true rfl)]
  repeat' (first | (refine cond_by (F := ans) (fun _ => ?_) (fun _ => ?_)) | (refine wayK_by (F := ans) (fun _ hb_ => ?_) (fun _ hb_ => ?_) <;> simp only [hb_]) | (refine wayK_byN (F := ans) (fun _ hb_ => ?_) (fun _ hb_ => ?_) <;> simp only [hb_]) | (refine wayD_by (F := ans) (fun _ hb_ => ?_) (fun _ hb_ => ?_) <;> simp only [hb_]) | (refine wayD_byN (F := ans) (fun _ hb_ => ?_) (fun _ hb_ => ?_) <;> simp only [hb_]) | (refine rdK_by (F := ans) (fun _ => ?_) (fun _ => ?_)) | (refine effK_by (F := ans) (fun _ => ?_) (fun _ => ?_)) | (refine effK_by2 (F := ans) (fun _ => ?_) (fun _ => ?_)) | (refine rdD_by (F := ans) (fun _ => ?_) (fun _ => ?_)) | (refine effD_by (F := ans) (fun _ => ?_) (fun _ => ?_)) | (refine effD_by2 (F := ans) (fun _ => ?_) (fun _ => ?_)) | simp -implicitDefEqProofs (disch := first | omega | (simp only [List.length_append, List.length_cons, List.length_nil, List.length_drop, List.length_take]; omega)) only [evs, tys, lors, Nat.reduceAdd, Nat.reduceSub, Nat.reduceMul, Nat.reducePow, Nat.reduceBEq, Nat.reduceLT, Nat.reduceLeDiff, Nat.reduceEqDiff, Int.reduceLT, Int.reduceLE, Int.reduceEq, Int.reduceNe, Int.reduceToNat, Int.reduceAdd, Int.reduceSub, Int.reduceMul, Int.reducePow, Int.reduceDiv, Int.reduceMod, Int.reduceNeg, reduceCtorEq, codeKey, List.contains, List.elem, Ev.load, peek, pack, storeV, fieldAddr, field, cvB, b_fl, w64, hin])
end Go.Proofs.Ytacnpljkcpomnaa
