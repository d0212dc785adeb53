/-
Floats of 64 bits that are not below nought: their values, order, some products; plain facts.
-/
import Derived.Test.YtacnpljkcpomnaaEvBits
namespace Go.Proofs.Ytacnpljkcpomnaa
open Go Ev
set_option linter.all false

abbrev FD : Ieee.Format := FloatKind.f64.format
def mR (b : Nat) : Nat := if b < 4503599627370496 then b else 4503599627370496 + b % 4503599627370496
def sR (b : Nat) : Nat := if b < 4503599627370496 then 0 else b / 4503599627370496 - 1
/-- The value, in units of the least one. -/
def VF (b : Nat) : Nat := mR b * 2 ^ sR b
theorem sR_le {b : Nat} (h : b < 9218868437227405312) : sR b ≤ 2045 := by unfold sR; split <;> omega
theorem mR_facts (b : Nat) : mR b < 9007199254740992 ∧ (1 ≤ sR b → 4503599627370496 ≤ mR b) ∧ (0 < b → 0 < mR b) := by
  unfold mR sR
  split <;> omega
theorem VF_lt {a b : Nat} (h : a < b) : VF a < VF b := by
  obtain ⟨a1, a2, a3⟩ := mR_facts a
  obtain ⟨b1, b2, b3⟩ := mR_facts b
  have hs : sR a ≤ sR b ∧ (sR a = sR b → mR a < mR b) := by
    unfold sR mR
    split <;> split <;> omega
  unfold VF
  rcases Nat.lt_or_ge (sR a) (sR b) with hh | hh
  · have e := Nat.pow_le_pow_right (show 0 < 2 by decide) (show sR a + 1 ≤ sR b by omega)
    have h1 := Nat.mul_lt_mul_of_pos_right a1 (Nat.two_pow_pos (sR a))
    have h2 := Nat.mul_le_mul_left 4503599627370496 e
    have h3 := Nat.mul_le_mul_right (2 ^ sR b) (b2 (by omega))
    rw [Nat.pow_succ] at h2
    omega
  · have e : sR a = sR b := by omega
    rw [e]
    exact Nat.mul_lt_mul_of_pos_right (hs.2 e) (Nat.two_pow_pos _)
theorem VF_zero : VF 0 = 0 := by decide
theorem VF_cmp (a b : Nat) : compare (VF a) (VF b) = compare a b := by
  rcases Nat.lt_trichotomy a b with h | h | h
  · rw [Nat.compare_eq_lt.2 h, Nat.compare_eq_lt.2 (VF_lt h)]
  · rw [h, Nat.compare_eq_eq.2 rfl, Nat.compare_eq_eq.2 rfl]
  · rw [Nat.compare_eq_gt.2 h, Nat.compare_eq_gt.2 (VF_lt h)]
theorem fd_sw : FD.signWeight = 9223372036854775808 := by decide
theorem fd_bin : FD.binade = 4503599627370496 := by decide
theorem fd_inf : FD.infRung = 9218868437227405312 := by decide
theorem fd_lp : FD.leastPlace = -1074 := by decide
theorem fd_fb : FD.fractionBits = 52 := by decide
theorem rd_pos {b : Nat} (h : b < 9218868437227405312) : FD.read b = .number false (mR b) (-1074 + (sR b : Nat)) := by
  unfold Ieee.Format.read
  rw [fd_sw, fd_bin, fd_inf, fd_lp]
  have e1 : (b / 9223372036854775808 % 2 == 1) = false := by rw [beq_eq_false_iff_ne]; omega
  have e2 : b % 9223372036854775808 = b := by omega
  simp only [e1, e2]
  unfold mR sR
  split
  · simp
  · rfl
theorem rd_neg {b : Nat} (h : b < 9218868437227405312) : FD.read (9223372036854775808 + b) = .number true (mR b) (-1074 + (sR b : Nat)) := by
  unfold Ieee.Format.read
  rw [fd_sw, fd_bin, fd_inf, fd_lp]
  have e1 : ((9223372036854775808 + b) / 9223372036854775808 % 2 == 1) = true := by rw [beq_iff_eq]; omega
  have e2 : (9223372036854775808 + b) % 9223372036854775808 = b := by omega
  simp only [e1, e2]
  unfold mR sR
  split
  · simp
  · rfl
theorem rd_bad {b : Nat} (h : ¬ b % 9223372036854775808 < 9218868437227405312) : ∃ d, FD.read b = d ∧ (∀ s m e, d ≠ .number s m e) := by
  refine ⟨_, rfl, ?_⟩
  unfold Ieee.Format.read
  rw [fd_sw, fd_bin, fd_inf, fd_lp]
  intro s m e
  simp only
  rw [if_neg (by omega), if_neg h]
  split <;> simp
theorem cmp_scale (x y c : Nat) : compare (x * 2 ^ c) (y * 2 ^ c) = compare x y := by
  have hp := Nat.two_pow_pos c
  rcases Nat.lt_trichotomy x y with h | h | h
  · rw [Nat.compare_eq_lt.2 h, Nat.compare_eq_lt.2 (Nat.mul_lt_mul_of_pos_right h hp)]
  · rw [h, Nat.compare_eq_eq.2 rfl, Nat.compare_eq_eq.2 rfl]
  · rw [Nat.compare_eq_gt.2 h, Nat.compare_eq_gt.2 (Nat.mul_lt_mul_of_pos_right h hp)]
theorem cmp_cast (x y : Nat) : compare (x : Int) (y : Int) = compare x y := by
  rcases Nat.lt_trichotomy x y with h | h | h
  · rw [Nat.compare_eq_lt.2 h, compare, instOrdInt]
    simp only [compareOfLessAndEq]
    rw [if_pos (by omega)]
  · rw [h, Nat.compare_eq_eq.2 rfl, compare, instOrdInt]
    simp [compareOfLessAndEq]
  · rw [Nat.compare_eq_gt.2 h, compare, instOrdInt]
    simp only [compareOfLessAndEq]
    rw [if_neg (by omega), if_neg (by omega)]
theorem base_mul (m s : Nat) (p : Int) (q : Nat) (hp : p = -1074 + (q : Int)) (hq : q ≤ s) : (m <<< ((-1074 + (s : Int)) - p).toNat) * 2 ^ q = m * 2 ^ s := by
  subst hp
  have e : (-1074 + (s : Int) - (-1074 + (q : Int))).toNat = s - q := by omega
  rw [e, Nat.shiftLeft_eq, Nat.mul_assoc, ← Nat.pow_add]
  congr 2
  omega
theorem ordN {a b : Nat} (ha : a < 9218868437227405312) (hb : b < 9218868437227405312) : FD.order a b = some (compare a b) := by
  unfold Ieee.Format.order
  rw [rd_pos ha, rd_pos hb]
  simp only [Ieee.Datum.order, Ieee.signed]
  obtain ⟨q, hq⟩ : ∃ q : Nat, q = min (sR a) (sR b) := ⟨_, rfl⟩
  have hm : min (-1074 + (sR a : Int)) (-1074 + (sR b : Int)) = -1074 + (q : Int) := by omega
  rw [hm]
  have h1 := base_mul (mR a) (sR a) _ q rfl (by omega)
  have h2 := base_mul (mR b) (sR b) _ q rfl (by omega)
  simp only [Bool.false_eq_true, if_false]
  rw [cmp_cast, ← cmp_scale _ _ q, h1, h2]
  exact congrArg some (VF_cmp a b)
theorem ord_lt {a b : Nat} (hb : b < 9218868437227405312) (h : a < b) : FD.order a b = some .lt := by rw [ordN (by omega) hb, Nat.compare_eq_lt.2 h]
theorem ord_gt {a b : Nat} (ha : a < 9218868437227405312) (h : b < a) : FD.order a b = some .gt := by rw [ordN ha (by omega), Nat.compare_eq_gt.2 h]
theorem ord_eq {a : Nat} (ha : a < 9218868437227405312) : FD.order a a = some .eq := by rw [ordN ha ha, Nat.compare_eq_eq.2 rfl]
theorem ord_neg {b : Nat} (hb : b < 9218868437227405312) (h : 0 < b) : FD.order (9223372036854775808 + b) 0 = some .lt := by
  unfold Ieee.Format.order
  rw [rd_neg hb, rd_pos (by decide)]
  simp only [Ieee.Datum.order, Ieee.signed]
  have hm : min (-1074 + (sR b : Int)) (-1074 + ((sR 0 : Nat) : Int)) = -1074 + (0 : Nat) := by
    have : sR 0 = 0 := by decide
    omega
  rw [hm]
  have h1 := base_mul (mR b) (sR b) _ 0 rfl (by omega)
  have h2 := base_mul (mR 0) (sR 0) _ 0 rfl (by decide)
  have h3 := VF_lt h
  rw [VF_zero] at h3
  unfold VF at h3
  simp only [if_true, Bool.false_eq_true, if_false]
  generalize mR b <<< (-1074 + (sR b : Int) - (-1074 + ((0 : Nat) : Int))).toNat = u at *
  generalize mR 0 <<< (-1074 + ((sR 0 : Nat) : Int) - (-1074 + ((0 : Nat) : Int))).toNat = w at *
  have hw : w = 0 := by
    have : mR 0 = 0 := by decide
    rw [this] at h2
    omega
  subst hw
  have hlt : -(u : Int) < ((0 : Nat) : Int) := by omega
  rw [compare, instOrdInt]
  simp only [compareOfLessAndEq]
  rw [if_pos hlt]
theorem ord_neg0 : FD.order 9223372036854775808 0 = some .eq := by decide
/-- A number that the format has is written as it is. -/
theorem wr_ex (mag : Nat) (p : Int) (d k e : Nat) (h0 : 0 < mag) (hlast : max (p + (mag.log2 : Int) - 52) (-1074) = p + (d : Int)) (hd : d ≤ mag.log2 + 2) (hk : mag = k * 2 ^ d) (he : p + (d : Int) + 1074 = e) (hi : e * 4503599627370496 + k ≤ 9218868437227405312) : FD.write (.number false mag p) = e * 4503599627370496 + k := by
  show FD.nearest false mag p = _
  unfold Ieee.Format.nearest
  rw [if_neg (by omega), fd_fb, fd_lp, fd_bin, fd_inf]
  have e52 : ((52 : Nat) : Int) = 52 := rfl
  simp only [e52, hlast]
  have e1 : (p - (p + (d : Int))).toNat = 0 := by omega
  have e2 : (p + (d : Int) - p).toNat = d := by omega
  have e3 : (p + (d : Int) - -1074).toNat = e := by omega
  rw [e1, e2, e3]
  have hp := Nat.two_pow_pos d
  have ec : Ieee.Toward.even.cut false (mag <<< 0) d = k := by
    unfold Ieee.Toward.cut
    rw [Nat.shiftLeft_zero, Nat.min_eq_left hd, Nat.one_shiftLeft]
    simp only
    rw [hk, Nat.mul_div_cancel _ hp, Nat.mul_mod_left]
    have a1 : decide (2 ^ d < 2 * 0) = false := by rw [decide_eq_false_iff_not]; omega
    have a2 : (2 ^ d == 2 * 0) = false := by rw [beq_eq_false_iff_ne]; omega
    rw [a1, a2]
    rfl
  rw [ec, Nat.min_eq_left hi]
  rfl
theorem log2_of {n k : Nat} (h0 : 2 ^ k ≤ n) (h1 : n < 2 ^ (k + 1)) : n.log2 = k := by
  have hn : n ≠ 0 := by have := Nat.two_pow_pos k; omega
  exact (Nat.log2_eq_iff hn).2 ⟨h0, h1⟩
theorem log2_mul {n j : Nat} (h : n ≠ 0) : (n * 2 ^ j).log2 = n.log2 + j := by
  obtain ⟨a, b⟩ := (Nat.log2_eq_iff h).1 rfl
  refine log2_of ?_ ?_
  · rw [Nat.pow_add]; exact Nat.mul_le_mul_right _ a
  · rw [show n.log2 + j + 1 = (n.log2 + 1) + j by omega, Nat.pow_add]
    exact Nat.mul_lt_mul_of_pos_right b (Nat.two_pow_pos _)
/-- A float below the normal ones, times 2^52. -/
theorem mul_sub {b : Nat} (h0 : 0 < b) (h1 : b < 4503599627370496) : FD.mul b 4841369599423283200 = some (b.log2 * 4503599627370496 + b * 2 ^ (52 - b.log2)) := by
  unfold Ieee.Format.mul
  rw [rd_pos (by omega), rd_pos (by decide)]
  have e1 : mR 4841369599423283200 = 4503599627370496 := by decide
  have e2 : sR 4841369599423283200 = 1074 := by decide
  have e3 : mR b = b := by unfold mR; rw [if_pos h1]
  have e4 : sR b = 0 := by unfold sR; rw [if_pos h1]
  rw [e1, e2, e3, e4]
  simp only [Ieee.Datum.product, Option.map_some, Bool.xor_false]
  have hb : b ≠ 0 := by omega
  obtain ⟨a, c⟩ := (Nat.log2_eq_iff hb).1 rfl
  have hl : b.log2 ≤ 51 := by
    have : 2 ^ b.log2 < 2 ^ 52 := by omega
    have := (Nat.pow_lt_pow_iff_right (show 1 < 2 by decide)).1 this
    omega
  have e5 : (4503599627370496 : Nat) = 2 ^ 52 := by decide
  have hlm : (b * 4503599627370496).log2 = b.log2 + 52 := by rw [e5, log2_mul hb]
  refine congrArg some (wr_ex _ _ b.log2 (b * 2 ^ (52 - b.log2)) b.log2 (by omega) ?_ ?_ ?_ ?_ ?_)
  · rw [hlm]; omega
  · rw [hlm]; omega
  · rw [e5, Nat.mul_assoc, ← Nat.pow_add, show 52 - b.log2 + b.log2 = 52 by omega]
  · omega
  · have : b * 2 ^ (52 - b.log2) < 2 ^ (b.log2 + 1) * 2 ^ (52 - b.log2) := Nat.mul_lt_mul_of_pos_right c (Nat.two_pow_pos _)
    rw [← Nat.pow_add, show b.log2 + 1 + (52 - b.log2) = 53 by omega] at this
    omega
theorem mul_one_f {b : Nat} (h0 : 4503599627370496 ≤ b) (h1 : b < 9218868437227405312) : FD.mul 4607182418800017408 b = some b := by
  unfold Ieee.Format.mul
  rw [rd_pos h1, rd_pos (by decide)]
  have e1 : mR 4607182418800017408 = 4503599627370496 := by decide
  have e2 : sR 4607182418800017408 = 1022 := by decide
  have hn : ¬ b < 4503599627370496 := by omega
  have e3 : mR b = 4503599627370496 + b % 4503599627370496 := by unfold mR; rw [if_neg hn]
  have e4 : sR b = b / 4503599627370496 - 1 := by unfold sR; rw [if_neg hn]
  rw [e1, e2]
  simp only [Ieee.Datum.product, Option.map_some, Bool.xor_false]
  have hb : mR b ≠ 0 := by omega
  have hl : (mR b).log2 = 52 := log2_of (by omega) (by omega)
  have e5 : (4503599627370496 : Nat) = 2 ^ 52 := by decide
  have hlm : (4503599627370496 * mR b).log2 = 104 := by rw [Nat.mul_comm, e5, log2_mul hb, hl]
  have := wr_ex (4503599627370496 * mR b) (-1074 + ((1022 : Nat) : Int) + (-1074 + (sR b : Int))) 52 (mR b) (sR b) (by omega) (by rw [hlm]; omega) (by rw [hlm]; decide) (by rw [Nat.mul_comm, e5]) (by omega) (by omega)
  rw [this]
  exact congrArg some (by omega)
/-- 2^-53 times a power of two: one below the normal ones. -/
theorem mul_low {e : Nat} (h0 : 2 ≤ e) (h1 : e ≤ 53) : FD.mul 4368491638549381120 (e * 4503599627370496) = some (2 ^ (e - 2)) := by
  unfold Ieee.Format.mul
  rw [rd_pos (show e * 4503599627370496 < _ by omega), rd_pos (by decide)]
  have e1 : mR 4368491638549381120 = 4503599627370496 := by decide
  have e2 : sR 4368491638549381120 = 969 := by decide
  have hn : ¬ e * 4503599627370496 < 4503599627370496 := by omega
  have e3 : mR (e * 4503599627370496) = 4503599627370496 := by unfold mR; rw [if_neg hn]; omega
  have e4 : sR (e * 4503599627370496) = e - 1 := by unfold sR; rw [if_neg hn]; omega
  rw [e1, e2, e3, e4]
  simp only [Ieee.Datum.product, Option.map_some, Bool.xor_false]
  have hlm : (4503599627370496 * 4503599627370496).log2 = 104 := by decide
  have hp : 2 ^ (e - 2) ≤ 2 ^ 51 := Nat.pow_le_pow_right (by decide) (by omega)
  have := wr_ex (4503599627370496 * 4503599627370496) (-1074 + ((969 : Nat) : Int) + (-1074 + ((e - 1 : Nat) : Int))) (106 - e) (2 ^ (e - 2)) 0 (by decide) (by rw [hlm]; omega) (by rw [hlm]; omega) (by
    rw [← Nat.pow_add, show e - 2 + (106 - e) = 104 by omega]) (by omega) (by omega)
  rw [this]
  exact congrArg some (by omega)
theorem sub_self {b : Nat} (h : b % 9223372036854775808 < 9218868437227405312) (hb : b < 18446744073709551616) : FD.sub b b = some 0 := by
  have hr : ∃ s m p, FD.read b = .number s m p := by
    rcases Nat.lt_or_ge b 9223372036854775808 with h1 | h1
    · exact ⟨_, _, _, rd_pos (by omega)⟩
    · have := rd_neg (b := b - 9223372036854775808) (by omega)
      rw [show 9223372036854775808 + (b - 9223372036854775808) = b by omega] at this
      exact ⟨_, _, _, this⟩
  obtain ⟨s, m, p, hr⟩ := hr
  unfold Ieee.Format.sub
  rw [hr]
  simp only [Ieee.Datum.opposite, Ieee.Datum.sum, Ieee.signed, Option.map_some, Int.min_self, Int.sub_self]
  generalize m <<< (0 : Int).toNat = z
  have ht : ((if s = true then -(z : Int) else (z : Int)) + (if (!s) = true then -(z : Int) else (z : Int))) = 0 := by cases s <;> simp <;> omega
  rw [ht]
  simp only [if_true, Int.natAbs_zero]
  show some (FD.nearest _ 0 p) = some 0
  unfold Ieee.Format.nearest
  cases s <;> simp [Ieee.Format.word]
theorem sub_bad {b : Nat} (h : ¬ b % 9223372036854775808 < 9218868437227405312) : FD.sub b b = none := by
  obtain ⟨d, h1, h2⟩ := rd_bad h
  unfold Ieee.Format.sub
  rw [h1]
  cases d with
  | number s m e => exact absurd rfl (h2 s m e)
  | infinity s => simp [Ieee.Datum.opposite, Ieee.Datum.sum]
  | nan s f => simp [Ieee.Datum.opposite, Ieee.Datum.sum]
theorem ord_nan : FD.order (nanMark .f64) 0 = none := by decide
theorem toInt_m {r : Nat} (h : r < 4503599627370496) : (FD.read (4841369599423283200 + r)).toInt .zero = some ((4503599627370496 + r : Nat) : Int) := by
  rw [rd_pos (by omega)]
  have hn : ¬ 4841369599423283200 + r < 4503599627370496 := by omega
  have e3 : mR (4841369599423283200 + r) = 4503599627370496 + r := by unfold mR; rw [if_neg hn]; omega
  have e4 : sR (4841369599423283200 + r) = 1074 := by unfold sR; rw [if_neg hn]; omega
  rw [e3, e4]
  simp only [Ieee.Datum.toInt, Ieee.Datum.integral, Ieee.Toward.cut, Ieee.signed]
  simp
/-! Bits. -/
theorem xor_hi {r : Nat} (h : r < 9223372036854775808) : (9223372036854775808 + r) ^^^ 9223372036854775808 = r ∧ r ^^^ 9223372036854775808 = 9223372036854775808 + r := by
  have e0 : (9223372036854775808 : Nat) = 2 ^ 63 := by decide
  have h1 : r ^^^ 9223372036854775808 = 9223372036854775808 + r := by
    apply Nat.eq_of_testBit_eq
    intro i
    rw [Nat.testBit_xor, e0, Nat.testBit_two_pow]
    by_cases hi : i < 63
    · rw [Nat.testBit_two_pow_add_gt hi]
      have : ¬ 63 = i := by omega
      simp [this]
    · by_cases h63 : i = 63
      · subst h63
        rw [Nat.testBit_two_pow_add_eq]
        simp
      · have hr : r.testBit i = false := Nat.testBit_lt_two_pow (Nat.lt_of_lt_of_le (e0 ▸ h) (Nat.pow_le_pow_right (by decide) (by omega)))
        have hr2 : (2 ^ 63 + r).testBit i = false := Nat.testBit_lt_two_pow (Nat.lt_of_lt_of_le (show 2 ^ 63 + r < 2 ^ 64 by omega) (Nat.pow_le_pow_right (by decide) (by omega)))
        have : ¬ 63 = i := by omega
        rw [hr, hr2]
        simp [this]
  refine ⟨?_, h1⟩
  rw [← h1, Nat.xor_assoc, Nat.xor_self, Nat.xor_zero]
end Go.Proofs.Ytacnpljkcpomnaa
