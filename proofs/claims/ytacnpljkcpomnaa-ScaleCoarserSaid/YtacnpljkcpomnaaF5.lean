/-
Buckets of floats by their values: plain facts.
-/
import Derived.Test.YtacnpljkcpomnaaF3
namespace Go.Proofs.Ytacnpljkcpomnaa
open Go Ev
set_option linter.all false

theorem powz_pos (k : Nat) : (0 : Int) < 2 ^ k := Int.pow_pos (by decide)
theorem powz_lt {a b : Nat} (h : (2 : Int) ^ a < 2 ^ b) : a < b := by
  rcases Nat.lt_or_ge a b with h' | h'
  · exact h'
  · have := Nat.pow_le_pow_right (show 0 < 2 by decide) h'
    have : (2 : Int) ^ b ≤ 2 ^ a := by exact_mod_cast this
    omega
theorem powz_le {a b : Nat} (h : a ≤ b) : (2 : Int) ^ a ≤ 2 ^ b := by
  have := Nat.pow_le_pow_right (show 0 < 2 by decide) h
  exact_mod_cast this
/-- The least power of two that is no less. -/
def cl (x : Int) : Nat := bl (x - 1)
theorem cl_le {x : Int} (hx : 1 ≤ x) (e : Nat) : cl x ≤ e ↔ x ≤ 2 ^ e := by
  unfold cl
  rcases Int.lt_or_le 1 x with h | h
  · obtain ⟨b1, b2, b3⟩ := bl_facts (n := x - 1) (by omega)
    constructor
    · intro h1
      have := powz_le h1
      omega
    · intro h1
      have : (2 : Int) ^ (bl (x - 1) - 1) < 2 ^ e := by omega
      have := powz_lt this
      omega
  · obtain rfl : x = 1 := by omega
    have := powz_pos e
    have e0 : bl (1 - 1) = 0 := rfl
    rw [e0]
    exact ⟨fun _ => by omega, fun _ => by omega⟩
theorem cl_of {x : Int} (hx : 1 ≤ x) {k : Nat} (h : ∀ e, x ≤ 2 ^ e ↔ k ≤ e) : cl x = k := by
  have h1 := (cl_le hx (cl x)).1 (Nat.le_refl _)
  have h2 := (h _).1 h1
  have h3 := (h k).2 (Nat.le_refl _)
  have h4 := (cl_le hx k).2 h3
  omega
theorem cl_mono {x y : Int} (hx : 1 ≤ x) (h : x ≤ y) : cl x ≤ cl y := (cl_le hx _).2 (Int.le_trans h ((cl_le (by omega) _).1 (Nat.le_refl _)))
theorem cl_pow (k : Nat) : cl (2 ^ k) = k := by
  have := powz_pos k
  refine cl_of (by omega) fun e => ?_
  constructor
  · intro h
    rcases Nat.lt_or_ge e k with h' | h'
    · have := Nat.pow_lt_pow_right (a := 2) (by decide) h'
      have : (2 : Int) ^ e < 2 ^ k := by exact_mod_cast this
      omega
    · exact h'
  · exact powz_le
theorem cl_mul {x : Int} (hx : 1 ≤ x) (k : Nat) : cl (x * 2 ^ k) = cl x + k := by
  have hp := powz_pos k
  have h1 := Int.mul_le_mul hx (show (1 : Int) ≤ 2 ^ k by omega) (by decide) (by omega)
  refine cl_of (by omega) fun e => ?_
  constructor
  · intro h
    rcases Nat.lt_or_ge e k with h' | h'
    · exfalso
      have a1 := Nat.pow_lt_pow_right (a := 2) (by decide) h'
      have a2 : (2 : Int) ^ e < 2 ^ k := by exact_mod_cast a1
      have a3 := Int.mul_le_mul_of_nonneg_right hx (show (0 : Int) ≤ 2 ^ k by omega)
      omega
    · have e1 : (2 : Int) ^ e = 2 ^ (e - k) * 2 ^ k := by rw [← Int.pow_add, show e - k + k = e by omega]
      rw [e1] at h
      have := (cl_le hx (e - k)).2 (Int.le_of_mul_le_mul_right h hp)
      omega
  · intro h
    have e1 : (2 : Int) ^ e = 2 ^ (e - k) * 2 ^ k := by rw [← Int.pow_add, show e - k + k = e by omega]
    rw [e1]
    exact Int.mul_le_mul_of_nonneg_right ((cl_le hx (e - k)).1 (by omega)) (by omega)
theorem cl_sq {x : Int} (hx : 1 ≤ x) : cl x = (cl (x * x) + 1) / 2 := by
  have h1 := Int.mul_le_mul hx hx (by decide) (by omega)
  have key : ∀ e : Nat, cl (x * x) ≤ 2 * e ↔ cl x ≤ e := fun e => by
    rw [cl_le (by omega), cl_le hx, Nat.two_mul, Int.pow_add]
    have hp := powz_pos e
    constructor
    · intro h
      rcases Int.lt_or_le (2 ^ e) x with h' | h'
      · exfalso
        have a := Int.mul_lt_mul h' (Int.le_of_lt h') hp (by omega)
        omega
      · exact h'
    · intro h
      exact Int.mul_le_mul h h (by omega) (by omega)
  have k1 := (key (cl x)).2 (Nat.le_refl _)
  have k2 := key (cl x - 1)
  have k3 := key 0
  omega
theorem one_le_powz {x : Int} (hx : 1 ≤ x) : ∀ k : Nat, 1 ≤ x ^ k
  | 0 => by simp
  | k + 1 => by
    have := one_le_powz hx k
    rw [Int.pow_succ]
    have := Int.mul_le_mul this hx (by decide) (by omega)
    omega
theorem powz_mono {x y : Int} (hx : 0 ≤ x) (h : x ≤ y) : ∀ k : Nat, x ^ k ≤ y ^ k
  | 0 => by simp
  | k + 1 => by
    rw [Int.pow_succ, Int.pow_succ]
    exact Int.mul_le_mul (powz_mono hx h k) h hx (Int.pow_nonneg (by omega))
theorem powz_lt_mono {x y : Int} (hx : 0 ≤ x) (h : x < y) : ∀ k : Nat, x ^ (k + 1) < y ^ (k + 1)
  | 0 => by simp only [Int.pow_succ, Int.pow_zero, Int.one_mul]; exact h
  | k + 1 => by
    have ih := powz_lt_mono hx h k
    rw [Int.pow_succ x, Int.pow_succ y]
    have h0 : 0 ≤ x ^ (k + 1) := Int.pow_nonneg hx
    have h1 := Int.mul_le_mul_of_nonneg_left (Int.le_of_lt h) h0
    have h2 := Int.mul_lt_mul_of_pos_right ih (show 0 < y by omega)
    omega
/-- A bucket by the float's value. -/
def placeV (s : Int) (V : Int) : Int := if s ≤ 0 then -((-((cl V : Int) - 1074)) / 2 ^ (-s).toNat) else (cl (V ^ 2 ^ s.toNat) : Int) - 1074 * 2 ^ s.toNat
theorem placeV_mono (s : Int) {x y : Int} (hx : 1 ≤ x) (h : x ≤ y) : placeV s x ≤ placeV s y := by
  unfold placeV
  split
  · have := cl_mono hx h
    have := Int.ediv_le_ediv (powz_pos (-s).toNat) (show -((cl y : Int) - 1074) ≤ -((cl x : Int) - 1074) by omega)
    omega
  · have := cl_mono (one_le_powz hx _) (powz_mono (by omega) h (2 ^ s.toNat))
    omega
/-- The next lower schema's bucket. -/
theorem placeV_coarser (s : Int) {x : Int} (hx : 1 ≤ x) : placeV (s - 1) x = -((-(placeV s x)) / 2) := by
  unfold placeV
  by_cases h1 : s ≤ 0
  · rw [if_pos h1, if_pos (by omega)]
    have e : (-(s - 1)).toNat = (-s).toNat + 1 := by omega
    rw [e, Int.pow_succ, Int.neg_neg, Int.ediv_ediv_of_nonneg (Int.le_of_lt (powz_pos _))]
  · rw [if_neg h1]
    by_cases h2 : s = 1
    · subst h2
      rw [if_pos (by decide)]
      have e1 : (-((1 : Int) - 1)).toNat = 0 := by decide
      have e2 : ((1 : Int)).toNat = 1 := by decide
      rw [e1, e2, Int.pow_zero, Int.ediv_one, Nat.pow_one]
      have hs := cl_sq hx
      have e3 : x ^ 2 = x * x := by rw [Int.pow_succ, Int.pow_succ, Int.pow_zero, Int.one_mul]
      rw [e3]
      omega
    · rw [if_neg (by omega)]
      obtain ⟨n, hn⟩ : ∃ n : Nat, s = (n : Int) + 2 := ⟨(s - 2).toNat, by omega⟩
      have e1 : (s - 1).toNat = n + 1 := by omega
      have e2 : s.toNat = n + 2 := by omega
      rw [e1, e2]
      have hs := cl_sq (one_le_powz hx (2 ^ (n + 1)))
      rw [← Int.pow_add, show 2 ^ (n + 1) + 2 ^ (n + 1) = 2 ^ (n + 2) by rw [Nat.pow_succ 2 (n + 1)]; omega] at hs
      have e4 : (2 : Int) ^ (n + 2) = 2 * 2 ^ (n + 1) := Int.pow_succ' ..
      rw [e4, hs]
      omega
theorem placeV_pow (s : Int) (hs : 0 ≤ s) (j : Nat) : placeV s (2 ^ j) = ((j : Int) - 1074) * 2 ^ s.toNat := by
  unfold placeV
  by_cases h : s ≤ 0
  · obtain rfl : s = 0 := by omega
    rw [if_pos h, cl_pow]
    have e1 : (-(0 : Int)).toNat = 0 := by decide
    have e2 : (0 : Int).toNat = 0 := by decide
    rw [e1, e2, Int.pow_zero, Int.ediv_one, Int.mul_one]
    omega
  · rw [if_neg h, ← Int.pow_mul, cl_pow, Int.natCast_mul, Int.sub_mul]
    have e : ((2 ^ s.toNat : Nat) : Int) = 2 ^ s.toNat := by rw [Int.natCast_pow]; rfl
    rw [e]
theorem placeV_above (s : Int) (hs : 0 ≤ s) (j : Nat) {x : Int} (h : 2 ^ j < x) : ((j : Int) - 1074) * 2 ^ s.toNat < placeV s x := by
  have hp := powz_pos j
  unfold placeV
  by_cases h0 : s ≤ 0
  · obtain rfl : s = 0 := by omega
    have hc : ¬ cl x ≤ j := fun hh => by
      have := (cl_le (by omega) j).1 hh
      omega
    rw [if_pos h0]
    have e1 : (-(0 : Int)).toNat = 0 := by decide
    have e2 : (0 : Int).toNat = 0 := by decide
    rw [e1, e2, Int.pow_zero, Int.ediv_one, Int.mul_one]
    omega
  · rw [if_neg h0]
    have h1 : 1 ≤ x := by omega
    obtain ⟨q, hq⟩ : ∃ q, 2 ^ s.toNat = q + 1 := ⟨2 ^ s.toNat - 1, by have := Nat.two_pow_pos s.toNat; omega⟩
    have hc : ¬ cl (x ^ 2 ^ s.toNat) ≤ j * 2 ^ s.toNat := fun hh => by
      have h2 := (cl_le (one_le_powz h1 _) _).1 hh
      have h3 := powz_lt_mono (Int.le_of_lt hp) h q
      rw [Int.pow_mul, hq] at h2
      omega
    have e : ((2 ^ s.toNat : Nat) : Int) = 2 ^ s.toNat := by rw [Int.natCast_pow]; rfl
    rw [← e, Int.sub_mul]
    have e2 : ((j * 2 ^ s.toNat : Nat) : Int) = (j : Int) * ((2 ^ s.toNat : Nat) : Int) := Int.natCast_mul ..
    omega
theorem vf_mant {b : Nat} (h0 : 0 < b) (h1 : b < 9218868437227405312) : VF b * 4503599627370496 = mant b * 2 ^ (expo b + 1074).toNat := by
  unfold VF mant expo
  by_cases hs : b < 4503599627370496
  · obtain ⟨l1, l2, l3⟩ := nb_sub h0 hs
    have e1 : mR b = b := by unfold mR; rw [if_pos hs]
    have e2 : sR b = 0 := by unfold sR; rw [if_pos hs]
    have e3 : neZ b = -52 := by unfold neZ; rw [if_pos hs]
    have e4 : nb b = b.log2 * 4503599627370496 + b * 2 ^ (52 - b.log2) := by unfold nb; rw [if_pos hs]
    have e5 : b * 2 ^ (52 - b.log2) * 2 ^ b.log2 = b * 4503599627370496 := by
      rw [Nat.mul_assoc, ← Nat.pow_add, show 52 - b.log2 + b.log2 = 52 by omega]
    rw [e1, e2, e3, e4, Nat.pow_zero, Nat.mul_one]
    generalize b * 2 ^ (52 - b.log2) = y at *
    have e6 : 4503599627370496 + (b.log2 * 4503599627370496 + y) % 4503599627370496 = y := by omega
    have e7 : (((b.log2 * 4503599627370496 + y) / 4503599627370496 : Nat) - 1023 + (-52 : Int) + 1074).toNat = b.log2 := by omega
    rw [e6, e7, e5]
  · have e1 : mR b = 4503599627370496 + b % 4503599627370496 := by unfold mR; rw [if_neg hs]
    have e2 : sR b = b / 4503599627370496 - 1 := by unfold sR; rw [if_neg hs]
    obtain ⟨e4, e3⟩ := nb_norm (b := b) (by omega)
    rw [e3, e4]
    have e7 : ((b / 4503599627370496 : Nat) - 1023 + (0 : Int) + 1074).toNat = sR b + 52 := by omega
    rw [e7, ← e1, Nat.pow_add, Nat.mul_assoc]
theorem VF_pos {b : Nat} (h0 : 0 < b) : 1 ≤ (VF b : Int) := by
  have := VF_lt h0
  rw [VF_zero] at this
  omega
theorem placeF_eq (s : Int) {b : Nat} (h0 : 0 < b) (h1 : b < 9218868437227405312) : placeF s b = placeV s (VF b) := by
  obtain ⟨m0, m1, x0, x1⟩ := mant_facts h0 h1
  have hV := VF_pos h0
  have hvm := vf_mant h0 h1
  have hc1 : ((VF b : Int)) * 2 ^ 52 = (mant b : Int) * 2 ^ (expo b + 1074).toNat := by
    have := congrArg (fun n : Nat => (n : Int)) hvm
    simp only [Int.natCast_mul, Int.natCast_pow] at this
    exact this
  have hE : (((expo b + 1074).toNat : Nat) : Int) = expo b + 1074 := by omega
  unfold placeF placeV
  generalize (expo b + 1074).toNat = E at *
  generalize expo b = e at *
  generalize mant b = m at *
  generalize VF b = V at *
  have hm : 1 ≤ (m : Int) := by omega
  by_cases hs : s ≤ 0
  · rw [if_pos hs, if_pos hs]
    have h2 := cl_mul hV 52
    rw [hc1, cl_mul hm E] at h2
    have h3 : (cl (m : Int) : Int) = 52 + (if m = 4503599627370496 then 0 else 1) := by
      by_cases hmm : m = 4503599627370496
      · rw [if_pos hmm, hmm]
        have : ((4503599627370496 : Nat) : Int) = 2 ^ 52 := by decide
        rw [this, cl_pow]
        rfl
      · rw [if_neg hmm]
        have a1 := (cl_le hm 53).2 (by have : (2 : Int) ^ 53 = 9007199254740992 := by decide
                                       omega)
        have a2 : ¬ cl (m : Int) ≤ 52 := fun hh => by
          have := (cl_le hm 52).1 hh
          have e5 : (2 : Int) ^ 52 = 4503599627370496 := by decide
          omega
        omega
    have h4 : -(e + (if m = 4503599627370496 then (0 : Int) else 1)) = -((cl (V : Int) : Int) - 1074) := by omega
    rw [h4]
  · rw [if_neg hs, if_neg hs]
    generalize s.toNat = n
    have h2 := congrArg (fun x : Int => cl (x ^ 2 ^ n)) hc1
    simp only [Int.mul_pow, ← Int.pow_mul] at h2
    rw [cl_mul (one_le_powz hV _), cl_mul (one_le_powz hm _)] at h2
    have e1 : (2 : Int) ^ n = ((2 ^ n : Nat) : Int) := by rw [Int.natCast_pow]; rfl
    rw [e1]
    generalize 2 ^ n = N at *
    have h3 : ((E * N : Nat) : Int) = (e + 1074) * (N : Int) := by rw [Int.natCast_mul, hE]
    rw [Int.add_mul] at h3
    show e * (N : Int) + (cl ((m : Int) ^ N) : Int) - 52 * (N : Int) = _
    omega
theorem placeF_mono (s : Int) {a b : Nat} (h0 : 0 < a) (h : a ≤ b) (h1 : b < 9218868437227405312) : placeF s a ≤ placeF s b := by
  rw [placeF_eq s h0 (by omega), placeF_eq s (by omega) h1]
  refine placeV_mono s (VF_pos h0) ?_
  rcases Nat.eq_or_lt_of_le h with rfl | h
  · omega
  · have := VF_lt h; omega
end Go.Proofs.Ytacnpljkcpomnaa
