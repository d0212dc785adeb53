/-
Shifts and masks as arithmetic.
-/
import Derived.Test.YthpfimildcbgmaaDoorEvBun
namespace Go.Proofs.YthpfimildcbgmaaDoor
namespace Ev
set_option linter.all false
open Go

theorem shr_i64 {a : Int} {b : Nat} (ha : 0 ≤ a) (hb : b ≤ 64) : shrI .i64 a b = a / 2 ^ b := by
  have e : IntKind.i64.bits = 64 := rfl
  simp only [shrI, e, Nat.min_eq_left hb]
  exact Int.fdiv_eq_ediv_of_nonneg _ (Int.le_of_lt (Int.pow_pos (by decide)))
theorem shr_u64 {a : Int} {b : Nat} (ha : 0 ≤ a) (hb : b ≤ 64) : shrI .u64 a b = a / 2 ^ b := by
  have e : IntKind.u64.bits = 64 := rfl
  simp only [shrI, e, Nat.min_eq_left hb]
  exact Int.fdiv_eq_ediv_of_nonneg _ (Int.le_of_lt (Int.pow_pos (by decide)))
theorem shr_u8 {a : Int} {b : Nat} (ha : 0 ≤ a) (hb : b ≤ 8) : shrI .u8 a b = a / 2 ^ b := by
  have e : IntKind.u8.bits = 8 := rfl
  simp only [shrI, e, Nat.min_eq_left hb]
  exact Int.fdiv_eq_ediv_of_nonneg _ (Int.le_of_lt (Int.pow_pos (by decide)))
theorem shl_i64 {a : Int} {b : Nat} (hb : b ≤ 64) : shlI .i64 a b = IntKind.i64.wrap (a * 2 ^ b) := by
  have e : IntKind.i64.bits = 64 := rfl
  simp only [shlI, e, Nat.min_eq_left hb]
theorem shl_u64 {a : Int} {b : Nat} (hb : b ≤ 64) : shlI .u64 a b = IntKind.u64.wrap (a * 2 ^ b) := by
  have e : IntKind.u64.bits = 64 := rfl
  simp only [shlI, e, Nat.min_eq_left hb]
theorem shl_u8 {a : Int} {b : Nat} (hb : b ≤ 8) : shlI .u8 a b = IntKind.u8.wrap (a * 2 ^ b) := by
  have e : IntKind.u8.bits = 8 := rfl
  simp only [shlI, e, Nat.min_eq_left hb]

theorem ofNat_toNat {n x : Nat} (h : x < 2 ^ n) : (BitVec.ofInt n (x : Int)).toNat = x := by
  rw [BitVec.ofInt_natCast, BitVec.toNat_ofNat, Nat.mod_eq_of_lt h]
theorem andI_nat64 {x y : Nat} (hx : x < 2 ^ 63) (hy : y < 2 ^ 63) : andI .i64 x y = ((x &&& y : Nat) : Int) := by
  show IntKind.i64.wrap ((BitVec.ofInt 64 (x : Int) &&& BitVec.ofInt 64 (y : Int)).toNat : Int) = _
  rw [BitVec.toNat_and, ofNat_toNat (show x < 2 ^ 64 by omega), ofNat_toNat (show y < 2 ^ 64 by omega)]
  have := Nat.and_le_left (n := x) (m := y)
  rw [w_i64 (by omega) (by omega)]
theorem andI_natU {x y : Nat} (hx : x < 2 ^ 64) (hy : y < 2 ^ 64) : andI .u64 x y = ((x &&& y : Nat) : Int) := by
  show IntKind.u64.wrap ((BitVec.ofInt 64 (x : Int) &&& BitVec.ofInt 64 (y : Int)).toNat : Int) = _
  rw [BitVec.toNat_and, ofNat_toNat hx, ofNat_toNat hy]
  have := Nat.and_le_left (n := x) (m := y)
  rw [w_u64 (by omega) (by omega)]
theorem andI_natB {x y : Nat} (hx : x < 2 ^ 8) (hy : y < 2 ^ 8) : andI .u8 x y = ((x &&& y : Nat) : Int) := by
  show IntKind.u8.wrap ((BitVec.ofInt 8 (x : Int) &&& BitVec.ofInt 8 (y : Int)).toNat : Int) = _
  rw [BitVec.toNat_and, ofNat_toNat hx, ofNat_toNat hy]
  have := Nat.and_le_left (n := x) (m := y)
  rw [w_u8 (by omega) (by omega)]
theorem orI_natU {x y : Nat} (hx : x < 2 ^ 64) (hy : y < 2 ^ 64) : orI .u64 x y = ((x ||| y : Nat) : Int) := by
  show IntKind.u64.wrap ((BitVec.ofInt 64 (x : Int) ||| BitVec.ofInt 64 (y : Int)).toNat : Int) = _
  rw [BitVec.toNat_or, ofNat_toNat hx, ofNat_toNat hy]
  have := Nat.or_lt_two_pow hx hy
  rw [w_u64 (by omega) (by omega)]
theorem orI_natB {x y : Nat} (hx : x < 2 ^ 8) (hy : y < 2 ^ 8) : orI .u8 x y = ((x ||| y : Nat) : Int) := by
  show IntKind.u8.wrap ((BitVec.ofInt 8 (x : Int) ||| BitVec.ofInt 8 (y : Int)).toNat : Int) = _
  rw [BitVec.toNat_or, ofNat_toNat hx, ofNat_toNat hy]
  have := Nat.or_lt_two_pow hx hy
  rw [w_u8 (by omega) (by omega)]
theorem xorI_natU {x y : Nat} (hx : x < 2 ^ 64) (hy : y < 2 ^ 64) : xorI .u64 x y = ((x ^^^ y : Nat) : Int) := by
  show IntKind.u64.wrap ((BitVec.ofInt 64 (x : Int) ^^^ BitVec.ofInt 64 (y : Int)).toNat : Int) = _
  rw [BitVec.toNat_xor, ofNat_toNat hx, ofNat_toNat hy]
  have := Nat.xor_lt_two_pow hx hy
  rw [w_u64 (by omega) (by omega)]
theorem mask_mod (x j : Nat) : x &&& (2 ^ j - 1) = x % 2 ^ j := Nat.and_two_pow_sub_one_eq_mod x j

/-- 'x & (2^j - 1)'. -/
theorem and_i64_m {x m : Int} (j : Nat) (h0 : 0 ≤ x) (h1 : x < 9223372036854775808) (hm : m = ((2 ^ j - 1 : Nat) : Int)) (hj : j ≤ 63) : andI .i64 x m = x % ((2 ^ j : Nat) : Int) := by
  obtain ⟨n, rfl⟩ := Int.eq_ofNat_of_zero_le h0
  subst hm
  have hp : 2 ^ j ≤ 2 ^ 63 := Nat.pow_le_pow_right (by decide) hj
  have hp1 : 1 ≤ 2 ^ j := Nat.one_le_two_pow
  rw [andI_nat64 (by omega) (by omega), mask_mod]
  exact Int.natCast_emod _ _
theorem and_u64_m {x m : Int} (j : Nat) (h0 : 0 ≤ x) (h1 : x < 18446744073709551616) (hm : m = ((2 ^ j - 1 : Nat) : Int)) (hj : j ≤ 64) : andI .u64 x m = x % ((2 ^ j : Nat) : Int) := by
  obtain ⟨n, rfl⟩ := Int.eq_ofNat_of_zero_le h0
  subst hm
  have hp : 2 ^ j ≤ 2 ^ 64 := Nat.pow_le_pow_right (by decide) hj
  have hp1 : 1 ≤ 2 ^ j := Nat.one_le_two_pow
  rw [andI_natU (by omega) (by omega), mask_mod]
  exact Int.natCast_emod _ _
theorem and_u8_m {x m : Int} (j : Nat) (h0 : 0 ≤ x) (h1 : x < 256) (hm : m = ((2 ^ j - 1 : Nat) : Int)) (hj : j ≤ 8) : andI .u8 x m = x % ((2 ^ j : Nat) : Int) := by
  obtain ⟨n, rfl⟩ := Int.eq_ofNat_of_zero_le h0
  subst hm
  have hp : 2 ^ j ≤ 2 ^ 8 := Nat.pow_le_pow_right (by decide) hj
  have hp1 : 1 ≤ 2 ^ j := Nat.one_le_two_pow
  rw [andI_natB (by omega) (by omega), mask_mod]
  exact Int.natCast_emod _ _
theorem and_i64_1 {x : Int} (h0 : 0 ≤ x) (h1 : x < 9223372036854775808) : andI .i64 x 1 = x % 2 := and_i64_m 1 h0 h1 rfl (by decide)
theorem and_u64_1 {x : Int} (h0 : 0 ≤ x) (h1 : x < 18446744073709551616) : andI .u64 x 1 = x % 2 := and_u64_m 1 h0 h1 rfl (by decide)
theorem and_u64_32 {x : Int} (h0 : 0 ≤ x) (h1 : x < 18446744073709551616) : andI .u64 x 4294967295 = x % 4294967296 := and_u64_m 32 h0 h1 rfl (by decide)
theorem and_u64_6 {x : Int} (h0 : 0 ≤ x) (h1 : x < 18446744073709551616) : andI .u64 x 63 = x % 64 := and_u64_m 6 h0 h1 rfl (by decide)
theorem and_u64_7 {x : Int} (h0 : 0 ≤ x) (h1 : x < 18446744073709551616) : andI .u64 x 127 = x % 128 := and_u64_m 7 h0 h1 rfl (by decide)
theorem and_u64_11 {x : Int} (h0 : 0 ≤ x) (h1 : x < 18446744073709551616) : andI .u64 x 2047 = x % 2048 := and_u64_m 11 h0 h1 rfl (by decide)
theorem and_u64_52 {x : Int} (h0 : 0 ≤ x) (h1 : x < 18446744073709551616) : andI .u64 x 4503599627370495 = x % 4503599627370496 := and_u64_m 52 h0 h1 rfl (by decide)
/-- Apart: the upper's lower bits are none. -/
theorem or_apart {a b j : Nat} (hb : b < 2 ^ j) : a * 2 ^ j ||| b = a * 2 ^ j + b := by
  rw [Nat.mul_comm, Nat.two_pow_add_eq_or_of_lt hb]

def bits1 := And.intro @shr_i64 (And.intro @shr_u64 (And.intro @shr_u8 (And.intro @shl_i64 (And.intro @shl_u64 (And.intro @shl_u8 (And.intro @and_i64_1 (And.intro @and_u64_1 (And.intro @and_u64_32 (And.intro @and_u64_6 (And.intro @and_u64_7 (And.intro @and_u64_11 @and_u64_52)))))))))))
end Ev
end Go.Proofs.YthpfimildcbgmaaDoor
