/-
scale.place of any float above nought.
-/
import Derived.Test.YtacnpljkcpomnaaF2
import Derived.Test.YtacnpljkcpomnaaW5
namespace Go.Proofs.Ytacnpljkcpomnaa
open Go Ev
set_option linter.all false
set_option maxHeartbeats 4000000
set_option maxRecDepth 5000
attribute [local irreducible] codeL condL loopL callL callV evOps evDraw rdK effK wayK oneK wayD oneD rdD effD chks chkB res

/-- A float is mant / 2^52 times 2^expo. -/
def mant (b : Nat) : Nat := 4503599627370496 + nb b % 4503599627370496
def expo (b : Nat) : Int := (nb b / 4503599627370496 : Nat) - 1023 + neZ b
theorem mant_facts {b : Nat} (h0 : 0 < b) (h1 : b < 9218868437227405312) : 4503599627370496 ≤ mant b ∧ mant b < 9007199254740992 ∧ -1074 ≤ expo b ∧ expo b ≤ 1023 := by
  obtain ⟨n0, n1⟩ := nb_facts h0 h1
  have hz : neZ b = -52 ∨ neZ b = 0 := by unfold neZ; split <;> simp
  unfold mant expo
  omega
def pow2 : Nat → Int → Int
  | 0, n => n
  | k + 1, n => pow2 k (n * n)
theorem pow2_eq : ∀ (k : Nat) (n : Int), pow2 k n = n ^ (2 ^ k)
  | 0, n => by rw [pow2, Nat.pow_zero, Int.pow_succ, Int.pow_zero, Int.one_mul]
  | k + 1, n => by rw [pow2, pow2_eq k, Nat.pow_succ', Int.pow_mul, Int.pow_succ, Int.pow_succ, Int.pow_zero, Int.one_mul]
theorem pow2_le : ∀ (k : Nat) (n : Int), 1 ≤ n → n ≤ pow2 k n
  | 0, n, _ => Int.le_refl _
  | k + 1, n, h => by
    have h1 := Int.mul_le_mul_of_nonneg_left h (show 0 ≤ n by omega)
    have := pow2_le k (n * n) (by omega)
    rw [pow2]
    omega
theorem words_len_le {n : Int} {k : Nat} (h0 : 0 ≤ n) (h : n < (18446744073709551616 : Int) ^ k) : (words n).length ≤ k := by
  rcases Int.lt_or_le 0 n with hn | hn
  · obtain ⟨a, x, e, x0, x1, hv, v0, v1⟩ := words_last hn
    rw [p264] at hv v0 v1
    rw [e, List.length_append]
    rcases Nat.lt_or_ge a.length k with hh | hh
    · show a.length + 1 ≤ k
      omega
    · have hp : (18446744073709551616 : Int) ^ k ≤ 18446744073709551616 ^ a.length := by
        have := Int.ofNat_le.2 (Nat.pow_le_pow_right (show 0 < 18446744073709551616 by decide) hh)
        rw [Int.natCast_pow, Int.natCast_pow] at this
        exact this
      have hq : (0 : Int) < 18446744073709551616 ^ a.length := Int.pow_pos (by decide)
      have := Int.mul_le_mul_of_nonneg_left (show 1 ≤ x by omega) (show (0 : Int) ≤ 18446744073709551616 ^ a.length by omega)
      omega
  · obtain rfl : n = 0 := by omega
    have : words 0 = [] := by decide
    rw [this]
    simp
theorem pow_gen (c : Nat) {m k : Nat} (h : m ≤ 18446744073709551616) (hk : k < c) : (m : Int) ^ k < (18446744073709551616 : Int) ^ c := by
  have a1 := Nat.pow_le_pow_left h k
  have a2 := Nat.pow_lt_pow_right (a := 18446744073709551616) (by decide) hk
  have := Int.ofNat_lt.2 (Nat.lt_of_le_of_lt a1 a2)
  rw [Int.natCast_pow, Int.natCast_pow] at this
  exact this
def BIG : Int := (18446744073709551616 : Int) ^ 1000
theorem words_len_big {n : Int} (h0 : 0 ≤ n) (h : n < BIG) : (words n).length ≤ 1000 := words_len_le h0 h
theorem of2_cv (x : Int) (h0 : 0 < x) (h1 : x < 18446744073709551616) (H : Heap) : callV (CL lore) 48 [.int .u64 x] H = some (.agg [.bool false, .sl (enc (words x)) 1 true], H) := by
  rw [words_one h0 (by rw [p264]; exact h1)]
  exact of_cv x h0 H
theorem loop37 (s : Nat) (hs : s ≤ 8) (e : Int) (N : Int) (hN : N < BIG) (K : Kont) (R : Option V) (a : Code) (ha : loopIn Try.prog 37 11 = some a)
    (hR : ∀ c, ans (K (.exit 0) (Sl 54 .wild [(0, .int .i64 (s : Nat)), (6, .int .i64 e), (9, .ptr 0 0), (35, .int .i64 (s : Nat)), (36, .int .i64 (s : Nat))]) [⟨[.bool false, .sl (enc (words N)) 1 c], 0, false, false⟩]) = R) :
    ∀ (k j : Nat) (n z : Int) (c : Bool), z = j → j + k = s → 1 ≤ n → pow2 k n = N → ans (loopL lore 37 a (Sl 54 .wild [(0, .int .i64 (s : Nat)), (6, .int .i64 e), (9, .ptr 0 0), (35, .int .i64 (s : Nat)), (36, .int .i64 z)]) [⟨[.bool false, .sl (enc (words n)) 1 c], 0, false, false⟩] K) = R := by
  have hk := loop_key ha
  simp only [loopIn, Try.func37, Try.f37, loopAt, Option.bind_some, codeKey, if_true, Option.some.injEq, Nat.reduceEqDiff, if_false] at ha
  intro k
  induction k with
  | zero =>
    intro j n z c hz hj hn hk2
    rw [pow2] at hk2
    obtain rfl : j = s := by omega
    subst hz hk2
    rw [loopL_step' ha]
    repeat' (first | (refine cond_by (F := ans) (fun _ => ?_) (fun _ => ?_)) | (refine wayK_by (F := ans) (fun _ hb_ => ?_) (fun _ hb_ => ?_) <;> simp only [hb_]) | (refine wayK_byN (F := ans) (fun _ hb_ => ?_) (fun _ hb_ => ?_) <;> simp only [hb_]) | (refine wayD_by (F := ans) (fun _ hb_ => ?_) (fun _ hb_ => ?_) <;> simp only [hb_]) | (refine wayD_byN (F := ans) (fun _ hb_ => ?_) (fun _ hb_ => ?_) <;> simp only [hb_]) | (refine rdK_by (F := ans) (fun _ => ?_) (fun _ => ?_)) | (refine effK_by (F := ans) (fun _ => ?_) (fun _ => ?_)) | (refine effK_by2 (F := ans) (fun _ => ?_) (fun _ => ?_)) | (refine rdD_by (F := ans) (fun _ => ?_) (fun _ => ?_)) | (refine effD_by (F := ans) (fun _ => ?_) (fun _ => ?_)) | (refine effD_by2 (F := ans) (fun _ => ?_) (fun _ => ?_)) | simp -implicitDefEqProofs (disch := first | omega | (simp only [List.length_append, List.length_cons, List.length_nil, List.length_drop, List.length_take]; omega)) only [evs, tys, lors, Nat.reduceAdd, Nat.reduceSub, Nat.reduceMul, Nat.reducePow, Nat.reduceBEq, Nat.reduceLT, Nat.reduceLeDiff, Nat.reduceEqDiff, Int.reduceLT, Int.reduceLE, Int.reduceEq, Int.reduceNe, Int.reduceToNat, Int.reduceAdd, Int.reduceSub, Int.reduceMul, Int.reducePow, Int.reduceDiv, Int.reduceMod, Int.reduceNeg, reduceCtorEq, codeKey, List.contains, List.elem, Ev.load, peek, pack, storeV, fieldAddr, field, cvB, hk])
    · exfalso; omega
    · exact hR c
  | succ k ih =>
    intro j n z c hz hj hn hk2
    have hle := pow2_le (k + 1) n hn
    have hl := words_len_big (n := n) (by omega) (by omega)
    have hm := fun H => mul_cv n n (by omega) (by omega) c c (by omega) (by omega) H
    rw [loopL_step' ha]
    repeat' (first | (refine cond_by (F := ans) (fun _ => ?_) (fun _ => ?_)) | (refine wayK_by (F := ans) (fun _ hb_ => ?_) (fun _ hb_ => ?_) <;> simp only [hb_]) | (refine wayK_byN (F := ans) (fun _ hb_ => ?_) (fun _ hb_ => ?_) <;> simp only [hb_]) | (refine wayD_by (F := ans) (fun _ hb_ => ?_) (fun _ hb_ => ?_) <;> simp only [hb_]) | (refine wayD_byN (F := ans) (fun _ hb_ => ?_) (fun _ hb_ => ?_) <;> simp only [hb_]) | (refine rdK_by (F := ans) (fun _ => ?_) (fun _ => ?_)) | (refine effK_by (F := ans) (fun _ => ?_) (fun _ => ?_)) | (refine effK_by2 (F := ans) (fun _ => ?_) (fun _ => ?_)) | (refine rdD_by (F := ans) (fun _ => ?_) (fun _ => ?_)) | (refine effD_by (F := ans) (fun _ => ?_) (fun _ => ?_)) | (refine effD_by2 (F := ans) (fun _ => ?_) (fun _ => ?_)) | simp -implicitDefEqProofs (disch := first | omega | (simp only [List.length_append, List.length_cons, List.length_nil, List.length_drop, List.length_take]; omega)) only [evs, tys, lors, Nat.reduceAdd, Nat.reduceSub, Nat.reduceMul, Nat.reducePow, Nat.reduceBEq, Nat.reduceLT, Nat.reduceLeDiff, Nat.reduceEqDiff, Int.reduceLT, Int.reduceLE, Int.reduceEq, Int.reduceNe, Int.reduceToNat, Int.reduceAdd, Int.reduceSub, Int.reduceMul, Int.reducePow, Int.reduceDiv, Int.reduceMod, Int.reduceNeg, reduceCtorEq, codeKey, List.contains, List.elem, Ev.load, peek, pack, storeV, fieldAddr, field, cvB, hk, hm])
    · exact ih (j + 1) (n * n) (z + 1) false (by omega) (by omega) (by have := Int.mul_le_mul_of_nonneg_left hn (show 0 ≤ n by omega); omega) hk2
    · exfalso; omega
theorem shr_any {a : Int} {b : Nat} (hb : b ≤ 64) : shrI .i64 a b = a / 2 ^ b := by
  have e : IntKind.i64.bits = 64 := rfl
  simp only [shrI, e, Nat.min_eq_left hb]
  exact Int.fdiv_eq_ediv_of_nonneg _ (Int.le_of_lt (Int.pow_pos (by decide)))
theorem chkB_bit {b : Bool} {p : Prop} {k : Res} (h : b = true) : chkB b p k = k := by subst h; unfold chkB; rfl
/-- The bucket of a float above nought. -/
def placeF (s : Int) (b : Nat) : Int := if s ≤ 0 then -((-(expo b + (if mant b = 4503599627370496 then 0 else 1))) / 2 ^ (-s).toNat) else expo b * 2 ^ s.toNat + (bl ((mant b : Int) ^ 2 ^ s.toNat - 1) : Nat) - 52 * 2 ^ s.toNat
theorem conv_m {r : Nat} (h : r < 4503599627370496) : conv Try.prog 37 46 (.fl .f64 (4841369599423283200 + r)) = some (.int .u64 ((4503599627370496 + r : Nat) : Int)) := by
  have h1 := toInt_m h
  simp only [conv, Try.underlying37, Try.underlying46]
  have h2 : (FloatKind.f64.decode (4841369599423283200 + r)).toInt .zero = some ((4503599627370496 + r : Nat) : Int) := h1
  rw [h2]
  simp only
  have e1 : IntKind.u64.min = 0 := by decide
  have e2 : IntKind.u64.max = 18446744073709551615 := by decide
  rw [e1, e2, if_pos (by omega)]
theorem place_f_cv (s : Int) (hs : -4 ≤ s ∧ s ≤ 8) (b : Nat) (h0 : 0 < b) (h1 : b < 9218868437227405312) (H : Heap) : callV (CL lore) 37 [.int .i64 s, .fl .f64 b] H = some (.int .i64 (placeF s b), H) := by
  refine callV_ans (r := some _) ?_ lore_sh37 rfl H
  rw [call_start lore_ext37 Try.func37 rfl lore_okf37 (Nat.le_of_ble_eq_true rfl)]
  obtain ⟨m0, m1, e0, e1⟩ := mant_facts h0 h1
  have hf := frexp_cv b h0 h1
  have hr : nb b % 4503599627370496 < 4503599627370496 := Nat.mod_lt _ (by decide)
  have he : ((nb b / 4503599627370496 : Nat) : Int) - 1022 + neZ b = expo b + 1 := by unfold expo; omega
  rw [he] at hf
  have hd := fun H => ldexp_cv (4602678819172646912 + nb b % 4503599627370496) 53 (by omega) (by omega) (by omega) (by omega) H
  have hd1 : ((53 : Int) + ((4602678819172646912 + nb b % 4503599627370496) / 4503599627370496 : Nat)).toNat * 4503599627370496 + (4602678819172646912 + nb b % 4503599627370496) % 4503599627370496 = 4841369599423283200 + nb b % 4503599627370496 := by omega
  rw [hd1] at hd
  have hc := conv_m hr
  have hm : 4503599627370496 + nb b % 4503599627370496 = mant b := rfl
  rw [hm] at hc
  unfold placeF
  generalize mant b = m at *
  generalize expo b = e at *
  generalize nb b % 4503599627370496 = r at *
  by_cases hs0 : s ≤ 0
  · rw [if_pos hs0]
    have hs5 : s = 0 ∨ s = -1 ∨ s = -2 ∨ s = -3 ∨ s = -4 := by omega
    by_cases hmm : m = 4503599627370496
    · rw [if_pos hmm]
      rcases hs5 with rfl | rfl | rfl | rfl | rfl
      all_goals simp only [Int.neg_neg, Int.neg_zero, Int.reduceNeg, Int.reduceToNat, Int.reducePow]
      all_goals repeat' (first | (refine cond_by (F := ans) (fun _ => ?_) (fun _ => ?_)) | (refine wayK_by (F := ans) (fun _ hb_ => ?_) (fun _ hb_ => ?_) <;> simp only [hb_]) | (refine wayK_byN (F := ans) (fun _ hb_ => ?_) (fun _ hb_ => ?_) <;> simp only [hb_]) | (refine wayD_by (F := ans) (fun _ hb_ => ?_) (fun _ hb_ => ?_) <;> simp only [hb_]) | (refine wayD_byN (F := ans) (fun _ hb_ => ?_) (fun _ hb_ => ?_) <;> simp only [hb_]) | (refine rdK_by (F := ans) (fun _ => ?_) (fun _ => ?_)) | (refine effK_by (F := ans) (fun _ => ?_) (fun _ => ?_)) | (refine effK_by2 (F := ans) (fun _ => ?_) (fun _ => ?_)) | (refine rdD_by (F := ans) (fun _ => ?_) (fun _ => ?_)) | (refine effD_by (F := ans) (fun _ => ?_) (fun _ => ?_)) | (refine effD_by2 (F := ans) (fun _ => ?_) (fun _ => ?_)) | simp -implicitDefEqProofs (disch := first | omega | (simp only [List.length_append, List.length_cons, List.length_nil, List.length_drop, List.length_take]; omega)) only [evs, tys, lors, Nat.reduceAdd, Nat.reduceSub, Nat.reduceMul, Nat.reducePow, Nat.reduceBEq, Nat.reduceLT, Nat.reduceLeDiff, Nat.reduceEqDiff, Int.reduceLT, Int.reduceLE, Int.reduceEq, Int.reduceNe, Int.reduceToNat, Int.reduceAdd, Int.reduceSub, Int.reduceMul, Int.reducePow, Int.reduceDiv, Int.reduceMod, Int.reduceNeg, reduceCtorEq, codeKey, List.contains, List.elem, Ev.load, peek, pack, storeV, fieldAddr, field, cvB, b_fl, hf, hd, hc, convO, shr_any, Int.neg_neg])
      all_goals first
        | (exfalso; omega)
        | (refine congrArg some (congrArg (V.int .i64) ?_); omega)
    · rw [if_neg hmm]
      rcases hs5 with rfl | rfl | rfl | rfl | rfl
      all_goals simp only [Int.neg_neg, Int.neg_zero, Int.reduceNeg, Int.reduceToNat, Int.reducePow]
      all_goals repeat' (first | (refine cond_by (F := ans) (fun _ => ?_) (fun _ => ?_)) | (refine wayK_by (F := ans) (fun _ hb_ => ?_) (fun _ hb_ => ?_) <;> simp only [hb_]) | (refine wayK_byN (F := ans) (fun _ hb_ => ?_) (fun _ hb_ => ?_) <;> simp only [hb_]) | (refine wayD_by (F := ans) (fun _ hb_ => ?_) (fun _ hb_ => ?_) <;> simp only [hb_]) | (refine wayD_byN (F := ans) (fun _ hb_ => ?_) (fun _ hb_ => ?_) <;> simp only [hb_]) | (refine rdK_by (F := ans) (fun _ => ?_) (fun _ => ?_)) | (refine effK_by (F := ans) (fun _ => ?_) (fun _ => ?_)) | (refine effK_by2 (F := ans) (fun _ => ?_) (fun _ => ?_)) | (refine rdD_by (F := ans) (fun _ => ?_) (fun _ => ?_)) | (refine effD_by (F := ans) (fun _ => ?_) (fun _ => ?_)) | (refine effD_by2 (F := ans) (fun _ => ?_) (fun _ => ?_)) | simp -implicitDefEqProofs (disch := first | omega | (simp only [List.length_append, List.length_cons, List.length_nil, List.length_drop, List.length_take]; omega)) only [evs, tys, lors, Nat.reduceAdd, Nat.reduceSub, Nat.reduceMul, Nat.reducePow, Nat.reduceBEq, Nat.reduceLT, Nat.reduceLeDiff, Nat.reduceEqDiff, Int.reduceLT, Int.reduceLE, Int.reduceEq, Int.reduceNe, Int.reduceToNat, Int.reduceAdd, Int.reduceSub, Int.reduceMul, Int.reducePow, Int.reduceDiv, Int.reduceMod, Int.reduceNeg, reduceCtorEq, codeKey, List.contains, List.elem, Ev.load, peek, pack, storeV, fieldAddr, field, cvB, b_fl, hf, hd, hc, convO, shr_any, Int.neg_neg])
      all_goals first
        | (exfalso; omega)
        | (refine congrArg some (congrArg (V.int .i64) ?_); omega)
  · rw [if_neg hs0]
    obtain ⟨n, rfl⟩ : ∃ n : Nat, s = (n : Int) := ⟨s.toNat, by omega⟩
    rw [Int.toNat_natCast]
    have ho := of2_cv m (by omega) (by omega)
    have ho1 := of_cv 1 (by decide)
    have hn8 : n ≤ 8 := by omega
    have hk : 2 ^ n ≤ 256 := by
      have := Nat.pow_le_pow_right (show 0 < 2 by decide) hn8
      omega
    have hk0 := Nat.two_pow_pos n
    have hN : ((m : Int) ^ 2 ^ n) < BIG := pow_gen 1000 (by omega) (by omega)
    have hle := pow2_le n m (by omega)
    rw [pow2_eq] at hle
    have hl1 := words_len_big (n := (m : Int) ^ 2 ^ n) (by omega) hN
    have hl2 := words_len_big (n := (m : Int) ^ 2 ^ n - 1) (by omega) (by omega)
    have hsub := fun c1 c2 H => sub1_cv ((m : Int) ^ 2 ^ n) (by omega) (by omega) c1 c2 H
    have hlen := fun b c H => len_cv ((m : Int) ^ 2 ^ n - 1) (by omega) (by omega) b c H
    have hpe := pow2_eq n m
    have hbl : bl ((m : Int) ^ 2 ^ n - 1) ≤ 64000 := by
      obtain ⟨b1, b2, _⟩ := bl_facts (n := (m : Int) ^ 2 ^ n - 1) (by omega)
      rcases Nat.lt_or_ge (bl ((m : Int) ^ 2 ^ n - 1) - 1) 64000 with h | h
      · omega
      · have c1 := pow_le h
        have c2 : (2 : Int) ^ 64000 = BIG := by
          unfold BIG
          rw [← p264, ← Int.pow_mul]
        rw [c2] at c1
        omega
    have hkz : (2 : Int) ^ n = ((2 ^ n : Nat) : Int) := by push_cast; rfl
    have hs1 : -1074 * 256 ≤ e * 2 ^ n ∧ e * 2 ^ n ≤ 1023 * 256 := by
      rw [hkz]
      generalize 2 ^ n = k at *
      rcases Int.lt_or_le e 0 with h | h
      · have a1 := Int.mul_le_mul_of_nonneg_right e0 (show (0 : Int) ≤ k by omega)
        have a2 := Int.mul_le_mul_of_nonneg_right (show e ≤ 0 by omega) (show (0 : Int) ≤ k by omega)
        omega
      · have a1 := Int.mul_le_mul_of_nonneg_right e1 (show (0 : Int) ≤ k by omega)
        have a2 := Int.mul_nonneg h (show (0 : Int) ≤ k by omega)
        omega
    have hs2 : 0 ≤ 52 * (2 : Int) ^ n ∧ 52 * (2 : Int) ^ n ≤ 52 * 256 := by rw [hkz]; omega
    have he1 : e + 1 - 1 = e := by omega
    generalize hNe : (m : Int) ^ 2 ^ n = N at *
    have hn0 : ¬ (n : Int) ≤ 0 := hs0
    repeat' (first | (refine cond_by (F := ans) (fun _ => ?_) (fun _ => ?_)) | (refine wayK_by (F := ans) (fun _ hb_ => ?_) (fun _ hb_ => ?_) <;> simp only [hb_]) | (refine wayK_byN (F := ans) (fun _ hb_ => ?_) (fun _ hb_ => ?_) <;> simp only [hb_]) | (refine wayD_by (F := ans) (fun _ hb_ => ?_) (fun _ hb_ => ?_) <;> simp only [hb_]) | (refine wayD_byN (F := ans) (fun _ hb_ => ?_) (fun _ hb_ => ?_) <;> simp only [hb_]) | (refine rdK_by (F := ans) (fun _ => ?_) (fun _ => ?_)) | (refine effK_by (F := ans) (fun _ => ?_) (fun _ => ?_)) | (refine effK_by2 (F := ans) (fun _ => ?_) (fun _ => ?_)) | (refine rdD_by (F := ans) (fun _ => ?_) (fun _ => ?_)) | (refine effD_by (F := ans) (fun _ => ?_) (fun _ => ?_)) | (refine effD_by2 (F := ans) (fun _ => ?_) (fun _ => ?_)) | simp -implicitDefEqProofs (disch := first | omega | (simp only [List.length_append, List.length_cons, List.length_nil, List.length_drop, List.length_take]; omega)) only [evs, tys, lors, Nat.reduceAdd, Nat.reduceSub, Nat.reduceMul, Nat.reducePow, Nat.reduceBEq, Nat.reduceLT, Nat.reduceLeDiff, Nat.reduceEqDiff, Int.reduceLT, Int.reduceLE, Int.reduceEq, Int.reduceNe, Int.reduceToNat, Int.reduceAdd, Int.reduceSub, Int.reduceMul, Int.reducePow, Int.reduceDiv, Int.reduceMod, Int.reduceNeg, reduceCtorEq, codeKey, List.contains, List.elem, Ev.load, peek, pack, storeV, fieldAddr, field, cvB, b_fl, hf, hd, hc, ho, he1, hn0, decide_false, convO])
    · refine loop37 n hn8 e N hN _ _ _ (by rfl) ?_ n 0 m 0 true rfl (by omega) (by omega) hpe
      intro c
      generalize bl (N - 1) = L at *
      repeat' (first | (refine cond_by (F := ans) (fun _ => ?_) (fun _ => ?_)) | (refine wayK_by (F := ans) (fun _ hb_ => ?_) (fun _ hb_ => ?_) <;> simp only [hb_]) | (refine wayK_byN (F := ans) (fun _ hb_ => ?_) (fun _ hb_ => ?_) <;> simp only [hb_]) | (refine wayD_by (F := ans) (fun _ hb_ => ?_) (fun _ hb_ => ?_) <;> simp only [hb_]) | (refine wayD_byN (F := ans) (fun _ hb_ => ?_) (fun _ hb_ => ?_) <;> simp only [hb_]) | (refine rdK_by (F := ans) (fun _ => ?_) (fun _ => ?_)) | (refine effK_by (F := ans) (fun _ => ?_) (fun _ => ?_)) | (refine effK_by2 (F := ans) (fun _ => ?_) (fun _ => ?_)) | (refine rdD_by (F := ans) (fun _ => ?_) (fun _ => ?_)) | (refine effD_by (F := ans) (fun _ => ?_) (fun _ => ?_)) | (refine effD_by2 (F := ans) (fun _ => ?_) (fun _ => ?_)) | simp -implicitDefEqProofs (disch := first | omega | (simp only [List.length_append, List.length_cons, List.length_nil, List.length_drop, List.length_take]; omega)) only [evs, tys, lors, Nat.reduceAdd, Nat.reduceSub, Nat.reduceMul, Nat.reducePow, Nat.reduceBEq, Nat.reduceLT, Nat.reduceLeDiff, Nat.reduceEqDiff, Int.reduceLT, Int.reduceLE, Int.reduceEq, Int.reduceNe, Int.reduceToNat, Int.reduceAdd, Int.reduceSub, Int.reduceMul, Int.reducePow, Int.reduceDiv, Int.reduceMod, Int.reduceNeg, reduceCtorEq, codeKey, List.contains, List.elem, Ev.load, peek, pack, storeV, fieldAddr, field, cvB, ho1, hsub, hlen, shl_i64])
      all_goals (rw [chkB_bit (by kernel_rfl)]; rfl)
end Go.Proofs.Ytacnpljkcpomnaa
