/-
The document's index of any float above nought. The document's Exp and Ends; Coarser of both; the greatest float up to a bucket's end.
-/
import Derived.Test.YtacnpljkcpomnaaF7
namespace Go.Proofs.Ytacnpljkcpomnaa
open Go Ev
set_option linter.all false
set_option maxHeartbeats 4000000
set_option maxRecDepth 5000
attribute [local irreducible] codeL condL loopL callL callV evOps evDraw rdK effK wayK oneK wayD oneD rdD effD chks chkB res


theorem tdiv_neg {a b : Int} (h : a < 0) : a.tdiv b = -((-a) / b) := by
  rw [← Int.neg_neg (a.tdiv b), ← Int.neg_tdiv, Int.tdiv_eq_ediv_of_nonneg (by omega)]
theorem ceil_cv (a b : Int) (ha : -1000000 ≤ a ∧ a ≤ 1000000) (hb : b = 1 ∨ b = 2 ∨ b = 4 ∨ b = 8 ∨ b = 16) (H : Heap) : callV (CL lore) 54 [.int .i64 a, .int .i64 b] H = some (.int .i64 (-((-a) / b)), H) := by
  refine callV_ans (r := some _) ?_ lore_sh54 rfl H
  rw [call_start lore_ext54 Try.func54 rfl lore_okf54 (Nat.le_of_ble_eq_true rfl)]
  have fin : ∀ {x y : Int}, x = y → some (V.int .i64 x) = some (V.int .i64 y) := fun h => by rw [h]
  rcases Int.lt_or_le a 0 with h | h
  · have ht := fun b => tdiv_neg (b := b) h
    rcases hb with rfl | rfl | rfl | rfl | rfl
    all_goals
      repeat' (first | (refine cond_by (F := ans) (fun _ => ?_) (fun _ => ?_)) | (refine wayK_by (F := ans) (fun _ hb_ => ?_) (fun _ hb_ => ?_) <;> simp only [hb_]) | (refine wayK_byN (F := ans) (fun _ hb_ => ?_) (fun _ hb_ => ?_) <;> simp only [hb_]) | (refine wayD_by (F := ans) (fun _ hb_ => ?_) (fun _ hb_ => ?_) <;> simp only [hb_]) | (refine wayD_byN (F := ans) (fun _ hb_ => ?_) (fun _ hb_ => ?_) <;> simp only [hb_]) | (refine rdK_by (F := ans) (fun _ => ?_) (fun _ => ?_)) | (refine effK_by (F := ans) (fun _ => ?_) (fun _ => ?_)) | (refine effK_by2 (F := ans) (fun _ => ?_) (fun _ => ?_)) | (refine rdD_by (F := ans) (fun _ => ?_) (fun _ => ?_)) | (refine effD_by (F := ans) (fun _ => ?_) (fun _ => ?_)) | (refine effD_by2 (F := ans) (fun _ => ?_) (fun _ => ?_)) | simp -implicitDefEqProofs (disch := first | omega | (simp only [List.length_append, List.length_cons, List.length_nil, List.length_drop, List.length_take]; omega)) only [evs, tys, lors, Nat.reduceAdd, Nat.reduceSub, Nat.reduceMul, Nat.reducePow, Nat.reduceBEq, Nat.reduceLT, Nat.reduceLeDiff, Nat.reduceEqDiff, Int.reduceLT, Int.reduceLE, Int.reduceEq, Int.reduceNe, Int.reduceToNat, Int.reduceAdd, Int.reduceSub, Int.reduceMul, Int.reducePow, Int.reduceDiv, Int.reduceMod, Int.reduceNeg, reduceCtorEq, codeKey, List.contains, List.elem, Ev.load, peek, pack, storeV, fieldAddr, field, cvB, ht])
      all_goals first | (exfalso; omega) | (refine fin ?_; omega)
  · rcases hb with rfl | rfl | rfl | rfl | rfl
    all_goals
      repeat' (first | (refine cond_by (F := ans) (fun _ => ?_) (fun _ => ?_)) | (refine wayK_by (F := ans) (fun _ hb_ => ?_) (fun _ hb_ => ?_) <;> simp only [hb_]) | (refine wayK_byN (F := ans) (fun _ hb_ => ?_) (fun _ hb_ => ?_) <;> simp only [hb_]) | (refine wayD_by (F := ans) (fun _ hb_ => ?_) (fun _ hb_ => ?_) <;> simp only [hb_]) | (refine wayD_byN (F := ans) (fun _ hb_ => ?_) (fun _ hb_ => ?_) <;> simp only [hb_]) | (refine rdK_by (F := ans) (fun _ => ?_) (fun _ => ?_)) | (refine effK_by (F := ans) (fun _ => ?_) (fun _ => ?_)) | (refine effK_by2 (F := ans) (fun _ => ?_) (fun _ => ?_)) | (refine rdD_by (F := ans) (fun _ => ?_) (fun _ => ?_)) | (refine effD_by (F := ans) (fun _ => ?_) (fun _ => ?_)) | (refine effD_by2 (F := ans) (fun _ => ?_) (fun _ => ?_)) | simp -implicitDefEqProofs (disch := first | omega | (simp only [List.length_append, List.length_cons, List.length_nil, List.length_drop, List.length_take]; omega)) only [evs, tys, lors, Nat.reduceAdd, Nat.reduceSub, Nat.reduceMul, Nat.reducePow, Nat.reduceBEq, Nat.reduceLT, Nat.reduceLeDiff, Nat.reduceEqDiff, Int.reduceLT, Int.reduceLE, Int.reduceEq, Int.reduceNe, Int.reduceToNat, Int.reduceAdd, Int.reduceSub, Int.reduceMul, Int.reducePow, Int.reduceDiv, Int.reduceMod, Int.reduceNeg, reduceCtorEq, codeKey, List.contains, List.elem, Ev.load, peek, pack, storeV, fieldAddr, field, cvB])
      all_goals first | (exfalso; omega) | (refine fin ?_; omega)
theorem bl_odd {x : Int} (h : 1 < x) (ho : x % 2 = 1) : bl (x - 1) = bl x := by
  obtain ⟨b1, b2, b3⟩ := bl_facts (n := x) (by omega)
  have hne : 2 ≤ bl x := by
    rcases Nat.lt_or_ge (bl x) 2 with h' | h'
    · have : bl x = 1 := by omega
      rw [this] at b3
      simp at b3
      omega
    · exact h'
  obtain ⟨k, hk⟩ : ∃ k, bl x = k + 2 := ⟨bl x - 2, by omega⟩
  rw [hk] at b2 b3 ⊢
  rw [show k + 2 - 1 = k + 1 by omega, Int.pow_succ] at b2
  rw [Int.pow_succ, Int.pow_succ] at b3
  exact bl_of (k := k + 1) (by rw [Int.pow_succ]; omega) (by rw [Int.pow_succ, Int.pow_succ]; omega)
theorem odd_pow {q : Int} (h : q % 2 = 1) : ∀ k : Nat, q ^ k % 2 = 1
  | 0 => by simp
  | k + 1 => by rw [Int.pow_succ, Int.mul_emod, odd_pow h k, h]; rfl
theorem gt_pow {q : Int} (h : 1 < q) : ∀ k : Nat, 1 < q ^ (k + 1)
  | 0 => by simp only [Int.pow_succ, Int.pow_zero, Int.one_mul]; exact h
  | k + 1 => by
    have ih := gt_pow h k
    rw [Int.pow_succ]
    have := Int.mul_le_mul (show 1 ≤ q ^ (k + 1) by omega) (show 2 ≤ q by omega) (by decide) (by omega)
    omega
theorem cl_odd {q : Int} (h : 0 < q) (ho : q % 2 = 1) : cl q = if q = 1 then 0 else bl q := by
  split
  · rename_i h1
    rw [h1]
    rfl
  · exact bl_odd (by omega) ho
theorem place_odd (s : Int) {b q k : Nat} (h0 : 0 < b) (h1 : b < 9218868437227405312) (hq : q % 2 = 1) (hm : mR b = q * 2 ^ k) :
    placeF s b = if s ≤ 0 then -((-(((sR b : Int) + k - 1074) + (cl (q : Int) : Int))) / 2 ^ (-s).toNat) else ((sR b : Int) + k - 1074) * 2 ^ s.toNat + (cl ((q : Int) ^ 2 ^ s.toNat) : Int) := by
  rw [placeF_eq s h0 h1]
  have hV : (VF b : Int) = (q : Int) * 2 ^ (k + sR b) := by
    unfold VF
    rw [hm, Nat.mul_assoc, ← Nat.pow_add, Int.natCast_mul, Int.natCast_pow]
    rfl
  have hq1 : 1 ≤ (q : Int) := by omega
  unfold placeV
  by_cases hs : s ≤ 0
  · rw [if_pos hs, if_pos hs, hV, cl_mul hq1]
    have e : ((cl (q : Int) + (k + sR b) : Nat) : Int) - 1074 = ((sR b : Int) + k - 1074) + (cl (q : Int) : Int) := by omega
    rw [e]
  · rw [if_neg hs, if_neg hs, hV]
    generalize s.toNat = n
    rw [Int.mul_pow, ← Int.pow_mul, cl_mul (one_le_powz hq1 _)]
    have e1 : (2 : Int) ^ n = ((2 ^ n : Nat) : Int) := by rw [Int.natCast_pow]; rfl
    rw [e1]
    generalize 2 ^ n = N
    have e2 : (((k + sR b) * N : Nat) : Int) = ((k : Int) + sR b) * N := by rw [Int.natCast_mul, Int.natCast_add]
    rw [Int.natCast_add, e2]
    generalize (cl ((q : Int) ^ N) : Int) = C
    generalize (sR b : Int) = S
    generalize (k : Int) = k
    generalize (N : Int) = N
    grind
theorem loop39 (s : Nat) (hs : s ≤ 8) (q : V) (E N : Int) (K : Kont) (R : Option V) (a : Code) (ha : loopIn Try.prog 39 14 = some a)
    (hR : ∀ (c : Bool) (n : Nat), n ≤ 100000 → 0 ≤ N → N < 4294967296 ^ n → ans (K (.exit 2) (Sl 63 .wild [(0, .int .i64 (s : Nat)), (5, q), (6, .int .i64 E), (10, .sl (enc32 (digs 4294967296 n N)) 1 c), (11, .int .i64 (s : Nat))]) []) = R) :
    ∀ (k j n : Nat) (M e z : Int) (c : Bool), z = j → j + k = s → 0 ≤ M → M < 4294967296 ^ n → n * 2 ^ k ≤ 100000 → pow2 k M = N → e * 2 ^ k = E → (-1074 * 2 ^ j ≤ e ∧ e ≤ 1074 * 2 ^ j) → ans (loopL lore 39 a (Sl 63 .wild [(0, .int .i64 (s : Nat)), (5, q), (6, .int .i64 e), (10, .sl (enc32 (digs 4294967296 n M)) 1 c), (11, .int .i64 z)]) [] K) = R := by
  have hk := loop_key ha
  simp only [loopIn, Try.func39, Try.f39, loopAt, Option.bind_some, codeKey, if_true, Option.some.injEq, Nat.reduceEqDiff, if_false] at ha
  intro k
  induction k with
  | zero =>
    intro j n M e z c hz hj h0 h1 hn hM he hb
    rw [pow2] at hM
    rw [Int.pow_zero, Int.mul_one] at he
    obtain rfl : j = s := by omega
    subst hz hM he
    rw [loopL_step' ha]
    repeat' (first | (refine cond_by (F := ans) (fun _ => ?_) (fun _ => ?_)) | (refine wayK_by (F := ans) (fun _ hb_ => ?_) (fun _ hb_ => ?_) <;> simp only [hb_]) | (refine wayK_byN (F := ans) (fun _ hb_ => ?_) (fun _ hb_ => ?_) <;> simp only [hb_]) | (refine wayD_by (F := ans) (fun _ hb_ => ?_) (fun _ hb_ => ?_) <;> simp only [hb_]) | (refine wayD_byN (F := ans) (fun _ hb_ => ?_) (fun _ hb_ => ?_) <;> simp only [hb_]) | (refine rdK_by (F := ans) (fun _ => ?_) (fun _ => ?_)) | (refine effK_by (F := ans) (fun _ => ?_) (fun _ => ?_)) | (refine effK_by2 (F := ans) (fun _ => ?_) (fun _ => ?_)) | (refine rdD_by (F := ans) (fun _ => ?_) (fun _ => ?_)) | (refine effD_by (F := ans) (fun _ => ?_) (fun _ => ?_)) | (refine effD_by2 (F := ans) (fun _ => ?_) (fun _ => ?_)) | simp -implicitDefEqProofs (disch := first | omega | (simp only [List.length_append, List.length_cons, List.length_nil, List.length_drop, List.length_take]; omega)) only [evs, tys, lors, Nat.reduceAdd, Nat.reduceSub, Nat.reduceMul, Nat.reducePow, Nat.reduceBEq, Nat.reduceLT, Nat.reduceLeDiff, Nat.reduceEqDiff, Int.reduceLT, Int.reduceLE, Int.reduceEq, Int.reduceNe, Int.reduceToNat, Int.reduceAdd, Int.reduceSub, Int.reduceMul, Int.reducePow, Int.reduceDiv, Int.reduceMod, Int.reduceNeg, reduceCtorEq, codeKey, List.contains, List.elem, Ev.load, peek, pack, storeV, fieldAddr, field, cvB, hk])
    · exfalso; omega
    · exact hR c n (by omega) h0 h1
  | succ k ih =>
    intro j n M e z c hz hj h0 h1 hn hM he hb
    have hp := Nat.two_pow_pos k
    rw [Nat.pow_succ] at hn
    have hnn : n ≤ 100000 := by
      have := Nat.le_mul_of_pos_right n (show 0 < 2 ^ k * 2 by omega)
      omega
    have hv := digs_wv (B := 4294967296) (by decide) n M h0 h1
    have hl := digs_len 4294967296 n M
    have hsq := fun H => squared_cv (digs 4294967296 n M) c (digs_us (by decide) n M) (by rw [hl]; exact hnn) H
    rw [hv, hl] at hsq
    have hj8 : (2 : Int) ^ j ≤ 256 := by
      have := powz_le (show j ≤ 8 by omega)
      have e8 : (2 : Int) ^ 8 = 256 := by decide
      omega
    have hj0 := powz_pos j
    rw [loopL_step' ha]
    repeat' (first | (refine cond_by (F := ans) (fun _ => ?_) (fun _ => ?_)) | (refine wayK_by (F := ans) (fun _ hb_ => ?_) (fun _ hb_ => ?_) <;> simp only [hb_]) | (refine wayK_byN (F := ans) (fun _ hb_ => ?_) (fun _ hb_ => ?_) <;> simp only [hb_]) | (refine wayD_by (F := ans) (fun _ hb_ => ?_) (fun _ hb_ => ?_) <;> simp only [hb_]) | (refine wayD_byN (F := ans) (fun _ hb_ => ?_) (fun _ hb_ => ?_) <;> simp only [hb_]) | (refine rdK_by (F := ans) (fun _ => ?_) (fun _ => ?_)) | (refine effK_by (F := ans) (fun _ => ?_) (fun _ => ?_)) | (refine effK_by2 (F := ans) (fun _ => ?_) (fun _ => ?_)) | (refine rdD_by (F := ans) (fun _ => ?_) (fun _ => ?_)) | (refine effD_by (F := ans) (fun _ => ?_) (fun _ => ?_)) | (refine effD_by2 (F := ans) (fun _ => ?_) (fun _ => ?_)) | simp -implicitDefEqProofs (disch := first | omega | (simp only [List.length_append, List.length_cons, List.length_nil, List.length_drop, List.length_take]; omega)) only [evs, tys, lors, Nat.reduceAdd, Nat.reduceSub, Nat.reduceMul, Nat.reducePow, Nat.reduceBEq, Nat.reduceLT, Nat.reduceLeDiff, Nat.reduceEqDiff, Int.reduceLT, Int.reduceLE, Int.reduceEq, Int.reduceNe, Int.reduceToNat, Int.reduceAdd, Int.reduceSub, Int.reduceMul, Int.reducePow, Int.reduceDiv, Int.reduceMod, Int.reduceNeg, reduceCtorEq, codeKey, List.contains, List.elem, Ev.load, peek, pack, storeV, fieldAddr, field, cvB, hk, hsq])
    · refine ih (j + 1) (n + n) (M * M) (2 * e) (z + 1) false (by omega) (by omega) (Int.mul_nonneg h0 h0) ?_ ?_ hM ?_ ?_
      · rw [Int.pow_add]
        have a1 := Int.mul_le_mul_of_nonneg_left (Int.le_of_lt h1) h0
        have a2 := Int.mul_lt_mul_of_pos_right h1 (show 0 < (4294967296 : Int) ^ n by omega)
        omega
      · rw [show (n + n) * 2 ^ k = n * (2 ^ k * 2) by rw [Nat.mul_comm (2 ^ k), ← Nat.mul_assoc, Nat.mul_two]]
        exact hn
      · rw [← he, Int.pow_succ', ← Int.mul_assoc, Int.mul_comm 2 e]
      · rw [Int.pow_succ']
        omega
    · exfalso; omega
theorem index_f_cv (s : Int) (hs : -4 ≤ s ∧ s ≤ 8) (b : Nat) (h0 : 0 < b) (h1 : b < 9218868437227405312) (H : Heap) : callV (CL lore) 39 [.int .i64 s, .fl .f64 b] H = some (.int .i64 (placeF s b), H) := by
  refine callV_ans (r := some _) ?_ lore_sh39 rfl H
  rw [call_start lore_ext39 Try.func39 rfl lore_okf39 (Nat.le_of_ble_eq_true rfl)]
  obtain ⟨m1, m2, m3⟩ := mR_facts b
  have hsR := sR_le h1
  obtain ⟨q, k, hm, hq⟩ := odd_part (mR b) (m3 h0)
  have hk : k ≤ 53 := by
    have a1 : 2 ^ k ≤ q * 2 ^ k := Nat.le_mul_of_pos_left _ (by omega)
    have a2 : 2 ^ k < 2 ^ 53 := by omega
    have := pow_lt_of a2
    omega
  have hq53 : q < 9007199254740992 := by
    have a1 : q ≤ q * 2 ^ k := Nat.le_mul_of_pos_right _ (Nat.two_pow_pos k)
    omega
  have hpt := parts_cv b q k h0 h1 hq hm hk
  rw [place_odd s h0 h1 hq hm]
  have hclq := cl_odd (q := (q : Int)) (by omega) (by omega)
  have hd2 : enc32 (digs 4294967296 2 (q : Int)) = [.int .u32 ((q : Int) % 4294967296), .int .u32 ((q : Int) / 4294967296)] := by
    have e : (q : Int) / 4294967296 % 4294967296 = (q : Int) / 4294967296 := by omega
    simp only [digs, enc32, List.map_cons, List.map_nil, e]
  have hv2 := digs_wv (B := 4294967296) (by decide) 2 (q : Int) (by omega) (by
    have : (4294967296 : Int) ^ 2 = 18446744073709551616 := by decide
    omega)
  have hbits := fun H => bits32_cv (digs 4294967296 2 (q : Int)) true (digs_us (by decide) _ _) (by rw [digs_len]; decide) H
  rw [hd2, hv2] at hbits
  have hblq : bl (q : Int) ≤ 53 := by
    obtain ⟨b1, b2, b3⟩ := bl_facts (n := (q : Int)) (by omega)
    have a2 : (2 : Int) ^ (bl (q : Int) - 1) < 2 ^ 53 := by
      have : (2 : Int) ^ 53 = 9007199254740992 := by decide
      omega
    have := powz_lt a2
    omega
  generalize he0 : (sR b : Int) + k - 1074 = e0 at *
  have he0b : -1074 ≤ e0 ∧ e0 ≤ 1024 := by omega
  by_cases hs0 : s ≤ 0
  · rw [if_pos hs0]
    have hs5 : s = 0 ∨ s = -1 ∨ s = -2 ∨ s = -3 ∨ s = -4 := by omega
    by_cases hq1 : q = 1
    · rw [if_pos (by omega)] at hclq
      rw [hclq]
      have hq1z : ¬ (1 : Int) < (q : Int) := by omega
      have c1 := fun H => ceil_cv e0 1 (by omega) (by decide) H
      have c2 := fun H => ceil_cv e0 2 (by omega) (by decide) H
      have c4 := fun H => ceil_cv e0 4 (by omega) (by decide) H
      have c8 := fun H => ceil_cv e0 8 (by omega) (by decide) H
      have c16 := fun H => ceil_cv e0 16 (by omega) (by decide) H
      rcases hs5 with rfl | rfl | rfl | rfl | rfl
      all_goals simp only [Int.neg_neg, Int.neg_zero, Int.reduceNeg, Int.reduceToNat, Int.reducePow, Int.natCast_zero, Int.add_zero]
      all_goals repeat' (first | (refine cond_by (F := ans) (fun _ => ?_) (fun _ => ?_)) | (refine wayK_by (F := ans) (fun _ hb_ => ?_) (fun _ hb_ => ?_) <;> simp only [hb_]) | (refine wayK_byN (F := ans) (fun _ hb_ => ?_) (fun _ hb_ => ?_) <;> simp only [hb_]) | (refine wayD_by (F := ans) (fun _ hb_ => ?_) (fun _ hb_ => ?_) <;> simp only [hb_]) | (refine wayD_byN (F := ans) (fun _ hb_ => ?_) (fun _ hb_ => ?_) <;> simp only [hb_]) | (refine rdK_by (F := ans) (fun _ => ?_) (fun _ => ?_)) | (refine effK_by (F := ans) (fun _ => ?_) (fun _ => ?_)) | (refine effK_by2 (F := ans) (fun _ => ?_) (fun _ => ?_)) | (refine rdD_by (F := ans) (fun _ => ?_) (fun _ => ?_)) | (refine effD_by (F := ans) (fun _ => ?_) (fun _ => ?_)) | (refine effD_by2 (F := ans) (fun _ => ?_) (fun _ => ?_)) | simp -implicitDefEqProofs (disch := first | omega | (simp only [List.length_append, List.length_cons, List.length_nil, List.length_drop, List.length_take]; omega)) only [evs, tys, lors, Nat.reduceAdd, Nat.reduceSub, Nat.reduceMul, Nat.reducePow, Nat.reduceBEq, Nat.reduceLT, Nat.reduceLeDiff, Nat.reduceEqDiff, Int.reduceLT, Int.reduceLE, Int.reduceEq, Int.reduceNe, Int.reduceToNat, Int.reduceAdd, Int.reduceSub, Int.reduceMul, Int.reducePow, Int.reduceDiv, Int.reduceMod, Int.reduceNeg, reduceCtorEq, codeKey, List.contains, List.elem, Ev.load, peek, pack, storeV, fieldAddr, field, cvB, w64, hpt, hq1z, c1, c2, c4, c8, c16, decide_false, decide_true])
      all_goals repeat (rw [loopL_step' rfl]; repeat' (first | (refine cond_by (F := ans) (fun _ => ?_) (fun _ => ?_)) | (refine wayK_by (F := ans) (fun _ hb_ => ?_) (fun _ hb_ => ?_) <;> simp only [hb_]) | (refine wayK_byN (F := ans) (fun _ hb_ => ?_) (fun _ hb_ => ?_) <;> simp only [hb_]) | (refine wayD_by (F := ans) (fun _ hb_ => ?_) (fun _ hb_ => ?_) <;> simp only [hb_]) | (refine wayD_byN (F := ans) (fun _ hb_ => ?_) (fun _ hb_ => ?_) <;> simp only [hb_]) | (refine rdK_by (F := ans) (fun _ => ?_) (fun _ => ?_)) | (refine effK_by (F := ans) (fun _ => ?_) (fun _ => ?_)) | (refine effK_by2 (F := ans) (fun _ => ?_) (fun _ => ?_)) | (refine rdD_by (F := ans) (fun _ => ?_) (fun _ => ?_)) | (refine effD_by (F := ans) (fun _ => ?_) (fun _ => ?_)) | (refine effD_by2 (F := ans) (fun _ => ?_) (fun _ => ?_)) | simp -implicitDefEqProofs (disch := first | omega | (simp only [List.length_append, List.length_cons, List.length_nil, List.length_drop, List.length_take]; omega)) only [evs, tys, lors, Nat.reduceAdd, Nat.reduceSub, Nat.reduceMul, Nat.reducePow, Nat.reduceBEq, Nat.reduceLT, Nat.reduceLeDiff, Nat.reduceEqDiff, Int.reduceLT, Int.reduceLE, Int.reduceEq, Int.reduceNe, Int.reduceToNat, Int.reduceAdd, Int.reduceSub, Int.reduceMul, Int.reducePow, Int.reduceDiv, Int.reduceMod, Int.reduceNeg, reduceCtorEq, codeKey, List.contains, List.elem, Ev.load, peek, pack, storeV, fieldAddr, field, cvB, w64, hpt, hq1z, c1, c2, c4, c8, c16, decide_false, decide_true]))
      all_goals trace_state
    · rw [if_neg (by omega)] at hclq
      rw [hclq]
      have hq1z : (1 : Int) < (q : Int) := by omega
      have hqm : 0 ≤ (q : Int) / 4294967296 ∧ (q : Int) / 4294967296 ≤ 4294967295 := by omega
      generalize bl (q : Int) = L at *
      have c1 := fun H => ceil_cv (e0 + L) 1 (by omega) (by decide) H
      have c2 := fun H => ceil_cv (e0 + L) 2 (by omega) (by decide) H
      have c4 := fun H => ceil_cv (e0 + L) 4 (by omega) (by decide) H
      have c8 := fun H => ceil_cv (e0 + L) 8 (by omega) (by decide) H
      have c16 := fun H => ceil_cv (e0 + L) 16 (by omega) (by decide) H
      rcases hs5 with rfl | rfl | rfl | rfl | rfl
      all_goals simp only [Int.neg_neg, Int.neg_zero, Int.reduceNeg, Int.reduceToNat, Int.reducePow]
      all_goals repeat' (first | (refine cond_by (F := ans) (fun _ => ?_) (fun _ => ?_)) | (refine wayK_by (F := ans) (fun _ hb_ => ?_) (fun _ hb_ => ?_) <;> simp only [hb_]) | (refine wayK_byN (F := ans) (fun _ hb_ => ?_) (fun _ hb_ => ?_) <;> simp only [hb_]) | (refine wayD_by (F := ans) (fun _ hb_ => ?_) (fun _ hb_ => ?_) <;> simp only [hb_]) | (refine wayD_byN (F := ans) (fun _ hb_ => ?_) (fun _ hb_ => ?_) <;> simp only [hb_]) | (refine rdK_by (F := ans) (fun _ => ?_) (fun _ => ?_)) | (refine effK_by (F := ans) (fun _ => ?_) (fun _ => ?_)) | (refine effK_by2 (F := ans) (fun _ => ?_) (fun _ => ?_)) | (refine rdD_by (F := ans) (fun _ => ?_) (fun _ => ?_)) | (refine effD_by (F := ans) (fun _ => ?_) (fun _ => ?_)) | (refine effD_by2 (F := ans) (fun _ => ?_) (fun _ => ?_)) | simp -implicitDefEqProofs (disch := first | omega | (simp only [List.length_append, List.length_cons, List.length_nil, List.length_drop, List.length_take]; omega)) only [evs, tys, lors, Nat.reduceAdd, Nat.reduceSub, Nat.reduceMul, Nat.reducePow, Nat.reduceBEq, Nat.reduceLT, Nat.reduceLeDiff, Nat.reduceEqDiff, Int.reduceLT, Int.reduceLE, Int.reduceEq, Int.reduceNe, Int.reduceToNat, Int.reduceAdd, Int.reduceSub, Int.reduceMul, Int.reducePow, Int.reduceDiv, Int.reduceMod, Int.reduceNeg, reduceCtorEq, codeKey, List.contains, List.elem, Ev.load, peek, pack, storeV, fieldAddr, field, cvB, w64, hpt, hq1z, hbits, bits1, IntKind.wrap_u32, c1, c2, c4, c8, c16, decide_false, decide_true])
      all_goals repeat (rw [loopL_step' rfl]; repeat' (first | (refine cond_by (F := ans) (fun _ => ?_) (fun _ => ?_)) | (refine wayK_by (F := ans) (fun _ hb_ => ?_) (fun _ hb_ => ?_) <;> simp only [hb_]) | (refine wayK_byN (F := ans) (fun _ hb_ => ?_) (fun _ hb_ => ?_) <;> simp only [hb_]) | (refine wayD_by (F := ans) (fun _ hb_ => ?_) (fun _ hb_ => ?_) <;> simp only [hb_]) | (refine wayD_byN (F := ans) (fun _ hb_ => ?_) (fun _ hb_ => ?_) <;> simp only [hb_]) | (refine rdK_by (F := ans) (fun _ => ?_) (fun _ => ?_)) | (refine effK_by (F := ans) (fun _ => ?_) (fun _ => ?_)) | (refine effK_by2 (F := ans) (fun _ => ?_) (fun _ => ?_)) | (refine rdD_by (F := ans) (fun _ => ?_) (fun _ => ?_)) | (refine effD_by (F := ans) (fun _ => ?_) (fun _ => ?_)) | (refine effD_by2 (F := ans) (fun _ => ?_) (fun _ => ?_)) | simp -implicitDefEqProofs (disch := first | omega | (simp only [List.length_append, List.length_cons, List.length_nil, List.length_drop, List.length_take]; omega)) only [evs, tys, lors, Nat.reduceAdd, Nat.reduceSub, Nat.reduceMul, Nat.reducePow, Nat.reduceBEq, Nat.reduceLT, Nat.reduceLeDiff, Nat.reduceEqDiff, Int.reduceLT, Int.reduceLE, Int.reduceEq, Int.reduceNe, Int.reduceToNat, Int.reduceAdd, Int.reduceSub, Int.reduceMul, Int.reducePow, Int.reduceDiv, Int.reduceMod, Int.reduceNeg, reduceCtorEq, codeKey, List.contains, List.elem, Ev.load, peek, pack, storeV, fieldAddr, field, cvB, w64, hpt, hq1z, hbits, bits1, IntKind.wrap_u32, c1, c2, c4, c8, c16, decide_false, decide_true]))
      all_goals trace_state
  · rw [if_neg hs0]
    obtain ⟨n, rfl⟩ : ∃ n : Nat, s = (n : Int) := ⟨s.toNat, by omega⟩
    rw [Int.toNat_natCast]
    have hn0 : ¬ (n : Int) ≤ 0 := hs0
    have hn8 : n ≤ 8 := by omega
    have hqm : 0 ≤ (q : Int) / 4294967296 ∧ (q : Int) / 4294967296 ≤ 4294967295 := by omega
    have hK : 1 ≤ 2 ^ n ∧ 2 ^ n ≤ 256 := by
      have a1 := Nat.pow_le_pow_right (show 0 < 2 by decide) hn8
      have a2 := Nat.two_pow_pos n
      omega
    have hq2 : 1 ≤ (q : Int) := by omega
    have hpw := pow2_eq n (q : Int)
    have hodd := odd_pow (q := (q : Int)) (by omega) (2 ^ n)
    have hcN := cl_odd (q := (q : Int) ^ 2 ^ n) (by have := one_le_powz hq2 (2 ^ n); omega) hodd
    have hone : (q = 1 → (q : Int) ^ 2 ^ n = 1) ∧ (q ≠ 1 → (q : Int) ^ 2 ^ n ≠ 1) := by
      constructor
      · intro h; rw [h]; exact Int.one_pow
      · intro h
        obtain ⟨r, hr⟩ : ∃ r, 2 ^ n = r + 1 := ⟨2 ^ n - 1, by omega⟩
        rw [hr]
        have := gt_pow (q := (q : Int)) (by omega) r
        omega
    have hkz : (2 : Int) ^ n = ((2 ^ n : Nat) : Int) := by rw [Int.natCast_pow]; rfl
    have hs1 : -1074 * 256 ≤ e0 * 2 ^ n ∧ e0 * 2 ^ n ≤ 1024 * 256 := by
      rw [hkz]
      generalize 2 ^ n = k at *
      rcases Int.lt_or_le e0 0 with h | h
      · have a1 := Int.mul_le_mul_of_nonneg_right he0b.1 (show (0 : Int) ≤ k by omega)
        have a2 := Int.mul_le_mul_of_nonneg_right (show e0 ≤ 0 by omega) (show (0 : Int) ≤ k by omega)
        omega
      · have a1 := Int.mul_le_mul_of_nonneg_right he0b.2 (show (0 : Int) ≤ k by omega)
        have a2 := Int.mul_nonneg h (show (0 : Int) ≤ k by omega)
        omega
    have hd2' := hd2
    repeat' (first | (refine cond_by (F := ans) (fun _ => ?_) (fun _ => ?_)) | (refine wayK_by (F := ans) (fun _ hb_ => ?_) (fun _ hb_ => ?_) <;> simp only [hb_]) | (refine wayK_byN (F := ans) (fun _ hb_ => ?_) (fun _ hb_ => ?_) <;> simp only [hb_]) | (refine wayD_by (F := ans) (fun _ hb_ => ?_) (fun _ hb_ => ?_) <;> simp only [hb_]) | (refine wayD_byN (F := ans) (fun _ hb_ => ?_) (fun _ hb_ => ?_) <;> simp only [hb_]) | (refine rdK_by (F := ans) (fun _ => ?_) (fun _ => ?_)) | (refine effK_by (F := ans) (fun _ => ?_) (fun _ => ?_)) | (refine effK_by2 (F := ans) (fun _ => ?_) (fun _ => ?_)) | (refine rdD_by (F := ans) (fun _ => ?_) (fun _ => ?_)) | (refine effD_by (F := ans) (fun _ => ?_) (fun _ => ?_)) | (refine effD_by2 (F := ans) (fun _ => ?_) (fun _ => ?_)) | simp -implicitDefEqProofs (disch := first | omega | (simp only [List.length_append, List.length_cons, List.length_nil, List.length_drop, List.length_take]; omega)) only [evs, tys, lors, Nat.reduceAdd, Nat.reduceSub, Nat.reduceMul, Nat.reducePow, Nat.reduceBEq, Nat.reduceLT, Nat.reduceLeDiff, Nat.reduceEqDiff, Int.reduceLT, Int.reduceLE, Int.reduceEq, Int.reduceNe, Int.reduceToNat, Int.reduceAdd, Int.reduceSub, Int.reduceMul, Int.reducePow, Int.reduceDiv, Int.reduceMod, Int.reduceNeg, reduceCtorEq, codeKey, List.contains, List.elem, Ev.load, peek, pack, storeV, fieldAddr, field, cvB, w64, hpt, hn0, bits1, IntKind.wrap_u32, decide_false])
    rw [← hd2]
    refine loop39 n hn8 _ (e0 * 2 ^ n) ((q : Int) ^ 2 ^ n) _ _ _ (by rfl) ?_ n 0 2 (q : Int) e0 0 true rfl (by omega) (by omega) (by
      have : (4294967296 : Int) ^ 2 = 18446744073709551616 := by decide
      omega) (by omega) hpw rfl (by rw [Int.pow_zero]; omega)
    intro c n' hn' hN0 hN1
    have hb3 := fun H => bits32_cv (digs 4294967296 n' ((q : Int) ^ 2 ^ n)) c (digs_us (by decide) _ _) (by rw [digs_len]; omega) H
    rw [digs_wv (by decide) n' _ hN0 hN1] at hb3
    by_cases hq1 : q = 1
    · rw [hone.1 hq1, if_pos rfl] at hcN
      rw [hone.1 hq1, hcN]
      have hqz : (q : Int) = 1 := by omega
      repeat' (first | (refine cond_by (F := ans) (fun _ => ?_) (fun _ => ?_)) | (refine wayK_by (F := ans) (fun _ hb_ => ?_) (fun _ hb_ => ?_) <;> simp only [hb_]) | (refine wayK_byN (F := ans) (fun _ hb_ => ?_) (fun _ hb_ => ?_) <;> simp only [hb_]) | (refine wayD_by (F := ans) (fun _ hb_ => ?_) (fun _ hb_ => ?_) <;> simp only [hb_]) | (refine wayD_byN (F := ans) (fun _ hb_ => ?_) (fun _ hb_ => ?_) <;> simp only [hb_]) | (refine rdK_by (F := ans) (fun _ => ?_) (fun _ => ?_)) | (refine effK_by (F := ans) (fun _ => ?_) (fun _ => ?_)) | (refine effK_by2 (F := ans) (fun _ => ?_) (fun _ => ?_)) | (refine rdD_by (F := ans) (fun _ => ?_) (fun _ => ?_)) | (refine effD_by (F := ans) (fun _ => ?_) (fun _ => ?_)) | (refine effD_by2 (F := ans) (fun _ => ?_) (fun _ => ?_)) | simp -implicitDefEqProofs (disch := first | omega | (simp only [List.length_append, List.length_cons, List.length_nil, List.length_drop, List.length_take]; omega)) only [evs, tys, lors, Nat.reduceAdd, Nat.reduceSub, Nat.reduceMul, Nat.reducePow, Nat.reduceBEq, Nat.reduceLT, Nat.reduceLeDiff, Nat.reduceEqDiff, Int.reduceLT, Int.reduceLE, Int.reduceEq, Int.reduceNe, Int.reduceToNat, Int.reduceAdd, Int.reduceSub, Int.reduceMul, Int.reducePow, Int.reduceDiv, Int.reduceMod, Int.reduceNeg, reduceCtorEq, codeKey, List.contains, List.elem, Ev.load, peek, pack, storeV, fieldAddr, field, cvB, hqz, decide_true])
      all_goals simp
    · rw [if_neg (hone.2 hq1)] at hcN
      rw [hcN]
      have hqz : ¬ (q : Int) = 1 := by omega
      have hbN : bl ((q : Int) ^ 2 ^ n) ≤ 64000 := by
        obtain ⟨b1, b2, b3⟩ := bl_facts (n := (q : Int) ^ 2 ^ n) (by omega)
        have hq53' : q ≤ 18446744073709551616 := by omega
        have hN : ((q : Int) ^ 2 ^ n) < BIG := pow_gen 1000 hq53' (by omega)
        rcases Nat.lt_or_ge (bl ((q : Int) ^ 2 ^ n) - 1) 64000 with h | h
        · omega
        · have c1 := powz_le h
          have c2 : (2 : Int) ^ 64000 = BIG := by
            unfold BIG
            rw [← p264, ← Int.pow_mul]
          rw [c2] at c1
          omega
      generalize bl ((q : Int) ^ 2 ^ n) = L at *
      repeat' (first | (refine cond_by (F := ans) (fun _ => ?_) (fun _ => ?_)) | (refine wayK_by (F := ans) (fun _ hb_ => ?_) (fun _ hb_ => ?_) <;> simp only [hb_]) | (refine wayK_byN (F := ans) (fun _ hb_ => ?_) (fun _ hb_ => ?_) <;> simp only [hb_]) | (refine wayD_by (F := ans) (fun _ hb_ => ?_) (fun _ hb_ => ?_) <;> simp only [hb_]) | (refine wayD_byN (F := ans) (fun _ hb_ => ?_) (fun _ hb_ => ?_) <;> simp only [hb_]) | (refine rdK_by (F := ans) (fun _ => ?_) (fun _ => ?_)) | (refine effK_by (F := ans) (fun _ => ?_) (fun _ => ?_)) | (refine effK_by2 (F := ans) (fun _ => ?_) (fun _ => ?_)) | (refine rdD_by (F := ans) (fun _ => ?_) (fun _ => ?_)) | (refine effD_by (F := ans) (fun _ => ?_) (fun _ => ?_)) | (refine effD_by2 (F := ans) (fun _ => ?_) (fun _ => ?_)) | simp -implicitDefEqProofs (disch := first | omega | (simp only [List.length_append, List.length_cons, List.length_nil, List.length_drop, List.length_take]; omega)) only [evs, tys, lors, Nat.reduceAdd, Nat.reduceSub, Nat.reduceMul, Nat.reducePow, Nat.reduceBEq, Nat.reduceLT, Nat.reduceLeDiff, Nat.reduceEqDiff, Int.reduceLT, Int.reduceLE, Int.reduceEq, Int.reduceNe, Int.reduceToNat, Int.reduceAdd, Int.reduceSub, Int.reduceMul, Int.reducePow, Int.reduceDiv, Int.reduceMod, Int.reduceNeg, reduceCtorEq, codeKey, List.contains, List.elem, Ev.load, peek, pack, storeV, fieldAddr, field, cvB, hqz, hb3, decide_false])
      all_goals trace_state


theorem schema_cv (x : Int) (H : Heap) : callV (CL lore) 38 [.int .i64 x] H = some (.bool (decide (-4 ≤ x ∧ x ≤ 8)), H) := by
  refine callV_ans (r := some _) ?_ lore_sh38 rfl H
  rw [call_start lore_ext38 Try.func38 rfl lore_okf38 (Nat.le_of_ble_eq_true rfl)]
  repeat' (first | (refine cond_by (F := ans) (fun _ => ?_) (fun _ => ?_)) | (refine wayK_by (F := ans) (fun _ hb_ => ?_) (fun _ hb_ => ?_) <;> simp only [hb_]) | (refine wayK_byN (F := ans) (fun _ hb_ => ?_) (fun _ hb_ => ?_) <;> simp only [hb_]) | (refine wayD_by (F := ans) (fun _ hb_ => ?_) (fun _ hb_ => ?_) <;> simp only [hb_]) | (refine wayD_byN (F := ans) (fun _ hb_ => ?_) (fun _ hb_ => ?_) <;> simp only [hb_]) | (refine rdK_by (F := ans) (fun _ => ?_) (fun _ => ?_)) | (refine effK_by (F := ans) (fun _ => ?_) (fun _ => ?_)) | (refine effK_by2 (F := ans) (fun _ => ?_) (fun _ => ?_)) | (refine rdD_by (F := ans) (fun _ => ?_) (fun _ => ?_)) | (refine effD_by (F := ans) (fun _ => ?_) (fun _ => ?_)) | (refine effD_by2 (F := ans) (fun _ => ?_) (fun _ => ?_)) | simp -implicitDefEqProofs (disch := first | omega | (simp only [List.length_append, List.length_cons, List.length_nil, List.length_drop, List.length_take]; omega)) only [evs, tys, lors, Nat.reduceAdd, Nat.reduceSub, Nat.reduceMul, Nat.reducePow, Nat.reduceBEq, Nat.reduceLT, Nat.reduceLeDiff, Nat.reduceEqDiff, Int.reduceLT, Int.reduceLE, Int.reduceEq, Int.reduceNe, Int.reduceToNat, Int.reduceAdd, Int.reduceSub, Int.reduceMul, Int.reducePow, Int.reduceDiv, Int.reduceMod, Int.reduceNeg, reduceCtorEq, codeKey, List.contains, List.elem, Ev.load, peek, pack, storeV, fieldAddr, field, cvB])
  all_goals (refine congrArg some (congrArg V.bool ?_); first | (rw [decide_eq_decide]; omega) | (symm; rw [decide_eq_false_iff_not]; omega))
theorem expD_cv (s : Int) (x : Nat) (hx : x < 18446744073709551616) (H : Heap) : callV (CL lore) 20 [.int .i64 s, .fl .f64 x] H = some (expV s x, H) := by
  refine callV_ans (r := some _) ?_ lore_sh20 rfl H
  rw [call_start lore_ext20 Try.func20 rfl lore_okf20 (Nat.le_of_ble_eq_true rfl)]
  have hsch := fun H => schema_cv s H
  have hb := bits_cv x hx
  have hwl : IntKind.u64.wrap ((x : Int) * 2) = (x : Int) % 9223372036854775808 * 2 := by rw [IntKind.wrap_u64]; omega
  unfold expV expE
  by_cases hs : -4 ≤ s ∧ s ≤ 8
  · rw [if_pos hs]
    rw [decide_eq_true hs] at hsch
    by_cases hf : x % 9223372036854775808 < 9218868437227405312
    · rw [if_pos hf, if_pos rfl]
      have n1 : ¬ ((x : Int) / 4503599627370496 % 2048 = 2047) := by omega
      unfold expS expI
      by_cases hz : x % 9223372036854775808 = 0
      · rw [if_pos hz, if_pos hz]
        have n2 : (x : Int) % 9223372036854775808 = 0 := by omega
        repeat' (first | (refine cond_by (F := ans) (fun _ => ?_) (fun _ => ?_)) | (refine wayK_by (F := ans) (fun _ hb_ => ?_) (fun _ hb_ => ?_) <;> simp only [hb_]) | (refine wayK_byN (F := ans) (fun _ hb_ => ?_) (fun _ hb_ => ?_) <;> simp only [hb_]) | (refine wayD_by (F := ans) (fun _ hb_ => ?_) (fun _ hb_ => ?_) <;> simp only [hb_]) | (refine wayD_byN (F := ans) (fun _ hb_ => ?_) (fun _ hb_ => ?_) <;> simp only [hb_]) | (refine rdK_by (F := ans) (fun _ => ?_) (fun _ => ?_)) | (refine effK_by (F := ans) (fun _ => ?_) (fun _ => ?_)) | (refine effK_by2 (F := ans) (fun _ => ?_) (fun _ => ?_)) | (refine rdD_by (F := ans) (fun _ => ?_) (fun _ => ?_)) | (refine effD_by (F := ans) (fun _ => ?_) (fun _ => ?_)) | (refine effD_by2 (F := ans) (fun _ => ?_) (fun _ => ?_)) | simp -implicitDefEqProofs (disch := first | omega | (simp only [List.length_append, List.length_cons, List.length_nil, List.length_drop, List.length_take]; omega)) only [evs, tys, lors, Nat.reduceAdd, Nat.reduceSub, Nat.reduceMul, Nat.reducePow, Nat.reduceBEq, Nat.reduceLT, Nat.reduceLeDiff, Nat.reduceEqDiff, Int.reduceLT, Int.reduceLE, Int.reduceEq, Int.reduceNe, Int.reduceToNat, Int.reduceAdd, Int.reduceSub, Int.reduceMul, Int.reducePow, Int.reduceDiv, Int.reduceMod, Int.reduceNeg, reduceCtorEq, codeKey, List.contains, List.elem, Ev.load, peek, pack, storeV, fieldAddr, field, cvB, hsch, hb, bits1, hwl, n1, n2, decide_false, decide_true])
      · rw [if_neg hz, if_neg hz]
        have n2 : ¬ ((x : Int) % 9223372036854775808 * 2 = 0) := by omega
        by_cases hp : x < 9223372036854775808
        · rw [if_pos hp]
          rw [Nat.mod_eq_of_lt hp] at hz hf ⊢
          have n3 : ¬ ((x : Int) / 9223372036854775808 = 1) := by omega
          have hpl := fun H => index_f_cv s hs x (by omega) hf H
          repeat' (first | (refine cond_by (F := ans) (fun _ => ?_) (fun _ => ?_)) | (refine wayK_by (F := ans) (fun _ hb_ => ?_) (fun _ hb_ => ?_) <;> simp only [hb_]) | (refine wayK_byN (F := ans) (fun _ hb_ => ?_) (fun _ hb_ => ?_) <;> simp only [hb_]) | (refine wayD_by (F := ans) (fun _ hb_ => ?_) (fun _ hb_ => ?_) <;> simp only [hb_]) | (refine wayD_byN (F := ans) (fun _ hb_ => ?_) (fun _ hb_ => ?_) <;> simp only [hb_]) | (refine rdK_by (F := ans) (fun _ => ?_) (fun _ => ?_)) | (refine effK_by (F := ans) (fun _ => ?_) (fun _ => ?_)) | (refine effK_by2 (F := ans) (fun _ => ?_) (fun _ => ?_)) | (refine rdD_by (F := ans) (fun _ => ?_) (fun _ => ?_)) | (refine effD_by (F := ans) (fun _ => ?_) (fun _ => ?_)) | (refine effD_by2 (F := ans) (fun _ => ?_) (fun _ => ?_)) | simp -implicitDefEqProofs (disch := first | omega | (simp only [List.length_append, List.length_cons, List.length_nil, List.length_drop, List.length_take]; omega)) only [evs, tys, lors, Nat.reduceAdd, Nat.reduceSub, Nat.reduceMul, Nat.reducePow, Nat.reduceBEq, Nat.reduceLT, Nat.reduceLeDiff, Nat.reduceEqDiff, Int.reduceLT, Int.reduceLE, Int.reduceEq, Int.reduceNe, Int.reduceToNat, Int.reduceAdd, Int.reduceSub, Int.reduceMul, Int.reducePow, Int.reduceDiv, Int.reduceMod, Int.reduceNeg, reduceCtorEq, codeKey, List.contains, List.elem, Ev.load, peek, pack, storeV, fieldAddr, field, cvB, hsch, hb, bits1, hwl, n1, n2, n3, hpl, decide_false, decide_true])
        · rw [if_neg hp]
          obtain ⟨r, rfl⟩ : ∃ r, x = 9223372036854775808 + r := ⟨x - 9223372036854775808, by omega⟩
          have hr : (9223372036854775808 + r) % 9223372036854775808 = r := by omega
          rw [hr] at hz hf ⊢
          have n3 : ((9223372036854775808 + r : Nat) : Int) / 9223372036854775808 = 1 := by omega
          have hpl := fun H => index_f_cv s hs r (by omega) hf H
          have hx1 := (xor_hi (r := r) (by omega)).1
          repeat' (first | (refine cond_by (F := ans) (fun _ => ?_) (fun _ => ?_)) | (refine wayK_by (F := ans) (fun _ hb_ => ?_) (fun _ hb_ => ?_) <;> simp only [hb_]) | (refine wayK_byN (F := ans) (fun _ hb_ => ?_) (fun _ hb_ => ?_) <;> simp only [hb_]) | (refine wayD_by (F := ans) (fun _ hb_ => ?_) (fun _ hb_ => ?_) <;> simp only [hb_]) | (refine wayD_byN (F := ans) (fun _ hb_ => ?_) (fun _ hb_ => ?_) <;> simp only [hb_]) | (refine rdK_by (F := ans) (fun _ => ?_) (fun _ => ?_)) | (refine effK_by (F := ans) (fun _ => ?_) (fun _ => ?_)) | (refine effK_by2 (F := ans) (fun _ => ?_) (fun _ => ?_)) | (refine rdD_by (F := ans) (fun _ => ?_) (fun _ => ?_)) | (refine effD_by (F := ans) (fun _ => ?_) (fun _ => ?_)) | (refine effD_by2 (F := ans) (fun _ => ?_) (fun _ => ?_)) | simp -implicitDefEqProofs (disch := first | omega | (simp only [List.length_append, List.length_cons, List.length_nil, List.length_drop, List.length_take]; omega)) only [evs, tys, lors, Nat.reduceAdd, Nat.reduceSub, Nat.reduceMul, Nat.reducePow, Nat.reduceBEq, Nat.reduceLT, Nat.reduceLeDiff, Nat.reduceEqDiff, Int.reduceLT, Int.reduceLE, Int.reduceEq, Int.reduceNe, Int.reduceToNat, Int.reduceAdd, Int.reduceSub, Int.reduceMul, Int.reducePow, Int.reduceDiv, Int.reduceMod, Int.reduceNeg, reduceCtorEq, codeKey, List.contains, List.elem, Ev.load, peek, pack, storeV, fieldAddr, field, cvB, hsch, hb, bits1, hwl, n1, n2, n3, un_neg_f, hx1, hpl, decide_false, decide_true])
    · rw [if_neg hf, if_neg (by decide)]
      have n1 : (x : Int) / 4503599627370496 % 2048 = 2047 := by omega
      repeat' (first | (refine cond_by (F := ans) (fun _ => ?_) (fun _ => ?_)) | (refine wayK_by (F := ans) (fun _ hb_ => ?_) (fun _ hb_ => ?_) <;> simp only [hb_]) | (refine wayK_byN (F := ans) (fun _ hb_ => ?_) (fun _ hb_ => ?_) <;> simp only [hb_]) | (refine wayD_by (F := ans) (fun _ hb_ => ?_) (fun _ hb_ => ?_) <;> simp only [hb_]) | (refine wayD_byN (F := ans) (fun _ hb_ => ?_) (fun _ hb_ => ?_) <;> simp only [hb_]) | (refine rdK_by (F := ans) (fun _ => ?_) (fun _ => ?_)) | (refine effK_by (F := ans) (fun _ => ?_) (fun _ => ?_)) | (refine effK_by2 (F := ans) (fun _ => ?_) (fun _ => ?_)) | (refine rdD_by (F := ans) (fun _ => ?_) (fun _ => ?_)) | (refine effD_by (F := ans) (fun _ => ?_) (fun _ => ?_)) | (refine effD_by2 (F := ans) (fun _ => ?_) (fun _ => ?_)) | simp -implicitDefEqProofs (disch := first | omega | (simp only [List.length_append, List.length_cons, List.length_nil, List.length_drop, List.length_take]; omega)) only [evs, tys, lors, Nat.reduceAdd, Nat.reduceSub, Nat.reduceMul, Nat.reducePow, Nat.reduceBEq, Nat.reduceLT, Nat.reduceLeDiff, Nat.reduceEqDiff, Int.reduceLT, Int.reduceLE, Int.reduceEq, Int.reduceNe, Int.reduceToNat, Int.reduceAdd, Int.reduceSub, Int.reduceMul, Int.reducePow, Int.reduceDiv, Int.reduceMod, Int.reduceNeg, reduceCtorEq, codeKey, List.contains, List.elem, Ev.load, peek, pack, storeV, fieldAddr, field, cvB, hsch, hb, bits1, hwl, n1, decide_false, decide_true])
  · rw [if_neg hs, if_neg (by decide)]
    rw [decide_eq_false hs] at hsch
    repeat' (first | (refine cond_by (F := ans) (fun _ => ?_) (fun _ => ?_)) | (refine wayK_by (F := ans) (fun _ hb_ => ?_) (fun _ hb_ => ?_) <;> simp only [hb_]) | (refine wayK_byN (F := ans) (fun _ hb_ => ?_) (fun _ hb_ => ?_) <;> simp only [hb_]) | (refine wayD_by (F := ans) (fun _ hb_ => ?_) (fun _ hb_ => ?_) <;> simp only [hb_]) | (refine wayD_byN (F := ans) (fun _ hb_ => ?_) (fun _ hb_ => ?_) <;> simp only [hb_]) | (refine rdK_by (F := ans) (fun _ => ?_) (fun _ => ?_)) | (refine effK_by (F := ans) (fun _ => ?_) (fun _ => ?_)) | (refine effK_by2 (F := ans) (fun _ => ?_) (fun _ => ?_)) | (refine rdD_by (F := ans) (fun _ => ?_) (fun _ => ?_)) | (refine effD_by (F := ans) (fun _ => ?_) (fun _ => ?_)) | (refine effD_by2 (F := ans) (fun _ => ?_) (fun _ => ?_)) | simp -implicitDefEqProofs (disch := first | omega | (simp only [List.length_append, List.length_cons, List.length_nil, List.length_drop, List.length_take]; omega)) only [evs, tys, lors, Nat.reduceAdd, Nat.reduceSub, Nat.reduceMul, Nat.reducePow, Nat.reduceBEq, Nat.reduceLT, Nat.reduceLeDiff, Nat.reduceEqDiff, Int.reduceLT, Int.reduceLE, Int.reduceEq, Int.reduceNe, Int.reduceToNat, Int.reduceAdd, Int.reduceSub, Int.reduceMul, Int.reducePow, Int.reduceDiv, Int.reduceMod, Int.reduceNeg, reduceCtorEq, codeKey, List.contains, List.elem, Ev.load, peek, pack, storeV, fieldAddr, field, cvB, hsch])
theorem endsD_cv (s : Int) (H : Heap) : callV (CL lore) 22 [.int .i64 s] H = if -4 ≤ s ∧ s ≤ 8 then some (.tup [.int .i64 (placeF s 1), .int .i64 (placeF s 9218868437227405311), .int .i64 0], H) else some (.tup [.int .i64 0, .int .i64 0, .int .i64 2], H) := by
  rw [callV_ans (r := if -4 ≤ s ∧ s ≤ 8 then some (.tup [.int .i64 (placeF s 1), .int .i64 (placeF s 9218868437227405311), .int .i64 0]) else some (.tup [.int .i64 0, .int .i64 0, .int .i64 2])) ?_ lore_sh22 rfl H]
  · split <;> rfl
  rw [call_start lore_ext22 Try.func22 rfl lore_okf22 (Nat.le_of_ble_eq_true rfl)]
  have hsch := fun H => schema_cv s H
  by_cases hs : -4 ≤ s ∧ s ≤ 8
  · rw [if_pos hs]
    rw [decide_eq_true hs] at hsch
    have h1 := index_f_cv s hs 1 (by decide) (by decide)
    have h2 := index_f_cv s hs 9218868437227405311 (by decide) (by decide)
    repeat' (first | (refine cond_by (F := ans) (fun _ => ?_) (fun _ => ?_)) | (refine wayK_by (F := ans) (fun _ hb_ => ?_) (fun _ hb_ => ?_) <;> simp only [hb_]) | (refine wayK_byN (F := ans) (fun _ hb_ => ?_) (fun _ hb_ => ?_) <;> simp only [hb_]) | (refine wayD_by (F := ans) (fun _ hb_ => ?_) (fun _ hb_ => ?_) <;> simp only [hb_]) | (refine wayD_byN (F := ans) (fun _ hb_ => ?_) (fun _ hb_ => ?_) <;> simp only [hb_]) | (refine rdK_by (F := ans) (fun _ => ?_) (fun _ => ?_)) | (refine effK_by (F := ans) (fun _ => ?_) (fun _ => ?_)) | (refine effK_by2 (F := ans) (fun _ => ?_) (fun _ => ?_)) | (refine rdD_by (F := ans) (fun _ => ?_) (fun _ => ?_)) | (refine effD_by (F := ans) (fun _ => ?_) (fun _ => ?_)) | (refine effD_by2 (F := ans) (fun _ => ?_) (fun _ => ?_)) | simp -implicitDefEqProofs (disch := first | omega | (simp only [List.length_append, List.length_cons, List.length_nil, List.length_drop, List.length_take]; omega)) only [evs, tys, lors, Nat.reduceAdd, Nat.reduceSub, Nat.reduceMul, Nat.reducePow, Nat.reduceBEq, Nat.reduceLT, Nat.reduceLeDiff, Nat.reduceEqDiff, Int.reduceLT, Int.reduceLE, Int.reduceEq, Int.reduceNe, Int.reduceToNat, Int.reduceAdd, Int.reduceSub, Int.reduceMul, Int.reducePow, Int.reduceDiv, Int.reduceMod, Int.reduceNeg, reduceCtorEq, codeKey, List.contains, List.elem, Ev.load, peek, pack, storeV, fieldAddr, field, cvB, w64, hsch, h1, h2])
  · rw [if_neg hs]
    rw [decide_eq_false hs] at hsch
    repeat' (first | (refine cond_by (F := ans) (fun _ => ?_) (fun _ => ?_)) | (refine wayK_by (F := ans) (fun _ hb_ => ?_) (fun _ hb_ => ?_) <;> simp only [hb_]) | (refine wayK_byN (F := ans) (fun _ hb_ => ?_) (fun _ hb_ => ?_) <;> simp only [hb_]) | (refine wayD_by (F := ans) (fun _ hb_ => ?_) (fun _ hb_ => ?_) <;> simp only [hb_]) | (refine wayD_byN (F := ans) (fun _ hb_ => ?_) (fun _ hb_ => ?_) <;> simp only [hb_]) | (refine rdK_by (F := ans) (fun _ => ?_) (fun _ => ?_)) | (refine effK_by (F := ans) (fun _ => ?_) (fun _ => ?_)) | (refine effK_by2 (F := ans) (fun _ => ?_) (fun _ => ?_)) | (refine rdD_by (F := ans) (fun _ => ?_) (fun _ => ?_)) | (refine effD_by (F := ans) (fun _ => ?_) (fun _ => ?_)) | (refine effD_by2 (F := ans) (fun _ => ?_) (fun _ => ?_)) | simp -implicitDefEqProofs (disch := first | omega | (simp only [List.length_append, List.length_cons, List.length_nil, List.length_drop, List.length_take]; omega)) only [evs, tys, lors, Nat.reduceAdd, Nat.reduceSub, Nat.reduceMul, Nat.reducePow, Nat.reduceBEq, Nat.reduceLT, Nat.reduceLeDiff, Nat.reduceEqDiff, Int.reduceLT, Int.reduceLE, Int.reduceEq, Int.reduceNe, Int.reduceToNat, Int.reduceAdd, Int.reduceSub, Int.reduceMul, Int.reducePow, Int.reduceDiv, Int.reduceMod, Int.reduceNeg, reduceCtorEq, codeKey, List.contains, List.elem, Ev.load, peek, pack, storeV, fieldAddr, field, cvB, hsch])
/-- The next lower schema's bucket. -/
def coarV (i : Int) : Int := -((-i) / 2)
theorem andI_one {i : Int} (h0 : -9223372036854775808 ≤ i) (h1 : i ≤ 9223372036854775807) : andI .i64 i 1 = i % 2 := by
  show IntKind.i64.wrap ((BitVec.ofInt 64 i &&& BitVec.ofInt 64 1).toNat : Int) = _
  rw [BitVec.toNat_and, BitVec.toNat_ofInt, show (BitVec.ofInt 64 1).toNat = 2 ^ 1 - 1 by decide, mask_mod, Nat.pow_one]
  have e64 : ((2 ^ 64 : Nat) : Int) = 18446744073709551616 := by decide
  rw [e64]
  have h2 : ((i % 18446744073709551616).toNat % 2 : Nat) = (i % 2).toNat := by omega
  rw [h2, w_i64 (by omega) (by omega)]
  omega
theorem coarser_cv (i : Int) (h0 : -9223372036854775808 ≤ i) (h1 : i ≤ 9223372036854775807) (H : Heap) : callV (CL lore) 26 [.int .i64 i] H = some (.int .i64 (coarV i), H) := by
  refine callV_ans (r := some _) ?_ lore_sh26 rfl H
  rw [call_start lore_ext26 Try.func26 rfl lore_okf26 (Nat.le_of_ble_eq_true rfl)]
  have ha := andI_one h0 h1
  repeat' (first | (refine cond_by (F := ans) (fun _ => ?_) (fun _ => ?_)) | (refine wayK_by (F := ans) (fun _ hb_ => ?_) (fun _ hb_ => ?_) <;> simp only [hb_]) | (refine wayK_byN (F := ans) (fun _ hb_ => ?_) (fun _ hb_ => ?_) <;> simp only [hb_]) | (refine wayD_by (F := ans) (fun _ hb_ => ?_) (fun _ hb_ => ?_) <;> simp only [hb_]) | (refine wayD_byN (F := ans) (fun _ hb_ => ?_) (fun _ hb_ => ?_) <;> simp only [hb_]) | (refine rdK_by (F := ans) (fun _ => ?_) (fun _ => ?_)) | (refine effK_by (F := ans) (fun _ => ?_) (fun _ => ?_)) | (refine effK_by2 (F := ans) (fun _ => ?_) (fun _ => ?_)) | (refine rdD_by (F := ans) (fun _ => ?_) (fun _ => ?_)) | (refine effD_by (F := ans) (fun _ => ?_) (fun _ => ?_)) | (refine effD_by2 (F := ans) (fun _ => ?_) (fun _ => ?_)) | simp -implicitDefEqProofs (disch := first | omega | (simp only [List.length_append, List.length_cons, List.length_nil, List.length_drop, List.length_take]; omega)) only [evs, tys, lors, Nat.reduceAdd, Nat.reduceSub, Nat.reduceMul, Nat.reducePow, Nat.reduceBEq, Nat.reduceLT, Nat.reduceLeDiff, Nat.reduceEqDiff, Int.reduceLT, Int.reduceLE, Int.reduceEq, Int.reduceNe, Int.reduceToNat, Int.reduceAdd, Int.reduceSub, Int.reduceMul, Int.reducePow, Int.reduceDiv, Int.reduceMod, Int.reduceNeg, reduceCtorEq, codeKey, List.contains, List.elem, Ev.load, peek, pack, storeV, fieldAddr, field, cvB, shr_any, ha])
  all_goals (refine congrArg some (congrArg (V.int .i64) ?_); unfold coarV; omega)
theorem coarserD_cv (i : Int) (h0 : -9223372036854775808 ≤ i) (h1 : i ≤ 9223372036854775807) (H : Heap) : callV (CL lore) 27 [.int .i64 i] H = some (.int .i64 (coarV i), H) := by
  refine callV_ans (r := some _) ?_ lore_sh27 rfl H
  rw [call_start lore_ext27 Try.func27 rfl lore_okf27 (Nat.le_of_ble_eq_true rfl)]
  rcases Int.lt_or_le i 0 with h | h
  · have ht := tdiv_neg (b := 2) h
    have hm : i.tmod 2 = -((-i) % 2) := by rw [← Int.neg_neg (i.tmod 2), ← Int.neg_tmod, Int.tmod_eq_emod_of_nonneg (by omega)]
    repeat' (first | (refine cond_by (F := ans) (fun _ => ?_) (fun _ => ?_)) | (refine wayK_by (F := ans) (fun _ hb_ => ?_) (fun _ hb_ => ?_) <;> simp only [hb_]) | (refine wayK_byN (F := ans) (fun _ hb_ => ?_) (fun _ hb_ => ?_) <;> simp only [hb_]) | (refine wayD_by (F := ans) (fun _ hb_ => ?_) (fun _ hb_ => ?_) <;> simp only [hb_]) | (refine wayD_byN (F := ans) (fun _ hb_ => ?_) (fun _ hb_ => ?_) <;> simp only [hb_]) | (refine rdK_by (F := ans) (fun _ => ?_) (fun _ => ?_)) | (refine effK_by (F := ans) (fun _ => ?_) (fun _ => ?_)) | (refine effK_by2 (F := ans) (fun _ => ?_) (fun _ => ?_)) | (refine rdD_by (F := ans) (fun _ => ?_) (fun _ => ?_)) | (refine effD_by (F := ans) (fun _ => ?_) (fun _ => ?_)) | (refine effD_by2 (F := ans) (fun _ => ?_) (fun _ => ?_)) | simp -implicitDefEqProofs (disch := first | omega | (simp only [List.length_append, List.length_cons, List.length_nil, List.length_drop, List.length_take]; omega)) only [evs, tys, lors, Nat.reduceAdd, Nat.reduceSub, Nat.reduceMul, Nat.reducePow, Nat.reduceBEq, Nat.reduceLT, Nat.reduceLeDiff, Nat.reduceEqDiff, Int.reduceLT, Int.reduceLE, Int.reduceEq, Int.reduceNe, Int.reduceToNat, Int.reduceAdd, Int.reduceSub, Int.reduceMul, Int.reducePow, Int.reduceDiv, Int.reduceMod, Int.reduceNeg, reduceCtorEq, codeKey, List.contains, List.elem, Ev.load, peek, pack, storeV, fieldAddr, field, cvB, ht, hm])
    all_goals first
      | (exfalso; omega)
      | (refine congrArg some (congrArg (V.int .i64) ?_); unfold coarV; omega)
  · repeat' (first | (refine cond_by (F := ans) (fun _ => ?_) (fun _ => ?_)) | (refine wayK_by (F := ans) (fun _ hb_ => ?_) (fun _ hb_ => ?_) <;> simp only [hb_]) | (refine wayK_byN (F := ans) (fun _ hb_ => ?_) (fun _ hb_ => ?_) <;> simp only [hb_]) | (refine wayD_by (F := ans) (fun _ hb_ => ?_) (fun _ hb_ => ?_) <;> simp only [hb_]) | (refine wayD_byN (F := ans) (fun _ hb_ => ?_) (fun _ hb_ => ?_) <;> simp only [hb_]) | (refine rdK_by (F := ans) (fun _ => ?_) (fun _ => ?_)) | (refine effK_by (F := ans) (fun _ => ?_) (fun _ => ?_)) | (refine effK_by2 (F := ans) (fun _ => ?_) (fun _ => ?_)) | (refine rdD_by (F := ans) (fun _ => ?_) (fun _ => ?_)) | (refine effD_by (F := ans) (fun _ => ?_) (fun _ => ?_)) | (refine effD_by2 (F := ans) (fun _ => ?_) (fun _ => ?_)) | simp -implicitDefEqProofs (disch := first | omega | (simp only [List.length_append, List.length_cons, List.length_nil, List.length_drop, List.length_take]; omega)) only [evs, tys, lors, Nat.reduceAdd, Nat.reduceSub, Nat.reduceMul, Nat.reducePow, Nat.reduceBEq, Nat.reduceLT, Nat.reduceLeDiff, Nat.reduceEqDiff, Int.reduceLT, Int.reduceLE, Int.reduceEq, Int.reduceNe, Int.reduceToNat, Int.reduceAdd, Int.reduceSub, Int.reduceMul, Int.reducePow, Int.reduceDiv, Int.reduceMod, Int.reduceNeg, reduceCtorEq, codeKey, List.contains, List.elem, Ev.load, peek, pack, storeV, fieldAddr, field, cvB])
    all_goals first
      | (exfalso; omega)
      | (refine congrArg some (congrArg (V.int .i64) ?_); unfold coarV; omega)
end Go.Proofs.Ytacnpljkcpomnaa
