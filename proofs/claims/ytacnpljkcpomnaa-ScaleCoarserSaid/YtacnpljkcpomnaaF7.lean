/-
The document's parts, bits, ceil, squared. The document's squared and index.
-/
import Derived.Test.YtacnpljkcpomnaaF4
import Derived.Test.YtacnpljkcpomnaaF5
namespace Go.Proofs.Ytacnpljkcpomnaa
open Go Ev
set_option linter.all false
set_option maxHeartbeats 4000000
set_option maxRecDepth 5000
attribute [local irreducible] codeL condL loopL callL callV evOps evDraw rdK effK wayK oneK wayD oneD rdD effD chks chkB res


/-! A float's odd part. -/
theorem odd_part : ∀ m : Nat, 0 < m → ∃ q k, m = q * 2 ^ k ∧ q % 2 = 1 := by
  intro m
  induction m using Nat.strongRecOn with
  | ind m ih =>
    intro h
    by_cases h2 : m % 2 = 1
    · exact ⟨m, 0, by simp, h2⟩
    · obtain ⟨q, k, e, hq⟩ := ih (m / 2) (by omega) (by omega)
      refine ⟨q, k + 1, ?_, hq⟩
      rw [Nat.pow_succ, ← Nat.mul_assoc, ← e]
      omega
theorem loop52 (q : Nat) (hq : q % 2 = 1) (K : Kont) (R : Option V) (a : Code) (ha : loopIn Try.prog 52 8 = some a) (H : Heap) (E : Int)
    (hR : ans (K (.exit 0) (Sl 30 .wild [(5, .int .u64 (q : Nat)), (6, .int .i64 E)]) H) = R) :
    ∀ (k : Nat) (z e : Int), z = (q * 2 ^ k : Nat) → e + k = E → q * 2 ^ k < 9007199254740992 → -100000 ≤ e → E ≤ 100000 → ans (loopL lore 52 a (Sl 30 .wild [(5, .int .u64 z), (6, .int .i64 e)]) H K) = R := by
  have hk := loop_key ha
  simp only [loopIn, Try.func52, Try.f52, loopAt, Option.bind_some, codeKey, if_true, Option.some.injEq, Nat.reduceEqDiff, if_false] at ha
  intro k
  induction k with
  | zero =>
    intro z e hz he hb h1 h2
    rw [Nat.pow_zero, Nat.mul_one] at hz hb
    rw [show e = E by omega]
    subst hz
    rw [loopL_step' ha]
    repeat' (first | (refine cond_by (F := ans) (fun _ => ?_) (fun _ => ?_)) | (refine wayK_by (F := ans) (fun _ hb_ => ?_) (fun _ hb_ => ?_) <;> simp only [hb_]) | (refine wayK_byN (F := ans) (fun _ hb_ => ?_) (fun _ hb_ => ?_) <;> simp only [hb_]) | (refine wayD_by (F := ans) (fun _ hb_ => ?_) (fun _ hb_ => ?_) <;> simp only [hb_]) | (refine wayD_byN (F := ans) (fun _ hb_ => ?_) (fun _ hb_ => ?_) <;> simp only [hb_]) | (refine rdK_by (F := ans) (fun _ => ?_) (fun _ => ?_)) | (refine effK_by (F := ans) (fun _ => ?_) (fun _ => ?_)) | (refine effK_by2 (F := ans) (fun _ => ?_) (fun _ => ?_)) | (refine rdD_by (F := ans) (fun _ => ?_) (fun _ => ?_)) | (refine effD_by (F := ans) (fun _ => ?_) (fun _ => ?_)) | (refine effD_by2 (F := ans) (fun _ => ?_) (fun _ => ?_)) | simp -implicitDefEqProofs (disch := first | omega | (simp only [List.length_append, List.length_cons, List.length_nil, List.length_drop, List.length_take]; omega)) only [evs, tys, lors, Nat.reduceAdd, Nat.reduceSub, Nat.reduceMul, Nat.reducePow, Nat.reduceBEq, Nat.reduceLT, Nat.reduceLeDiff, Nat.reduceEqDiff, Int.reduceLT, Int.reduceLE, Int.reduceEq, Int.reduceNe, Int.reduceToNat, Int.reduceAdd, Int.reduceSub, Int.reduceMul, Int.reducePow, Int.reduceDiv, Int.reduceMod, Int.reduceNeg, reduceCtorEq, codeKey, List.contains, List.elem, Ev.load, peek, pack, storeV, fieldAddr, field, cvB, hk])
    · exfalso; omega
    · exact hR
  | succ k ih =>
    intro z e hz he hb h1 h2
    rw [Nat.pow_succ, ← Nat.mul_assoc] at hz hb
    have hb2 : q * 2 ^ k < 9007199254740992 := by omega
    generalize hy : q * 2 ^ k = y at *
    have e2 : z / 2 = (y : Int) := by omega
    rw [loopL_step' ha]
    repeat' (first | (refine cond_by (F := ans) (fun _ => ?_) (fun _ => ?_)) | (refine wayK_by (F := ans) (fun _ hb_ => ?_) (fun _ hb_ => ?_) <;> simp only [hb_]) | (refine wayK_byN (F := ans) (fun _ hb_ => ?_) (fun _ hb_ => ?_) <;> simp only [hb_]) | (refine wayD_by (F := ans) (fun _ hb_ => ?_) (fun _ hb_ => ?_) <;> simp only [hb_]) | (refine wayD_byN (F := ans) (fun _ hb_ => ?_) (fun _ hb_ => ?_) <;> simp only [hb_]) | (refine rdK_by (F := ans) (fun _ => ?_) (fun _ => ?_)) | (refine effK_by (F := ans) (fun _ => ?_) (fun _ => ?_)) | (refine effK_by2 (F := ans) (fun _ => ?_) (fun _ => ?_)) | (refine rdD_by (F := ans) (fun _ => ?_) (fun _ => ?_)) | (refine effD_by (F := ans) (fun _ => ?_) (fun _ => ?_)) | (refine effD_by2 (F := ans) (fun _ => ?_) (fun _ => ?_)) | simp -implicitDefEqProofs (disch := first | omega | (simp only [List.length_append, List.length_cons, List.length_nil, List.length_drop, List.length_take]; omega)) only [evs, tys, lors, Nat.reduceAdd, Nat.reduceSub, Nat.reduceMul, Nat.reducePow, Nat.reduceBEq, Nat.reduceLT, Nat.reduceLeDiff, Nat.reduceEqDiff, Int.reduceLT, Int.reduceLE, Int.reduceEq, Int.reduceNe, Int.reduceToNat, Int.reduceAdd, Int.reduceSub, Int.reduceMul, Int.reducePow, Int.reduceDiv, Int.reduceMod, Int.reduceNeg, reduceCtorEq, codeKey, List.contains, List.elem, Ev.load, peek, pack, storeV, fieldAddr, field, cvB, hk, e2])
    · exact ih (y : Int) (e + 1) rfl (by omega) hb2 (by omega) h2
    · exfalso; omega
theorem parts_cv (b q k : Nat) (h0 : 0 < b) (h1 : b < 9218868437227405312) (hq : q % 2 = 1) (hm : mR b = q * 2 ^ k) (hk : k ≤ 53) (H : Heap) : callV (CL lore) 52 [.fl .f64 b] H = some (.tup [.int .u64 (q : Nat), .int .i64 ((sR b : Int) + k - 1074)], H) := by
  refine callV_ans (r := some _) ?_ lore_sh52 rfl H
  rw [call_start lore_ext52 Try.func52 rfl lore_okf52 (Nat.le_of_ble_eq_true rfl)]
  have g1 := bits_cv b (by omega)
  obtain ⟨m1, m2, m3⟩ := mR_facts b
  have s1 := sR_le h1
  rw [hm] at m1
  have hE : (b : Int) / 4503599627370496 % 2048 = (b : Int) / 4503599627370496 := by omega
  by_cases hs : b < 4503599627370496
  · have e1 : mR b = b := by unfold mR; rw [if_pos hs]
    have e2 : sR b = 0 := by unfold sR; rw [if_pos hs]
    rw [e1] at hm
    rw [e2] at s1 ⊢
    have e3 : (b : Int) / 4503599627370496 = 0 := by omega
    have e4 : (b : Int) % 4503599627370496 = b := by omega
    repeat' (first | (refine cond_by (F := ans) (fun _ => ?_) (fun _ => ?_)) | (refine wayK_by (F := ans) (fun _ hb_ => ?_) (fun _ hb_ => ?_) <;> simp only [hb_]) | (refine wayK_byN (F := ans) (fun _ hb_ => ?_) (fun _ hb_ => ?_) <;> simp only [hb_]) | (refine wayD_by (F := ans) (fun _ hb_ => ?_) (fun _ hb_ => ?_) <;> simp only [hb_]) | (refine wayD_byN (F := ans) (fun _ hb_ => ?_) (fun _ hb_ => ?_) <;> simp only [hb_]) | (refine rdK_by (F := ans) (fun _ => ?_) (fun _ => ?_)) | (refine effK_by (F := ans) (fun _ => ?_) (fun _ => ?_)) | (refine effK_by2 (F := ans) (fun _ => ?_) (fun _ => ?_)) | (refine rdD_by (F := ans) (fun _ => ?_) (fun _ => ?_)) | (refine effD_by (F := ans) (fun _ => ?_) (fun _ => ?_)) | (refine effD_by2 (F := ans) (fun _ => ?_) (fun _ => ?_)) | simp -implicitDefEqProofs (disch := first | omega | (simp only [List.length_append, List.length_cons, List.length_nil, List.length_drop, List.length_take]; omega)) only [evs, tys, lors, Nat.reduceAdd, Nat.reduceSub, Nat.reduceMul, Nat.reducePow, Nat.reduceBEq, Nat.reduceLT, Nat.reduceLeDiff, Nat.reduceEqDiff, Int.reduceLT, Int.reduceLE, Int.reduceEq, Int.reduceNe, Int.reduceToNat, Int.reduceAdd, Int.reduceSub, Int.reduceMul, Int.reducePow, Int.reduceDiv, Int.reduceMod, Int.reduceNeg, reduceCtorEq, codeKey, List.contains, List.elem, Ev.load, peek, pack, storeV, fieldAddr, field, cvB, g1, bits1, hE, e3, e4])
    all_goals refine loop52 q hq _ _ _ (by rfl) _ (((0 : Nat) : Int) + k - 1074) ?_ k _ _ (by omega) (by omega) (by omega) (by omega) (by omega)
    all_goals repeat' (first | (refine cond_by (F := ans) (fun _ => ?_) (fun _ => ?_)) | (refine wayK_by (F := ans) (fun _ hb_ => ?_) (fun _ hb_ => ?_) <;> simp only [hb_]) | (refine wayK_byN (F := ans) (fun _ hb_ => ?_) (fun _ hb_ => ?_) <;> simp only [hb_]) | (refine wayD_by (F := ans) (fun _ hb_ => ?_) (fun _ hb_ => ?_) <;> simp only [hb_]) | (refine wayD_byN (F := ans) (fun _ hb_ => ?_) (fun _ hb_ => ?_) <;> simp only [hb_]) | (refine rdK_by (F := ans) (fun _ => ?_) (fun _ => ?_)) | (refine effK_by (F := ans) (fun _ => ?_) (fun _ => ?_)) | (refine effK_by2 (F := ans) (fun _ => ?_) (fun _ => ?_)) | (refine rdD_by (F := ans) (fun _ => ?_) (fun _ => ?_)) | (refine effD_by (F := ans) (fun _ => ?_) (fun _ => ?_)) | (refine effD_by2 (F := ans) (fun _ => ?_) (fun _ => ?_)) | simp -implicitDefEqProofs (disch := first | omega | (simp only [List.length_append, List.length_cons, List.length_nil, List.length_drop, List.length_take]; omega)) only [evs, tys, lors, Nat.reduceAdd, Nat.reduceSub, Nat.reduceMul, Nat.reducePow, Nat.reduceBEq, Nat.reduceLT, Nat.reduceLeDiff, Nat.reduceEqDiff, Int.reduceLT, Int.reduceLE, Int.reduceEq, Int.reduceNe, Int.reduceToNat, Int.reduceAdd, Int.reduceSub, Int.reduceMul, Int.reducePow, Int.reduceDiv, Int.reduceMod, Int.reduceNeg, reduceCtorEq, codeKey, List.contains, List.elem, Ev.load, peek, pack, storeV, fieldAddr, field, cvB])
  · have e1 : mR b = 4503599627370496 + b % 4503599627370496 := by unfold mR; rw [if_neg hs]
    have e2 : sR b = b / 4503599627370496 - 1 := by unfold sR; rw [if_neg hs]
    rw [e1] at hm
    have e5 : ((sR b : Nat) : Int) = (b : Int) / 4503599627370496 - 1 := by omega
    repeat' (first | (refine cond_by (F := ans) (fun _ => ?_) (fun _ => ?_)) | (refine wayK_by (F := ans) (fun _ hb_ => ?_) (fun _ hb_ => ?_) <;> simp only [hb_]) | (refine wayK_byN (F := ans) (fun _ hb_ => ?_) (fun _ hb_ => ?_) <;> simp only [hb_]) | (refine wayD_by (F := ans) (fun _ hb_ => ?_) (fun _ hb_ => ?_) <;> simp only [hb_]) | (refine wayD_byN (F := ans) (fun _ hb_ => ?_) (fun _ hb_ => ?_) <;> simp only [hb_]) | (refine rdK_by (F := ans) (fun _ => ?_) (fun _ => ?_)) | (refine effK_by (F := ans) (fun _ => ?_) (fun _ => ?_)) | (refine effK_by2 (F := ans) (fun _ => ?_) (fun _ => ?_)) | (refine rdD_by (F := ans) (fun _ => ?_) (fun _ => ?_)) | (refine effD_by (F := ans) (fun _ => ?_) (fun _ => ?_)) | (refine effD_by2 (F := ans) (fun _ => ?_) (fun _ => ?_)) | simp -implicitDefEqProofs (disch := first | omega | (simp only [List.length_append, List.length_cons, List.length_nil, List.length_drop, List.length_take]; omega)) only [evs, tys, lors, Nat.reduceAdd, Nat.reduceSub, Nat.reduceMul, Nat.reducePow, Nat.reduceBEq, Nat.reduceLT, Nat.reduceLeDiff, Nat.reduceEqDiff, Int.reduceLT, Int.reduceLE, Int.reduceEq, Int.reduceNe, Int.reduceToNat, Int.reduceAdd, Int.reduceSub, Int.reduceMul, Int.reducePow, Int.reduceDiv, Int.reduceMod, Int.reduceNeg, reduceCtorEq, codeKey, List.contains, List.elem, Ev.load, peek, pack, storeV, fieldAddr, field, cvB, g1, bits1, hE])
    · exfalso; omega
    · refine loop52 q hq _ _ _ (by rfl) _ ((sR b : Int) + k - 1074) ?_ k _ _ (by omega) (by omega) (by omega) (by omega) (by omega)
      repeat' (first | (refine cond_by (F := ans) (fun _ => ?_) (fun _ => ?_)) | (refine wayK_by (F := ans) (fun _ hb_ => ?_) (fun _ hb_ => ?_) <;> simp only [hb_]) | (refine wayK_byN (F := ans) (fun _ hb_ => ?_) (fun _ hb_ => ?_) <;> simp only [hb_]) | (refine wayD_by (F := ans) (fun _ hb_ => ?_) (fun _ hb_ => ?_) <;> simp only [hb_]) | (refine wayD_byN (F := ans) (fun _ hb_ => ?_) (fun _ hb_ => ?_) <;> simp only [hb_]) | (refine rdK_by (F := ans) (fun _ => ?_) (fun _ => ?_)) | (refine effK_by (F := ans) (fun _ => ?_) (fun _ => ?_)) | (refine effK_by2 (F := ans) (fun _ => ?_) (fun _ => ?_)) | (refine rdD_by (F := ans) (fun _ => ?_) (fun _ => ?_)) | (refine effD_by (F := ans) (fun _ => ?_) (fun _ => ?_)) | (refine effD_by2 (F := ans) (fun _ => ?_) (fun _ => ?_)) | simp -implicitDefEqProofs (disch := first | omega | (simp only [List.length_append, List.length_cons, List.length_nil, List.length_drop, List.length_take]; omega)) only [evs, tys, lors, Nat.reduceAdd, Nat.reduceSub, Nat.reduceMul, Nat.reducePow, Nat.reduceBEq, Nat.reduceLT, Nat.reduceLeDiff, Nat.reduceEqDiff, Int.reduceLT, Int.reduceLE, Int.reduceEq, Int.reduceNe, Int.reduceToNat, Int.reduceAdd, Int.reduceSub, Int.reduceMul, Int.reducePow, Int.reduceDiv, Int.reduceMod, Int.reduceNeg, reduceCtorEq, codeKey, List.contains, List.elem, Ev.load, peek, pack, storeV, fieldAddr, field, cvB])
/-! How many bits words of 32 have. -/
def enc32 (l : List Int) : List V := l.map (V.int .u32)
theorem enc32_len (l : List Int) : (enc32 l).length = l.length := List.length_map ..
theorem enc32_app (a b : List Int) : enc32 (a ++ b) = enc32 a ++ enc32 b := List.map_append ..
theorem enc32_get (a : List Int) (x : Int) (b : List Int) : (enc32 (a ++ x :: b))[a.length]? = some (.int .u32 x) := by
  unfold enc32
  rw [List.getElem?_map, List.getElem?_append_right (Nat.le_refl _), Nat.sub_self]
  rfl
theorem enc32_set (a : List Int) (x y : Int) (b : List Int) : (enc32 (a ++ x :: b)).set a.length (.int .u32 y) = enc32 (a ++ y :: b) := by
  unfold enc32
  rw [← List.map_set, List.set_append_right _ _ (Nat.le_refl _), Nat.sub_self]
  rfl
theorem bl_half {x : Int} (h : 0 < x) : bl x = bl (x / 2) + 1 := by
  rcases Int.lt_or_le 1 x with h1 | h1
  · obtain ⟨b1, b2, b3⟩ := bl_facts (n := x / 2) (by omega)
    have e : bl (x / 2) = (bl (x / 2) - 1) + 1 := by omega
    rw [bl_of (k := bl (x / 2)) (n := x)]
    · rw [e, Int.pow_succ]; omega
    · rw [Int.pow_succ]; omega
  · obtain rfl : x = 1 := by omega
    decide
theorem loop53i (i : Int) (xs : V) (K : Kont) (R : Option V) (a : Code) (ha : loopIn Try.prog 53 6 = some a) (H : Heap) (N : Int) (hN : N ≤ 1000)
    (hR : ans (K (.exit 2) (Sl 29 .wild [(0, xs), (3, .int .i64 i), (4, .int .i64 N), (5, .int .u32 0)]) H) = R) :
    ∀ (k : Nat) (x n : Int), bl x = k → 0 ≤ x → x < 4294967296 → 0 ≤ n → n + k = N → ans (loopL lore 53 a (Sl 29 .wild [(0, xs), (3, .int .i64 i), (4, .int .i64 n), (5, .int .u32 x)]) H K) = R := by
  have hk := loop_key ha
  simp only [loopIn, Try.func53, Try.f53, loopAt, Option.bind_some, codeKey, if_true, Option.some.injEq, Nat.reduceEqDiff, if_false] at ha
  intro k
  induction k with
  | zero =>
    intro x n hb h0 h1 hn hnk
    have hx : x = 0 := by
      rcases Int.lt_or_le 0 x with h | h
      · have := (bl_facts h).1; omega
      · omega
    subst hx
    rw [show n = N by omega]
    rw [loopL_step' ha]
    repeat' (first | (refine cond_by (F := ans) (fun _ => ?_) (fun _ => ?_)) | (refine wayK_by (F := ans) (fun _ hb_ => ?_) (fun _ hb_ => ?_) <;> simp only [hb_]) | (refine wayK_byN (F := ans) (fun _ hb_ => ?_) (fun _ hb_ => ?_) <;> simp only [hb_]) | (refine wayD_by (F := ans) (fun _ hb_ => ?_) (fun _ hb_ => ?_) <;> simp only [hb_]) | (refine wayD_byN (F := ans) (fun _ hb_ => ?_) (fun _ hb_ => ?_) <;> simp only [hb_]) | (refine rdK_by (F := ans) (fun _ => ?_) (fun _ => ?_)) | (refine effK_by (F := ans) (fun _ => ?_) (fun _ => ?_)) | (refine effK_by2 (F := ans) (fun _ => ?_) (fun _ => ?_)) | (refine rdD_by (F := ans) (fun _ => ?_) (fun _ => ?_)) | (refine effD_by (F := ans) (fun _ => ?_) (fun _ => ?_)) | (refine effD_by2 (F := ans) (fun _ => ?_) (fun _ => ?_)) | simp -implicitDefEqProofs (disch := first | omega | (simp only [List.length_append, List.length_cons, List.length_nil, List.length_drop, List.length_take]; omega)) only [evs, tys, lors, Nat.reduceAdd, Nat.reduceSub, Nat.reduceMul, Nat.reducePow, Nat.reduceBEq, Nat.reduceLT, Nat.reduceLeDiff, Nat.reduceEqDiff, Int.reduceLT, Int.reduceLE, Int.reduceEq, Int.reduceNe, Int.reduceToNat, Int.reduceAdd, Int.reduceSub, Int.reduceMul, Int.reducePow, Int.reduceDiv, Int.reduceMod, Int.reduceNeg, reduceCtorEq, codeKey, List.contains, List.elem, Ev.load, peek, pack, storeV, fieldAddr, field, cvB, hk])
    all_goals first
      | (exfalso; omega)
      | exact hR
  | succ k ih =>
    intro x n hb h0 h1 hn hnk
    have hx : 0 < x := by
      rcases Int.lt_or_le 0 x with h | h
      · exact h
      · obtain rfl : x = 0 := by omega
        simp [bl] at hb
    have hh := bl_half hx
    rw [loopL_step' ha]
    repeat' (first | (refine cond_by (F := ans) (fun _ => ?_) (fun _ => ?_)) | (refine wayK_by (F := ans) (fun _ hb_ => ?_) (fun _ hb_ => ?_) <;> simp only [hb_]) | (refine wayK_byN (F := ans) (fun _ hb_ => ?_) (fun _ hb_ => ?_) <;> simp only [hb_]) | (refine wayD_by (F := ans) (fun _ hb_ => ?_) (fun _ hb_ => ?_) <;> simp only [hb_]) | (refine wayD_byN (F := ans) (fun _ hb_ => ?_) (fun _ hb_ => ?_) <;> simp only [hb_]) | (refine rdK_by (F := ans) (fun _ => ?_) (fun _ => ?_)) | (refine effK_by (F := ans) (fun _ => ?_) (fun _ => ?_)) | (refine effK_by2 (F := ans) (fun _ => ?_) (fun _ => ?_)) | (refine rdD_by (F := ans) (fun _ => ?_) (fun _ => ?_)) | (refine effD_by (F := ans) (fun _ => ?_) (fun _ => ?_)) | (refine effD_by2 (F := ans) (fun _ => ?_) (fun _ => ?_)) | simp -implicitDefEqProofs (disch := first | omega | (simp only [List.length_append, List.length_cons, List.length_nil, List.length_drop, List.length_take]; omega)) only [evs, tys, lors, Nat.reduceAdd, Nat.reduceSub, Nat.reduceMul, Nat.reducePow, Nat.reduceBEq, Nat.reduceLT, Nat.reduceLeDiff, Nat.reduceEqDiff, Int.reduceLT, Int.reduceLE, Int.reduceEq, Int.reduceNe, Int.reduceToNat, Int.reduceAdd, Int.reduceSub, Int.reduceMul, Int.reducePow, Int.reduceDiv, Int.reduceMod, Int.reduceNeg, reduceCtorEq, codeKey, List.contains, List.elem, Ev.load, peek, pack, storeV, fieldAddr, field, cvB, hk])
    · exact ih (x / 2) (n + 1) (by omega) (by omega) (by omega) (by omega) (by omega)
    · exfalso; omega
theorem bl_words {q : List Int} {x : Int} (hu : Us 4294967296 q) (hx : 0 < x) : bl (wv 4294967296 (q ++ [x])) = 32 * q.length + bl x := by
  obtain ⟨v0, v1⟩ := wv_lt (by decide) q hu
  obtain ⟨b1, b2, b3⟩ := bl_facts hx
  rw [wv_append]
  simp only [wv, Int.mul_zero, Int.add_zero]
  have e5 : (4294967296 : Int) = 2 ^ 32 := by decide
  have e6 : (4294967296 : Int) ^ q.length = 2 ^ (32 * q.length) := by rw [e5, ← Int.pow_mul]
  rw [e6] at v1 ⊢
  have hP : (0 : Int) < 2 ^ (32 * q.length) := Int.pow_pos (by decide)
  have m1 := Int.mul_le_mul_of_nonneg_left b2 (show (0 : Int) ≤ 2 ^ (32 * q.length) by omega)
  have m2 := Int.mul_le_mul_of_nonneg_left (show x + 1 ≤ 2 ^ bl x by omega) (show (0 : Int) ≤ 2 ^ (32 * q.length) by omega)
  rw [← Int.pow_add] at m1 m2
  rw [Int.mul_add, Int.mul_one] at m2
  have := bl_of (k := 32 * q.length + (bl x - 1)) (n := wv 4294967296 q + 2 ^ (32 * q.length) * x) (by omega) (by
    rw [show 32 * q.length + (bl x - 1) + 1 = 32 * q.length + bl x by omega]; omega)
  rw [this]
  omega
theorem loop53 (xs : List Int) (c : Bool) (hu : Us 4294967296 xs) (hl : xs.length ≤ 1000000) (K : Kont) (R : Option V) (a : Code) (ha : loopIn Try.prog 53 2 = some a) (H : Heap)
    (hR1 : ∀ i : Int, ans (K .ret (Sl 29 .wild [(0, .sl (enc32 xs) 1 c), (2, .int .i64 (bl (wv 4294967296 xs))), (3, .int .i64 i)]) H) = R)
    (hR0 : bl (wv 4294967296 xs) = 0 → ∀ w : V, ans (K (.exit 0) (Sl 29 .wild [(0, .sl (enc32 xs) 1 c), (2, w), (3, .int .i64 (-1))]) H) = R) :
    ∀ (n : Nat) (p z : List Int) (i : Int) (w : V), p.length = n → xs = p ++ z → wv 4294967296 xs = wv 4294967296 p → i = (n : Int) - 1 → ans (loopL lore 53 a (Sl 29 .wild [(0, .sl (enc32 xs) 1 c), (2, w), (3, .int .i64 i)]) H K) = R := by
  have hk := loop_key ha
  simp only [loopIn, Try.func53, Try.f53, loopAt, Option.bind_some, codeKey, if_true, Option.some.injEq, Nat.reduceEqDiff, if_false] at ha
  intro n
  induction n with
  | zero =>
    intro p z i w hp hx hv hi
    obtain rfl : p = [] := List.length_eq_zero_iff.1 hp
    have h0 := hR0 (by rw [hv]; rfl) w
    obtain rfl : i = -1 := by omega
    rw [loopL_step' ha]
    repeat' (first | (refine cond_by (F := ans) (fun _ => ?_) (fun _ => ?_)) | (refine wayK_by (F := ans) (fun _ hb_ => ?_) (fun _ hb_ => ?_) <;> simp only [hb_]) | (refine wayK_byN (F := ans) (fun _ hb_ => ?_) (fun _ hb_ => ?_) <;> simp only [hb_]) | (refine wayD_by (F := ans) (fun _ hb_ => ?_) (fun _ hb_ => ?_) <;> simp only [hb_]) | (refine wayD_byN (F := ans) (fun _ hb_ => ?_) (fun _ hb_ => ?_) <;> simp only [hb_]) | (refine rdK_by (F := ans) (fun _ => ?_) (fun _ => ?_)) | (refine effK_by (F := ans) (fun _ => ?_) (fun _ => ?_)) | (refine effK_by2 (F := ans) (fun _ => ?_) (fun _ => ?_)) | (refine rdD_by (F := ans) (fun _ => ?_) (fun _ => ?_)) | (refine effD_by (F := ans) (fun _ => ?_) (fun _ => ?_)) | (refine effD_by2 (F := ans) (fun _ => ?_) (fun _ => ?_)) | simp -implicitDefEqProofs (disch := first | omega | (simp only [List.length_append, List.length_cons, List.length_nil, List.length_drop, List.length_take]; omega)) only [evs, tys, lors, Nat.reduceAdd, Nat.reduceSub, Nat.reduceMul, Nat.reducePow, Nat.reduceBEq, Nat.reduceLT, Nat.reduceLeDiff, Nat.reduceEqDiff, Int.reduceLT, Int.reduceLE, Int.reduceEq, Int.reduceNe, Int.reduceToNat, Int.reduceAdd, Int.reduceSub, Int.reduceMul, Int.reducePow, Int.reduceDiv, Int.reduceMod, Int.reduceNeg, reduceCtorEq, codeKey, List.contains, List.elem, Ev.load, peek, pack, storeV, fieldAddr, field, cvB, hk])
    all_goals first
      | (exfalso; omega)
      | exact h0
  | succ n ih =>
    intro p z i w hp hx hv hi
    rcases snoc_cases p with rfl | ⟨q, x, rfl⟩
    · simp at hp
    · have hq : q.length = n := by simpa using hp
      have hxs : xs = q ++ x :: z := by rw [hx, List.append_assoc]; rfl
      obtain ⟨u1, u2⟩ := us_append.1 (hxs ▸ hu)
      obtain ⟨ux, _⟩ := us_cons.1 u2
      have hin : i = (n : Int) := by omega
      subst hin
      have e1 : (enc32 xs)[n]? = some (.int .u32 x) := by rw [hxs, ← hq]; exact enc32_get q x z
      have e2 := enc32_len xs
      have e3 : (enc32 xs)[(n : Int).toNat]? = some (.int .u32 x) := by rw [Int.toNat_natCast]; exact e1
      have hlen : n < xs.length := by rw [hxs]; simp; omega
      have hbx : bl x ≤ 32 := by
        rcases Int.lt_or_le 0 x with h | h
        · obtain ⟨b1, b2, b3⟩ := bl_facts h
          have e5 : (4294967296 : Int) = 2 ^ 32 := by decide
          rw [e5] at ux
          have : (2 : Int) ^ (bl x - 1) < 2 ^ 32 := by omega
          have := pow_lt_of (a := bl x - 1) (b := 32) (by exact_mod_cast this)
          omega
        · obtain rfl : x = 0 := by omega
          decide
      rw [loopL_step' ha]
      repeat' (first | (refine cond_by (F := ans) (fun _ => ?_) (fun _ => ?_)) | (refine wayK_by (F := ans) (fun _ hb_ => ?_) (fun _ hb_ => ?_) <;> simp only [hb_]) | (refine wayK_byN (F := ans) (fun _ hb_ => ?_) (fun _ hb_ => ?_) <;> simp only [hb_]) | (refine wayD_by (F := ans) (fun _ hb_ => ?_) (fun _ hb_ => ?_) <;> simp only [hb_]) | (refine wayD_byN (F := ans) (fun _ hb_ => ?_) (fun _ hb_ => ?_) <;> simp only [hb_]) | (refine rdK_by (F := ans) (fun _ => ?_) (fun _ => ?_)) | (refine effK_by (F := ans) (fun _ => ?_) (fun _ => ?_)) | (refine effK_by2 (F := ans) (fun _ => ?_) (fun _ => ?_)) | (refine rdD_by (F := ans) (fun _ => ?_) (fun _ => ?_)) | (refine effD_by (F := ans) (fun _ => ?_) (fun _ => ?_)) | (refine effD_by2 (F := ans) (fun _ => ?_) (fun _ => ?_)) | simp -implicitDefEqProofs (disch := first | omega | (simp only [List.length_append, List.length_cons, List.length_nil, List.length_drop, List.length_take]; omega)) only [evs, tys, lors, Nat.reduceAdd, Nat.reduceSub, Nat.reduceMul, Nat.reducePow, Nat.reduceBEq, Nat.reduceLT, Nat.reduceLeDiff, Nat.reduceEqDiff, Int.reduceLT, Int.reduceLE, Int.reduceEq, Int.reduceNe, Int.reduceToNat, Int.reduceAdd, Int.reduceSub, Int.reduceMul, Int.reducePow, Int.reduceDiv, Int.reduceMod, Int.reduceNeg, reduceCtorEq, codeKey, List.contains, List.elem, Ev.load, peek, pack, storeV, fieldAddr, field, cvB, hk, e1, e2, e3])
      all_goals first
        | (exfalso; omega)
        | skip
      refine loop53i _ _ _ _ _ (by rfl) _ (bl x) (by omega) ?_ (bl x) x 0 rfl ux.1 ux.2 (by omega) (by omega)
      by_cases h0 : bl x = 0
      · have hx0 : x = 0 := by
          rcases Int.lt_or_le 0 x with h | h
          · have := (bl_facts h).1; omega
          · omega
        rw [h0]
        repeat' (first | (refine cond_by (F := ans) (fun _ => ?_) (fun _ => ?_)) | (refine wayK_by (F := ans) (fun _ hb_ => ?_) (fun _ hb_ => ?_) <;> simp only [hb_]) | (refine wayK_byN (F := ans) (fun _ hb_ => ?_) (fun _ hb_ => ?_) <;> simp only [hb_]) | (refine wayD_by (F := ans) (fun _ hb_ => ?_) (fun _ hb_ => ?_) <;> simp only [hb_]) | (refine wayD_byN (F := ans) (fun _ hb_ => ?_) (fun _ hb_ => ?_) <;> simp only [hb_]) | (refine rdK_by (F := ans) (fun _ => ?_) (fun _ => ?_)) | (refine effK_by (F := ans) (fun _ => ?_) (fun _ => ?_)) | (refine effK_by2 (F := ans) (fun _ => ?_) (fun _ => ?_)) | (refine rdD_by (F := ans) (fun _ => ?_) (fun _ => ?_)) | (refine effD_by (F := ans) (fun _ => ?_) (fun _ => ?_)) | (refine effD_by2 (F := ans) (fun _ => ?_) (fun _ => ?_)) | simp -implicitDefEqProofs (disch := first | omega | (simp only [List.length_append, List.length_cons, List.length_nil, List.length_drop, List.length_take]; omega)) only [evs, tys, lors, Nat.reduceAdd, Nat.reduceSub, Nat.reduceMul, Nat.reducePow, Nat.reduceBEq, Nat.reduceLT, Nat.reduceLeDiff, Nat.reduceEqDiff, Int.reduceLT, Int.reduceLE, Int.reduceEq, Int.reduceNe, Int.reduceToNat, Int.reduceAdd, Int.reduceSub, Int.reduceMul, Int.reducePow, Int.reduceDiv, Int.reduceMod, Int.reduceNeg, reduceCtorEq, codeKey, List.contains, List.elem, Ev.load, peek, pack, storeV, fieldAddr, field, cvB, hk])
        exact ih q (x :: z) (n - 1) _ hq hxs (by rw [hv, wv_append, hx0]; simp [wv]) rfl
      · have hx0 : 0 < x := by
          rcases Int.lt_or_le 0 x with h | h
          · exact h
          · obtain rfl : x = 0 := by omega
            exact absurd rfl h0
        have hb := bl_words u1 hx0
        rw [← hv, hq] at hb
        have hb2 : 32 * (n : Int) + (bl x : Int) = (bl (wv 4294967296 xs) : Int) := by omega
        have hb3 : (n : Int) * 32 + (bl x : Int) = (bl (wv 4294967296 xs) : Int) := by omega
        repeat' (first | (refine cond_by (F := ans) (fun _ => ?_) (fun _ => ?_)) | (refine wayK_by (F := ans) (fun _ hb_ => ?_) (fun _ hb_ => ?_) <;> simp only [hb_]) | (refine wayK_byN (F := ans) (fun _ hb_ => ?_) (fun _ hb_ => ?_) <;> simp only [hb_]) | (refine wayD_by (F := ans) (fun _ hb_ => ?_) (fun _ hb_ => ?_) <;> simp only [hb_]) | (refine wayD_byN (F := ans) (fun _ hb_ => ?_) (fun _ hb_ => ?_) <;> simp only [hb_]) | (refine rdK_by (F := ans) (fun _ => ?_) (fun _ => ?_)) | (refine effK_by (F := ans) (fun _ => ?_) (fun _ => ?_)) | (refine effK_by2 (F := ans) (fun _ => ?_) (fun _ => ?_)) | (refine rdD_by (F := ans) (fun _ => ?_) (fun _ => ?_)) | (refine effD_by (F := ans) (fun _ => ?_) (fun _ => ?_)) | (refine effD_by2 (F := ans) (fun _ => ?_) (fun _ => ?_)) | simp -implicitDefEqProofs (disch := first | omega | (simp only [List.length_append, List.length_cons, List.length_nil, List.length_drop, List.length_take]; omega)) only [evs, tys, lors, Nat.reduceAdd, Nat.reduceSub, Nat.reduceMul, Nat.reducePow, Nat.reduceBEq, Nat.reduceLT, Nat.reduceLeDiff, Nat.reduceEqDiff, Int.reduceLT, Int.reduceLE, Int.reduceEq, Int.reduceNe, Int.reduceToNat, Int.reduceAdd, Int.reduceSub, Int.reduceMul, Int.reducePow, Int.reduceDiv, Int.reduceMod, Int.reduceNeg, reduceCtorEq, codeKey, List.contains, List.elem, Ev.load, peek, pack, storeV, fieldAddr, field, cvB, hk, hb2, hb3])
        all_goals first
          | (exfalso; omega)
          | exact hR1 _
theorem bits32_cv (xs : List Int) (c : Bool) (hu : Us 4294967296 xs) (hl : xs.length ≤ 1000000) (H : Heap) : callV (CL lore) 53 [.sl (enc32 xs) 1 c] H = some (.int .i64 (bl (wv 4294967296 xs)), H) := by
  refine callV_ans (r := some _) ?_ lore_sh53 rfl H
  rw [call_start lore_ext53 Try.func53 rfl lore_okf53 (Nat.le_of_ble_eq_true rfl)]
  have e2 := enc32_len xs
  repeat' (first | (refine cond_by (F := ans) (fun _ => ?_) (fun _ => ?_)) | (refine wayK_by (F := ans) (fun _ hb_ => ?_) (fun _ hb_ => ?_) <;> simp only [hb_]) | (refine wayK_byN (F := ans) (fun _ hb_ => ?_) (fun _ hb_ => ?_) <;> simp only [hb_]) | (refine wayD_by (F := ans) (fun _ hb_ => ?_) (fun _ hb_ => ?_) <;> simp only [hb_]) | (refine wayD_byN (F := ans) (fun _ hb_ => ?_) (fun _ hb_ => ?_) <;> simp only [hb_]) | (refine rdK_by (F := ans) (fun _ => ?_) (fun _ => ?_)) | (refine effK_by (F := ans) (fun _ => ?_) (fun _ => ?_)) | (refine effK_by2 (F := ans) (fun _ => ?_) (fun _ => ?_)) | (refine rdD_by (F := ans) (fun _ => ?_) (fun _ => ?_)) | (refine effD_by (F := ans) (fun _ => ?_) (fun _ => ?_)) | (refine effD_by2 (F := ans) (fun _ => ?_) (fun _ => ?_)) | simp -implicitDefEqProofs (disch := first | omega | (simp only [List.length_append, List.length_cons, List.length_nil, List.length_drop, List.length_take]; omega)) only [evs, tys, lors, Nat.reduceAdd, Nat.reduceSub, Nat.reduceMul, Nat.reducePow, Nat.reduceBEq, Nat.reduceLT, Nat.reduceLeDiff, Nat.reduceEqDiff, Int.reduceLT, Int.reduceLE, Int.reduceEq, Int.reduceNe, Int.reduceToNat, Int.reduceAdd, Int.reduceSub, Int.reduceMul, Int.reducePow, Int.reduceDiv, Int.reduceMod, Int.reduceNeg, reduceCtorEq, codeKey, List.contains, List.elem, Ev.load, peek, pack, storeV, fieldAddr, field, cvB, e2])
  refine loop53 xs c hu hl _ _ _ (by rfl) _ ?_ ?_ xs.length xs [] _ _ rfl (by simp) rfl rfl
  · intro i
    repeat' (first | (refine cond_by (F := ans) (fun _ => ?_) (fun _ => ?_)) | (refine wayK_by (F := ans) (fun _ hb_ => ?_) (fun _ hb_ => ?_) <;> simp only [hb_]) | (refine wayK_byN (F := ans) (fun _ hb_ => ?_) (fun _ hb_ => ?_) <;> simp only [hb_]) | (refine wayD_by (F := ans) (fun _ hb_ => ?_) (fun _ hb_ => ?_) <;> simp only [hb_]) | (refine wayD_byN (F := ans) (fun _ hb_ => ?_) (fun _ hb_ => ?_) <;> simp only [hb_]) | (refine rdK_by (F := ans) (fun _ => ?_) (fun _ => ?_)) | (refine effK_by (F := ans) (fun _ => ?_) (fun _ => ?_)) | (refine effK_by2 (F := ans) (fun _ => ?_) (fun _ => ?_)) | (refine rdD_by (F := ans) (fun _ => ?_) (fun _ => ?_)) | (refine effD_by (F := ans) (fun _ => ?_) (fun _ => ?_)) | (refine effD_by2 (F := ans) (fun _ => ?_) (fun _ => ?_)) | simp -implicitDefEqProofs (disch := first | omega | (simp only [List.length_append, List.length_cons, List.length_nil, List.length_drop, List.length_take]; omega)) only [evs, tys, lors, Nat.reduceAdd, Nat.reduceSub, Nat.reduceMul, Nat.reducePow, Nat.reduceBEq, Nat.reduceLT, Nat.reduceLeDiff, Nat.reduceEqDiff, Int.reduceLT, Int.reduceLE, Int.reduceEq, Int.reduceNe, Int.reduceToNat, Int.reduceAdd, Int.reduceSub, Int.reduceMul, Int.reducePow, Int.reduceDiv, Int.reduceMod, Int.reduceNeg, reduceCtorEq, codeKey, List.contains, List.elem, Ev.load, peek, pack, storeV, fieldAddr, field, cvB])
  · intro h w
    rw [h]
    repeat' (first | (refine cond_by (F := ans) (fun _ => ?_) (fun _ => ?_)) | (refine wayK_by (F := ans) (fun _ hb_ => ?_) (fun _ hb_ => ?_) <;> simp only [hb_]) | (refine wayK_byN (F := ans) (fun _ hb_ => ?_) (fun _ hb_ => ?_) <;> simp only [hb_]) | (refine wayD_by (F := ans) (fun _ hb_ => ?_) (fun _ hb_ => ?_) <;> simp only [hb_]) | (refine wayD_byN (F := ans) (fun _ hb_ => ?_) (fun _ hb_ => ?_) <;> simp only [hb_]) | (refine rdK_by (F := ans) (fun _ => ?_) (fun _ => ?_)) | (refine effK_by (F := ans) (fun _ => ?_) (fun _ => ?_)) | (refine effK_by2 (F := ans) (fun _ => ?_) (fun _ => ?_)) | (refine rdD_by (F := ans) (fun _ => ?_) (fun _ => ?_)) | (refine effD_by (F := ans) (fun _ => ?_) (fun _ => ?_)) | (refine effD_by2 (F := ans) (fun _ => ?_) (fun _ => ?_)) | simp -implicitDefEqProofs (disch := first | omega | (simp only [List.length_append, List.length_cons, List.length_nil, List.length_drop, List.length_take]; omega)) only [evs, tys, lors, Nat.reduceAdd, Nat.reduceSub, Nat.reduceMul, Nat.reducePow, Nat.reduceBEq, Nat.reduceLT, Nat.reduceLeDiff, Nat.reduceEqDiff, Int.reduceLT, Int.reduceLE, Int.reduceEq, Int.reduceNe, Int.reduceToNat, Int.reduceAdd, Int.reduceSub, Int.reduceMul, Int.reducePow, Int.reduceDiv, Int.reduceMod, Int.reduceNeg, reduceCtorEq, codeKey, List.contains, List.elem, Ev.load, peek, pack, storeV, fieldAddr, field, cvB])
    all_goals rfl


/-- So many digits of a number. -/
def digs (B : Int) : Nat → Int → List Int
  | 0, _ => []
  | n + 1, v => v % B :: digs B n (v / B)
theorem digs_len (B : Int) : ∀ (n : Nat) (v : Int), (digs B n v).length = n
  | 0, _ => rfl
  | n + 1, v => by rw [digs, List.length_cons, digs_len B n]
theorem digs_us {B : Int} (hB : 0 < B) : ∀ (n : Nat) (v : Int), Us B (digs B n v)
  | 0, _ => fun x hx => by simp [digs] at hx
  | n + 1, v => by
    rw [digs]
    exact us_cons.2 ⟨⟨Int.emod_nonneg _ (by omega), Int.emod_lt_of_pos _ hB⟩, digs_us hB n _⟩
theorem digs_wv {B : Int} (hB : 0 < B) : ∀ (n : Nat) (v : Int), 0 ≤ v → v < B ^ n → wv B (digs B n v) = v
  | 0, v, h0, h1 => by
    simp only [Int.pow_zero] at h1
    simp only [digs, wv]
    omega
  | n + 1, v, h0, h1 => by
    rw [Int.pow_succ'] at h1
    rw [digs, wv, digs_wv hB n (v / B) (Int.ediv_nonneg h0 (by omega)) (Int.ediv_lt_of_lt_mul hB (by rw [Int.mul_comm]; exact h1))]
    have := Int.mul_ediv_add_emod v B
    omega
theorem digs_eq {B : Int} (hB : 0 < B) : ∀ l : List Int, Us B l → l = digs B l.length (wv B l)
  | [], _ => rfl
  | x :: r, h => by
    obtain ⟨h1, h2⟩ := us_cons.1 h
    have ih := digs_eq hB r h2
    rw [List.length_cons, digs, wv, Int.add_mul_emod_self_left, Int.emod_eq_of_lt h1.1 h1.2, Int.add_mul_ediv_left _ _ (by omega), Int.ediv_eq_zero_of_lt h1.1 h1.2, Int.zero_add, ← ih]
theorem mk83 {h : Heap} {n : Int} (h0 : 0 ≤ n) (h1 : n ≤ 1000000) : mksO Try.prog h 83 (.int .i64 n) (.int .i64 n) = some (.row h.length n.toNat, h ++ [⟨List.replicate n.toNat (.int .u32 0), 1, true, false⟩]) := by
  have hz : sizeT Try.prog 82 = 1 := sz82
  have hb := by82
  simp only [mksO, Try.underlying83, zero82, Option.bind_some, hz]
  have hm : n * (bytesT Try.prog 82 : Int) ≤ maxLen47 := by
    have := Int.mul_le_mul (a := n) (b := bytesT Try.prog 82) (c := 1000000) (d := 1024) h1 (by omega) (by omega) (by omega)
    have : ((maxLen47 : Nat) : Int) = 140737488355328 := by decide
    omega
  rw [if_pos ⟨h0, Int.le_refl _, hm, by have : ((maxLen47 : Nat) : Int) = 140737488355328 := by decide
                                        omega, by decide, rfl, rfl, rfl⟩]
theorem onElem_i32 {k : IntKind} {n : Int} {v : V} : onElem (.int k n) 0 [v] = v := rfl
theorem sqIn (bs : List Int) (c2 : Bool) (hbs : Us 4294967296 bs) (hbl : bs.length ≤ 100000) (i : Nat) (hi : i ≤ 100000) (x : Int) (hx : 0 ≤ x ∧ x < 4294967296) (hxi : (enc32 bs)[i]? = some (.int .u32 x)) (hil : i < bs.length) (tot : Nat) (K : Kont) (R : Option V) (a : Code) (ha : loopIn Try.prog 55 7 = some a) (fin : List Int) (cf : Int)
    (hR : ans (K (.exit 2) (Sl 63 .wild [(0, .sl (enc32 bs) 1 c2), (3, .row 0 tot), (4, .int .i64 i), (5, .int .u64 cf), (6, .int .i64 bs.length)]) [⟨enc32 fin, 1, true, false⟩]) = R) :
    ∀ (ys bd pre os : List Int) (c j : Int), bs = bd ++ ys → j = bd.length → pre.length = i + bd.length → ys.length ≤ os.length → pre.length + os.length = tot → Us 4294967296 os → (0 ≤ c ∧ c < 4294967296) → pre ++ mrow 4294967296 x ys os c = fin → mcar 4294967296 x ys os c = cf →
    ans (loopL lore 55 a (Sl 63 .wild [(0, .sl (enc32 bs) 1 c2), (3, .row 0 tot), (4, .int .i64 i), (5, .int .u64 c), (6, .int .i64 j)]) [⟨enc32 (pre ++ os), 1, true, false⟩] K) = R := by
  have hk := loop_key ha
  simp only [loopIn, Try.func55, Try.f55, loopAt, Option.bind_some, codeKey, if_true, Option.some.injEq, Nat.reduceEqDiff, if_false] at ha
  intro ys
  induction ys with
  | nil =>
    intro bd pre os c j hb hj hp ho ht hu hc hfin hcf
    simp only [mrow, mcar] at hfin hcf
    subst hfin hcf hj
    rw [List.append_nil] at hb
    subst hb
    have e4 := enc32_len bs
    rw [loopL_step' ha]
    repeat' (first | (refine cond_by (F := ans) (fun _ => ?_) (fun _ => ?_)) | (refine wayK_by (F := ans) (fun _ hb_ => ?_) (fun _ hb_ => ?_) <;> simp only [hb_]) | (refine wayK_byN (F := ans) (fun _ hb_ => ?_) (fun _ hb_ => ?_) <;> simp only [hb_]) | (refine wayD_by (F := ans) (fun _ hb_ => ?_) (fun _ hb_ => ?_) <;> simp only [hb_]) | (refine wayD_byN (F := ans) (fun _ hb_ => ?_) (fun _ hb_ => ?_) <;> simp only [hb_]) | (refine rdK_by (F := ans) (fun _ => ?_) (fun _ => ?_)) | (refine effK_by (F := ans) (fun _ => ?_) (fun _ => ?_)) | (refine effK_by2 (F := ans) (fun _ => ?_) (fun _ => ?_)) | (refine rdD_by (F := ans) (fun _ => ?_) (fun _ => ?_)) | (refine effD_by (F := ans) (fun _ => ?_) (fun _ => ?_)) | (refine effD_by2 (F := ans) (fun _ => ?_) (fun _ => ?_)) | simp -implicitDefEqProofs (disch := first | omega | (simp only [List.length_append, List.length_cons, List.length_nil, List.length_drop, List.length_take]; omega)) only [evs, tys, lors, Nat.reduceAdd, Nat.reduceSub, Nat.reduceMul, Nat.reducePow, Nat.reduceBEq, Nat.reduceLT, Nat.reduceLeDiff, Nat.reduceEqDiff, Int.reduceLT, Int.reduceLE, Int.reduceEq, Int.reduceNe, Int.reduceToNat, Int.reduceAdd, Int.reduceSub, Int.reduceMul, Int.reducePow, Int.reduceDiv, Int.reduceMod, Int.reduceNeg, reduceCtorEq, codeKey, List.contains, List.elem, Ev.load, peek, pack, storeV, fieldAddr, field, cvB, hk, e4])
    all_goals first
      | (exfalso; omega)
      | exact hR
  | cons y ys ih =>
    intro bd pre os c j hb hj hp ho ht hu hc hfin hcf
    cases os with
    | nil => simp at ho
    | cons o os =>
      obtain ⟨hy, hu2⟩ := us_cons.1 (us_append.1 (hb ▸ hbs)).2
      obtain ⟨ho1, ho2⟩ := us_cons.1 hu
      obtain ⟨s1, s2, s3, s4, s5, s6, s7⟩ := step_bounds (by decide) hx hy hc ho1
      simp only [mrow, mcar] at hfin hcf
      have e1 : (enc32 bs)[j.toNat]? = some (.int .u32 y) := by
        rw [hb, hj, Int.toNat_natCast]; exact enc32_get bd y ys
      have e1' : (enc32 bs)[(i : Int).toNat]? = some (.int .u32 x) := by rw [Int.toNat_natCast]; exact hxi
      have e2 : (enc32 (pre ++ o :: os))[((i : Int) + j).toNat]? = some (.int .u32 o) := by
        rw [show ((i : Int) + j).toNat = pre.length by omega]; exact enc32_get pre o os
      have e3 : ∀ z, (enc32 (pre ++ o :: os)).set ((i : Int) + j).toNat (.int .u32 z) = enc32 (pre ++ z :: os) := fun z => by
        rw [show ((i : Int) + j).toNat = pre.length by omega]; exact enc32_set pre o z os
      have e4 := enc32_len bs
      have e5 : (enc32 (pre ++ o :: os)).length = tot := by rw [enc32_len, List.length_append, List.length_cons]; simpa using ht
      have hl : j < bs.length ∧ bs.length = bd.length + ys.length + 1 := by rw [hb]; simp; omega
      simp only [List.length_cons] at ho ht
      generalize hxy : x * y = p at *
      have e6 : (p + o + c) % 4294967296 = (p + c + o) % 4294967296 := by omega
      have e7 : (p + o + c) / 4294967296 = (p + c + o) / 4294967296 := by omega
      have hpu : p ≤ 18446744073709551615 ∧ p + o + c ≤ 18446744073709551615 := by omega
      rw [loopL_step' ha]
      repeat' (first | (refine cond_by (F := ans) (fun _ => ?_) (fun _ => ?_)) | (refine wayK_by (F := ans) (fun _ hb_ => ?_) (fun _ hb_ => ?_) <;> simp only [hb_]) | (refine wayK_byN (F := ans) (fun _ hb_ => ?_) (fun _ hb_ => ?_) <;> simp only [hb_]) | (refine wayD_by (F := ans) (fun _ hb_ => ?_) (fun _ hb_ => ?_) <;> simp only [hb_]) | (refine wayD_byN (F := ans) (fun _ hb_ => ?_) (fun _ hb_ => ?_) <;> simp only [hb_]) | (refine rdK_by (F := ans) (fun _ => ?_) (fun _ => ?_)) | (refine effK_by (F := ans) (fun _ => ?_) (fun _ => ?_)) | (refine effK_by2 (F := ans) (fun _ => ?_) (fun _ => ?_)) | (refine rdD_by (F := ans) (fun _ => ?_) (fun _ => ?_)) | (refine effD_by (F := ans) (fun _ => ?_) (fun _ => ?_)) | (refine effD_by2 (F := ans) (fun _ => ?_) (fun _ => ?_)) | simp -implicitDefEqProofs (disch := first | omega | (simp only [List.length_append, List.length_cons, List.length_nil, List.length_drop, List.length_take]; omega)) only [evs, tys, lors, Nat.reduceAdd, Nat.reduceSub, Nat.reduceMul, Nat.reducePow, Nat.reduceBEq, Nat.reduceLT, Nat.reduceLeDiff, Nat.reduceEqDiff, Int.reduceLT, Int.reduceLE, Int.reduceEq, Int.reduceNe, Int.reduceToNat, Int.reduceAdd, Int.reduceSub, Int.reduceMul, Int.reducePow, Int.reduceDiv, Int.reduceMod, Int.reduceNeg, reduceCtorEq, codeKey, List.contains, List.elem, Ev.load, peek, pack, storeV, fieldAddr, field, cvB, hk, hxi, hxy, e1, e1', e2, e3, e4, e5, e6, e7, bits1, IntKind.wrap_u32, implies_true, onElem_i32])
      all_goals first
        | (exfalso; omega)
        | skip
      have := ih (bd ++ [y]) (pre ++ [(p + c + o) % 4294967296]) os ((p + c + o) / 4294967296) (j + 1) (by rw [hb, List.append_assoc]; rfl) (by simp; omega) (by simp; omega) (by omega) (by simp; omega) ho2 ⟨s4, s5⟩ (by rw [← hfin, List.append_assoc]; rfl) hcf
      rw [List.append_assoc] at this
      exact this
theorem sqOut (bs : List Int) (c2 : Bool) (hbs : Us 4294967296 bs) (hbl : bs.length ≤ 100000) (K : Kont) (R : Option V) (a : Code) (ha : loopIn Try.prog 55 3 = some a)
    (hR : ∀ fin : List Int, fin.length = bs.length + bs.length → Us 4294967296 fin → wv 4294967296 fin = wv 4294967296 bs * wv 4294967296 bs → ans (K (.exit 0) (Sl 63 .wild [(0, .sl (enc32 bs) 1 c2), (3, .row 0 (bs.length + bs.length)), (4, .int .i64 bs.length)]) [⟨enc32 fin, 1, true, false⟩]) = R) :
    ∀ (xs ad o : List Int) (j : Int), bs = ad ++ xs → j = ad.length → o.length = ad.length + bs.length → Us 4294967296 o → wv 4294967296 o = wv 4294967296 ad * wv 4294967296 bs →
    ans (loopL lore 55 a (Sl 63 .wild [(0, .sl (enc32 bs) 1 c2), (3, .row 0 (bs.length + bs.length)), (4, .int .i64 j)]) [⟨enc32 (o ++ List.replicate xs.length 0), 1, true, false⟩] K) = R := by
  have hk := loop_key ha
  simp only [loopIn, Try.func55, Try.f55, loopAt, Option.bind_some, codeKey, if_true, Option.some.injEq, Nat.reduceEqDiff, if_false] at ha
  have hB : (0 : Int) < 4294967296 := by decide
  have e4 := enc32_len bs
  intro xs
  induction xs with
  | nil =>
    intro ad o j hb hj ho hu hv
    rw [List.append_nil] at hb
    subst hb hj
    rw [List.length_nil, List.replicate_zero, List.append_nil]
    rw [loopL_step' ha]
    repeat' (first | (refine cond_by (F := ans) (fun _ => ?_) (fun _ => ?_)) | (refine wayK_by (F := ans) (fun _ hb_ => ?_) (fun _ hb_ => ?_) <;> simp only [hb_]) | (refine wayK_byN (F := ans) (fun _ hb_ => ?_) (fun _ hb_ => ?_) <;> simp only [hb_]) | (refine wayD_by (F := ans) (fun _ hb_ => ?_) (fun _ hb_ => ?_) <;> simp only [hb_]) | (refine wayD_byN (F := ans) (fun _ hb_ => ?_) (fun _ hb_ => ?_) <;> simp only [hb_]) | (refine rdK_by (F := ans) (fun _ => ?_) (fun _ => ?_)) | (refine effK_by (F := ans) (fun _ => ?_) (fun _ => ?_)) | (refine effK_by2 (F := ans) (fun _ => ?_) (fun _ => ?_)) | (refine rdD_by (F := ans) (fun _ => ?_) (fun _ => ?_)) | (refine effD_by (F := ans) (fun _ => ?_) (fun _ => ?_)) | (refine effD_by2 (F := ans) (fun _ => ?_) (fun _ => ?_)) | simp -implicitDefEqProofs (disch := first | omega | (simp only [List.length_append, List.length_cons, List.length_nil, List.length_drop, List.length_take]; omega)) only [evs, tys, lors, Nat.reduceAdd, Nat.reduceSub, Nat.reduceMul, Nat.reducePow, Nat.reduceBEq, Nat.reduceLT, Nat.reduceLeDiff, Nat.reduceEqDiff, Int.reduceLT, Int.reduceLE, Int.reduceEq, Int.reduceNe, Int.reduceToNat, Int.reduceAdd, Int.reduceSub, Int.reduceMul, Int.reducePow, Int.reduceDiv, Int.reduceMod, Int.reduceNeg, reduceCtorEq, codeKey, List.contains, List.elem, Ev.load, peek, pack, storeV, fieldAddr, field, cvB, hk, e4])
    all_goals first
      | (exfalso; omega)
      | exact hR o ho hu hv
  | cons x xs ih =>
    intro ad o j hb hj ho hu hv
    obtain ⟨hx, hu2⟩ := us_cons.1 (us_append.1 (hb ▸ hbs)).2
    have e1 : (enc32 bs)[ad.length]? = some (.int .u32 x) := by
      rw [hb]; exact enc32_get ad x xs
    have hl : j < bs.length ∧ bs.length = ad.length + xs.length + 1 := by rw [hb]; simp; omega
    obtain ⟨o1, o2, rfl, h1, h2⟩ : ∃ o1 o2, o = o1 ++ o2 ∧ o1.length = ad.length ∧ o2.length = bs.length := ⟨o.take ad.length, o.drop ad.length, (List.take_append_drop ..).symm, by rw [List.length_take]; omega, by rw [List.length_drop]; omega⟩
    obtain ⟨u1, u2⟩ := us_append.1 hu
    have mu := mrow_us hB x hx bs o2 0 hbs u2 (by decide)
    have ml := mrow_len 4294967296 x bs o2 0
    have mv := mrow_val hB x bs o2 0 (by omega)
    have hj2 : j = ((ad.length : Nat) : Int) := hj
    subst hj2
    rw [loopL_step' ha]
    repeat' (first | (refine cond_by (F := ans) (fun _ => ?_) (fun _ => ?_)) | (refine wayK_by (F := ans) (fun _ hb_ => ?_) (fun _ hb_ => ?_) <;> simp only [hb_]) | (refine wayK_byN (F := ans) (fun _ hb_ => ?_) (fun _ hb_ => ?_) <;> simp only [hb_]) | (refine wayD_by (F := ans) (fun _ hb_ => ?_) (fun _ hb_ => ?_) <;> simp only [hb_]) | (refine wayD_byN (F := ans) (fun _ hb_ => ?_) (fun _ hb_ => ?_) <;> simp only [hb_]) | (refine rdK_by (F := ans) (fun _ => ?_) (fun _ => ?_)) | (refine effK_by (F := ans) (fun _ => ?_) (fun _ => ?_)) | (refine effK_by2 (F := ans) (fun _ => ?_) (fun _ => ?_)) | (refine rdD_by (F := ans) (fun _ => ?_) (fun _ => ?_)) | (refine effD_by (F := ans) (fun _ => ?_) (fun _ => ?_)) | (refine effD_by2 (F := ans) (fun _ => ?_) (fun _ => ?_)) | simp -implicitDefEqProofs (disch := first | omega | (simp only [List.length_append, List.length_cons, List.length_nil, List.length_drop, List.length_take]; omega)) only [evs, tys, lors, Nat.reduceAdd, Nat.reduceSub, Nat.reduceMul, Nat.reducePow, Nat.reduceBEq, Nat.reduceLT, Nat.reduceLeDiff, Nat.reduceEqDiff, Int.reduceLT, Int.reduceLE, Int.reduceEq, Int.reduceNe, Int.reduceToNat, Int.reduceAdd, Int.reduceSub, Int.reduceMul, Int.reducePow, Int.reduceDiv, Int.reduceMod, Int.reduceNeg, reduceCtorEq, codeKey, List.contains, List.elem, Ev.load, peek, pack, storeV, fieldAddr, field, cvB, hk, e1, e4])
    all_goals first
      | (exfalso; omega)
      | skip
    have ap := mrow_app 4294967296 x bs o2 (0 :: List.replicate xs.length 0) 0 h2.symm
    rw [List.replicate_succ, List.append_assoc]
    refine sqIn bs c2 hbs (by omega) ad.length (by omega) x hx e1 (by omega) (bs.length + bs.length) _ _ _ (by rfl) (o1 ++ (mrow 4294967296 x bs o2 0 ++ 0 :: List.replicate xs.length 0)) (mcar 4294967296 x bs o2 0) ?_ bs [] o1 (o2 ++ 0 :: List.replicate xs.length 0) 0 0 rfl rfl (by simpa using h1) (by simp; omega) (by simp; omega) (us_append.2 ⟨u2, us_cons.2 ⟨by decide, us_zeros hB _⟩⟩) (by decide) (by rw [ap.1]) ap.2
    generalize mrow 4294967296 x bs o2 0 = m at *
    generalize mcar 4294967296 x bs o2 0 = cr at *
    have e6 : (enc32 (o1 ++ (m ++ 0 :: List.replicate xs.length 0))).length = bs.length + bs.length := by rw [enc32_len]; simp; omega
    have e7 : ∀ z, (enc32 (o1 ++ (m ++ 0 :: List.replicate xs.length 0))).set ((ad.length : Int) + (bs.length : Int)).toNat (.int .u32 z) = enc32 (o1 ++ (m ++ z :: List.replicate xs.length 0)) := fun z => by
      rw [show ((ad.length : Int) + (bs.length : Int)).toNat = (o1 ++ m).length by simp; omega, ← List.append_assoc, enc32_set, List.append_assoc]
    have e8 : (enc32 (o1 ++ (m ++ 0 :: List.replicate xs.length 0)))[((ad.length : Int) + (bs.length : Int)).toNat]? = some (.int .u32 0) := by
      rw [show ((ad.length : Int) + (bs.length : Int)).toNat = (o1 ++ m).length by simp; omega, ← List.append_assoc, enc32_get]
    obtain ⟨_, mu1, mu2⟩ := mu
    repeat' (first | (refine cond_by (F := ans) (fun _ => ?_) (fun _ => ?_)) | (refine wayK_by (F := ans) (fun _ hb_ => ?_) (fun _ hb_ => ?_) <;> simp only [hb_]) | (refine wayK_byN (F := ans) (fun _ hb_ => ?_) (fun _ hb_ => ?_) <;> simp only [hb_]) | (refine wayD_by (F := ans) (fun _ hb_ => ?_) (fun _ hb_ => ?_) <;> simp only [hb_]) | (refine wayD_byN (F := ans) (fun _ hb_ => ?_) (fun _ hb_ => ?_) <;> simp only [hb_]) | (refine rdK_by (F := ans) (fun _ => ?_) (fun _ => ?_)) | (refine effK_by (F := ans) (fun _ => ?_) (fun _ => ?_)) | (refine effK_by2 (F := ans) (fun _ => ?_) (fun _ => ?_)) | (refine rdD_by (F := ans) (fun _ => ?_) (fun _ => ?_)) | (refine effD_by (F := ans) (fun _ => ?_) (fun _ => ?_)) | (refine effD_by2 (F := ans) (fun _ => ?_) (fun _ => ?_)) | simp -implicitDefEqProofs (disch := first | omega | (simp only [List.length_append, List.length_cons, List.length_nil, List.length_drop, List.length_take]; omega)) only [evs, tys, lors, Nat.reduceAdd, Nat.reduceSub, Nat.reduceMul, Nat.reducePow, Nat.reduceBEq, Nat.reduceLT, Nat.reduceLeDiff, Nat.reduceEqDiff, Int.reduceLT, Int.reduceLE, Int.reduceEq, Int.reduceNe, Int.reduceToNat, Int.reduceAdd, Int.reduceSub, Int.reduceMul, Int.reducePow, Int.reduceDiv, Int.reduceMod, Int.reduceNeg, reduceCtorEq, codeKey, List.contains, List.elem, Ev.load, peek, pack, storeV, fieldAddr, field, cvB, hk, e4, e6, e7, e8, implies_true, onElem_i32])
    have := ih (ad ++ [x]) (o1 ++ (m ++ [cr])) (ad.length + 1) (by rw [hb, List.append_assoc]; rfl) (by simp) (by simp; omega) (us_append.2 ⟨u1, us_append.2 ⟨by assumption, us_cons.2 ⟨⟨mu1, mu2⟩, fun x hx => by simp at hx⟩⟩⟩) (by
      rw [wv_append] at hv ⊢
      rw [wv_append, wv_append, ml, h2, h1]
      simp only [wv, Int.mul_zero, Int.add_zero]
      rw [h1] at hv
      generalize wv 4294967296 m = Wm at *
      generalize wv 4294967296 o1 = W1 at *
      generalize wv 4294967296 o2 = W2 at *
      generalize wv 4294967296 ad = Wa at *
      generalize wv 4294967296 bs = Wb at *
      generalize (4294967296 : Int) ^ ad.length = P at *
      generalize (4294967296 : Int) ^ bs.length = Q at *
      grind)
    rw [List.append_assoc, List.append_assoc] at this
    exact this
theorem squared_cv (bs : List Int) (c : Bool) (hbs : Us 4294967296 bs) (hbl : bs.length ≤ 100000) (H : Heap) : callV (CL lore) 55 [.sl (enc32 bs) 1 c] H = some (.sl (enc32 (digs 4294967296 (bs.length + bs.length) (wv 4294967296 bs * wv 4294967296 bs))) 1 false, H) := by
  refine callV_ans (r := some _) ?_ lore_sh55 rfl H
  rw [call_start lore_ext55 Try.func55 rfl lore_okf55 (Nat.le_of_ble_eq_true rfl)]
  have e4 := enc32_len bs
  repeat' (first | (refine cond_by (F := ans) (fun _ => ?_) (fun _ => ?_)) | (refine wayK_by (F := ans) (fun _ hb_ => ?_) (fun _ hb_ => ?_) <;> simp only [hb_]) | (refine wayK_byN (F := ans) (fun _ hb_ => ?_) (fun _ hb_ => ?_) <;> simp only [hb_]) | (refine wayD_by (F := ans) (fun _ hb_ => ?_) (fun _ hb_ => ?_) <;> simp only [hb_]) | (refine wayD_byN (F := ans) (fun _ hb_ => ?_) (fun _ hb_ => ?_) <;> simp only [hb_]) | (refine rdK_by (F := ans) (fun _ => ?_) (fun _ => ?_)) | (refine effK_by (F := ans) (fun _ => ?_) (fun _ => ?_)) | (refine effK_by2 (F := ans) (fun _ => ?_) (fun _ => ?_)) | (refine rdD_by (F := ans) (fun _ => ?_) (fun _ => ?_)) | (refine effD_by (F := ans) (fun _ => ?_) (fun _ => ?_)) | (refine effD_by2 (F := ans) (fun _ => ?_) (fun _ => ?_)) | simp -implicitDefEqProofs (disch := first | omega | (simp only [List.length_append, List.length_cons, List.length_nil, List.length_drop, List.length_take]; omega)) only [evs, tys, lors, Nat.reduceAdd, Nat.reduceSub, Nat.reduceMul, Nat.reducePow, Nat.reduceBEq, Nat.reduceLT, Nat.reduceLeDiff, Nat.reduceEqDiff, Int.reduceLT, Int.reduceLE, Int.reduceEq, Int.reduceNe, Int.reduceToNat, Int.reduceAdd, Int.reduceSub, Int.reduceMul, Int.reducePow, Int.reduceDiv, Int.reduceMod, Int.reduceNeg, reduceCtorEq, codeKey, List.contains, List.elem, Ev.load, peek, pack, storeV, fieldAddr, field, cvB, mk83, e4])
  have el : (2 * (bs.length : Int)).toNat = bs.length + bs.length := by omega
  have ez : List.replicate (bs.length + bs.length) (V.int .u32 0) = enc32 (List.replicate bs.length 0 ++ List.replicate bs.length 0) := by
    rw [List.replicate_append_replicate, enc32, List.map_replicate]
  rw [el, ez]
  refine sqOut bs c hbs hbl _ _ _ (by rfl) ?_ bs [] (List.replicate bs.length 0) 0 rfl rfl (by simp) (us_zeros (by decide) _) (by rw [wv_zeros]; simp [wv])
  intro fin f1 f2 f3
  have hd := digs_eq (by decide) fin f2
  rw [f1, f3] at hd
  have e6 : (enc32 fin).length = bs.length + bs.length := by rw [enc32_len, f1]
  rw [← hd]
  repeat' (first | (refine cond_by (F := ans) (fun _ => ?_) (fun _ => ?_)) | (refine wayK_by (F := ans) (fun _ hb_ => ?_) (fun _ hb_ => ?_) <;> simp only [hb_]) | (refine wayK_byN (F := ans) (fun _ hb_ => ?_) (fun _ hb_ => ?_) <;> simp only [hb_]) | (refine wayD_by (F := ans) (fun _ hb_ => ?_) (fun _ hb_ => ?_) <;> simp only [hb_]) | (refine wayD_byN (F := ans) (fun _ hb_ => ?_) (fun _ hb_ => ?_) <;> simp only [hb_]) | (refine rdK_by (F := ans) (fun _ => ?_) (fun _ => ?_)) | (refine effK_by (F := ans) (fun _ => ?_) (fun _ => ?_)) | (refine effK_by2 (F := ans) (fun _ => ?_) (fun _ => ?_)) | (refine rdD_by (F := ans) (fun _ => ?_) (fun _ => ?_)) | (refine effD_by (F := ans) (fun _ => ?_) (fun _ => ?_)) | (refine effD_by2 (F := ans) (fun _ => ?_) (fun _ => ?_)) | simp -implicitDefEqProofs (disch := first | omega | (simp only [List.length_append, List.length_cons, List.length_nil, List.length_drop, List.length_take]; omega)) only [evs, tys, lors, Nat.reduceAdd, Nat.reduceSub, Nat.reduceMul, Nat.reducePow, Nat.reduceBEq, Nat.reduceLT, Nat.reduceLeDiff, Nat.reduceEqDiff, Int.reduceLT, Int.reduceLE, Int.reduceEq, Int.reduceNe, Int.reduceToNat, Int.reduceAdd, Int.reduceSub, Int.reduceMul, Int.reducePow, Int.reduceDiv, Int.reduceMod, Int.reduceNeg, reduceCtorEq, codeKey, List.contains, List.elem, Ev.load, peek, pack, storeV, fieldAddr, field, cvB, e6, e4])
  all_goals simp [giveP, give, fz2, fz1, e6]
end Go.Proofs.Ytacnpljkcpomnaa
