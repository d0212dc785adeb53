/-
scale: the document's place; Check, Count, Index.
-/
import Derived.Test.YtacnpljkcpomnaaS2
namespace Go.Proofs.Ytacnpljkcpomnaa
open Go Ev
set_option linter.all false
set_option maxHeartbeats 4000000
set_option maxRecDepth 5000
attribute [local irreducible] codeL condL loopL callL callV evOps evDraw rdK effK wayK oneK wayD oneD rdD effD chks chkB res

theorem k_half (e : Nat) (x : Int) (h0 : 0 ≤ x) (h1 : x ≤ 2305843009213693952) (j : Nat) (hx : ¬ x < 2 ^ e) : (j < kOf e x → 2 ^ e ≤ x / 2 ^ j) := by
  obtain ⟨n, rfl⟩ : ∃ n : Nat, x = (n : Int) := ⟨x.toNat, by omega⟩
  unfold kOf
  rw [Int.toNat_natCast]
  intro hj
  have hp : (0 : Int) < 2 ^ e := Int.pow_pos (by decide)
  obtain ⟨b1, b2, b3⟩ := bitLen_bounds n (by omega) (by omega)
  generalize Lib.bitLen n = b at *
  have c2 : (2 : Int) ^ (b - 1) ≤ n := by exact_mod_cast b2
  refine (Int.le_ediv_iff_mul_le (Int.pow_pos (by decide))).2 ?_
  rw [← Int.pow_add]
  have := pow_le (show e + j ≤ b - 1 by omega)
  omega
theorem half_more (x : Int) (j : Nat) : x / 2 ^ j / 2 = x / 2 ^ (j + 1) := by
  rw [Int.ediv_ediv_of_nonneg (Int.le_of_lt (Int.pow_pos (by decide))), ← Int.pow_succ]
theorem loop33 (e : Nat) (he : Sub3 e) (x : Int) (h0 : 0 ≤ x) (h1 : x ≤ 2305843009213693952) (hx : ¬ x < 2 ^ e) (hk62 : kOf e x ≤ 62) (hkx : x / 2 ^ kOf e x < 2 ^ e) (K : Kont) (R : Option V) (a : Code) (ha : loopIn Try.prog 33 7 = some a) (H : Heap)
    (hR : ans (K (.exit 0) (Sl 39 .wild [(6, .int .i64 (2 ^ e)), (7, .int .i64 (kOf e x : Nat)), (8, .int .i64 (x / 2 ^ kOf e x))]) H) = R) :
    ∀ (n j : Nat) (y z : Int), y = x / 2 ^ j → z = j → kOf e x - j = n → j ≤ kOf e x → ans (loopL lore 33 a (Sl 39 .wild [(6, .int .i64 (2 ^ e)), (7, .int .i64 z), (8, .int .i64 y)]) H K) = R := by
  have hk := loop_key ha
  simp only [loopIn, Try.func33, Try.f33, loopAt, Option.bind_some, codeKey, if_true, Option.some.injEq, Nat.reduceEqDiff, if_false] at ha
  intro n
  induction n with
  | zero =>
    intro j y z hy hz hn hj
    subst hy hz
    obtain rfl : j = kOf e x := by omega
    rw [loopL_step' ha]
    repeat' (first | (refine cond_by (F := ans) (fun _ => ?_) (fun _ => ?_)) | (refine wayK_by (F := ans) (fun _ hb_ => ?_) (fun _ hb_ => ?_) <;> simp only [hb_]) | (refine wayK_byN (F := ans) (fun _ hb_ => ?_) (fun _ hb_ => ?_) <;> simp only [hb_]) | (refine wayD_by (F := ans) (fun _ hb_ => ?_) (fun _ hb_ => ?_) <;> simp only [hb_]) | (refine wayD_byN (F := ans) (fun _ hb_ => ?_) (fun _ hb_ => ?_) <;> simp only [hb_]) | (refine rdK_by (F := ans) (fun _ => ?_) (fun _ => ?_)) | (refine effK_by (F := ans) (fun _ => ?_) (fun _ => ?_)) | (refine effK_by2 (F := ans) (fun _ => ?_) (fun _ => ?_)) | (refine rdD_by (F := ans) (fun _ => ?_) (fun _ => ?_)) | (refine effD_by (F := ans) (fun _ => ?_) (fun _ => ?_)) | (refine effD_by2 (F := ans) (fun _ => ?_) (fun _ => ?_)) | simp -implicitDefEqProofs (disch := first | omega | (simp only [List.length_append, List.length_cons, List.length_nil, List.length_drop, List.length_take]; omega)) only [evs, tys, lors, Nat.reduceAdd, Nat.reduceSub, Nat.reduceMul, Nat.reducePow, Nat.reduceBEq, Nat.reduceLT, Nat.reduceLeDiff, Nat.reduceEqDiff, Int.reduceLT, Int.reduceLE, Int.reduceEq, Int.reduceNe, Int.reduceToNat, Int.reduceAdd, Int.reduceSub, Int.reduceMul, Int.reducePow, Int.reduceDiv, Int.reduceMod, Int.reduceNeg, reduceCtorEq, codeKey, List.contains, List.elem, Ev.load, peek, pack, storeV, fieldAddr, field, cvB, hk])
    · exfalso; omega
    · exact hR
  | succ n ih =>
    intro j y z hy hz hn hj
    subst hy hz
    have hh := k_half e x h0 h1 j hx (by omega)
    have a0 : 0 ≤ x / 2 ^ j := Int.ediv_nonneg h0 (Int.le_of_lt (Int.pow_pos (by decide)))
    have a1 : x / 2 ^ j ≤ x := Int.ediv_le_self _ h0
    have b0 : 0 ≤ x / 2 ^ (j + 1) := Int.ediv_nonneg h0 (Int.le_of_lt (Int.pow_pos (by decide)))
    have b1 : x / 2 ^ (j + 1) ≤ x := Int.ediv_le_self _ h0
    rw [loopL_step' ha]
    repeat' (first | (refine cond_by (F := ans) (fun _ => ?_) (fun _ => ?_)) | (refine wayK_by (F := ans) (fun _ hb_ => ?_) (fun _ hb_ => ?_) <;> simp only [hb_]) | (refine wayK_byN (F := ans) (fun _ hb_ => ?_) (fun _ hb_ => ?_) <;> simp only [hb_]) | (refine wayD_by (F := ans) (fun _ hb_ => ?_) (fun _ hb_ => ?_) <;> simp only [hb_]) | (refine wayD_byN (F := ans) (fun _ hb_ => ?_) (fun _ hb_ => ?_) <;> simp only [hb_]) | (refine rdK_by (F := ans) (fun _ => ?_) (fun _ => ?_)) | (refine effK_by (F := ans) (fun _ => ?_) (fun _ => ?_)) | (refine effK_by2 (F := ans) (fun _ => ?_) (fun _ => ?_)) | (refine rdD_by (F := ans) (fun _ => ?_) (fun _ => ?_)) | (refine effD_by (F := ans) (fun _ => ?_) (fun _ => ?_)) | (refine effD_by2 (F := ans) (fun _ => ?_) (fun _ => ?_)) | simp -implicitDefEqProofs (disch := first | omega | (simp only [List.length_append, List.length_cons, List.length_nil, List.length_drop, List.length_take]; omega)) only [evs, tys, lors, Nat.reduceAdd, Nat.reduceSub, Nat.reduceMul, Nat.reducePow, Nat.reduceBEq, Nat.reduceLT, Nat.reduceLeDiff, Nat.reduceEqDiff, Int.reduceLT, Int.reduceLE, Int.reduceEq, Int.reduceNe, Int.reduceToNat, Int.reduceAdd, Int.reduceSub, Int.reduceMul, Int.reducePow, Int.reduceDiv, Int.reduceMod, Int.reduceNeg, reduceCtorEq, codeKey, List.contains, List.elem, Ev.load, peek, pack, storeV, fieldAddr, field, cvB, hk, half_more, cast_succ])
    · exact ih (j + 1) _ _ rfl rfl (by omega) (by omega)
    · exfalso; omega
theorem place_cv (L M D : Int) (h0 : 1 ≤ L) (h1 : L ≤ 1099511627776) (hD : 1 ≤ D ∧ D ≤ 3) (v : Int) (v0 : 0 ≤ v) (v1 : v ≤ 2305843009213693952) (H : Heap) :
    callV (CL lore) 33 [.agg [.int .i64 L, .int .i64 M, .int .i64 D], .int .i64 v] H = some (.int .i64 (idxZ (subE D) (v / 2 ^ uOf L)), H) := by
  refine callV_ans (r := some _) ?_ lore_sh33 rfl H
  rw [call_start lore_ext33 Try.func33 rfl lore_okf33 (Nat.le_of_ble_eq_true rfl)]
  have hu := fun H => unit_cv L M D h0 h1 H
  have hs := fun H => sub_cv L M D hD H
  have hp : (0 : Int) < 2 ^ uOf L := Int.pow_pos (by decide)
  obtain ⟨u0, u1, u2, _⟩ := uOf_facts h0 h1
  have x0 : 0 ≤ v / 2 ^ uOf L := Int.ediv_nonneg v0 (by omega)
  have x1 : v / 2 ^ uOf L ≤ v := Int.ediv_le_self _ v0
  have he : Sub3 (subE D) := by
    have hD' : D = 1 ∨ D = 2 ∨ D = 3 := by omega
    rcases hD' with rfl | rfl | rfl <;> decide
  have kf := k_facts (subE D) (by rcases he with h | h | h <;> omega) (v / 2 ^ uOf L) x0 (by omega)
  generalize subE D = e at *
  generalize hxe : v / 2 ^ uOf L = x at *
  unfold idxZ
  by_cases hx : x < 2 ^ e
  · rw [if_pos hx]
    repeat' (first | (refine cond_by (F := ans) (fun _ => ?_) (fun _ => ?_)) | (refine wayK_by (F := ans) (fun _ hb_ => ?_) (fun _ hb_ => ?_) <;> simp only [hb_]) | (refine wayK_byN (F := ans) (fun _ hb_ => ?_) (fun _ hb_ => ?_) <;> simp only [hb_]) | (refine wayD_by (F := ans) (fun _ hb_ => ?_) (fun _ hb_ => ?_) <;> simp only [hb_]) | (refine wayD_byN (F := ans) (fun _ hb_ => ?_) (fun _ hb_ => ?_) <;> simp only [hb_]) | (refine rdK_by (F := ans) (fun _ => ?_) (fun _ => ?_)) | (refine effK_by (F := ans) (fun _ => ?_) (fun _ => ?_)) | (refine effK_by2 (F := ans) (fun _ => ?_) (fun _ => ?_)) | (refine rdD_by (F := ans) (fun _ => ?_) (fun _ => ?_)) | (refine effD_by (F := ans) (fun _ => ?_) (fun _ => ?_)) | (refine effD_by2 (F := ans) (fun _ => ?_) (fun _ => ?_)) | simp -implicitDefEqProofs (disch := first | omega | (simp only [List.length_append, List.length_cons, List.length_nil, List.length_drop, List.length_take]; omega)) only [evs, tys, lors, Nat.reduceAdd, Nat.reduceSub, Nat.reduceMul, Nat.reducePow, Nat.reduceBEq, Nat.reduceLT, Nat.reduceLeDiff, Nat.reduceEqDiff, Int.reduceLT, Int.reduceLE, Int.reduceEq, Int.reduceNe, Int.reduceToNat, Int.reduceAdd, Int.reduceSub, Int.reduceMul, Int.reducePow, Int.reduceDiv, Int.reduceMod, Int.reduceNeg, reduceCtorEq, codeKey, List.contains, List.elem, Ev.load, peek, pack, storeV, fieldAddr, field, cvB, hu, hs, hxe])
    all_goals (exfalso; omega)
  · rw [if_neg hx]
    have hk62 : kOf e x ≤ 62 := by unfold kOf; omega
    have hk1 : 1 ≤ kOf e x := by
      have := kf.2.1
      unfold kOf
      omega
    have kf3 := kf.2.2 hx
    repeat' (first | (refine cond_by (F := ans) (fun _ => ?_) (fun _ => ?_)) | (refine wayK_by (F := ans) (fun _ hb_ => ?_) (fun _ hb_ => ?_) <;> simp only [hb_]) | (refine wayK_byN (F := ans) (fun _ hb_ => ?_) (fun _ hb_ => ?_) <;> simp only [hb_]) | (refine wayD_by (F := ans) (fun _ hb_ => ?_) (fun _ hb_ => ?_) <;> simp only [hb_]) | (refine wayD_byN (F := ans) (fun _ hb_ => ?_) (fun _ hb_ => ?_) <;> simp only [hb_]) | (refine rdK_by (F := ans) (fun _ => ?_) (fun _ => ?_)) | (refine effK_by (F := ans) (fun _ => ?_) (fun _ => ?_)) | (refine effK_by2 (F := ans) (fun _ => ?_) (fun _ => ?_)) | (refine rdD_by (F := ans) (fun _ => ?_) (fun _ => ?_)) | (refine effD_by (F := ans) (fun _ => ?_) (fun _ => ?_)) | (refine effD_by2 (F := ans) (fun _ => ?_) (fun _ => ?_)) | simp -implicitDefEqProofs (disch := first | omega | (simp only [List.length_append, List.length_cons, List.length_nil, List.length_drop, List.length_take]; omega)) only [evs, tys, lors, Nat.reduceAdd, Nat.reduceSub, Nat.reduceMul, Nat.reducePow, Nat.reduceBEq, Nat.reduceLT, Nat.reduceLeDiff, Nat.reduceEqDiff, Int.reduceLT, Int.reduceLE, Int.reduceEq, Int.reduceNe, Int.reduceToNat, Int.reduceAdd, Int.reduceSub, Int.reduceMul, Int.reducePow, Int.reduceDiv, Int.reduceMod, Int.reduceNeg, reduceCtorEq, codeKey, List.contains, List.elem, Ev.load, peek, pack, storeV, fieldAddr, field, cvB, hu, hs, hxe])
    · exfalso; omega
    refine loop33 e he x x0 (by omega) hx hk62 kf3.2.1 _ _ _ (by rfl) _ ?_ _ 0 _ _ (by rw [Int.pow_zero, Int.ediv_one]) rfl rfl (by omega)
    rcases he with rfl | rfl | rfl
    all_goals repeat' (first | (refine cond_by (F := ans) (fun _ => ?_) (fun _ => ?_)) | (refine wayK_by (F := ans) (fun _ hb_ => ?_) (fun _ hb_ => ?_) <;> simp only [hb_]) | (refine wayK_byN (F := ans) (fun _ hb_ => ?_) (fun _ hb_ => ?_) <;> simp only [hb_]) | (refine wayD_by (F := ans) (fun _ hb_ => ?_) (fun _ hb_ => ?_) <;> simp only [hb_]) | (refine wayD_byN (F := ans) (fun _ hb_ => ?_) (fun _ hb_ => ?_) <;> simp only [hb_]) | (refine rdK_by (F := ans) (fun _ => ?_) (fun _ => ?_)) | (refine effK_by (F := ans) (fun _ => ?_) (fun _ => ?_)) | (refine effK_by2 (F := ans) (fun _ => ?_) (fun _ => ?_)) | (refine rdD_by (F := ans) (fun _ => ?_) (fun _ => ?_)) | (refine effD_by (F := ans) (fun _ => ?_) (fun _ => ?_)) | (refine effD_by2 (F := ans) (fun _ => ?_) (fun _ => ?_)) | simp -implicitDefEqProofs (disch := first | omega | (simp only [List.length_append, List.length_cons, List.length_nil, List.length_drop, List.length_take]; omega)) only [evs, tys, lors, Nat.reduceAdd, Nat.reduceSub, Nat.reduceMul, Nat.reducePow, Nat.reduceBEq, Nat.reduceLT, Nat.reduceLeDiff, Nat.reduceEqDiff, Int.reduceLT, Int.reduceLE, Int.reduceEq, Int.reduceNe, Int.reduceToNat, Int.reduceAdd, Int.reduceSub, Int.reduceMul, Int.reducePow, Int.reduceDiv, Int.reduceMod, Int.reduceNeg, reduceCtorEq, codeKey, List.contains, List.elem, Ev.load, peek, pack, storeV, fieldAddr, field, cvB])
    all_goals trace_state
end Go.Proofs.Ytacnpljkcpomnaa
