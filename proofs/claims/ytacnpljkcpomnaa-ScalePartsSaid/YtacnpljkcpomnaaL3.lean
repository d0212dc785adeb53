/-
ScaleDigits as plain Lean, 'begins' being given.
-/
import Derived.Test.YtacnpljkcpomnaaP1
namespace Go.Proofs.Ytacnpljkcpomnaa
open Go Ev
set_option linter.all false
set_option maxHeartbeats 4000000
set_option maxRecDepth 5000
attribute [local irreducible] codeL condL loopL callL callV evOps evDraw rdK effK wayK oneK wayD oneD rdD effD chks chkB res

theorem loop3_7 (L M D : Int) (h0 : 1 ≤ L) (h1 : L ≤ 1099511627776) (x y : V) (K : Kont) (R : Option V) (a : Code) (ha : loopIn Try.prog 3 7 = some a) (H : Heap) (p : Nat) (hp : H[p]? = some ⟨[.int .i64 L, .int .i64 M, .int .i64 D], 0, false, false⟩)
    (hR : ans (K (.exit 0) (Sl 79 .wild [(2, .ptr p 0), (5, x), (6, y), (8, .int .i64 (2 ^ uOf L))]) H) = R) :
    ∀ (n j : Nat) (z : Int), z = 2 ^ j → uOf L - j = n → j ≤ uOf L → ans (loopL lore 3 a (Sl 79 .wild [(2, .ptr p 0), (5, x), (6, y), (8, .int .i64 z)]) H K) = R := by
  have hk := loop_key ha
  simp only [loopIn, Try.func3, Try.f3, loopAt, Option.bind_some, codeKey, if_true, Option.some.injEq, Nat.reduceEqDiff, if_false] at ha
  obtain ⟨u0, u1, u2, _⟩ := uOf_facts h0 h1
  intro n
  induction n with
  | zero =>
    intro j z hz hn hj
    subst hz
    obtain rfl : j = uOf L := by omega
    rw [loopL_step' ha]
    repeat' (first | (refine cond_by (F := ans) (fun _ => ?_) (fun _ => ?_)) | (refine wayK_by (F := ans) (fun _ hb_ => ?_) (fun _ hb_ => ?_) <;> simp only [hb_]) | (refine wayK_byN (F := ans) (fun _ hb_ => ?_) (fun _ hb_ => ?_) <;> simp only [hb_]) | (refine wayD_by (F := ans) (fun _ hb_ => ?_) (fun _ hb_ => ?_) <;> simp only [hb_]) | (refine wayD_byN (F := ans) (fun _ hb_ => ?_) (fun _ hb_ => ?_) <;> simp only [hb_]) | (refine rdK_by (F := ans) (fun _ => ?_) (fun _ => ?_)) | (refine effK_by (F := ans) (fun _ => ?_) (fun _ => ?_)) | (refine effK_by2 (F := ans) (fun _ => ?_) (fun _ => ?_)) | (refine rdD_by (F := ans) (fun _ => ?_) (fun _ => ?_)) | (refine effD_by (F := ans) (fun _ => ?_) (fun _ => ?_)) | (refine effD_by2 (F := ans) (fun _ => ?_) (fun _ => ?_)) | simp -implicitDefEqProofs (disch := first | omega | (simp only [List.length_append, List.length_cons, List.length_nil, List.length_drop, List.length_take]; omega)) only [evs, tys, lors, Nat.reduceAdd, Nat.reduceSub, Nat.reduceMul, Nat.reducePow, Nat.reduceBEq, Nat.reduceLT, Nat.reduceLeDiff, Nat.reduceEqDiff, Int.reduceLT, Int.reduceLE, Int.reduceEq, Int.reduceNe, Int.reduceToNat, Int.reduceAdd, Int.reduceSub, Int.reduceMul, Int.reducePow, Int.reduceDiv, Int.reduceMod, Int.reduceNeg, reduceCtorEq, codeKey, List.contains, List.elem, Ev.load, peek, pack, storeV, fieldAddr, field, cvB, hk, hp])
    · exfalso; omega
    · exact hR
  | succ n ih =>
    intro j z hz hn hj
    subst hz
    have hs := pow_le (show j + 1 ≤ uOf L by omega)
    have e : (2 : Int) ^ (j + 1) = 2 * 2 ^ j := Int.pow_succ' ..
    have hp0 : (0 : Int) < 2 ^ j := Int.pow_pos (by decide)
    rw [loopL_step' ha]
    repeat' (first | (refine cond_by (F := ans) (fun _ => ?_) (fun _ => ?_)) | (refine wayK_by (F := ans) (fun _ hb_ => ?_) (fun _ hb_ => ?_) <;> simp only [hb_]) | (refine wayK_byN (F := ans) (fun _ hb_ => ?_) (fun _ hb_ => ?_) <;> simp only [hb_]) | (refine wayD_by (F := ans) (fun _ hb_ => ?_) (fun _ hb_ => ?_) <;> simp only [hb_]) | (refine wayD_byN (F := ans) (fun _ hb_ => ?_) (fun _ hb_ => ?_) <;> simp only [hb_]) | (refine rdK_by (F := ans) (fun _ => ?_) (fun _ => ?_)) | (refine effK_by (F := ans) (fun _ => ?_) (fun _ => ?_)) | (refine effK_by2 (F := ans) (fun _ => ?_) (fun _ => ?_)) | (refine rdD_by (F := ans) (fun _ => ?_) (fun _ => ?_)) | (refine effD_by (F := ans) (fun _ => ?_) (fun _ => ?_)) | (refine effD_by2 (F := ans) (fun _ => ?_) (fun _ => ?_)) | simp -implicitDefEqProofs (disch := first | omega | (simp only [List.length_append, List.length_cons, List.length_nil, List.length_drop, List.length_take]; omega)) only [evs, tys, lors, Nat.reduceAdd, Nat.reduceSub, Nat.reduceMul, Nat.reducePow, Nat.reduceBEq, Nat.reduceLT, Nat.reduceLeDiff, Nat.reduceEqDiff, Int.reduceLT, Int.reduceLE, Int.reduceEq, Int.reduceNe, Int.reduceToNat, Int.reduceAdd, Int.reduceSub, Int.reduceMul, Int.reducePow, Int.reduceDiv, Int.reduceMod, Int.reduceNeg, reduceCtorEq, codeKey, List.contains, List.elem, Ev.load, peek, pack, storeV, fieldAddr, field, cvB, hk, hp])
    · exact ih (j + 1) _ e.symm (by omega) (by omega)
    · exfalso; omega
theorem dig_facts {e : Nat} (he : Sub3 e) {i : Int} (u : Nat) (h0 : 0 ≤ i) (ten : Int) (ht : (e = 5 ∧ ten = 10) ∨ (e = 8 ∧ ten = 100) ∨ (e = 11 ∧ ten = 1000)) :
    (sbZ e i * 2 ^ shN e i < 2 ^ (e - 1) → shN e i = 0) ∧ (¬ sbZ e i * 2 ^ shN e i < 2 ^ (e - 1) → 2 ^ shN e i * 2 ^ u * ten ≤ sbZ e i * 2 ^ shN e i * 2 ^ u) := by
  have hp : (0 : Int) < 2 ^ shN e i := Int.pow_pos (by decide)
  have hq : (0 : Int) < 2 ^ u := Int.pow_pos (by decide)
  by_cases hi : i < 2 ^ e
  · obtain ⟨a1, a2⟩ := st_lo hi
    rw [a1, a2, Int.pow_zero, Int.mul_one, Int.one_mul]
    refine ⟨fun _ => rfl, fun h => ?_⟩
    rw [Int.mul_comm]
    refine Int.mul_le_mul_of_nonneg_right ?_ (by omega)
    rcases ht with ⟨rfl, rfl⟩ | ⟨rfl, rfl⟩ | ⟨rfl, rfl⟩ <;> simp only [Nat.reduceSub, Int.reducePow] at * <;> omega
  · obtain ⟨a1, a2⟩ := st_hi hi
    have h1 : 2 ^ (e - 1) ≤ sbZ e i ∧ ten ≤ sbZ e i := by
      rw [a1]
      rcases ht with ⟨rfl, rfl⟩ | ⟨rfl, rfl⟩ | ⟨rfl, rfl⟩ <;> simp only [Nat.reduceSub, Int.reducePow] at * <;> omega
    generalize sbZ e i = sb at *
    generalize shN e i = sh at *
    have h2 : sb ≤ sb * 2 ^ sh := by
      have hs : 0 ≤ sb := by rcases ht with ⟨_, rfl⟩ | ⟨_, rfl⟩ | ⟨_, rfl⟩ <;> omega
      have := Int.mul_le_mul_of_nonneg_left (show (1 : Int) ≤ 2 ^ sh by omega) hs
      omega
    refine ⟨fun h => by omega, fun _ => ?_⟩
    have h3 := Int.mul_le_mul_of_nonneg_left h1.2 (show (0 : Int) ≤ 2 ^ sh * 2 ^ u from Int.mul_nonneg (by omega) (by omega))
    rw [show sb * 2 ^ sh * 2 ^ u = 2 ^ sh * 2 ^ u * sb by grind]
    exact h3
theorem top_le {L M D : Int} (hr : RightS L M D) (i : Int) (h0 : 0 ≤ i) (h1 : i ≤ topOf L M D) : 0 ≤ lowZ L D i ∧ lowZ L D i ≤ 2305843009213693952 ∧ widZ L D i ≤ 4611686018427387904 := by
  obtain ⟨f1, f2, f3, f4, f5, f6⟩ := x_facts hr (v := M) (by omega) (by omega)
  have hp : (0 : Int) < 2 ^ uOf L := Int.pow_pos (by decide)
  have hm : M / 2 ^ uOf L * 2 ^ uOf L ≤ M := Int.ediv_mul_le _ (by omega)
  obtain ⟨l1, l2, l3, l4, l5⟩ := low_le (subE D) f4 (M / 2 ^ uOf L) i f2 f3 h0 h1
  have p40 := pow_le f1
  have c40 : (2 : Int) ^ 40 = 1099511627776 := by decide
  have hps : (0 : Int) < 2 ^ shN (subE D) i := Int.pow_pos (by decide)
  have m1 := Int.mul_le_mul_of_nonneg_right l4 (show (0 : Int) ≤ 2 ^ uOf L by omega)
  have m2 := Int.mul_le_mul_of_nonneg_right l5 (show (0 : Int) ≤ 2 ^ uOf L by omega)
  have m3 : 0 ≤ sbZ (subE D) i * 2 ^ shN (subE D) i := Int.mul_nonneg l2 (by omega)
  have m4 := Int.mul_nonneg m3 (show (0 : Int) ≤ 2 ^ uOf L by omega)
  rw [Int.add_mul, Int.one_mul] at m2
  unfold lowZ widZ
  exact ⟨m4, by omega, by omega⟩
theorem scaleDigits_of (hbg : ∀ H, callV (CL lore) 10 [] H = some (.bool true, H)) (L M D i : Int) : ans (callL lore 3 [.agg [.int .i64 L, .int .i64 M, .int .i64 D], .int .i64 i] []) = some (.bool true) := by
  rw [call_start lore_ext3 Try.func3 rfl lore_okf3 (Nat.le_of_ble_eq_true rfl)]
  have e3 := fun H => boundsP_cv L M D i H
  unfold boundsV at e3
  by_cases hr : RightS L M D
  · by_cases hv : 0 ≤ i ∧ i ≤ topOf L M D
    · simp only [if_pos hr, if_pos hv] at e3
      obtain ⟨u0, u1, u2, u3⟩ := uOf_facts hr.1.1 hr.1.2
      obtain ⟨t1, t2, t3⟩ := top_le hr i hv.1 hv.2
      have hw := wid_pos L D i
      have hp : (0 : Int) < 2 ^ uOf L := Int.pow_pos (by decide)
      have hdiv : lowZ L D i / 2 ^ uOf L = sbZ (subE D) i * 2 ^ shN (subE D) i := Int.mul_ediv_cancel _ (by omega)
      have hD : (subE D = 5 ∧ D = 1) ∨ (subE D = 8 ∧ D = 2) ∨ (subE D = 11 ∧ D = 3) := by
        have hD' : D = 1 ∨ D = 2 ∨ D = 3 := by omega
        rcases hD' with rfl | rfl | rfl <;> simp only [subE] <;> decide
      obtain ⟨d1, d2⟩ := dig_facts (sub3 hr.2.2) (i := i) (uOf L) hv.1 (if D = 1 then 10 else if D = 2 then 100 else 1000) (by
        rcases hD with ⟨h, rfl⟩ | ⟨h, rfl⟩ | ⟨h, rfl⟩ <;> simp [h])
      have hd3 : sbZ (subE D) i * 2 ^ shN (subE D) i < 2 ^ (subE D - 1) → widZ L D i = 2 ^ uOf L := fun h => by
        unfold widZ; rw [d1 h, Int.pow_zero, Int.one_mul]
      have hd4 : ¬ sbZ (subE D) i * 2 ^ shN (subE D) i < 2 ^ (subE D - 1) → widZ L D i * (if D = 1 then 10 else if D = 2 then 100 else 1000) ≤ lowZ L D i := d2
      rw [← hdiv] at hd3 hd4
      clear d1 d2 hdiv
      generalize lowZ L D i = lo at *
      generalize widZ L D i = wi at *
      generalize hPe : (2 : Int) ^ uOf L = P at *
      have hq0 : 0 ≤ lo / P := Int.ediv_nonneg (by omega) (by omega)
      have hq1 : lo / P ≤ lo := Int.ediv_le_self _ (by omega)
      rcases hD with ⟨h, rfl⟩ | ⟨h, rfl⟩ | ⟨h, rfl⟩
      all_goals
        rw [h] at hd3 hd4
        simp only [Nat.reduceSub, Int.reducePow, Int.reduceEq, if_true, if_false] at hd3 hd4
        clear h
        repeat' (first | (refine cond_by (F := ans) (fun _ => ?_) (fun _ => ?_)) | (refine wayK_by (F := ans) (fun _ hb_ => ?_) (fun _ hb_ => ?_) <;> simp only [hb_]) | (refine wayK_byN (F := ans) (fun _ hb_ => ?_) (fun _ hb_ => ?_) <;> simp only [hb_]) | (refine wayD_by (F := ans) (fun _ hb_ => ?_) (fun _ hb_ => ?_) <;> simp only [hb_]) | (refine wayD_byN (F := ans) (fun _ hb_ => ?_) (fun _ hb_ => ?_) <;> simp only [hb_]) | (refine rdK_by (F := ans) (fun _ => ?_) (fun _ => ?_)) | (refine effK_by (F := ans) (fun _ => ?_) (fun _ => ?_)) | (refine effK_by2 (F := ans) (fun _ => ?_) (fun _ => ?_)) | (refine rdD_by (F := ans) (fun _ => ?_) (fun _ => ?_)) | (refine effD_by (F := ans) (fun _ => ?_) (fun _ => ?_)) | (refine effD_by2 (F := ans) (fun _ => ?_) (fun _ => ?_)) | simp -implicitDefEqProofs (disch := first | omega | (simp only [List.length_append, List.length_cons, List.length_nil, List.length_drop, List.length_take]; omega)) only [evs, tys, lors, Nat.reduceAdd, Nat.reduceSub, Nat.reduceMul, Nat.reducePow, Nat.reduceBEq, Nat.reduceLT, Nat.reduceLeDiff, Nat.reduceEqDiff, Int.reduceLT, Int.reduceLE, Int.reduceEq, Int.reduceNe, Int.reduceToNat, Int.reduceAdd, Int.reduceSub, Int.reduceMul, Int.reducePow, Int.reduceDiv, Int.reduceMod, Int.reduceNeg, reduceCtorEq, codeKey, List.contains, List.elem, Ev.load, peek, pack, storeV, fieldAddr, field, cvB, e3, hbg])
        refine loop3_7 L M _ hr.1.1 hr.1.2 _ _ _ _ _ (by rfl) _ 0 rfl ?_ _ 0 1 rfl rfl (by omega)
        rw [hPe]
        repeat' (first | (refine cond_by (F := ans) (fun _ => ?_) (fun _ => ?_)) | (refine wayK_by (F := ans) (fun _ hb_ => ?_) (fun _ hb_ => ?_) <;> simp only [hb_]) | (refine wayK_byN (F := ans) (fun _ hb_ => ?_) (fun _ hb_ => ?_) <;> simp only [hb_]) | (refine wayD_by (F := ans) (fun _ hb_ => ?_) (fun _ hb_ => ?_) <;> simp only [hb_]) | (refine wayD_byN (F := ans) (fun _ hb_ => ?_) (fun _ hb_ => ?_) <;> simp only [hb_]) | (refine rdK_by (F := ans) (fun _ => ?_) (fun _ => ?_)) | (refine effK_by (F := ans) (fun _ => ?_) (fun _ => ?_)) | (refine effK_by2 (F := ans) (fun _ => ?_) (fun _ => ?_)) | (refine rdD_by (F := ans) (fun _ => ?_) (fun _ => ?_)) | (refine effD_by (F := ans) (fun _ => ?_) (fun _ => ?_)) | (refine effD_by2 (F := ans) (fun _ => ?_) (fun _ => ?_)) | simp -implicitDefEqProofs (disch := first | omega | (simp only [List.length_append, List.length_cons, List.length_nil, List.length_drop, List.length_take]; omega)) only [evs, tys, lors, Nat.reduceAdd, Nat.reduceSub, Nat.reduceMul, Nat.reducePow, Nat.reduceBEq, Nat.reduceLT, Nat.reduceLeDiff, Nat.reduceEqDiff, Int.reduceLT, Int.reduceLE, Int.reduceEq, Int.reduceNe, Int.reduceToNat, Int.reduceAdd, Int.reduceSub, Int.reduceMul, Int.reducePow, Int.reduceDiv, Int.reduceMod, Int.reduceNeg, reduceCtorEq, codeKey, List.contains, List.elem, Ev.load, peek, pack, storeV, fieldAddr, field, cvB])
        repeat (rw [loopL_step' rfl]; repeat' (first | (refine cond_by (F := ans) (fun _ => ?_) (fun _ => ?_)) | (refine wayK_by (F := ans) (fun _ hb_ => ?_) (fun _ hb_ => ?_) <;> simp only [hb_]) | (refine wayK_byN (F := ans) (fun _ hb_ => ?_) (fun _ hb_ => ?_) <;> simp only [hb_]) | (refine wayD_by (F := ans) (fun _ hb_ => ?_) (fun _ hb_ => ?_) <;> simp only [hb_]) | (refine wayD_byN (F := ans) (fun _ hb_ => ?_) (fun _ hb_ => ?_) <;> simp only [hb_]) | (refine rdK_by (F := ans) (fun _ => ?_) (fun _ => ?_)) | (refine effK_by (F := ans) (fun _ => ?_) (fun _ => ?_)) | (refine effK_by2 (F := ans) (fun _ => ?_) (fun _ => ?_)) | (refine rdD_by (F := ans) (fun _ => ?_) (fun _ => ?_)) | (refine effD_by (F := ans) (fun _ => ?_) (fun _ => ?_)) | (refine effD_by2 (F := ans) (fun _ => ?_) (fun _ => ?_)) | simp -implicitDefEqProofs (disch := first | omega | (simp only [List.length_append, List.length_cons, List.length_nil, List.length_drop, List.length_take]; omega)) only [evs, tys, lors, Nat.reduceAdd, Nat.reduceSub, Nat.reduceMul, Nat.reducePow, Nat.reduceBEq, Nat.reduceLT, Nat.reduceLeDiff, Nat.reduceEqDiff, Int.reduceLT, Int.reduceLE, Int.reduceEq, Int.reduceNe, Int.reduceToNat, Int.reduceAdd, Int.reduceSub, Int.reduceMul, Int.reducePow, Int.reduceDiv, Int.reduceMod, Int.reduceNeg, reduceCtorEq, codeKey, List.contains, List.elem, Ev.load, peek, pack, storeV, fieldAddr, field, cvB]))
      all_goals first
        | contradiction
        | (exfalso; omega)
        | (refine congrArg some (congrArg V.bool (decide_eq_true ?_)); omega)
        | trace_state
    · simp only [if_pos hr, if_neg hv] at e3
      repeat' (first | (refine cond_by (F := ans) (fun _ => ?_) (fun _ => ?_)) | (refine wayK_by (F := ans) (fun _ hb_ => ?_) (fun _ hb_ => ?_) <;> simp only [hb_]) | (refine wayK_byN (F := ans) (fun _ hb_ => ?_) (fun _ hb_ => ?_) <;> simp only [hb_]) | (refine wayD_by (F := ans) (fun _ hb_ => ?_) (fun _ hb_ => ?_) <;> simp only [hb_]) | (refine wayD_byN (F := ans) (fun _ hb_ => ?_) (fun _ hb_ => ?_) <;> simp only [hb_]) | (refine rdK_by (F := ans) (fun _ => ?_) (fun _ => ?_)) | (refine effK_by (F := ans) (fun _ => ?_) (fun _ => ?_)) | (refine effK_by2 (F := ans) (fun _ => ?_) (fun _ => ?_)) | (refine rdD_by (F := ans) (fun _ => ?_) (fun _ => ?_)) | (refine effD_by (F := ans) (fun _ => ?_) (fun _ => ?_)) | (refine effD_by2 (F := ans) (fun _ => ?_) (fun _ => ?_)) | simp -implicitDefEqProofs (disch := first | omega | (simp only [List.length_append, List.length_cons, List.length_nil, List.length_drop, List.length_take]; omega)) only [evs, tys, lors, Nat.reduceAdd, Nat.reduceSub, Nat.reduceMul, Nat.reducePow, Nat.reduceBEq, Nat.reduceLT, Nat.reduceLeDiff, Nat.reduceEqDiff, Int.reduceLT, Int.reduceLE, Int.reduceEq, Int.reduceNe, Int.reduceToNat, Int.reduceAdd, Int.reduceSub, Int.reduceMul, Int.reducePow, Int.reduceDiv, Int.reduceMod, Int.reduceNeg, reduceCtorEq, codeKey, List.contains, List.elem, Ev.load, peek, pack, storeV, fieldAddr, field, cvB, e3, hbg])
      all_goals first | rfl | (rw [if_pos (by omega)]; done) | (rw [if_neg (by omega)]; done) | (exfalso; omega)
  · simp only [if_neg hr] at e3
    repeat' (first | (refine cond_by (F := ans) (fun _ => ?_) (fun _ => ?_)) | (refine wayK_by (F := ans) (fun _ hb_ => ?_) (fun _ hb_ => ?_) <;> simp only [hb_]) | (refine wayK_byN (F := ans) (fun _ hb_ => ?_) (fun _ hb_ => ?_) <;> simp only [hb_]) | (refine wayD_by (F := ans) (fun _ hb_ => ?_) (fun _ hb_ => ?_) <;> simp only [hb_]) | (refine wayD_byN (F := ans) (fun _ hb_ => ?_) (fun _ hb_ => ?_) <;> simp only [hb_]) | (refine rdK_by (F := ans) (fun _ => ?_) (fun _ => ?_)) | (refine effK_by (F := ans) (fun _ => ?_) (fun _ => ?_)) | (refine effK_by2 (F := ans) (fun _ => ?_) (fun _ => ?_)) | (refine rdD_by (F := ans) (fun _ => ?_) (fun _ => ?_)) | (refine effD_by (F := ans) (fun _ => ?_) (fun _ => ?_)) | (refine effD_by2 (F := ans) (fun _ => ?_) (fun _ => ?_)) | simp -implicitDefEqProofs (disch := first | omega | (simp only [List.length_append, List.length_cons, List.length_nil, List.length_drop, List.length_take]; omega)) only [evs, tys, lors, Nat.reduceAdd, Nat.reduceSub, Nat.reduceMul, Nat.reducePow, Nat.reduceBEq, Nat.reduceLT, Nat.reduceLeDiff, Nat.reduceEqDiff, Int.reduceLT, Int.reduceLE, Int.reduceEq, Int.reduceNe, Int.reduceToNat, Int.reduceAdd, Int.reduceSub, Int.reduceMul, Int.reducePow, Int.reduceDiv, Int.reduceMod, Int.reduceNeg, reduceCtorEq, codeKey, List.contains, List.elem, Ev.load, peek, pack, storeV, fieldAddr, field, cvB, e3, hbg])
    all_goals first | rfl | (rw [if_pos (by omega)]; done) | (rw [if_neg (by omega)]; done) | (exfalso; omega)
end Go.Proofs.Ytacnpljkcpomnaa
