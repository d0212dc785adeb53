/-
Upper of the program and of the document. Upper of the document; ScaleExps as plain Lean.
-/
import Derived.Test.YtacnpljkcpomnaaF9
namespace Go.Proofs.Ytacnpljkcpomnaa
open Go Ev
set_option linter.all false
set_option maxHeartbeats 4000000
set_option maxRecDepth 5000
attribute [local irreducible] codeL condL loopL callL callV evOps evDraw rdK effK wayK oneK wayD oneD rdD effD chks chkB res


/-- W is the greatest float (its bits) up to the bucket's end. -/
def UpW (s i : Int) (W : Nat) : Prop := W ≤ 9218868437227405311 ∧ (∀ b, 0 < b → b ≤ W → placeF s b ≤ i) ∧ (∀ b, W < b → b ≤ 9218868437227405311 → i < placeF s b)
theorem upw_ex (s i : Int) : ∃ W, UpW s i W := by
  have h : ∀ n : Nat, n ≤ 9218868437227405311 → ∃ W, W ≤ n ∧ (∀ b, 0 < b → b ≤ W → placeF s b ≤ i) ∧ (∀ b, W < b → b ≤ n → i < placeF s b) := by
    intro n
    induction n with
    | zero => exact fun _ => ⟨0, Nat.le_refl _, fun b h0 h1 => by omega, fun b h0 h1 => by omega⟩
    | succ n ih =>
      intro hn
      obtain ⟨W, w1, w2, w3⟩ := ih (by omega)
      by_cases hc : placeF s (n + 1) ≤ i
      · refine ⟨n + 1, Nat.le_refl _, fun b h0 h1 => ?_, fun b h0 h1 => by omega⟩
        exact Int.le_trans (placeF_mono s h0 h1 (by omega)) hc
      · refine ⟨W, by omega, w2, fun b h0 h1 => ?_⟩
        rcases Nat.lt_or_ge n b with hb | hb
        · obtain rfl : b = n + 1 := by omega
          omega
        · exact w3 b h0 hb
  exact h _ (Nat.le_refl _)
theorem upw_uniq {s i : Int} {W W' : Nat} (h : UpW s i W) (h' : UpW s i W') : W = W' := by
  obtain ⟨a1, a2, a3⟩ := h
  obtain ⟨b1, b2, b3⟩ := h'
  rcases Nat.lt_trichotomy W W' with hh | hh | hh
  · have c1 := a3 W' hh b1
    have c2 := b2 W' (by omega) (Nat.le_refl _)
    omega
  · exact hh
  · have c1 := b3 W hh a1
    have c2 := a2 W (by omega) (Nat.le_refl _)
    omega
theorem ends_b : ∀ n : Nat, n < 13 → -300000 ≤ placeF ((n : Int) - 4) 1 ∧ placeF ((n : Int) - 4) 9218868437227405311 ≤ 300000 := by decide +kernel
theorem place_b {s : Int} (hs : -4 ≤ s ∧ s ≤ 8) {b : Nat} (h0 : 0 < b) (h1 : b < 9218868437227405312) : -300000 ≤ placeF s 1 ∧ placeF s 1 ≤ placeF s b ∧ placeF s b ≤ placeF s 9218868437227405311 ∧ placeF s 9218868437227405311 ≤ 300000 := by
  have h := ends_b (s + 4).toNat (by omega)
  rw [show (((s + 4).toNat : Nat) : Int) - 4 = s by omega] at h
  exact ⟨h.1, placeF_mono s (by decide) h0 h1, placeF_mono s h0 (by omega) (by decide), h.2⟩
theorem callV_sh {E : Lore} {f : Nat} {vs : List V} {H : Heap} {r : Res} (hs : E.shared f = true) (h : res (callL E f vs H) = r) : callV (CL E) f vs H = r := by
  unfold callV
  have e : (CL E).shared f = true := hs
  rw [e]
  exact of_res h
theorem f41_cv (s i : Int) (hs : -4 ≤ s ∧ s ≤ 8) (k : Nat) (hk : k < 9218868437227405311) : callV (CL lore) 41 [.int .i64 k, .ptr 0 0, .ptr 1 0] [⟨[.int .i64 s], 0, false, false⟩, ⟨[.int .i64 i], 0, false, false⟩] = some (.bool (decide (i < placeF s (k + 1))), [⟨[.int .i64 s], 0, false, false⟩, ⟨[.int .i64 i], 0, false, false⟩]) := by
  refine callV_sh rfl ?_
  rw [call_start lore_ext41 Try.func41 rfl lore_okf41 (Nat.le_of_ble_eq_true rfl)]
  have h1 := frombits_cv (k + 1) (by omega)
  have e1 : ((k + 1 : Nat) : Int) = (k : Int) + 1 := by omega
  rw [e1] at h1
  have h2 := place_f_cv s hs (k + 1) (by omega) (by omega)
  repeat' (first | (refine cond_by (F := res) (fun _ => ?_) (fun _ => ?_)) | (refine wayK_by (F := res) (fun _ hb_ => ?_) (fun _ hb_ => ?_) <;> simp only [hb_]) | (refine wayK_byN (F := res) (fun _ hb_ => ?_) (fun _ hb_ => ?_) <;> simp only [hb_]) | (refine wayD_by (F := res) (fun _ hb_ => ?_) (fun _ hb_ => ?_) <;> simp only [hb_]) | (refine wayD_byN (F := res) (fun _ hb_ => ?_) (fun _ hb_ => ?_) <;> simp only [hb_]) | (refine rdK_by (F := res) (fun _ => ?_) (fun _ => ?_)) | (refine effK_by (F := res) (fun _ => ?_) (fun _ => ?_)) | (refine effK_by2 (F := res) (fun _ => ?_) (fun _ => ?_)) | (refine rdD_by (F := res) (fun _ => ?_) (fun _ => ?_)) | (refine effD_by (F := res) (fun _ => ?_) (fun _ => ?_)) | (refine effD_by2 (F := res) (fun _ => ?_) (fun _ => ?_)) | simp -implicitDefEqProofs (disch := first | omega | (simp only [List.length_append, List.length_cons, List.length_nil, List.length_drop, List.length_take]; omega)) only [evs, tys, lors, Nat.reduceAdd, Nat.reduceSub, Nat.reduceMul, Nat.reducePow, Nat.reduceBEq, Nat.reduceLT, Nat.reduceLeDiff, Nat.reduceEqDiff, Int.reduceLT, Int.reduceLE, Int.reduceEq, Int.reduceNe, Int.reduceToNat, Int.reduceAdd, Int.reduceSub, Int.reduceMul, Int.reducePow, Int.reduceDiv, Int.reduceMod, Int.reduceNeg, reduceCtorEq, codeKey, List.contains, List.elem, Ev.load, peek, pack, storeV, fieldAddr, field, cvB, h1, h2])
  all_goals exact res_eq
theorem wrap_ui {x : Int} (h0 : 0 ≤ x) (h1 : x < 18446744073709551616) : ((x + 9223372036854775808) % 18446744073709551616 - 9223372036854775808) % 18446744073709551616 = x := by
  rcases Int.lt_or_le x 9223372036854775808 with h | h
  · have e : (x + 9223372036854775808) % 18446744073709551616 = x + 9223372036854775808 := Int.emod_eq_of_lt (by omega) (by omega)
    rw [e, Int.add_sub_cancel, Int.emod_eq_of_lt h0 h1]
  · have e : (x + 9223372036854775808) % 18446744073709551616 = x - 9223372036854775808 := by
      rw [show x + 9223372036854775808 = (x - 9223372036854775808) + 18446744073709551616 by omega, Int.add_emod_right, Int.emod_eq_of_lt (by omega) (by omega)]
    rw [e, show x - 9223372036854775808 - 9223372036854775808 = x - 18446744073709551616 by omega, Int.sub_emod_right, Int.emod_eq_of_lt h0 h1]
theorem search40 (s i : Int) (hs : -4 ≤ s ∧ s ≤ 8) (W : Nat) (hW : UpW s i W) (K : Kont) (R : Res) (a : Code) (ha : loopIn Try.prog 40 2 = some a)
    (hR : res (K (.exit 0) (Sl 26 .wild [(1, .fn 41 [] [.ptr 0 0, .ptr 1 0]), (5, .int .i64 W), (6, .int .i64 W)]) [⟨[.int .i64 s], 0, false, false⟩, ⟨[.int .i64 i], 0, false, false⟩]) = R) :
    ∀ (n lo hi : Nat), hi - lo = n → lo ≤ W → W ≤ hi → hi ≤ 9218868437227405311 → res (loopL lore 40 a (Sl 26 .wild [(1, .fn 41 [] [.ptr 0 0, .ptr 1 0]), (5, .int .i64 lo), (6, .int .i64 hi)]) [⟨[.int .i64 s], 0, false, false⟩, ⟨[.int .i64 i], 0, false, false⟩] K) = R := by
  have hk := loop_key ha
  simp only [loopIn, Try.func40, Try.f40, loopAt, Option.bind_some, codeKey, if_true, Option.some.injEq, Nat.reduceEqDiff, if_false] at ha
  obtain ⟨w1, w2, w3⟩ := hW
  intro n
  induction n using Nat.strongRecOn with
  | ind n ih =>
    intro lo hi hn h1 h2 h3
    rcases Nat.lt_or_ge lo hi with hlt | hge
    · have hf := f41_cv s i hs ((lo + hi) / 2) (by omega)
      have e1 : (((lo + hi) / 2 : Nat) : Int) = ((lo : Int) + (hi : Int)) / 2 := by omega
      rw [e1] at hf
      have hlt' : (lo : Int) < (hi : Int) := by omega
      have hwr : IntKind.u64.wrap (IntKind.i64.wrap ((lo : Int) + (hi : Int))) = (lo : Int) + (hi : Int) := by
        rw [IntKind.wrap_u64, IntKind.wrap_i64]
        exact wrap_ui (by omega) (by omega)
      by_cases hc : i < placeF s ((lo + hi) / 2 + 1)
      · rw [decide_eq_true hc] at hf
        have hw : W ≤ (lo + hi) / 2 := by
          rcases Nat.lt_or_ge ((lo + hi) / 2) W with hh | hh
          · have := w2 ((lo + hi) / 2 + 1) (by omega) (by omega)
            omega
          · exact hh
        have next := ih ((lo + hi) / 2 - lo) (by omega) lo ((lo + hi) / 2) rfl h1 hw (by omega)
        rw [e1] at next
        rw [loopL_step' ha]
        repeat' (first | (refine cond_by (F := res) (fun _ => ?_) (fun _ => ?_)) | (refine wayK_by (F := res) (fun _ hb_ => ?_) (fun _ hb_ => ?_) <;> simp only [hb_]) | (refine wayK_byN (F := res) (fun _ hb_ => ?_) (fun _ hb_ => ?_) <;> simp only [hb_]) | (refine wayD_by (F := res) (fun _ hb_ => ?_) (fun _ hb_ => ?_) <;> simp only [hb_]) | (refine wayD_byN (F := res) (fun _ hb_ => ?_) (fun _ hb_ => ?_) <;> simp only [hb_]) | (refine rdK_by (F := res) (fun _ => ?_) (fun _ => ?_)) | (refine effK_by (F := res) (fun _ => ?_) (fun _ => ?_)) | (refine effK_by2 (F := res) (fun _ => ?_) (fun _ => ?_)) | (refine rdD_by (F := res) (fun _ => ?_) (fun _ => ?_)) | (refine effD_by (F := res) (fun _ => ?_) (fun _ => ?_)) | (refine effD_by2 (F := res) (fun _ => ?_) (fun _ => ?_)) | simp -implicitDefEqProofs (disch := first | omega | (simp only [List.length_append, List.length_cons, List.length_nil, List.length_drop, List.length_take]; omega)) only [evs, tys, lors, Nat.reduceAdd, Nat.reduceSub, Nat.reduceMul, Nat.reducePow, Nat.reduceBEq, Nat.reduceLT, Nat.reduceLeDiff, Nat.reduceEqDiff, Int.reduceLT, Int.reduceLE, Int.reduceEq, Int.reduceNe, Int.reduceToNat, Int.reduceAdd, Int.reduceSub, Int.reduceMul, Int.reducePow, Int.reduceDiv, Int.reduceMod, Int.reduceNeg, reduceCtorEq, codeKey, List.contains, List.elem, Ev.load, peek, pack, storeV, fieldAddr, field, cvB, hk, hf, bits1, hlt', hwr, decide_true])
        all_goals first
          | exact next
          | trace_state
      · rw [decide_eq_false hc] at hf
        have hw : (lo + hi) / 2 + 1 ≤ W := by
          rcases Nat.lt_or_ge ((lo + hi) / 2) W with hh | hh
          · exact hh
          · have := w3 ((lo + hi) / 2 + 1) (by omega) (by omega)
            omega
        have next := ih (hi - ((lo + hi) / 2 + 1)) (by omega) ((lo + hi) / 2 + 1) hi rfl hw h2 h3
        rw [show (((lo + hi) / 2 + 1 : Nat) : Int) = ((lo : Int) + (hi : Int)) / 2 + 1 by omega] at next
        rw [loopL_step' ha]
        repeat' (first | (refine cond_by (F := res) (fun _ => ?_) (fun _ => ?_)) | (refine wayK_by (F := res) (fun _ hb_ => ?_) (fun _ hb_ => ?_) <;> simp only [hb_]) | (refine wayK_byN (F := res) (fun _ hb_ => ?_) (fun _ hb_ => ?_) <;> simp only [hb_]) | (refine wayD_by (F := res) (fun _ hb_ => ?_) (fun _ hb_ => ?_) <;> simp only [hb_]) | (refine wayD_byN (F := res) (fun _ hb_ => ?_) (fun _ hb_ => ?_) <;> simp only [hb_]) | (refine rdK_by (F := res) (fun _ => ?_) (fun _ => ?_)) | (refine effK_by (F := res) (fun _ => ?_) (fun _ => ?_)) | (refine effK_by2 (F := res) (fun _ => ?_) (fun _ => ?_)) | (refine rdD_by (F := res) (fun _ => ?_) (fun _ => ?_)) | (refine effD_by (F := res) (fun _ => ?_) (fun _ => ?_)) | (refine effD_by2 (F := res) (fun _ => ?_) (fun _ => ?_)) | simp -implicitDefEqProofs (disch := first | omega | (simp only [List.length_append, List.length_cons, List.length_nil, List.length_drop, List.length_take]; omega)) only [evs, tys, lors, Nat.reduceAdd, Nat.reduceSub, Nat.reduceMul, Nat.reducePow, Nat.reduceBEq, Nat.reduceLT, Nat.reduceLeDiff, Nat.reduceEqDiff, Int.reduceLT, Int.reduceLE, Int.reduceEq, Int.reduceNe, Int.reduceToNat, Int.reduceAdd, Int.reduceSub, Int.reduceMul, Int.reducePow, Int.reduceDiv, Int.reduceMod, Int.reduceNeg, reduceCtorEq, codeKey, List.contains, List.elem, Ev.load, peek, pack, storeV, fieldAddr, field, cvB, hk, hf, bits1, hlt', hwr, decide_true])
        all_goals first
          | exact next
          | trace_state
    · obtain rfl : lo = W := by omega
      obtain rfl : hi = lo := by omega
      rw [loopL_step' ha]
      repeat' (first | (refine cond_by (F := res) (fun _ => ?_) (fun _ => ?_)) | (refine wayK_by (F := res) (fun _ hb_ => ?_) (fun _ hb_ => ?_) <;> simp only [hb_]) | (refine wayK_byN (F := res) (fun _ hb_ => ?_) (fun _ hb_ => ?_) <;> simp only [hb_]) | (refine wayD_by (F := res) (fun _ hb_ => ?_) (fun _ hb_ => ?_) <;> simp only [hb_]) | (refine wayD_byN (F := res) (fun _ hb_ => ?_) (fun _ hb_ => ?_) <;> simp only [hb_]) | (refine rdK_by (F := res) (fun _ => ?_) (fun _ => ?_)) | (refine effK_by (F := res) (fun _ => ?_) (fun _ => ?_)) | (refine effK_by2 (F := res) (fun _ => ?_) (fun _ => ?_)) | (refine rdD_by (F := res) (fun _ => ?_) (fun _ => ?_)) | (refine effD_by (F := res) (fun _ => ?_) (fun _ => ?_)) | (refine effD_by2 (F := res) (fun _ => ?_) (fun _ => ?_)) | simp -implicitDefEqProofs (disch := first | omega | (simp only [List.length_append, List.length_cons, List.length_nil, List.length_drop, List.length_take]; omega)) only [evs, tys, lors, Nat.reduceAdd, Nat.reduceSub, Nat.reduceMul, Nat.reducePow, Nat.reduceBEq, Nat.reduceLT, Nat.reduceLeDiff, Nat.reduceEqDiff, Int.reduceLT, Int.reduceLE, Int.reduceEq, Int.reduceNe, Int.reduceToNat, Int.reduceAdd, Int.reduceSub, Int.reduceMul, Int.reducePow, Int.reduceDiv, Int.reduceMod, Int.reduceNeg, reduceCtorEq, codeKey, List.contains, List.elem, Ev.load, peek, pack, storeV, fieldAddr, field, cvB, hk])
      all_goals first
        | exact hR
        | (exfalso; omega)
theorem search_cv (s i : Int) (hs : -4 ≤ s ∧ s ≤ 8) (W : Nat) (hW : UpW s i W) : callV (CL lore) 40 [.int .i64 9218868437227405311, .fn 41 [] [.ptr 0 0, .ptr 1 0]] [⟨[.int .i64 s], 0, false, false⟩, ⟨[.int .i64 i], 0, false, false⟩] = some (.int .i64 W, [⟨[.int .i64 s], 0, false, false⟩, ⟨[.int .i64 i], 0, false, false⟩]) := by
  refine callV_sh rfl ?_
  rw [call_start lore_ext40 Try.func40 rfl lore_okf40 (Nat.le_of_ble_eq_true rfl)]
  repeat' (first | (refine cond_by (F := res) (fun _ => ?_) (fun _ => ?_)) | (refine wayK_by (F := res) (fun _ hb_ => ?_) (fun _ hb_ => ?_) <;> simp only [hb_]) | (refine wayK_byN (F := res) (fun _ hb_ => ?_) (fun _ hb_ => ?_) <;> simp only [hb_]) | (refine wayD_by (F := res) (fun _ hb_ => ?_) (fun _ hb_ => ?_) <;> simp only [hb_]) | (refine wayD_byN (F := res) (fun _ hb_ => ?_) (fun _ hb_ => ?_) <;> simp only [hb_]) | (refine rdK_by (F := res) (fun _ => ?_) (fun _ => ?_)) | (refine effK_by (F := res) (fun _ => ?_) (fun _ => ?_)) | (refine effK_by2 (F := res) (fun _ => ?_) (fun _ => ?_)) | (refine rdD_by (F := res) (fun _ => ?_) (fun _ => ?_)) | (refine effD_by (F := res) (fun _ => ?_) (fun _ => ?_)) | (refine effD_by2 (F := res) (fun _ => ?_) (fun _ => ?_)) | simp -implicitDefEqProofs (disch := first | omega | (simp only [List.length_append, List.length_cons, List.length_nil, List.length_drop, List.length_take]; omega)) only [evs, tys, lors, Nat.reduceAdd, Nat.reduceSub, Nat.reduceMul, Nat.reducePow, Nat.reduceBEq, Nat.reduceLT, Nat.reduceLeDiff, Nat.reduceEqDiff, Int.reduceLT, Int.reduceLE, Int.reduceEq, Int.reduceNe, Int.reduceToNat, Int.reduceAdd, Int.reduceSub, Int.reduceMul, Int.reducePow, Int.reduceDiv, Int.reduceMod, Int.reduceNeg, reduceCtorEq, codeKey, List.contains, List.elem, Ev.load, peek, pack, storeV, fieldAddr, field, cvB])
  refine search40 s i hs W hW _ _ _ (by rfl) ?_ 9218868437227405311 0 9218868437227405311 rfl (by omega) hW.1 (by omega)
  repeat' (first | (refine cond_by (F := res) (fun _ => ?_) (fun _ => ?_)) | (refine wayK_by (F := res) (fun _ hb_ => ?_) (fun _ hb_ => ?_) <;> simp only [hb_]) | (refine wayK_byN (F := res) (fun _ hb_ => ?_) (fun _ hb_ => ?_) <;> simp only [hb_]) | (refine wayD_by (F := res) (fun _ hb_ => ?_) (fun _ hb_ => ?_) <;> simp only [hb_]) | (refine wayD_byN (F := res) (fun _ hb_ => ?_) (fun _ hb_ => ?_) <;> simp only [hb_]) | (refine rdK_by (F := res) (fun _ => ?_) (fun _ => ?_)) | (refine effK_by (F := res) (fun _ => ?_) (fun _ => ?_)) | (refine effK_by2 (F := res) (fun _ => ?_) (fun _ => ?_)) | (refine rdD_by (F := res) (fun _ => ?_) (fun _ => ?_)) | (refine effD_by (F := res) (fun _ => ?_) (fun _ => ?_)) | (refine effD_by2 (F := res) (fun _ => ?_) (fun _ => ?_)) | simp -implicitDefEqProofs (disch := first | omega | (simp only [List.length_append, List.length_cons, List.length_nil, List.length_drop, List.length_take]; omega)) only [evs, tys, lors, Nat.reduceAdd, Nat.reduceSub, Nat.reduceMul, Nat.reducePow, Nat.reduceBEq, Nat.reduceLT, Nat.reduceLeDiff, Nat.reduceEqDiff, Int.reduceLT, Int.reduceLE, Int.reduceEq, Int.reduceNe, Int.reduceToNat, Int.reduceAdd, Int.reduceSub, Int.reduceMul, Int.reducePow, Int.reduceDiv, Int.reduceMod, Int.reduceNeg, reduceCtorEq, codeKey, List.contains, List.elem, Ev.load, peek, pack, storeV, fieldAddr, field, cvB])
  all_goals exact res_eq
def upperV (s i : Int) (W : Nat) : V := if (-4 ≤ s ∧ s ≤ 8) ∧ placeF s 1 - 1 ≤ i ∧ i ≤ placeF s 9218868437227405311 then .tup [.fl .f64 W, .int .i64 0] else .tup [.fl .f64 0, .int .i64 2]
theorem upper_cv (s i : Int) (W : Nat) (hW : UpW s i W) (H : Heap) : callV (CL lore) 23 [.int .i64 s, .int .i64 i] H = some (upperV s i W, H) := by
  refine callV_ans (r := some _) ?_ lore_sh23 rfl H
  rw [call_start lore_ext23 Try.func23 rfl lore_okf23 (Nat.le_of_ble_eq_true rfl)]
  have he := fun H => ends_cv s H
  unfold upperV
  by_cases hs : -4 ≤ s ∧ s ≤ 8
  · simp only [if_pos hs] at he
    obtain ⟨p1, p2, p3, p4⟩ := place_b hs (b := 1) (by decide) (by decide)
    have hb := bits_cv 9218868437227405311 (by decide)
    have hsr := search_cv s i hs W hW
    have hfb := frombits_cv W (by have := hW.1; omega)
    have hWm := hW.1
    generalize placeF s 1 = A at *
    generalize placeF s 9218868437227405311 = B at *
    by_cases hi : A - 1 ≤ i ∧ i ≤ B
    · rw [if_pos ⟨hs, hi⟩]
      repeat' (first | (refine cond_by (F := ans) (fun _ => ?_) (fun _ => ?_)) | (refine wayK_by (F := ans) (fun _ hb_ => ?_) (fun _ hb_ => ?_) <;> simp only [hb_]) | (refine wayK_byN (F := ans) (fun _ hb_ => ?_) (fun _ hb_ => ?_) <;> simp only [hb_]) | (refine wayD_by (F := ans) (fun _ hb_ => ?_) (fun _ hb_ => ?_) <;> simp only [hb_]) | (refine wayD_byN (F := ans) (fun _ hb_ => ?_) (fun _ hb_ => ?_) <;> simp only [hb_]) | (refine rdK_by (F := ans) (fun _ => ?_) (fun _ => ?_)) | (refine effK_by (F := ans) (fun _ => ?_) (fun _ => ?_)) | (refine effK_by2 (F := ans) (fun _ => ?_) (fun _ => ?_)) | (refine rdD_by (F := ans) (fun _ => ?_) (fun _ => ?_)) | (refine effD_by (F := ans) (fun _ => ?_) (fun _ => ?_)) | (refine effD_by2 (F := ans) (fun _ => ?_) (fun _ => ?_)) | simp -implicitDefEqProofs (disch := first | omega | (simp only [List.length_append, List.length_cons, List.length_nil, List.length_drop, List.length_take]; omega)) only [evs, tys, lors, Nat.reduceAdd, Nat.reduceSub, Nat.reduceMul, Nat.reducePow, Nat.reduceBEq, Nat.reduceLT, Nat.reduceLeDiff, Nat.reduceEqDiff, Int.reduceLT, Int.reduceLE, Int.reduceEq, Int.reduceNe, Int.reduceToNat, Int.reduceAdd, Int.reduceSub, Int.reduceMul, Int.reducePow, Int.reduceDiv, Int.reduceMod, Int.reduceNeg, reduceCtorEq, codeKey, List.contains, List.elem, Ev.load, peek, pack, storeV, fieldAddr, field, cvB, w64, he, hb, hsr, hfb])
      all_goals first
        | (exfalso; omega)
        | trace_state
    · rw [if_neg (fun h => hi h.2)]
      repeat' (first | (refine cond_by (F := ans) (fun _ => ?_) (fun _ => ?_)) | (refine wayK_by (F := ans) (fun _ hb_ => ?_) (fun _ hb_ => ?_) <;> simp only [hb_]) | (refine wayK_byN (F := ans) (fun _ hb_ => ?_) (fun _ hb_ => ?_) <;> simp only [hb_]) | (refine wayD_by (F := ans) (fun _ hb_ => ?_) (fun _ hb_ => ?_) <;> simp only [hb_]) | (refine wayD_byN (F := ans) (fun _ hb_ => ?_) (fun _ hb_ => ?_) <;> simp only [hb_]) | (refine rdK_by (F := ans) (fun _ => ?_) (fun _ => ?_)) | (refine effK_by (F := ans) (fun _ => ?_) (fun _ => ?_)) | (refine effK_by2 (F := ans) (fun _ => ?_) (fun _ => ?_)) | (refine rdD_by (F := ans) (fun _ => ?_) (fun _ => ?_)) | (refine effD_by (F := ans) (fun _ => ?_) (fun _ => ?_)) | (refine effD_by2 (F := ans) (fun _ => ?_) (fun _ => ?_)) | simp -implicitDefEqProofs (disch := first | omega | (simp only [List.length_append, List.length_cons, List.length_nil, List.length_drop, List.length_take]; omega)) only [evs, tys, lors, Nat.reduceAdd, Nat.reduceSub, Nat.reduceMul, Nat.reducePow, Nat.reduceBEq, Nat.reduceLT, Nat.reduceLeDiff, Nat.reduceEqDiff, Int.reduceLT, Int.reduceLE, Int.reduceEq, Int.reduceNe, Int.reduceToNat, Int.reduceAdd, Int.reduceSub, Int.reduceMul, Int.reducePow, Int.reduceDiv, Int.reduceMod, Int.reduceNeg, reduceCtorEq, codeKey, List.contains, List.elem, Ev.load, peek, pack, storeV, fieldAddr, field, cvB, w64, he, hb, hsr, hfb])
      all_goals first
        | rfl
        | (exfalso; omega)
        | trace_state
  · simp only [if_neg hs] at he
    rw [if_neg (fun h => hs h.1)]
    repeat' (first | (refine cond_by (F := ans) (fun _ => ?_) (fun _ => ?_)) | (refine wayK_by (F := ans) (fun _ hb_ => ?_) (fun _ hb_ => ?_) <;> simp only [hb_]) | (refine wayK_byN (F := ans) (fun _ hb_ => ?_) (fun _ hb_ => ?_) <;> simp only [hb_]) | (refine wayD_by (F := ans) (fun _ hb_ => ?_) (fun _ hb_ => ?_) <;> simp only [hb_]) | (refine wayD_byN (F := ans) (fun _ hb_ => ?_) (fun _ hb_ => ?_) <;> simp only [hb_]) | (refine rdK_by (F := ans) (fun _ => ?_) (fun _ => ?_)) | (refine effK_by (F := ans) (fun _ => ?_) (fun _ => ?_)) | (refine effK_by2 (F := ans) (fun _ => ?_) (fun _ => ?_)) | (refine rdD_by (F := ans) (fun _ => ?_) (fun _ => ?_)) | (refine effD_by (F := ans) (fun _ => ?_) (fun _ => ?_)) | (refine effD_by2 (F := ans) (fun _ => ?_) (fun _ => ?_)) | simp -implicitDefEqProofs (disch := first | omega | (simp only [List.length_append, List.length_cons, List.length_nil, List.length_drop, List.length_take]; omega)) only [evs, tys, lors, Nat.reduceAdd, Nat.reduceSub, Nat.reduceMul, Nat.reducePow, Nat.reduceBEq, Nat.reduceLT, Nat.reduceLeDiff, Nat.reduceEqDiff, Int.reduceLT, Int.reduceLE, Int.reduceEq, Int.reduceNe, Int.reduceToNat, Int.reduceAdd, Int.reduceSub, Int.reduceMul, Int.reducePow, Int.reduceDiv, Int.reduceMod, Int.reduceNeg, reduceCtorEq, codeKey, List.contains, List.elem, Ev.load, peek, pack, storeV, fieldAddr, field, cvB, w64, he])
    all_goals trace_state


theorem inf1_cv (H : Heap) : callV (CL lore) 43 [.int .i64 1] H = some (.fl .f64 9218868437227405312, H) := by
  refine callV_ans (r := some _) ?_ lore_sh43 rfl H
  rw [call_start lore_ext43 Try.func43 rfl lore_okf43 (Nat.le_of_ble_eq_true rfl)]
  have h1 := frombits_cv 9218868437227405312 (by decide)
  have e : ((9218868437227405312 : Nat) : Int) = 9218868437227405312 := rfl
  rw [e] at h1
  repeat' (first | (refine cond_by (F := ans) (fun _ => ?_) (fun _ => ?_)) | (refine wayK_by (F := ans) (fun _ hb_ => ?_) (fun _ hb_ => ?_) <;> simp only [hb_]) | (refine wayK_byN (F := ans) (fun _ hb_ => ?_) (fun _ hb_ => ?_) <;> simp only [hb_]) | (refine wayD_by (F := ans) (fun _ hb_ => ?_) (fun _ hb_ => ?_) <;> simp only [hb_]) | (refine wayD_byN (F := ans) (fun _ hb_ => ?_) (fun _ hb_ => ?_) <;> simp only [hb_]) | (refine rdK_by (F := ans) (fun _ => ?_) (fun _ => ?_)) | (refine effK_by (F := ans) (fun _ => ?_) (fun _ => ?_)) | (refine effK_by2 (F := ans) (fun _ => ?_) (fun _ => ?_)) | (refine rdD_by (F := ans) (fun _ => ?_) (fun _ => ?_)) | (refine effD_by (F := ans) (fun _ => ?_) (fun _ => ?_)) | (refine effD_by2 (F := ans) (fun _ => ?_) (fun _ => ?_)) | simp -implicitDefEqProofs (disch := first | omega | (simp only [List.length_append, List.length_cons, List.length_nil, List.length_drop, List.length_take]; omega)) only [evs, tys, lors, Nat.reduceAdd, Nat.reduceSub, Nat.reduceMul, Nat.reducePow, Nat.reduceBEq, Nat.reduceLT, Nat.reduceLeDiff, Nat.reduceEqDiff, Int.reduceLT, Int.reduceLE, Int.reduceEq, Int.reduceNe, Int.reduceToNat, Int.reduceAdd, Int.reduceSub, Int.reduceMul, Int.reducePow, Int.reduceDiv, Int.reduceMod, Int.reduceNeg, reduceCtorEq, codeKey, List.contains, List.elem, Ev.load, peek, pack, storeV, fieldAddr, field, cvB, h1])
theorem loop24 (s i : Int) (hs : -4 ≤ s ∧ s ≤ 8) (W : Nat) (hW : UpW s i W) (K : Kont) (R : Option V) (a : Code) (ha : loopIn Try.prog 24 6 = some a)
    (hR : ans (K (.exit 0) (Sl 53 .wild [(0, .int .i64 s), (1, .int .i64 i), (9, .int .u64 W), (10, .int .u64 ((W : Int) + 1))]) []) = R) :
    ∀ (n lo hi : Nat), hi - lo = n → lo ≤ W → W < hi → hi ≤ 9218868437227405312 → ans (loopL lore 24 a (Sl 53 .wild [(0, .int .i64 s), (1, .int .i64 i), (9, .int .u64 lo), (10, .int .u64 hi)]) [] K) = R := by
  have hk := loop_key ha
  simp only [loopIn, Try.func24, Try.f24, loopAt, Option.bind_some, codeKey, if_true, Option.some.injEq, Nat.reduceEqDiff, if_false] at ha
  obtain ⟨w1, w2, w3⟩ := hW
  intro n
  induction n using Nat.strongRecOn with
  | ind n ih =>
    intro lo hi hn h1 h2 h3
    rcases Nat.lt_or_ge 1 (hi - lo) with hlt | hge
    · have hf := index_f_cv s hs (lo + (hi - lo) / 2) (by omega) (by omega)
      have hfb := frombits_cv (lo + (hi - lo) / 2) (by omega)
      have e1 : ((lo + (hi - lo) / 2 : Nat) : Int) = (lo : Int) + ((hi : Int) - (lo : Int)) / 2 := by omega
      rw [e1] at hfb
      have hlt' : (1 : Int) < (hi : Int) - (lo : Int) := by omega
      by_cases hc : placeF s (lo + (hi - lo) / 2) ≤ i
      · have hw : lo + (hi - lo) / 2 ≤ W := by
          rcases Nat.lt_or_ge W (lo + (hi - lo) / 2) with hh | hh
          · have := w3 (lo + (hi - lo) / 2) hh (by omega)
            omega
          · exact hh
        have next := ih (hi - (lo + (hi - lo) / 2)) (by omega) (lo + (hi - lo) / 2) hi rfl hw h2 h3
        rw [e1] at next
        rw [loopL_step' ha]
        repeat' (first | (refine cond_by (F := ans) (fun _ => ?_) (fun _ => ?_)) | (refine wayK_by (F := ans) (fun _ hb_ => ?_) (fun _ hb_ => ?_) <;> simp only [hb_]) | (refine wayK_byN (F := ans) (fun _ hb_ => ?_) (fun _ hb_ => ?_) <;> simp only [hb_]) | (refine wayD_by (F := ans) (fun _ hb_ => ?_) (fun _ hb_ => ?_) <;> simp only [hb_]) | (refine wayD_byN (F := ans) (fun _ hb_ => ?_) (fun _ hb_ => ?_) <;> simp only [hb_]) | (refine rdK_by (F := ans) (fun _ => ?_) (fun _ => ?_)) | (refine effK_by (F := ans) (fun _ => ?_) (fun _ => ?_)) | (refine effK_by2 (F := ans) (fun _ => ?_) (fun _ => ?_)) | (refine rdD_by (F := ans) (fun _ => ?_) (fun _ => ?_)) | (refine effD_by (F := ans) (fun _ => ?_) (fun _ => ?_)) | (refine effD_by2 (F := ans) (fun _ => ?_) (fun _ => ?_)) | simp -implicitDefEqProofs (disch := first | omega | (simp only [List.length_append, List.length_cons, List.length_nil, List.length_drop, List.length_take]; omega)) only [evs, tys, lors, Nat.reduceAdd, Nat.reduceSub, Nat.reduceMul, Nat.reducePow, Nat.reduceBEq, Nat.reduceLT, Nat.reduceLeDiff, Nat.reduceEqDiff, Int.reduceLT, Int.reduceLE, Int.reduceEq, Int.reduceNe, Int.reduceToNat, Int.reduceAdd, Int.reduceSub, Int.reduceMul, Int.reducePow, Int.reduceDiv, Int.reduceMod, Int.reduceNeg, reduceCtorEq, codeKey, List.contains, List.elem, Ev.load, peek, pack, storeV, fieldAddr, field, cvB, hk, hf, hfb, hlt', hc, decide_true])
        all_goals first
          | exact next
          | trace_state
      · have hw : W < lo + (hi - lo) / 2 := by
          rcases Nat.lt_or_ge W (lo + (hi - lo) / 2) with hh | hh
          · exact hh
          · have := w2 (lo + (hi - lo) / 2) (by omega) hh
            omega
        have next := ih (lo + (hi - lo) / 2 - lo) (by omega) lo (lo + (hi - lo) / 2) rfl h1 hw (by omega)
        rw [e1] at next
        rw [loopL_step' ha]
        repeat' (first | (refine cond_by (F := ans) (fun _ => ?_) (fun _ => ?_)) | (refine wayK_by (F := ans) (fun _ hb_ => ?_) (fun _ hb_ => ?_) <;> simp only [hb_]) | (refine wayK_byN (F := ans) (fun _ hb_ => ?_) (fun _ hb_ => ?_) <;> simp only [hb_]) | (refine wayD_by (F := ans) (fun _ hb_ => ?_) (fun _ hb_ => ?_) <;> simp only [hb_]) | (refine wayD_byN (F := ans) (fun _ hb_ => ?_) (fun _ hb_ => ?_) <;> simp only [hb_]) | (refine rdK_by (F := ans) (fun _ => ?_) (fun _ => ?_)) | (refine effK_by (F := ans) (fun _ => ?_) (fun _ => ?_)) | (refine effK_by2 (F := ans) (fun _ => ?_) (fun _ => ?_)) | (refine rdD_by (F := ans) (fun _ => ?_) (fun _ => ?_)) | (refine effD_by (F := ans) (fun _ => ?_) (fun _ => ?_)) | (refine effD_by2 (F := ans) (fun _ => ?_) (fun _ => ?_)) | simp -implicitDefEqProofs (disch := first | omega | (simp only [List.length_append, List.length_cons, List.length_nil, List.length_drop, List.length_take]; omega)) only [evs, tys, lors, Nat.reduceAdd, Nat.reduceSub, Nat.reduceMul, Nat.reducePow, Nat.reduceBEq, Nat.reduceLT, Nat.reduceLeDiff, Nat.reduceEqDiff, Int.reduceLT, Int.reduceLE, Int.reduceEq, Int.reduceNe, Int.reduceToNat, Int.reduceAdd, Int.reduceSub, Int.reduceMul, Int.reducePow, Int.reduceDiv, Int.reduceMod, Int.reduceNeg, reduceCtorEq, codeKey, List.contains, List.elem, Ev.load, peek, pack, storeV, fieldAddr, field, cvB, hk, hf, hfb, hlt', hc, decide_true, decide_false])
        all_goals first
          | exact next
          | trace_state
    · obtain rfl : lo = W := by omega
      obtain rfl : hi = lo + 1 := by omega
      have e2 : ((lo + 1 : Nat) : Int) = (lo : Int) + 1 := by omega
      rw [e2]
      have hlt' : ¬ (1 : Int) < (lo : Int) + 1 - (lo : Int) := by omega
      rw [loopL_step' ha]
      repeat' (first | (refine cond_by (F := ans) (fun _ => ?_) (fun _ => ?_)) | (refine wayK_by (F := ans) (fun _ hb_ => ?_) (fun _ hb_ => ?_) <;> simp only [hb_]) | (refine wayK_byN (F := ans) (fun _ hb_ => ?_) (fun _ hb_ => ?_) <;> simp only [hb_]) | (refine wayD_by (F := ans) (fun _ hb_ => ?_) (fun _ hb_ => ?_) <;> simp only [hb_]) | (refine wayD_byN (F := ans) (fun _ hb_ => ?_) (fun _ hb_ => ?_) <;> simp only [hb_]) | (refine rdK_by (F := ans) (fun _ => ?_) (fun _ => ?_)) | (refine effK_by (F := ans) (fun _ => ?_) (fun _ => ?_)) | (refine effK_by2 (F := ans) (fun _ => ?_) (fun _ => ?_)) | (refine rdD_by (F := ans) (fun _ => ?_) (fun _ => ?_)) | (refine effD_by (F := ans) (fun _ => ?_) (fun _ => ?_)) | (refine effD_by2 (F := ans) (fun _ => ?_) (fun _ => ?_)) | simp -implicitDefEqProofs (disch := first | omega | (simp only [List.length_append, List.length_cons, List.length_nil, List.length_drop, List.length_take]; omega)) only [evs, tys, lors, Nat.reduceAdd, Nat.reduceSub, Nat.reduceMul, Nat.reducePow, Nat.reduceBEq, Nat.reduceLT, Nat.reduceLeDiff, Nat.reduceEqDiff, Int.reduceLT, Int.reduceLE, Int.reduceEq, Int.reduceNe, Int.reduceToNat, Int.reduceAdd, Int.reduceSub, Int.reduceMul, Int.reducePow, Int.reduceDiv, Int.reduceMod, Int.reduceNeg, reduceCtorEq, codeKey, List.contains, List.elem, Ev.load, peek, pack, storeV, fieldAddr, field, cvB, hk, hlt', decide_false])
      all_goals first
        | exact hR
        | (exfalso; omega)
theorem upperD_cv (s i : Int) (W : Nat) (hW : UpW s i W) (H : Heap) : callV (CL lore) 24 [.int .i64 s, .int .i64 i] H = some (upperV s i W, H) := by
  refine callV_ans (r := some _) ?_ lore_sh24 rfl H
  rw [call_start lore_ext24 Try.func24 rfl lore_okf24 (Nat.le_of_ble_eq_true rfl)]
  have he := fun H => endsD_cv s H
  unfold upperV
  by_cases hs : -4 ≤ s ∧ s ≤ 8
  · simp only [if_pos hs] at he
    obtain ⟨p1, p2, p3, p4⟩ := place_b hs (b := 1) (by decide) (by decide)
    have hb := bits_cv 9218868437227405312 (by decide)
    have hfb := frombits_cv W (by have := hW.1; omega)
    have hWm := hW.1
    have l24 := loop24 s i hs W hW
    generalize placeF s 1 = A at *
    generalize placeF s 9218868437227405311 = B at *
    by_cases hi : A - 1 ≤ i ∧ i ≤ B
    · rw [if_pos ⟨hs, hi⟩]
      repeat' (first | (refine cond_by (F := ans) (fun _ => ?_) (fun _ => ?_)) | (refine wayK_by (F := ans) (fun _ hb_ => ?_) (fun _ hb_ => ?_) <;> simp only [hb_]) | (refine wayK_byN (F := ans) (fun _ hb_ => ?_) (fun _ hb_ => ?_) <;> simp only [hb_]) | (refine wayD_by (F := ans) (fun _ hb_ => ?_) (fun _ hb_ => ?_) <;> simp only [hb_]) | (refine wayD_byN (F := ans) (fun _ hb_ => ?_) (fun _ hb_ => ?_) <;> simp only [hb_]) | (refine rdK_by (F := ans) (fun _ => ?_) (fun _ => ?_)) | (refine effK_by (F := ans) (fun _ => ?_) (fun _ => ?_)) | (refine effK_by2 (F := ans) (fun _ => ?_) (fun _ => ?_)) | (refine rdD_by (F := ans) (fun _ => ?_) (fun _ => ?_)) | (refine effD_by (F := ans) (fun _ => ?_) (fun _ => ?_)) | (refine effD_by2 (F := ans) (fun _ => ?_) (fun _ => ?_)) | simp -implicitDefEqProofs (disch := first | omega | (simp only [List.length_append, List.length_cons, List.length_nil, List.length_drop, List.length_take]; omega)) only [evs, tys, lors, Nat.reduceAdd, Nat.reduceSub, Nat.reduceMul, Nat.reducePow, Nat.reduceBEq, Nat.reduceLT, Nat.reduceLeDiff, Nat.reduceEqDiff, Int.reduceLT, Int.reduceLE, Int.reduceEq, Int.reduceNe, Int.reduceToNat, Int.reduceAdd, Int.reduceSub, Int.reduceMul, Int.reducePow, Int.reduceDiv, Int.reduceMod, Int.reduceNeg, reduceCtorEq, codeKey, List.contains, List.elem, Ev.load, peek, pack, storeV, fieldAddr, field, cvB, w64, he, hb, inf1_cv])
      all_goals first
        | (exfalso; omega)
        | skip
      refine l24 _ _ _ (by rfl) ?_ 9218868437227405312 0 9218868437227405312 rfl (by omega) (by omega) (by omega)
      repeat' (first | (refine cond_by (F := ans) (fun _ => ?_) (fun _ => ?_)) | (refine wayK_by (F := ans) (fun _ hb_ => ?_) (fun _ hb_ => ?_) <;> simp only [hb_]) | (refine wayK_byN (F := ans) (fun _ hb_ => ?_) (fun _ hb_ => ?_) <;> simp only [hb_]) | (refine wayD_by (F := ans) (fun _ hb_ => ?_) (fun _ hb_ => ?_) <;> simp only [hb_]) | (refine wayD_byN (F := ans) (fun _ hb_ => ?_) (fun _ hb_ => ?_) <;> simp only [hb_]) | (refine rdK_by (F := ans) (fun _ => ?_) (fun _ => ?_)) | (refine effK_by (F := ans) (fun _ => ?_) (fun _ => ?_)) | (refine effK_by2 (F := ans) (fun _ => ?_) (fun _ => ?_)) | (refine rdD_by (F := ans) (fun _ => ?_) (fun _ => ?_)) | (refine effD_by (F := ans) (fun _ => ?_) (fun _ => ?_)) | (refine effD_by2 (F := ans) (fun _ => ?_) (fun _ => ?_)) | simp -implicitDefEqProofs (disch := first | omega | (simp only [List.length_append, List.length_cons, List.length_nil, List.length_drop, List.length_take]; omega)) only [evs, tys, lors, Nat.reduceAdd, Nat.reduceSub, Nat.reduceMul, Nat.reducePow, Nat.reduceBEq, Nat.reduceLT, Nat.reduceLeDiff, Nat.reduceEqDiff, Int.reduceLT, Int.reduceLE, Int.reduceEq, Int.reduceNe, Int.reduceToNat, Int.reduceAdd, Int.reduceSub, Int.reduceMul, Int.reducePow, Int.reduceDiv, Int.reduceMod, Int.reduceNeg, reduceCtorEq, codeKey, List.contains, List.elem, Ev.load, peek, pack, storeV, fieldAddr, field, cvB, w64, hfb])
    · rw [if_neg (fun h => hi h.2)]
      repeat' (first | (refine cond_by (F := ans) (fun _ => ?_) (fun _ => ?_)) | (refine wayK_by (F := ans) (fun _ hb_ => ?_) (fun _ hb_ => ?_) <;> simp only [hb_]) | (refine wayK_byN (F := ans) (fun _ hb_ => ?_) (fun _ hb_ => ?_) <;> simp only [hb_]) | (refine wayD_by (F := ans) (fun _ hb_ => ?_) (fun _ hb_ => ?_) <;> simp only [hb_]) | (refine wayD_byN (F := ans) (fun _ hb_ => ?_) (fun _ hb_ => ?_) <;> simp only [hb_]) | (refine rdK_by (F := ans) (fun _ => ?_) (fun _ => ?_)) | (refine effK_by (F := ans) (fun _ => ?_) (fun _ => ?_)) | (refine effK_by2 (F := ans) (fun _ => ?_) (fun _ => ?_)) | (refine rdD_by (F := ans) (fun _ => ?_) (fun _ => ?_)) | (refine effD_by (F := ans) (fun _ => ?_) (fun _ => ?_)) | (refine effD_by2 (F := ans) (fun _ => ?_) (fun _ => ?_)) | simp -implicitDefEqProofs (disch := first | omega | (simp only [List.length_append, List.length_cons, List.length_nil, List.length_drop, List.length_take]; omega)) only [evs, tys, lors, Nat.reduceAdd, Nat.reduceSub, Nat.reduceMul, Nat.reducePow, Nat.reduceBEq, Nat.reduceLT, Nat.reduceLeDiff, Nat.reduceEqDiff, Int.reduceLT, Int.reduceLE, Int.reduceEq, Int.reduceNe, Int.reduceToNat, Int.reduceAdd, Int.reduceSub, Int.reduceMul, Int.reducePow, Int.reduceDiv, Int.reduceMod, Int.reduceNeg, reduceCtorEq, codeKey, List.contains, List.elem, Ev.load, peek, pack, storeV, fieldAddr, field, cvB, w64, he, hb])
      all_goals first
        | rfl
        | (exfalso; omega)
        | trace_state
  · simp only [if_neg hs] at he
    rw [if_neg (fun h => hs h.1)]
    repeat' (first | (refine cond_by (F := ans) (fun _ => ?_) (fun _ => ?_)) | (refine wayK_by (F := ans) (fun _ hb_ => ?_) (fun _ hb_ => ?_) <;> simp only [hb_]) | (refine wayK_byN (F := ans) (fun _ hb_ => ?_) (fun _ hb_ => ?_) <;> simp only [hb_]) | (refine wayD_by (F := ans) (fun _ hb_ => ?_) (fun _ hb_ => ?_) <;> simp only [hb_]) | (refine wayD_byN (F := ans) (fun _ hb_ => ?_) (fun _ hb_ => ?_) <;> simp only [hb_]) | (refine rdK_by (F := ans) (fun _ => ?_) (fun _ => ?_)) | (refine effK_by (F := ans) (fun _ => ?_) (fun _ => ?_)) | (refine effK_by2 (F := ans) (fun _ => ?_) (fun _ => ?_)) | (refine rdD_by (F := ans) (fun _ => ?_) (fun _ => ?_)) | (refine effD_by (F := ans) (fun _ => ?_) (fun _ => ?_)) | (refine effD_by2 (F := ans) (fun _ => ?_) (fun _ => ?_)) | simp -implicitDefEqProofs (disch := first | omega | (simp only [List.length_append, List.length_cons, List.length_nil, List.length_drop, List.length_take]; omega)) only [evs, tys, lors, Nat.reduceAdd, Nat.reduceSub, Nat.reduceMul, Nat.reducePow, Nat.reduceBEq, Nat.reduceLT, Nat.reduceLeDiff, Nat.reduceEqDiff, Int.reduceLT, Int.reduceLE, Int.reduceEq, Int.reduceNe, Int.reduceToNat, Int.reduceAdd, Int.reduceSub, Int.reduceMul, Int.reducePow, Int.reduceDiv, Int.reduceMod, Int.reduceNeg, reduceCtorEq, codeKey, List.contains, List.elem, Ev.load, peek, pack, storeV, fieldAddr, field, cvB, w64, he])
    all_goals trace_state
theorem scaleExps_ev (s : Int) (x : Nat) (hx : x < 18446744073709551616) (i : Int) (hi : -9223372036854775808 ≤ i ∧ i ≤ 9223372036854775807) : ans (callL lore 6 [.int .i64 s, .fl .f64 x, .int .i64 i] []) = some (.bool true) := by
  rw [call_start lore_ext6 Try.func6 rfl lore_okf6 (Nat.le_of_ble_eq_true rfl)]
  obtain ⟨W, hW⟩ := upw_ex s i
  have c1 := fun H => exp_cv s x hx H
  have c2 := fun H => expD_cv s x hx H
  have c3 := fun H => ends_cv s H
  have c4 := fun H => endsD_cv s H
  have c5 := fun H => upper_cv s i W hW H
  have c6 := fun H => upperD_cv s i W hW H
  have c7 := fun H => coarser_cv i hi.1 hi.2 H
  have c8 := fun H => coarserD_cv i hi.1 hi.2 H
  have c9 := bits_cv W (by have := hW.1; omega)
  have c10 := bits_cv 0 (by decide)
  have hE : ∃ a b c, expV s x = .tup [.agg [.int .i64 a, .int .i64 b], .int .i64 c] := by
    unfold expV
    split
    · exact ⟨_, _, _, rfl⟩
    · exact ⟨_, _, _, rfl⟩
  obtain ⟨ea, eb, ec, hE⟩ := hE
  rw [hE] at c1 c2
  have hU : ∃ (w : Nat) (d : Int), (w = W ∨ w = 0) ∧ upperV s i W = .tup [.fl .f64 w, .int .i64 d] := by
    unfold upperV
    split
    · exact ⟨_, _, Or.inl rfl, rfl⟩
    · exact ⟨_, _, Or.inr rfl, rfl⟩
  obtain ⟨w, d, hw, hU⟩ := hU
  rw [hU] at c5 c6
  have c11 := bits_cv w (by have := hW.1; rcases hw with rfl | rfl <;> omega)
  have hN : ∃ a b c, ∀ H, callV (CL lore) 21 [.int .i64 s] H = some (.tup [.int .i64 a, .int .i64 b, .int .i64 c], H) ∧ callV (CL lore) 22 [.int .i64 s] H = some (.tup [.int .i64 a, .int .i64 b, .int .i64 c], H) := by
    by_cases hs : -4 ≤ s ∧ s ≤ 8
    · exact ⟨_, _, _, fun H => ⟨by rw [c3, if_pos hs], by rw [c4, if_pos hs]⟩⟩
    · exact ⟨_, _, _, fun H => ⟨by rw [c3, if_neg hs], by rw [c4, if_neg hs]⟩⟩
  obtain ⟨na, nb_, nc, hN⟩ := hN
  have c12 := fun H => (hN H).1
  have c13 := fun H => (hN H).2
  repeat' (first | (refine cond_by (F := ans) (fun _ => ?_) (fun _ => ?_)) | (refine wayK_by (F := ans) (fun _ hb_ => ?_) (fun _ hb_ => ?_) <;> simp only [hb_]) | (refine wayK_byN (F := ans) (fun _ hb_ => ?_) (fun _ hb_ => ?_) <;> simp only [hb_]) | (refine wayD_by (F := ans) (fun _ hb_ => ?_) (fun _ hb_ => ?_) <;> simp only [hb_]) | (refine wayD_byN (F := ans) (fun _ hb_ => ?_) (fun _ hb_ => ?_) <;> simp only [hb_]) | (refine rdK_by (F := ans) (fun _ => ?_) (fun _ => ?_)) | (refine effK_by (F := ans) (fun _ => ?_) (fun _ => ?_)) | (refine effK_by2 (F := ans) (fun _ => ?_) (fun _ => ?_)) | (refine rdD_by (F := ans) (fun _ => ?_) (fun _ => ?_)) | (refine effD_by (F := ans) (fun _ => ?_) (fun _ => ?_)) | (refine effD_by2 (F := ans) (fun _ => ?_) (fun _ => ?_)) | simp -implicitDefEqProofs (disch := first | omega | (simp only [List.length_append, List.length_cons, List.length_nil, List.length_drop, List.length_take]; omega)) only [evs, tys, lors, Nat.reduceAdd, Nat.reduceSub, Nat.reduceMul, Nat.reducePow, Nat.reduceBEq, Nat.reduceLT, Nat.reduceLeDiff, Nat.reduceEqDiff, Int.reduceLT, Int.reduceLE, Int.reduceEq, Int.reduceNe, Int.reduceToNat, Int.reduceAdd, Int.reduceSub, Int.reduceMul, Int.reducePow, Int.reduceDiv, Int.reduceMod, Int.reduceNeg, reduceCtorEq, codeKey, List.contains, List.elem, Ev.load, peek, pack, storeV, fieldAddr, field, cvB, c1, c2, c12, c13, c5, c6, c7, c8, c11, begins_cv, eqX_neq, and_self, not_true_eq_false, decide_false, decide_true, ne_eq])
  all_goals trace_state
end Go.Proofs.Ytacnpljkcpomnaa
