/-
How many bits a whole number has: whole.Len.
-/
import Derived.Test.YtacnpljkcpomnaaW4
import Derived.Test.YtacnpljkcpomnaaF1
namespace Go.Proofs.Ytacnpljkcpomnaa
open Go Ev
set_option linter.all false
set_option maxHeartbeats 4000000
set_option maxRecDepth 5000
attribute [local irreducible] codeL condL loopL callL callV evOps evDraw rdK effK wayK oneK wayD oneD rdD effD chks chkB res

/-- How many bits. -/
def bl (n : Int) : Nat := if n ≤ 0 then 0 else n.toNat.log2 + 1
theorem bl_of {n : Int} {k : Nat} (h0 : 2 ^ k ≤ n) (h1 : n < 2 ^ (k + 1)) : bl n = k + 1 := by
  have hp : (0 : Int) < 2 ^ k := Int.pow_pos (by decide)
  unfold bl
  rw [if_neg (by omega)]
  obtain ⟨m, rfl⟩ : ∃ m : Nat, n = m := ⟨n.toNat, by omega⟩
  rw [Int.toNat_natCast, log2_of (k := k) (by exact_mod_cast h0) (by exact_mod_cast h1)]
theorem bl_facts {n : Int} (h : 0 < n) : 1 ≤ bl n ∧ 2 ^ (bl n - 1) ≤ n ∧ n < 2 ^ bl n := by
  obtain ⟨m, rfl⟩ : ∃ m : Nat, n = m := ⟨n.toNat, by omega⟩
  have hm : m ≠ 0 := by omega
  obtain ⟨a, b⟩ := (Nat.log2_eq_iff hm).1 rfl
  unfold bl
  rw [if_neg (by omega), Int.toNat_natCast, Nat.add_sub_cancel]
  exact ⟨by omega, by exact_mod_cast a, by exact_mod_cast b⟩
theorem bl_zero : bl 0 = 0 := rfl
theorem len_cv (n : Int) (h : 0 ≤ n) (hl : (words n).length ≤ 1000000) (b c : Bool) (H : Heap) : callV (CL lore) 51 [.agg [.bool b, .sl (enc (words n)) 1 c]] H = some (.int .i64 (bl n), H) := by
  refine callV_ans (r := some _) ?_ lore_sh51 rfl H
  rw [call_start lore_ext51 Try.func51 rfl lore_okf51 (Nat.le_of_ble_eq_true rfl)]
  by_cases h0 : n = 0
  · subst h0
    have e : words 0 = [] := by decide
    have e1 : (enc []).length = 0 := rfl
    rw [e]
    repeat' (first | (refine cond_by (F := ans) (fun _ => ?_) (fun _ => ?_)) | (refine wayK_by (F := ans) (fun _ hb_ => ?_) (fun _ hb_ => ?_) <;> simp only [hb_]) | (refine wayK_byN (F := ans) (fun _ hb_ => ?_) (fun _ hb_ => ?_) <;> simp only [hb_]) | (refine wayD_by (F := ans) (fun _ hb_ => ?_) (fun _ hb_ => ?_) <;> simp only [hb_]) | (refine wayD_byN (F := ans) (fun _ hb_ => ?_) (fun _ hb_ => ?_) <;> simp only [hb_]) | (refine rdK_by (F := ans) (fun _ => ?_) (fun _ => ?_)) | (refine effK_by (F := ans) (fun _ => ?_) (fun _ => ?_)) | (refine effK_by2 (F := ans) (fun _ => ?_) (fun _ => ?_)) | (refine rdD_by (F := ans) (fun _ => ?_) (fun _ => ?_)) | (refine effD_by (F := ans) (fun _ => ?_) (fun _ => ?_)) | (refine effD_by2 (F := ans) (fun _ => ?_) (fun _ => ?_)) | simp -implicitDefEqProofs (disch := first | omega | (simp only [List.length_append, List.length_cons, List.length_nil, List.length_drop, List.length_take]; omega)) only [evs, tys, lors, Nat.reduceAdd, Nat.reduceSub, Nat.reduceMul, Nat.reducePow, Nat.reduceBEq, Nat.reduceLT, Nat.reduceLeDiff, Nat.reduceEqDiff, Int.reduceLT, Int.reduceLE, Int.reduceEq, Int.reduceNe, Int.reduceToNat, Int.reduceAdd, Int.reduceSub, Int.reduceMul, Int.reducePow, Int.reduceDiv, Int.reduceMod, Int.reduceNeg, reduceCtorEq, codeKey, List.contains, List.elem, Ev.load, peek, pack, storeV, fieldAddr, field, cvB, e1])
    rfl
  · obtain ⟨p, x, e, x0, x1, hv, v0, v1⟩ := words_last (show 0 < n by omega)
    rw [p264] at x1 v0 v1
    rw [e] at hl ⊢
    have e1 := enc_len (p ++ [x])
    have e2 := enc_get p x []
    have e3 : (p ++ [x]).length = p.length + 1 := by simp
    rw [e3] at e1 hl
    have e4 : (((p.length + 1 : Nat) : Int) - 1).toNat = p.length := by omega
    have hb := fun H => len64_cv x (by omega) (by omega) H
    obtain ⟨b1, b2, b3⟩ := bitLen_bounds x.toNat (by omega) (by omega)
    have hbl : bl n = (p.length * 64 + (Lib.bitLen x.toNat - 1)) + 1 := by
      have e5 : (18446744073709551616 : Int) = 2 ^ 64 := p264.symm
      rw [p264, e5] at hv
      rw [e5] at v0 v1
      rw [← Int.pow_mul] at hv v1
      obtain ⟨m, rfl⟩ : ∃ m : Nat, x = m := ⟨x.toNat, by omega⟩
      rw [Int.toNat_natCast] at *
      have c2 : (2 : Int) ^ (Lib.bitLen m - 1) ≤ m := by exact_mod_cast b2
      have c3 : (m : Int) + 1 ≤ 2 ^ Lib.bitLen m := by exact_mod_cast b3
      have hP : (0 : Int) < 2 ^ (64 * p.length) := Int.pow_pos (by decide)
      have m1 := Int.mul_le_mul_of_nonneg_left c2 (show (0 : Int) ≤ 2 ^ (64 * p.length) by omega)
      have m2 := Int.mul_le_mul_of_nonneg_left c3 (show (0 : Int) ≤ 2 ^ (64 * p.length) by omega)
      rw [← Int.pow_add] at m1 m2
      rw [Int.mul_add, Int.mul_one] at m2
      refine bl_of ?_ ?_
      · rw [Nat.mul_comm p.length]; omega
      · rw [show p.length * 64 + (Lib.bitLen m - 1) + 1 = 64 * p.length + Lib.bitLen m by omega]; omega
    have hbb := bitLen_le (n := x.toNat) (b := 64) (by omega) (by omega) (by omega)
    have e6 : (p.length : Int) * 64 + (Lib.bitLen x.toNat : Int) = (bl n : Int) := by rw [hbl]; omega
    have e7 : ((p.length + 1 : Nat) : Int) - 1 = p.length := by omega
    repeat' (first | (refine cond_by (F := ans) (fun _ => ?_) (fun _ => ?_)) | (refine wayK_by (F := ans) (fun _ hb_ => ?_) (fun _ hb_ => ?_) <;> simp only [hb_]) | (refine wayK_byN (F := ans) (fun _ hb_ => ?_) (fun _ hb_ => ?_) <;> simp only [hb_]) | (refine wayD_by (F := ans) (fun _ hb_ => ?_) (fun _ hb_ => ?_) <;> simp only [hb_]) | (refine wayD_byN (F := ans) (fun _ hb_ => ?_) (fun _ hb_ => ?_) <;> simp only [hb_]) | (refine rdK_by (F := ans) (fun _ => ?_) (fun _ => ?_)) | (refine effK_by (F := ans) (fun _ => ?_) (fun _ => ?_)) | (refine effK_by2 (F := ans) (fun _ => ?_) (fun _ => ?_)) | (refine rdD_by (F := ans) (fun _ => ?_) (fun _ => ?_)) | (refine effD_by (F := ans) (fun _ => ?_) (fun _ => ?_)) | (refine effD_by2 (F := ans) (fun _ => ?_) (fun _ => ?_)) | simp -implicitDefEqProofs (disch := first | omega | (simp only [List.length_append, List.length_cons, List.length_nil, List.length_drop, List.length_take]; omega)) only [evs, tys, lors, Nat.reduceAdd, Nat.reduceSub, Nat.reduceMul, Nat.reducePow, Nat.reduceBEq, Nat.reduceLT, Nat.reduceLeDiff, Nat.reduceEqDiff, Int.reduceLT, Int.reduceLE, Int.reduceEq, Int.reduceNe, Int.reduceToNat, Int.reduceAdd, Int.reduceSub, Int.reduceMul, Int.reducePow, Int.reduceDiv, Int.reduceMod, Int.reduceNeg, reduceCtorEq, codeKey, List.contains, List.elem, Ev.load, peek, pack, storeV, fieldAddr, field, cvB, e1, e2, e4, hb, e6, e7])
    all_goals first
      | (exfalso; omega)
      | trace_state
end Go.Proofs.Ytacnpljkcpomnaa
