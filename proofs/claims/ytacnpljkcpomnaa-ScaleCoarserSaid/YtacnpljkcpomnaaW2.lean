/-
whole: made, for words of any number.
-/
import Derived.Test.YtacnpljkcpomnaaS8
import Derived.Test.YtacnpljkcpomnaaW1
namespace Go.Proofs.Ytacnpljkcpomnaa
open Go Ev
set_option linter.all false
set_option maxHeartbeats 4000000
set_option maxRecDepth 5000
attribute [local irreducible] codeL condL loopL callL callV evOps evDraw rdK effK wayK oneK wayD oneD rdD effD chks chkB res

def enc (l : List Int) : List V := l.map (V.int .u64)
theorem enc_len (l : List Int) : (enc l).length = l.length := List.length_map ..
theorem enc_app (a b : List Int) : enc (a ++ b) = enc a ++ enc b := List.map_append ..
theorem enc_get (a : List Int) (x : Int) (b : List Int) : (enc (a ++ x :: b))[a.length]? = some (.int .u64 x) := by
  unfold enc
  rw [List.getElem?_map, List.getElem?_append_right (Nat.le_refl _), Nat.sub_self]
  rfl
theorem enc_set (a : List Int) (x y : Int) (b : List Int) : (enc (a ++ x :: b)).set a.length (.int .u64 y) = enc (a ++ y :: b) := by
  unfold enc
  rw [← List.map_set, List.set_append_right _ _ (Nat.le_refl _), Nat.sub_self]
  rfl
theorem enc_take (a b : List Int) : (enc (a ++ b)).take a.length = enc a := by
  rw [enc_app, ← enc_len a, List.take_left']
  rfl
theorem snoc_cases : ∀ l : List Int, l = [] ∨ ∃ a x, l = a ++ [x]
  | [] => Or.inl rfl
  | y :: r => by
    rcases snoc_cases r with rfl | ⟨a, x, rfl⟩
    · exact Or.inr ⟨[], y, rfl⟩
    · exact Or.inr ⟨y :: a, x, rfl⟩
theorem slice_sl {h : Heap} {es : List V} {c : Bool} {m : Int} (h0 : 0 ≤ m) (h1 : m ≤ es.length) : sliceV Try.prog h 73 (.sl es 1 c) none (some (.int .i64 m)) none = some (.sl (es.take m.toNat) 1 false, h) := by
  have hz : sizeT Try.prog 46 = 1 := sz46
  simp only [sliceV, Try.underlying73, hz, bound, if_true, Option.bind_some, h0, h1, and_self, true_and, Nat.le_refl, Int.natCast_zero]
  rw [List.drop_zero]
theorem loop62 (neg : Bool) (K : Kont) (R : Option V) (a : Code) (ha : loopIn Try.prog 62 1 = some a) (H : Heap) (L : List Int) (C : Bool)
    (hR : ans (K (.exit 0) (Sl 30 .wild [(0, .bool neg), (1, .sl (enc L) 1 C), (4, .ptr 0 0)]) H) = R) :
    ∀ (n : Nat) (l : List Int) (c : Bool), l.length = n → n < 2 ^ 60 → trim l = L → (if trim l = l then c else false) = C → ans (loopL lore 62 a (Sl 30 .wild [(0, .bool neg), (1, .sl (enc l) 1 c), (4, .ptr 0 0)]) H K) = R := by
  have hk := loop_key ha
  simp only [loopIn, Try.func62, Try.f62, loopAt, Option.bind_some, codeKey, if_true, Option.some.injEq, Nat.reduceEqDiff, if_false] at ha
  intro n
  induction n with
  | zero =>
    intro l c hl hn hL hC
    obtain rfl : l = [] := List.length_eq_zero_iff.1 hl
    have ht : trim [] = [] := rfl
    rw [if_pos ht] at hC
    rw [ht] at hL
    subst hC hL
    have e0 : (enc []).length = 0 := rfl
    rw [loopL_step' ha]
    repeat' (first | (refine cond_by (F := ans) (fun _ => ?_) (fun _ => ?_)) | (refine wayK_by (F := ans) (fun _ hb_ => ?_) (fun _ hb_ => ?_) <;> simp only [hb_]) | (refine wayK_byN (F := ans) (fun _ hb_ => ?_) (fun _ hb_ => ?_) <;> simp only [hb_]) | (refine wayD_by (F := ans) (fun _ hb_ => ?_) (fun _ hb_ => ?_) <;> simp only [hb_]) | (refine wayD_byN (F := ans) (fun _ hb_ => ?_) (fun _ hb_ => ?_) <;> simp only [hb_]) | (refine rdK_by (F := ans) (fun _ => ?_) (fun _ => ?_)) | (refine effK_by (F := ans) (fun _ => ?_) (fun _ => ?_)) | (refine effK_by2 (F := ans) (fun _ => ?_) (fun _ => ?_)) | (refine rdD_by (F := ans) (fun _ => ?_) (fun _ => ?_)) | (refine effD_by (F := ans) (fun _ => ?_) (fun _ => ?_)) | (refine effD_by2 (F := ans) (fun _ => ?_) (fun _ => ?_)) | simp -implicitDefEqProofs (disch := first | omega | (simp only [List.length_append, List.length_cons, List.length_nil, List.length_drop, List.length_take]; omega)) only [evs, tys, lors, Nat.reduceAdd, Nat.reduceSub, Nat.reduceMul, Nat.reducePow, Nat.reduceBEq, Nat.reduceLT, Nat.reduceLeDiff, Nat.reduceEqDiff, Int.reduceLT, Int.reduceLE, Int.reduceEq, Int.reduceNe, Int.reduceToNat, Int.reduceAdd, Int.reduceSub, Int.reduceMul, Int.reducePow, Int.reduceDiv, Int.reduceMod, Int.reduceNeg, reduceCtorEq, codeKey, List.contains, List.elem, Ev.load, peek, pack, storeV, fieldAddr, field, cvB, hk, e0])
    · exact hR
  | succ n ih =>
    intro l c hl hn hL hC
    rcases snoc_cases l with rfl | ⟨p, x, rfl⟩
    · simp at hl
    · have hp : p.length = n := by simpa using hl
      have e1 := enc_len (p ++ [x])
      rw [hl] at e1
      have e2 := enc_get p x []
      have e3 := enc_take p [x]
      rw [hp] at e2 e3
      have e4 : (((n + 1 : Nat) : Int) - 1).toNat = n := by omega
      by_cases hx : x = 0
      · subst hx
        rw [trim_snoc0] at hL hC
        have hne : trim p ≠ p ++ [0] := by
          intro h
          have := trim_snoc0 p
          rw [h] at this
          rcases snoc_cases (trim p) with h' | ⟨q, y, h'⟩
          · rw [h'] at h; simp at h
          · obtain ⟨q', y', e, hy⟩ := trim_ne (l := p) (by rw [h']; simp)
            rw [h] at e
            have := List.append_inj' e rfl
            simp at this
            omega
        rw [if_neg hne] at hC
        rw [loopL_step' ha]
        repeat' (first | (refine cond_by (F := ans) (fun _ => ?_) (fun _ => ?_)) | (refine wayK_by (F := ans) (fun _ hb_ => ?_) (fun _ hb_ => ?_) <;> simp only [hb_]) | (refine wayK_byN (F := ans) (fun _ hb_ => ?_) (fun _ hb_ => ?_) <;> simp only [hb_]) | (refine wayD_by (F := ans) (fun _ hb_ => ?_) (fun _ hb_ => ?_) <;> simp only [hb_]) | (refine wayD_byN (F := ans) (fun _ hb_ => ?_) (fun _ hb_ => ?_) <;> simp only [hb_]) | (refine rdK_by (F := ans) (fun _ => ?_) (fun _ => ?_)) | (refine effK_by (F := ans) (fun _ => ?_) (fun _ => ?_)) | (refine effK_by2 (F := ans) (fun _ => ?_) (fun _ => ?_)) | (refine rdD_by (F := ans) (fun _ => ?_) (fun _ => ?_)) | (refine effD_by (F := ans) (fun _ => ?_) (fun _ => ?_)) | (refine effD_by2 (F := ans) (fun _ => ?_) (fun _ => ?_)) | simp -implicitDefEqProofs (disch := first | omega | (simp only [List.length_append, List.length_cons, List.length_nil, List.length_drop, List.length_take]; omega)) only [evs, tys, lors, Nat.reduceAdd, Nat.reduceSub, Nat.reduceMul, Nat.reducePow, Nat.reduceBEq, Nat.reduceLT, Nat.reduceLeDiff, Nat.reduceEqDiff, Int.reduceLT, Int.reduceLE, Int.reduceEq, Int.reduceNe, Int.reduceToNat, Int.reduceAdd, Int.reduceSub, Int.reduceMul, Int.reducePow, Int.reduceDiv, Int.reduceMod, Int.reduceNeg, reduceCtorEq, codeKey, List.contains, List.elem, Ev.load, peek, pack, storeV, fieldAddr, field, cvB, hk, e1, e2, e3, e4, slice_sl])
        · exact ih p false hp (by omega) hL (by rw [← hC]; split <;> rfl)
        all_goals (exfalso; omega)
      · rw [trim_snoc p x hx] at hL hC
        rw [if_pos rfl] at hC
        subst hL hC
        rw [loopL_step' ha]
        repeat' (first | (refine cond_by (F := ans) (fun _ => ?_) (fun _ => ?_)) | (refine wayK_by (F := ans) (fun _ hb_ => ?_) (fun _ hb_ => ?_) <;> simp only [hb_]) | (refine wayK_byN (F := ans) (fun _ hb_ => ?_) (fun _ hb_ => ?_) <;> simp only [hb_]) | (refine wayD_by (F := ans) (fun _ hb_ => ?_) (fun _ hb_ => ?_) <;> simp only [hb_]) | (refine wayD_byN (F := ans) (fun _ hb_ => ?_) (fun _ hb_ => ?_) <;> simp only [hb_]) | (refine rdK_by (F := ans) (fun _ => ?_) (fun _ => ?_)) | (refine effK_by (F := ans) (fun _ => ?_) (fun _ => ?_)) | (refine effK_by2 (F := ans) (fun _ => ?_) (fun _ => ?_)) | (refine rdD_by (F := ans) (fun _ => ?_) (fun _ => ?_)) | (refine effD_by (F := ans) (fun _ => ?_) (fun _ => ?_)) | (refine effD_by2 (F := ans) (fun _ => ?_) (fun _ => ?_)) | simp -implicitDefEqProofs (disch := first | omega | (simp only [List.length_append, List.length_cons, List.length_nil, List.length_drop, List.length_take]; omega)) only [evs, tys, lors, Nat.reduceAdd, Nat.reduceSub, Nat.reduceMul, Nat.reducePow, Nat.reduceBEq, Nat.reduceLT, Nat.reduceLeDiff, Nat.reduceEqDiff, Int.reduceLT, Int.reduceLE, Int.reduceEq, Int.reduceNe, Int.reduceToNat, Int.reduceAdd, Int.reduceSub, Int.reduceMul, Int.reducePow, Int.reduceDiv, Int.reduceMod, Int.reduceNeg, reduceCtorEq, codeKey, List.contains, List.elem, Ev.load, peek, pack, storeV, fieldAddr, field, cvB, hk, e1, e2, e3, e4, slice_sl])
        · exfalso; omega
        · exact hR
        · exfalso; omega
theorem made_cv (neg : Bool) (l : List Int) (c : Bool) (hl : l.length < 2 ^ 59) (H : Heap) : callV (CL lore) 62 [.bool neg, .sl (enc l) 1 c] H = some (.agg [.bool (neg && decide (0 < (trim l).length)), .sl (enc (trim l)) 1 (if trim l = l then c else false)], H) := by
  refine callV_ans (r := some _) ?_ lore_sh62 rfl H
  rw [call_start lore_ext62 Try.func62 rfl lore_okf62 (Nat.le_of_ble_eq_true rfl)]
  repeat' (first | (refine cond_by (F := ans) (fun _ => ?_) (fun _ => ?_)) | (refine wayK_by (F := ans) (fun _ hb_ => ?_) (fun _ hb_ => ?_) <;> simp only [hb_]) | (refine wayK_byN (F := ans) (fun _ hb_ => ?_) (fun _ hb_ => ?_) <;> simp only [hb_]) | (refine wayD_by (F := ans) (fun _ hb_ => ?_) (fun _ hb_ => ?_) <;> simp only [hb_]) | (refine wayD_byN (F := ans) (fun _ hb_ => ?_) (fun _ hb_ => ?_) <;> simp only [hb_]) | (refine rdK_by (F := ans) (fun _ => ?_) (fun _ => ?_)) | (refine effK_by (F := ans) (fun _ => ?_) (fun _ => ?_)) | (refine effK_by2 (F := ans) (fun _ => ?_) (fun _ => ?_)) | (refine rdD_by (F := ans) (fun _ => ?_) (fun _ => ?_)) | (refine effD_by (F := ans) (fun _ => ?_) (fun _ => ?_)) | (refine effD_by2 (F := ans) (fun _ => ?_) (fun _ => ?_)) | simp -implicitDefEqProofs (disch := first | omega | (simp only [List.length_append, List.length_cons, List.length_nil, List.length_drop, List.length_take]; omega)) only [evs, tys, lors, Nat.reduceAdd, Nat.reduceSub, Nat.reduceMul, Nat.reducePow, Nat.reduceBEq, Nat.reduceLT, Nat.reduceLeDiff, Nat.reduceEqDiff, Int.reduceLT, Int.reduceLE, Int.reduceEq, Int.reduceNe, Int.reduceToNat, Int.reduceAdd, Int.reduceSub, Int.reduceMul, Int.reducePow, Int.reduceDiv, Int.reduceMod, Int.reduceNeg, reduceCtorEq, codeKey, List.contains, List.elem, Ev.load, peek, pack, storeV, fieldAddr, field, cvB])
  refine loop62 neg _ _ _ (by rfl) _ (trim l) (if trim l = l then c else false) ?_ l.length l c rfl (by omega) rfl rfl
  have e1 := enc_len (trim l)
  cases neg <;> repeat' (first | (refine cond_by (F := ans) (fun _ => ?_) (fun _ => ?_)) | (refine wayK_by (F := ans) (fun _ hb_ => ?_) (fun _ hb_ => ?_) <;> simp only [hb_]) | (refine wayK_byN (F := ans) (fun _ hb_ => ?_) (fun _ hb_ => ?_) <;> simp only [hb_]) | (refine wayD_by (F := ans) (fun _ hb_ => ?_) (fun _ hb_ => ?_) <;> simp only [hb_]) | (refine wayD_byN (F := ans) (fun _ hb_ => ?_) (fun _ hb_ => ?_) <;> simp only [hb_]) | (refine rdK_by (F := ans) (fun _ => ?_) (fun _ => ?_)) | (refine effK_by (F := ans) (fun _ => ?_) (fun _ => ?_)) | (refine effK_by2 (F := ans) (fun _ => ?_) (fun _ => ?_)) | (refine rdD_by (F := ans) (fun _ => ?_) (fun _ => ?_)) | (refine effD_by (F := ans) (fun _ => ?_) (fun _ => ?_)) | (refine effD_by2 (F := ans) (fun _ => ?_) (fun _ => ?_)) | simp -implicitDefEqProofs (disch := first | omega | (simp only [List.length_append, List.length_cons, List.length_nil, List.length_drop, List.length_take]; omega)) only [evs, tys, lors, Nat.reduceAdd, Nat.reduceSub, Nat.reduceMul, Nat.reducePow, Nat.reduceBEq, Nat.reduceLT, Nat.reduceLeDiff, Nat.reduceEqDiff, Int.reduceLT, Int.reduceLE, Int.reduceEq, Int.reduceNe, Int.reduceToNat, Int.reduceAdd, Int.reduceSub, Int.reduceMul, Int.reducePow, Int.reduceDiv, Int.reduceMod, Int.reduceNeg, reduceCtorEq, codeKey, List.contains, List.elem, Ev.load, peek, pack, storeV, fieldAddr, field, cvB, e1])
  all_goals simp
end Go.Proofs.Ytacnpljkcpomnaa
