/-
The reference's reader: values. The reference's Decode: point by point.
-/
import Derived.Test.YtmjdcoacmmmhnaaDoorN2
namespace Go.Proofs.YtmjdcoacmmmhnaaDoor
open Go Ev
set_option linter.all false
set_option maxHeartbeats 4000000
set_option maxRecDepth 5000
attribute [local irreducible] codeL condL loopL callL callV evOps evDraw rdK effK wayK oneK wayD oneD rdD effD chks chkB res

attribute [local irreducible] QB

theorem rvalue_cv (H : Heap) (h0 : 0 < H.length) (bv : V) (L : List Int) (B : Nat) (hqk : QOk H bv L B) (h01 : Bits01 L) (hL : L.length ≤ 2000000000) (f : Fr) (hf : FrR f) (p : Nat) (hp : p ≤ 2400000000) (sh : Bool) (v : Nat) (hv : v < 2 ^ 64) :
    callV (CL lore) 35 [.ptr 0 0, .int .u64 (v : Int), frV f] (QB H bv (p : Nat) sh) = some (.tup [.int .u64 (if (xorP L p f).2.2.2 = true then 0 else ((v ^^^ (xorP L p f).1.toNat : Nat) : Int)), frV (xorP L p f).2.2.1], QB (H ++ [FB (xorP L p f).2.2.1] ++ [FB (xorP L p f).2.2.1]) bv ((xorP L p f).2.1 : Nat) (sh || decide (L.length < (xorP L p f).2.1) || (xorP L p f).2.2.2)) := by
  have lB : ∀ b : Box, 0 < (H ++ [b]).length := fun b => by simp
  have lC : ∀ b c : Box, 0 < (H ++ [b] ++ [c]).length := fun b c => by simp
  have nB : ¬ H.length = 0 := by omega
  have nC : ¬ H.length + 1 = 0 := by omega
  have lln : ∀ b : Box, (H ++ [b]).length = H.length + 1 := fun b => by simp
  have G := fun q n hn hn0 hp pz m qz a b d s (x y : Box) => rnum_n (H ++ [x] ++ [y]) (lC x y) bv L B (qok_app (qok_app hqk _) _) h01 hL q n hn hn0 hp pz m qz a b d s
  have g1 := G p 1 (by decide) (by decide) (by omega) (p : Nat) 1 ((p + 1 : Nat) : Int) rfl rfl rfl sh
  have o1 := fun (x y : Box) => old_get H x [y]
  have o2 := fun (x y z : Box) => old_set H x y [z]
  have o3 : ∀ x y : Box, (H ++ [x] ++ [y])[H.length + 1]? = some y := fun x y => by rw [← lln x]; exact new_get (H ++ [x]) y
  have o4 : ∀ x y z : Box, (H ++ [x] ++ [y]).set (H.length + 1) z = H ++ [x] ++ [z] := fun x y z => by rw [← lln x]; exact new_set (H ++ [x]) y z
  refine callV_sh rfl ?_
  unfold xorP
  obtain ⟨fb, fl, ft⟩ := f
  rcases bit01 _ h01 p with b1 | b1
  · rw [if_pos b1]
    rw [b1] at g1
    have hvv : v ^^^ (0 : Int).toNat = v := by show v ^^^ 0 = v; exact Nat.xor_zero v
    simp only [Bool.or_false, hvv, Bool.false_eq_true, if_false]
    rw [call_start lore_ext35 Tryd.func35 rfl lore_okf35 (Nat.le_of_ble_eq_true rfl)]
    repeat' (first | (refine cond_by (F := res) (fun _ => ?_) (fun _ => ?_)) | (refine wayK_by (F := res) (fun _ hb_ => ?_) (fun _ hb_ => ?_) <;> simp only [hb_]) | (refine wayK_byN (F := res) (fun _ hb_ => ?_) (fun _ hb_ => ?_) <;> simp only [hb_]) | (refine wayD_by (F := res) (fun _ hb_ => ?_) (fun _ hb_ => ?_) <;> simp only [hb_]) | (refine wayD_byN (F := res) (fun _ hb_ => ?_) (fun _ hb_ => ?_) <;> simp only [hb_]) | (refine rdK_by (F := res) (fun _ => ?_) (fun _ => ?_)) | (refine effK_by (F := res) (fun _ => ?_) (fun _ => ?_)) | (refine effK_by2 (F := res) (fun _ => ?_) (fun _ => ?_)) | (refine rdD_by (F := res) (fun _ => ?_) (fun _ => ?_)) | (refine effD_by (F := res) (fun _ => ?_) (fun _ => ?_)) | (refine effD_by2 (F := res) (fun _ => ?_) (fun _ => ?_)) | simp -implicitDefEqProofs (disch := first | omega | (simp only [List.length_append, List.length_cons, List.length_nil, List.length_drop, List.length_take]; omega)) only [evs, tys, lors, Nat.reduceAdd, Nat.reduceSub, Nat.reduceMul, Nat.reducePow, Nat.reduceBEq, Nat.reduceLT, Nat.reduceLeDiff, Nat.reduceEqDiff, Int.reduceLT, Int.reduceLE, Int.reduceEq, Int.reduceNe, Int.reduceToNat, Int.reduceAdd, Int.reduceSub, Int.reduceMul, Int.reducePow, Int.reduceDiv, Int.reduceMod, Int.reduceNeg, reduceCtorEq, codeKey, List.contains, List.elem, Ev.load, peek, pack, storeV, fieldAddr, field, cvB, lln, g1, o1, o2, o3, o4, qb_app h0, qb_app (lB _), qb_len, qb_get nB, qb_get nC, qb_set nB, qb_set nC, decide_true])
    all_goals repeat (rw [chkB_bit (by kernel_rfl)])
    repeat' (first | (refine cond_by (F := res) (fun _ => ?_) (fun _ => ?_)) | (refine wayK_by (F := res) (fun _ hb_ => ?_) (fun _ hb_ => ?_) <;> simp only [hb_]) | (refine wayK_byN (F := res) (fun _ hb_ => ?_) (fun _ hb_ => ?_) <;> simp only [hb_]) | (refine wayD_by (F := res) (fun _ hb_ => ?_) (fun _ hb_ => ?_) <;> simp only [hb_]) | (refine wayD_byN (F := res) (fun _ hb_ => ?_) (fun _ hb_ => ?_) <;> simp only [hb_]) | (refine rdK_by (F := res) (fun _ => ?_) (fun _ => ?_)) | (refine effK_by (F := res) (fun _ => ?_) (fun _ => ?_)) | (refine effK_by2 (F := res) (fun _ => ?_) (fun _ => ?_)) | (refine rdD_by (F := res) (fun _ => ?_) (fun _ => ?_)) | (refine effD_by (F := res) (fun _ => ?_) (fun _ => ?_)) | (refine effD_by2 (F := res) (fun _ => ?_) (fun _ => ?_)) | simp -implicitDefEqProofs (disch := first | omega | (simp only [List.length_append, List.length_cons, List.length_nil, List.length_drop, List.length_take]; omega)) only [evs, tys, lors, Nat.reduceAdd, Nat.reduceSub, Nat.reduceMul, Nat.reducePow, Nat.reduceBEq, Nat.reduceLT, Nat.reduceLeDiff, Nat.reduceEqDiff, Int.reduceLT, Int.reduceLE, Int.reduceEq, Int.reduceNe, Int.reduceToNat, Int.reduceAdd, Int.reduceSub, Int.reduceMul, Int.reducePow, Int.reduceDiv, Int.reduceMod, Int.reduceNeg, reduceCtorEq, codeKey, List.contains, List.elem, Ev.load, peek, pack, storeV, fieldAddr, field, cvB, lln, g1, o1, o2, o3, o4, qb_app h0, qb_app (lB _), qb_len, qb_get nB, qb_get nC, qb_set nB, qb_set nC, decide_true])
    all_goals first | exact res_eq | trace_state
  · have nb1 : ¬ gp L p 1 = 0 := by omega
    rw [if_neg nb1]
    rw [b1] at g1
    have g2 := G (p + 1) 1 (by decide) (by decide) (by omega) ((p + 1 : Nat) : Int) 1 ((p + 2 : Nat) : Int) rfl rfl rfl (sh || decide (L.length < p + 1))
    simp only [sh_le (show p + 1 ≤ p + 1 + 1 by omega)] at g2
    have n10 : ¬ (1 : Int) = 0 := by decide
    have n01 : ¬ (0 : Int) = 1 := by decide
    rcases bit01 _ h01 (p + 1) with b2 | b2
    · have nb2 : ¬ gp L (p + 1) 1 = 1 := by omega
      rw [if_neg nb2]
      rw [b2] at g2
      by_cases hbad : fb = false ∨ ft < 0
      · rw [if_pos hbad]
        simp only [Bool.or_true, if_true]
        rcases hbad with hb | hb
        · subst hb
          rw [call_start lore_ext35 Tryd.func35 rfl lore_okf35 (Nat.le_of_ble_eq_true rfl)]
          repeat' (first | (refine cond_by (F := res) (fun _ => ?_) (fun _ => ?_)) | (refine wayK_by (F := res) (fun _ hb_ => ?_) (fun _ hb_ => ?_) <;> simp only [hb_]) | (refine wayK_byN (F := res) (fun _ hb_ => ?_) (fun _ hb_ => ?_) <;> simp only [hb_]) | (refine wayD_by (F := res) (fun _ hb_ => ?_) (fun _ hb_ => ?_) <;> simp only [hb_]) | (refine wayD_byN (F := res) (fun _ hb_ => ?_) (fun _ hb_ => ?_) <;> simp only [hb_]) | (refine rdK_by (F := res) (fun _ => ?_) (fun _ => ?_)) | (refine effK_by (F := res) (fun _ => ?_) (fun _ => ?_)) | (refine effK_by2 (F := res) (fun _ => ?_) (fun _ => ?_)) | (refine rdD_by (F := res) (fun _ => ?_) (fun _ => ?_)) | (refine effD_by (F := res) (fun _ => ?_) (fun _ => ?_)) | (refine effD_by2 (F := res) (fun _ => ?_) (fun _ => ?_)) | simp -implicitDefEqProofs (disch := first | omega | (simp only [List.length_append, List.length_cons, List.length_nil, List.length_drop, List.length_take]; omega)) only [evs, tys, lors, Nat.reduceAdd, Nat.reduceSub, Nat.reduceMul, Nat.reducePow, Nat.reduceBEq, Nat.reduceLT, Nat.reduceLeDiff, Nat.reduceEqDiff, Int.reduceLT, Int.reduceLE, Int.reduceEq, Int.reduceNe, Int.reduceToNat, Int.reduceAdd, Int.reduceSub, Int.reduceMul, Int.reducePow, Int.reduceDiv, Int.reduceMod, Int.reduceNeg, reduceCtorEq, codeKey, List.contains, List.elem, Ev.load, peek, pack, storeV, fieldAddr, field, cvB, lln, g1, g2, o1, o2, o3, o4, qb_0 (lC _ _), qb_s, qb_app h0, qb_app (lB _), qb_len, qb_get nB, qb_get nC, qb_set nB, qb_set nC, decide_true, decide_false])
          all_goals repeat (rw [chkB_bit (by kernel_rfl)])
          repeat' (first | (refine cond_by (F := res) (fun _ => ?_) (fun _ => ?_)) | (refine wayK_by (F := res) (fun _ hb_ => ?_) (fun _ hb_ => ?_) <;> simp only [hb_]) | (refine wayK_byN (F := res) (fun _ hb_ => ?_) (fun _ hb_ => ?_) <;> simp only [hb_]) | (refine wayD_by (F := res) (fun _ hb_ => ?_) (fun _ hb_ => ?_) <;> simp only [hb_]) | (refine wayD_byN (F := res) (fun _ hb_ => ?_) (fun _ hb_ => ?_) <;> simp only [hb_]) | (refine rdK_by (F := res) (fun _ => ?_) (fun _ => ?_)) | (refine effK_by (F := res) (fun _ => ?_) (fun _ => ?_)) | (refine effK_by2 (F := res) (fun _ => ?_) (fun _ => ?_)) | (refine rdD_by (F := res) (fun _ => ?_) (fun _ => ?_)) | (refine effD_by (F := res) (fun _ => ?_) (fun _ => ?_)) | (refine effD_by2 (F := res) (fun _ => ?_) (fun _ => ?_)) | simp -implicitDefEqProofs (disch := first | omega | (simp only [List.length_append, List.length_cons, List.length_nil, List.length_drop, List.length_take]; omega)) only [evs, tys, lors, Nat.reduceAdd, Nat.reduceSub, Nat.reduceMul, Nat.reducePow, Nat.reduceBEq, Nat.reduceLT, Nat.reduceLeDiff, Nat.reduceEqDiff, Int.reduceLT, Int.reduceLE, Int.reduceEq, Int.reduceNe, Int.reduceToNat, Int.reduceAdd, Int.reduceSub, Int.reduceMul, Int.reducePow, Int.reduceDiv, Int.reduceMod, Int.reduceNeg, reduceCtorEq, codeKey, List.contains, List.elem, Ev.load, peek, pack, storeV, fieldAddr, field, cvB, lln, g1, g2, o1, o2, o3, o4, qb_0 (lC _ _), qb_s, qb_app h0, qb_app (lB _), qb_len, qb_get nB, qb_get nC, qb_set nB, qb_set nC, decide_true, decide_false])
          all_goals first | exact res_eq | trace_state
        · rw [call_start lore_ext35 Tryd.func35 rfl lore_okf35 (Nat.le_of_ble_eq_true rfl)]
          cases fb
          · repeat' (first | (refine cond_by (F := res) (fun _ => ?_) (fun _ => ?_)) | (refine wayK_by (F := res) (fun _ hb_ => ?_) (fun _ hb_ => ?_) <;> simp only [hb_]) | (refine wayK_byN (F := res) (fun _ hb_ => ?_) (fun _ hb_ => ?_) <;> simp only [hb_]) | (refine wayD_by (F := res) (fun _ hb_ => ?_) (fun _ hb_ => ?_) <;> simp only [hb_]) | (refine wayD_byN (F := res) (fun _ hb_ => ?_) (fun _ hb_ => ?_) <;> simp only [hb_]) | (refine rdK_by (F := res) (fun _ => ?_) (fun _ => ?_)) | (refine effK_by (F := res) (fun _ => ?_) (fun _ => ?_)) | (refine effK_by2 (F := res) (fun _ => ?_) (fun _ => ?_)) | (refine rdD_by (F := res) (fun _ => ?_) (fun _ => ?_)) | (refine effD_by (F := res) (fun _ => ?_) (fun _ => ?_)) | (refine effD_by2 (F := res) (fun _ => ?_) (fun _ => ?_)) | simp -implicitDefEqProofs (disch := first | omega | (simp only [List.length_append, List.length_cons, List.length_nil, List.length_drop, List.length_take]; omega)) only [evs, tys, lors, Nat.reduceAdd, Nat.reduceSub, Nat.reduceMul, Nat.reducePow, Nat.reduceBEq, Nat.reduceLT, Nat.reduceLeDiff, Nat.reduceEqDiff, Int.reduceLT, Int.reduceLE, Int.reduceEq, Int.reduceNe, Int.reduceToNat, Int.reduceAdd, Int.reduceSub, Int.reduceMul, Int.reducePow, Int.reduceDiv, Int.reduceMod, Int.reduceNeg, reduceCtorEq, codeKey, List.contains, List.elem, Ev.load, peek, pack, storeV, fieldAddr, field, cvB, lln, g1, g2, hb, o1, o2, o3, o4, qb_0 (lC _ _), qb_s, qb_app h0, qb_app (lB _), qb_len, qb_get nB, qb_get nC, qb_set nB, qb_set nC, decide_true, decide_false])
            all_goals repeat (rw [chkB_bit (by kernel_rfl)])
            repeat' (first | (refine cond_by (F := res) (fun _ => ?_) (fun _ => ?_)) | (refine wayK_by (F := res) (fun _ hb_ => ?_) (fun _ hb_ => ?_) <;> simp only [hb_]) | (refine wayK_byN (F := res) (fun _ hb_ => ?_) (fun _ hb_ => ?_) <;> simp only [hb_]) | (refine wayD_by (F := res) (fun _ hb_ => ?_) (fun _ hb_ => ?_) <;> simp only [hb_]) | (refine wayD_byN (F := res) (fun _ hb_ => ?_) (fun _ hb_ => ?_) <;> simp only [hb_]) | (refine rdK_by (F := res) (fun _ => ?_) (fun _ => ?_)) | (refine effK_by (F := res) (fun _ => ?_) (fun _ => ?_)) | (refine effK_by2 (F := res) (fun _ => ?_) (fun _ => ?_)) | (refine rdD_by (F := res) (fun _ => ?_) (fun _ => ?_)) | (refine effD_by (F := res) (fun _ => ?_) (fun _ => ?_)) | (refine effD_by2 (F := res) (fun _ => ?_) (fun _ => ?_)) | simp -implicitDefEqProofs (disch := first | omega | (simp only [List.length_append, List.length_cons, List.length_nil, List.length_drop, List.length_take]; omega)) only [evs, tys, lors, Nat.reduceAdd, Nat.reduceSub, Nat.reduceMul, Nat.reducePow, Nat.reduceBEq, Nat.reduceLT, Nat.reduceLeDiff, Nat.reduceEqDiff, Int.reduceLT, Int.reduceLE, Int.reduceEq, Int.reduceNe, Int.reduceToNat, Int.reduceAdd, Int.reduceSub, Int.reduceMul, Int.reducePow, Int.reduceDiv, Int.reduceMod, Int.reduceNeg, reduceCtorEq, codeKey, List.contains, List.elem, Ev.load, peek, pack, storeV, fieldAddr, field, cvB, lln, g1, g2, hb, o1, o2, o3, o4, qb_0 (lC _ _), qb_s, qb_app h0, qb_app (lB _), qb_len, qb_get nB, qb_get nC, qb_set nB, qb_set nC, decide_true, decide_false])
            all_goals first | exact res_eq | trace_state
          · repeat' (first | (refine cond_by (F := res) (fun _ => ?_) (fun _ => ?_)) | (refine wayK_by (F := res) (fun _ hb_ => ?_) (fun _ hb_ => ?_) <;> simp only [hb_]) | (refine wayK_byN (F := res) (fun _ hb_ => ?_) (fun _ hb_ => ?_) <;> simp only [hb_]) | (refine wayD_by (F := res) (fun _ hb_ => ?_) (fun _ hb_ => ?_) <;> simp only [hb_]) | (refine wayD_byN (F := res) (fun _ hb_ => ?_) (fun _ hb_ => ?_) <;> simp only [hb_]) | (refine rdK_by (F := res) (fun _ => ?_) (fun _ => ?_)) | (refine effK_by (F := res) (fun _ => ?_) (fun _ => ?_)) | (refine effK_by2 (F := res) (fun _ => ?_) (fun _ => ?_)) | (refine rdD_by (F := res) (fun _ => ?_) (fun _ => ?_)) | (refine effD_by (F := res) (fun _ => ?_) (fun _ => ?_)) | (refine effD_by2 (F := res) (fun _ => ?_) (fun _ => ?_)) | simp -implicitDefEqProofs (disch := first | omega | (simp only [List.length_append, List.length_cons, List.length_nil, List.length_drop, List.length_take]; omega)) only [evs, tys, lors, Nat.reduceAdd, Nat.reduceSub, Nat.reduceMul, Nat.reducePow, Nat.reduceBEq, Nat.reduceLT, Nat.reduceLeDiff, Nat.reduceEqDiff, Int.reduceLT, Int.reduceLE, Int.reduceEq, Int.reduceNe, Int.reduceToNat, Int.reduceAdd, Int.reduceSub, Int.reduceMul, Int.reducePow, Int.reduceDiv, Int.reduceMod, Int.reduceNeg, reduceCtorEq, codeKey, List.contains, List.elem, Ev.load, peek, pack, storeV, fieldAddr, field, cvB, lln, g1, g2, hb, o1, o2, o3, o4, qb_0 (lC _ _), qb_s, qb_app h0, qb_app (lB _), qb_len, qb_get nB, qb_get nC, qb_set nB, qb_set nC, decide_true, decide_false])
            all_goals repeat (rw [chkB_bit (by kernel_rfl)])
            repeat' (first | (refine cond_by (F := res) (fun _ => ?_) (fun _ => ?_)) | (refine wayK_by (F := res) (fun _ hb_ => ?_) (fun _ hb_ => ?_) <;> simp only [hb_]) | (refine wayK_byN (F := res) (fun _ hb_ => ?_) (fun _ hb_ => ?_) <;> simp only [hb_]) | (refine wayD_by (F := res) (fun _ hb_ => ?_) (fun _ hb_ => ?_) <;> simp only [hb_]) | (refine wayD_byN (F := res) (fun _ hb_ => ?_) (fun _ hb_ => ?_) <;> simp only [hb_]) | (refine rdK_by (F := res) (fun _ => ?_) (fun _ => ?_)) | (refine effK_by (F := res) (fun _ => ?_) (fun _ => ?_)) | (refine effK_by2 (F := res) (fun _ => ?_) (fun _ => ?_)) | (refine rdD_by (F := res) (fun _ => ?_) (fun _ => ?_)) | (refine effD_by (F := res) (fun _ => ?_) (fun _ => ?_)) | (refine effD_by2 (F := res) (fun _ => ?_) (fun _ => ?_)) | simp -implicitDefEqProofs (disch := first | omega | (simp only [List.length_append, List.length_cons, List.length_nil, List.length_drop, List.length_take]; omega)) only [evs, tys, lors, Nat.reduceAdd, Nat.reduceSub, Nat.reduceMul, Nat.reducePow, Nat.reduceBEq, Nat.reduceLT, Nat.reduceLeDiff, Nat.reduceEqDiff, Int.reduceLT, Int.reduceLE, Int.reduceEq, Int.reduceNe, Int.reduceToNat, Int.reduceAdd, Int.reduceSub, Int.reduceMul, Int.reducePow, Int.reduceDiv, Int.reduceMod, Int.reduceNeg, reduceCtorEq, codeKey, List.contains, List.elem, Ev.load, peek, pack, storeV, fieldAddr, field, cvB, lln, g1, g2, hb, o1, o2, o3, o4, qb_0 (lC _ _), qb_s, qb_app h0, qb_app (lB _), qb_len, qb_get nB, qb_get nC, qb_set nB, qb_set nC, decide_true, decide_false])
            all_goals first | exact res_eq | trace_state
      · rw [if_neg hbad]
        have hfb : fb = true := by cases fb <;> simp_all
        have hft : ¬ ft < 0 := fun hh => hbad (Or.inr hh)
        subst hfb
        obtain ⟨f1, f2, f3⟩ := hf rfl
        simp only at f1 f2 f3
        obtain ⟨tn, rfl⟩ : ∃ n : Nat, ft = n := ⟨ft.toNat, by omega⟩
        have g3 := G (p + 2) (64 - fl - tn) (by omega) (by omega) (by omega) ((p + 2 : Nat) : Int) (64 - (fl : Int) - (tn : Int)) ((p + 2 + (64 - fl - tn) : Nat) : Int) rfl (by omega) rfl (sh || decide (L.length < p + 2))
        simp only [sh_le (show p + 2 ≤ p + 2 + (64 - fl - tn) by omega)] at g3
        obtain ⟨x0, x1⟩ := gp_lt h01 (p + 2) (64 - fl - tn)
        have hxb := shl_fits (t := tn) (l := fl) (by omega) x0 x1
        simp only [Int.toNat_natCast, Bool.or_false, Bool.false_eq_true, if_false]
        generalize gp L (p + 2) (64 - fl - tn) = x at *
        obtain ⟨w, hw⟩ : ∃ w : Nat, x * 2 ^ tn = w := ⟨(x * 2 ^ tn).toNat, by omega⟩
        have hxo := xorI_natU (x := v) (y := w) hv (by omega)
        rw [hw] at hxb ⊢
        rw [Int.toNat_natCast]
        rw [call_start lore_ext35 Tryd.func35 rfl lore_okf35 (Nat.le_of_ble_eq_true rfl)]
        repeat' (first | (refine cond_by (F := res) (fun _ => ?_) (fun _ => ?_)) | (refine wayK_by (F := res) (fun _ hb_ => ?_) (fun _ hb_ => ?_) <;> simp only [hb_]) | (refine wayK_byN (F := res) (fun _ hb_ => ?_) (fun _ hb_ => ?_) <;> simp only [hb_]) | (refine wayD_by (F := res) (fun _ hb_ => ?_) (fun _ hb_ => ?_) <;> simp only [hb_]) | (refine wayD_byN (F := res) (fun _ hb_ => ?_) (fun _ hb_ => ?_) <;> simp only [hb_]) | (refine rdK_by (F := res) (fun _ => ?_) (fun _ => ?_)) | (refine effK_by (F := res) (fun _ => ?_) (fun _ => ?_)) | (refine effK_by2 (F := res) (fun _ => ?_) (fun _ => ?_)) | (refine rdD_by (F := res) (fun _ => ?_) (fun _ => ?_)) | (refine effD_by (F := res) (fun _ => ?_) (fun _ => ?_)) | (refine effD_by2 (F := res) (fun _ => ?_) (fun _ => ?_)) | simp -implicitDefEqProofs (disch := first | omega | (simp only [List.length_append, List.length_cons, List.length_nil, List.length_drop, List.length_take]; omega)) only [evs, tys, lors, Nat.reduceAdd, Nat.reduceSub, Nat.reduceMul, Nat.reducePow, Nat.reduceBEq, Nat.reduceLT, Nat.reduceLeDiff, Nat.reduceEqDiff, Int.reduceLT, Int.reduceLE, Int.reduceEq, Int.reduceNe, Int.reduceToNat, Int.reduceAdd, Int.reduceSub, Int.reduceMul, Int.reducePow, Int.reduceDiv, Int.reduceMod, Int.reduceNeg, reduceCtorEq, codeKey, List.contains, List.elem, Ev.load, peek, pack, storeV, fieldAddr, field, cvB, lln, g1, g2, g3, hft, hw, hxo, o1, o2, o3, o4, qb_0 (lC _ _), qb_s, qb_app h0, qb_app (lB _), qb_len, qb_get nB, qb_get nC, qb_set nB, qb_set nC, bits1, decide_true, decide_false])
        all_goals repeat (rw [chkB_bit (by kernel_rfl)])
        repeat' (first | (refine cond_by (F := res) (fun _ => ?_) (fun _ => ?_)) | (refine wayK_by (F := res) (fun _ hb_ => ?_) (fun _ hb_ => ?_) <;> simp only [hb_]) | (refine wayK_byN (F := res) (fun _ hb_ => ?_) (fun _ hb_ => ?_) <;> simp only [hb_]) | (refine wayD_by (F := res) (fun _ hb_ => ?_) (fun _ hb_ => ?_) <;> simp only [hb_]) | (refine wayD_byN (F := res) (fun _ hb_ => ?_) (fun _ hb_ => ?_) <;> simp only [hb_]) | (refine rdK_by (F := res) (fun _ => ?_) (fun _ => ?_)) | (refine effK_by (F := res) (fun _ => ?_) (fun _ => ?_)) | (refine effK_by2 (F := res) (fun _ => ?_) (fun _ => ?_)) | (refine rdD_by (F := res) (fun _ => ?_) (fun _ => ?_)) | (refine effD_by (F := res) (fun _ => ?_) (fun _ => ?_)) | (refine effD_by2 (F := res) (fun _ => ?_) (fun _ => ?_)) | simp -implicitDefEqProofs (disch := first | omega | (simp only [List.length_append, List.length_cons, List.length_nil, List.length_drop, List.length_take]; omega)) only [evs, tys, lors, Nat.reduceAdd, Nat.reduceSub, Nat.reduceMul, Nat.reducePow, Nat.reduceBEq, Nat.reduceLT, Nat.reduceLeDiff, Nat.reduceEqDiff, Int.reduceLT, Int.reduceLE, Int.reduceEq, Int.reduceNe, Int.reduceToNat, Int.reduceAdd, Int.reduceSub, Int.reduceMul, Int.reducePow, Int.reduceDiv, Int.reduceMod, Int.reduceNeg, reduceCtorEq, codeKey, List.contains, List.elem, Ev.load, peek, pack, storeV, fieldAddr, field, cvB, lln, g1, g2, g3, hft, hw, hxo, o1, o2, o3, o4, qb_0 (lC _ _), qb_s, qb_app h0, qb_app (lB _), qb_len, qb_get nB, qb_get nC, qb_set nB, qb_set nC, bits1, decide_true, decide_false])
        all_goals first | exact res_eq | trace_state
    · rw [if_pos b2]
      rw [b2] at g2
      have e5 : (2 : Int) ^ 5 = 32 := by decide
      have e6 : (2 : Int) ^ 6 = 64 := by decide
      have hp7 : p + 2 + 5 = p + 7 := by omega
      have hp13 : p + 7 + 6 = p + 13 := by omega
      have g3 := G (p + 2) 5 (by decide) (by decide) (by omega) ((p + 2 : Nat) : Int) 5 ((p + 7 : Nat) : Int) rfl rfl rfl (sh || decide (L.length < p + 2))
      simp only [sh_le (show p + 2 ≤ p + 2 + 5 by omega), hp7] at g3
      obtain ⟨l0, l1⟩ := gp_lt h01 (p + 2) 5
      rw [e5] at l1
      obtain ⟨ln, hln⟩ : ∃ n : Nat, gp L (p + 2) 5 = n := ⟨(gp L (p + 2) 5).toNat, by omega⟩
      rw [hln] at g3 l0 l1
      have g4 := G (p + 7) 6 (by decide) (by decide) (by omega) ((p + 7 : Nat) : Int) 6 ((p + 13 : Nat) : Int) rfl rfl rfl (sh || decide (L.length < p + 7))
      simp only [sh_le (show p + 7 ≤ p + 7 + 6 by omega), hp13] at g4
      obtain ⟨m0, m1⟩ := gp_lt h01 (p + 7) 6
      rw [e6] at m1
      simp only [hln, Int.toNat_natCast]
      obtain ⟨nn, hnn, hnn1, hnn2⟩ : ∃ nn : Nat, (if gp L (p + 7) 6 = 0 then (64 : Int) else gp L (p + 7) 6) = (nn : Int) ∧ 1 ≤ nn ∧ nn ≤ 64 := by
        by_cases hz : gp L (p + 7) 6 = 0
        · exact ⟨64, by rw [if_pos hz]; rfl, by decide, by decide⟩
        · exact ⟨(gp L (p + 7) 6).toNat, by rw [if_neg hz]; omega, by omega, by omega⟩
      rw [hnn]
      have hz2 : (gp L (p + 7) 6 = 0 ∧ nn = 64) ∨ (¬ gp L (p + 7) 6 = 0 ∧ gp L (p + 7) 6 = nn) := by
        by_cases hz : gp L (p + 7) 6 = 0
        · rw [if_pos hz] at hnn
          exact Or.inl ⟨hz, by omega⟩
        · rw [if_neg hz] at hnn
          exact Or.inr ⟨hz, hnn⟩
      generalize gp L (p + 7) 6 = n6 at *
      by_cases ht : (64 : Int) - (ln : Int) - (nn : Int) < 0
      · rw [if_pos ht]
        simp only [Bool.or_true, if_true]
        rw [call_start lore_ext35 Tryd.func35 rfl lore_okf35 (Nat.le_of_ble_eq_true rfl)]
        rcases hz2 with ⟨hz, rfl⟩ | ⟨hz, hz3⟩
        · subst hz
          have e64 : ((64 : Nat) : Int) = 64 := rfl
          rw [e64] at ht ⊢
          repeat' (first | (refine cond_by (F := res) (fun _ => ?_) (fun _ => ?_)) | (refine wayK_by (F := res) (fun _ hb_ => ?_) (fun _ hb_ => ?_) <;> simp only [hb_]) | (refine wayK_byN (F := res) (fun _ hb_ => ?_) (fun _ hb_ => ?_) <;> simp only [hb_]) | (refine wayD_by (F := res) (fun _ hb_ => ?_) (fun _ hb_ => ?_) <;> simp only [hb_]) | (refine wayD_byN (F := res) (fun _ hb_ => ?_) (fun _ hb_ => ?_) <;> simp only [hb_]) | (refine rdK_by (F := res) (fun _ => ?_) (fun _ => ?_)) | (refine effK_by (F := res) (fun _ => ?_) (fun _ => ?_)) | (refine effK_by2 (F := res) (fun _ => ?_) (fun _ => ?_)) | (refine rdD_by (F := res) (fun _ => ?_) (fun _ => ?_)) | (refine effD_by (F := res) (fun _ => ?_) (fun _ => ?_)) | (refine effD_by2 (F := res) (fun _ => ?_) (fun _ => ?_)) | simp -implicitDefEqProofs (disch := first | omega | (simp only [List.length_append, List.length_cons, List.length_nil, List.length_drop, List.length_take]; omega)) only [evs, tys, lors, Nat.reduceAdd, Nat.reduceSub, Nat.reduceMul, Nat.reducePow, Nat.reduceBEq, Nat.reduceLT, Nat.reduceLeDiff, Nat.reduceEqDiff, Int.reduceLT, Int.reduceLE, Int.reduceEq, Int.reduceNe, Int.reduceToNat, Int.reduceAdd, Int.reduceSub, Int.reduceMul, Int.reducePow, Int.reduceDiv, Int.reduceMod, Int.reduceNeg, reduceCtorEq, codeKey, List.contains, List.elem, Ev.load, peek, pack, storeV, fieldAddr, field, cvB, lln, g1, g2, g3, g4, ht, o1, o2, o3, o4, qb_0 (lC _ _), qb_s, qb_app h0, qb_app (lB _), qb_len, qb_get nB, qb_get nC, qb_set nB, qb_set nC, decide_true, decide_false])
          all_goals repeat (rw [chkB_bit (by kernel_rfl)])
          repeat' (first | (refine cond_by (F := res) (fun _ => ?_) (fun _ => ?_)) | (refine wayK_by (F := res) (fun _ hb_ => ?_) (fun _ hb_ => ?_) <;> simp only [hb_]) | (refine wayK_byN (F := res) (fun _ hb_ => ?_) (fun _ hb_ => ?_) <;> simp only [hb_]) | (refine wayD_by (F := res) (fun _ hb_ => ?_) (fun _ hb_ => ?_) <;> simp only [hb_]) | (refine wayD_byN (F := res) (fun _ hb_ => ?_) (fun _ hb_ => ?_) <;> simp only [hb_]) | (refine rdK_by (F := res) (fun _ => ?_) (fun _ => ?_)) | (refine effK_by (F := res) (fun _ => ?_) (fun _ => ?_)) | (refine effK_by2 (F := res) (fun _ => ?_) (fun _ => ?_)) | (refine rdD_by (F := res) (fun _ => ?_) (fun _ => ?_)) | (refine effD_by (F := res) (fun _ => ?_) (fun _ => ?_)) | (refine effD_by2 (F := res) (fun _ => ?_) (fun _ => ?_)) | simp -implicitDefEqProofs (disch := first | omega | (simp only [List.length_append, List.length_cons, List.length_nil, List.length_drop, List.length_take]; omega)) only [evs, tys, lors, Nat.reduceAdd, Nat.reduceSub, Nat.reduceMul, Nat.reducePow, Nat.reduceBEq, Nat.reduceLT, Nat.reduceLeDiff, Nat.reduceEqDiff, Int.reduceLT, Int.reduceLE, Int.reduceEq, Int.reduceNe, Int.reduceToNat, Int.reduceAdd, Int.reduceSub, Int.reduceMul, Int.reducePow, Int.reduceDiv, Int.reduceMod, Int.reduceNeg, reduceCtorEq, codeKey, List.contains, List.elem, Ev.load, peek, pack, storeV, fieldAddr, field, cvB, lln, g1, g2, g3, g4, ht, o1, o2, o3, o4, qb_0 (lC _ _), qb_s, qb_app h0, qb_app (lB _), qb_len, qb_get nB, qb_get nC, qb_set nB, qb_set nC, decide_true, decide_false])
          all_goals first | exact res_eq | trace_state
        · rw [hz3] at g4 hz
          repeat' (first | (refine cond_by (F := res) (fun _ => ?_) (fun _ => ?_)) | (refine wayK_by (F := res) (fun _ hb_ => ?_) (fun _ hb_ => ?_) <;> simp only [hb_]) | (refine wayK_byN (F := res) (fun _ hb_ => ?_) (fun _ hb_ => ?_) <;> simp only [hb_]) | (refine wayD_by (F := res) (fun _ hb_ => ?_) (fun _ hb_ => ?_) <;> simp only [hb_]) | (refine wayD_byN (F := res) (fun _ hb_ => ?_) (fun _ hb_ => ?_) <;> simp only [hb_]) | (refine rdK_by (F := res) (fun _ => ?_) (fun _ => ?_)) | (refine effK_by (F := res) (fun _ => ?_) (fun _ => ?_)) | (refine effK_by2 (F := res) (fun _ => ?_) (fun _ => ?_)) | (refine rdD_by (F := res) (fun _ => ?_) (fun _ => ?_)) | (refine effD_by (F := res) (fun _ => ?_) (fun _ => ?_)) | (refine effD_by2 (F := res) (fun _ => ?_) (fun _ => ?_)) | simp -implicitDefEqProofs (disch := first | omega | (simp only [List.length_append, List.length_cons, List.length_nil, List.length_drop, List.length_take]; omega)) only [evs, tys, lors, Nat.reduceAdd, Nat.reduceSub, Nat.reduceMul, Nat.reducePow, Nat.reduceBEq, Nat.reduceLT, Nat.reduceLeDiff, Nat.reduceEqDiff, Int.reduceLT, Int.reduceLE, Int.reduceEq, Int.reduceNe, Int.reduceToNat, Int.reduceAdd, Int.reduceSub, Int.reduceMul, Int.reducePow, Int.reduceDiv, Int.reduceMod, Int.reduceNeg, reduceCtorEq, codeKey, List.contains, List.elem, Ev.load, peek, pack, storeV, fieldAddr, field, cvB, lln, g1, g2, g3, g4, hz, ht, o1, o2, o3, o4, qb_0 (lC _ _), qb_s, qb_app h0, qb_app (lB _), qb_len, qb_get nB, qb_get nC, qb_set nB, qb_set nC, decide_true, decide_false])
          all_goals repeat (rw [chkB_bit (by kernel_rfl)])
          repeat' (first | (refine cond_by (F := res) (fun _ => ?_) (fun _ => ?_)) | (refine wayK_by (F := res) (fun _ hb_ => ?_) (fun _ hb_ => ?_) <;> simp only [hb_]) | (refine wayK_byN (F := res) (fun _ hb_ => ?_) (fun _ hb_ => ?_) <;> simp only [hb_]) | (refine wayD_by (F := res) (fun _ hb_ => ?_) (fun _ hb_ => ?_) <;> simp only [hb_]) | (refine wayD_byN (F := res) (fun _ hb_ => ?_) (fun _ hb_ => ?_) <;> simp only [hb_]) | (refine rdK_by (F := res) (fun _ => ?_) (fun _ => ?_)) | (refine effK_by (F := res) (fun _ => ?_) (fun _ => ?_)) | (refine effK_by2 (F := res) (fun _ => ?_) (fun _ => ?_)) | (refine rdD_by (F := res) (fun _ => ?_) (fun _ => ?_)) | (refine effD_by (F := res) (fun _ => ?_) (fun _ => ?_)) | (refine effD_by2 (F := res) (fun _ => ?_) (fun _ => ?_)) | simp -implicitDefEqProofs (disch := first | omega | (simp only [List.length_append, List.length_cons, List.length_nil, List.length_drop, List.length_take]; omega)) only [evs, tys, lors, Nat.reduceAdd, Nat.reduceSub, Nat.reduceMul, Nat.reducePow, Nat.reduceBEq, Nat.reduceLT, Nat.reduceLeDiff, Nat.reduceEqDiff, Int.reduceLT, Int.reduceLE, Int.reduceEq, Int.reduceNe, Int.reduceToNat, Int.reduceAdd, Int.reduceSub, Int.reduceMul, Int.reducePow, Int.reduceDiv, Int.reduceMod, Int.reduceNeg, reduceCtorEq, codeKey, List.contains, List.elem, Ev.load, peek, pack, storeV, fieldAddr, field, cvB, lln, g1, g2, g3, g4, hz, ht, o1, o2, o3, o4, qb_0 (lC _ _), qb_s, qb_app h0, qb_app (lB _), qb_len, qb_get nB, qb_get nC, qb_set nB, qb_set nC, decide_true, decide_false])
          all_goals first | exact res_eq | trace_state
      · rw [if_neg ht]
        obtain ⟨tn, htn⟩ : ∃ n : Nat, (64 : Int) - (ln : Int) - (nn : Int) = n := ⟨((64 : Int) - (ln : Int) - (nn : Int)).toNat, by omega⟩
        have g5 := G (p + 13) nn (by omega) (by omega) (by omega) ((p + 13 : Nat) : Int) (64 - (ln : Int) - (tn : Int)) ((p + 13 + nn : Nat) : Int) rfl (by omega) rfl (sh || decide (L.length < p + 13))
        simp only [sh_le (show p + 13 ≤ p + 13 + nn by omega)] at g5
        obtain ⟨x0, x1⟩ := gp_lt h01 (p + 13) nn
        have hxb := shl_fits (t := tn) (l := ln) (by omega) x0 x1
        have ht0 : ¬ (tn : Int) < 0 := by omega
        rw [htn]
        simp only [Int.toNat_natCast, Bool.or_false, Bool.false_eq_true, if_false]
        generalize gp L (p + 13) nn = x at *
        obtain ⟨w, hw⟩ : ∃ w : Nat, x * 2 ^ tn = w := ⟨(x * 2 ^ tn).toNat, by omega⟩
        have hxo := xorI_natU (x := v) (y := w) hv (by omega)
        rw [hw] at hxb ⊢
        rw [Int.toNat_natCast]
        rw [call_start lore_ext35 Tryd.func35 rfl lore_okf35 (Nat.le_of_ble_eq_true rfl)]
        rcases hz2 with ⟨hz, rfl⟩ | ⟨hz, hz3⟩
        · subst hz
          have e64 : ((64 : Nat) : Int) = 64 := rfl
          rw [e64] at htn
          repeat' (first | (refine cond_by (F := res) (fun _ => ?_) (fun _ => ?_)) | (refine wayK_by (F := res) (fun _ hb_ => ?_) (fun _ hb_ => ?_) <;> simp only [hb_]) | (refine wayK_byN (F := res) (fun _ hb_ => ?_) (fun _ hb_ => ?_) <;> simp only [hb_]) | (refine wayD_by (F := res) (fun _ hb_ => ?_) (fun _ hb_ => ?_) <;> simp only [hb_]) | (refine wayD_byN (F := res) (fun _ hb_ => ?_) (fun _ hb_ => ?_) <;> simp only [hb_]) | (refine rdK_by (F := res) (fun _ => ?_) (fun _ => ?_)) | (refine effK_by (F := res) (fun _ => ?_) (fun _ => ?_)) | (refine effK_by2 (F := res) (fun _ => ?_) (fun _ => ?_)) | (refine rdD_by (F := res) (fun _ => ?_) (fun _ => ?_)) | (refine effD_by (F := res) (fun _ => ?_) (fun _ => ?_)) | (refine effD_by2 (F := res) (fun _ => ?_) (fun _ => ?_)) | simp -implicitDefEqProofs (disch := first | omega | (simp only [List.length_append, List.length_cons, List.length_nil, List.length_drop, List.length_take]; omega)) only [evs, tys, lors, Nat.reduceAdd, Nat.reduceSub, Nat.reduceMul, Nat.reducePow, Nat.reduceBEq, Nat.reduceLT, Nat.reduceLeDiff, Nat.reduceEqDiff, Int.reduceLT, Int.reduceLE, Int.reduceEq, Int.reduceNe, Int.reduceToNat, Int.reduceAdd, Int.reduceSub, Int.reduceMul, Int.reducePow, Int.reduceDiv, Int.reduceMod, Int.reduceNeg, reduceCtorEq, codeKey, List.contains, List.elem, Ev.load, peek, pack, storeV, fieldAddr, field, cvB, lln, g1, g2, g3, g4, g5, htn, ht0, hw, hxo, o1, o2, o3, o4, qb_0 (lC _ _), qb_s, qb_app h0, qb_app (lB _), qb_len, qb_get nB, qb_get nC, qb_set nB, qb_set nC, bits1, decide_true, decide_false])
          all_goals repeat (rw [chkB_bit (by kernel_rfl)])
          repeat' (first | (refine cond_by (F := res) (fun _ => ?_) (fun _ => ?_)) | (refine wayK_by (F := res) (fun _ hb_ => ?_) (fun _ hb_ => ?_) <;> simp only [hb_]) | (refine wayK_byN (F := res) (fun _ hb_ => ?_) (fun _ hb_ => ?_) <;> simp only [hb_]) | (refine wayD_by (F := res) (fun _ hb_ => ?_) (fun _ hb_ => ?_) <;> simp only [hb_]) | (refine wayD_byN (F := res) (fun _ hb_ => ?_) (fun _ hb_ => ?_) <;> simp only [hb_]) | (refine rdK_by (F := res) (fun _ => ?_) (fun _ => ?_)) | (refine effK_by (F := res) (fun _ => ?_) (fun _ => ?_)) | (refine effK_by2 (F := res) (fun _ => ?_) (fun _ => ?_)) | (refine rdD_by (F := res) (fun _ => ?_) (fun _ => ?_)) | (refine effD_by (F := res) (fun _ => ?_) (fun _ => ?_)) | (refine effD_by2 (F := res) (fun _ => ?_) (fun _ => ?_)) | simp -implicitDefEqProofs (disch := first | omega | (simp only [List.length_append, List.length_cons, List.length_nil, List.length_drop, List.length_take]; omega)) only [evs, tys, lors, Nat.reduceAdd, Nat.reduceSub, Nat.reduceMul, Nat.reducePow, Nat.reduceBEq, Nat.reduceLT, Nat.reduceLeDiff, Nat.reduceEqDiff, Int.reduceLT, Int.reduceLE, Int.reduceEq, Int.reduceNe, Int.reduceToNat, Int.reduceAdd, Int.reduceSub, Int.reduceMul, Int.reducePow, Int.reduceDiv, Int.reduceMod, Int.reduceNeg, reduceCtorEq, codeKey, List.contains, List.elem, Ev.load, peek, pack, storeV, fieldAddr, field, cvB, lln, g1, g2, g3, g4, g5, htn, ht0, hw, hxo, o1, o2, o3, o4, qb_0 (lC _ _), qb_s, qb_app h0, qb_app (lB _), qb_len, qb_get nB, qb_get nC, qb_set nB, qb_set nC, bits1, decide_true, decide_false])
          all_goals first | exact res_eq | trace_state
        · rw [hz3] at g4 hz
          repeat' (first | (refine cond_by (F := res) (fun _ => ?_) (fun _ => ?_)) | (refine wayK_by (F := res) (fun _ hb_ => ?_) (fun _ hb_ => ?_) <;> simp only [hb_]) | (refine wayK_byN (F := res) (fun _ hb_ => ?_) (fun _ hb_ => ?_) <;> simp only [hb_]) | (refine wayD_by (F := res) (fun _ hb_ => ?_) (fun _ hb_ => ?_) <;> simp only [hb_]) | (refine wayD_byN (F := res) (fun _ hb_ => ?_) (fun _ hb_ => ?_) <;> simp only [hb_]) | (refine rdK_by (F := res) (fun _ => ?_) (fun _ => ?_)) | (refine effK_by (F := res) (fun _ => ?_) (fun _ => ?_)) | (refine effK_by2 (F := res) (fun _ => ?_) (fun _ => ?_)) | (refine rdD_by (F := res) (fun _ => ?_) (fun _ => ?_)) | (refine effD_by (F := res) (fun _ => ?_) (fun _ => ?_)) | (refine effD_by2 (F := res) (fun _ => ?_) (fun _ => ?_)) | simp -implicitDefEqProofs (disch := first | omega | (simp only [List.length_append, List.length_cons, List.length_nil, List.length_drop, List.length_take]; omega)) only [evs, tys, lors, Nat.reduceAdd, Nat.reduceSub, Nat.reduceMul, Nat.reducePow, Nat.reduceBEq, Nat.reduceLT, Nat.reduceLeDiff, Nat.reduceEqDiff, Int.reduceLT, Int.reduceLE, Int.reduceEq, Int.reduceNe, Int.reduceToNat, Int.reduceAdd, Int.reduceSub, Int.reduceMul, Int.reducePow, Int.reduceDiv, Int.reduceMod, Int.reduceNeg, reduceCtorEq, codeKey, List.contains, List.elem, Ev.load, peek, pack, storeV, fieldAddr, field, cvB, lln, g1, g2, g3, g4, g5, hz, htn, ht0, hw, hxo, o1, o2, o3, o4, qb_0 (lC _ _), qb_s, qb_app h0, qb_app (lB _), qb_len, qb_get nB, qb_get nC, qb_set nB, qb_set nC, bits1, decide_true, decide_false])
          all_goals repeat (rw [chkB_bit (by kernel_rfl)])
          repeat' (first | (refine cond_by (F := res) (fun _ => ?_) (fun _ => ?_)) | (refine wayK_by (F := res) (fun _ hb_ => ?_) (fun _ hb_ => ?_) <;> simp only [hb_]) | (refine wayK_byN (F := res) (fun _ hb_ => ?_) (fun _ hb_ => ?_) <;> simp only [hb_]) | (refine wayD_by (F := res) (fun _ hb_ => ?_) (fun _ hb_ => ?_) <;> simp only [hb_]) | (refine wayD_byN (F := res) (fun _ hb_ => ?_) (fun _ hb_ => ?_) <;> simp only [hb_]) | (refine rdK_by (F := res) (fun _ => ?_) (fun _ => ?_)) | (refine effK_by (F := res) (fun _ => ?_) (fun _ => ?_)) | (refine effK_by2 (F := res) (fun _ => ?_) (fun _ => ?_)) | (refine rdD_by (F := res) (fun _ => ?_) (fun _ => ?_)) | (refine effD_by (F := res) (fun _ => ?_) (fun _ => ?_)) | (refine effD_by2 (F := res) (fun _ => ?_) (fun _ => ?_)) | simp -implicitDefEqProofs (disch := first | omega | (simp only [List.length_append, List.length_cons, List.length_nil, List.length_drop, List.length_take]; omega)) only [evs, tys, lors, Nat.reduceAdd, Nat.reduceSub, Nat.reduceMul, Nat.reducePow, Nat.reduceBEq, Nat.reduceLT, Nat.reduceLeDiff, Nat.reduceEqDiff, Int.reduceLT, Int.reduceLE, Int.reduceEq, Int.reduceNe, Int.reduceToNat, Int.reduceAdd, Int.reduceSub, Int.reduceMul, Int.reducePow, Int.reduceDiv, Int.reduceMod, Int.reduceNeg, reduceCtorEq, codeKey, List.contains, List.elem, Ev.load, peek, pack, storeV, fieldAddr, field, cvB, lln, g1, g2, g3, g4, g5, hz, htn, ht0, hw, hxo, o1, o2, o3, o4, qb_0 (lC _ _), qb_s, qb_app h0, qb_app (lB _), qb_len, qb_get nB, qb_get nC, qb_set nB, qb_set nC, bits1, decide_true, decide_false])
          all_goals first | exact res_eq | trace_state


theorem dec0 (L : List Int) (p : Nat) (at_ st : Int) (v : Nat) (f : Fr) : (decPt L ⟨0, p, at_, st, v, f, false⟩).short L = ((varQ L 10 0 0 p).2.2 || decide (L.length < (varQ L 10 0 0 p).2.1 + 64)) ∧ (((varQ L 10 0 0 p).2.2 || decide (L.length < (varQ L 10 0 0 p).2.1 + 64)) = false → decPt L ⟨0, p, at_, st, v, f, false⟩ = ⟨1, (varQ L 10 0 0 p).2.1 + 64, zag (varQ L 10 0 0 p).1, st, (gp L (varQ L 10 0 0 p).2.1 64).toNat, f, false⟩) := by
  obtain ⟨q1, q2⟩ := varQ_varP L 10 0 0 p
  have hs : (decPt L ⟨0, p, at_, st, v, f, false⟩).short L = ((varP L 10 0 0 p).2.2 || decide (L.length < (varP L 10 0 0 p).2.1 + 64)) := rfl
  have hd : decPt L ⟨0, p, at_, st, v, f, false⟩ = ⟨1, (varP L 10 0 0 p).2.1 + 64, zag (varP L 10 0 0 p).1, st, (gp L (varP L 10 0 0 p).2.1 64).toNat, f, (varP L 10 0 0 p).2.2⟩ := rfl
  by_cases h : (varP L 10 0 0 p).2.2 = false ∧ (varP L 10 0 0 p).2.1 ≤ L.length
  · rw [q1 h, hs]
    refine ⟨rfl, fun _ => ?_⟩
    rw [hd, h.1]
  · have h' : (varP L 10 0 0 p).2.2 = true ∨ L.length < (varP L 10 0 0 p).2.1 := by
      cases ho : (varP L 10 0 0 p).2.2 with
      | true => exact Or.inl rfl
      | false => exact Or.inr (Nat.lt_of_not_le (fun hh => h ⟨ho, hh⟩))
    rw [q2 h', hs]
    refine ⟨?_, (fun hh => by simp at hh)⟩
    rcases h' with h' | h'
    · rw [h']; rfl
    · rw [decide_eq_true (by omega), Bool.or_true, Bool.true_or]
theorem dec1 (L : List Int) (h01 : Bits01 L) (p : Nat) (at_ st : Int) (v : Nat) (f : Fr) : (decPt L ⟨1, p, at_, st, v, f, false⟩).short L = ((varQ L 10 0 0 p).2.2 || decide (L.length < (xorP L (varQ L 10 0 0 p).2.1 f).2.1) || (xorP L (varQ L 10 0 0 p).2.1 f).2.2.2) ∧ (((varQ L 10 0 0 p).2.2 || decide (L.length < (xorP L (varQ L 10 0 0 p).2.1 f).2.1) || (xorP L (varQ L 10 0 0 p).2.1 f).2.2.2) = false → decPt L ⟨1, p, at_, st, v, f, false⟩ = ⟨2, (xorP L (varQ L 10 0 0 p).2.1 f).2.1, wrapS (at_ + (varQ L 10 0 0 p).1), (varQ L 10 0 0 p).1, v ^^^ (xorP L (varQ L 10 0 0 p).2.1 f).1.toNat, (xorP L (varQ L 10 0 0 p).2.1 f).2.2.1, false⟩) := by
  obtain ⟨q1, q2⟩ := varQ_varP L 10 0 0 p
  have hg := xorP_ge L h01 (varP L 10 0 0 p).2.1 f
  have hs : (decPt L ⟨1, p, at_, st, v, f, false⟩).short L = ((varP L 10 0 0 p).2.2 || (xorP L (varP L 10 0 0 p).2.1 f).2.2.2 || decide (L.length < (xorP L (varP L 10 0 0 p).2.1 f).2.1)) := rfl
  have hd : decPt L ⟨1, p, at_, st, v, f, false⟩ = ⟨2, (xorP L (varP L 10 0 0 p).2.1 f).2.1, wrapS (at_ + (varP L 10 0 0 p).1), (varP L 10 0 0 p).1, v ^^^ (xorP L (varP L 10 0 0 p).2.1 f).1.toNat, (xorP L (varP L 10 0 0 p).2.1 f).2.2.1, (varP L 10 0 0 p).2.2 || (xorP L (varP L 10 0 0 p).2.1 f).2.2.2⟩ := rfl
  by_cases h : (varP L 10 0 0 p).2.2 = false ∧ (varP L 10 0 0 p).2.1 ≤ L.length
  · rw [q1 h, hs]
    refine ⟨by rw [Bool.or_assoc, Bool.or_assoc, Bool.or_comm (xorP L (varP L 10 0 0 p).2.1 f).2.2.2], fun hh => ?_⟩
    rw [Bool.or_eq_false_iff] at hh
    rw [hd, h.1, hh.2]
    rfl
  · have h' : (varP L 10 0 0 p).2.2 = true ∨ L.length < (varP L 10 0 0 p).2.1 := by
      cases ho : (varP L 10 0 0 p).2.2 with
      | true => exact Or.inl rfl
      | false => exact Or.inr (Nat.lt_of_not_le (fun hh => h ⟨ho, hh⟩))
    rw [q2 h', hs]
    refine ⟨?_, (fun hh => by simp at hh)⟩
    rcases h' with h' | h'
    · rw [h']; simp
    · rw [decide_eq_true (by omega)]; simp
theorem dec2 (L : List Int) (h01 : Bits01 L) (i p : Nat) (at_ st : Int) (v : Nat) (f : Fr) : (decPt L ⟨i + 2, p, at_, st, v, f, false⟩).short L = (decide (L.length < (difP L p).2) || decide (L.length < (xorP L (difP L p).2 f).2.1) || (xorP L (difP L p).2 f).2.2.2) ∧ decPt L ⟨i + 2, p, at_, st, v, f, false⟩ = ⟨i + 3, (xorP L (difP L p).2 f).2.1, wrapS (at_ + (st + (difP L p).1) % 18446744073709551616), (st + (difP L p).1) % 18446744073709551616, v ^^^ (xorP L (difP L p).2 f).1.toNat, (xorP L (difP L p).2 f).2.2.1, (xorP L (difP L p).2 f).2.2.2⟩ := by
  refine ⟨?_, rfl⟩
  have hg := xorP_ge L h01 (difP L p).2 f
  show ((xorP L (difP L p).2 f).2.2.2 || decide (L.length < (xorP L (difP L p).2 f).2.1)) = _
  generalize (xorP L (difP L p).2 f).2.1 = q at *
  generalize (difP L p).2 = Q at *
  by_cases g1 : L.length < Q
  · rw [decide_eq_true (show L.length < q by omega)]; simp
  · rw [decide_eq_false g1, Bool.false_or, Bool.or_comm]
def OutR (H : Heap) (ov : V) (out : List (Int × Nat)) (F : Nat) : Prop :=
  (ov = .nils ∧ out = []) ∨ (out ≠ [] ∧ ∃ r, ov = .row r out.length ∧ F < r ∧ r < H.length ∧ H[r]? = some ⟨encD out, 2, true, false⟩)
theorem lt_of_get {H : Heap} {i : Nat} {b : Box} (h : H[i]? = some b) : i < H.length := by
  rcases Nat.lt_or_ge i H.length with h' | h'
  · exact h'
  · rw [List.getElem?_eq_none h'] at h; cases h
abbrev slR (v0 : V) (n : Nat) (v8 v9 v10 v11 v13 : V) (F : Nat) : List V := (Sl 134 .wild [(0, v0), (4, .ptr 0 0), (7, .int .i64 (n : Nat)), (8, v8), (9, v9), (10, v10), (11, v11), (12, .ptr F 0), (13, v13)])
theorem stepR0 (L : List Int) (h01 : Bits01 L) (hL : L.length ≤ 2000000000) (v0 : V) (bv : V) (B F n : Nat) (hn : 0 < n) (K : Kont) (Rb R : Option V) (a : Code) (ha : loopIn Tryd.prog 12 14 = some a)
    (hBad : ∀ (H' : Heap) (v8 v9 v10 v11 v13 : V) (p : Int), 0 < H'.length → ans (K (.exit 2) (slR v0 n v8 v9 v10 v11 v13 F) (QB H' bv p true)) = Rb)
    (d : DS) (hd : DOk L d) (hs : d.short L = false) (hi : d.i = 0) (H : Heap) (h0 : 0 < H.length) (hq : QOk H bv L B)
    (hR : (decPt L d).short L = false → ans (loopL lore 12 a (slR v0 n (.row H.length 1) (.int .u64 ((decPt L d).at_ % 18446744073709551616)) (.int .u64 (decPt L d).step) (.int .u64 ((decPt L d).value : Nat)) (.int .i64 1) F) (QB (H ++ [⟨encD [((decPt L d).at_, (decPt L d).value)], 2, true, false⟩]) bv ((decPt L d).p : Nat) false) K) = R)
    (hRb : (decPt L d).short L = true → R = Rb) :
    ans (loopL lore 12 a (slR v0 n .nils (.int .u64 (d.at_ % 18446744073709551616)) (.int .u64 d.step) (.int .u64 (d.value : Nat)) (.int .i64 0) F) (QB H bv (d.p : Nat) false) K) = R := by
  have hk := loop_key ha
  simp only [loopIn, Tryd.func12, Tryd.f12, loopAt, Option.bind_some, codeKey, if_true, Option.some.injEq, Nat.reduceEqDiff, if_false] at ha
  obtain ⟨hb, hp⟩ := sh_false hs
  obtain ⟨i, p, at_, st, v, f, bad⟩ := d
  simp only at hb hp hi
  subst hb hi
  obtain ⟨d1, d2⟩ := dec0 L p at_ st v f
  have hvb := varQ_bd L h01 10 0 0 p rfl (by decide) (fun _ => by decide)
  have hv := rvar_cv H h0 bv L B hq h01 hL p (by omega)
  have hnm := rnum_n H h0 bv L B hq h01 hL (varQ L 10 0 0 p).2.1 64 (by decide) (by decide) (by omega) ((varQ L 10 0 0 p).2.1 : Nat) 64 (((varQ L 10 0 0 p).2.1 + 64 : Nat) : Int) rfl rfl rfl (varQ L 10 0 0 p).2.2
  obtain ⟨x0, x1⟩ := gp_lt h01 (varQ L 10 0 0 p).2.1 64
  have e64 : (2 : Int) ^ 64 = 18446744073709551616 := by decide
  obtain ⟨w, hw⟩ : ∃ w : Nat, gp L (varQ L 10 0 0 p).2.1 64 = w := ⟨(gp L (varQ L 10 0 0 p).2.1 64).toNat, by omega⟩
  rw [hw] at hnm x1 d2
  rw [Int.toNat_natCast] at d2
  have hfb := frombits_cv w (by omega)
  have hn0 : (0 : Int) < (n : Int) := by omega
  clear x0 x1 hw
  rw [← d1] at hnm d2
  generalize (decPt L ⟨0, p, at_, st, v, f, false⟩).short L = fl at *
  clear d1
  generalize (varQ L 10 0 0 p).2.2 = s at *
  generalize (varQ L 10 0 0 p).2.1 = Q at *
  generalize (varQ L 10 0 0 p).1 = X at *
  have hap := fun H => appD_nils (H := H) (p := (zag X, w))
  simp only at hap
  have hX2 : 0 ≤ X / 2 ∧ X / 2 ≤ 9223372036854775807 := by omega
  have hfin : ∀ (y : Int), zag X % 18446744073709551616 = y → ans (loopL lore 12 a (slR v0 n (.row H.length 1) (.int .u64 y) (.int .u64 st) (.int .u64 (w : Nat)) (.int .i64 1) F) (QB (H ++ [⟨encD [(zag X, w)], 2, true, false⟩]) bv ((Q + 64 : Nat) : Int) fl) K) = R := by
    intro y hy
    cases fl with
    | false =>
      have hR := hR rfl
      rw [d2 rfl] at hR
      rw [← hy]
      exact hR
    | true =>
      rw [hRb rfl]
      have lB : 0 < (H ++ [(⟨encD [(zag X, w)], 2, true, false⟩ : Box)]).length := by simp
      rw [loopL_step' ha]
      by_cases h1 : (1 : Int) < (n : Int)
      · repeat' (first | (refine cond_by (F := ans) (fun _ => ?_) (fun _ => ?_)) | (refine wayK_by (F := ans) (fun _ hb_ => ?_) (fun _ hb_ => ?_) <;> simp only [hb_]) | (refine wayK_byN (F := ans) (fun _ hb_ => ?_) (fun _ hb_ => ?_) <;> simp only [hb_]) | (refine wayD_by (F := ans) (fun _ hb_ => ?_) (fun _ hb_ => ?_) <;> simp only [hb_]) | (refine wayD_byN (F := ans) (fun _ hb_ => ?_) (fun _ hb_ => ?_) <;> simp only [hb_]) | (refine rdK_by (F := ans) (fun _ => ?_) (fun _ => ?_)) | (refine effK_by (F := ans) (fun _ => ?_) (fun _ => ?_)) | (refine effK_by2 (F := ans) (fun _ => ?_) (fun _ => ?_)) | (refine rdD_by (F := ans) (fun _ => ?_) (fun _ => ?_)) | (refine effD_by (F := ans) (fun _ => ?_) (fun _ => ?_)) | (refine effD_by2 (F := ans) (fun _ => ?_) (fun _ => ?_)) | simp -implicitDefEqProofs (disch := first | omega | (simp only [List.length_append, List.length_cons, List.length_nil, List.length_drop, List.length_take]; omega)) only [evs, tys, lors, Nat.reduceAdd, Nat.reduceSub, Nat.reduceMul, Nat.reducePow, Nat.reduceBEq, Nat.reduceLT, Nat.reduceLeDiff, Nat.reduceEqDiff, Int.reduceLT, Int.reduceLE, Int.reduceEq, Int.reduceNe, Int.reduceToNat, Int.reduceAdd, Int.reduceSub, Int.reduceMul, Int.reducePow, Int.reduceDiv, Int.reduceMod, Int.reduceNeg, reduceCtorEq, codeKey, List.contains, List.elem, Ev.load, peek, pack, storeV, fieldAddr, field, cvB, hk, h1, qb_0 lB, decide_true])
        exact hBad _ _ _ _ _ _ _ lB
      · repeat' (first | (refine cond_by (F := ans) (fun _ => ?_) (fun _ => ?_)) | (refine wayK_by (F := ans) (fun _ hb_ => ?_) (fun _ hb_ => ?_) <;> simp only [hb_]) | (refine wayK_byN (F := ans) (fun _ hb_ => ?_) (fun _ hb_ => ?_) <;> simp only [hb_]) | (refine wayD_by (F := ans) (fun _ hb_ => ?_) (fun _ hb_ => ?_) <;> simp only [hb_]) | (refine wayD_byN (F := ans) (fun _ hb_ => ?_) (fun _ hb_ => ?_) <;> simp only [hb_]) | (refine rdK_by (F := ans) (fun _ => ?_) (fun _ => ?_)) | (refine effK_by (F := ans) (fun _ => ?_) (fun _ => ?_)) | (refine effK_by2 (F := ans) (fun _ => ?_) (fun _ => ?_)) | (refine rdD_by (F := ans) (fun _ => ?_) (fun _ => ?_)) | (refine effD_by (F := ans) (fun _ => ?_) (fun _ => ?_)) | (refine effD_by2 (F := ans) (fun _ => ?_) (fun _ => ?_)) | simp -implicitDefEqProofs (disch := first | omega | (simp only [List.length_append, List.length_cons, List.length_nil, List.length_drop, List.length_take]; omega)) only [evs, tys, lors, Nat.reduceAdd, Nat.reduceSub, Nat.reduceMul, Nat.reducePow, Nat.reduceBEq, Nat.reduceLT, Nat.reduceLeDiff, Nat.reduceEqDiff, Int.reduceLT, Int.reduceLE, Int.reduceEq, Int.reduceNe, Int.reduceToNat, Int.reduceAdd, Int.reduceSub, Int.reduceMul, Int.reducePow, Int.reduceDiv, Int.reduceMod, Int.reduceNeg, reduceCtorEq, codeKey, List.contains, List.elem, Ev.load, peek, pack, storeV, fieldAddr, field, cvB, hk, h1, qb_0 lB, decide_false])
        exact hBad _ _ _ _ _ _ _ lB
  by_cases hodd : X % 2 = 1
  · have hnot := notU (y := X / 2) (by omega) (by omega)
    have hz : zag X % 18446744073709551616 = 18446744073709551615 - X / 2 := by unfold zag; rw [if_neg (by omega)]; omega
    have hz2 : IntKind.i64.wrap (18446744073709551615 - X / 2) = zag X := by rw [IntKind.wrap_i64]; unfold zag; rw [if_neg (by omega)]; omega
    have hfin := hfin _ hz
    rw [loopL_step' ha]
    repeat' (first | (refine cond_by (F := ans) (fun _ => ?_) (fun _ => ?_)) | (refine wayK_by (F := ans) (fun _ hb_ => ?_) (fun _ hb_ => ?_) <;> simp only [hb_]) | (refine wayK_byN (F := ans) (fun _ hb_ => ?_) (fun _ hb_ => ?_) <;> simp only [hb_]) | (refine wayD_by (F := ans) (fun _ hb_ => ?_) (fun _ hb_ => ?_) <;> simp only [hb_]) | (refine wayD_byN (F := ans) (fun _ hb_ => ?_) (fun _ hb_ => ?_) <;> simp only [hb_]) | (refine rdK_by (F := ans) (fun _ => ?_) (fun _ => ?_)) | (refine effK_by (F := ans) (fun _ => ?_) (fun _ => ?_)) | (refine effK_by2 (F := ans) (fun _ => ?_) (fun _ => ?_)) | (refine rdD_by (F := ans) (fun _ => ?_) (fun _ => ?_)) | (refine effD_by (F := ans) (fun _ => ?_) (fun _ => ?_)) | (refine effD_by2 (F := ans) (fun _ => ?_) (fun _ => ?_)) | simp -implicitDefEqProofs (disch := first | omega | (simp only [List.length_append, List.length_cons, List.length_nil, List.length_drop, List.length_take]; omega)) only [evs, tys, lors, Nat.reduceAdd, Nat.reduceSub, Nat.reduceMul, Nat.reducePow, Nat.reduceBEq, Nat.reduceLT, Nat.reduceLeDiff, Nat.reduceEqDiff, Int.reduceLT, Int.reduceLE, Int.reduceEq, Int.reduceNe, Int.reduceToNat, Int.reduceAdd, Int.reduceSub, Int.reduceMul, Int.reducePow, Int.reduceDiv, Int.reduceMod, Int.reduceNeg, reduceCtorEq, codeKey, List.contains, List.elem, Ev.load, peek, pack, storeV, fieldAddr, field, cvB, hk, hn0, qb_0 h0, hv, hnm, hodd, hnot, hz2, hfb, hap, srcD_sl, elem22, qb_app h0, qb_len, decide_true])
    all_goals first | exact hfin | trace_state
  · have hz : zag X % 18446744073709551616 = X / 2 := by unfold zag; rw [if_pos (by omega)]; omega
    have hz2 : X / 2 = zag X := by unfold zag; rw [if_pos (by omega)]
    have hfin := hfin _ hz
    rw [← hz2] at hap hfin
    rw [loopL_step' ha]
    repeat' (first | (refine cond_by (F := ans) (fun _ => ?_) (fun _ => ?_)) | (refine wayK_by (F := ans) (fun _ hb_ => ?_) (fun _ hb_ => ?_) <;> simp only [hb_]) | (refine wayK_byN (F := ans) (fun _ hb_ => ?_) (fun _ hb_ => ?_) <;> simp only [hb_]) | (refine wayD_by (F := ans) (fun _ hb_ => ?_) (fun _ hb_ => ?_) <;> simp only [hb_]) | (refine wayD_byN (F := ans) (fun _ hb_ => ?_) (fun _ hb_ => ?_) <;> simp only [hb_]) | (refine rdK_by (F := ans) (fun _ => ?_) (fun _ => ?_)) | (refine effK_by (F := ans) (fun _ => ?_) (fun _ => ?_)) | (refine effK_by2 (F := ans) (fun _ => ?_) (fun _ => ?_)) | (refine rdD_by (F := ans) (fun _ => ?_) (fun _ => ?_)) | (refine effD_by (F := ans) (fun _ => ?_) (fun _ => ?_)) | (refine effD_by2 (F := ans) (fun _ => ?_) (fun _ => ?_)) | simp -implicitDefEqProofs (disch := first | omega | (simp only [List.length_append, List.length_cons, List.length_nil, List.length_drop, List.length_take]; omega)) only [evs, tys, lors, Nat.reduceAdd, Nat.reduceSub, Nat.reduceMul, Nat.reducePow, Nat.reduceBEq, Nat.reduceLT, Nat.reduceLeDiff, Nat.reduceEqDiff, Int.reduceLT, Int.reduceLE, Int.reduceEq, Int.reduceNe, Int.reduceToNat, Int.reduceAdd, Int.reduceSub, Int.reduceMul, Int.reducePow, Int.reduceDiv, Int.reduceMod, Int.reduceNeg, reduceCtorEq, codeKey, List.contains, List.elem, Ev.load, peek, pack, storeV, fieldAddr, field, cvB, hk, hn0, qb_0 h0, hv, hnm, hodd, hfb, hap, srcD_sl, elem22, qb_app h0, qb_len, decide_true, decide_false])
    all_goals first | exact hfin | trace_state
end Go.Proofs.YtmjdcoacmmmhnaaDoor
