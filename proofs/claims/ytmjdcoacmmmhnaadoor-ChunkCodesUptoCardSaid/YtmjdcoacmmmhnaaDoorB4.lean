/-
The reader: difference. The reader: xor.
-/
import Derived.Test.YtmjdcoacmmmhnaaDoorB2
namespace Go.Proofs.YtmjdcoacmmmhnaaDoor
open Go Ev
set_option linter.all false
set_option maxHeartbeats 4000000
set_option maxRecDepth 5000
attribute [local irreducible] codeL condL loopL callL callV evOps evDraw rdK effK wayK oneK wayD oneD rdD effD chks chkB res


section rb
variable {H : Heap} {h : Nat} {by_ : List Int} {c : Bool} {p : Int} {sh : Bool} {f : Fr}
theorem rb_app (h1 : h < H.length) (x : Box) : RB H h by_ c p sh f ++ [x] = RB (H ++ [x]) h by_ c p sh f := by
  unfold RB
  rw [List.set_append_left _ _ h1]
theorem rb_len : (RB H h by_ c p sh f).length = H.length := by unfold RB; simp
theorem rb_new (h1 : h < H.length) (x : Box) : (RB (H ++ [x]) h by_ c p sh f)[H.length]? = some x := by
  rw [← rb_app h1, List.getElem?_append_right (by rw [rb_len]; exact Nat.le_refl _), rb_len, Nat.sub_self]
  rfl
theorem rb_snew (h1 : h < H.length) (x y : Box) : (RB (H ++ [x]) h by_ c p sh f).set H.length y = RB (H ++ [y]) h by_ c p sh f := by
  rw [← rb_app h1, ← rb_app h1, List.set_append_right _ _ (by rw [rb_len]; exact Nat.le_refl _), rb_len, Nat.sub_self]
  rfl
end rb
attribute [local irreducible] RB
theorem bit01 (L : List Int) (hL : Bits01 L) (p : Nat) : gp L p 1 = 0 ∨ gp L p 1 = 1 := by
  have := gp_lt hL p 1
  have e : (2 : Int) ^ 1 = 2 := by decide
  omega
theorem difR_cv (H : Heap) (h : Nat) (h1 : h < H.length) (by_ : List Int) (c : Bool) (hby : Us8 by_) (hlen : by_.length ≤ 200000000000000) (fr : Fr) (p : Nat) (hp : p ≤ 2000000000000000) (sh : Bool) :
    ∃ X, callV (CL lore) 29 [.ptr h 0] (RB H h by_ c (p : Nat) sh fr) = some (.int .i64 (difP (unpack by_) p).1, RB (H ++ X) h by_ c (((difP (unpack by_) p).2 : Nat) : Int) (sh || decide (8 * by_.length < (difP (unpack by_) p).2)) fr) := by
  have L01 := unpack_01 by_
  have G := fun (H' : Heap) (e : H.length ≤ H'.length) q n hn hn0 hq pz m qz a b d s => get_n H' h (by omega) by_ c hby hlen q n hn hn0 hq pz m qz a b d s fr
  have l1 : H.length ≤ (H ++ [K1]).length := by simp
  have l2 : H.length ≤ ((H ++ [K1]) ++ [K2]).length := by simp
  have l3 : H.length ≤ (((H ++ [K1]) ++ [K2]) ++ [K3]).length := by simp
  have g1 := G H (Nat.le_refl _) p 1 (by decide) (by decide) (by omega) (p : Nat) 1 ((p + 1 : Nat) : Int) rfl rfl rfl sh
  unfold difP
  rcases bit01 _ L01 p with b1 | b1
  · rw [if_pos b1]
    rw [b1] at g1
    refine ⟨[], callV_sh rfl ?_⟩
    rw [call_start lore_ext29 Tryd.func29 rfl lore_okf29 (Nat.le_of_ble_eq_true rfl)]
    repeat' (first | (refine cond_by (F := res) (fun _ => ?_) (fun _ => ?_)) | (refine wayK_by (F := res) (fun _ hb_ => ?_) (fun _ hb_ => ?_) <;> simp only [hb_]) | (refine wayK_byN (F := res) (fun _ hb_ => ?_) (fun _ hb_ => ?_) <;> simp only [hb_]) | (refine wayD_by (F := res) (fun _ hb_ => ?_) (fun _ hb_ => ?_) <;> simp only [hb_]) | (refine wayD_byN (F := res) (fun _ hb_ => ?_) (fun _ hb_ => ?_) <;> simp only [hb_]) | (refine rdK_by (F := res) (fun _ => ?_) (fun _ => ?_)) | (refine effK_by (F := res) (fun _ => ?_) (fun _ => ?_)) | (refine effK_by2 (F := res) (fun _ => ?_) (fun _ => ?_)) | (refine rdD_by (F := res) (fun _ => ?_) (fun _ => ?_)) | (refine effD_by (F := res) (fun _ => ?_) (fun _ => ?_)) | (refine effD_by2 (F := res) (fun _ => ?_) (fun _ => ?_)) | simp -implicitDefEqProofs (disch := first | omega | (simp only [List.length_append, List.length_cons, List.length_nil, List.length_drop, List.length_take]; omega)) only [evs, tys, lors, Nat.reduceAdd, Nat.reduceSub, Nat.reduceMul, Nat.reducePow, Nat.reduceBEq, Nat.reduceLT, Nat.reduceLeDiff, Nat.reduceEqDiff, Int.reduceLT, Int.reduceLE, Int.reduceEq, Int.reduceNe, Int.reduceToNat, Int.reduceAdd, Int.reduceSub, Int.reduceMul, Int.reducePow, Int.reduceDiv, Int.reduceMod, Int.reduceNeg, reduceCtorEq, codeKey, List.contains, List.elem, Ev.load, peek, pack, storeV, fieldAddr, field, cvB, g1, decide_true, List.append_nil])
    all_goals first | exact res_eq | trace_state
  · have nb1 : ¬ gp (unpack by_) p 1 = 0 := by omega
    have n10 : ¬ (1 : Int) = 0 := by decide
    rw [if_neg nb1]
    rw [b1] at g1
    have g2 := G _ l1 (p + 1) 1 (by decide) (by decide) (by omega) ((p + 1 : Nat) : Int) 1 ((p + 2 : Nat) : Int) rfl rfl rfl (sh || decide (8 * by_.length < p + 1))
    rw [sh_le (by omega)] at g2
    rcases bit01 _ L01 (p + 1) with b2 | b2
    · rw [if_pos b2]
      rw [b2] at g2
      have g3 := G _ l1 (p + 2) 14 (by decide) (by decide) (by omega) ((p + 2 : Nat) : Int) 14 ((p + 16 : Nat) : Int) rfl rfl rfl (sh || decide (8 * by_.length < p + 2))
      rw [sh_le (by omega)] at g3
      obtain ⟨x0, x1⟩ := gp_lt L01 (p + 2) 14
      have e : (2 : Int) ^ 14 = 16384 := by decide
      have e' : (2 : Int) ^ (14 - 1) = 8192 := by decide
      rw [e] at x1
      refine ⟨[K1], callV_sh rfl ?_⟩
      unfold ext
      rw [e, e']
      generalize gp (unpack by_) (p + 2) 14 = x at *
      rw [call_start lore_ext29 Tryd.func29 rfl lore_okf29 (Nat.le_of_ble_eq_true rfl)]
      repeat' (first | (refine cond_by (F := res) (fun _ => ?_) (fun _ => ?_)) | (refine wayK_by (F := res) (fun _ hb_ => ?_) (fun _ hb_ => ?_) <;> simp only [hb_]) | (refine wayK_byN (F := res) (fun _ hb_ => ?_) (fun _ hb_ => ?_) <;> simp only [hb_]) | (refine wayD_by (F := res) (fun _ hb_ => ?_) (fun _ hb_ => ?_) <;> simp only [hb_]) | (refine wayD_byN (F := res) (fun _ hb_ => ?_) (fun _ hb_ => ?_) <;> simp only [hb_]) | (refine rdK_by (F := res) (fun _ => ?_) (fun _ => ?_)) | (refine effK_by (F := res) (fun _ => ?_) (fun _ => ?_)) | (refine effK_by2 (F := res) (fun _ => ?_) (fun _ => ?_)) | (refine rdD_by (F := res) (fun _ => ?_) (fun _ => ?_)) | (refine effD_by (F := res) (fun _ => ?_) (fun _ => ?_)) | (refine effD_by2 (F := res) (fun _ => ?_) (fun _ => ?_)) | simp -implicitDefEqProofs (disch := first | omega | (simp only [List.length_append, List.length_cons, List.length_nil, List.length_drop, List.length_take]; omega)) only [evs, tys, lors, Nat.reduceAdd, Nat.reduceSub, Nat.reduceMul, Nat.reducePow, Nat.reduceBEq, Nat.reduceLT, Nat.reduceLeDiff, Nat.reduceEqDiff, Int.reduceLT, Int.reduceLE, Int.reduceEq, Int.reduceNe, Int.reduceToNat, Int.reduceAdd, Int.reduceSub, Int.reduceMul, Int.reducePow, Int.reduceDiv, Int.reduceMod, Int.reduceNeg, reduceCtorEq, codeKey, List.contains, List.elem, Ev.load, peek, pack, storeV, fieldAddr, field, cvB, g1, decide_false, decide_true])
      rw [loopL_step' rfl]
      by_cases hx : 8192 < x
      · rw [if_pos hx]
        repeat' (first | (refine cond_by (F := res) (fun _ => ?_) (fun _ => ?_)) | (refine wayK_by (F := res) (fun _ hb_ => ?_) (fun _ hb_ => ?_) <;> simp only [hb_]) | (refine wayK_byN (F := res) (fun _ hb_ => ?_) (fun _ hb_ => ?_) <;> simp only [hb_]) | (refine wayD_by (F := res) (fun _ hb_ => ?_) (fun _ hb_ => ?_) <;> simp only [hb_]) | (refine wayD_byN (F := res) (fun _ hb_ => ?_) (fun _ hb_ => ?_) <;> simp only [hb_]) | (refine rdK_by (F := res) (fun _ => ?_) (fun _ => ?_)) | (refine effK_by (F := res) (fun _ => ?_) (fun _ => ?_)) | (refine effK_by2 (F := res) (fun _ => ?_) (fun _ => ?_)) | (refine rdD_by (F := res) (fun _ => ?_) (fun _ => ?_)) | (refine effD_by (F := res) (fun _ => ?_) (fun _ => ?_)) | (refine effD_by2 (F := res) (fun _ => ?_) (fun _ => ?_)) | simp -implicitDefEqProofs (disch := first | omega | (simp only [List.length_append, List.length_cons, List.length_nil, List.length_drop, List.length_take]; omega)) only [evs, tys, lors, Nat.reduceAdd, Nat.reduceSub, Nat.reduceMul, Nat.reducePow, Nat.reduceBEq, Nat.reduceLT, Nat.reduceLeDiff, Nat.reduceEqDiff, Int.reduceLT, Int.reduceLE, Int.reduceEq, Int.reduceNe, Int.reduceToNat, Int.reduceAdd, Int.reduceSub, Int.reduceMul, Int.reducePow, Int.reduceDiv, Int.reduceMod, Int.reduceNeg, reduceCtorEq, codeKey, List.contains, List.elem, Ev.load, peek, pack, storeV, fieldAddr, field, cvB, g2, g3, hx, cls0, rb_app, rb_len, rb_new, rb_snew, bits1, decide_false, decide_true])
        all_goals first | exact res_eq | trace_state
      · rw [if_neg hx]
        repeat' (first | (refine cond_by (F := res) (fun _ => ?_) (fun _ => ?_)) | (refine wayK_by (F := res) (fun _ hb_ => ?_) (fun _ hb_ => ?_) <;> simp only [hb_]) | (refine wayK_byN (F := res) (fun _ hb_ => ?_) (fun _ hb_ => ?_) <;> simp only [hb_]) | (refine wayD_by (F := res) (fun _ hb_ => ?_) (fun _ hb_ => ?_) <;> simp only [hb_]) | (refine wayD_byN (F := res) (fun _ hb_ => ?_) (fun _ hb_ => ?_) <;> simp only [hb_]) | (refine rdK_by (F := res) (fun _ => ?_) (fun _ => ?_)) | (refine effK_by (F := res) (fun _ => ?_) (fun _ => ?_)) | (refine effK_by2 (F := res) (fun _ => ?_) (fun _ => ?_)) | (refine rdD_by (F := res) (fun _ => ?_) (fun _ => ?_)) | (refine effD_by (F := res) (fun _ => ?_) (fun _ => ?_)) | (refine effD_by2 (F := res) (fun _ => ?_) (fun _ => ?_)) | simp -implicitDefEqProofs (disch := first | omega | (simp only [List.length_append, List.length_cons, List.length_nil, List.length_drop, List.length_take]; omega)) only [evs, tys, lors, Nat.reduceAdd, Nat.reduceSub, Nat.reduceMul, Nat.reducePow, Nat.reduceBEq, Nat.reduceLT, Nat.reduceLeDiff, Nat.reduceEqDiff, Int.reduceLT, Int.reduceLE, Int.reduceEq, Int.reduceNe, Int.reduceToNat, Int.reduceAdd, Int.reduceSub, Int.reduceMul, Int.reducePow, Int.reduceDiv, Int.reduceMod, Int.reduceNeg, reduceCtorEq, codeKey, List.contains, List.elem, Ev.load, peek, pack, storeV, fieldAddr, field, cvB, g2, g3, hx, cls0, rb_app, rb_len, rb_new, rb_snew, bits1, decide_false, decide_true])
        all_goals first | exact res_eq | trace_state
    · have nb2 : ¬ gp (unpack by_) (p + 1) 1 = 0 := by omega
      rw [if_neg nb2]
      rw [b2] at g2
      have g3 := G _ l2 (p + 2) 1 (by decide) (by decide) (by omega) ((p + 2 : Nat) : Int) 1 ((p + 3 : Nat) : Int) rfl rfl rfl (sh || decide (8 * by_.length < p + 2))
      rw [sh_le (by omega)] at g3
      rcases bit01 _ L01 (p + 2) with b3 | b3
      · rw [if_pos b3]
        rw [b3] at g3
        have g4 := G _ l2 (p + 3) 17 (by decide) (by decide) (by omega) ((p + 3 : Nat) : Int) 17 ((p + 20 : Nat) : Int) rfl rfl rfl (sh || decide (8 * by_.length < p + 3))
        rw [sh_le (by omega)] at g4
        obtain ⟨x0, x1⟩ := gp_lt L01 (p + 3) 17
        have e : (2 : Int) ^ 17 = 131072 := by decide
        have e' : (2 : Int) ^ (17 - 1) = 65536 := by decide
        rw [e] at x1
        refine ⟨[K1, K2], callV_sh rfl ?_⟩
        unfold ext
        rw [e, e']
        generalize gp (unpack by_) (p + 3) 17 = x at *
        rw [call_start lore_ext29 Tryd.func29 rfl lore_okf29 (Nat.le_of_ble_eq_true rfl)]
        repeat' (first | (refine cond_by (F := res) (fun _ => ?_) (fun _ => ?_)) | (refine wayK_by (F := res) (fun _ hb_ => ?_) (fun _ hb_ => ?_) <;> simp only [hb_]) | (refine wayK_byN (F := res) (fun _ hb_ => ?_) (fun _ hb_ => ?_) <;> simp only [hb_]) | (refine wayD_by (F := res) (fun _ hb_ => ?_) (fun _ hb_ => ?_) <;> simp only [hb_]) | (refine wayD_byN (F := res) (fun _ hb_ => ?_) (fun _ hb_ => ?_) <;> simp only [hb_]) | (refine rdK_by (F := res) (fun _ => ?_) (fun _ => ?_)) | (refine effK_by (F := res) (fun _ => ?_) (fun _ => ?_)) | (refine effK_by2 (F := res) (fun _ => ?_) (fun _ => ?_)) | (refine rdD_by (F := res) (fun _ => ?_) (fun _ => ?_)) | (refine effD_by (F := res) (fun _ => ?_) (fun _ => ?_)) | (refine effD_by2 (F := res) (fun _ => ?_) (fun _ => ?_)) | simp -implicitDefEqProofs (disch := first | omega | (simp only [List.length_append, List.length_cons, List.length_nil, List.length_drop, List.length_take]; omega)) only [evs, tys, lors, Nat.reduceAdd, Nat.reduceSub, Nat.reduceMul, Nat.reducePow, Nat.reduceBEq, Nat.reduceLT, Nat.reduceLeDiff, Nat.reduceEqDiff, Int.reduceLT, Int.reduceLE, Int.reduceEq, Int.reduceNe, Int.reduceToNat, Int.reduceAdd, Int.reduceSub, Int.reduceMul, Int.reducePow, Int.reduceDiv, Int.reduceMod, Int.reduceNeg, reduceCtorEq, codeKey, List.contains, List.elem, Ev.load, peek, pack, storeV, fieldAddr, field, cvB, g1, decide_false, decide_true])
        rw [loopL_step' rfl]
        repeat' (first | (refine cond_by (F := res) (fun _ => ?_) (fun _ => ?_)) | (refine wayK_by (F := res) (fun _ hb_ => ?_) (fun _ hb_ => ?_) <;> simp only [hb_]) | (refine wayK_byN (F := res) (fun _ hb_ => ?_) (fun _ hb_ => ?_) <;> simp only [hb_]) | (refine wayD_by (F := res) (fun _ hb_ => ?_) (fun _ hb_ => ?_) <;> simp only [hb_]) | (refine wayD_byN (F := res) (fun _ hb_ => ?_) (fun _ hb_ => ?_) <;> simp only [hb_]) | (refine rdK_by (F := res) (fun _ => ?_) (fun _ => ?_)) | (refine effK_by (F := res) (fun _ => ?_) (fun _ => ?_)) | (refine effK_by2 (F := res) (fun _ => ?_) (fun _ => ?_)) | (refine rdD_by (F := res) (fun _ => ?_) (fun _ => ?_)) | (refine effD_by (F := res) (fun _ => ?_) (fun _ => ?_)) | (refine effD_by2 (F := res) (fun _ => ?_) (fun _ => ?_)) | simp -implicitDefEqProofs (disch := first | omega | (simp only [List.length_append, List.length_cons, List.length_nil, List.length_drop, List.length_take]; omega)) only [evs, tys, lors, Nat.reduceAdd, Nat.reduceSub, Nat.reduceMul, Nat.reducePow, Nat.reduceBEq, Nat.reduceLT, Nat.reduceLeDiff, Nat.reduceEqDiff, Int.reduceLT, Int.reduceLE, Int.reduceEq, Int.reduceNe, Int.reduceToNat, Int.reduceAdd, Int.reduceSub, Int.reduceMul, Int.reducePow, Int.reduceDiv, Int.reduceMod, Int.reduceNeg, reduceCtorEq, codeKey, List.contains, List.elem, Ev.load, peek, pack, storeV, fieldAddr, field, cvB, g2, cls0, rb_app, rb_len, rb_new, rb_snew, bits1, decide_false, decide_true])
        rw [loopL_step' rfl]
        by_cases hx : 65536 < x
        · rw [if_pos hx]
          repeat' (first | (refine cond_by (F := res) (fun _ => ?_) (fun _ => ?_)) | (refine wayK_by (F := res) (fun _ hb_ => ?_) (fun _ hb_ => ?_) <;> simp only [hb_]) | (refine wayK_byN (F := res) (fun _ hb_ => ?_) (fun _ hb_ => ?_) <;> simp only [hb_]) | (refine wayD_by (F := res) (fun _ hb_ => ?_) (fun _ hb_ => ?_) <;> simp only [hb_]) | (refine wayD_byN (F := res) (fun _ hb_ => ?_) (fun _ hb_ => ?_) <;> simp only [hb_]) | (refine rdK_by (F := res) (fun _ => ?_) (fun _ => ?_)) | (refine effK_by (F := res) (fun _ => ?_) (fun _ => ?_)) | (refine effK_by2 (F := res) (fun _ => ?_) (fun _ => ?_)) | (refine rdD_by (F := res) (fun _ => ?_) (fun _ => ?_)) | (refine effD_by (F := res) (fun _ => ?_) (fun _ => ?_)) | (refine effD_by2 (F := res) (fun _ => ?_) (fun _ => ?_)) | simp -implicitDefEqProofs (disch := first | omega | (simp only [List.length_append, List.length_cons, List.length_nil, List.length_drop, List.length_take]; omega)) only [evs, tys, lors, Nat.reduceAdd, Nat.reduceSub, Nat.reduceMul, Nat.reducePow, Nat.reduceBEq, Nat.reduceLT, Nat.reduceLeDiff, Nat.reduceEqDiff, Int.reduceLT, Int.reduceLE, Int.reduceEq, Int.reduceNe, Int.reduceToNat, Int.reduceAdd, Int.reduceSub, Int.reduceMul, Int.reducePow, Int.reduceDiv, Int.reduceMod, Int.reduceNeg, reduceCtorEq, codeKey, List.contains, List.elem, Ev.load, peek, pack, storeV, fieldAddr, field, cvB, g3, g4, hx, cls1, rb_app, rb_len, rb_new, rb_snew, bits1, decide_false, decide_true])
          all_goals first | exact res_eq | (simp only [List.append_assoc, List.cons_append, List.nil_append]; exact res_eq) | trace_state
        · rw [if_neg hx]
          repeat' (first | (refine cond_by (F := res) (fun _ => ?_) (fun _ => ?_)) | (refine wayK_by (F := res) (fun _ hb_ => ?_) (fun _ hb_ => ?_) <;> simp only [hb_]) | (refine wayK_byN (F := res) (fun _ hb_ => ?_) (fun _ hb_ => ?_) <;> simp only [hb_]) | (refine wayD_by (F := res) (fun _ hb_ => ?_) (fun _ hb_ => ?_) <;> simp only [hb_]) | (refine wayD_byN (F := res) (fun _ hb_ => ?_) (fun _ hb_ => ?_) <;> simp only [hb_]) | (refine rdK_by (F := res) (fun _ => ?_) (fun _ => ?_)) | (refine effK_by (F := res) (fun _ => ?_) (fun _ => ?_)) | (refine effK_by2 (F := res) (fun _ => ?_) (fun _ => ?_)) | (refine rdD_by (F := res) (fun _ => ?_) (fun _ => ?_)) | (refine effD_by (F := res) (fun _ => ?_) (fun _ => ?_)) | (refine effD_by2 (F := res) (fun _ => ?_) (fun _ => ?_)) | simp -implicitDefEqProofs (disch := first | omega | (simp only [List.length_append, List.length_cons, List.length_nil, List.length_drop, List.length_take]; omega)) only [evs, tys, lors, Nat.reduceAdd, Nat.reduceSub, Nat.reduceMul, Nat.reducePow, Nat.reduceBEq, Nat.reduceLT, Nat.reduceLeDiff, Nat.reduceEqDiff, Int.reduceLT, Int.reduceLE, Int.reduceEq, Int.reduceNe, Int.reduceToNat, Int.reduceAdd, Int.reduceSub, Int.reduceMul, Int.reducePow, Int.reduceDiv, Int.reduceMod, Int.reduceNeg, reduceCtorEq, codeKey, List.contains, List.elem, Ev.load, peek, pack, storeV, fieldAddr, field, cvB, g3, g4, hx, cls1, rb_app, rb_len, rb_new, rb_snew, bits1, decide_false, decide_true])
          all_goals first | exact res_eq | (simp only [List.append_assoc, List.cons_append, List.nil_append]; exact res_eq) | trace_state
      · have nb3 : ¬ gp (unpack by_) (p + 2) 1 = 0 := by omega
        rw [if_neg nb3]
        rw [b3] at g3
        have g4 := G _ l3 (p + 3) 1 (by decide) (by decide) (by omega) ((p + 3 : Nat) : Int) 1 ((p + 4 : Nat) : Int) rfl rfl rfl (sh || decide (8 * by_.length < p + 3))
        rw [sh_le (by omega)] at g4
        rcases bit01 _ L01 (p + 3) with b4 | b4
        · rw [if_pos b4]
          rw [b4] at g4
          have g5 := G _ l3 (p + 4) 20 (by decide) (by decide) (by omega) ((p + 4 : Nat) : Int) 20 ((p + 24 : Nat) : Int) rfl rfl rfl (sh || decide (8 * by_.length < p + 4))
          rw [sh_le (by omega)] at g5
          obtain ⟨x0, x1⟩ := gp_lt L01 (p + 4) 20
          have e : (2 : Int) ^ 20 = 1048576 := by decide
          have e' : (2 : Int) ^ (20 - 1) = 524288 := by decide
          rw [e] at x1
          refine ⟨[K1, K2, K3], callV_sh rfl ?_⟩
          unfold ext
          rw [e, e']
          generalize gp (unpack by_) (p + 4) 20 = x at *
          rw [call_start lore_ext29 Tryd.func29 rfl lore_okf29 (Nat.le_of_ble_eq_true rfl)]
          repeat' (first | (refine cond_by (F := res) (fun _ => ?_) (fun _ => ?_)) | (refine wayK_by (F := res) (fun _ hb_ => ?_) (fun _ hb_ => ?_) <;> simp only [hb_]) | (refine wayK_byN (F := res) (fun _ hb_ => ?_) (fun _ hb_ => ?_) <;> simp only [hb_]) | (refine wayD_by (F := res) (fun _ hb_ => ?_) (fun _ hb_ => ?_) <;> simp only [hb_]) | (refine wayD_byN (F := res) (fun _ hb_ => ?_) (fun _ hb_ => ?_) <;> simp only [hb_]) | (refine rdK_by (F := res) (fun _ => ?_) (fun _ => ?_)) | (refine effK_by (F := res) (fun _ => ?_) (fun _ => ?_)) | (refine effK_by2 (F := res) (fun _ => ?_) (fun _ => ?_)) | (refine rdD_by (F := res) (fun _ => ?_) (fun _ => ?_)) | (refine effD_by (F := res) (fun _ => ?_) (fun _ => ?_)) | (refine effD_by2 (F := res) (fun _ => ?_) (fun _ => ?_)) | simp -implicitDefEqProofs (disch := first | omega | (simp only [List.length_append, List.length_cons, List.length_nil, List.length_drop, List.length_take]; omega)) only [evs, tys, lors, Nat.reduceAdd, Nat.reduceSub, Nat.reduceMul, Nat.reducePow, Nat.reduceBEq, Nat.reduceLT, Nat.reduceLeDiff, Nat.reduceEqDiff, Int.reduceLT, Int.reduceLE, Int.reduceEq, Int.reduceNe, Int.reduceToNat, Int.reduceAdd, Int.reduceSub, Int.reduceMul, Int.reducePow, Int.reduceDiv, Int.reduceMod, Int.reduceNeg, reduceCtorEq, codeKey, List.contains, List.elem, Ev.load, peek, pack, storeV, fieldAddr, field, cvB, g1, decide_false, decide_true])
          rw [loopL_step' rfl]
          repeat' (first | (refine cond_by (F := res) (fun _ => ?_) (fun _ => ?_)) | (refine wayK_by (F := res) (fun _ hb_ => ?_) (fun _ hb_ => ?_) <;> simp only [hb_]) | (refine wayK_byN (F := res) (fun _ hb_ => ?_) (fun _ hb_ => ?_) <;> simp only [hb_]) | (refine wayD_by (F := res) (fun _ hb_ => ?_) (fun _ hb_ => ?_) <;> simp only [hb_]) | (refine wayD_byN (F := res) (fun _ hb_ => ?_) (fun _ hb_ => ?_) <;> simp only [hb_]) | (refine rdK_by (F := res) (fun _ => ?_) (fun _ => ?_)) | (refine effK_by (F := res) (fun _ => ?_) (fun _ => ?_)) | (refine effK_by2 (F := res) (fun _ => ?_) (fun _ => ?_)) | (refine rdD_by (F := res) (fun _ => ?_) (fun _ => ?_)) | (refine effD_by (F := res) (fun _ => ?_) (fun _ => ?_)) | (refine effD_by2 (F := res) (fun _ => ?_) (fun _ => ?_)) | simp -implicitDefEqProofs (disch := first | omega | (simp only [List.length_append, List.length_cons, List.length_nil, List.length_drop, List.length_take]; omega)) only [evs, tys, lors, Nat.reduceAdd, Nat.reduceSub, Nat.reduceMul, Nat.reducePow, Nat.reduceBEq, Nat.reduceLT, Nat.reduceLeDiff, Nat.reduceEqDiff, Int.reduceLT, Int.reduceLE, Int.reduceEq, Int.reduceNe, Int.reduceToNat, Int.reduceAdd, Int.reduceSub, Int.reduceMul, Int.reducePow, Int.reduceDiv, Int.reduceMod, Int.reduceNeg, reduceCtorEq, codeKey, List.contains, List.elem, Ev.load, peek, pack, storeV, fieldAddr, field, cvB, g2, cls0, rb_app, rb_len, rb_new, rb_snew, bits1, decide_false, decide_true])
          rw [loopL_step' rfl]
          repeat' (first | (refine cond_by (F := res) (fun _ => ?_) (fun _ => ?_)) | (refine wayK_by (F := res) (fun _ hb_ => ?_) (fun _ hb_ => ?_) <;> simp only [hb_]) | (refine wayK_byN (F := res) (fun _ hb_ => ?_) (fun _ hb_ => ?_) <;> simp only [hb_]) | (refine wayD_by (F := res) (fun _ hb_ => ?_) (fun _ hb_ => ?_) <;> simp only [hb_]) | (refine wayD_byN (F := res) (fun _ hb_ => ?_) (fun _ hb_ => ?_) <;> simp only [hb_]) | (refine rdK_by (F := res) (fun _ => ?_) (fun _ => ?_)) | (refine effK_by (F := res) (fun _ => ?_) (fun _ => ?_)) | (refine effK_by2 (F := res) (fun _ => ?_) (fun _ => ?_)) | (refine rdD_by (F := res) (fun _ => ?_) (fun _ => ?_)) | (refine effD_by (F := res) (fun _ => ?_) (fun _ => ?_)) | (refine effD_by2 (F := res) (fun _ => ?_) (fun _ => ?_)) | simp -implicitDefEqProofs (disch := first | omega | (simp only [List.length_append, List.length_cons, List.length_nil, List.length_drop, List.length_take]; omega)) only [evs, tys, lors, Nat.reduceAdd, Nat.reduceSub, Nat.reduceMul, Nat.reducePow, Nat.reduceBEq, Nat.reduceLT, Nat.reduceLeDiff, Nat.reduceEqDiff, Int.reduceLT, Int.reduceLE, Int.reduceEq, Int.reduceNe, Int.reduceToNat, Int.reduceAdd, Int.reduceSub, Int.reduceMul, Int.reducePow, Int.reduceDiv, Int.reduceMod, Int.reduceNeg, reduceCtorEq, codeKey, List.contains, List.elem, Ev.load, peek, pack, storeV, fieldAddr, field, cvB, g3, cls1, rb_app, rb_len, rb_new, rb_snew, bits1, decide_false, decide_true])
          rw [loopL_step' rfl]
          by_cases hx : 524288 < x
          · rw [if_pos hx]
            repeat' (first | (refine cond_by (F := res) (fun _ => ?_) (fun _ => ?_)) | (refine wayK_by (F := res) (fun _ hb_ => ?_) (fun _ hb_ => ?_) <;> simp only [hb_]) | (refine wayK_byN (F := res) (fun _ hb_ => ?_) (fun _ hb_ => ?_) <;> simp only [hb_]) | (refine wayD_by (F := res) (fun _ hb_ => ?_) (fun _ hb_ => ?_) <;> simp only [hb_]) | (refine wayD_byN (F := res) (fun _ hb_ => ?_) (fun _ hb_ => ?_) <;> simp only [hb_]) | (refine rdK_by (F := res) (fun _ => ?_) (fun _ => ?_)) | (refine effK_by (F := res) (fun _ => ?_) (fun _ => ?_)) | (refine effK_by2 (F := res) (fun _ => ?_) (fun _ => ?_)) | (refine rdD_by (F := res) (fun _ => ?_) (fun _ => ?_)) | (refine effD_by (F := res) (fun _ => ?_) (fun _ => ?_)) | (refine effD_by2 (F := res) (fun _ => ?_) (fun _ => ?_)) | simp -implicitDefEqProofs (disch := first | omega | (simp only [List.length_append, List.length_cons, List.length_nil, List.length_drop, List.length_take]; omega)) only [evs, tys, lors, Nat.reduceAdd, Nat.reduceSub, Nat.reduceMul, Nat.reducePow, Nat.reduceBEq, Nat.reduceLT, Nat.reduceLeDiff, Nat.reduceEqDiff, Int.reduceLT, Int.reduceLE, Int.reduceEq, Int.reduceNe, Int.reduceToNat, Int.reduceAdd, Int.reduceSub, Int.reduceMul, Int.reducePow, Int.reduceDiv, Int.reduceMod, Int.reduceNeg, reduceCtorEq, codeKey, List.contains, List.elem, Ev.load, peek, pack, storeV, fieldAddr, field, cvB, g4, g5, hx, cls2, rb_app, rb_len, rb_new, rb_snew, bits1, decide_false, decide_true])
            all_goals first | exact res_eq | (simp only [List.append_assoc, List.cons_append, List.nil_append]; exact res_eq) | trace_state
          · rw [if_neg hx]
            repeat' (first | (refine cond_by (F := res) (fun _ => ?_) (fun _ => ?_)) | (refine wayK_by (F := res) (fun _ hb_ => ?_) (fun _ hb_ => ?_) <;> simp only [hb_]) | (refine wayK_byN (F := res) (fun _ hb_ => ?_) (fun _ hb_ => ?_) <;> simp only [hb_]) | (refine wayD_by (F := res) (fun _ hb_ => ?_) (fun _ hb_ => ?_) <;> simp only [hb_]) | (refine wayD_byN (F := res) (fun _ hb_ => ?_) (fun _ hb_ => ?_) <;> simp only [hb_]) | (refine rdK_by (F := res) (fun _ => ?_) (fun _ => ?_)) | (refine effK_by (F := res) (fun _ => ?_) (fun _ => ?_)) | (refine effK_by2 (F := res) (fun _ => ?_) (fun _ => ?_)) | (refine rdD_by (F := res) (fun _ => ?_) (fun _ => ?_)) | (refine effD_by (F := res) (fun _ => ?_) (fun _ => ?_)) | (refine effD_by2 (F := res) (fun _ => ?_) (fun _ => ?_)) | simp -implicitDefEqProofs (disch := first | omega | (simp only [List.length_append, List.length_cons, List.length_nil, List.length_drop, List.length_take]; omega)) only [evs, tys, lors, Nat.reduceAdd, Nat.reduceSub, Nat.reduceMul, Nat.reducePow, Nat.reduceBEq, Nat.reduceLT, Nat.reduceLeDiff, Nat.reduceEqDiff, Int.reduceLT, Int.reduceLE, Int.reduceEq, Int.reduceNe, Int.reduceToNat, Int.reduceAdd, Int.reduceSub, Int.reduceMul, Int.reducePow, Int.reduceDiv, Int.reduceMod, Int.reduceNeg, reduceCtorEq, codeKey, List.contains, List.elem, Ev.load, peek, pack, storeV, fieldAddr, field, cvB, g4, g5, hx, cls2, rb_app, rb_len, rb_new, rb_snew, bits1, decide_false, decide_true])
            all_goals first | exact res_eq | (simp only [List.append_assoc, List.cons_append, List.nil_append]; exact res_eq) | trace_state
        · have nb4 : ¬ gp (unpack by_) (p + 3) 1 = 0 := by omega
          rw [if_neg nb4]
          rw [b4] at g4
          have g5 := G _ l3 (p + 4) 64 (by decide) (by decide) (by omega) ((p + 4 : Nat) : Int) 64 ((p + 68 : Nat) : Int) rfl rfl rfl (sh || decide (8 * by_.length < p + 4))
          rw [sh_le (by omega)] at g5
          have hw : IntKind.i64.wrap (gp (unpack by_) (p + 4) 64) = (gp (unpack by_) (p + 4) 64 + 9223372036854775808) % 18446744073709551616 - 9223372036854775808 := IntKind.wrap_i64 _
          refine ⟨[K1, K2, K3], callV_sh rfl ?_⟩
          rw [call_start lore_ext29 Tryd.func29 rfl lore_okf29 (Nat.le_of_ble_eq_true rfl)]
          repeat' (first | (refine cond_by (F := res) (fun _ => ?_) (fun _ => ?_)) | (refine wayK_by (F := res) (fun _ hb_ => ?_) (fun _ hb_ => ?_) <;> simp only [hb_]) | (refine wayK_byN (F := res) (fun _ hb_ => ?_) (fun _ hb_ => ?_) <;> simp only [hb_]) | (refine wayD_by (F := res) (fun _ hb_ => ?_) (fun _ hb_ => ?_) <;> simp only [hb_]) | (refine wayD_byN (F := res) (fun _ hb_ => ?_) (fun _ hb_ => ?_) <;> simp only [hb_]) | (refine rdK_by (F := res) (fun _ => ?_) (fun _ => ?_)) | (refine effK_by (F := res) (fun _ => ?_) (fun _ => ?_)) | (refine effK_by2 (F := res) (fun _ => ?_) (fun _ => ?_)) | (refine rdD_by (F := res) (fun _ => ?_) (fun _ => ?_)) | (refine effD_by (F := res) (fun _ => ?_) (fun _ => ?_)) | (refine effD_by2 (F := res) (fun _ => ?_) (fun _ => ?_)) | simp -implicitDefEqProofs (disch := first | omega | (simp only [List.length_append, List.length_cons, List.length_nil, List.length_drop, List.length_take]; omega)) only [evs, tys, lors, Nat.reduceAdd, Nat.reduceSub, Nat.reduceMul, Nat.reducePow, Nat.reduceBEq, Nat.reduceLT, Nat.reduceLeDiff, Nat.reduceEqDiff, Int.reduceLT, Int.reduceLE, Int.reduceEq, Int.reduceNe, Int.reduceToNat, Int.reduceAdd, Int.reduceSub, Int.reduceMul, Int.reducePow, Int.reduceDiv, Int.reduceMod, Int.reduceNeg, reduceCtorEq, codeKey, List.contains, List.elem, Ev.load, peek, pack, storeV, fieldAddr, field, cvB, g1, decide_false, decide_true])
          rw [loopL_step' rfl]
          repeat' (first | (refine cond_by (F := res) (fun _ => ?_) (fun _ => ?_)) | (refine wayK_by (F := res) (fun _ hb_ => ?_) (fun _ hb_ => ?_) <;> simp only [hb_]) | (refine wayK_byN (F := res) (fun _ hb_ => ?_) (fun _ hb_ => ?_) <;> simp only [hb_]) | (refine wayD_by (F := res) (fun _ hb_ => ?_) (fun _ hb_ => ?_) <;> simp only [hb_]) | (refine wayD_byN (F := res) (fun _ hb_ => ?_) (fun _ hb_ => ?_) <;> simp only [hb_]) | (refine rdK_by (F := res) (fun _ => ?_) (fun _ => ?_)) | (refine effK_by (F := res) (fun _ => ?_) (fun _ => ?_)) | (refine effK_by2 (F := res) (fun _ => ?_) (fun _ => ?_)) | (refine rdD_by (F := res) (fun _ => ?_) (fun _ => ?_)) | (refine effD_by (F := res) (fun _ => ?_) (fun _ => ?_)) | (refine effD_by2 (F := res) (fun _ => ?_) (fun _ => ?_)) | simp -implicitDefEqProofs (disch := first | omega | (simp only [List.length_append, List.length_cons, List.length_nil, List.length_drop, List.length_take]; omega)) only [evs, tys, lors, Nat.reduceAdd, Nat.reduceSub, Nat.reduceMul, Nat.reducePow, Nat.reduceBEq, Nat.reduceLT, Nat.reduceLeDiff, Nat.reduceEqDiff, Int.reduceLT, Int.reduceLE, Int.reduceEq, Int.reduceNe, Int.reduceToNat, Int.reduceAdd, Int.reduceSub, Int.reduceMul, Int.reducePow, Int.reduceDiv, Int.reduceMod, Int.reduceNeg, reduceCtorEq, codeKey, List.contains, List.elem, Ev.load, peek, pack, storeV, fieldAddr, field, cvB, g2, cls0, rb_app, rb_len, rb_new, rb_snew, bits1, decide_false, decide_true])
          rw [loopL_step' rfl]
          repeat' (first | (refine cond_by (F := res) (fun _ => ?_) (fun _ => ?_)) | (refine wayK_by (F := res) (fun _ hb_ => ?_) (fun _ hb_ => ?_) <;> simp only [hb_]) | (refine wayK_byN (F := res) (fun _ hb_ => ?_) (fun _ hb_ => ?_) <;> simp only [hb_]) | (refine wayD_by (F := res) (fun _ hb_ => ?_) (fun _ hb_ => ?_) <;> simp only [hb_]) | (refine wayD_byN (F := res) (fun _ hb_ => ?_) (fun _ hb_ => ?_) <;> simp only [hb_]) | (refine rdK_by (F := res) (fun _ => ?_) (fun _ => ?_)) | (refine effK_by (F := res) (fun _ => ?_) (fun _ => ?_)) | (refine effK_by2 (F := res) (fun _ => ?_) (fun _ => ?_)) | (refine rdD_by (F := res) (fun _ => ?_) (fun _ => ?_)) | (refine effD_by (F := res) (fun _ => ?_) (fun _ => ?_)) | (refine effD_by2 (F := res) (fun _ => ?_) (fun _ => ?_)) | simp -implicitDefEqProofs (disch := first | omega | (simp only [List.length_append, List.length_cons, List.length_nil, List.length_drop, List.length_take]; omega)) only [evs, tys, lors, Nat.reduceAdd, Nat.reduceSub, Nat.reduceMul, Nat.reducePow, Nat.reduceBEq, Nat.reduceLT, Nat.reduceLeDiff, Nat.reduceEqDiff, Int.reduceLT, Int.reduceLE, Int.reduceEq, Int.reduceNe, Int.reduceToNat, Int.reduceAdd, Int.reduceSub, Int.reduceMul, Int.reducePow, Int.reduceDiv, Int.reduceMod, Int.reduceNeg, reduceCtorEq, codeKey, List.contains, List.elem, Ev.load, peek, pack, storeV, fieldAddr, field, cvB, g3, cls1, rb_app, rb_len, rb_new, rb_snew, bits1, decide_false, decide_true])
          rw [loopL_step' rfl]
          repeat' (first | (refine cond_by (F := res) (fun _ => ?_) (fun _ => ?_)) | (refine wayK_by (F := res) (fun _ hb_ => ?_) (fun _ hb_ => ?_) <;> simp only [hb_]) | (refine wayK_byN (F := res) (fun _ hb_ => ?_) (fun _ hb_ => ?_) <;> simp only [hb_]) | (refine wayD_by (F := res) (fun _ hb_ => ?_) (fun _ hb_ => ?_) <;> simp only [hb_]) | (refine wayD_byN (F := res) (fun _ hb_ => ?_) (fun _ hb_ => ?_) <;> simp only [hb_]) | (refine rdK_by (F := res) (fun _ => ?_) (fun _ => ?_)) | (refine effK_by (F := res) (fun _ => ?_) (fun _ => ?_)) | (refine effK_by2 (F := res) (fun _ => ?_) (fun _ => ?_)) | (refine rdD_by (F := res) (fun _ => ?_) (fun _ => ?_)) | (refine effD_by (F := res) (fun _ => ?_) (fun _ => ?_)) | (refine effD_by2 (F := res) (fun _ => ?_) (fun _ => ?_)) | simp -implicitDefEqProofs (disch := first | omega | (simp only [List.length_append, List.length_cons, List.length_nil, List.length_drop, List.length_take]; omega)) only [evs, tys, lors, Nat.reduceAdd, Nat.reduceSub, Nat.reduceMul, Nat.reducePow, Nat.reduceBEq, Nat.reduceLT, Nat.reduceLeDiff, Nat.reduceEqDiff, Int.reduceLT, Int.reduceLE, Int.reduceEq, Int.reduceNe, Int.reduceToNat, Int.reduceAdd, Int.reduceSub, Int.reduceMul, Int.reducePow, Int.reduceDiv, Int.reduceMod, Int.reduceNeg, reduceCtorEq, codeKey, List.contains, List.elem, Ev.load, peek, pack, storeV, fieldAddr, field, cvB, g4, cls2, rb_app, rb_len, rb_new, rb_snew, bits1, decide_false, decide_true])
          rw [loopL_step' rfl]
          repeat' (first | (refine cond_by (F := res) (fun _ => ?_) (fun _ => ?_)) | (refine wayK_by (F := res) (fun _ hb_ => ?_) (fun _ hb_ => ?_) <;> simp only [hb_]) | (refine wayK_byN (F := res) (fun _ hb_ => ?_) (fun _ hb_ => ?_) <;> simp only [hb_]) | (refine wayD_by (F := res) (fun _ hb_ => ?_) (fun _ hb_ => ?_) <;> simp only [hb_]) | (refine wayD_byN (F := res) (fun _ hb_ => ?_) (fun _ hb_ => ?_) <;> simp only [hb_]) | (refine rdK_by (F := res) (fun _ => ?_) (fun _ => ?_)) | (refine effK_by (F := res) (fun _ => ?_) (fun _ => ?_)) | (refine effK_by2 (F := res) (fun _ => ?_) (fun _ => ?_)) | (refine rdD_by (F := res) (fun _ => ?_) (fun _ => ?_)) | (refine effD_by (F := res) (fun _ => ?_) (fun _ => ?_)) | (refine effD_by2 (F := res) (fun _ => ?_) (fun _ => ?_)) | simp -implicitDefEqProofs (disch := first | omega | (simp only [List.length_append, List.length_cons, List.length_nil, List.length_drop, List.length_take]; omega)) only [evs, tys, lors, Nat.reduceAdd, Nat.reduceSub, Nat.reduceMul, Nat.reducePow, Nat.reduceBEq, Nat.reduceLT, Nat.reduceLeDiff, Nat.reduceEqDiff, Int.reduceLT, Int.reduceLE, Int.reduceEq, Int.reduceNe, Int.reduceToNat, Int.reduceAdd, Int.reduceSub, Int.reduceMul, Int.reducePow, Int.reduceDiv, Int.reduceMod, Int.reduceNeg, reduceCtorEq, codeKey, List.contains, List.elem, Ev.load, peek, pack, storeV, fieldAddr, field, cvB, g5, hw, decide_false, decide_true])
          all_goals first | exact res_eq | (simp only [List.append_assoc, List.cons_append, List.nil_append]; exact res_eq) | trace_state


abbrev FrR (f : Fr) : Prop := f.there = true → f.l ≤ 31 ∧ 1 ≤ 64 - (f.l : Int) - f.t ∧ 64 - (f.l : Int) - f.t ≤ 64
theorem shl_fits {x : Int} {n t l : Nat} (hnt : n + t + l = 64) (h0 : 0 ≤ x) (h1 : x < 2 ^ n) : 0 ≤ x * 2 ^ t ∧ x * 2 ^ t ≤ 18446744073709551615 := by
  have hp := p2_pos t
  have a := Int.mul_lt_mul_of_pos_right h1 hp
  rw [← Int.pow_add] at a
  have b : (2 : Int) ^ (n + t) ≤ 2 ^ 64 := by
    have := Nat.pow_le_pow_right (show 0 < 2 by decide) (show n + t ≤ 64 by omega)
    exact_mod_cast this
  have e : (2 : Int) ^ 64 = 18446744073709551616 := by decide
  exact ⟨Int.mul_nonneg h0 (by omega), by omega⟩
theorem xorR_cv (H : Heap) (h : Nat) (h1 : h < H.length) (by_ : List Int) (c : Bool) (hby : Us8 by_) (hlen : by_.length ≤ 200000000000000) (f : Fr) (hf : FrR f) (p : Nat) (hp : p ≤ 2000000000000000) (sh : Bool) :
    callV (CL lore) 28 [.ptr h 0] (RB H h by_ c (p : Nat) sh f) = some (.int .u64 (xorP (unpack by_) p f).1, RB H h by_ c (((xorP (unpack by_) p f).2.1 : Nat) : Int) (sh || decide (8 * by_.length < (xorP (unpack by_) p f).2.1) || (xorP (unpack by_) p f).2.2.2) (xorP (unpack by_) p f).2.2.1) := by
  have L01 := unpack_01 by_
  have G := fun q n hn hn0 hq pz m qz a b d s f => get_n H h h1 by_ c hby hlen q n hn hn0 hq pz m qz a b d s f
  have g1 := G p 1 (by decide) (by decide) (by omega) (p : Nat) 1 ((p + 1 : Nat) : Int) rfl rfl rfl sh f
  refine callV_sh rfl ?_
  unfold xorP
  obtain ⟨fb, fl, ft⟩ := f
  rcases bit01 _ L01 p with b1 | b1
  · rw [if_pos b1]
    rw [b1] at g1
    simp only [Bool.or_false]
    rw [call_start lore_ext28 Tryd.func28 rfl lore_okf28 (Nat.le_of_ble_eq_true rfl)]
    repeat' (first | (refine cond_by (F := res) (fun _ => ?_) (fun _ => ?_)) | (refine wayK_by (F := res) (fun _ hb_ => ?_) (fun _ hb_ => ?_) <;> simp only [hb_]) | (refine wayK_byN (F := res) (fun _ hb_ => ?_) (fun _ hb_ => ?_) <;> simp only [hb_]) | (refine wayD_by (F := res) (fun _ hb_ => ?_) (fun _ hb_ => ?_) <;> simp only [hb_]) | (refine wayD_byN (F := res) (fun _ hb_ => ?_) (fun _ hb_ => ?_) <;> simp only [hb_]) | (refine rdK_by (F := res) (fun _ => ?_) (fun _ => ?_)) | (refine effK_by (F := res) (fun _ => ?_) (fun _ => ?_)) | (refine effK_by2 (F := res) (fun _ => ?_) (fun _ => ?_)) | (refine rdD_by (F := res) (fun _ => ?_) (fun _ => ?_)) | (refine effD_by (F := res) (fun _ => ?_) (fun _ => ?_)) | (refine effD_by2 (F := res) (fun _ => ?_) (fun _ => ?_)) | simp -implicitDefEqProofs (disch := first | omega | (simp only [List.length_append, List.length_cons, List.length_nil, List.length_drop, List.length_take]; omega)) only [evs, tys, lors, Nat.reduceAdd, Nat.reduceSub, Nat.reduceMul, Nat.reducePow, Nat.reduceBEq, Nat.reduceLT, Nat.reduceLeDiff, Nat.reduceEqDiff, Int.reduceLT, Int.reduceLE, Int.reduceEq, Int.reduceNe, Int.reduceToNat, Int.reduceAdd, Int.reduceSub, Int.reduceMul, Int.reducePow, Int.reduceDiv, Int.reduceMod, Int.reduceNeg, reduceCtorEq, codeKey, List.contains, List.elem, Ev.load, peek, pack, storeV, fieldAddr, field, cvB, g1, decide_true])
    all_goals first | exact res_eq | trace_state
  · have nb1 : ¬ gp (unpack by_) p 1 = 0 := by omega
    rw [if_neg nb1]
    rw [b1] at g1
    have g2 := G (p + 1) 1 (by decide) (by decide) (by omega) ((p + 1 : Nat) : Int) 1 ((p + 2 : Nat) : Int) rfl rfl rfl (sh || decide (8 * by_.length < p + 1)) ⟨fb, fl, ft⟩
    rw [sh_le (by omega)] at g2
    have n10 : ¬ (1 : Int) = 0 := by decide
    have n01 : ¬ (0 : Int) = 1 := by decide
    rcases bit01 _ L01 (p + 1) with b2 | b2
    · have nb2 : ¬ gp (unpack by_) (p + 1) 1 = 1 := by omega
      rw [if_neg nb2]
      rw [b2] at g2
      by_cases hbad : fb = false ∨ ft < 0
      · rw [if_pos hbad]
        simp only [Bool.or_true]
        rcases hbad with hb | hb
        · subst hb
          rw [call_start lore_ext28 Tryd.func28 rfl lore_okf28 (Nat.le_of_ble_eq_true rfl)]
          repeat' (first | (refine cond_by (F := res) (fun _ => ?_) (fun _ => ?_)) | (refine wayK_by (F := res) (fun _ hb_ => ?_) (fun _ hb_ => ?_) <;> simp only [hb_]) | (refine wayK_byN (F := res) (fun _ hb_ => ?_) (fun _ hb_ => ?_) <;> simp only [hb_]) | (refine wayD_by (F := res) (fun _ hb_ => ?_) (fun _ hb_ => ?_) <;> simp only [hb_]) | (refine wayD_byN (F := res) (fun _ hb_ => ?_) (fun _ hb_ => ?_) <;> simp only [hb_]) | (refine rdK_by (F := res) (fun _ => ?_) (fun _ => ?_)) | (refine effK_by (F := res) (fun _ => ?_) (fun _ => ?_)) | (refine effK_by2 (F := res) (fun _ => ?_) (fun _ => ?_)) | (refine rdD_by (F := res) (fun _ => ?_) (fun _ => ?_)) | (refine effD_by (F := res) (fun _ => ?_) (fun _ => ?_)) | (refine effD_by2 (F := res) (fun _ => ?_) (fun _ => ?_)) | simp -implicitDefEqProofs (disch := first | omega | (simp only [List.length_append, List.length_cons, List.length_nil, List.length_drop, List.length_take]; omega)) only [evs, tys, lors, Nat.reduceAdd, Nat.reduceSub, Nat.reduceMul, Nat.reducePow, Nat.reduceBEq, Nat.reduceLT, Nat.reduceLeDiff, Nat.reduceEqDiff, Int.reduceLT, Int.reduceLE, Int.reduceEq, Int.reduceNe, Int.reduceToNat, Int.reduceAdd, Int.reduceSub, Int.reduceMul, Int.reducePow, Int.reduceDiv, Int.reduceMod, Int.reduceNeg, reduceCtorEq, codeKey, List.contains, List.elem, Ev.load, peek, pack, storeV, fieldAddr, field, cvB, g1, g2, rb_h h1, rb_s, decide_true, decide_false])
          all_goals first | exact res_eq | trace_state
        · rw [call_start lore_ext28 Tryd.func28 rfl lore_okf28 (Nat.le_of_ble_eq_true rfl)]
          cases fb
          all_goals repeat' (first | (refine cond_by (F := res) (fun _ => ?_) (fun _ => ?_)) | (refine wayK_by (F := res) (fun _ hb_ => ?_) (fun _ hb_ => ?_) <;> simp only [hb_]) | (refine wayK_byN (F := res) (fun _ hb_ => ?_) (fun _ hb_ => ?_) <;> simp only [hb_]) | (refine wayD_by (F := res) (fun _ hb_ => ?_) (fun _ hb_ => ?_) <;> simp only [hb_]) | (refine wayD_byN (F := res) (fun _ hb_ => ?_) (fun _ hb_ => ?_) <;> simp only [hb_]) | (refine rdK_by (F := res) (fun _ => ?_) (fun _ => ?_)) | (refine effK_by (F := res) (fun _ => ?_) (fun _ => ?_)) | (refine effK_by2 (F := res) (fun _ => ?_) (fun _ => ?_)) | (refine rdD_by (F := res) (fun _ => ?_) (fun _ => ?_)) | (refine effD_by (F := res) (fun _ => ?_) (fun _ => ?_)) | (refine effD_by2 (F := res) (fun _ => ?_) (fun _ => ?_)) | simp -implicitDefEqProofs (disch := first | omega | (simp only [List.length_append, List.length_cons, List.length_nil, List.length_drop, List.length_take]; omega)) only [evs, tys, lors, Nat.reduceAdd, Nat.reduceSub, Nat.reduceMul, Nat.reducePow, Nat.reduceBEq, Nat.reduceLT, Nat.reduceLeDiff, Nat.reduceEqDiff, Int.reduceLT, Int.reduceLE, Int.reduceEq, Int.reduceNe, Int.reduceToNat, Int.reduceAdd, Int.reduceSub, Int.reduceMul, Int.reducePow, Int.reduceDiv, Int.reduceMod, Int.reduceNeg, reduceCtorEq, codeKey, List.contains, List.elem, Ev.load, peek, pack, storeV, fieldAddr, field, cvB, g1, g2, hb, rb_h h1, rb_s, decide_true, decide_false])
          all_goals first | exact res_eq | trace_state
      · rw [if_neg hbad]
        have hfb : fb = true := by cases fb <;> simp_all
        have hft : ¬ ft < 0 := fun hh => hbad (Or.inr hh)
        subst hfb
        obtain ⟨f1, f2, f3⟩ := hf rfl
        simp only at f1 f2 f3
        obtain ⟨tn, rfl⟩ : ∃ n : Nat, ft = n := ⟨ft.toNat, by omega⟩
        have g3 := G (p + 2) (64 - fl - tn) (by omega) (by omega) (by omega) ((p + 2 : Nat) : Int) (64 - (fl : Int) - (tn : Int)) ((p + 2 + (64 - fl - tn) : Nat) : Int) rfl (by omega) rfl (sh || decide (8 * by_.length < p + 2)) ⟨true, fl, tn⟩
        rw [sh_le (by omega)] at g3
        obtain ⟨x0, x1⟩ := gp_lt L01 (p + 2) (64 - fl - tn)
        have hxb := shl_fits (t := tn) (l := fl) (by omega) x0 x1
        simp only [Int.toNat_natCast, Bool.or_false]
        generalize gp (unpack by_) (p + 2) (64 - fl - tn) = x at *
        rw [call_start lore_ext28 Tryd.func28 rfl lore_okf28 (Nat.le_of_ble_eq_true rfl)]
        repeat' (first | (refine cond_by (F := res) (fun _ => ?_) (fun _ => ?_)) | (refine wayK_by (F := res) (fun _ hb_ => ?_) (fun _ hb_ => ?_) <;> simp only [hb_]) | (refine wayK_byN (F := res) (fun _ hb_ => ?_) (fun _ hb_ => ?_) <;> simp only [hb_]) | (refine wayD_by (F := res) (fun _ hb_ => ?_) (fun _ hb_ => ?_) <;> simp only [hb_]) | (refine wayD_byN (F := res) (fun _ hb_ => ?_) (fun _ hb_ => ?_) <;> simp only [hb_]) | (refine rdK_by (F := res) (fun _ => ?_) (fun _ => ?_)) | (refine effK_by (F := res) (fun _ => ?_) (fun _ => ?_)) | (refine effK_by2 (F := res) (fun _ => ?_) (fun _ => ?_)) | (refine rdD_by (F := res) (fun _ => ?_) (fun _ => ?_)) | (refine effD_by (F := res) (fun _ => ?_) (fun _ => ?_)) | (refine effD_by2 (F := res) (fun _ => ?_) (fun _ => ?_)) | simp -implicitDefEqProofs (disch := first | omega | (simp only [List.length_append, List.length_cons, List.length_nil, List.length_drop, List.length_take]; omega)) only [evs, tys, lors, Nat.reduceAdd, Nat.reduceSub, Nat.reduceMul, Nat.reducePow, Nat.reduceBEq, Nat.reduceLT, Nat.reduceLeDiff, Nat.reduceEqDiff, Int.reduceLT, Int.reduceLE, Int.reduceEq, Int.reduceNe, Int.reduceToNat, Int.reduceAdd, Int.reduceSub, Int.reduceMul, Int.reducePow, Int.reduceDiv, Int.reduceMod, Int.reduceNeg, reduceCtorEq, codeKey, List.contains, List.elem, Ev.load, peek, pack, storeV, fieldAddr, field, cvB, g1, g2, g3, hft, rb_h h1, rb_s, bits1, decide_true, decide_false])
        all_goals first | exact res_eq | trace_state
    · rw [if_pos b2]
      rw [b2] at g2
      have e5 : (2 : Int) ^ 5 = 32 := by decide
      have e6 : (2 : Int) ^ 6 = 64 := by decide
      have hp7 : p + 2 + 5 = p + 7 := by omega
      have hp13 : p + 7 + 6 = p + 13 := by omega
      have g3 := G (p + 2) 5 (by decide) (by decide) (by omega) ((p + 2 : Nat) : Int) 5 ((p + 7 : Nat) : Int) rfl rfl rfl (sh || decide (8 * by_.length < p + 2)) ⟨fb, fl, ft⟩
      rw [sh_le (by omega), hp7] at g3
      obtain ⟨l0, l1⟩ := gp_lt L01 (p + 2) 5
      rw [e5] at l1
      obtain ⟨ln, hln⟩ : ∃ n : Nat, gp (unpack by_) (p + 2) 5 = n := ⟨(gp (unpack by_) (p + 2) 5).toNat, by omega⟩
      rw [hln] at g3 l0 l1
      have g4 := G (p + 7) 6 (by decide) (by decide) (by omega) ((p + 7 : Nat) : Int) 6 ((p + 13 : Nat) : Int) rfl rfl rfl (sh || decide (8 * by_.length < p + 7)) ⟨true, ln, ft⟩
      rw [sh_le (by omega), hp13] at g4
      obtain ⟨m0, m1⟩ := gp_lt L01 (p + 7) 6
      rw [e6] at m1
      simp only [hln, Int.toNat_natCast]
      obtain ⟨nn, hnn, hnn1, hnn2⟩ : ∃ nn : Nat, (if gp (unpack by_) (p + 7) 6 = 0 then (64 : Int) else gp (unpack by_) (p + 7) 6) = (nn : Int) ∧ 1 ≤ nn ∧ nn ≤ 64 := by
        by_cases hz : gp (unpack by_) (p + 7) 6 = 0
        · exact ⟨64, by rw [if_pos hz]; rfl, by decide, by decide⟩
        · exact ⟨(gp (unpack by_) (p + 7) 6).toNat, by rw [if_neg hz]; omega, by omega, by omega⟩
      rw [hnn]
      have hz2 : (gp (unpack by_) (p + 7) 6 = 0 ∧ nn = 64) ∨ (¬ gp (unpack by_) (p + 7) 6 = 0 ∧ gp (unpack by_) (p + 7) 6 = nn) := by
        by_cases hz : gp (unpack by_) (p + 7) 6 = 0
        · rw [if_pos hz] at hnn
          exact Or.inl ⟨hz, by omega⟩
        · rw [if_neg hz] at hnn
          exact Or.inr ⟨hz, hnn⟩
      generalize gp (unpack by_) (p + 7) 6 = n6 at *
      by_cases ht : (64 : Int) - (ln : Int) - (nn : Int) < 0
      · rw [if_pos ht]
        simp only [Bool.or_true]
        rw [call_start lore_ext28 Tryd.func28 rfl lore_okf28 (Nat.le_of_ble_eq_true rfl)]
        rcases hz2 with ⟨hz, rfl⟩ | ⟨hz, hz3⟩
        · subst hz
          have e64 : ((64 : Nat) : Int) = 64 := rfl
          rw [e64] at ht ⊢
          repeat' (first | (refine cond_by (F := res) (fun _ => ?_) (fun _ => ?_)) | (refine wayK_by (F := res) (fun _ hb_ => ?_) (fun _ hb_ => ?_) <;> simp only [hb_]) | (refine wayK_byN (F := res) (fun _ hb_ => ?_) (fun _ hb_ => ?_) <;> simp only [hb_]) | (refine wayD_by (F := res) (fun _ hb_ => ?_) (fun _ hb_ => ?_) <;> simp only [hb_]) | (refine wayD_byN (F := res) (fun _ hb_ => ?_) (fun _ hb_ => ?_) <;> simp only [hb_]) | (refine rdK_by (F := res) (fun _ => ?_) (fun _ => ?_)) | (refine effK_by (F := res) (fun _ => ?_) (fun _ => ?_)) | (refine effK_by2 (F := res) (fun _ => ?_) (fun _ => ?_)) | (refine rdD_by (F := res) (fun _ => ?_) (fun _ => ?_)) | (refine effD_by (F := res) (fun _ => ?_) (fun _ => ?_)) | (refine effD_by2 (F := res) (fun _ => ?_) (fun _ => ?_)) | simp -implicitDefEqProofs (disch := first | omega | (simp only [List.length_append, List.length_cons, List.length_nil, List.length_drop, List.length_take]; omega)) only [evs, tys, lors, Nat.reduceAdd, Nat.reduceSub, Nat.reduceMul, Nat.reducePow, Nat.reduceBEq, Nat.reduceLT, Nat.reduceLeDiff, Nat.reduceEqDiff, Int.reduceLT, Int.reduceLE, Int.reduceEq, Int.reduceNe, Int.reduceToNat, Int.reduceAdd, Int.reduceSub, Int.reduceMul, Int.reducePow, Int.reduceDiv, Int.reduceMod, Int.reduceNeg, reduceCtorEq, codeKey, List.contains, List.elem, Ev.load, peek, pack, storeV, fieldAddr, field, cvB, g1, g2, g3, g4, ht, rb_h h1, rb_s, decide_true, decide_false])
          all_goals first | exact res_eq | trace_state
        · rw [hz3] at g4 hz
          repeat' (first | (refine cond_by (F := res) (fun _ => ?_) (fun _ => ?_)) | (refine wayK_by (F := res) (fun _ hb_ => ?_) (fun _ hb_ => ?_) <;> simp only [hb_]) | (refine wayK_byN (F := res) (fun _ hb_ => ?_) (fun _ hb_ => ?_) <;> simp only [hb_]) | (refine wayD_by (F := res) (fun _ hb_ => ?_) (fun _ hb_ => ?_) <;> simp only [hb_]) | (refine wayD_byN (F := res) (fun _ hb_ => ?_) (fun _ hb_ => ?_) <;> simp only [hb_]) | (refine rdK_by (F := res) (fun _ => ?_) (fun _ => ?_)) | (refine effK_by (F := res) (fun _ => ?_) (fun _ => ?_)) | (refine effK_by2 (F := res) (fun _ => ?_) (fun _ => ?_)) | (refine rdD_by (F := res) (fun _ => ?_) (fun _ => ?_)) | (refine effD_by (F := res) (fun _ => ?_) (fun _ => ?_)) | (refine effD_by2 (F := res) (fun _ => ?_) (fun _ => ?_)) | simp -implicitDefEqProofs (disch := first | omega | (simp only [List.length_append, List.length_cons, List.length_nil, List.length_drop, List.length_take]; omega)) only [evs, tys, lors, Nat.reduceAdd, Nat.reduceSub, Nat.reduceMul, Nat.reducePow, Nat.reduceBEq, Nat.reduceLT, Nat.reduceLeDiff, Nat.reduceEqDiff, Int.reduceLT, Int.reduceLE, Int.reduceEq, Int.reduceNe, Int.reduceToNat, Int.reduceAdd, Int.reduceSub, Int.reduceMul, Int.reducePow, Int.reduceDiv, Int.reduceMod, Int.reduceNeg, reduceCtorEq, codeKey, List.contains, List.elem, Ev.load, peek, pack, storeV, fieldAddr, field, cvB, g1, g2, g3, g4, hz, ht, rb_h h1, rb_s, decide_true, decide_false])
          all_goals first | exact res_eq | trace_state
      · rw [if_neg ht]
        obtain ⟨tn, htn⟩ : ∃ n : Nat, (64 : Int) - (ln : Int) - (nn : Int) = n := ⟨((64 : Int) - (ln : Int) - (nn : Int)).toNat, by omega⟩
        have g5 := G (p + 13) nn (by omega) (by omega) (by omega) ((p + 13 : Nat) : Int) (64 - (ln : Int) - (tn : Int)) ((p + 13 + nn : Nat) : Int) rfl (by omega) rfl (sh || decide (8 * by_.length < p + 13)) ⟨true, ln, tn⟩
        rw [sh_le (by omega)] at g5
        obtain ⟨x0, x1⟩ := gp_lt L01 (p + 13) nn
        have hxb := shl_fits (t := tn) (l := ln) (by omega) x0 x1
        have ht0 : ¬ (tn : Int) < 0 := by omega
        rw [htn]
        simp only [Int.toNat_natCast, Bool.or_false]
        generalize gp (unpack by_) (p + 13) nn = x at *
        rw [call_start lore_ext28 Tryd.func28 rfl lore_okf28 (Nat.le_of_ble_eq_true rfl)]
        rcases hz2 with ⟨hz, rfl⟩ | ⟨hz, hz3⟩
        · subst hz
          have e64 : ((64 : Nat) : Int) = 64 := rfl
          rw [e64] at htn
          repeat' (first | (refine cond_by (F := res) (fun _ => ?_) (fun _ => ?_)) | (refine wayK_by (F := res) (fun _ hb_ => ?_) (fun _ hb_ => ?_) <;> simp only [hb_]) | (refine wayK_byN (F := res) (fun _ hb_ => ?_) (fun _ hb_ => ?_) <;> simp only [hb_]) | (refine wayD_by (F := res) (fun _ hb_ => ?_) (fun _ hb_ => ?_) <;> simp only [hb_]) | (refine wayD_byN (F := res) (fun _ hb_ => ?_) (fun _ hb_ => ?_) <;> simp only [hb_]) | (refine rdK_by (F := res) (fun _ => ?_) (fun _ => ?_)) | (refine effK_by (F := res) (fun _ => ?_) (fun _ => ?_)) | (refine effK_by2 (F := res) (fun _ => ?_) (fun _ => ?_)) | (refine rdD_by (F := res) (fun _ => ?_) (fun _ => ?_)) | (refine effD_by (F := res) (fun _ => ?_) (fun _ => ?_)) | (refine effD_by2 (F := res) (fun _ => ?_) (fun _ => ?_)) | simp -implicitDefEqProofs (disch := first | omega | (simp only [List.length_append, List.length_cons, List.length_nil, List.length_drop, List.length_take]; omega)) only [evs, tys, lors, Nat.reduceAdd, Nat.reduceSub, Nat.reduceMul, Nat.reducePow, Nat.reduceBEq, Nat.reduceLT, Nat.reduceLeDiff, Nat.reduceEqDiff, Int.reduceLT, Int.reduceLE, Int.reduceEq, Int.reduceNe, Int.reduceToNat, Int.reduceAdd, Int.reduceSub, Int.reduceMul, Int.reducePow, Int.reduceDiv, Int.reduceMod, Int.reduceNeg, reduceCtorEq, codeKey, List.contains, List.elem, Ev.load, peek, pack, storeV, fieldAddr, field, cvB, g1, g2, g3, g4, g5, htn, ht0, rb_h h1, rb_s, bits1, decide_true, decide_false])
          all_goals first | exact res_eq | trace_state
        · rw [hz3] at g4 hz
          repeat' (first | (refine cond_by (F := res) (fun _ => ?_) (fun _ => ?_)) | (refine wayK_by (F := res) (fun _ hb_ => ?_) (fun _ hb_ => ?_) <;> simp only [hb_]) | (refine wayK_byN (F := res) (fun _ hb_ => ?_) (fun _ hb_ => ?_) <;> simp only [hb_]) | (refine wayD_by (F := res) (fun _ hb_ => ?_) (fun _ hb_ => ?_) <;> simp only [hb_]) | (refine wayD_byN (F := res) (fun _ hb_ => ?_) (fun _ hb_ => ?_) <;> simp only [hb_]) | (refine rdK_by (F := res) (fun _ => ?_) (fun _ => ?_)) | (refine effK_by (F := res) (fun _ => ?_) (fun _ => ?_)) | (refine effK_by2 (F := res) (fun _ => ?_) (fun _ => ?_)) | (refine rdD_by (F := res) (fun _ => ?_) (fun _ => ?_)) | (refine effD_by (F := res) (fun _ => ?_) (fun _ => ?_)) | (refine effD_by2 (F := res) (fun _ => ?_) (fun _ => ?_)) | simp -implicitDefEqProofs (disch := first | omega | (simp only [List.length_append, List.length_cons, List.length_nil, List.length_drop, List.length_take]; omega)) only [evs, tys, lors, Nat.reduceAdd, Nat.reduceSub, Nat.reduceMul, Nat.reducePow, Nat.reduceBEq, Nat.reduceLT, Nat.reduceLeDiff, Nat.reduceEqDiff, Int.reduceLT, Int.reduceLE, Int.reduceEq, Int.reduceNe, Int.reduceToNat, Int.reduceAdd, Int.reduceSub, Int.reduceMul, Int.reducePow, Int.reduceDiv, Int.reduceMod, Int.reduceNeg, reduceCtorEq, codeKey, List.contains, List.elem, Ev.load, peek, pack, storeV, fieldAddr, field, cvB, g1, g2, g3, g4, g5, hz, htn, ht0, rb_h h1, rb_s, bits1, decide_true, decide_false])
          all_goals first | exact res_eq | trace_state
end Go.Proofs.YtmjdcoacmmmhnaaDoor
