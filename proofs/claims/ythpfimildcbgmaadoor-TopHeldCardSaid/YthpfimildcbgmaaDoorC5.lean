/-
sem: Try, Leave, Inside.
-/
import Derived.Test.YthpfimildcbgmaaDoorC4
namespace Go.Proofs.YthpfimildcbgmaaDoor
open Go Ev
set_option linter.all false
set_option maxHeartbeats 4000000
set_option maxRecDepth 5000
attribute [local irreducible] codeL condL loopL callL callV evOps evDraw rdK effK wayK oneK wayD oneD rdD effD chks chkB res

section st
variable {H : Heap} {r hc hs hp : Nat} {D G P : Int} {nx : V} {saw now : Int} {dn : Bool} {an why : Int} (h : SOk H r hc hs hp D G P nx saw now dn an why)
include h

theorem second_cv {b c T : Nat} {Y : Box} {E : Heap} (hb : H[b]? = some (iB 0)) (hc' : H[c]? = some (fB T)) (hT : callV (CL lore) T [.ptr hp 0] (H.set hp (pendB hs nx saw D dn an why) ++ [didB 0 0 0 0 false, didB 1 0 D D true, actB 1 0 0 0, didB 1 0 D D true, actB 1 0 0 0, didB 1 0 D D true, didB 1 0 D D true, didB 1 0 D D true, didB 1 0 D D true]) = some (.tup [], H.set hp Y ++ ([didB 0 0 0 0 false, didB 1 0 D D true, actB 1 0 0 0, didB 1 0 D D true, actB 1 0 0 0, didB 1 0 D D true, didB 1 0 D D true, didB 1 0 D D true, didB 1 0 D D true] ++ E))) :
    callV (CL lore) 161 [.ptr hp 0, .ptr b 0, .ptr c 0] H = some (.agg (didC 1 0 D D true), H.set hp Y ++ ([didB 1 0 D D true, didB 1 0 D D true, actB 1 0 0 0, didB 1 0 D D true, actB 1 0 0 0, didB 1 0 D D true, didB 1 0 D D true, didB 1 0 D D true, didB 1 0 D D true] ++ E)) := by
  refine callV_sh rfl ?_
  have hpl := lt_of_get h.p
  have hpg : ∀ (y : Box) (L : Heap), (H.set hp y ++ L)[hp]? = some y := fun y L => by rw [List.getElem?_append_left (by rw [List.length_set]; exact hpl), List.getElem?_set_self hpl]
  have hps : ∀ (y z : Box) (L : Heap), (H.set hp y ++ L).set hp z = H.set hp z ++ L := fun y z L => by rw [List.set_append_left _ _ (by rw [List.length_set]; exact hpl), List.set_set]
  have hPL := fun L => (oldg hpl L).trans h.p
  have hSL := fun L => (oldg (lt_of_get h.s) L).trans h.s
  have hAL := fun L => (oldg (lt_of_get hb) L).trans hb
  have hbc : b ≠ hp ∧ c ≠ hp := by
    constructor
    · intro e; rw [e, h.p] at hb; cases hb
    · intro e; rw [e, h.p] at hc'; cases hc'
  have hCL := fun (y : Box) L => (show (H.set hp y ++ L)[c]? = some (fB T) from by rw [List.getElem?_append_left (by rw [List.length_set]; exact lt_of_get hc'), List.getElem?_set_ne (Ne.symm hbc.2), hc'])
  have hact := fun L => act_load (sok_app h L).p (sok_app h L).s (sok_app h L).w (sok_app h L).c rfl (k := 0) (x := D) rfl
  have e0 : ((0 : Nat) : Int) = 0 := rfl
  simp only [e0] at hact
  simp only [List.cons_append, List.nil_append] at hT
  rw [call_start lore_ext161 Tryd.func161 rfl lore_okf161 (Nat.le_of_ble_eq_true rfl)]
  repeat' (first | (refine cond_by (F := res) (fun _ => ?_) (fun _ => ?_)) | (refine wayK_by (F := res) (fun _ hb_ => ?_) (fun _ hb_ => ?_) <;> simp only [hb_]) | (refine wayK_byN (F := res) (fun _ hb_ => ?_) (fun _ hb_ => ?_) <;> simp only [hb_]) | (refine wayD_by (F := res) (fun _ hb_ => ?_) (fun _ hb_ => ?_) <;> simp only [hb_]) | (refine wayD_byN (F := res) (fun _ hb_ => ?_) (fun _ hb_ => ?_) <;> simp only [hb_]) | (refine rdK_by (F := res) (fun _ => ?_) (fun _ => ?_)) | (refine effK_by (F := res) (fun _ => ?_) (fun _ => ?_)) | (refine effK_by2 (F := res) (fun _ => ?_) (fun _ => ?_)) | (refine rdD_by (F := res) (fun _ => ?_) (fun _ => ?_)) | (refine effD_by (F := res) (fun _ => ?_) (fun _ => ?_)) | (refine effD_by2 (F := res) (fun _ => ?_) (fun _ => ?_)) | simp -implicitDefEqProofs (disch := first | omega | (simp only [List.length_append, List.length_cons, List.length_nil, List.length_drop, List.length_take]; omega)) only [evs, tys, lors, Nat.reduceAdd, Nat.reduceSub, Nat.reduceMul, Nat.reducePow, Nat.reduceBEq, Nat.reduceLT, Nat.reduceLeDiff, Nat.reduceEqDiff, Int.reduceLT, Int.reduceLE, Int.reduceEq, Int.reduceNe, Int.reduceToNat, Int.reduceAdd, Int.reduceSub, Int.reduceMul, Int.reducePow, Int.reduceDiv, Int.reduceMod, Int.reduceNeg, reduceCtorEq, codeKey, List.contains, List.elem, Ev.load, peek, pack, storeV, fieldAddr, field, cvB, hAL, hact, hCL, hT, olds hpl, pts, hPL, hSL, hpg, hps, get_new, get_new0, set_new, set_new0, gset, gset0, sset, sset0, List.append_assoc, List.cons_append, List.nil_append, List.length_append, List.length_cons, List.length_nil, Nat.add_assoc])
  all_goals first | exact res_eq | trace_state

theorem third_cv {q1 q2 q3 q4 A R k : Nat} {x v : Int} (hq1 : H[q1]? = some (iB (k : Nat))) (hq2 : H[q2]? = some ⟨[.int .u64 x], 0, false, false⟩) (hq3 : H[q3]? = some (fB A)) (hq4 : H[q4]? = some (fB R)) (hk : [D, G][k]? = some x) (hx : 0 ≤ x ∧ x ≤ 1000000)
    (hR : ∀ H', SOk H' r hc hs hp (([D, G].set k (x + 1)).getD 0 0) (([D, G].set k (x + 1)).getD 1 0) P (.fn A [] []) saw now dn an why → callV (CL lore) R [.ptr hp 0] H' = some (.int .u64 v, H')) (hset : [D, G].set k (x + 1) = [([D, G].set k (x + 1)).getD 0 0, ([D, G].set k (x + 1)).getD 1 0]) :
    callV (CL lore) 163 [.ptr hp 0, .ptr q1 0, .ptr q2 0, .ptr q3 0, .ptr q4 0] H = some (.agg (didC 5 k x (x + 1) true), (H.set r (WB ([D, G].set k (x + 1)))).set hp (pendB hs (.fn A [] []) saw now true v 0) ++ [didB 5 k x (x + 1) true, didB 5 k x (x + 1) true, actB 5 k x (x + 1), didB 5 k x (x + 1) true, actB 5 k x (x + 1), didB 5 k x (x + 1) true, didB 5 k x (x + 1) true, didB 5 k x (x + 1) true, didB 5 k x (x + 1) true]) := by
  refine callV_sh rfl ?_
  have hpl := lt_of_get h.p
  have hpg : ∀ (y : Box) (L : Heap), (H.set hp y ++ L)[hp]? = some y := fun y L => by rw [List.getElem?_append_left (by rw [List.length_set]; exact hpl), List.getElem?_set_self hpl]
  have hps : ∀ (y z : Box) (L : Heap), (H.set hp y ++ L).set hp z = H.set hp z ++ L := fun y z L => by rw [List.set_append_left _ _ (by rw [List.length_set]; exact hpl), List.set_set]
  have hPL := fun L => (oldg hpl L).trans h.p
  have hSL := fun L => (oldg (lt_of_get h.s) L).trans h.s
  have hrl := lt_of_get h.w
  have hq1L := fun L => (oldg (lt_of_get hq1) L).trans hq1
  have hq2L := fun L => (oldg (lt_of_get hq2) L).trans hq2
  have hord := h.o
  have hne : q3 ≠ hp ∧ q4 ≠ hp ∧ q3 ≠ r ∧ q4 ≠ r := by
    refine ⟨?_, ?_, ?_, ?_⟩
    · intro e; rw [e, h.p] at hq3; cases hq3
    · intro e; rw [e, h.p] at hq4; cases hq4
    · intro e; rw [e, h.w] at hq3; cases hq3
    · intro e; rw [e, h.w] at hq4; cases hq4
  have hrp : r ≠ hp := by omega
  have hG1 : ∀ (y : Box) (L : Heap), (H.set r y ++ L)[hp]? = some (pendB hs nx saw now dn an why) := fun y L => by rw [List.getElem?_append_left (by rw [List.length_set]; exact hpl), List.getElem?_set_ne hrp, h.p]
  have hG2 : ∀ (y z : Box) (L : Heap), (H.set r y ++ L).set hp z = (H.set r y).set hp z ++ L := fun y z L => by rw [List.set_append_left _ _ (by rw [List.length_set]; exact hpl)]
  have hG3 : ∀ (y z : Box) (L : Heap), ((H.set r y).set hp z ++ L)[hp]? = some z := fun y z L => by rw [List.getElem?_append_left (by rw [List.length_set, List.length_set]; exact hpl), List.getElem?_set_self (by rw [List.length_set]; exact hpl)]
  have hG4 : ∀ (y z z' : Box) (L : Heap), ((H.set r y).set hp z ++ L).set hp z' = (H.set r y).set hp z' ++ L := fun y z z' L => by rw [List.set_append_left _ _ (by rw [List.length_set, List.length_set]; exact hpl), List.set_set]
  have hG5 : ∀ (y : Box) (L : Heap), (H.set r y ++ L)[q3]? = some (fB A) := fun y L => by rw [List.getElem?_append_left (by rw [List.length_set]; exact lt_of_get hq3), List.getElem?_set_ne (Ne.symm hne.2.2.1), hq3]
  have hG6 : ∀ (y z : Box) (L : Heap), ((H.set r y).set hp z ++ L)[q4]? = some (fB R) := fun y z L => by rw [List.getElem?_append_left (by rw [List.length_set, List.length_set]; exact lt_of_get hq4), List.getElem?_set_ne (Ne.symm hne.2.1), List.getElem?_set_ne (Ne.symm hne.2.2.2), hq4]
  have hG7 : ∀ (y z : Box) (L : Heap) (j : Nat), ((H.set r y).set hp z ++ L)[H.length + j]? = L[j]? := fun y z L j => by
    have := gset (H := H.set r y) (r := hp) (b := z) L j
    rwa [List.length_set] at this
  have hG8 : ∀ (y z : Box) (L : Heap) (x : Box), ((H.set r y).set hp z ++ L).set H.length x = (H.set r y).set hp z ++ L.set 0 x := fun y z L x => by
    have := sset0 (H := H.set r y) (r := hp) (b := z) L x
    rwa [List.length_set] at this
  have hG9 : ∀ (y z : Box) (L : Heap), ((H.set r y).set hp z ++ L)[H.length]? = L[0]? := fun y z L => hG7 y z L 0
  have hact := fun L => (act_cas (sok_app h L).p (sok_app h L).s (sok_app h L).w (sok_app h L).c rfl hk x (x + 1)).trans (by rw [if_pos rfl, olds hrl])
  have hs1 : ∀ L, SOk ((H.set r (WB ([D, G].set k (x + 1)))).set hp (pendB hs (.fn A [] []) saw now dn an why) ++ L) r hc hs hp (([D, G].set k (x + 1)).getD 0 0) (([D, G].set k (x + 1)).getD 1 0) P (.fn A [] []) saw now dn an why := fun L => by
    rw [hset]
    exact sok_app (sok_setp (sok_setw h _ _) (.fn A [] []) saw now dn an why) L
  have hR' := fun L => hR _ (hs1 L)
  have hE' := fun L => end_cv (hs1 L) v 0
  clear hR hset
  generalize [D, G].set k (x + 1) = W' at *
  rw [call_start lore_ext163 Tryd.func163 rfl lore_okf163 (Nat.le_of_ble_eq_true rfl)]
  repeat' (first | (refine cond_by (F := res) (fun _ => ?_) (fun _ => ?_)) | (refine wayK_by (F := res) (fun _ hb_ => ?_) (fun _ hb_ => ?_) <;> simp only [hb_]) | (refine wayK_byN (F := res) (fun _ hb_ => ?_) (fun _ hb_ => ?_) <;> simp only [hb_]) | (refine wayD_by (F := res) (fun _ hb_ => ?_) (fun _ hb_ => ?_) <;> simp only [hb_]) | (refine wayD_byN (F := res) (fun _ hb_ => ?_) (fun _ hb_ => ?_) <;> simp only [hb_]) | (refine rdK_by (F := res) (fun _ => ?_) (fun _ => ?_)) | (refine effK_by (F := res) (fun _ => ?_) (fun _ => ?_)) | (refine effK_by2 (F := res) (fun _ => ?_) (fun _ => ?_)) | (refine rdD_by (F := res) (fun _ => ?_) (fun _ => ?_)) | (refine effD_by (F := res) (fun _ => ?_) (fun _ => ?_)) | (refine effD_by2 (F := res) (fun _ => ?_) (fun _ => ?_)) | simp -implicitDefEqProofs (disch := first | omega | (simp only [List.length_append, List.length_cons, List.length_nil, List.length_drop, List.length_take]; omega)) only [evs, tys, lors, Nat.reduceAdd, Nat.reduceSub, Nat.reduceMul, Nat.reducePow, Nat.reduceBEq, Nat.reduceLT, Nat.reduceLeDiff, Nat.reduceEqDiff, Int.reduceLT, Int.reduceLE, Int.reduceEq, Int.reduceNe, Int.reduceToNat, Int.reduceAdd, Int.reduceSub, Int.reduceMul, Int.reducePow, Int.reduceDiv, Int.reduceMod, Int.reduceNeg, reduceCtorEq, codeKey, List.contains, List.elem, Ev.load, peek, pack, storeV, fieldAddr, field, cvB, hq1L, hq2L, hact, hR', hE', hG1, hG2, hG3, hG4, hG5, hG6, hG7, hG8, hG9, pts, hPL, hSL, hpg, hps, get_new, get_new0, set_new, set_new0, gset, gset0, sset, sset0, List.append_assoc, List.cons_append, List.nil_append, List.length_append, List.length_cons, List.length_nil, Nat.add_assoc])
  all_goals first | exact res_eq | trace_state

theorem step_cv {F : Nat} {caps : List V} (hnx : nx = .fn F [] caps) (hdn : dn = false) {Hx L : Heap} {dk dc ds dp : Int} {ok : Bool} {nx' : V} {saw' now' : Int} {dn' : Bool} {an' why' : Int} (hcall : callV (CL lore) F (.ptr hp 0 :: caps) (H ++ [didB 0 0 0 0 false]) = some (.agg (didC dk dc ds dp ok), Hx ++ (didB 0 0 0 0 false :: L))) (hlen : Hx.length = H.length) (hpx : Hx[hp]? = some (pendB hs nx' saw' now' dn' an' why')) :
    callV (CL lore) 90 [.ptr hp 0] H = some (.tup [.agg (didC dk dc ds dp ok), .wild], Hx ++ (didB dk dc ds dp ok :: L)) := by
  refine callV_sh rfl ?_
  subst hnx hdn
  have hpl := lt_of_get h.p
  have hpg : ∀ (y : Box) (L : Heap), (H.set hp y ++ L)[hp]? = some y := fun y L => by rw [List.getElem?_append_left (by rw [List.length_set]; exact hpl), List.getElem?_set_self hpl]
  have hps : ∀ (y z : Box) (L : Heap), (H.set hp y ++ L).set hp z = H.set hp z ++ L := fun y z L => by rw [List.set_append_left _ _ (by rw [List.length_set]; exact hpl), List.set_set]
  have hPL := fun L => (oldg hpl L).trans h.p
  have hSL := fun L => (oldg (lt_of_get h.s) L).trans h.s
  have hxp : ∀ L, (Hx ++ L)[hp]? = some (pendB hs nx' saw' now' dn' an' why') := fun L => by rw [List.getElem?_append_left (lt_of_get hpx), hpx]
  have hx0 : ∀ L : Heap, (Hx ++ L)[H.length]? = L[0]? := fun L => by rw [← hlen]; exact get_new0 Hx L
  have hx1 : ∀ (L : Heap) (y : Box), (Hx ++ L).set H.length y = Hx ++ L.set 0 y := fun L y => by rw [← hlen]; exact set_new0 Hx L y
  rw [call_start lore_ext90 Tryd.func90 rfl lore_okf90 (Nat.le_of_ble_eq_true rfl)]
  repeat' (first | (refine cond_by (F := res) (fun _ => ?_) (fun _ => ?_)) | (refine wayK_by (F := res) (fun _ hb_ => ?_) (fun _ hb_ => ?_) <;> simp only [hb_]) | (refine wayK_byN (F := res) (fun _ hb_ => ?_) (fun _ hb_ => ?_) <;> simp only [hb_]) | (refine wayD_by (F := res) (fun _ hb_ => ?_) (fun _ hb_ => ?_) <;> simp only [hb_]) | (refine wayD_byN (F := res) (fun _ hb_ => ?_) (fun _ hb_ => ?_) <;> simp only [hb_]) | (refine rdK_by (F := res) (fun _ => ?_) (fun _ => ?_)) | (refine effK_by (F := res) (fun _ => ?_) (fun _ => ?_)) | (refine effK_by2 (F := res) (fun _ => ?_) (fun _ => ?_)) | (refine rdD_by (F := res) (fun _ => ?_) (fun _ => ?_)) | (refine effD_by (F := res) (fun _ => ?_) (fun _ => ?_)) | (refine effD_by2 (F := res) (fun _ => ?_) (fun _ => ?_)) | simp -implicitDefEqProofs (disch := first | omega | (simp only [List.length_append, List.length_cons, List.length_nil, List.length_drop, List.length_take]; omega)) only [evs, tys, lors, Nat.reduceAdd, Nat.reduceSub, Nat.reduceMul, Nat.reducePow, Nat.reduceBEq, Nat.reduceLT, Nat.reduceLeDiff, Nat.reduceEqDiff, Int.reduceLT, Int.reduceLE, Int.reduceEq, Int.reduceNe, Int.reduceToNat, Int.reduceAdd, Int.reduceSub, Int.reduceMul, Int.reducePow, Int.reduceDiv, Int.reduceMod, Int.reduceNeg, reduceCtorEq, codeKey, List.contains, List.elem, Ev.load, peek, pack, storeV, fieldAddr, field, cvB, hcall, hxp, hx0, hx1, pts, hPL, hSL, hpg, hps, get_new, get_new0, set_new, set_new0, gset, gset0, sset, sset0, List.append_assoc, List.cons_append, List.nil_append, List.length_append, List.length_cons, List.length_nil, Nat.add_assoc])
  all_goals repeat (rw [chkB_bit (by kernel_rfl)])
  all_goals first | exact res_eq | trace_state

theorem doneP_cv : callV (CL lore) 89 [.ptr hp 0] H = some (.bool dn, H) := by
  refine callV_sh rfl ?_
  have hP := h.p
  rw [call_start lore_ext89 Tryd.func89 rfl lore_okf89 (Nat.le_of_ble_eq_true rfl)]
  repeat' (first | (refine cond_by (F := res) (fun _ => ?_) (fun _ => ?_)) | (refine wayK_by (F := res) (fun _ hb_ => ?_) (fun _ hb_ => ?_) <;> simp only [hb_]) | (refine wayK_byN (F := res) (fun _ hb_ => ?_) (fun _ hb_ => ?_) <;> simp only [hb_]) | (refine wayD_by (F := res) (fun _ hb_ => ?_) (fun _ hb_ => ?_) <;> simp only [hb_]) | (refine wayD_byN (F := res) (fun _ hb_ => ?_) (fun _ hb_ => ?_) <;> simp only [hb_]) | (refine rdK_by (F := res) (fun _ => ?_) (fun _ => ?_)) | (refine effK_by (F := res) (fun _ => ?_) (fun _ => ?_)) | (refine effK_by2 (F := res) (fun _ => ?_) (fun _ => ?_)) | (refine rdD_by (F := res) (fun _ => ?_) (fun _ => ?_)) | (refine effD_by (F := res) (fun _ => ?_) (fun _ => ?_)) | (refine effD_by2 (F := res) (fun _ => ?_) (fun _ => ?_)) | simp -implicitDefEqProofs (disch := first | omega | (simp only [List.length_append, List.length_cons, List.length_nil, List.length_drop, List.length_take]; omega)) only [evs, tys, lors, Nat.reduceAdd, Nat.reduceSub, Nat.reduceMul, Nat.reducePow, Nat.reduceBEq, Nat.reduceLT, Nat.reduceLeDiff, Nat.reduceEqDiff, Int.reduceLT, Int.reduceLE, Int.reduceEq, Int.reduceNe, Int.reduceToNat, Int.reduceAdd, Int.reduceSub, Int.reduceMul, Int.reducePow, Int.reduceDiv, Int.reduceMod, Int.reduceNeg, reduceCtorEq, codeKey, List.contains, List.elem, Ev.load, peek, pack, storeV, fieldAddr, field, cvB, pts, hP])
  all_goals first | exact res_eq | trace_state
theorem ansP_cv : callV (CL lore) 91 [.ptr hp 0] H = some (.tup [.int .u64 an, .int .i64 why], H) := by
  refine callV_sh rfl ?_
  have hP := h.p
  rw [call_start lore_ext91 Tryd.func91 rfl lore_okf91 (Nat.le_of_ble_eq_true rfl)]
  repeat' (first | (refine cond_by (F := res) (fun _ => ?_) (fun _ => ?_)) | (refine wayK_by (F := res) (fun _ hb_ => ?_) (fun _ hb_ => ?_) <;> simp only [hb_]) | (refine wayK_byN (F := res) (fun _ hb_ => ?_) (fun _ hb_ => ?_) <;> simp only [hb_]) | (refine wayD_by (F := res) (fun _ hb_ => ?_) (fun _ hb_ => ?_) <;> simp only [hb_]) | (refine wayD_byN (F := res) (fun _ hb_ => ?_) (fun _ hb_ => ?_) <;> simp only [hb_]) | (refine rdK_by (F := res) (fun _ => ?_) (fun _ => ?_)) | (refine effK_by (F := res) (fun _ => ?_) (fun _ => ?_)) | (refine effK_by2 (F := res) (fun _ => ?_) (fun _ => ?_)) | (refine rdD_by (F := res) (fun _ => ?_) (fun _ => ?_)) | (refine effD_by (F := res) (fun _ => ?_) (fun _ => ?_)) | (refine effD_by2 (F := res) (fun _ => ?_) (fun _ => ?_)) | simp -implicitDefEqProofs (disch := first | omega | (simp only [List.length_append, List.length_cons, List.length_nil, List.length_drop, List.length_take]; omega)) only [evs, tys, lors, Nat.reduceAdd, Nat.reduceSub, Nat.reduceMul, Nat.reducePow, Nat.reduceBEq, Nat.reduceLT, Nat.reduceLeDiff, Nat.reduceEqDiff, Int.reduceLT, Int.reduceLE, Int.reduceEq, Int.reduceNe, Int.reduceToNat, Int.reduceAdd, Int.reduceSub, Int.reduceMul, Int.reducePow, Int.reduceDiv, Int.reduceMod, Int.reduceNeg, reduceCtorEq, codeKey, List.contains, List.elem, Ev.load, peek, pack, storeV, fieldAddr, field, cvB, pts, hP])
  all_goals repeat (rw [chkB_bit (by kernel_rfl)])
  repeat' (first | (refine cond_by (F := res) (fun _ => ?_) (fun _ => ?_)) | (refine wayK_by (F := res) (fun _ hb_ => ?_) (fun _ hb_ => ?_) <;> simp only [hb_]) | (refine wayK_byN (F := res) (fun _ hb_ => ?_) (fun _ hb_ => ?_) <;> simp only [hb_]) | (refine wayD_by (F := res) (fun _ hb_ => ?_) (fun _ hb_ => ?_) <;> simp only [hb_]) | (refine wayD_byN (F := res) (fun _ hb_ => ?_) (fun _ hb_ => ?_) <;> simp only [hb_]) | (refine rdK_by (F := res) (fun _ => ?_) (fun _ => ?_)) | (refine effK_by (F := res) (fun _ => ?_) (fun _ => ?_)) | (refine effK_by2 (F := res) (fun _ => ?_) (fun _ => ?_)) | (refine rdD_by (F := res) (fun _ => ?_) (fun _ => ?_)) | (refine effD_by (F := res) (fun _ => ?_) (fun _ => ?_)) | (refine effD_by2 (F := res) (fun _ => ?_) (fun _ => ?_)) | simp -implicitDefEqProofs (disch := first | omega | (simp only [List.length_append, List.length_cons, List.length_nil, List.length_drop, List.length_take]; omega)) only [evs, tys, lors, Nat.reduceAdd, Nat.reduceSub, Nat.reduceMul, Nat.reducePow, Nat.reduceBEq, Nat.reduceLT, Nat.reduceLeDiff, Nat.reduceEqDiff, Int.reduceLT, Int.reduceLE, Int.reduceEq, Int.reduceNe, Int.reduceToNat, Int.reduceAdd, Int.reduceSub, Int.reduceMul, Int.reducePow, Int.reduceDiv, Int.reduceMod, Int.reduceNeg, reduceCtorEq, codeKey, List.contains, List.elem, Ev.load, peek, pack, storeV, fieldAddr, field, cvB, pts, hP])
  all_goals first | exact res_eq | trace_state

end st
end Go.Proofs.YthpfimildcbgmaaDoor
