/-
Atomic words in a row; one action on one of them.
-/
import Derived.Test.YthpfimildcbgmaaDoorLore
import Derived.Test.YthpfimildcbgmaaDoorEvBits
namespace Go.Proofs.YthpfimildcbgmaaDoor
open Go Ev
set_option linter.all false
set_option maxHeartbeats 4000000
set_option maxRecDepth 5000
attribute [local irreducible] codeL condL loopL callL callV evOps evDraw rdK effK wayK oneK wayD oneD rdD effD chks chkB res

def W64 (ws : List Int) : List V := ws.map fun x => .agg [.int .u64 x]
theorem w64_len (ws : List Int) : (W64 ws).length = ws.length := List.length_map ..
theorem w64_get {ws : List Int} {k : Nat} {x : Int} (h : ws[k]? = some x) : (W64 ws)[k]? = some (.agg [.int .u64 x]) := by
  unfold W64
  rw [List.getElem?_map, h]; rfl
theorem w64_set (ws : List Int) (k : Nat) (y : Int) : (W64 ws).set k (.agg [.int .u64 y]) = W64 (ws.set k y) := by
  unfold W64
  rw [← List.map_set]
theorem callV_sh {E : Lore} {f : Nat} {vs : List V} {H : Heap} {r : Res} (hs : E.shared f = true) (h : res (callL E f vs H) = r) : callV (CL E) f vs H = r := by
  unfold callV
  have e : (CL E).shared f = true := hs
  rw [e]
  exact of_res h
theorem chkB_bit {b : Bool} {p : Prop} {k : Res} (h : b = true) : chkB b p k = k := by subst h; unfold chkB; rfl
theorem of_bit {b : Bool} {p : Prop} {k R : Res} (h : b = true) (h2 : res k = R) : res (chkB b p k) = R := by rw [chkB_bit h]; exact h2
theorem of_chk {b : Bool} {p : Prop} {k R : Res} (h : p) (h2 : res k = R) : res (chkB b p k) = R := by rw [eq_true h, chkB_true]; exact h2
abbrev WB (ws : List Int) : Box := ⟨W64 ws, 1, true, false⟩
theorem u64_at {H : Heap} {r n k : Nat} {ws : List Int} {x : Int} (hH : H[r]? = some (WB ws)) (hn : ws.length = n) (hk : ws[k]? = some x) : u64At Tryd.prog 37 H (.eptr r n k 0) = some x := by
  have e := w64_get hk
  have e2 := w64_len ws
  simp only [u64At, Ev.load, sz37, peek, hH, e, e2, hn, V.cells, List.length_cons, List.length_nil, List.drop_zero, List.take_succ_cons, List.take_zero]
  simp [pack, agg37]
theorem u64_st {H : Heap} {r n k : Nat} {ws : List Int} {x y : Int} (hH : H[r]? = some (WB ws)) (hn : ws.length = n) (hk : ws[k]? = some x) : storeV Tryd.prog H 37 (.eptr r n k 0) (.int .u64 y) = some (H.set r (WB (ws.set k y))) := by
  have e := w64_get hk
  have e2 := w64_len ws
  have e3 := w64_set ws k y
  simp [storeV, sz37, hH, e, e2, hn, V.cells, ones, V.one, onElem, lay, e3, plains, V.plain]
section atoms
variable {H : Heap} {r n k : Nat} {ws : List Int} {x : Int} (hH : H[r]? = some (WB ws)) (hn : ws.length = n) (hk : ws[k]? = some x)
include hH hn hk
theorem a_load : callV (CL lore) 111 [.eptr r n k 0] H = some (.int .u64 x, H) := by
  refine callV_sh rfl ?_
  rw [callL_told (k := atomX Tryd.prog 37 .load) rfl]
  simp only [atomX, u64_at hH hn hk]
  exact res_eq
theorem a_store (y : Int) : callV (CL lore) 112 [.eptr r n k 0, .int .u64 y] H = some (.tup [], H.set r (WB (ws.set k y))) := by
  refine callV_sh rfl ?_
  rw [callL_told (k := atomX Tryd.prog 37 .store) rfl]
  simp only [atomX, u64_at hH hn hk, u64_st hH hn hk]
  exact res_eq
theorem a_swap (y : Int) : callV (CL lore) 149 [.eptr r n k 0, .int .u64 y] H = some (.int .u64 x, H.set r (WB (ws.set k y))) := by
  refine callV_sh rfl ?_
  rw [callL_told (k := atomX Tryd.prog 37 .swap) rfl]
  simp only [atomX, u64_at hH hn hk, u64_st hH hn hk]
  exact res_eq
theorem a_add (y : Int) : callV (CL lore) 110 [.eptr r n k 0, .int .u64 y] H = some (.int .u64 (IntKind.u64.wrap (x + y)), H.set r (WB (ws.set k (IntKind.u64.wrap (x + y))))) := by
  refine callV_sh rfl ?_
  rw [callL_told (k := atomX Tryd.prog 37 .add) rfl]
  simp only [atomX, u64_at hH hn hk, u64_st hH hn hk]
  exact res_eq
theorem a_cas (o y : Int) : callV (CL lore) 150 [.eptr r n k 0, .int .u64 o, .int .u64 y] H = some (.bool (decide (x = o)), if x = o then H.set r (WB (ws.set k y)) else H) := by
  refine callV_sh rfl ?_
  rw [callL_told (k := atomX Tryd.prog 37 .cas) rfl]
  simp only [atomX, u64_at hH hn hk, u64_st hH hn hk, Option.bind_some]
  by_cases h : x = o
  · rw [if_pos h, if_pos h, decide_eq_true h]
    exact res_eq
  · rw [if_neg h, if_neg h, decide_eq_false h]
    exact res_eq
theorem m_load : callV (CL lore) 80 [.eptr r n k 0] H = some (.int .u64 x, H) := by
  refine callV_sh rfl ?_
  have h := a_load hH hn hk
  rw [call_start lore_ext80 Tryd.func80 rfl lore_okf80 (Nat.le_of_ble_eq_true rfl)]
  repeat' (first | (refine cond_by (F := res) (fun _ => ?_) (fun _ => ?_)) | (refine wayK_by (F := res) (fun _ hb_ => ?_) (fun _ hb_ => ?_) <;> simp only [hb_]) | (refine wayK_byN (F := res) (fun _ hb_ => ?_) (fun _ hb_ => ?_) <;> simp only [hb_]) | (refine wayD_by (F := res) (fun _ hb_ => ?_) (fun _ hb_ => ?_) <;> simp only [hb_]) | (refine wayD_byN (F := res) (fun _ hb_ => ?_) (fun _ hb_ => ?_) <;> simp only [hb_]) | (refine rdK_by (F := res) (fun _ => ?_) (fun _ => ?_)) | (refine effK_by (F := res) (fun _ => ?_) (fun _ => ?_)) | (refine effK_by2 (F := res) (fun _ => ?_) (fun _ => ?_)) | (refine rdD_by (F := res) (fun _ => ?_) (fun _ => ?_)) | (refine effD_by (F := res) (fun _ => ?_) (fun _ => ?_)) | (refine effD_by2 (F := res) (fun _ => ?_) (fun _ => ?_)) | simp -implicitDefEqProofs (disch := first | omega | (simp only [List.length_append, List.length_cons, List.length_nil, List.length_drop, List.length_take]; omega)) only [evs, tys, lors, Nat.reduceAdd, Nat.reduceSub, Nat.reduceMul, Nat.reducePow, Nat.reduceBEq, Nat.reduceLT, Nat.reduceLeDiff, Nat.reduceEqDiff, Int.reduceLT, Int.reduceLE, Int.reduceEq, Int.reduceNe, Int.reduceToNat, Int.reduceAdd, Int.reduceSub, Int.reduceMul, Int.reducePow, Int.reduceDiv, Int.reduceMod, Int.reduceNeg, reduceCtorEq, codeKey, List.contains, List.elem, Ev.load, peek, pack, storeV, fieldAddr, field, cvB, h])
  all_goals exact res_eq
theorem m_add (y : Int) : callV (CL lore) 79 [.eptr r n k 0, .int .u64 y] H = some (.int .u64 (IntKind.u64.wrap (x + y)), H.set r (WB (ws.set k (IntKind.u64.wrap (x + y))))) := by
  refine callV_sh rfl ?_
  have h := a_add hH hn hk y
  rw [call_start lore_ext79 Tryd.func79 rfl lore_okf79 (Nat.le_of_ble_eq_true rfl)]
  repeat' (first | (refine cond_by (F := res) (fun _ => ?_) (fun _ => ?_)) | (refine wayK_by (F := res) (fun _ hb_ => ?_) (fun _ hb_ => ?_) <;> simp only [hb_]) | (refine wayK_byN (F := res) (fun _ hb_ => ?_) (fun _ hb_ => ?_) <;> simp only [hb_]) | (refine wayD_by (F := res) (fun _ hb_ => ?_) (fun _ hb_ => ?_) <;> simp only [hb_]) | (refine wayD_byN (F := res) (fun _ hb_ => ?_) (fun _ hb_ => ?_) <;> simp only [hb_]) | (refine rdK_by (F := res) (fun _ => ?_) (fun _ => ?_)) | (refine effK_by (F := res) (fun _ => ?_) (fun _ => ?_)) | (refine effK_by2 (F := res) (fun _ => ?_) (fun _ => ?_)) | (refine rdD_by (F := res) (fun _ => ?_) (fun _ => ?_)) | (refine effD_by (F := res) (fun _ => ?_) (fun _ => ?_)) | (refine effD_by2 (F := res) (fun _ => ?_) (fun _ => ?_)) | simp -implicitDefEqProofs (disch := first | omega | (simp only [List.length_append, List.length_cons, List.length_nil, List.length_drop, List.length_take]; omega)) only [evs, tys, lors, Nat.reduceAdd, Nat.reduceSub, Nat.reduceMul, Nat.reducePow, Nat.reduceBEq, Nat.reduceLT, Nat.reduceLeDiff, Nat.reduceEqDiff, Int.reduceLT, Int.reduceLE, Int.reduceEq, Int.reduceNe, Int.reduceToNat, Int.reduceAdd, Int.reduceSub, Int.reduceMul, Int.reducePow, Int.reduceDiv, Int.reduceMod, Int.reduceNeg, reduceCtorEq, codeKey, List.contains, List.elem, Ev.load, peek, pack, storeV, fieldAddr, field, cvB, h])
  all_goals exact res_eq
theorem m_store (y : Int) : callV (CL lore) 81 [.eptr r n k 0, .int .u64 y] H = some (.tup [], H.set r (WB (ws.set k y))) := by
  refine callV_sh rfl ?_
  have h := a_store hH hn hk y
  rw [call_start lore_ext81 Tryd.func81 rfl lore_okf81 (Nat.le_of_ble_eq_true rfl)]
  repeat' (first | (refine cond_by (F := res) (fun _ => ?_) (fun _ => ?_)) | (refine wayK_by (F := res) (fun _ hb_ => ?_) (fun _ hb_ => ?_) <;> simp only [hb_]) | (refine wayK_byN (F := res) (fun _ hb_ => ?_) (fun _ hb_ => ?_) <;> simp only [hb_]) | (refine wayD_by (F := res) (fun _ hb_ => ?_) (fun _ hb_ => ?_) <;> simp only [hb_]) | (refine wayD_byN (F := res) (fun _ hb_ => ?_) (fun _ hb_ => ?_) <;> simp only [hb_]) | (refine rdK_by (F := res) (fun _ => ?_) (fun _ => ?_)) | (refine effK_by (F := res) (fun _ => ?_) (fun _ => ?_)) | (refine effK_by2 (F := res) (fun _ => ?_) (fun _ => ?_)) | (refine rdD_by (F := res) (fun _ => ?_) (fun _ => ?_)) | (refine effD_by (F := res) (fun _ => ?_) (fun _ => ?_)) | (refine effD_by2 (F := res) (fun _ => ?_) (fun _ => ?_)) | simp -implicitDefEqProofs (disch := first | omega | (simp only [List.length_append, List.length_cons, List.length_nil, List.length_drop, List.length_take]; omega)) only [evs, tys, lors, Nat.reduceAdd, Nat.reduceSub, Nat.reduceMul, Nat.reducePow, Nat.reduceBEq, Nat.reduceLT, Nat.reduceLeDiff, Nat.reduceEqDiff, Int.reduceLT, Int.reduceLE, Int.reduceEq, Int.reduceNe, Int.reduceToNat, Int.reduceAdd, Int.reduceSub, Int.reduceMul, Int.reducePow, Int.reduceDiv, Int.reduceMod, Int.reduceNeg, reduceCtorEq, codeKey, List.contains, List.elem, Ev.load, peek, pack, storeV, fieldAddr, field, cvB, h])
  all_goals exact res_eq
theorem m_swap (y : Int) : callV (CL lore) 120 [.eptr r n k 0, .int .u64 y] H = some (.int .u64 x, H.set r (WB (ws.set k y))) := by
  refine callV_sh rfl ?_
  have h := a_swap hH hn hk y
  rw [call_start lore_ext120 Tryd.func120 rfl lore_okf120 (Nat.le_of_ble_eq_true rfl)]
  repeat' (first | (refine cond_by (F := res) (fun _ => ?_) (fun _ => ?_)) | (refine wayK_by (F := res) (fun _ hb_ => ?_) (fun _ hb_ => ?_) <;> simp only [hb_]) | (refine wayK_byN (F := res) (fun _ hb_ => ?_) (fun _ hb_ => ?_) <;> simp only [hb_]) | (refine wayD_by (F := res) (fun _ hb_ => ?_) (fun _ hb_ => ?_) <;> simp only [hb_]) | (refine wayD_byN (F := res) (fun _ hb_ => ?_) (fun _ hb_ => ?_) <;> simp only [hb_]) | (refine rdK_by (F := res) (fun _ => ?_) (fun _ => ?_)) | (refine effK_by (F := res) (fun _ => ?_) (fun _ => ?_)) | (refine effK_by2 (F := res) (fun _ => ?_) (fun _ => ?_)) | (refine rdD_by (F := res) (fun _ => ?_) (fun _ => ?_)) | (refine effD_by (F := res) (fun _ => ?_) (fun _ => ?_)) | (refine effD_by2 (F := res) (fun _ => ?_) (fun _ => ?_)) | simp -implicitDefEqProofs (disch := first | omega | (simp only [List.length_append, List.length_cons, List.length_nil, List.length_drop, List.length_take]; omega)) only [evs, tys, lors, Nat.reduceAdd, Nat.reduceSub, Nat.reduceMul, Nat.reducePow, Nat.reduceBEq, Nat.reduceLT, Nat.reduceLeDiff, Nat.reduceEqDiff, Int.reduceLT, Int.reduceLE, Int.reduceEq, Int.reduceNe, Int.reduceToNat, Int.reduceAdd, Int.reduceSub, Int.reduceMul, Int.reducePow, Int.reduceDiv, Int.reduceMod, Int.reduceNeg, reduceCtorEq, codeKey, List.contains, List.elem, Ev.load, peek, pack, storeV, fieldAddr, field, cvB, h])
  all_goals exact res_eq
theorem m_cas (o y : Int) : callV (CL lore) 121 [.eptr r n k 0, .int .u64 o, .int .u64 y] H = some (.bool (decide (x = o)), if x = o then H.set r (WB (ws.set k y)) else H) := by
  refine callV_sh rfl ?_
  have h := a_cas hH hn hk o y
  rw [call_start lore_ext121 Tryd.func121 rfl lore_okf121 (Nat.le_of_ble_eq_true rfl)]
  repeat' (first | (refine cond_by (F := res) (fun _ => ?_) (fun _ => ?_)) | (refine wayK_by (F := res) (fun _ hb_ => ?_) (fun _ hb_ => ?_) <;> simp only [hb_]) | (refine wayK_byN (F := res) (fun _ hb_ => ?_) (fun _ hb_ => ?_) <;> simp only [hb_]) | (refine wayD_by (F := res) (fun _ hb_ => ?_) (fun _ hb_ => ?_) <;> simp only [hb_]) | (refine wayD_byN (F := res) (fun _ hb_ => ?_) (fun _ hb_ => ?_) <;> simp only [hb_]) | (refine rdK_by (F := res) (fun _ => ?_) (fun _ => ?_)) | (refine effK_by (F := res) (fun _ => ?_) (fun _ => ?_)) | (refine effK_by2 (F := res) (fun _ => ?_) (fun _ => ?_)) | (refine rdD_by (F := res) (fun _ => ?_) (fun _ => ?_)) | (refine effD_by (F := res) (fun _ => ?_) (fun _ => ?_)) | (refine effD_by2 (F := res) (fun _ => ?_) (fun _ => ?_)) | simp -implicitDefEqProofs (disch := first | omega | (simp only [List.length_append, List.length_cons, List.length_nil, List.length_drop, List.length_take]; omega)) only [evs, tys, lors, Nat.reduceAdd, Nat.reduceSub, Nat.reduceMul, Nat.reducePow, Nat.reduceBEq, Nat.reduceLT, Nat.reduceLeDiff, Nat.reduceEqDiff, Int.reduceLT, Int.reduceLE, Int.reduceEq, Int.reduceNe, Int.reduceToNat, Int.reduceAdd, Int.reduceSub, Int.reduceMul, Int.reducePow, Int.reduceDiv, Int.reduceMod, Int.reduceNeg, reduceCtorEq, codeKey, List.contains, List.elem, Ev.load, peek, pack, storeV, fieldAddr, field, cvB, h])
  all_goals exact res_eq
end atoms
section nb
variable {H : Heap} {r : Nat} {b : Box}
theorem gset (L : Heap) (k : Nat) : (H.set r b ++ L)[H.length + k]? = L[k]? := by
  have := get_new (H.set r b) L k
  rwa [List.length_set] at this
theorem gset0 (L : Heap) : (H.set r b ++ L)[H.length]? = L[0]? := gset L 0
theorem sset (L : Heap) (k : Nat) (x : Box) : (H.set r b ++ L).set (H.length + k) x = H.set r b ++ L.set k x := by
  have := set_new (H.set r b) L k x
  rwa [List.length_set] at this
theorem sset0 (L : Heap) (x : Box) : (H.set r b ++ L).set H.length x = H.set r b ++ L.set 0 x := sset L 0 x
theorem olds (hr : r < H.length) (L : Heap) (x : Box) : (H ++ L).set r x = H.set r x ++ L := List.set_append_left _ _ hr
theorem oldg (hr : r < H.length) (L : Heap) : (H ++ L)[r]? = H[r]? := List.getElem?_append_left hr
end nb
abbrev actB (k c o n : Int) : Box := ⟨[.int .u8 k, .int .i64 c, .int .u64 o, .int .u64 n], 0, false, false⟩
abbrev didC (k c s p : Int) (ok : Bool) : List V := [.int .u8 k, .int .i64 c, .int .u64 s, .int .u64 p, .bool ok]
abbrev didB (k c s p : Int) (ok : Bool) : Box := ⟨didC k c s p ok, 0, false, false⟩
theorem lt_of_get {H : Heap} {i : Nat} {b : Box} (h : H[i]? = some b) : i < H.length := by
  rcases Nat.lt_or_ge i H.length with h' | h'
  · exact h'
  · rw [List.getElem?_eq_none h'] at h; cases h
section done
variable {H : Heap} {r n k : Nat} {ws : List Int} {x : Int} (hH : H[r]? = some (WB ws)) (hn : ws.length = n) (hk : ws[k]? = some x) (c : Int)
include hH hn hk
theorem d_load : callV (CL lore) 95 [.eptr r n k 0, .agg [.int .u8 1, .int .i64 c, .int .u64 0, .int .u64 0]] H = some (.agg (didC 1 c x x true), H ++ [actB 1 c 0 0, didB 1 c x x true, didB 1 c x x true]) := by
  refine callV_sh rfl ?_
  have hr := lt_of_get hH
  have hl := fun L => m_load (H := H ++ L) (by rw [oldg hr, hH]) hn hk
  rw [call_start lore_ext95 Tryd.func95 rfl lore_okf95 (Nat.le_of_ble_eq_true rfl)]
  repeat' (first | (refine cond_by (F := res) (fun _ => ?_) (fun _ => ?_)) | (refine wayK_by (F := res) (fun _ hb_ => ?_) (fun _ hb_ => ?_) <;> simp only [hb_]) | (refine wayK_byN (F := res) (fun _ hb_ => ?_) (fun _ hb_ => ?_) <;> simp only [hb_]) | (refine wayD_by (F := res) (fun _ hb_ => ?_) (fun _ hb_ => ?_) <;> simp only [hb_]) | (refine wayD_byN (F := res) (fun _ hb_ => ?_) (fun _ hb_ => ?_) <;> simp only [hb_]) | (refine rdK_by (F := res) (fun _ => ?_) (fun _ => ?_)) | (refine effK_by (F := res) (fun _ => ?_) (fun _ => ?_)) | (refine effK_by2 (F := res) (fun _ => ?_) (fun _ => ?_)) | (refine rdD_by (F := res) (fun _ => ?_) (fun _ => ?_)) | (refine effD_by (F := res) (fun _ => ?_) (fun _ => ?_)) | (refine effD_by2 (F := res) (fun _ => ?_) (fun _ => ?_)) | simp -implicitDefEqProofs (disch := first | omega | (simp only [List.length_append, List.length_cons, List.length_nil, List.length_drop, List.length_take]; omega)) only [evs, tys, lors, Nat.reduceAdd, Nat.reduceSub, Nat.reduceMul, Nat.reducePow, Nat.reduceBEq, Nat.reduceLT, Nat.reduceLeDiff, Nat.reduceEqDiff, Int.reduceLT, Int.reduceLE, Int.reduceEq, Int.reduceNe, Int.reduceToNat, Int.reduceAdd, Int.reduceSub, Int.reduceMul, Int.reducePow, Int.reduceDiv, Int.reduceMod, Int.reduceNeg, reduceCtorEq, codeKey, List.contains, List.elem, Ev.load, peek, pack, storeV, fieldAddr, field, cvB, hl, get_new, get_new0, set_new, set_new0, List.append_assoc, List.cons_append, List.nil_append, List.length_append, List.length_cons, List.length_nil])
  all_goals first | exact res_eq | trace_state
theorem d_cas (o y : Int) : callV (CL lore) 95 [.eptr r n k 0, .agg [.int .u8 5, .int .i64 c, .int .u64 o, .int .u64 y]] H = if x = o then some (.agg (didC 5 c o y true), H.set r (WB (ws.set k y)) ++ [actB 5 c o y, didB 5 c o y true, didB 5 c o y true]) else some (.agg (didC 5 c x x false), H ++ [actB 5 c o y, didB 5 c x x false, didB 5 c x x false]) := by
  refine callV_sh rfl ?_
  have hr := lt_of_get hH
  have hl := fun L => m_load (H := H ++ L) (by rw [oldg hr, hH]) hn hk
  have hc := fun L => m_cas (H := H ++ L) (by rw [oldg hr, hH]) hn hk o y
  rw [call_start lore_ext95 Tryd.func95 rfl lore_okf95 (Nat.le_of_ble_eq_true rfl)]
  repeat' (first | (refine cond_by (F := res) (fun _ => ?_) (fun _ => ?_)) | (refine wayK_by (F := res) (fun _ hb_ => ?_) (fun _ hb_ => ?_) <;> simp only [hb_]) | (refine wayK_byN (F := res) (fun _ hb_ => ?_) (fun _ hb_ => ?_) <;> simp only [hb_]) | (refine wayD_by (F := res) (fun _ hb_ => ?_) (fun _ hb_ => ?_) <;> simp only [hb_]) | (refine wayD_byN (F := res) (fun _ hb_ => ?_) (fun _ hb_ => ?_) <;> simp only [hb_]) | (refine rdK_by (F := res) (fun _ => ?_) (fun _ => ?_)) | (refine effK_by (F := res) (fun _ => ?_) (fun _ => ?_)) | (refine effK_by2 (F := res) (fun _ => ?_) (fun _ => ?_)) | (refine rdD_by (F := res) (fun _ => ?_) (fun _ => ?_)) | (refine effD_by (F := res) (fun _ => ?_) (fun _ => ?_)) | (refine effD_by2 (F := res) (fun _ => ?_) (fun _ => ?_)) | simp -implicitDefEqProofs (disch := first | omega | (simp only [List.length_append, List.length_cons, List.length_nil, List.length_drop, List.length_take]; omega)) only [evs, tys, lors, Nat.reduceAdd, Nat.reduceSub, Nat.reduceMul, Nat.reducePow, Nat.reduceBEq, Nat.reduceLT, Nat.reduceLeDiff, Nat.reduceEqDiff, Int.reduceLT, Int.reduceLE, Int.reduceEq, Int.reduceNe, Int.reduceToNat, Int.reduceAdd, Int.reduceSub, Int.reduceMul, Int.reducePow, Int.reduceDiv, Int.reduceMod, Int.reduceNeg, reduceCtorEq, codeKey, List.contains, List.elem, Ev.load, peek, pack, storeV, fieldAddr, field, cvB, get_new, get_new0, set_new, set_new0, List.append_assoc, List.cons_append, List.nil_append, List.length_append, List.length_cons, List.length_nil])
  by_cases h : x = o
  · rw [if_pos h]
    have hc := fun L => (hc L).trans (by rw [if_pos h, decide_eq_true h, olds hr])
    rw [loopL_step' rfl]
    repeat' (first | (refine cond_by (F := res) (fun _ => ?_) (fun _ => ?_)) | (refine wayK_by (F := res) (fun _ hb_ => ?_) (fun _ hb_ => ?_) <;> simp only [hb_]) | (refine wayK_byN (F := res) (fun _ hb_ => ?_) (fun _ hb_ => ?_) <;> simp only [hb_]) | (refine wayD_by (F := res) (fun _ hb_ => ?_) (fun _ hb_ => ?_) <;> simp only [hb_]) | (refine wayD_byN (F := res) (fun _ hb_ => ?_) (fun _ hb_ => ?_) <;> simp only [hb_]) | (refine rdK_by (F := res) (fun _ => ?_) (fun _ => ?_)) | (refine effK_by (F := res) (fun _ => ?_) (fun _ => ?_)) | (refine effK_by2 (F := res) (fun _ => ?_) (fun _ => ?_)) | (refine rdD_by (F := res) (fun _ => ?_) (fun _ => ?_)) | (refine effD_by (F := res) (fun _ => ?_) (fun _ => ?_)) | (refine effD_by2 (F := res) (fun _ => ?_) (fun _ => ?_)) | simp -implicitDefEqProofs (disch := first | omega | (simp only [List.length_append, List.length_cons, List.length_nil, List.length_drop, List.length_take]; omega)) only [evs, tys, lors, Nat.reduceAdd, Nat.reduceSub, Nat.reduceMul, Nat.reducePow, Nat.reduceBEq, Nat.reduceLT, Nat.reduceLeDiff, Nat.reduceEqDiff, Int.reduceLT, Int.reduceLE, Int.reduceEq, Int.reduceNe, Int.reduceToNat, Int.reduceAdd, Int.reduceSub, Int.reduceMul, Int.reducePow, Int.reduceDiv, Int.reduceMod, Int.reduceNeg, reduceCtorEq, codeKey, List.contains, List.elem, Ev.load, peek, pack, storeV, fieldAddr, field, cvB, hc, get_new, get_new0, set_new, set_new0, gset, gset0, sset, sset0, List.append_assoc, List.cons_append, List.nil_append, List.length_append, List.length_cons, List.length_nil])
    all_goals repeat (rw [chkB_bit (by kernel_rfl)])
    repeat' (first | (refine cond_by (F := res) (fun _ => ?_) (fun _ => ?_)) | (refine wayK_by (F := res) (fun _ hb_ => ?_) (fun _ hb_ => ?_) <;> simp only [hb_]) | (refine wayK_byN (F := res) (fun _ hb_ => ?_) (fun _ hb_ => ?_) <;> simp only [hb_]) | (refine wayD_by (F := res) (fun _ hb_ => ?_) (fun _ hb_ => ?_) <;> simp only [hb_]) | (refine wayD_byN (F := res) (fun _ hb_ => ?_) (fun _ hb_ => ?_) <;> simp only [hb_]) | (refine rdK_by (F := res) (fun _ => ?_) (fun _ => ?_)) | (refine effK_by (F := res) (fun _ => ?_) (fun _ => ?_)) | (refine effK_by2 (F := res) (fun _ => ?_) (fun _ => ?_)) | (refine rdD_by (F := res) (fun _ => ?_) (fun _ => ?_)) | (refine effD_by (F := res) (fun _ => ?_) (fun _ => ?_)) | (refine effD_by2 (F := res) (fun _ => ?_) (fun _ => ?_)) | simp -implicitDefEqProofs (disch := first | omega | (simp only [List.length_append, List.length_cons, List.length_nil, List.length_drop, List.length_take]; omega)) only [evs, tys, lors, Nat.reduceAdd, Nat.reduceSub, Nat.reduceMul, Nat.reducePow, Nat.reduceBEq, Nat.reduceLT, Nat.reduceLeDiff, Nat.reduceEqDiff, Int.reduceLT, Int.reduceLE, Int.reduceEq, Int.reduceNe, Int.reduceToNat, Int.reduceAdd, Int.reduceSub, Int.reduceMul, Int.reducePow, Int.reduceDiv, Int.reduceMod, Int.reduceNeg, reduceCtorEq, codeKey, List.contains, List.elem, Ev.load, peek, pack, storeV, fieldAddr, field, cvB, hc, get_new, get_new0, set_new, set_new0, gset, gset0, sset, sset0, List.append_assoc, List.cons_append, List.nil_append, List.length_append, List.length_cons, List.length_nil])
    all_goals first | exact res_eq | trace_state
  · rw [if_neg h]
    have hc := fun L => (hc L).trans (by rw [if_neg h, decide_eq_false h])
    rw [loopL_step' rfl]
    repeat' (first | (refine cond_by (F := res) (fun _ => ?_) (fun _ => ?_)) | (refine wayK_by (F := res) (fun _ hb_ => ?_) (fun _ hb_ => ?_) <;> simp only [hb_]) | (refine wayK_byN (F := res) (fun _ hb_ => ?_) (fun _ hb_ => ?_) <;> simp only [hb_]) | (refine wayD_by (F := res) (fun _ hb_ => ?_) (fun _ hb_ => ?_) <;> simp only [hb_]) | (refine wayD_byN (F := res) (fun _ hb_ => ?_) (fun _ hb_ => ?_) <;> simp only [hb_]) | (refine rdK_by (F := res) (fun _ => ?_) (fun _ => ?_)) | (refine effK_by (F := res) (fun _ => ?_) (fun _ => ?_)) | (refine effK_by2 (F := res) (fun _ => ?_) (fun _ => ?_)) | (refine rdD_by (F := res) (fun _ => ?_) (fun _ => ?_)) | (refine effD_by (F := res) (fun _ => ?_) (fun _ => ?_)) | (refine effD_by2 (F := res) (fun _ => ?_) (fun _ => ?_)) | simp -implicitDefEqProofs (disch := first | omega | (simp only [List.length_append, List.length_cons, List.length_nil, List.length_drop, List.length_take]; omega)) only [evs, tys, lors, Nat.reduceAdd, Nat.reduceSub, Nat.reduceMul, Nat.reducePow, Nat.reduceBEq, Nat.reduceLT, Nat.reduceLeDiff, Nat.reduceEqDiff, Int.reduceLT, Int.reduceLE, Int.reduceEq, Int.reduceNe, Int.reduceToNat, Int.reduceAdd, Int.reduceSub, Int.reduceMul, Int.reducePow, Int.reduceDiv, Int.reduceMod, Int.reduceNeg, reduceCtorEq, codeKey, List.contains, List.elem, Ev.load, peek, pack, storeV, fieldAddr, field, cvB, hl, hc, h, get_new, get_new0, set_new, set_new0, List.append_assoc, List.cons_append, List.nil_append, List.length_append, List.length_cons, List.length_nil])
    all_goals first | exact res_eq | trace_state
end done
theorem eq_pn {t e : TypeId} (hu : Tryd.prog.underlying t = some (.pointer e)) {i j : Nat} : eqOp Tryd.prog .eql t (.ptr i j) .nilp = some (.bool false) := by simp only [eqOp, eqV, hu]; rfl
theorem ne_pn {t e : TypeId} (hu : Tryd.prog.underlying t = some (.pointer e)) {i j : Nat} : eqOp Tryd.prog .neq t (.ptr i j) .nilp = some (.bool true) := by simp only [eqOp, eqV, hu]; rfl
theorem eq_nn {t e : TypeId} (hu : Tryd.prog.underlying t = some (.pointer e)) : eqOp Tryd.prog .eql t .nilp .nilp = some (.bool true) := by simp only [eqOp, eqV, hu]; rfl
theorem ne_nn {t e : TypeId} (hu : Tryd.prog.underlying t = some (.pointer e)) : eqOp Tryd.prog .neq t .nilp .nilp = some (.bool false) := by simp only [eqOp, eqV, hu]; rfl
theorem eq_en {t e : TypeId} (hu : Tryd.prog.underlying t = some (.pointer e)) {i j m o : Nat} : eqOp Tryd.prog .eql t (.eptr i j m o) .nilp = some (.bool false) := by simp only [eqOp, eqV, hu]; rfl
theorem ne_en {t e : TypeId} (hu : Tryd.prog.underlying t = some (.pointer e)) {i j m o : Nat} : eqOp Tryd.prog .neq t (.eptr i j m o) .nilp = some (.bool true) := by simp only [eqOp, eqV, hu]; rfl
set_option linter.defProp false in
def pts := (And.intro (And.intro (And.intro (And.intro (And.intro (@eq_pn 24 _ Tryd.underlying24) (@ne_pn 24 _ Tryd.underlying24)) (And.intro (@eq_nn 24 _ Tryd.underlying24) (And.intro (@ne_nn 24 _ Tryd.underlying24) (@eq_pn 30 _ Tryd.underlying30)))) (And.intro (And.intro (@ne_pn 30 _ Tryd.underlying30) (@eq_nn 30 _ Tryd.underlying30)) (And.intro (@ne_nn 30 _ Tryd.underlying30) (And.intro (@eq_pn 46 _ Tryd.underlying46) (@ne_pn 46 _ Tryd.underlying46))))) (And.intro (And.intro (And.intro (@eq_nn 46 _ Tryd.underlying46) (@ne_nn 46 _ Tryd.underlying46)) (And.intro (@eq_pn 60 _ Tryd.underlying60) (And.intro (@ne_pn 60 _ Tryd.underlying60) (@eq_nn 60 _ Tryd.underlying60)))) (And.intro (And.intro (@ne_nn 60 _ Tryd.underlying60) (And.intro (@eq_pn 63 _ Tryd.underlying63) (@ne_pn 63 _ Tryd.underlying63))) (And.intro (@eq_nn 63 _ Tryd.underlying63) (And.intro (@ne_nn 63 _ Tryd.underlying63) (@eq_pn 67 _ Tryd.underlying67)))))) (And.intro (And.intro (And.intro (And.intro (@ne_pn 67 _ Tryd.underlying67) (@eq_nn 67 _ Tryd.underlying67)) (And.intro (@ne_nn 67 _ Tryd.underlying67) (And.intro (@eq_pn 74 _ Tryd.underlying74) (@ne_pn 74 _ Tryd.underlying74)))) (And.intro (And.intro (@eq_nn 74 _ Tryd.underlying74) (@ne_nn 74 _ Tryd.underlying74)) (And.intro (@eq_pn 110 _ Tryd.underlying110) (And.intro (@ne_pn 110 _ Tryd.underlying110) (@eq_nn 110 _ Tryd.underlying110))))) (And.intro (And.intro (And.intro (@ne_nn 110 _ Tryd.underlying110) (@eq_pn 200 _ Tryd.underlying200)) (And.intro (@ne_pn 200 _ Tryd.underlying200) (And.intro (@eq_nn 200 _ Tryd.underlying200) (@ne_nn 200 _ Tryd.underlying200)))) (And.intro (And.intro (@eq_pn 211 _ Tryd.underlying211) (And.intro (@ne_pn 211 _ Tryd.underlying211) (@eq_nn 211 _ Tryd.underlying211))) (And.intro (@ne_nn 211 _ Tryd.underlying211) (And.intro (@eq_en 200 _ Tryd.underlying200) (@ne_en 200 _ Tryd.underlying200)))))))
end Go.Proofs.YthpfimildcbgmaaDoor
