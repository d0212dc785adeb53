/-
Cells: New, Do, at, Add, Load.
-/
import Derived.Test.YthpfimildcbgmaaDoorC1
namespace Go.Proofs.YthpfimildcbgmaaDoor
open Go Ev
set_option linter.all false
set_option maxHeartbeats 4000000
set_option maxRecDepth 5000
attribute [local irreducible] codeL condL loopL callL callV evOps evDraw rdK effK wayK oneK wayD oneD rdD effD chks chkB res

abbrev CB (r n : Nat) : Box := ⟨[.row r n], 0, false, false⟩
theorem mk_cells {H : Heap} {n : Nat} (hn : n ≤ 65536) : mksO Tryd.prog H 192 (.int .i64 (n : Nat)) (.int .i64 (n : Nat)) = some (.row H.length n, H ++ [WB (List.replicate n 0)]) := by
  have hbt := by209
  have e : maxLen47 = 140737488355328 := by decide
  have hm : n * bytesT Tryd.prog 209 ≤ maxLen47 := by
    have := Nat.mul_le_mul hn hbt
    omega
  have hw : W64 (List.replicate n 0) = List.replicate n (.agg [.int .u64 0]) := by
    unfold W64
    rw [List.map_replicate]
  have h1 : (0 : Int) ≤ (n : Int) ∧ (n : Int) ≤ (n : Int) ∧ ((n : Int)) * (bytesT Tryd.prog 209 : Nat) ≤ (maxLen47 : Nat) ∧ (n : Int) ≤ (maxLen47 : Nat) := by
    refine ⟨by omega, by omega, ?_, by omega⟩
    exact_mod_cast hm
  simp only [mksO, Tryd.underlying192, zero209, Option.bind_some, sz209]
  rw [if_pos ⟨h1.1, h1.2.1, h1.2.2.1, h1.2.2.2, by decide, rfl, rfl, rfl⟩, WB, hw, Int.toNat_natCast]
theorem new_cv (n : Nat) (hn : n ≤ 65536) (H : Heap) : callV (CL lore) 35 [.int .i64 (n : Nat)] H = some (.tup [.ptr (H.length + 1) 0, .int .i64 0], H ++ [WB (List.replicate n 0), CB H.length n]) := by
  refine callV_sh rfl ?_
  have hm := mk_cells (H := H) hn
  have hn0 : ¬ (n : Int) < 0 := by omega
  have hn1 : ¬ 65536 < (n : Int) := by omega
  rw [call_start lore_ext35 Tryd.func35 rfl lore_okf35 (Nat.le_of_ble_eq_true rfl)]
  repeat' (first | (refine cond_by (F := res) (fun _ => ?_) (fun _ => ?_)) | (refine wayK_by (F := res) (fun _ hb_ => ?_) (fun _ hb_ => ?_) <;> simp only [hb_]) | (refine wayK_byN (F := res) (fun _ hb_ => ?_) (fun _ hb_ => ?_) <;> simp only [hb_]) | (refine wayD_by (F := res) (fun _ hb_ => ?_) (fun _ hb_ => ?_) <;> simp only [hb_]) | (refine wayD_byN (F := res) (fun _ hb_ => ?_) (fun _ hb_ => ?_) <;> simp only [hb_]) | (refine rdK_by (F := res) (fun _ => ?_) (fun _ => ?_)) | (refine effK_by (F := res) (fun _ => ?_) (fun _ => ?_)) | (refine effK_by2 (F := res) (fun _ => ?_) (fun _ => ?_)) | (refine rdD_by (F := res) (fun _ => ?_) (fun _ => ?_)) | (refine effD_by (F := res) (fun _ => ?_) (fun _ => ?_)) | (refine effD_by2 (F := res) (fun _ => ?_) (fun _ => ?_)) | simp -implicitDefEqProofs (disch := first | omega | (simp only [List.length_append, List.length_cons, List.length_nil, List.length_drop, List.length_take]; omega)) only [evs, tys, lors, Nat.reduceAdd, Nat.reduceSub, Nat.reduceMul, Nat.reducePow, Nat.reduceBEq, Nat.reduceLT, Nat.reduceLeDiff, Nat.reduceEqDiff, Int.reduceLT, Int.reduceLE, Int.reduceEq, Int.reduceNe, Int.reduceToNat, Int.reduceAdd, Int.reduceSub, Int.reduceMul, Int.reducePow, Int.reduceDiv, Int.reduceMod, Int.reduceNeg, reduceCtorEq, codeKey, List.contains, List.elem, Ev.load, peek, pack, storeV, fieldAddr, field, cvB, hm, hn0, hn1, decide_false, List.append_assoc, List.cons_append, List.nil_append, List.length_append, List.length_cons, List.length_nil])
  all_goals first | exact res_eq | trace_state
section cells
variable {H : Heap} {hc r n k : Nat} {ws : List Int} {x : Int} (hH : H[r]? = some (WB ws)) (hC : H[hc]? = some (CB r n)) (hn : ws.length = n) (hk : ws[k]? = some x)
include hH hC hn hk
theorem at_cv : callV (CL lore) 78 [.ptr hc 0, .int .i64 (k : Nat)] H = some (.eptr r n k 0, H) := by
  refine callV_sh rfl ?_
  have hlk : k < n := by rw [← hn]; exact (List.getElem?_eq_some_iff.1 hk).1
  have hkn : ¬ (n : Int) ≤ (k : Int) := by omega
  have hkn' : (k : Int) < (n : Int) := by omega
  have e2 := w64_len ws
  rw [hn] at e2
  have hlen : lenU H (some (.slice 209)) (.row r n) = some (.int .i64 n) := by
    simp only [lenU, els, hH]
    rw [if_pos ⟨by decide, e2⟩]
    simp [e2]
  have h52 : callV (CL lore) 52 [.ptr hc 0] H = some (.int .i64 n, H) := by
    refine callV_sh rfl ?_
    rw [call_start lore_ext52 Tryd.func52 rfl lore_okf52 (Nat.le_of_ble_eq_true rfl)]
    repeat' (first | (refine cond_by (F := res) (fun _ => ?_) (fun _ => ?_)) | (refine wayK_by (F := res) (fun _ hb_ => ?_) (fun _ hb_ => ?_) <;> simp only [hb_]) | (refine wayK_byN (F := res) (fun _ hb_ => ?_) (fun _ hb_ => ?_) <;> simp only [hb_]) | (refine wayD_by (F := res) (fun _ hb_ => ?_) (fun _ hb_ => ?_) <;> simp only [hb_]) | (refine wayD_byN (F := res) (fun _ hb_ => ?_) (fun _ hb_ => ?_) <;> simp only [hb_]) | (refine rdK_by (F := res) (fun _ => ?_) (fun _ => ?_)) | (refine effK_by (F := res) (fun _ => ?_) (fun _ => ?_)) | (refine effK_by2 (F := res) (fun _ => ?_) (fun _ => ?_)) | (refine rdD_by (F := res) (fun _ => ?_) (fun _ => ?_)) | (refine effD_by (F := res) (fun _ => ?_) (fun _ => ?_)) | (refine effD_by2 (F := res) (fun _ => ?_) (fun _ => ?_)) | simp -implicitDefEqProofs (disch := first | omega | (simp only [List.length_append, List.length_cons, List.length_nil, List.length_drop, List.length_take]; omega)) only [evs, tys, lors, Nat.reduceAdd, Nat.reduceSub, Nat.reduceMul, Nat.reducePow, Nat.reduceBEq, Nat.reduceLT, Nat.reduceLeDiff, Nat.reduceEqDiff, Int.reduceLT, Int.reduceLE, Int.reduceEq, Int.reduceNe, Int.reduceToNat, Int.reduceAdd, Int.reduceSub, Int.reduceMul, Int.reducePow, Int.reduceDiv, Int.reduceMod, Int.reduceNeg, reduceCtorEq, codeKey, List.contains, List.elem, Ev.load, peek, pack, storeV, fieldAddr, field, cvB, pts, hC, hlen])
    all_goals exact res_eq
  have hk0 : ¬ (k : Int) < 0 := by omega
  rw [call_start lore_ext78 Tryd.func78 rfl lore_okf78 (Nat.le_of_ble_eq_true rfl)]
  repeat' (first | (refine cond_by (F := res) (fun _ => ?_) (fun _ => ?_)) | (refine wayK_by (F := res) (fun _ hb_ => ?_) (fun _ hb_ => ?_) <;> simp only [hb_]) | (refine wayK_byN (F := res) (fun _ hb_ => ?_) (fun _ hb_ => ?_) <;> simp only [hb_]) | (refine wayD_by (F := res) (fun _ hb_ => ?_) (fun _ hb_ => ?_) <;> simp only [hb_]) | (refine wayD_byN (F := res) (fun _ hb_ => ?_) (fun _ hb_ => ?_) <;> simp only [hb_]) | (refine rdK_by (F := res) (fun _ => ?_) (fun _ => ?_)) | (refine effK_by (F := res) (fun _ => ?_) (fun _ => ?_)) | (refine effK_by2 (F := res) (fun _ => ?_) (fun _ => ?_)) | (refine rdD_by (F := res) (fun _ => ?_) (fun _ => ?_)) | (refine effD_by (F := res) (fun _ => ?_) (fun _ => ?_)) | (refine effD_by2 (F := res) (fun _ => ?_) (fun _ => ?_)) | simp -implicitDefEqProofs (disch := first | omega | (simp only [List.length_append, List.length_cons, List.length_nil, List.length_drop, List.length_take]; omega)) only [evs, tys, lors, Nat.reduceAdd, Nat.reduceSub, Nat.reduceMul, Nat.reducePow, Nat.reduceBEq, Nat.reduceLT, Nat.reduceLeDiff, Nat.reduceEqDiff, Int.reduceLT, Int.reduceLE, Int.reduceEq, Int.reduceNe, Int.reduceToNat, Int.reduceAdd, Int.reduceSub, Int.reduceMul, Int.reducePow, Int.reduceDiv, Int.reduceMod, Int.reduceNeg, reduceCtorEq, codeKey, List.contains, List.elem, Ev.load, peek, pack, storeV, fieldAddr, field, cvB, hC, hH, h52, hk0, hkn, hkn', e2, decide_false, Int.toNat_natCast])
  all_goals first | exact res_eq | trace_state
theorem cadd_cv (y : Int) : callV (CL lore) 37 [.ptr hc 0, .int .i64 (k : Nat), .int .u64 y] H = some (.int .u64 (IntKind.u64.wrap (x + y)), H.set r (WB (ws.set k (IntKind.u64.wrap (x + y))))) := by
  refine callV_sh rfl ?_
  have h1 := at_cv hH hC hn hk
  have h2 := m_add hH hn hk y
  rw [call_start lore_ext37 Tryd.func37 rfl lore_okf37 (Nat.le_of_ble_eq_true rfl)]
  repeat' (first | (refine cond_by (F := res) (fun _ => ?_) (fun _ => ?_)) | (refine wayK_by (F := res) (fun _ hb_ => ?_) (fun _ hb_ => ?_) <;> simp only [hb_]) | (refine wayK_byN (F := res) (fun _ hb_ => ?_) (fun _ hb_ => ?_) <;> simp only [hb_]) | (refine wayD_by (F := res) (fun _ hb_ => ?_) (fun _ hb_ => ?_) <;> simp only [hb_]) | (refine wayD_byN (F := res) (fun _ hb_ => ?_) (fun _ hb_ => ?_) <;> simp only [hb_]) | (refine rdK_by (F := res) (fun _ => ?_) (fun _ => ?_)) | (refine effK_by (F := res) (fun _ => ?_) (fun _ => ?_)) | (refine effK_by2 (F := res) (fun _ => ?_) (fun _ => ?_)) | (refine rdD_by (F := res) (fun _ => ?_) (fun _ => ?_)) | (refine effD_by (F := res) (fun _ => ?_) (fun _ => ?_)) | (refine effD_by2 (F := res) (fun _ => ?_) (fun _ => ?_)) | simp -implicitDefEqProofs (disch := first | omega | (simp only [List.length_append, List.length_cons, List.length_nil, List.length_drop, List.length_take]; omega)) only [evs, tys, lors, Nat.reduceAdd, Nat.reduceSub, Nat.reduceMul, Nat.reducePow, Nat.reduceBEq, Nat.reduceLT, Nat.reduceLeDiff, Nat.reduceEqDiff, Int.reduceLT, Int.reduceLE, Int.reduceEq, Int.reduceNe, Int.reduceToNat, Int.reduceAdd, Int.reduceSub, Int.reduceMul, Int.reducePow, Int.reduceDiv, Int.reduceMod, Int.reduceNeg, reduceCtorEq, codeKey, List.contains, List.elem, Ev.load, peek, pack, storeV, fieldAddr, field, cvB, pts, h1, h2])
  all_goals first | exact res_eq | trace_state
theorem cload_cv : callV (CL lore) 38 [.ptr hc 0, .int .i64 (k : Nat)] H = some (.int .u64 x, H) := by
  refine callV_sh rfl ?_
  have h1 := at_cv hH hC hn hk
  have h2 := m_load hH hn hk
  rw [call_start lore_ext38 Tryd.func38 rfl lore_okf38 (Nat.le_of_ble_eq_true rfl)]
  repeat' (first | (refine cond_by (F := res) (fun _ => ?_) (fun _ => ?_)) | (refine wayK_by (F := res) (fun _ hb_ => ?_) (fun _ hb_ => ?_) <;> simp only [hb_]) | (refine wayK_byN (F := res) (fun _ hb_ => ?_) (fun _ hb_ => ?_) <;> simp only [hb_]) | (refine wayD_by (F := res) (fun _ hb_ => ?_) (fun _ hb_ => ?_) <;> simp only [hb_]) | (refine wayD_byN (F := res) (fun _ hb_ => ?_) (fun _ hb_ => ?_) <;> simp only [hb_]) | (refine rdK_by (F := res) (fun _ => ?_) (fun _ => ?_)) | (refine effK_by (F := res) (fun _ => ?_) (fun _ => ?_)) | (refine effK_by2 (F := res) (fun _ => ?_) (fun _ => ?_)) | (refine rdD_by (F := res) (fun _ => ?_) (fun _ => ?_)) | (refine effD_by (F := res) (fun _ => ?_) (fun _ => ?_)) | (refine effD_by2 (F := res) (fun _ => ?_) (fun _ => ?_)) | simp -implicitDefEqProofs (disch := first | omega | (simp only [List.length_append, List.length_cons, List.length_nil, List.length_drop, List.length_take]; omega)) only [evs, tys, lors, Nat.reduceAdd, Nat.reduceSub, Nat.reduceMul, Nat.reducePow, Nat.reduceBEq, Nat.reduceLT, Nat.reduceLeDiff, Nat.reduceEqDiff, Int.reduceLT, Int.reduceLE, Int.reduceEq, Int.reduceNe, Int.reduceToNat, Int.reduceAdd, Int.reduceSub, Int.reduceMul, Int.reducePow, Int.reduceDiv, Int.reduceMod, Int.reduceNeg, reduceCtorEq, codeKey, List.contains, List.elem, Ev.load, peek, pack, storeV, fieldAddr, field, cvB, pts, h1, h2])
  all_goals first | exact res_eq | trace_state
end cells
end Go.Proofs.YthpfimildcbgmaaDoor
