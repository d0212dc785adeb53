/-
The reference's Fault and All. The reference's Encode.
-/
import Derived.Test.YtmjdcoacmmmhnaaDoorM3
import Derived.Test.YtmjdcoacmmmhnaaDoorD2
namespace Go.Proofs.YtmjdcoacmmmhnaaDoor
open Go Ev
set_option linter.all false
set_option maxHeartbeats 4000000
set_option maxRecDepth 5000
attribute [local irreducible] codeL condL loopL callL callV evOps evDraw rdK effK wayK oneK wayD oneD rdD effD chks chkB res


theorem loopF (l : List (Int × Nat)) (c : Bool) (hlen : l.length ≤ 65535) (K : Kont) (R : Option Nat → Option V) (a : Code) (ha : loopIn Tryd.prog 25 4 = some a)
    (hR0 : ∀ z : Int, ans (K (.exit 0) (Sl 27 .wild [(0, .sl (encD l) 2 c), (2, .int .i64 0), (3, .int .i64 0), (4, .int .i64 z)]) []) = R none)
    (hR1 : ∀ j : Nat, ans (K .ret (Sl 27 .wild [(0, .sl (encD l) 2 c), (2, .int .i64 190), (3, .int .i64 (j : Nat)), (4, .int .i64 (j : Nat))]) []) = R (some j)) :
    ∀ (xs ad : List (Int × Nat)) (pa : Int × Nat) (z : Int), l = ad ++ pa :: xs → z = (ad.length : Int) + 1 → ans (loopL lore 25 a (Sl 27 .wild [(0, .sl (encD l) 2 c), (2, .int .i64 0), (3, .int .i64 0), (4, .int .i64 z)]) [] K) = R (flt pa.1 (ad.length + 1) xs) := by
  have hk := loop_key ha
  simp only [loopIn, Tryd.func25, Tryd.f25, loopAt, Option.bind_some, codeKey, if_true, Option.some.injEq, Nat.reduceEqDiff, if_false] at ha
  have e4 := encD_len l
  intro xs
  induction xs with
  | nil =>
    intro ad pa z hl hz
    have hll : l.length = ad.length + 1 := by rw [hl]; simp
    have hn : ¬ z < (l.length : Int) := by omega
    rw [flt]
    rw [loopL_step' ha]
    repeat' (first | (refine cond_by (F := ans) (fun _ => ?_) (fun _ => ?_)) | (refine wayK_by (F := ans) (fun _ hb_ => ?_) (fun _ hb_ => ?_) <;> simp only [hb_]) | (refine wayK_byN (F := ans) (fun _ hb_ => ?_) (fun _ hb_ => ?_) <;> simp only [hb_]) | (refine wayD_by (F := ans) (fun _ hb_ => ?_) (fun _ hb_ => ?_) <;> simp only [hb_]) | (refine wayD_byN (F := ans) (fun _ hb_ => ?_) (fun _ hb_ => ?_) <;> simp only [hb_]) | (refine rdK_by (F := ans) (fun _ => ?_) (fun _ => ?_)) | (refine effK_by (F := ans) (fun _ => ?_) (fun _ => ?_)) | (refine effK_by2 (F := ans) (fun _ => ?_) (fun _ => ?_)) | (refine rdD_by (F := ans) (fun _ => ?_) (fun _ => ?_)) | (refine effD_by (F := ans) (fun _ => ?_) (fun _ => ?_)) | (refine effD_by2 (F := ans) (fun _ => ?_) (fun _ => ?_)) | simp -implicitDefEqProofs (disch := first | omega | (simp only [List.length_append, List.length_cons, List.length_nil, List.length_drop, List.length_take]; omega)) only [evs, tys, lors, Nat.reduceAdd, Nat.reduceSub, Nat.reduceMul, Nat.reducePow, Nat.reduceBEq, Nat.reduceLT, Nat.reduceLeDiff, Nat.reduceEqDiff, Int.reduceLT, Int.reduceLE, Int.reduceEq, Int.reduceNe, Int.reduceToNat, Int.reduceAdd, Int.reduceSub, Int.reduceMul, Int.reducePow, Int.reduceDiv, Int.reduceMod, Int.reduceNeg, reduceCtorEq, codeKey, List.contains, List.elem, Ev.load, peek, pack, storeV, fieldAddr, field, cvB, hk, e4, hn, decide_false])
    exact hR0 _
  | cons p xs ih =>
    intro ad pa z hl hz
    have hl2 : l = (ad ++ [pa]) ++ p :: xs := by rw [hl, List.append_assoc]; rfl
    have hll : l.length = ad.length + 1 + (xs.length + 1) := by rw [hl2]; simp; omega
    have hlt : z < (l.length : Int) := by omega
    have e1 : (encD l)[z.toNat]? = some (.agg [.int .i64 p.1, .fl .f64 p.2]) := by
      rw [hz, show ((ad.length : Int) + 1).toNat = (ad ++ [pa]).length by simp, hl2]
      exact encD_get _ p xs
    have e0 : (encD l)[(z - 1).toNat]? = some (.agg [.int .i64 pa.1, .fl .f64 pa.2]) := by
      rw [hz, show ((ad.length : Int) + 1 - 1).toNat = ad.length by omega, hl]
      exact encD_get ad pa _
    have hz0 : 0 ≤ z ∧ z ≤ 100000 := by omega
    rw [flt]
    by_cases hle : p.1 ≤ pa.1
    · rw [if_pos hle]
      have hr := hR1 (ad.length + 1)
      have hzj : ((ad.length + 1 : Nat) : Int) = z := by omega
      rw [hzj] at hr
      rw [loopL_step' ha]
      repeat' (first | (refine cond_by (F := ans) (fun _ => ?_) (fun _ => ?_)) | (refine wayK_by (F := ans) (fun _ hb_ => ?_) (fun _ hb_ => ?_) <;> simp only [hb_]) | (refine wayK_byN (F := ans) (fun _ hb_ => ?_) (fun _ hb_ => ?_) <;> simp only [hb_]) | (refine wayD_by (F := ans) (fun _ hb_ => ?_) (fun _ hb_ => ?_) <;> simp only [hb_]) | (refine wayD_byN (F := ans) (fun _ hb_ => ?_) (fun _ hb_ => ?_) <;> simp only [hb_]) | (refine rdK_by (F := ans) (fun _ => ?_) (fun _ => ?_)) | (refine effK_by (F := ans) (fun _ => ?_) (fun _ => ?_)) | (refine effK_by2 (F := ans) (fun _ => ?_) (fun _ => ?_)) | (refine rdD_by (F := ans) (fun _ => ?_) (fun _ => ?_)) | (refine effD_by (F := ans) (fun _ => ?_) (fun _ => ?_)) | (refine effD_by2 (F := ans) (fun _ => ?_) (fun _ => ?_)) | simp -implicitDefEqProofs (disch := first | omega | (simp only [List.length_append, List.length_cons, List.length_nil, List.length_drop, List.length_take]; omega)) only [evs, tys, lors, Nat.reduceAdd, Nat.reduceSub, Nat.reduceMul, Nat.reducePow, Nat.reduceBEq, Nat.reduceLT, Nat.reduceLeDiff, Nat.reduceEqDiff, Int.reduceLT, Int.reduceLE, Int.reduceEq, Int.reduceNe, Int.reduceToNat, Int.reduceAdd, Int.reduceSub, Int.reduceMul, Int.reducePow, Int.reduceDiv, Int.reduceMod, Int.reduceNeg, reduceCtorEq, codeKey, List.contains, List.elem, Ev.load, peek, pack, storeV, fieldAddr, field, cvB, hk, hlt, hle, e0, e1, e4, decide_true])
      exact hr
    · rw [if_neg hle]
      have hi := ih (ad ++ [pa]) p (z + 1) hl2 (by rw [hz]; simp)
      have h2 : (ad ++ [pa]).length + 1 = ad.length + 1 + 1 := by simp
      rw [h2] at hi
      rw [loopL_step' ha]
      repeat' (first | (refine cond_by (F := ans) (fun _ => ?_) (fun _ => ?_)) | (refine wayK_by (F := ans) (fun _ hb_ => ?_) (fun _ hb_ => ?_) <;> simp only [hb_]) | (refine wayK_byN (F := ans) (fun _ hb_ => ?_) (fun _ hb_ => ?_) <;> simp only [hb_]) | (refine wayD_by (F := ans) (fun _ hb_ => ?_) (fun _ hb_ => ?_) <;> simp only [hb_]) | (refine wayD_byN (F := ans) (fun _ hb_ => ?_) (fun _ hb_ => ?_) <;> simp only [hb_]) | (refine rdK_by (F := ans) (fun _ => ?_) (fun _ => ?_)) | (refine effK_by (F := ans) (fun _ => ?_) (fun _ => ?_)) | (refine effK_by2 (F := ans) (fun _ => ?_) (fun _ => ?_)) | (refine rdD_by (F := ans) (fun _ => ?_) (fun _ => ?_)) | (refine effD_by (F := ans) (fun _ => ?_) (fun _ => ?_)) | (refine effD_by2 (F := ans) (fun _ => ?_) (fun _ => ?_)) | simp -implicitDefEqProofs (disch := first | omega | (simp only [List.length_append, List.length_cons, List.length_nil, List.length_drop, List.length_take]; omega)) only [evs, tys, lors, Nat.reduceAdd, Nat.reduceSub, Nat.reduceMul, Nat.reducePow, Nat.reduceBEq, Nat.reduceLT, Nat.reduceLeDiff, Nat.reduceEqDiff, Int.reduceLT, Int.reduceLE, Int.reduceEq, Int.reduceNe, Int.reduceToNat, Int.reduceAdd, Int.reduceSub, Int.reduceMul, Int.reducePow, Int.reduceDiv, Int.reduceMod, Int.reduceNeg, reduceCtorEq, codeKey, List.contains, List.elem, Ev.load, peek, pack, storeV, fieldAddr, field, cvB, hk, hlt, hle, e0, e1, e4, decide_true, decide_false])
      exact hi
def faultO : Option Nat → V
  | some j => .tup [.int .i64 190, .int .i64 (j : Nat)]
  | none => .tup [.int .i64 0, .int .i64 0]
def faultV (l : List (Int × Nat)) : V := if 65535 < l.length then .tup [.int .i64 3, .int .i64 65535] else faultO (fltL l)
theorem fault_cv (l : List (Int × Nat)) (c : Bool) (H : Heap) : callV (CL lore) 25 [.sl (encD l) 2 c] H = some (faultV l, H) := by
  refine callV_ans (r := some _) ?_ lore_sh25 rfl H
  have e4 := encD_len l
  unfold faultV
  by_cases hl : 65535 < l.length
  · rw [if_pos hl]
    have hlt : (65535 : Int) < (l.length : Int) := by omega
    rw [call_start lore_ext25 Tryd.func25 rfl lore_okf25 (Nat.le_of_ble_eq_true rfl)]
    repeat' (first | (refine cond_by (F := ans) (fun _ => ?_) (fun _ => ?_)) | (refine wayK_by (F := ans) (fun _ hb_ => ?_) (fun _ hb_ => ?_) <;> simp only [hb_]) | (refine wayK_byN (F := ans) (fun _ hb_ => ?_) (fun _ hb_ => ?_) <;> simp only [hb_]) | (refine wayD_by (F := ans) (fun _ hb_ => ?_) (fun _ hb_ => ?_) <;> simp only [hb_]) | (refine wayD_byN (F := ans) (fun _ hb_ => ?_) (fun _ hb_ => ?_) <;> simp only [hb_]) | (refine rdK_by (F := ans) (fun _ => ?_) (fun _ => ?_)) | (refine effK_by (F := ans) (fun _ => ?_) (fun _ => ?_)) | (refine effK_by2 (F := ans) (fun _ => ?_) (fun _ => ?_)) | (refine rdD_by (F := ans) (fun _ => ?_) (fun _ => ?_)) | (refine effD_by (F := ans) (fun _ => ?_) (fun _ => ?_)) | (refine effD_by2 (F := ans) (fun _ => ?_) (fun _ => ?_)) | simp -implicitDefEqProofs (disch := first | omega | (simp only [List.length_append, List.length_cons, List.length_nil, List.length_drop, List.length_take]; omega)) only [evs, tys, lors, Nat.reduceAdd, Nat.reduceSub, Nat.reduceMul, Nat.reducePow, Nat.reduceBEq, Nat.reduceLT, Nat.reduceLeDiff, Nat.reduceEqDiff, Int.reduceLT, Int.reduceLE, Int.reduceEq, Int.reduceNe, Int.reduceToNat, Int.reduceAdd, Int.reduceSub, Int.reduceMul, Int.reducePow, Int.reduceDiv, Int.reduceMod, Int.reduceNeg, reduceCtorEq, codeKey, List.contains, List.elem, Ev.load, peek, pack, storeV, fieldAddr, field, cvB, e4, hlt, decide_true])
    all_goals first | rfl | trace_state
  · rw [if_neg hl]
    have hlt : ¬ (65535 : Int) < (l.length : Int) := by omega
    cases l with
    | nil =>
      have e0 : (encD []).length = 0 := rfl
      rw [call_start lore_ext25 Tryd.func25 rfl lore_okf25 (Nat.le_of_ble_eq_true rfl)]
      repeat' (first | (refine cond_by (F := ans) (fun _ => ?_) (fun _ => ?_)) | (refine wayK_by (F := ans) (fun _ hb_ => ?_) (fun _ hb_ => ?_) <;> simp only [hb_]) | (refine wayK_byN (F := ans) (fun _ hb_ => ?_) (fun _ hb_ => ?_) <;> simp only [hb_]) | (refine wayD_by (F := ans) (fun _ hb_ => ?_) (fun _ hb_ => ?_) <;> simp only [hb_]) | (refine wayD_byN (F := ans) (fun _ hb_ => ?_) (fun _ hb_ => ?_) <;> simp only [hb_]) | (refine rdK_by (F := ans) (fun _ => ?_) (fun _ => ?_)) | (refine effK_by (F := ans) (fun _ => ?_) (fun _ => ?_)) | (refine effK_by2 (F := ans) (fun _ => ?_) (fun _ => ?_)) | (refine rdD_by (F := ans) (fun _ => ?_) (fun _ => ?_)) | (refine effD_by (F := ans) (fun _ => ?_) (fun _ => ?_)) | (refine effD_by2 (F := ans) (fun _ => ?_) (fun _ => ?_)) | simp -implicitDefEqProofs (disch := first | omega | (simp only [List.length_append, List.length_cons, List.length_nil, List.length_drop, List.length_take]; omega)) only [evs, tys, lors, Nat.reduceAdd, Nat.reduceSub, Nat.reduceMul, Nat.reducePow, Nat.reduceBEq, Nat.reduceLT, Nat.reduceLeDiff, Nat.reduceEqDiff, Int.reduceLT, Int.reduceLE, Int.reduceEq, Int.reduceNe, Int.reduceToNat, Int.reduceAdd, Int.reduceSub, Int.reduceMul, Int.reducePow, Int.reduceDiv, Int.reduceMod, Int.reduceNeg, reduceCtorEq, codeKey, List.contains, List.elem, Ev.load, peek, pack, storeV, fieldAddr, field, cvB, e0])
      rw [loopL_step' rfl]
      repeat' (first | (refine cond_by (F := ans) (fun _ => ?_) (fun _ => ?_)) | (refine wayK_by (F := ans) (fun _ hb_ => ?_) (fun _ hb_ => ?_) <;> simp only [hb_]) | (refine wayK_byN (F := ans) (fun _ hb_ => ?_) (fun _ hb_ => ?_) <;> simp only [hb_]) | (refine wayD_by (F := ans) (fun _ hb_ => ?_) (fun _ hb_ => ?_) <;> simp only [hb_]) | (refine wayD_byN (F := ans) (fun _ hb_ => ?_) (fun _ hb_ => ?_) <;> simp only [hb_]) | (refine rdK_by (F := ans) (fun _ => ?_) (fun _ => ?_)) | (refine effK_by (F := ans) (fun _ => ?_) (fun _ => ?_)) | (refine effK_by2 (F := ans) (fun _ => ?_) (fun _ => ?_)) | (refine rdD_by (F := ans) (fun _ => ?_) (fun _ => ?_)) | (refine effD_by (F := ans) (fun _ => ?_) (fun _ => ?_)) | (refine effD_by2 (F := ans) (fun _ => ?_) (fun _ => ?_)) | simp -implicitDefEqProofs (disch := first | omega | (simp only [List.length_append, List.length_cons, List.length_nil, List.length_drop, List.length_take]; omega)) only [evs, tys, lors, Nat.reduceAdd, Nat.reduceSub, Nat.reduceMul, Nat.reducePow, Nat.reduceBEq, Nat.reduceLT, Nat.reduceLeDiff, Nat.reduceEqDiff, Int.reduceLT, Int.reduceLE, Int.reduceEq, Int.reduceNe, Int.reduceToNat, Int.reduceAdd, Int.reduceSub, Int.reduceMul, Int.reducePow, Int.reduceDiv, Int.reduceMod, Int.reduceNeg, reduceCtorEq, codeKey, List.contains, List.elem, Ev.load, peek, pack, storeV, fieldAddr, field, cvB, e0])
      all_goals first | rfl | trace_state
    | cons p xs =>
      have hf := loopF (p :: xs) c (by omega)
      rw [fltL]
      rw [List.length_cons] at e4 hlt
      rw [call_start lore_ext25 Tryd.func25 rfl lore_okf25 (Nat.le_of_ble_eq_true rfl)]
      repeat' (first | (refine cond_by (F := ans) (fun _ => ?_) (fun _ => ?_)) | (refine wayK_by (F := ans) (fun _ hb_ => ?_) (fun _ hb_ => ?_) <;> simp only [hb_]) | (refine wayK_byN (F := ans) (fun _ hb_ => ?_) (fun _ hb_ => ?_) <;> simp only [hb_]) | (refine wayD_by (F := ans) (fun _ hb_ => ?_) (fun _ hb_ => ?_) <;> simp only [hb_]) | (refine wayD_byN (F := ans) (fun _ hb_ => ?_) (fun _ hb_ => ?_) <;> simp only [hb_]) | (refine rdK_by (F := ans) (fun _ => ?_) (fun _ => ?_)) | (refine effK_by (F := ans) (fun _ => ?_) (fun _ => ?_)) | (refine effK_by2 (F := ans) (fun _ => ?_) (fun _ => ?_)) | (refine rdD_by (F := ans) (fun _ => ?_) (fun _ => ?_)) | (refine effD_by (F := ans) (fun _ => ?_) (fun _ => ?_)) | (refine effD_by2 (F := ans) (fun _ => ?_) (fun _ => ?_)) | simp -implicitDefEqProofs (disch := first | omega | (simp only [List.length_append, List.length_cons, List.length_nil, List.length_drop, List.length_take]; omega)) only [evs, tys, lors, Nat.reduceAdd, Nat.reduceSub, Nat.reduceMul, Nat.reducePow, Nat.reduceBEq, Nat.reduceLT, Nat.reduceLeDiff, Nat.reduceEqDiff, Int.reduceLT, Int.reduceLE, Int.reduceEq, Int.reduceNe, Int.reduceToNat, Int.reduceAdd, Int.reduceSub, Int.reduceMul, Int.reducePow, Int.reduceDiv, Int.reduceMod, Int.reduceNeg, reduceCtorEq, codeKey, List.contains, List.elem, Ev.load, peek, pack, storeV, fieldAddr, field, cvB, e4, hlt, decide_false])
      refine hf _ (fun o => some (faultO o)) _ (by rfl) ?_ ?_ xs [] p _ rfl rfl
      · intro z
        repeat' (first | (refine cond_by (F := ans) (fun _ => ?_) (fun _ => ?_)) | (refine wayK_by (F := ans) (fun _ hb_ => ?_) (fun _ hb_ => ?_) <;> simp only [hb_]) | (refine wayK_byN (F := ans) (fun _ hb_ => ?_) (fun _ hb_ => ?_) <;> simp only [hb_]) | (refine wayD_by (F := ans) (fun _ hb_ => ?_) (fun _ hb_ => ?_) <;> simp only [hb_]) | (refine wayD_byN (F := ans) (fun _ hb_ => ?_) (fun _ hb_ => ?_) <;> simp only [hb_]) | (refine rdK_by (F := ans) (fun _ => ?_) (fun _ => ?_)) | (refine effK_by (F := ans) (fun _ => ?_) (fun _ => ?_)) | (refine effK_by2 (F := ans) (fun _ => ?_) (fun _ => ?_)) | (refine rdD_by (F := ans) (fun _ => ?_) (fun _ => ?_)) | (refine effD_by (F := ans) (fun _ => ?_) (fun _ => ?_)) | (refine effD_by2 (F := ans) (fun _ => ?_) (fun _ => ?_)) | simp -implicitDefEqProofs (disch := first | omega | (simp only [List.length_append, List.length_cons, List.length_nil, List.length_drop, List.length_take]; omega)) only [evs, tys, lors, Nat.reduceAdd, Nat.reduceSub, Nat.reduceMul, Nat.reducePow, Nat.reduceBEq, Nat.reduceLT, Nat.reduceLeDiff, Nat.reduceEqDiff, Int.reduceLT, Int.reduceLE, Int.reduceEq, Int.reduceNe, Int.reduceToNat, Int.reduceAdd, Int.reduceSub, Int.reduceMul, Int.reducePow, Int.reduceDiv, Int.reduceMod, Int.reduceNeg, reduceCtorEq, codeKey, List.contains, List.elem, Ev.load, peek, pack, storeV, fieldAddr, field, cvB])
        all_goals first | rfl | trace_state
      · intro j
        repeat' (first | (refine cond_by (F := ans) (fun _ => ?_) (fun _ => ?_)) | (refine wayK_by (F := ans) (fun _ hb_ => ?_) (fun _ hb_ => ?_) <;> simp only [hb_]) | (refine wayK_byN (F := ans) (fun _ hb_ => ?_) (fun _ hb_ => ?_) <;> simp only [hb_]) | (refine wayD_by (F := ans) (fun _ hb_ => ?_) (fun _ hb_ => ?_) <;> simp only [hb_]) | (refine wayD_byN (F := ans) (fun _ hb_ => ?_) (fun _ hb_ => ?_) <;> simp only [hb_]) | (refine rdK_by (F := ans) (fun _ => ?_) (fun _ => ?_)) | (refine effK_by (F := ans) (fun _ => ?_) (fun _ => ?_)) | (refine effK_by2 (F := ans) (fun _ => ?_) (fun _ => ?_)) | (refine rdD_by (F := ans) (fun _ => ?_) (fun _ => ?_)) | (refine effD_by (F := ans) (fun _ => ?_) (fun _ => ?_)) | (refine effD_by2 (F := ans) (fun _ => ?_) (fun _ => ?_)) | simp -implicitDefEqProofs (disch := first | omega | (simp only [List.length_append, List.length_cons, List.length_nil, List.length_drop, List.length_take]; omega)) only [evs, tys, lors, Nat.reduceAdd, Nat.reduceSub, Nat.reduceMul, Nat.reducePow, Nat.reduceBEq, Nat.reduceLT, Nat.reduceLeDiff, Nat.reduceEqDiff, Int.reduceLT, Int.reduceLE, Int.reduceEq, Int.reduceNe, Int.reduceToNat, Int.reduceAdd, Int.reduceSub, Int.reduceMul, Int.reducePow, Int.reduceDiv, Int.reduceMod, Int.reduceNeg, reduceCtorEq, codeKey, List.contains, List.elem, Ev.load, peek, pack, storeV, fieldAddr, field, cvB])
        all_goals first | rfl | trace_state
/-! All. -/
abbrev FB (f : Fr) : Box := ⟨[.bool f.there, .int .i64 f.l, .int .i64 f.t], 0, false, false⟩
def AB (H : Heap) (r : Nat) (f : Fr) (bits : List Int) : Heap := (H.set 0 (FB f)).set r ⟨enc8 bits, 1, true, false⟩
section ab
variable {H : Heap} {r : Nat} {f : Fr} {bits : List Int}
theorem ab_0 (h1 : 0 < H.length) (h2 : r < H.length) (h3 : 0 ≠ r) : (AB H r f bits)[0]? = some (FB f) := two_h h1 h2 h3 _ _
theorem ab_r (h1 : 0 < H.length) (h2 : r < H.length) (h3 : 0 ≠ r) : (AB H r f bits)[r]? = some ⟨enc8 bits, 1, true, false⟩ := two_r h1 h2 h3 _ _
theorem ab_s0 (h1 : 0 < H.length) (h2 : r < H.length) (h3 : 0 ≠ r) (f' : Fr) : (AB H r f bits).set 0 ⟨[.bool f'.there, .int .i64 f'.l, .int .i64 f'.t], 0, false, false⟩ = AB H r f' bits := two_sh h1 h2 h3 _ _ _
theorem ab_sr (h1 : 0 < H.length) (h2 : r < H.length) (h3 : 0 ≠ r) (b : List Int) : (AB H r f bits).set r ⟨enc8 b, 1, true, false⟩ = AB H r f b := two_sr h1 h2 h3 _ _ _
theorem ab_app (h1 : 0 < H.length) (h2 : r < H.length) (x : Box) : AB H r f bits ++ [x] = AB (H ++ [x]) r f bits := by
  unfold AB
  rw [List.set_append_left _ _ h1, List.set_append_left _ _ (by rw [List.length_set]; exact h2)]
theorem ab_len : (AB H r f bits).length = H.length := by unfold AB; simp
theorem ab_new (h1 : 0 < H.length) (h2 : r < H.length) (x : Box) : (AB (H ++ [x]) r f bits)[H.length]? = some x := by
  rw [← ab_app h1 h2, List.getElem?_append_right (by rw [ab_len]; exact Nat.le_refl _), ab_len, Nat.sub_self]
  rfl
theorem ab_snew (h1 : 0 < H.length) (h2 : r < H.length) (x y : Box) : (AB (H ++ [x]) r f bits).set H.length y = AB (H ++ [y]) r f bits := by
  rw [← ab_app h1 h2, ← ab_app h1 h2, List.set_append_right _ _ (by rw [ab_len]; exact Nat.le_refl _), ab_len, Nat.sub_self]
  rfl
theorem ab_append (h1 : 0 < H.length) (h2 : r < H.length) (h3 : 0 ≠ r) (b : List Int) (tot : Nat) (ht : bits.length = tot) (hb : tot + b.length ≤ 100000000000) : appendV Tryd.prog (AB H r f bits) 34 (.row r tot) (enc8 b) = some (.row r (tot + b.length), AB H r f (bits ++ b)) := by
  rw [a34_row (ab_r h1 h2 h3) ht hb, ab_sr h1 h2 h3]
end ab
attribute [local irreducible] AB
abbrev dotB (p : Int × Nat) : Box := ⟨[.int .i64 p.1, .fl .f64 p.2], 0, false, false⟩
theorem loopAll (l : List (Int × Nat)) (c : Bool) (hd : DotsOk l) (hlen : l.length ≤ 65535) (a : Code) (ha : loopIn Tryd.prog 16 5 = some a) :
    ∀ (xs ad : List (Int × Nat)) (pa : Int × Nat) (H : Heap) (r : Nat) (bits : List Int) (s : ES) (was z : Int), l = ad ++ pa :: xs → s.i = ad.length + 1 → z = (ad.length : Int) + 1 → 0 < H.length → r < H.length → 0 ≠ r → ESOk s → FrOk s.fr → s.at_ = pa.1 → s.value = vbN pa.2 → (2 ≤ s.i → was = s.step) → bits.length + 160 * xs.length ≤ 4000000000 →
    ∃ H' f' was', 0 < List.length H' ∧ r < List.length H' ∧ ∀ K : Kont,
      ans (loopL lore 16 a (Sl 96 .wild [(0, .sl (encD l) 2 c), (3, .row r bits.length), (4, .ptr 0 0), (5, .int .u64 was), (11, .sl (encD l) 2 c), (12, .int .i64 l.length), (13, .int .i64 z)]) (AB H r s.fr bits) K) =
      ans (K (.exit 0) (Sl 96 .wild [(0, .sl (encD l) 2 c), (3, .row r (bits ++ encL vbN s xs).length), (4, .ptr 0 0), (5, .int .u64 was'), (11, .sl (encD l) 2 c), (12, .int .i64 l.length), (13, .int .i64 l.length)]) (AB H' r f' (bits ++ encL vbN s xs))) := by
  have hk := loop_key ha
  simp only [loopIn, Tryd.func16, Tryd.f16, loopAt, Option.bind_some, codeKey, if_true, Option.some.injEq, Nat.reduceEqDiff, if_false] at ha
  intro xs
  induction xs with
  | nil =>
    intro ad pa H r bits s was z hl hi hz h1 h2 h3 hs hf hat hv hw hbl
    refine ⟨H, s.fr, was, h1, h2, fun K => ?_⟩
    have hll : (l.length : Int) = (ad.length : Int) + 1 := by rw [hl]; simp
    have hn : ¬ (ad.length : Int) + 1 < (ad.length : Int) + 1 := by omega
    subst hz
    rw [hll]
    simp only [encL, List.append_nil]
    rw [loopL_step' ha]
    repeat' (first | (refine cond_by (F := ans) (fun _ => ?_) (fun _ => ?_)) | (refine wayK_by (F := ans) (fun _ hb_ => ?_) (fun _ hb_ => ?_) <;> simp only [hb_]) | (refine wayK_byN (F := ans) (fun _ hb_ => ?_) (fun _ hb_ => ?_) <;> simp only [hb_]) | (refine wayD_by (F := ans) (fun _ hb_ => ?_) (fun _ hb_ => ?_) <;> simp only [hb_]) | (refine wayD_byN (F := ans) (fun _ hb_ => ?_) (fun _ hb_ => ?_) <;> simp only [hb_]) | (refine rdK_by (F := ans) (fun _ => ?_) (fun _ => ?_)) | (refine effK_by (F := ans) (fun _ => ?_) (fun _ => ?_)) | (refine effK_by2 (F := ans) (fun _ => ?_) (fun _ => ?_)) | (refine rdD_by (F := ans) (fun _ => ?_) (fun _ => ?_)) | (refine effD_by (F := ans) (fun _ => ?_) (fun _ => ?_)) | (refine effD_by2 (F := ans) (fun _ => ?_) (fun _ => ?_)) | simp -implicitDefEqProofs (disch := first | omega | (simp only [List.length_append, List.length_cons, List.length_nil, List.length_drop, List.length_take]; omega)) only [evs, tys, lors, Nat.reduceAdd, Nat.reduceSub, Nat.reduceMul, Nat.reducePow, Nat.reduceBEq, Nat.reduceLT, Nat.reduceLeDiff, Nat.reduceEqDiff, Int.reduceLT, Int.reduceLE, Int.reduceEq, Int.reduceNe, Int.reduceToNat, Int.reduceAdd, Int.reduceSub, Int.reduceMul, Int.reducePow, Int.reduceDiv, Int.reduceMod, Int.reduceNeg, reduceCtorEq, codeKey, List.contains, List.elem, Ev.load, peek, pack, storeV, fieldAddr, field, cvB, hk, hn, decide_false])
  | cons p xs ih =>
    intro ad pa H r bits s was z hl hi hz h1 h2 h3 hs hf hat hv hw hbl
    have hl2 : l = (ad ++ [pa]) ++ p :: xs := by rw [hl, List.append_assoc]; rfl
    obtain ⟨hp1, hp2⟩ := hd p (by rw [hl2]; simp)
    obtain ⟨hpa1, hpa2⟩ := hd pa (by rw [hl]; simp)
    have hll : l.length = ad.length + 1 + (xs.length + 1) := by rw [hl2]; simp; omega
    have hlt : z < (l.length : Int) := by omega
    have e1 : (encD l)[z.toNat]? = some (.agg [.int .i64 p.1, .fl .f64 p.2]) := by
      rw [hz, show ((ad.length : Int) + 1).toNat = (ad ++ [pa]).length by simp, hl2]
      exact encD_get _ p xs
    have e0 : (encD l)[(z - 1).toNat]? = some (.agg [.int .i64 pa.1, .fl .f64 pa.2]) := by
      rw [hz, show ((ad.length : Int) + 1 - 1).toNat = ad.length by omega, hl]
      exact encD_get ad pa _
    have e4 := encD_len l
    have hz0 : 0 ≤ z ∧ z ≤ 100000 := by omega
    have lB : 0 < (H ++ [dotB p]).length ∧ r < (H ++ [dotB p]).length := by simp; omega
    have hst := encPt_st hp1 (vbN_lt hp2) hs hf
    have hpl := encPt_le s p.1 (vbN p.2)
    have hsub : IntKind.u64.wrap (IntKind.u64.wrap p.1 - IntKind.u64.wrap pa.1) = (p.1 - s.at_) % 18446744073709551616 := by
      rw [IntKind.wrap_u64, IntKind.wrap_u64, IntKind.wrap_u64, hat]; omega
    have hxv := value_cv p.2 pa.2 hp2 hpa2 s.fr hf
    rw [← hv] at hxv
    have ihh := ih (ad ++ [pa]) p (H ++ [dotB p]) r (bits ++ (encPt s p.1 (vbN p.2)).1) (encPt s p.1 (vbN p.2)).2 ((p.1 - s.at_) % 18446744073709551616) (z + 1) hl2 (by rw [hst.1, hi]; simp) (by rw [hz]; simp) lB.1 lB.2 h3 hst.2.2.1 hst.2.2.2 hst.2.1 (by unfold encPt; split <;> rfl) (by unfold encPt; intro _; split <;> rfl) (by simp only [List.length_append, List.length_cons, List.length_nil]; simp only [List.length_cons] at hbl; omega)
    obtain ⟨H', f', was', q1, q2, q3⟩ := ihh
    refine ⟨H', f', was', q1, q2, fun K => ?_⟩
    rw [encL, ← List.append_assoc]
    refine Eq.trans ?_ (q3 K)
    clear ih q3
    have hstb : 0 ≤ (p.1 - s.at_) % 18446744073709551616 ∧ (p.1 - s.at_) % 18446744073709551616 < 18446744073709551616 := by omega
    generalize hstd : (p.1 - s.at_) % 18446744073709551616 = st at *
    obtain ⟨si, sat, sst, sv, sf⟩ := s
    simp only at hi hat hv hw hbl hf hxv hstd ⊢
    match si, hi, hw with
    | 0, hi, _ => omega
    | 1, hi, _ =>
      have hz1 : z = 1 := by omega
      subst hz1
      have hv1 := varint_ref st hstb.1 hstb.2
      simp only [encPt, hstd] at hpl ⊢
      rw [List.length_append] at hpl
      generalize hx : vbN p.2 ^^^ sv = x at *
      have a1 := fun (f : Fr) => ab_append (H := H ++ [dotB p]) (f := f) (bits := bits) lB.1 lB.2 h3 (varF 10 st) bits.length rfl (by omega)
      have a2 := fun (f : Fr) => ab_append (H := H ++ [dotB p]) (f := f) (bits := bits ++ varF 10 st) lB.1 lB.2 h3 (xorB x sf).1 (bits.length + (varF 10 st).length) (by rw [List.length_append]) (by omega)
      have hlen2 : (bits ++ (varF 10 st ++ (xorB x sf).1)).length = bits.length + (varF 10 st).length + (xorB x sf).1.length := by simp only [List.length_append]; omega
      rw [hlen2, ← List.append_assoc]
      have e0' : (encD l)[0]? = some (.agg [.int .i64 pa.1, .fl .f64 pa.2]) := e0
      have e1' : (encD l)[1]? = some (.agg [.int .i64 p.1, .fl .f64 p.2]) := e1
      rw [loopL_step' ha]
      generalize (xorB x sf).2 = g at *
      generalize (xorB x sf).1 = xb at *
      generalize varF 10 st = vb at *
      have g0 := fun (f : Fr) (b : List Int) => ab_0 (H := H ++ [dotB p]) (f := f) (bits := b) lB.1 lB.2 h3
      have g1 := fun (f f' : Fr) (b : List Int) => ab_s0 (H := H ++ [dotB p]) (f := f) (bits := b) lB.1 lB.2 h3 f'
      have g2 := fun (f : Fr) (b : List Int) (x : Box) => ab_new (f := f) (bits := b) h1 h2 x
      have g3 := fun (f : Fr) (b : List Int) (x y : Box) => ab_snew (f := f) (bits := b) h1 h2 x y
      have g4 := fun (f : Fr) (b : List Int) (x : Box) => ab_app (f := f) (bits := b) h1 h2 x
      repeat' (first | (refine cond_by (F := ans) (fun _ => ?_) (fun _ => ?_)) | (refine wayK_by (F := ans) (fun _ hb_ => ?_) (fun _ hb_ => ?_) <;> simp only [hb_]) | (refine wayK_byN (F := ans) (fun _ hb_ => ?_) (fun _ hb_ => ?_) <;> simp only [hb_]) | (refine wayD_by (F := ans) (fun _ hb_ => ?_) (fun _ hb_ => ?_) <;> simp only [hb_]) | (refine wayD_byN (F := ans) (fun _ hb_ => ?_) (fun _ hb_ => ?_) <;> simp only [hb_]) | (refine rdK_by (F := ans) (fun _ => ?_) (fun _ => ?_)) | (refine effK_by (F := ans) (fun _ => ?_) (fun _ => ?_)) | (refine effK_by2 (F := ans) (fun _ => ?_) (fun _ => ?_)) | (refine rdD_by (F := ans) (fun _ => ?_) (fun _ => ?_)) | (refine effD_by (F := ans) (fun _ => ?_) (fun _ => ?_)) | (refine effD_by2 (F := ans) (fun _ => ?_) (fun _ => ?_)) | simp -implicitDefEqProofs (disch := first | omega | (simp only [List.length_append, List.length_cons, List.length_nil, List.length_drop, List.length_take]; omega)) only [evs, tys, lors, Nat.reduceAdd, Nat.reduceSub, Nat.reduceMul, Nat.reducePow, Nat.reduceBEq, Nat.reduceLT, Nat.reduceLeDiff, Nat.reduceEqDiff, Int.reduceLT, Int.reduceLE, Int.reduceEq, Int.reduceNe, Int.reduceToNat, Int.reduceAdd, Int.reduceSub, Int.reduceMul, Int.reducePow, Int.reduceDiv, Int.reduceMod, Int.reduceNeg, reduceCtorEq, codeKey, List.contains, List.elem, Ev.load, peek, pack, storeV, fieldAddr, field, cvB, hk, hlt, e0', e1', e4, hsub, hxv, hv1, a1, a2, g0, g1, g2, g3, g4, ab_len, s34_sl, decide_true, decide_false])
      all_goals repeat (rw [chkB_bit (by kernel_rfl)])
      repeat' (first | (refine cond_by (F := ans) (fun _ => ?_) (fun _ => ?_)) | (refine wayK_by (F := ans) (fun _ hb_ => ?_) (fun _ hb_ => ?_) <;> simp only [hb_]) | (refine wayK_byN (F := ans) (fun _ hb_ => ?_) (fun _ hb_ => ?_) <;> simp only [hb_]) | (refine wayD_by (F := ans) (fun _ hb_ => ?_) (fun _ hb_ => ?_) <;> simp only [hb_]) | (refine wayD_byN (F := ans) (fun _ hb_ => ?_) (fun _ hb_ => ?_) <;> simp only [hb_]) | (refine rdK_by (F := ans) (fun _ => ?_) (fun _ => ?_)) | (refine effK_by (F := ans) (fun _ => ?_) (fun _ => ?_)) | (refine effK_by2 (F := ans) (fun _ => ?_) (fun _ => ?_)) | (refine rdD_by (F := ans) (fun _ => ?_) (fun _ => ?_)) | (refine effD_by (F := ans) (fun _ => ?_) (fun _ => ?_)) | (refine effD_by2 (F := ans) (fun _ => ?_) (fun _ => ?_)) | simp -implicitDefEqProofs (disch := first | omega | (simp only [List.length_append, List.length_cons, List.length_nil, List.length_drop, List.length_take]; omega)) only [evs, tys, lors, Nat.reduceAdd, Nat.reduceSub, Nat.reduceMul, Nat.reducePow, Nat.reduceBEq, Nat.reduceLT, Nat.reduceLeDiff, Nat.reduceEqDiff, Int.reduceLT, Int.reduceLE, Int.reduceEq, Int.reduceNe, Int.reduceToNat, Int.reduceAdd, Int.reduceSub, Int.reduceMul, Int.reducePow, Int.reduceDiv, Int.reduceMod, Int.reduceNeg, reduceCtorEq, codeKey, List.contains, List.elem, Ev.load, peek, pack, storeV, fieldAddr, field, cvB, hk, hlt, e0', e1', e4, hsub, hxv, hv1, a1, a2, g0, g1, g2, g3, g4, ab_len, s34_sl, decide_true, decide_false])
      all_goals first | rfl | trace_state
    | i + 2, hi, hw =>
      have hww := hw (by omega)
      subst hww
      obtain ⟨o1, o2, o3⟩ := hs
      simp only at o1 o2 o3
      have hz2 : ¬ z = 0 ∧ ¬ z = 1 := by omega
      have hd2 : IntKind.i64.wrap (IntKind.u64.wrap (st - was)) = wrapS (st - was) := by
        rw [IntKind.wrap_u64, IntKind.wrap_i64]; unfold wrapS; omega
      have hdb : -9223372036854775808 ≤ wrapS (st - was) ∧ wrapS (st - was) ≤ 9223372036854775807 := by unfold wrapS; omega
      have hv1 := step_cv (wrapS (st - was)) hdb
      simp only [encPt, hstd] at hpl ⊢
      rw [List.length_append] at hpl
      generalize wrapS (st - was) = dd at *
      generalize hx : vbN p.2 ^^^ sv = x at *
      have a1 := fun (f : Fr) => ab_append (H := H ++ [dotB p]) (f := f) (bits := bits) lB.1 lB.2 h3 (difB dd) bits.length rfl (by omega)
      have a2 := fun (f : Fr) => ab_append (H := H ++ [dotB p]) (f := f) (bits := bits ++ difB dd) lB.1 lB.2 h3 (xorB x sf).1 (bits.length + (difB dd).length) (by rw [List.length_append]) (by omega)
      have hlen2 : (bits ++ (difB dd ++ (xorB x sf).1)).length = bits.length + (difB dd).length + (xorB x sf).1.length := by simp only [List.length_append]; omega
      rw [hlen2, ← List.append_assoc]
      rw [loopL_step' ha]
      generalize (xorB x sf).2 = g at *
      generalize (xorB x sf).1 = xb at *
      generalize difB dd = vb at *
      have g0 := fun (f : Fr) (b : List Int) => ab_0 (H := H ++ [dotB p]) (f := f) (bits := b) lB.1 lB.2 h3
      have g1 := fun (f f' : Fr) (b : List Int) => ab_s0 (H := H ++ [dotB p]) (f := f) (bits := b) lB.1 lB.2 h3 f'
      have g2 := fun (f : Fr) (b : List Int) (x : Box) => ab_new (f := f) (bits := b) h1 h2 x
      have g3 := fun (f : Fr) (b : List Int) (x y : Box) => ab_snew (f := f) (bits := b) h1 h2 x y
      have g4 := fun (f : Fr) (b : List Int) (x : Box) => ab_app (f := f) (bits := b) h1 h2 x
      repeat' (first | (refine cond_by (F := ans) (fun _ => ?_) (fun _ => ?_)) | (refine wayK_by (F := ans) (fun _ hb_ => ?_) (fun _ hb_ => ?_) <;> simp only [hb_]) | (refine wayK_byN (F := ans) (fun _ hb_ => ?_) (fun _ hb_ => ?_) <;> simp only [hb_]) | (refine wayD_by (F := ans) (fun _ hb_ => ?_) (fun _ hb_ => ?_) <;> simp only [hb_]) | (refine wayD_byN (F := ans) (fun _ hb_ => ?_) (fun _ hb_ => ?_) <;> simp only [hb_]) | (refine rdK_by (F := ans) (fun _ => ?_) (fun _ => ?_)) | (refine effK_by (F := ans) (fun _ => ?_) (fun _ => ?_)) | (refine effK_by2 (F := ans) (fun _ => ?_) (fun _ => ?_)) | (refine rdD_by (F := ans) (fun _ => ?_) (fun _ => ?_)) | (refine effD_by (F := ans) (fun _ => ?_) (fun _ => ?_)) | (refine effD_by2 (F := ans) (fun _ => ?_) (fun _ => ?_)) | simp -implicitDefEqProofs (disch := first | omega | (simp only [List.length_append, List.length_cons, List.length_nil, List.length_drop, List.length_take]; omega)) only [evs, tys, lors, Nat.reduceAdd, Nat.reduceSub, Nat.reduceMul, Nat.reducePow, Nat.reduceBEq, Nat.reduceLT, Nat.reduceLeDiff, Nat.reduceEqDiff, Int.reduceLT, Int.reduceLE, Int.reduceEq, Int.reduceNe, Int.reduceToNat, Int.reduceAdd, Int.reduceSub, Int.reduceMul, Int.reducePow, Int.reduceDiv, Int.reduceMod, Int.reduceNeg, reduceCtorEq, codeKey, List.contains, List.elem, Ev.load, peek, pack, storeV, fieldAddr, field, cvB, hk, hlt, hz2.1, hz2.2, e0, e1, e4, hsub, hd2, hxv, hv1, a1, a2, g0, g1, g2, g3, g4, ab_len, s34_sl, decide_true, decide_false])
      all_goals repeat (rw [chkB_bit (by kernel_rfl)])
      repeat' (first | (refine cond_by (F := ans) (fun _ => ?_) (fun _ => ?_)) | (refine wayK_by (F := ans) (fun _ hb_ => ?_) (fun _ hb_ => ?_) <;> simp only [hb_]) | (refine wayK_byN (F := ans) (fun _ hb_ => ?_) (fun _ hb_ => ?_) <;> simp only [hb_]) | (refine wayD_by (F := ans) (fun _ hb_ => ?_) (fun _ hb_ => ?_) <;> simp only [hb_]) | (refine wayD_byN (F := ans) (fun _ hb_ => ?_) (fun _ hb_ => ?_) <;> simp only [hb_]) | (refine rdK_by (F := ans) (fun _ => ?_) (fun _ => ?_)) | (refine effK_by (F := ans) (fun _ => ?_) (fun _ => ?_)) | (refine effK_by2 (F := ans) (fun _ => ?_) (fun _ => ?_)) | (refine rdD_by (F := ans) (fun _ => ?_) (fun _ => ?_)) | (refine effD_by (F := ans) (fun _ => ?_) (fun _ => ?_)) | (refine effD_by2 (F := ans) (fun _ => ?_) (fun _ => ?_)) | simp -implicitDefEqProofs (disch := first | omega | (simp only [List.length_append, List.length_cons, List.length_nil, List.length_drop, List.length_take]; omega)) only [evs, tys, lors, Nat.reduceAdd, Nat.reduceSub, Nat.reduceMul, Nat.reducePow, Nat.reduceBEq, Nat.reduceLT, Nat.reduceLeDiff, Nat.reduceEqDiff, Int.reduceLT, Int.reduceLE, Int.reduceEq, Int.reduceNe, Int.reduceToNat, Int.reduceAdd, Int.reduceSub, Int.reduceMul, Int.reducePow, Int.reduceDiv, Int.reduceMod, Int.reduceNeg, reduceCtorEq, codeKey, List.contains, List.elem, Ev.load, peek, pack, storeV, fieldAddr, field, cvB, hk, hlt, hz2.1, hz2.2, e0, e1, e4, hsub, hd2, hxv, hv1, a1, a2, g0, g1, g2, g3, g4, ab_len, s34_sl, decide_true, decide_false])
      all_goals first | rfl | trace_state
theorem give_row1 {H : Heap} {i tot : Nat} {q : List Int} (hH : H[i]? = some ⟨enc8 q, 1, true, false⟩) (hl : q.length = tot) : giveP false H (.row i tot) = some (.sl (enc8 q) 1 false) := by
  show (fz2 H (.row i tot)).map _ = _
  have e1 : fz2 H (.row i tot) = some (.sl (enc8 q) 1 false, H.set i ⟨enc8 q, 1, true, true⟩) := by
    show fz1 H (.row i tot) = _
    simp only [fz1, hH]
    rw [if_pos ⟨Nat.zero_lt_one, by rw [enc8_len]; exact hl, trivial⟩]
  rw [e1]
  rfl
def allV (l : List (Int × Nat)) : V := if l = [] then .nils else .sl (enc8 (encL vbN E0 l)) 1 false
theorem jn3 (p q r : List Int) (v : V) (hv : Part v p) (c d : Bool) (hl : p.length + q.length + r.length ≤ 100000000000) (H : Heap) : callV (CL lore) 39 [.sl [v, .sl (enc8 q) 1 c, .sl (enc8 r) 1 d] 1 true] H = some (.row H.length (p.length + q.length + r.length), H ++ [⟨enc8 (p ++ q ++ r), 1, true, false⟩]) := join3 hv (part_sl q c) (part_sl r d) hl H
theorem all_cv (l : List (Int × Nat)) (c : Bool) (hd : DotsOk l) (hlen : l.length ≤ 65535) (H : Heap) : callV (CL lore) 16 [.sl (encD l) 2 c] H = some (allV l, H) := by
  refine callV_ans (r := some _) ?_ lore_sh16 rfl H
  unfold allV
  have e4 := encD_len l
  cases l with
  | nil =>
    rw [if_pos rfl]
    have e0 : (encD []).length = 0 := rfl
    rw [call_start lore_ext16 Tryd.func16 rfl lore_okf16 (Nat.le_of_ble_eq_true rfl)]
    repeat' (first | (refine cond_by (F := ans) (fun _ => ?_) (fun _ => ?_)) | (refine wayK_by (F := ans) (fun _ hb_ => ?_) (fun _ hb_ => ?_) <;> simp only [hb_]) | (refine wayK_byN (F := ans) (fun _ hb_ => ?_) (fun _ hb_ => ?_) <;> simp only [hb_]) | (refine wayD_by (F := ans) (fun _ hb_ => ?_) (fun _ hb_ => ?_) <;> simp only [hb_]) | (refine wayD_byN (F := ans) (fun _ hb_ => ?_) (fun _ hb_ => ?_) <;> simp only [hb_]) | (refine rdK_by (F := ans) (fun _ => ?_) (fun _ => ?_)) | (refine effK_by (F := ans) (fun _ => ?_) (fun _ => ?_)) | (refine effK_by2 (F := ans) (fun _ => ?_) (fun _ => ?_)) | (refine rdD_by (F := ans) (fun _ => ?_) (fun _ => ?_)) | (refine effD_by (F := ans) (fun _ => ?_) (fun _ => ?_)) | (refine effD_by2 (F := ans) (fun _ => ?_) (fun _ => ?_)) | simp -implicitDefEqProofs (disch := first | omega | (simp only [List.length_append, List.length_cons, List.length_nil, List.length_drop, List.length_take]; omega)) only [evs, tys, lors, Nat.reduceAdd, Nat.reduceSub, Nat.reduceMul, Nat.reducePow, Nat.reduceBEq, Nat.reduceLT, Nat.reduceLeDiff, Nat.reduceEqDiff, Int.reduceLT, Int.reduceLE, Int.reduceEq, Int.reduceNe, Int.reduceToNat, Int.reduceAdd, Int.reduceSub, Int.reduceMul, Int.reducePow, Int.reduceDiv, Int.reduceMod, Int.reduceNeg, reduceCtorEq, codeKey, List.contains, List.elem, Ev.load, peek, pack, storeV, fieldAddr, field, cvB, e0])
    rw [loopL_step' rfl]
    repeat' (first | (refine cond_by (F := ans) (fun _ => ?_) (fun _ => ?_)) | (refine wayK_by (F := ans) (fun _ hb_ => ?_) (fun _ hb_ => ?_) <;> simp only [hb_]) | (refine wayK_byN (F := ans) (fun _ hb_ => ?_) (fun _ hb_ => ?_) <;> simp only [hb_]) | (refine wayD_by (F := ans) (fun _ hb_ => ?_) (fun _ hb_ => ?_) <;> simp only [hb_]) | (refine wayD_byN (F := ans) (fun _ hb_ => ?_) (fun _ hb_ => ?_) <;> simp only [hb_]) | (refine rdK_by (F := ans) (fun _ => ?_) (fun _ => ?_)) | (refine effK_by (F := ans) (fun _ => ?_) (fun _ => ?_)) | (refine effK_by2 (F := ans) (fun _ => ?_) (fun _ => ?_)) | (refine rdD_by (F := ans) (fun _ => ?_) (fun _ => ?_)) | (refine effD_by (F := ans) (fun _ => ?_) (fun _ => ?_)) | (refine effD_by2 (F := ans) (fun _ => ?_) (fun _ => ?_)) | simp -implicitDefEqProofs (disch := first | omega | (simp only [List.length_append, List.length_cons, List.length_nil, List.length_drop, List.length_take]; omega)) only [evs, tys, lors, Nat.reduceAdd, Nat.reduceSub, Nat.reduceMul, Nat.reducePow, Nat.reduceBEq, Nat.reduceLT, Nat.reduceLeDiff, Nat.reduceEqDiff, Int.reduceLT, Int.reduceLE, Int.reduceEq, Int.reduceNe, Int.reduceToNat, Int.reduceAdd, Int.reduceSub, Int.reduceMul, Int.reducePow, Int.reduceDiv, Int.reduceMod, Int.reduceNeg, reduceCtorEq, codeKey, List.contains, List.elem, Ev.load, peek, pack, storeV, fieldAddr, field, cvB, e0])
    all_goals first | rfl | trace_state
  | cons p xs =>
    rw [if_neg (by simp)]
    obtain ⟨hp1, hp2⟩ := hd p (by simp)
    obtain ⟨a, ha⟩ : ∃ a, loopIn Tryd.prog 16 5 = some a := ⟨_, rfl⟩
    have hz := zig_facts hp1
    have hst := encPt_st hp1 (vbN_lt hp2) E0_ok.1 E0_ok.2
    have hpl := encPt_le E0 p.1 (vbN p.2)
    have hA := loopAll (p :: xs) c hd hlen a ha xs [] p [FB E0.fr, dotB p, Z0] 2 (encPt E0 p.1 (vbN p.2)).1 (encPt E0 p.1 (vbN p.2)).2 0 1 rfl hst.1 rfl (by simp) (by simp) (by decide) hst.2.2.1 hst.2.2.2 hst.2.1 rfl (fun h => by rw [hst.1] at h; exact absurd h (by decide)) (by simp only [List.length_cons] at hlen; omega)
    obtain ⟨H', f', was', q1, q2, q3⟩ := hA
    rw [encL]
    have hfr : (encPt E0 p.1 (vbN p.2)).2.fr = E0.fr := rfl
    rw [hfr] at q3
    have h1 := signed_cv p.1 hp1
    have h2 := varint_ref (zig p.1) hz.1 hz.2.1
    have h3 := rbits_cv p.2 hp2
    have h4 := num_z (vbN p.2 : Int) ⟨by omega, by have := vbN_lt hp2; omega⟩ 64 (by decide) (by decide) 64 rfl
    have hbits : (encPt E0 p.1 (vbN p.2)).1 = varF 10 (zig p.1) ++ numB (vbN p.2 : Nat) 64 := rfl
    rw [hbits] at q3 hpl ⊢
    rw [List.length_append] at hpl
    simp only [List.length_append] at q3
    have hab : AB [FB E0.fr, dotB p, Z0] 2 E0.fr (varF 10 (zig p.1) ++ numB (vbN p.2 : Nat) 64) = [FB E0.fr, dotB p, ⟨enc8 (varF 10 (zig p.1) ++ numB (vbN p.2 : Nat) 64), 1, true, false⟩] := by
      unfold AB; rfl
    rw [hab] at q3
    have h5 := jn3 [] (varF 10 (zig p.1)) (numB (vbN p.2 : Nat) 64) .nils (Or.inl ⟨rfl, rfl⟩) false false (by simp only [List.length_nil]; omega)
    simp only [List.nil_append, List.length_nil, Nat.zero_add] at h5
    have hgv := give_row1 (tot := (varF 10 (zig p.1)).length + (numB (vbN p.2 : Nat) 64).length + (encL vbN (encPt E0 p.1 (vbN p.2)).2 xs).length) (ab_r (f := f') (bits := varF 10 (zig p.1) ++ numB (vbN p.2 : Nat) 64 ++ encL vbN (encPt E0 p.1 (vbN p.2)).2 xs) q1 q2 (by decide)) (by simp only [List.length_append])
    generalize encL vbN (encPt E0 p.1 (vbN p.2)).2 xs = rest at *
    generalize varF 10 (zig p.1) = b1 at *
    generalize numB (vbN p.2 : Nat) 64 = b2 at *
    simp only [FB, E0] at q3
    rw [List.length_cons] at q3 e4
    have e1 : (encD (p :: xs))[0]? = some (.agg [.int .i64 p.1, .fl .f64 p.2]) := rfl
    have hl0 : (0 : Int) < ((xs.length + 1 : Nat) : Int) := by omega
    rw [call_start lore_ext16 Tryd.func16 rfl lore_okf16 (Nat.le_of_ble_eq_true rfl)]
    repeat' (first | (refine cond_by (F := ans) (fun _ => ?_) (fun _ => ?_)) | (refine wayK_by (F := ans) (fun _ hb_ => ?_) (fun _ hb_ => ?_) <;> simp only [hb_]) | (refine wayK_byN (F := ans) (fun _ hb_ => ?_) (fun _ hb_ => ?_) <;> simp only [hb_]) | (refine wayD_by (F := ans) (fun _ hb_ => ?_) (fun _ hb_ => ?_) <;> simp only [hb_]) | (refine wayD_byN (F := ans) (fun _ hb_ => ?_) (fun _ hb_ => ?_) <;> simp only [hb_]) | (refine rdK_by (F := ans) (fun _ => ?_) (fun _ => ?_)) | (refine effK_by (F := ans) (fun _ => ?_) (fun _ => ?_)) | (refine effK_by2 (F := ans) (fun _ => ?_) (fun _ => ?_)) | (refine rdD_by (F := ans) (fun _ => ?_) (fun _ => ?_)) | (refine effD_by (F := ans) (fun _ => ?_) (fun _ => ?_)) | (refine effD_by2 (F := ans) (fun _ => ?_) (fun _ => ?_)) | simp -implicitDefEqProofs (disch := first | omega | (simp only [List.length_append, List.length_cons, List.length_nil, List.length_drop, List.length_take]; omega)) only [evs, tys, lors, Nat.reduceAdd, Nat.reduceSub, Nat.reduceMul, Nat.reducePow, Nat.reduceBEq, Nat.reduceLT, Nat.reduceLeDiff, Nat.reduceEqDiff, Int.reduceLT, Int.reduceLE, Int.reduceEq, Int.reduceNe, Int.reduceToNat, Int.reduceAdd, Int.reduceSub, Int.reduceMul, Int.reducePow, Int.reduceDiv, Int.reduceMod, Int.reduceNeg, reduceCtorEq, codeKey, List.contains, List.elem, Ev.load, peek, pack, storeV, fieldAddr, field, cvB, e1, e4, hl0])
    obtain rfl : a = _ := (Option.some.inj ((show loopIn Tryd.prog 16 5 = some _ from rfl).symm.trans ha)).symm
    rw [loopL_step' rfl]
    repeat' (first | (refine cond_by (F := ans) (fun _ => ?_) (fun _ => ?_)) | (refine wayK_by (F := ans) (fun _ hb_ => ?_) (fun _ hb_ => ?_) <;> simp only [hb_]) | (refine wayK_byN (F := ans) (fun _ hb_ => ?_) (fun _ hb_ => ?_) <;> simp only [hb_]) | (refine wayD_by (F := ans) (fun _ hb_ => ?_) (fun _ hb_ => ?_) <;> simp only [hb_]) | (refine wayD_byN (F := ans) (fun _ hb_ => ?_) (fun _ hb_ => ?_) <;> simp only [hb_]) | (refine rdK_by (F := ans) (fun _ => ?_) (fun _ => ?_)) | (refine effK_by (F := ans) (fun _ => ?_) (fun _ => ?_)) | (refine effK_by2 (F := ans) (fun _ => ?_) (fun _ => ?_)) | (refine rdD_by (F := ans) (fun _ => ?_) (fun _ => ?_)) | (refine effD_by (F := ans) (fun _ => ?_) (fun _ => ?_)) | (refine effD_by2 (F := ans) (fun _ => ?_) (fun _ => ?_)) | simp -implicitDefEqProofs (disch := first | omega | (simp only [List.length_append, List.length_cons, List.length_nil, List.length_drop, List.length_take]; omega)) only [evs, tys, lors, Nat.reduceAdd, Nat.reduceSub, Nat.reduceMul, Nat.reducePow, Nat.reduceBEq, Nat.reduceLT, Nat.reduceLeDiff, Nat.reduceEqDiff, Int.reduceLT, Int.reduceLE, Int.reduceEq, Int.reduceNe, Int.reduceToNat, Int.reduceAdd, Int.reduceSub, Int.reduceMul, Int.reducePow, Int.reduceDiv, Int.reduceMod, Int.reduceNeg, reduceCtorEq, codeKey, List.contains, List.elem, Ev.load, peek, pack, storeV, fieldAddr, field, cvB, e1, e4, hl0, h1, h2, h3, h4, h5, s34_sl, decide_true, decide_false])
    all_goals repeat (rw [chkB_bit (by kernel_rfl)])
    repeat' (first | (refine cond_by (F := ans) (fun _ => ?_) (fun _ => ?_)) | (refine wayK_by (F := ans) (fun _ hb_ => ?_) (fun _ hb_ => ?_) <;> simp only [hb_]) | (refine wayK_byN (F := ans) (fun _ hb_ => ?_) (fun _ hb_ => ?_) <;> simp only [hb_]) | (refine wayD_by (F := ans) (fun _ hb_ => ?_) (fun _ hb_ => ?_) <;> simp only [hb_]) | (refine wayD_byN (F := ans) (fun _ hb_ => ?_) (fun _ hb_ => ?_) <;> simp only [hb_]) | (refine rdK_by (F := ans) (fun _ => ?_) (fun _ => ?_)) | (refine effK_by (F := ans) (fun _ => ?_) (fun _ => ?_)) | (refine effK_by2 (F := ans) (fun _ => ?_) (fun _ => ?_)) | (refine rdD_by (F := ans) (fun _ => ?_) (fun _ => ?_)) | (refine effD_by (F := ans) (fun _ => ?_) (fun _ => ?_)) | (refine effD_by2 (F := ans) (fun _ => ?_) (fun _ => ?_)) | simp -implicitDefEqProofs (disch := first | omega | (simp only [List.length_append, List.length_cons, List.length_nil, List.length_drop, List.length_take]; omega)) only [evs, tys, lors, Nat.reduceAdd, Nat.reduceSub, Nat.reduceMul, Nat.reducePow, Nat.reduceBEq, Nat.reduceLT, Nat.reduceLeDiff, Nat.reduceEqDiff, Int.reduceLT, Int.reduceLE, Int.reduceEq, Int.reduceNe, Int.reduceToNat, Int.reduceAdd, Int.reduceSub, Int.reduceMul, Int.reducePow, Int.reduceDiv, Int.reduceMod, Int.reduceNeg, reduceCtorEq, codeKey, List.contains, List.elem, Ev.load, peek, pack, storeV, fieldAddr, field, cvB, e1, e4, hl0, h1, h2, h3, h4, h5, s34_sl, decide_true, decide_false])
    refine Eq.trans (q3 _) ?_
    repeat' (first | (refine cond_by (F := ans) (fun _ => ?_) (fun _ => ?_)) | (refine wayK_by (F := ans) (fun _ hb_ => ?_) (fun _ hb_ => ?_) <;> simp only [hb_]) | (refine wayK_byN (F := ans) (fun _ hb_ => ?_) (fun _ hb_ => ?_) <;> simp only [hb_]) | (refine wayD_by (F := ans) (fun _ hb_ => ?_) (fun _ hb_ => ?_) <;> simp only [hb_]) | (refine wayD_byN (F := ans) (fun _ hb_ => ?_) (fun _ hb_ => ?_) <;> simp only [hb_]) | (refine rdK_by (F := ans) (fun _ => ?_) (fun _ => ?_)) | (refine effK_by (F := ans) (fun _ => ?_) (fun _ => ?_)) | (refine effK_by2 (F := ans) (fun _ => ?_) (fun _ => ?_)) | (refine rdD_by (F := ans) (fun _ => ?_) (fun _ => ?_)) | (refine effD_by (F := ans) (fun _ => ?_) (fun _ => ?_)) | (refine effD_by2 (F := ans) (fun _ => ?_) (fun _ => ?_)) | simp -implicitDefEqProofs (disch := first | omega | (simp only [List.length_append, List.length_cons, List.length_nil, List.length_drop, List.length_take]; omega)) only [evs, tys, lors, Nat.reduceAdd, Nat.reduceSub, Nat.reduceMul, Nat.reducePow, Nat.reduceBEq, Nat.reduceLT, Nat.reduceLeDiff, Nat.reduceEqDiff, Int.reduceLT, Int.reduceLE, Int.reduceEq, Int.reduceNe, Int.reduceToNat, Int.reduceAdd, Int.reduceSub, Int.reduceMul, Int.reducePow, Int.reduceDiv, Int.reduceMod, Int.reduceNeg, reduceCtorEq, codeKey, List.contains, List.elem, Ev.load, peek, pack, storeV, fieldAddr, field, cvB, hgv])
    all_goals first | rfl | trace_state


theorem loopB8 (L : List Int) (h01 : Bits01 L) (hL : L.length ≤ 100000000000) (i : Nat) (hi : i ≤ L.length) (v : V) (G : Heap) (K : Kont) (R : Option V) (a : Code) (ha : loopIn Tryd.prog 9 11 = some a)
    (hR : ans (K (.exit 2) (Sl 62 .wild [(7, v), (8, .sl (enc8 L) 1 false), (9, .int .i64 (i : Nat)), (10, .int .u8 (gp L i 8)), (11, .int .i64 ((i : Int) + 8))]) G) = R) :
    ∀ (m k : Nat) (z : Int), k + m = 8 → z = (i : Int) + (k : Int) → ans (loopL lore 9 a (Sl 62 .wild [(7, v), (8, .sl (enc8 L) 1 false), (9, .int .i64 (i : Nat)), (10, .int .u8 (gp L i k)), (11, .int .i64 z)]) G K) = R := by
  have hk := loop_key ha
  simp only [loopIn, Tryd.func9, Tryd.f9, loopAt, Option.bind_some, codeKey, if_true, Option.some.injEq, Nat.reduceEqDiff, if_false] at ha
  have e4 := enc8_len L
  intro m
  induction m with
  | zero =>
    intro k z hk' hz
    obtain rfl : k = 8 := by omega
    obtain rfl : z = (i : Int) + 8 := by omega
    have hn : ¬ (i : Int) + 8 < (i : Int) + 8 := by omega
    rw [loopL_step' ha]
    repeat' (first | (refine cond_by (F := ans) (fun _ => ?_) (fun _ => ?_)) | (refine wayK_by (F := ans) (fun _ hb_ => ?_) (fun _ hb_ => ?_) <;> simp only [hb_]) | (refine wayK_byN (F := ans) (fun _ hb_ => ?_) (fun _ hb_ => ?_) <;> simp only [hb_]) | (refine wayD_by (F := ans) (fun _ hb_ => ?_) (fun _ hb_ => ?_) <;> simp only [hb_]) | (refine wayD_byN (F := ans) (fun _ hb_ => ?_) (fun _ hb_ => ?_) <;> simp only [hb_]) | (refine rdK_by (F := ans) (fun _ => ?_) (fun _ => ?_)) | (refine effK_by (F := ans) (fun _ => ?_) (fun _ => ?_)) | (refine effK_by2 (F := ans) (fun _ => ?_) (fun _ => ?_)) | (refine rdD_by (F := ans) (fun _ => ?_) (fun _ => ?_)) | (refine effD_by (F := ans) (fun _ => ?_) (fun _ => ?_)) | (refine effD_by2 (F := ans) (fun _ => ?_) (fun _ => ?_)) | simp -implicitDefEqProofs (disch := first | omega | (simp only [List.length_append, List.length_cons, List.length_nil, List.length_drop, List.length_take]; omega)) only [evs, tys, lors, Nat.reduceAdd, Nat.reduceSub, Nat.reduceMul, Nat.reducePow, Nat.reduceBEq, Nat.reduceLT, Nat.reduceLeDiff, Nat.reduceEqDiff, Int.reduceLT, Int.reduceLE, Int.reduceEq, Int.reduceNe, Int.reduceToNat, Int.reduceAdd, Int.reduceSub, Int.reduceMul, Int.reducePow, Int.reduceDiv, Int.reduceMod, Int.reduceNeg, reduceCtorEq, codeKey, List.contains, List.elem, Ev.load, peek, pack, storeV, fieldAddr, field, cvB, hk, hn, decide_false])
    exact hR
  | succ m ih =>
    intro k z hk' hz
    have hlt : z < (i : Int) + 8 := by omega
    have hn := ih (k + 1) (z + 1) (by omega) (by omega)
    have hs := gp_succ L i k
    have hg := gp_lt h01 i k
    have hp7 : (2 : Int) ^ k ≤ 2 ^ 7 := by
      have := Nat.pow_le_pow_right (show 0 < 2 by decide) (show k ≤ 7 by omega)
      exact_mod_cast this
    have e7 : (2 : Int) ^ 7 = 128 := by decide
    have hgb : 0 ≤ gp L i k ∧ gp L i k ≤ 127 := by omega
    have hw : gp L i k * 2 = 2 * gp L i k := Int.mul_comm ..
    rw [hs] at hn
    clear hs hg ih hp7
    rcases Nat.lt_or_ge (i + k) L.length with hlk | hlk
    · have hget : L[i + k]? = some L[i + k] := List.getElem?_eq_getElem hlk
      have hb := h01 L[i + k] (List.getElem_mem hlk)
      have e1 : (enc8 L)[z.toNat]? = some (.int .u8 L[i + k]) := by
        rw [show z.toNat = i + k by omega]
        unfold enc8
        rw [List.getElem?_map, hget]
        rfl
      rw [hget, Option.getD_some] at hn
      have hzl : z < (L.length : Int) := by omega
      have hz0 : 0 ≤ z := by omega
      generalize L[i + k] = b at *
      generalize gp L i k = g at *
      have hbb : 0 ≤ b ∧ b ≤ 1 := by omega
      rw [loopL_step' ha]
      repeat' (first | (refine cond_by (F := ans) (fun _ => ?_) (fun _ => ?_)) | (refine wayK_by (F := ans) (fun _ hb_ => ?_) (fun _ hb_ => ?_) <;> simp only [hb_]) | (refine wayK_byN (F := ans) (fun _ hb_ => ?_) (fun _ hb_ => ?_) <;> simp only [hb_]) | (refine wayD_by (F := ans) (fun _ hb_ => ?_) (fun _ hb_ => ?_) <;> simp only [hb_]) | (refine wayD_byN (F := ans) (fun _ hb_ => ?_) (fun _ hb_ => ?_) <;> simp only [hb_]) | (refine rdK_by (F := ans) (fun _ => ?_) (fun _ => ?_)) | (refine effK_by (F := ans) (fun _ => ?_) (fun _ => ?_)) | (refine effK_by2 (F := ans) (fun _ => ?_) (fun _ => ?_)) | (refine rdD_by (F := ans) (fun _ => ?_) (fun _ => ?_)) | (refine effD_by (F := ans) (fun _ => ?_) (fun _ => ?_)) | (refine effD_by2 (F := ans) (fun _ => ?_) (fun _ => ?_)) | simp -implicitDefEqProofs (disch := first | omega | (simp only [List.length_append, List.length_cons, List.length_nil, List.length_drop, List.length_take]; omega)) only [evs, tys, lors, Nat.reduceAdd, Nat.reduceSub, Nat.reduceMul, Nat.reducePow, Nat.reduceBEq, Nat.reduceLT, Nat.reduceLeDiff, Nat.reduceEqDiff, Int.reduceLT, Int.reduceLE, Int.reduceEq, Int.reduceNe, Int.reduceToNat, Int.reduceAdd, Int.reduceSub, Int.reduceMul, Int.reducePow, Int.reduceDiv, Int.reduceMod, Int.reduceNeg, reduceCtorEq, codeKey, List.contains, List.elem, Ev.load, peek, pack, storeV, fieldAddr, field, cvB, hk, hlt, hzl, e1, e4, hw, decide_true])
      all_goals first
        | exact hn
        | trace_state
    · have hget : L[i + k]? = none := List.getElem?_eq_none hlk
      rw [hget, Option.getD_none, Int.add_zero] at hn
      have hzl : ¬ z < (L.length : Int) := by omega
      generalize gp L i k = g at *
      rw [loopL_step' ha]
      repeat' (first | (refine cond_by (F := ans) (fun _ => ?_) (fun _ => ?_)) | (refine wayK_by (F := ans) (fun _ hb_ => ?_) (fun _ hb_ => ?_) <;> simp only [hb_]) | (refine wayK_byN (F := ans) (fun _ hb_ => ?_) (fun _ hb_ => ?_) <;> simp only [hb_]) | (refine wayD_by (F := ans) (fun _ hb_ => ?_) (fun _ hb_ => ?_) <;> simp only [hb_]) | (refine wayD_byN (F := ans) (fun _ hb_ => ?_) (fun _ hb_ => ?_) <;> simp only [hb_]) | (refine rdK_by (F := ans) (fun _ => ?_) (fun _ => ?_)) | (refine effK_by (F := ans) (fun _ => ?_) (fun _ => ?_)) | (refine effK_by2 (F := ans) (fun _ => ?_) (fun _ => ?_)) | (refine rdD_by (F := ans) (fun _ => ?_) (fun _ => ?_)) | (refine effD_by (F := ans) (fun _ => ?_) (fun _ => ?_)) | (refine effD_by2 (F := ans) (fun _ => ?_) (fun _ => ?_)) | simp -implicitDefEqProofs (disch := first | omega | (simp only [List.length_append, List.length_cons, List.length_nil, List.length_drop, List.length_take]; omega)) only [evs, tys, lors, Nat.reduceAdd, Nat.reduceSub, Nat.reduceMul, Nat.reducePow, Nat.reduceBEq, Nat.reduceLT, Nat.reduceLeDiff, Nat.reduceEqDiff, Int.reduceLT, Int.reduceLE, Int.reduceEq, Int.reduceNe, Int.reduceToNat, Int.reduceAdd, Int.reduceSub, Int.reduceMul, Int.reducePow, Int.reduceDiv, Int.reduceMod, Int.reduceNeg, reduceCtorEq, codeKey, List.contains, List.elem, Ev.load, peek, pack, storeV, fieldAddr, field, cvB, hk, hlt, hzl, e4, hw, decide_true, decide_false])
      all_goals first
        | exact hn
        | trace_state
theorem packB_drop {L : List Int} {i : Nat} (hi : i < L.length) : packB (L.drop i) = gp L i 8 :: packB (L.drop (i + 8)) := by
  rw [packB_cons (by intro h; have := congrArg List.length h; rw [List.length_drop] at this; simp at this; omega), List.drop_drop]
  rfl
theorem loopE (L : List Int) (h01 : Bits01 L) (hL : L.length ≤ 1000000000) (K : Kont) (R : Option V) (a : Code) (ha : loopIn Tryd.prog 9 7 = some a) (fin : List Int) (hfin : fin.length ≤ 10000000000)
    (hR : ∀ z : Int, ans (K (.exit 0) (Sl 62 .wild [(7, .row 0 fin.length), (8, .sl (enc8 L) 1 false), (9, .int .i64 z)]) [⟨enc8 fin, 1, true, false⟩]) = R) :
    ∀ (m i : Nat) (out : List Int), L.length + 8 ≤ i + m → i ≤ L.length + 8 → out ++ packB (L.drop i) = fin → ans (loopL lore 9 a (Sl 62 .wild [(7, .row 0 out.length), (8, .sl (enc8 L) 1 false), (9, .int .i64 (i : Nat))]) [⟨enc8 out, 1, true, false⟩] K) = R := by
  have hk := loop_key ha
  simp only [loopIn, Tryd.func9, Tryd.f9, loopAt, Option.bind_some, codeKey, if_true, Option.some.injEq, Nat.reduceEqDiff, if_false] at ha
  have e4 := enc8_len L
  intro m
  induction m with
  | zero =>
    intro i out hm hi ho
    have hn : ¬ (i : Int) < (L.length : Int) := by omega
    have hd : L.drop i = [] := List.drop_eq_nil_of_le (by omega)
    rw [hd, packB_nil, List.append_nil] at ho
    subst ho
    rw [loopL_step' ha]
    repeat' (first | (refine cond_by (F := ans) (fun _ => ?_) (fun _ => ?_)) | (refine wayK_by (F := ans) (fun _ hb_ => ?_) (fun _ hb_ => ?_) <;> simp only [hb_]) | (refine wayK_byN (F := ans) (fun _ hb_ => ?_) (fun _ hb_ => ?_) <;> simp only [hb_]) | (refine wayD_by (F := ans) (fun _ hb_ => ?_) (fun _ hb_ => ?_) <;> simp only [hb_]) | (refine wayD_byN (F := ans) (fun _ hb_ => ?_) (fun _ hb_ => ?_) <;> simp only [hb_]) | (refine rdK_by (F := ans) (fun _ => ?_) (fun _ => ?_)) | (refine effK_by (F := ans) (fun _ => ?_) (fun _ => ?_)) | (refine effK_by2 (F := ans) (fun _ => ?_) (fun _ => ?_)) | (refine rdD_by (F := ans) (fun _ => ?_) (fun _ => ?_)) | (refine effD_by (F := ans) (fun _ => ?_) (fun _ => ?_)) | (refine effD_by2 (F := ans) (fun _ => ?_) (fun _ => ?_)) | simp -implicitDefEqProofs (disch := first | omega | (simp only [List.length_append, List.length_cons, List.length_nil, List.length_drop, List.length_take]; omega)) only [evs, tys, lors, Nat.reduceAdd, Nat.reduceSub, Nat.reduceMul, Nat.reducePow, Nat.reduceBEq, Nat.reduceLT, Nat.reduceLeDiff, Nat.reduceEqDiff, Int.reduceLT, Int.reduceLE, Int.reduceEq, Int.reduceNe, Int.reduceToNat, Int.reduceAdd, Int.reduceSub, Int.reduceMul, Int.reducePow, Int.reduceDiv, Int.reduceMod, Int.reduceNeg, reduceCtorEq, codeKey, List.contains, List.elem, Ev.load, peek, pack, storeV, fieldAddr, field, cvB, hk, e4, hn, decide_false])
    exact hR _
  | succ m ih =>
    intro i out hm hi ho
    by_cases hlt : i < L.length
    · have hlt' : (i : Int) < (L.length : Int) := by omega
      rw [packB_drop hlt] at ho
      have hol : out.length ≤ fin.length := by rw [← ho, List.length_append]; omega
      have hn := ih (i + 8) (out ++ [gp L i 8]) (by omega) (by omega) (by rw [List.append_assoc]; exact ho)
      have h8 := loopB8 L h01 (by omega) i (by omega) (.row 0 out.length) [⟨enc8 out, 1, true, false⟩]
      have ha8 := app_row (H := [⟨enc8 out, 1, true, false⟩]) (i := 0) (tot := out.length) (v := gp L i 8) rfl (enc8_len _) (by omega)
      rw [enc8_one, ← enc8_app] at ha8
      rw [List.length_append] at hn
      have hg0 : gp L i 0 = 0 := rdv_zero _
      have h8 := fun K R a ha hR z hz => h8 K R a ha hR 8 0 z rfl hz
      simp only [hg0] at h8
      have e8 : ((i + 8 : Nat) : Int) = (i : Int) + 8 := by omega
      rw [e8] at hn
      have h1 : enc8 [gp L i 8] = [.int .u8 (gp L i 8)] := rfl
      rw [h1] at ha8
      generalize gp L i 8 = g at *
      rw [loopL_step' ha]
      repeat' (first | (refine cond_by (F := ans) (fun _ => ?_) (fun _ => ?_)) | (refine wayK_by (F := ans) (fun _ hb_ => ?_) (fun _ hb_ => ?_) <;> simp only [hb_]) | (refine wayK_byN (F := ans) (fun _ hb_ => ?_) (fun _ hb_ => ?_) <;> simp only [hb_]) | (refine wayD_by (F := ans) (fun _ hb_ => ?_) (fun _ hb_ => ?_) <;> simp only [hb_]) | (refine wayD_byN (F := ans) (fun _ hb_ => ?_) (fun _ hb_ => ?_) <;> simp only [hb_]) | (refine rdK_by (F := ans) (fun _ => ?_) (fun _ => ?_)) | (refine effK_by (F := ans) (fun _ => ?_) (fun _ => ?_)) | (refine effK_by2 (F := ans) (fun _ => ?_) (fun _ => ?_)) | (refine rdD_by (F := ans) (fun _ => ?_) (fun _ => ?_)) | (refine effD_by (F := ans) (fun _ => ?_) (fun _ => ?_)) | (refine effD_by2 (F := ans) (fun _ => ?_) (fun _ => ?_)) | simp -implicitDefEqProofs (disch := first | omega | (simp only [List.length_append, List.length_cons, List.length_nil, List.length_drop, List.length_take]; omega)) only [evs, tys, lors, Nat.reduceAdd, Nat.reduceSub, Nat.reduceMul, Nat.reducePow, Nat.reduceBEq, Nat.reduceLT, Nat.reduceLeDiff, Nat.reduceEqDiff, Int.reduceLT, Int.reduceLE, Int.reduceEq, Int.reduceNe, Int.reduceToNat, Int.reduceAdd, Int.reduceSub, Int.reduceMul, Int.reducePow, Int.reduceDiv, Int.reduceMod, Int.reduceNeg, reduceCtorEq, codeKey, List.contains, List.elem, Ev.load, peek, pack, storeV, fieldAddr, field, cvB, hk, e4, hlt', decide_true])
      refine h8 _ _ _ (by rfl) ?_ _ (by simp)
      repeat' (first | (refine cond_by (F := ans) (fun _ => ?_) (fun _ => ?_)) | (refine wayK_by (F := ans) (fun _ hb_ => ?_) (fun _ hb_ => ?_) <;> simp only [hb_]) | (refine wayK_byN (F := ans) (fun _ hb_ => ?_) (fun _ hb_ => ?_) <;> simp only [hb_]) | (refine wayD_by (F := ans) (fun _ hb_ => ?_) (fun _ hb_ => ?_) <;> simp only [hb_]) | (refine wayD_byN (F := ans) (fun _ hb_ => ?_) (fun _ hb_ => ?_) <;> simp only [hb_]) | (refine rdK_by (F := ans) (fun _ => ?_) (fun _ => ?_)) | (refine effK_by (F := ans) (fun _ => ?_) (fun _ => ?_)) | (refine effK_by2 (F := ans) (fun _ => ?_) (fun _ => ?_)) | (refine rdD_by (F := ans) (fun _ => ?_) (fun _ => ?_)) | (refine effD_by (F := ans) (fun _ => ?_) (fun _ => ?_)) | (refine effD_by2 (F := ans) (fun _ => ?_) (fun _ => ?_)) | simp -implicitDefEqProofs (disch := first | omega | (simp only [List.length_append, List.length_cons, List.length_nil, List.length_drop, List.length_take]; omega)) only [evs, tys, lors, Nat.reduceAdd, Nat.reduceSub, Nat.reduceMul, Nat.reducePow, Nat.reduceBEq, Nat.reduceLT, Nat.reduceLeDiff, Nat.reduceEqDiff, Int.reduceLT, Int.reduceLE, Int.reduceEq, Int.reduceNe, Int.reduceToNat, Int.reduceAdd, Int.reduceSub, Int.reduceMul, Int.reducePow, Int.reduceDiv, Int.reduceMod, Int.reduceNeg, reduceCtorEq, codeKey, List.contains, List.elem, Ev.load, peek, pack, storeV, fieldAddr, field, cvB, hk, ha8, src_sl])
      all_goals first
        | exact hn
        | trace_state
    · have hn : ¬ (i : Int) < (L.length : Int) := by omega
      have hd : L.drop i = [] := List.drop_eq_nil_of_le (by omega)
      rw [hd, packB_nil, List.append_nil] at ho
      subst ho
      rw [loopL_step' ha]
      repeat' (first | (refine cond_by (F := ans) (fun _ => ?_) (fun _ => ?_)) | (refine wayK_by (F := ans) (fun _ hb_ => ?_) (fun _ hb_ => ?_) <;> simp only [hb_]) | (refine wayK_byN (F := ans) (fun _ hb_ => ?_) (fun _ hb_ => ?_) <;> simp only [hb_]) | (refine wayD_by (F := ans) (fun _ hb_ => ?_) (fun _ hb_ => ?_) <;> simp only [hb_]) | (refine wayD_byN (F := ans) (fun _ hb_ => ?_) (fun _ hb_ => ?_) <;> simp only [hb_]) | (refine rdK_by (F := ans) (fun _ => ?_) (fun _ => ?_)) | (refine effK_by (F := ans) (fun _ => ?_) (fun _ => ?_)) | (refine effK_by2 (F := ans) (fun _ => ?_) (fun _ => ?_)) | (refine rdD_by (F := ans) (fun _ => ?_) (fun _ => ?_)) | (refine effD_by (F := ans) (fun _ => ?_) (fun _ => ?_)) | (refine effD_by2 (F := ans) (fun _ => ?_) (fun _ => ?_)) | simp -implicitDefEqProofs (disch := first | omega | (simp only [List.length_append, List.length_cons, List.length_nil, List.length_drop, List.length_take]; omega)) only [evs, tys, lors, Nat.reduceAdd, Nat.reduceSub, Nat.reduceMul, Nat.reducePow, Nat.reduceBEq, Nat.reduceLT, Nat.reduceLeDiff, Nat.reduceEqDiff, Int.reduceLT, Int.reduceLE, Int.reduceEq, Int.reduceNe, Int.reduceToNat, Int.reduceAdd, Int.reduceSub, Int.reduceMul, Int.reducePow, Int.reduceDiv, Int.reduceMod, Int.reduceNeg, reduceCtorEq, codeKey, List.contains, List.elem, Ev.load, peek, pack, storeV, fieldAddr, field, cvB, hk, e4, hn, decide_false])
      exact hR _
theorem give_rowN {H : Heap} {i tot : Nat} {q : List Int} {vs : List V} (hH : H[i]? = some ⟨enc8 q, 1, true, false⟩) (hl : q.length = tot) (hv : plains vs = true) : giveP false H (.tup (.row i tot :: vs)) = some (.tup (.sl (enc8 q) 1 false :: vs)) := by
  have e1 : fz2 H (.row i tot) = some (.sl (enc8 q) 1 false, H.set i ⟨enc8 q, 1, true, true⟩) := by
    show fz1 H (.row i tot) = _
    simp only [fz1, hH]
    rw [if_pos ⟨Nat.zero_lt_one, by rw [enc8_len]; exact hl, trivial⟩]
  show (fz2s H (.row i tot :: vs)).map _ = _
  rw [fz2s, e1, Option.bind_some, fz2s_plain _ hv]
  rfl
theorem enc9_cv (l : List (Int × Nat)) (c : Bool) (hd : DotsOk l) (H : Heap) : callV (CL lore) 9 [.sl (encD l) 2 c] H = some (encV l, H) := by
  refine callV_ans (r := some _) ?_ lore_sh9 rfl H
  have e4 := encD_len l
  have hf := fault_cv l c
  unfold faultV at hf
  unfold encV
  by_cases hl : 65535 < l.length
  · rw [if_pos hl] at hf ⊢
    rw [call_start lore_ext9 Tryd.func9 rfl lore_okf9 (Nat.le_of_ble_eq_true rfl)]
    repeat' (first | (refine cond_by (F := ans) (fun _ => ?_) (fun _ => ?_)) | (refine wayK_by (F := ans) (fun _ hb_ => ?_) (fun _ hb_ => ?_) <;> simp only [hb_]) | (refine wayK_byN (F := ans) (fun _ hb_ => ?_) (fun _ hb_ => ?_) <;> simp only [hb_]) | (refine wayD_by (F := ans) (fun _ hb_ => ?_) (fun _ hb_ => ?_) <;> simp only [hb_]) | (refine wayD_byN (F := ans) (fun _ hb_ => ?_) (fun _ hb_ => ?_) <;> simp only [hb_]) | (refine rdK_by (F := ans) (fun _ => ?_) (fun _ => ?_)) | (refine effK_by (F := ans) (fun _ => ?_) (fun _ => ?_)) | (refine effK_by2 (F := ans) (fun _ => ?_) (fun _ => ?_)) | (refine rdD_by (F := ans) (fun _ => ?_) (fun _ => ?_)) | (refine effD_by (F := ans) (fun _ => ?_) (fun _ => ?_)) | (refine effD_by2 (F := ans) (fun _ => ?_) (fun _ => ?_)) | simp -implicitDefEqProofs (disch := first | omega | (simp only [List.length_append, List.length_cons, List.length_nil, List.length_drop, List.length_take]; omega)) only [evs, tys, lors, Nat.reduceAdd, Nat.reduceSub, Nat.reduceMul, Nat.reducePow, Nat.reduceBEq, Nat.reduceLT, Nat.reduceLeDiff, Nat.reduceEqDiff, Int.reduceLT, Int.reduceLE, Int.reduceEq, Int.reduceNe, Int.reduceToNat, Int.reduceAdd, Int.reduceSub, Int.reduceMul, Int.reducePow, Int.reduceDiv, Int.reduceMod, Int.reduceNeg, reduceCtorEq, codeKey, List.contains, List.elem, Ev.load, peek, pack, storeV, fieldAddr, field, cvB, hf])
    all_goals first | rfl | trace_state
  · rw [if_neg hl] at hf ⊢
    cases hfl : fltL l with
    | some j =>
      rw [hfl, faultO] at hf
      rw [call_start lore_ext9 Tryd.func9 rfl lore_okf9 (Nat.le_of_ble_eq_true rfl)]
      repeat' (first | (refine cond_by (F := ans) (fun _ => ?_) (fun _ => ?_)) | (refine wayK_by (F := ans) (fun _ hb_ => ?_) (fun _ hb_ => ?_) <;> simp only [hb_]) | (refine wayK_byN (F := ans) (fun _ hb_ => ?_) (fun _ hb_ => ?_) <;> simp only [hb_]) | (refine wayD_by (F := ans) (fun _ hb_ => ?_) (fun _ hb_ => ?_) <;> simp only [hb_]) | (refine wayD_byN (F := ans) (fun _ hb_ => ?_) (fun _ hb_ => ?_) <;> simp only [hb_]) | (refine rdK_by (F := ans) (fun _ => ?_) (fun _ => ?_)) | (refine effK_by (F := ans) (fun _ => ?_) (fun _ => ?_)) | (refine effK_by2 (F := ans) (fun _ => ?_) (fun _ => ?_)) | (refine rdD_by (F := ans) (fun _ => ?_) (fun _ => ?_)) | (refine effD_by (F := ans) (fun _ => ?_) (fun _ => ?_)) | (refine effD_by2 (F := ans) (fun _ => ?_) (fun _ => ?_)) | simp -implicitDefEqProofs (disch := first | omega | (simp only [List.length_append, List.length_cons, List.length_nil, List.length_drop, List.length_take]; omega)) only [evs, tys, lors, Nat.reduceAdd, Nat.reduceSub, Nat.reduceMul, Nat.reducePow, Nat.reduceBEq, Nat.reduceLT, Nat.reduceLeDiff, Nat.reduceEqDiff, Int.reduceLT, Int.reduceLE, Int.reduceEq, Int.reduceNe, Int.reduceToNat, Int.reduceAdd, Int.reduceSub, Int.reduceMul, Int.reducePow, Int.reduceDiv, Int.reduceMod, Int.reduceNeg, reduceCtorEq, codeKey, List.contains, List.elem, Ev.load, peek, pack, storeV, fieldAddr, field, cvB, hf])
      all_goals first | rfl | trace_state
    | none =>
      rw [hfl, faultO] at hf
      have hal := all_cv l c hd (by omega)
      have hq1 : IntKind.u8.wrap ((l.length : Int) / 256) = ((l.length / 256 : Nat) : Int) := by rw [IntKind.wrap_u8]; omega
      have hq2 : IntKind.u8.wrap ((l.length : Int) % 256) = ((l.length % 256 : Nat) : Int) := by rw [IntKind.wrap_u8]; omega
      unfold allV at hal
      by_cases hn : l = []
      · subst hn
        rw [if_pos rfl] at hal
        have e0 : (encD []).length = 0 := rfl
        rw [call_start lore_ext9 Tryd.func9 rfl lore_okf9 (Nat.le_of_ble_eq_true rfl)]
        repeat' (first | (refine cond_by (F := ans) (fun _ => ?_) (fun _ => ?_)) | (refine wayK_by (F := ans) (fun _ hb_ => ?_) (fun _ hb_ => ?_) <;> simp only [hb_]) | (refine wayK_byN (F := ans) (fun _ hb_ => ?_) (fun _ hb_ => ?_) <;> simp only [hb_]) | (refine wayD_by (F := ans) (fun _ hb_ => ?_) (fun _ hb_ => ?_) <;> simp only [hb_]) | (refine wayD_byN (F := ans) (fun _ hb_ => ?_) (fun _ hb_ => ?_) <;> simp only [hb_]) | (refine rdK_by (F := ans) (fun _ => ?_) (fun _ => ?_)) | (refine effK_by (F := ans) (fun _ => ?_) (fun _ => ?_)) | (refine effK_by2 (F := ans) (fun _ => ?_) (fun _ => ?_)) | (refine rdD_by (F := ans) (fun _ => ?_) (fun _ => ?_)) | (refine effD_by (F := ans) (fun _ => ?_) (fun _ => ?_)) | (refine effD_by2 (F := ans) (fun _ => ?_) (fun _ => ?_)) | simp -implicitDefEqProofs (disch := first | omega | (simp only [List.length_append, List.length_cons, List.length_nil, List.length_drop, List.length_take]; omega)) only [evs, tys, lors, Nat.reduceAdd, Nat.reduceSub, Nat.reduceMul, Nat.reducePow, Nat.reduceBEq, Nat.reduceLT, Nat.reduceLeDiff, Nat.reduceEqDiff, Int.reduceLT, Int.reduceLE, Int.reduceEq, Int.reduceNe, Int.reduceToNat, Int.reduceAdd, Int.reduceSub, Int.reduceMul, Int.reducePow, Int.reduceDiv, Int.reduceMod, Int.reduceNeg, reduceCtorEq, codeKey, List.contains, List.elem, Ev.load, peek, pack, storeV, fieldAddr, field, cvB, hf, hal, e0])
        rw [loopL_step' rfl]
        repeat' (first | (refine cond_by (F := ans) (fun _ => ?_) (fun _ => ?_)) | (refine wayK_by (F := ans) (fun _ hb_ => ?_) (fun _ hb_ => ?_) <;> simp only [hb_]) | (refine wayK_byN (F := ans) (fun _ hb_ => ?_) (fun _ hb_ => ?_) <;> simp only [hb_]) | (refine wayD_by (F := ans) (fun _ hb_ => ?_) (fun _ hb_ => ?_) <;> simp only [hb_]) | (refine wayD_byN (F := ans) (fun _ hb_ => ?_) (fun _ hb_ => ?_) <;> simp only [hb_]) | (refine rdK_by (F := ans) (fun _ => ?_) (fun _ => ?_)) | (refine effK_by (F := ans) (fun _ => ?_) (fun _ => ?_)) | (refine effK_by2 (F := ans) (fun _ => ?_) (fun _ => ?_)) | (refine rdD_by (F := ans) (fun _ => ?_) (fun _ => ?_)) | (refine effD_by (F := ans) (fun _ => ?_) (fun _ => ?_)) | (refine effD_by2 (F := ans) (fun _ => ?_) (fun _ => ?_)) | simp -implicitDefEqProofs (disch := first | omega | (simp only [List.length_append, List.length_cons, List.length_nil, List.length_drop, List.length_take]; omega)) only [evs, tys, lors, Nat.reduceAdd, Nat.reduceSub, Nat.reduceMul, Nat.reducePow, Nat.reduceBEq, Nat.reduceLT, Nat.reduceLeDiff, Nat.reduceEqDiff, Int.reduceLT, Int.reduceLE, Int.reduceEq, Int.reduceNe, Int.reduceToNat, Int.reduceAdd, Int.reduceSub, Int.reduceMul, Int.reducePow, Int.reduceDiv, Int.reduceMod, Int.reduceNeg, reduceCtorEq, codeKey, List.contains, List.elem, Ev.load, peek, pack, storeV, fieldAddr, field, cvB])
        all_goals first | rfl | trace_state
      · rw [if_neg hn] at hal
        have hie : l.isEmpty = false := by cases l with
          | nil => exact absurd rfl hn
          | cons a b => rfl
        rw [hie]
        have hlb := encL_le vbN l E0
        have h01 := encL_01 vbN l E0
        have hpos : 0 < (encL vbN E0 l).length := List.length_pos_iff.2 (encL_ne hn)
        have hpd := packB_drop hpos
        have hby : bytesL l = [((l.length / 256 : Nat) : Int), ((l.length % 256 : Nat) : Int)] ++ packB (encL vbN E0 l) := rfl
        have hpl := packB_len _ (encL vbN E0 l) rfl
        have hbl : (bytesL l).length ≤ 10000000000 := by rw [hby, List.length_append]; simp only [List.length_cons, List.length_nil]; omega
        have hgv := give_rowN (H := [⟨enc8 (bytesL l), 1, true, false⟩]) (i := 0) (q := bytesL l) (vs := [.int .i64 0, .int .i64 0]) rfl rfl rfl
        generalize encL vbN E0 l = L at *
        have hlE := loopE L h01 (by omega)
        have h8 := loopB8 L h01 (by omega) 0 (by omega) (.sl [.int .u8 ((l.length / 256 : Nat) : Int), .int .u8 ((l.length % 256 : Nat) : Int)] 1 true) []
        have hg0 : gp L 0 0 = 0 := rdv_zero _
        have hz0 : ((0 : Nat) : Int) = 0 := rfl
        have h8 := fun K R a ha hR z hz => h8 K R a ha hR 8 0 z rfl hz
        simp only [hg0, hz0] at h8
        have hap := app_sl (H := []) (es := [.int .u8 ((l.length / 256 : Nat) : Int), .int .u8 ((l.length % 256 : Nat) : Int)]) (ys := [.int .u8 (gp L 0 8)]) (by simp) rfl (by simp)
        rw [List.drop_zero] at hpd
        rw [hpd] at hby
        have hL0 : (0 : Int) < (L.length : Int) := by omega
        have eL := enc8_len L
        generalize ((l.length / 256 : Nat) : Int) = q1 at *
        generalize ((l.length % 256 : Nat) : Int) = q2 at *
        generalize gp L 0 8 = g at *
        rw [call_start lore_ext9 Tryd.func9 rfl lore_okf9 (Nat.le_of_ble_eq_true rfl)]
        repeat' (first | (refine cond_by (F := ans) (fun _ => ?_) (fun _ => ?_)) | (refine wayK_by (F := ans) (fun _ hb_ => ?_) (fun _ hb_ => ?_) <;> simp only [hb_]) | (refine wayK_byN (F := ans) (fun _ hb_ => ?_) (fun _ hb_ => ?_) <;> simp only [hb_]) | (refine wayD_by (F := ans) (fun _ hb_ => ?_) (fun _ hb_ => ?_) <;> simp only [hb_]) | (refine wayD_byN (F := ans) (fun _ hb_ => ?_) (fun _ hb_ => ?_) <;> simp only [hb_]) | (refine rdK_by (F := ans) (fun _ => ?_) (fun _ => ?_)) | (refine effK_by (F := ans) (fun _ => ?_) (fun _ => ?_)) | (refine effK_by2 (F := ans) (fun _ => ?_) (fun _ => ?_)) | (refine rdD_by (F := ans) (fun _ => ?_) (fun _ => ?_)) | (refine effD_by (F := ans) (fun _ => ?_) (fun _ => ?_)) | (refine effD_by2 (F := ans) (fun _ => ?_) (fun _ => ?_)) | simp -implicitDefEqProofs (disch := first | omega | (simp only [List.length_append, List.length_cons, List.length_nil, List.length_drop, List.length_take]; omega)) only [evs, tys, lors, Nat.reduceAdd, Nat.reduceSub, Nat.reduceMul, Nat.reducePow, Nat.reduceBEq, Nat.reduceLT, Nat.reduceLeDiff, Nat.reduceEqDiff, Int.reduceLT, Int.reduceLE, Int.reduceEq, Int.reduceNe, Int.reduceToNat, Int.reduceAdd, Int.reduceSub, Int.reduceMul, Int.reducePow, Int.reduceDiv, Int.reduceMod, Int.reduceNeg, reduceCtorEq, codeKey, List.contains, List.elem, Ev.load, peek, pack, storeV, fieldAddr, field, cvB, hf, hal, hq1, hq2, e4])
        rw [loopL_step' rfl]
        repeat' (first | (refine cond_by (F := ans) (fun _ => ?_) (fun _ => ?_)) | (refine wayK_by (F := ans) (fun _ hb_ => ?_) (fun _ hb_ => ?_) <;> simp only [hb_]) | (refine wayK_byN (F := ans) (fun _ hb_ => ?_) (fun _ hb_ => ?_) <;> simp only [hb_]) | (refine wayD_by (F := ans) (fun _ hb_ => ?_) (fun _ hb_ => ?_) <;> simp only [hb_]) | (refine wayD_byN (F := ans) (fun _ hb_ => ?_) (fun _ hb_ => ?_) <;> simp only [hb_]) | (refine rdK_by (F := ans) (fun _ => ?_) (fun _ => ?_)) | (refine effK_by (F := ans) (fun _ => ?_) (fun _ => ?_)) | (refine effK_by2 (F := ans) (fun _ => ?_) (fun _ => ?_)) | (refine rdD_by (F := ans) (fun _ => ?_) (fun _ => ?_)) | (refine effD_by (F := ans) (fun _ => ?_) (fun _ => ?_)) | (refine effD_by2 (F := ans) (fun _ => ?_) (fun _ => ?_)) | simp -implicitDefEqProofs (disch := first | omega | (simp only [List.length_append, List.length_cons, List.length_nil, List.length_drop, List.length_take]; omega)) only [evs, tys, lors, Nat.reduceAdd, Nat.reduceSub, Nat.reduceMul, Nat.reducePow, Nat.reduceBEq, Nat.reduceLT, Nat.reduceLeDiff, Nat.reduceEqDiff, Int.reduceLT, Int.reduceLE, Int.reduceEq, Int.reduceNe, Int.reduceToNat, Int.reduceAdd, Int.reduceSub, Int.reduceMul, Int.reducePow, Int.reduceDiv, Int.reduceMod, Int.reduceNeg, reduceCtorEq, codeKey, List.contains, List.elem, Ev.load, peek, pack, storeV, fieldAddr, field, cvB, eL, hL0, decide_true])
        refine h8 _ _ _ (by rfl) ?_ _ (by simp)
        repeat' (first | (refine cond_by (F := ans) (fun _ => ?_) (fun _ => ?_)) | (refine wayK_by (F := ans) (fun _ hb_ => ?_) (fun _ hb_ => ?_) <;> simp only [hb_]) | (refine wayK_byN (F := ans) (fun _ hb_ => ?_) (fun _ hb_ => ?_) <;> simp only [hb_]) | (refine wayD_by (F := ans) (fun _ hb_ => ?_) (fun _ hb_ => ?_) <;> simp only [hb_]) | (refine wayD_byN (F := ans) (fun _ hb_ => ?_) (fun _ hb_ => ?_) <;> simp only [hb_]) | (refine rdK_by (F := ans) (fun _ => ?_) (fun _ => ?_)) | (refine effK_by (F := ans) (fun _ => ?_) (fun _ => ?_)) | (refine effK_by2 (F := ans) (fun _ => ?_) (fun _ => ?_)) | (refine rdD_by (F := ans) (fun _ => ?_) (fun _ => ?_)) | (refine effD_by (F := ans) (fun _ => ?_) (fun _ => ?_)) | (refine effD_by2 (F := ans) (fun _ => ?_) (fun _ => ?_)) | simp -implicitDefEqProofs (disch := first | omega | (simp only [List.length_append, List.length_cons, List.length_nil, List.length_drop, List.length_take]; omega)) only [evs, tys, lors, Nat.reduceAdd, Nat.reduceSub, Nat.reduceMul, Nat.reducePow, Nat.reduceBEq, Nat.reduceLT, Nat.reduceLeDiff, Nat.reduceEqDiff, Int.reduceLT, Int.reduceLE, Int.reduceEq, Int.reduceNe, Int.reduceToNat, Int.reduceAdd, Int.reduceSub, Int.reduceMul, Int.reducePow, Int.reduceDiv, Int.reduceMod, Int.reduceNeg, reduceCtorEq, codeKey, List.contains, List.elem, Ev.load, peek, pack, storeV, fieldAddr, field, cvB, hap, src_sl])
        refine hlE _ _ _ (by rfl) (bytesL l) hbl ?_ L.length 8 [q1, q2, g] (by omega) (by omega) (by rw [hby]; rfl)
        intro z
        repeat' (first | (refine cond_by (F := ans) (fun _ => ?_) (fun _ => ?_)) | (refine wayK_by (F := ans) (fun _ hb_ => ?_) (fun _ hb_ => ?_) <;> simp only [hb_]) | (refine wayK_byN (F := ans) (fun _ hb_ => ?_) (fun _ hb_ => ?_) <;> simp only [hb_]) | (refine wayD_by (F := ans) (fun _ hb_ => ?_) (fun _ hb_ => ?_) <;> simp only [hb_]) | (refine wayD_byN (F := ans) (fun _ hb_ => ?_) (fun _ hb_ => ?_) <;> simp only [hb_]) | (refine rdK_by (F := ans) (fun _ => ?_) (fun _ => ?_)) | (refine effK_by (F := ans) (fun _ => ?_) (fun _ => ?_)) | (refine effK_by2 (F := ans) (fun _ => ?_) (fun _ => ?_)) | (refine rdD_by (F := ans) (fun _ => ?_) (fun _ => ?_)) | (refine effD_by (F := ans) (fun _ => ?_) (fun _ => ?_)) | (refine effD_by2 (F := ans) (fun _ => ?_) (fun _ => ?_)) | simp -implicitDefEqProofs (disch := first | omega | (simp only [List.length_append, List.length_cons, List.length_nil, List.length_drop, List.length_take]; omega)) only [evs, tys, lors, Nat.reduceAdd, Nat.reduceSub, Nat.reduceMul, Nat.reducePow, Nat.reduceBEq, Nat.reduceLT, Nat.reduceLeDiff, Nat.reduceEqDiff, Int.reduceLT, Int.reduceLE, Int.reduceEq, Int.reduceNe, Int.reduceToNat, Int.reduceAdd, Int.reduceSub, Int.reduceMul, Int.reducePow, Int.reduceDiv, Int.reduceMod, Int.reduceNeg, reduceCtorEq, codeKey, List.contains, List.elem, Ev.load, peek, pack, storeV, fieldAddr, field, cvB, hgv])
        all_goals first | rfl | trace_state
theorem enc9_nils (H : Heap) : callV (CL lore) 9 [.nils] H = some (encV [], H) := by
  refine callV_ans (r := some _) ?_ lore_sh9 rfl H
  have hf : ∀ H, callV (CL lore) 25 [.nils] H = some (.tup [.int .i64 0, .int .i64 0], H) := fun H => by
    refine callV_ans (r := some _) ?_ lore_sh25 rfl H
    rw [call_start lore_ext25 Tryd.func25 rfl lore_okf25 (Nat.le_of_ble_eq_true rfl)]
    repeat' (first | (refine cond_by (F := ans) (fun _ => ?_) (fun _ => ?_)) | (refine wayK_by (F := ans) (fun _ hb_ => ?_) (fun _ hb_ => ?_) <;> simp only [hb_]) | (refine wayK_byN (F := ans) (fun _ hb_ => ?_) (fun _ hb_ => ?_) <;> simp only [hb_]) | (refine wayD_by (F := ans) (fun _ hb_ => ?_) (fun _ hb_ => ?_) <;> simp only [hb_]) | (refine wayD_byN (F := ans) (fun _ hb_ => ?_) (fun _ hb_ => ?_) <;> simp only [hb_]) | (refine rdK_by (F := ans) (fun _ => ?_) (fun _ => ?_)) | (refine effK_by (F := ans) (fun _ => ?_) (fun _ => ?_)) | (refine effK_by2 (F := ans) (fun _ => ?_) (fun _ => ?_)) | (refine rdD_by (F := ans) (fun _ => ?_) (fun _ => ?_)) | (refine effD_by (F := ans) (fun _ => ?_) (fun _ => ?_)) | (refine effD_by2 (F := ans) (fun _ => ?_) (fun _ => ?_)) | simp -implicitDefEqProofs (disch := first | omega | (simp only [List.length_append, List.length_cons, List.length_nil, List.length_drop, List.length_take]; omega)) only [evs, tys, lors, Nat.reduceAdd, Nat.reduceSub, Nat.reduceMul, Nat.reducePow, Nat.reduceBEq, Nat.reduceLT, Nat.reduceLeDiff, Nat.reduceEqDiff, Int.reduceLT, Int.reduceLE, Int.reduceEq, Int.reduceNe, Int.reduceToNat, Int.reduceAdd, Int.reduceSub, Int.reduceMul, Int.reducePow, Int.reduceDiv, Int.reduceMod, Int.reduceNeg, reduceCtorEq, codeKey, List.contains, List.elem, Ev.load, peek, pack, storeV, fieldAddr, field, cvB])
    rw [loopL_step' rfl]
    repeat' (first | (refine cond_by (F := ans) (fun _ => ?_) (fun _ => ?_)) | (refine wayK_by (F := ans) (fun _ hb_ => ?_) (fun _ hb_ => ?_) <;> simp only [hb_]) | (refine wayK_byN (F := ans) (fun _ hb_ => ?_) (fun _ hb_ => ?_) <;> simp only [hb_]) | (refine wayD_by (F := ans) (fun _ hb_ => ?_) (fun _ hb_ => ?_) <;> simp only [hb_]) | (refine wayD_byN (F := ans) (fun _ hb_ => ?_) (fun _ hb_ => ?_) <;> simp only [hb_]) | (refine rdK_by (F := ans) (fun _ => ?_) (fun _ => ?_)) | (refine effK_by (F := ans) (fun _ => ?_) (fun _ => ?_)) | (refine effK_by2 (F := ans) (fun _ => ?_) (fun _ => ?_)) | (refine rdD_by (F := ans) (fun _ => ?_) (fun _ => ?_)) | (refine effD_by (F := ans) (fun _ => ?_) (fun _ => ?_)) | (refine effD_by2 (F := ans) (fun _ => ?_) (fun _ => ?_)) | simp -implicitDefEqProofs (disch := first | omega | (simp only [List.length_append, List.length_cons, List.length_nil, List.length_drop, List.length_take]; omega)) only [evs, tys, lors, Nat.reduceAdd, Nat.reduceSub, Nat.reduceMul, Nat.reducePow, Nat.reduceBEq, Nat.reduceLT, Nat.reduceLeDiff, Nat.reduceEqDiff, Int.reduceLT, Int.reduceLE, Int.reduceEq, Int.reduceNe, Int.reduceToNat, Int.reduceAdd, Int.reduceSub, Int.reduceMul, Int.reducePow, Int.reduceDiv, Int.reduceMod, Int.reduceNeg, reduceCtorEq, codeKey, List.contains, List.elem, Ev.load, peek, pack, storeV, fieldAddr, field, cvB])
    all_goals first | rfl | trace_state
  have hal : ∀ H, callV (CL lore) 16 [.nils] H = some (.nils, H) := fun H => by
    refine callV_ans (r := some _) ?_ lore_sh16 rfl H
    rw [call_start lore_ext16 Tryd.func16 rfl lore_okf16 (Nat.le_of_ble_eq_true rfl)]
    repeat' (first | (refine cond_by (F := ans) (fun _ => ?_) (fun _ => ?_)) | (refine wayK_by (F := ans) (fun _ hb_ => ?_) (fun _ hb_ => ?_) <;> simp only [hb_]) | (refine wayK_byN (F := ans) (fun _ hb_ => ?_) (fun _ hb_ => ?_) <;> simp only [hb_]) | (refine wayD_by (F := ans) (fun _ hb_ => ?_) (fun _ hb_ => ?_) <;> simp only [hb_]) | (refine wayD_byN (F := ans) (fun _ hb_ => ?_) (fun _ hb_ => ?_) <;> simp only [hb_]) | (refine rdK_by (F := ans) (fun _ => ?_) (fun _ => ?_)) | (refine effK_by (F := ans) (fun _ => ?_) (fun _ => ?_)) | (refine effK_by2 (F := ans) (fun _ => ?_) (fun _ => ?_)) | (refine rdD_by (F := ans) (fun _ => ?_) (fun _ => ?_)) | (refine effD_by (F := ans) (fun _ => ?_) (fun _ => ?_)) | (refine effD_by2 (F := ans) (fun _ => ?_) (fun _ => ?_)) | simp -implicitDefEqProofs (disch := first | omega | (simp only [List.length_append, List.length_cons, List.length_nil, List.length_drop, List.length_take]; omega)) only [evs, tys, lors, Nat.reduceAdd, Nat.reduceSub, Nat.reduceMul, Nat.reducePow, Nat.reduceBEq, Nat.reduceLT, Nat.reduceLeDiff, Nat.reduceEqDiff, Int.reduceLT, Int.reduceLE, Int.reduceEq, Int.reduceNe, Int.reduceToNat, Int.reduceAdd, Int.reduceSub, Int.reduceMul, Int.reducePow, Int.reduceDiv, Int.reduceMod, Int.reduceNeg, reduceCtorEq, codeKey, List.contains, List.elem, Ev.load, peek, pack, storeV, fieldAddr, field, cvB])
    rw [loopL_step' rfl]
    repeat' (first | (refine cond_by (F := ans) (fun _ => ?_) (fun _ => ?_)) | (refine wayK_by (F := ans) (fun _ hb_ => ?_) (fun _ hb_ => ?_) <;> simp only [hb_]) | (refine wayK_byN (F := ans) (fun _ hb_ => ?_) (fun _ hb_ => ?_) <;> simp only [hb_]) | (refine wayD_by (F := ans) (fun _ hb_ => ?_) (fun _ hb_ => ?_) <;> simp only [hb_]) | (refine wayD_byN (F := ans) (fun _ hb_ => ?_) (fun _ hb_ => ?_) <;> simp only [hb_]) | (refine rdK_by (F := ans) (fun _ => ?_) (fun _ => ?_)) | (refine effK_by (F := ans) (fun _ => ?_) (fun _ => ?_)) | (refine effK_by2 (F := ans) (fun _ => ?_) (fun _ => ?_)) | (refine rdD_by (F := ans) (fun _ => ?_) (fun _ => ?_)) | (refine effD_by (F := ans) (fun _ => ?_) (fun _ => ?_)) | (refine effD_by2 (F := ans) (fun _ => ?_) (fun _ => ?_)) | simp -implicitDefEqProofs (disch := first | omega | (simp only [List.length_append, List.length_cons, List.length_nil, List.length_drop, List.length_take]; omega)) only [evs, tys, lors, Nat.reduceAdd, Nat.reduceSub, Nat.reduceMul, Nat.reducePow, Nat.reduceBEq, Nat.reduceLT, Nat.reduceLeDiff, Nat.reduceEqDiff, Int.reduceLT, Int.reduceLE, Int.reduceEq, Int.reduceNe, Int.reduceToNat, Int.reduceAdd, Int.reduceSub, Int.reduceMul, Int.reducePow, Int.reduceDiv, Int.reduceMod, Int.reduceNeg, reduceCtorEq, codeKey, List.contains, List.elem, Ev.load, peek, pack, storeV, fieldAddr, field, cvB])
    all_goals first | rfl | trace_state
  rw [call_start lore_ext9 Tryd.func9 rfl lore_okf9 (Nat.le_of_ble_eq_true rfl)]
  repeat' (first | (refine cond_by (F := ans) (fun _ => ?_) (fun _ => ?_)) | (refine wayK_by (F := ans) (fun _ hb_ => ?_) (fun _ hb_ => ?_) <;> simp only [hb_]) | (refine wayK_byN (F := ans) (fun _ hb_ => ?_) (fun _ hb_ => ?_) <;> simp only [hb_]) | (refine wayD_by (F := ans) (fun _ hb_ => ?_) (fun _ hb_ => ?_) <;> simp only [hb_]) | (refine wayD_byN (F := ans) (fun _ hb_ => ?_) (fun _ hb_ => ?_) <;> simp only [hb_]) | (refine rdK_by (F := ans) (fun _ => ?_) (fun _ => ?_)) | (refine effK_by (F := ans) (fun _ => ?_) (fun _ => ?_)) | (refine effK_by2 (F := ans) (fun _ => ?_) (fun _ => ?_)) | (refine rdD_by (F := ans) (fun _ => ?_) (fun _ => ?_)) | (refine effD_by (F := ans) (fun _ => ?_) (fun _ => ?_)) | (refine effD_by2 (F := ans) (fun _ => ?_) (fun _ => ?_)) | simp -implicitDefEqProofs (disch := first | omega | (simp only [List.length_append, List.length_cons, List.length_nil, List.length_drop, List.length_take]; omega)) only [evs, tys, lors, Nat.reduceAdd, Nat.reduceSub, Nat.reduceMul, Nat.reducePow, Nat.reduceBEq, Nat.reduceLT, Nat.reduceLeDiff, Nat.reduceEqDiff, Int.reduceLT, Int.reduceLE, Int.reduceEq, Int.reduceNe, Int.reduceToNat, Int.reduceAdd, Int.reduceSub, Int.reduceMul, Int.reducePow, Int.reduceDiv, Int.reduceMod, Int.reduceNeg, reduceCtorEq, codeKey, List.contains, List.elem, Ev.load, peek, pack, storeV, fieldAddr, field, cvB, hf, hal])
  rw [loopL_step' rfl]
  repeat' (first | (refine cond_by (F := ans) (fun _ => ?_) (fun _ => ?_)) | (refine wayK_by (F := ans) (fun _ hb_ => ?_) (fun _ hb_ => ?_) <;> simp only [hb_]) | (refine wayK_byN (F := ans) (fun _ hb_ => ?_) (fun _ hb_ => ?_) <;> simp only [hb_]) | (refine wayD_by (F := ans) (fun _ hb_ => ?_) (fun _ hb_ => ?_) <;> simp only [hb_]) | (refine wayD_byN (F := ans) (fun _ hb_ => ?_) (fun _ hb_ => ?_) <;> simp only [hb_]) | (refine rdK_by (F := ans) (fun _ => ?_) (fun _ => ?_)) | (refine effK_by (F := ans) (fun _ => ?_) (fun _ => ?_)) | (refine effK_by2 (F := ans) (fun _ => ?_) (fun _ => ?_)) | (refine rdD_by (F := ans) (fun _ => ?_) (fun _ => ?_)) | (refine effD_by (F := ans) (fun _ => ?_) (fun _ => ?_)) | (refine effD_by2 (F := ans) (fun _ => ?_) (fun _ => ?_)) | simp -implicitDefEqProofs (disch := first | omega | (simp only [List.length_append, List.length_cons, List.length_nil, List.length_drop, List.length_take]; omega)) only [evs, tys, lors, Nat.reduceAdd, Nat.reduceSub, Nat.reduceMul, Nat.reducePow, Nat.reduceBEq, Nat.reduceLT, Nat.reduceLeDiff, Nat.reduceEqDiff, Int.reduceLT, Int.reduceLE, Int.reduceEq, Int.reduceNe, Int.reduceToNat, Int.reduceAdd, Int.reduceSub, Int.reduceMul, Int.reducePow, Int.reduceDiv, Int.reduceMod, Int.reduceNeg, reduceCtorEq, codeKey, List.contains, List.elem, Ev.load, peek, pack, storeV, fieldAddr, field, cvB])
  all_goals first | rfl | trace_state
theorem enc9_row (l : List (Int × Nat)) (hd : DotsOk l) (r : Nat) (H : Heap) (hr : r < H.length) (hH : H[r]? = some ⟨encD l, 2, true, false⟩) : callV (CL lore) 9 [.row r l.length] H = some (encV l, H.set r ⟨encD l, 2, true, true⟩) := by
  refine callV_thaw (ws := [.sl (encD l) 2 false]) rfl ?_ rfl (fun H => enc9_cv l false hd H)
  simp [fz2s, fz2, fz1, hH, encD_len]
end Go.Proofs.YtmjdcoacmmmhnaaDoor
