/-
The reference's bits: number, join, varint, signed, noughts. The reference's bits: varint, signed, noughts. The reference's bits: differences of differences, values.
-/
import Derived.Test.YtmjdcoacmmmhnaaDoorA9
namespace Go.Proofs.YtmjdcoacmmmhnaaDoor
open Go Ev
set_option linter.all false
set_option maxHeartbeats 4000000
set_option maxRecDepth 5000
attribute [local irreducible] codeL condL loopL callL callV evOps evDraw rdK effK wayK oneK wayD oneD rdD effD chks chkB res



theorem s34_sl {H : Heap} {es : List V} {c : Bool} : srcV Tryd.prog H 1 34 (.sl es 1 c) = some es := by
  simp only [srcV, Tryd.underlying34, szOk, els, beq_self_eq_true, if_true]
theorem s34_nils {H : Heap} : srcV Tryd.prog H 1 34 .nils = some [] := by
  simp only [srcV, Tryd.underlying34, szOk, els, if_true]
theorem enc8_one (v : Int) : [V.int .u8 v] = enc8 [v] := rfl
theorem a34_nils {H : Heap} {b : List Int} (hb : b.length ≤ 100000000000) : appendV Tryd.prog H 34 .nils (enc8 b) = some (.row H.length b.length, H ++ [⟨enc8 b, 1, true, false⟩]) := by
  have hz : sizeT Tryd.prog 5 = 1 := sz5
  have hbt := by5
  have e : maxLen47 = 140737488355328 := by decide
  have hl := enc8_len b
  have hm : (enc8 b).length * bytesT Tryd.prog 5 ≤ maxLen47 := by
    have := Nat.mul_le_mul (show (enc8 b).length ≤ 100000000000 by omega) hbt
    omega
  simp only [appendV, Tryd.underlying34, el5, if_true, hz]
  rw [if_pos ⟨hm, by omega⟩, plains_enc8, hl]
theorem a34_row {H : Heap} {i tot : Nat} {a b : List Int} (hH : H[i]? = some ⟨enc8 a, 1, true, false⟩) (ha : a.length = tot) (hb : tot + b.length ≤ 100000000000) : appendV Tryd.prog H 34 (.row i tot) (enc8 b) = some (.row i (tot + b.length), H.set i ⟨enc8 (a ++ b), 1, true, false⟩) := by
  have hz : sizeT Tryd.prog 5 = 1 := sz5
  have hbt := by5
  have e : maxLen47 = 140737488355328 := by decide
  have hl := enc8_len b
  have hl2 := enc8_len a
  have hm : (tot + (enc8 b).length) * bytesT Tryd.prog 5 ≤ maxLen47 := by
    have := Nat.mul_le_mul (show tot + (enc8 b).length ≤ 100000000000 by omega) hbt
    omega
  simp only [appendV, Tryd.underlying34, el5, if_true, hH, hz]
  rw [if_pos ⟨trivial, by omega, fun _ => plains_enc8 b, hm, by omega⟩, hl, enc8_app]
/-! number. -/
theorem loopNum (x : Int) (hx : 0 ≤ x ∧ x < 18446744073709551616) (K : Kont) (R : Option V) (a : Code) (ha : loopIn Tryd.prog 32 3 = some a) (out : List Int)
    (hR : ans (K (.exit 0) (Sl 23 .wild [(0, .int .u64 x), (5, .row 0 out.length), (6, .int .i64 (-1))]) [⟨enc8 out, 1, true, false⟩]) = R) :
    ∀ (m : Nat) (bits : List Int) (z : Int), z = (m : Int) - 1 → m ≤ 64 → bits.length + m ≤ 100 → bits ++ numB x m = out → ans (loopL lore 32 a (Sl 23 .wild [(0, .int .u64 x), (5, .row 0 bits.length), (6, .int .i64 z)]) [⟨enc8 bits, 1, true, false⟩] K) = R := by
  have hk := loop_key ha
  simp only [loopIn, Tryd.func32, Tryd.f32, loopAt, Option.bind_some, codeKey, if_true, Option.some.injEq, Nat.reduceEqDiff, if_false] at ha
  intro m
  induction m with
  | zero =>
    intro bits z hz hm hl ho
    rw [numB, List.append_nil] at ho
    subst ho
    obtain rfl : z = -1 := by omega
    rw [loopL_step' ha]
    repeat' (first | (refine cond_by (F := ans) (fun _ => ?_) (fun _ => ?_)) | (refine wayK_by (F := ans) (fun _ hb_ => ?_) (fun _ hb_ => ?_) <;> simp only [hb_]) | (refine wayK_byN (F := ans) (fun _ hb_ => ?_) (fun _ hb_ => ?_) <;> simp only [hb_]) | (refine wayD_by (F := ans) (fun _ hb_ => ?_) (fun _ hb_ => ?_) <;> simp only [hb_]) | (refine wayD_byN (F := ans) (fun _ hb_ => ?_) (fun _ hb_ => ?_) <;> simp only [hb_]) | (refine rdK_by (F := ans) (fun _ => ?_) (fun _ => ?_)) | (refine effK_by (F := ans) (fun _ => ?_) (fun _ => ?_)) | (refine effK_by2 (F := ans) (fun _ => ?_) (fun _ => ?_)) | (refine rdD_by (F := ans) (fun _ => ?_) (fun _ => ?_)) | (refine effD_by (F := ans) (fun _ => ?_) (fun _ => ?_)) | (refine effD_by2 (F := ans) (fun _ => ?_) (fun _ => ?_)) | simp -implicitDefEqProofs (disch := first | omega | (simp only [List.length_append, List.length_cons, List.length_nil, List.length_drop, List.length_take]; omega)) only [evs, tys, lors, Nat.reduceAdd, Nat.reduceSub, Nat.reduceMul, Nat.reducePow, Nat.reduceBEq, Nat.reduceLT, Nat.reduceLeDiff, Nat.reduceEqDiff, Int.reduceLT, Int.reduceLE, Int.reduceEq, Int.reduceNe, Int.reduceToNat, Int.reduceAdd, Int.reduceSub, Int.reduceMul, Int.reducePow, Int.reduceDiv, Int.reduceMod, Int.reduceNeg, reduceCtorEq, codeKey, List.contains, List.elem, Ev.load, peek, pack, storeV, fieldAddr, field, cvB, hk])
    exact hR
  | succ m ih =>
    intro bits z hz hm hl ho
    obtain rfl : z = (m : Int) := by omega
    have hm0 : (0 : Int) ≤ (m : Int) := by omega
    have hxm : 0 ≤ x / 2 ^ m ∧ x / 2 ^ m < 18446744073709551616 := ⟨Int.ediv_nonneg hx.1 (Int.le_of_lt (p2_pos m)), Int.lt_of_le_of_lt (Int.ediv_le_self _ hx.1) hx.2⟩
    have hbit : 0 ≤ x / 2 ^ m % 2 ∧ x / 2 ^ m % 2 ≤ 1 := by omega
    have hap := a34_row (H := [⟨enc8 bits, 1, true, false⟩]) (i := 0) (a := bits) (b := [x / 2 ^ m % 2]) rfl rfl (by simp only [List.length_cons, List.length_nil]; omega)
    rw [← enc8_one] at hap
    have hn := ih (bits ++ [x / 2 ^ m % 2]) ((m : Int) - 1) rfl (by omega) (by simp only [List.length_append, List.length_cons, List.length_nil]; omega) (by rw [List.append_assoc]; exact ho)
    rw [List.length_append] at hn
    rw [loopL_step' ha]
    repeat' (first | (refine cond_by (F := ans) (fun _ => ?_) (fun _ => ?_)) | (refine wayK_by (F := ans) (fun _ hb_ => ?_) (fun _ hb_ => ?_) <;> simp only [hb_]) | (refine wayK_byN (F := ans) (fun _ hb_ => ?_) (fun _ hb_ => ?_) <;> simp only [hb_]) | (refine wayD_by (F := ans) (fun _ hb_ => ?_) (fun _ hb_ => ?_) <;> simp only [hb_]) | (refine wayD_byN (F := ans) (fun _ hb_ => ?_) (fun _ hb_ => ?_) <;> simp only [hb_]) | (refine rdK_by (F := ans) (fun _ => ?_) (fun _ => ?_)) | (refine effK_by (F := ans) (fun _ => ?_) (fun _ => ?_)) | (refine effK_by2 (F := ans) (fun _ => ?_) (fun _ => ?_)) | (refine rdD_by (F := ans) (fun _ => ?_) (fun _ => ?_)) | (refine effD_by (F := ans) (fun _ => ?_) (fun _ => ?_)) | (refine effD_by2 (F := ans) (fun _ => ?_) (fun _ => ?_)) | simp -implicitDefEqProofs (disch := first | omega | (simp only [List.length_append, List.length_cons, List.length_nil, List.length_drop, List.length_take]; omega)) only [evs, tys, lors, Nat.reduceAdd, Nat.reduceSub, Nat.reduceMul, Nat.reducePow, Nat.reduceBEq, Nat.reduceLT, Nat.reduceLeDiff, Nat.reduceEqDiff, Int.reduceLT, Int.reduceLE, Int.reduceEq, Int.reduceNe, Int.reduceToNat, Int.reduceAdd, Int.reduceSub, Int.reduceMul, Int.reducePow, Int.reduceDiv, Int.reduceMod, Int.reduceNeg, reduceCtorEq, codeKey, List.contains, List.elem, Ev.load, peek, pack, storeV, fieldAddr, field, cvB, hk, hm0, hap, s34_sl, bits1, decide_true, Int.toNat_natCast])
    all_goals first
      | exact hn
      | trace_state
theorem num_cv (x : Int) (hx : 0 ≤ x ∧ x < 18446744073709551616) (n : Nat) (hn : 1 ≤ n) (hn64 : n ≤ 64) (H : Heap) : callV (CL lore) 32 [.int .u64 x, .int .i64 (n : Int)] H = some (.sl (enc8 (numB x n)) 1 false, H) := by
  refine callV_ans (r := some _) ?_ lore_sh32 rfl H
  obtain ⟨m, rfl⟩ : ∃ m, n = m + 1 := ⟨n - 1, by omega⟩
  have hz : ((m + 1 : Nat) : Int) - 1 = (m : Int) := by omega
  have hm0 : (0 : Int) ≤ (m : Int) := by omega
  have hxm : 0 ≤ x / 2 ^ m ∧ x / 2 ^ m < 18446744073709551616 := ⟨Int.ediv_nonneg hx.1 (Int.le_of_lt (p2_pos m)), Int.lt_of_le_of_lt (Int.ediv_le_self _ hx.1) hx.2⟩
  have hbit : 0 ≤ x / 2 ^ m % 2 ∧ x / 2 ^ m % 2 ≤ 1 := by omega
  have hap := a34_nils (H := []) (b := [x / 2 ^ m % 2]) (by simp)
  rw [← enc8_one] at hap
  have hlp := loopNum x hx
  rw [call_start lore_ext32 Tryd.func32 rfl lore_okf32 (Nat.le_of_ble_eq_true rfl)]
  repeat' (first | (refine cond_by (F := ans) (fun _ => ?_) (fun _ => ?_)) | (refine wayK_by (F := ans) (fun _ hb_ => ?_) (fun _ hb_ => ?_) <;> simp only [hb_]) | (refine wayK_byN (F := ans) (fun _ hb_ => ?_) (fun _ hb_ => ?_) <;> simp only [hb_]) | (refine wayD_by (F := ans) (fun _ hb_ => ?_) (fun _ hb_ => ?_) <;> simp only [hb_]) | (refine wayD_byN (F := ans) (fun _ hb_ => ?_) (fun _ hb_ => ?_) <;> simp only [hb_]) | (refine rdK_by (F := ans) (fun _ => ?_) (fun _ => ?_)) | (refine effK_by (F := ans) (fun _ => ?_) (fun _ => ?_)) | (refine effK_by2 (F := ans) (fun _ => ?_) (fun _ => ?_)) | (refine rdD_by (F := ans) (fun _ => ?_) (fun _ => ?_)) | (refine effD_by (F := ans) (fun _ => ?_) (fun _ => ?_)) | (refine effD_by2 (F := ans) (fun _ => ?_) (fun _ => ?_)) | simp -implicitDefEqProofs (disch := first | omega | (simp only [List.length_append, List.length_cons, List.length_nil, List.length_drop, List.length_take]; omega)) only [evs, tys, lors, Nat.reduceAdd, Nat.reduceSub, Nat.reduceMul, Nat.reducePow, Nat.reduceBEq, Nat.reduceLT, Nat.reduceLeDiff, Nat.reduceEqDiff, Int.reduceLT, Int.reduceLE, Int.reduceEq, Int.reduceNe, Int.reduceToNat, Int.reduceAdd, Int.reduceSub, Int.reduceMul, Int.reducePow, Int.reduceDiv, Int.reduceMod, Int.reduceNeg, reduceCtorEq, codeKey, List.contains, List.elem, Ev.load, peek, pack, storeV, fieldAddr, field, cvB, hz])
  rw [loopL_step' rfl]
  repeat' (first | (refine cond_by (F := ans) (fun _ => ?_) (fun _ => ?_)) | (refine wayK_by (F := ans) (fun _ hb_ => ?_) (fun _ hb_ => ?_) <;> simp only [hb_]) | (refine wayK_byN (F := ans) (fun _ hb_ => ?_) (fun _ hb_ => ?_) <;> simp only [hb_]) | (refine wayD_by (F := ans) (fun _ hb_ => ?_) (fun _ hb_ => ?_) <;> simp only [hb_]) | (refine wayD_byN (F := ans) (fun _ hb_ => ?_) (fun _ hb_ => ?_) <;> simp only [hb_]) | (refine rdK_by (F := ans) (fun _ => ?_) (fun _ => ?_)) | (refine effK_by (F := ans) (fun _ => ?_) (fun _ => ?_)) | (refine effK_by2 (F := ans) (fun _ => ?_) (fun _ => ?_)) | (refine rdD_by (F := ans) (fun _ => ?_) (fun _ => ?_)) | (refine effD_by (F := ans) (fun _ => ?_) (fun _ => ?_)) | (refine effD_by2 (F := ans) (fun _ => ?_) (fun _ => ?_)) | simp -implicitDefEqProofs (disch := first | omega | (simp only [List.length_append, List.length_cons, List.length_nil, List.length_drop, List.length_take]; omega)) only [evs, tys, lors, Nat.reduceAdd, Nat.reduceSub, Nat.reduceMul, Nat.reducePow, Nat.reduceBEq, Nat.reduceLT, Nat.reduceLeDiff, Nat.reduceEqDiff, Int.reduceLT, Int.reduceLE, Int.reduceEq, Int.reduceNe, Int.reduceToNat, Int.reduceAdd, Int.reduceSub, Int.reduceMul, Int.reducePow, Int.reduceDiv, Int.reduceMod, Int.reduceNeg, reduceCtorEq, codeKey, List.contains, List.elem, Ev.load, peek, pack, storeV, fieldAddr, field, cvB, hm0, hap, s34_sl, bits1, decide_true, Int.toNat_natCast])
  refine hlp _ _ _ (by rfl) (numB x (m + 1)) ?_ m [x / 2 ^ m % 2] _ rfl (by omega) (by simp only [List.length_cons, List.length_nil]; omega) rfl
  repeat' (first | (refine cond_by (F := ans) (fun _ => ?_) (fun _ => ?_)) | (refine wayK_by (F := ans) (fun _ hb_ => ?_) (fun _ hb_ => ?_) <;> simp only [hb_]) | (refine wayK_byN (F := ans) (fun _ hb_ => ?_) (fun _ hb_ => ?_) <;> simp only [hb_]) | (refine wayD_by (F := ans) (fun _ hb_ => ?_) (fun _ hb_ => ?_) <;> simp only [hb_]) | (refine wayD_byN (F := ans) (fun _ hb_ => ?_) (fun _ hb_ => ?_) <;> simp only [hb_]) | (refine rdK_by (F := ans) (fun _ => ?_) (fun _ => ?_)) | (refine effK_by (F := ans) (fun _ => ?_) (fun _ => ?_)) | (refine effK_by2 (F := ans) (fun _ => ?_) (fun _ => ?_)) | (refine rdD_by (F := ans) (fun _ => ?_) (fun _ => ?_)) | (refine effD_by (F := ans) (fun _ => ?_) (fun _ => ?_)) | (refine effD_by2 (F := ans) (fun _ => ?_) (fun _ => ?_)) | simp -implicitDefEqProofs (disch := first | omega | (simp only [List.length_append, List.length_cons, List.length_nil, List.length_drop, List.length_take]; omega)) only [evs, tys, lors, Nat.reduceAdd, Nat.reduceSub, Nat.reduceMul, Nat.reducePow, Nat.reduceBEq, Nat.reduceLT, Nat.reduceLeDiff, Nat.reduceEqDiff, Int.reduceLT, Int.reduceLE, Int.reduceEq, Int.reduceNe, Int.reduceToNat, Int.reduceAdd, Int.reduceSub, Int.reduceMul, Int.reducePow, Int.reduceDiv, Int.reduceMod, Int.reduceNeg, reduceCtorEq, codeKey, List.contains, List.elem, Ev.load, peek, pack, storeV, fieldAddr, field, cvB])
  simp [giveP, give, fz2, fz1, enc8_len]
/-! join. -/
def Part (v : V) (b : List Int) : Prop := (v = .nils ∧ b = []) ∨ ∃ c, v = .sl (enc8 b) 1 c
theorem part_src {H : Heap} {v : V} {b : List Int} (h : Part v b) : srcV Tryd.prog H 1 34 v = some (enc8 b) := by
  rcases h with ⟨rfl, rfl⟩ | ⟨c, rfl⟩
  · exact s34_nils
  · exact s34_sl
theorem part_cells {v : V} {b : List Int} (h : Part v b) : v.cells = [v] := by
  rcases h with ⟨rfl, rfl⟩ | ⟨c, rfl⟩ <;> rfl
theorem part_one {v : V} {b : List Int} (h : Part v b) : v.one = true := by
  rcases h with ⟨rfl, rfl⟩ | ⟨c, rfl⟩ <;> rfl
theorem part_plain {v : V} {b : List Int} (h : Part v b) : v.plain = true := by
  rcases h with ⟨rfl, rfl⟩ | ⟨c, rfl⟩ <;> rfl
theorem part_sl (b : List Int) (c : Bool) : Part (.sl (enc8 b) 1 c) b := Or.inr ⟨c, rfl⟩
theorem nx_get (H : Heap) (x : Box) : (H ++ [x])[H.length]? = some x := by simp
theorem nx_set (H : Heap) (x y : Box) : (H ++ [x]).set H.length y = H ++ [y] := by simp
theorem join2 {v1 v2 : V} {b1 b2 : List Int} (h1 : Part v1 b1) (h2 : Part v2 b2) (hl : b1.length + b2.length ≤ 100000000000) (H : Heap) :
    callV (CL lore) 39 [.sl [v1, v2] 1 true] H = some (.row H.length (b1.length + b2.length), H ++ [⟨enc8 (b1 ++ b2), 1, true, false⟩]) := by
  refine callV_sh rfl ?_
  have p1 := a34_nils (H := H) (b := b1) (by omega)
  have p2 := a34_row (nx_get H ⟨enc8 b1, 1, true, false⟩) rfl (b := b2) (by omega)
  rw [nx_set] at p2
  rw [call_start lore_ext39 Tryd.func39 rfl lore_okf39 (Nat.le_of_ble_eq_true rfl)]
  repeat' (first | (refine cond_by (F := res) (fun _ => ?_) (fun _ => ?_)) | (refine wayK_by (F := res) (fun _ hb_ => ?_) (fun _ hb_ => ?_) <;> simp only [hb_]) | (refine wayK_byN (F := res) (fun _ hb_ => ?_) (fun _ hb_ => ?_) <;> simp only [hb_]) | (refine wayD_by (F := res) (fun _ hb_ => ?_) (fun _ hb_ => ?_) <;> simp only [hb_]) | (refine wayD_byN (F := res) (fun _ hb_ => ?_) (fun _ hb_ => ?_) <;> simp only [hb_]) | (refine rdK_by (F := res) (fun _ => ?_) (fun _ => ?_)) | (refine effK_by (F := res) (fun _ => ?_) (fun _ => ?_)) | (refine effK_by2 (F := res) (fun _ => ?_) (fun _ => ?_)) | (refine rdD_by (F := res) (fun _ => ?_) (fun _ => ?_)) | (refine effD_by (F := res) (fun _ => ?_) (fun _ => ?_)) | (refine effD_by2 (F := res) (fun _ => ?_) (fun _ => ?_)) | simp -implicitDefEqProofs (disch := first | omega | (simp only [List.length_append, List.length_cons, List.length_nil, List.length_drop, List.length_take]; omega)) only [evs, tys, lors, Nat.reduceAdd, Nat.reduceSub, Nat.reduceMul, Nat.reducePow, Nat.reduceBEq, Nat.reduceLT, Nat.reduceLeDiff, Nat.reduceEqDiff, Int.reduceLT, Int.reduceLE, Int.reduceEq, Int.reduceNe, Int.reduceToNat, Int.reduceAdd, Int.reduceSub, Int.reduceMul, Int.reducePow, Int.reduceDiv, Int.reduceMod, Int.reduceNeg, reduceCtorEq, codeKey, List.contains, List.elem, Ev.load, peek, pack, storeV, fieldAddr, field, cvB])
  rw [loopL_step' rfl]
  repeat' (first | (refine cond_by (F := res) (fun _ => ?_) (fun _ => ?_)) | (refine wayK_by (F := res) (fun _ hb_ => ?_) (fun _ hb_ => ?_) <;> simp only [hb_]) | (refine wayK_byN (F := res) (fun _ hb_ => ?_) (fun _ hb_ => ?_) <;> simp only [hb_]) | (refine wayD_by (F := res) (fun _ hb_ => ?_) (fun _ hb_ => ?_) <;> simp only [hb_]) | (refine wayD_byN (F := res) (fun _ hb_ => ?_) (fun _ hb_ => ?_) <;> simp only [hb_]) | (refine rdK_by (F := res) (fun _ => ?_) (fun _ => ?_)) | (refine effK_by (F := res) (fun _ => ?_) (fun _ => ?_)) | (refine effK_by2 (F := res) (fun _ => ?_) (fun _ => ?_)) | (refine rdD_by (F := res) (fun _ => ?_) (fun _ => ?_)) | (refine effD_by (F := res) (fun _ => ?_) (fun _ => ?_)) | (refine effD_by2 (F := res) (fun _ => ?_) (fun _ => ?_)) | simp -implicitDefEqProofs (disch := first | omega | (simp only [List.length_append, List.length_cons, List.length_nil, List.length_drop, List.length_take]; omega)) only [evs, tys, lors, Nat.reduceAdd, Nat.reduceSub, Nat.reduceMul, Nat.reducePow, Nat.reduceBEq, Nat.reduceLT, Nat.reduceLeDiff, Nat.reduceEqDiff, Int.reduceLT, Int.reduceLE, Int.reduceEq, Int.reduceNe, Int.reduceToNat, Int.reduceAdd, Int.reduceSub, Int.reduceMul, Int.reducePow, Int.reduceDiv, Int.reduceMod, Int.reduceNeg, reduceCtorEq, codeKey, List.contains, List.elem, Ev.load, peek, pack, storeV, fieldAddr, field, cvB, part_cells h1, part_cells h2, part_src h1, p1])
  rw [loopL_step' rfl]
  repeat' (first | (refine cond_by (F := res) (fun _ => ?_) (fun _ => ?_)) | (refine wayK_by (F := res) (fun _ hb_ => ?_) (fun _ hb_ => ?_) <;> simp only [hb_]) | (refine wayK_byN (F := res) (fun _ hb_ => ?_) (fun _ hb_ => ?_) <;> simp only [hb_]) | (refine wayD_by (F := res) (fun _ hb_ => ?_) (fun _ hb_ => ?_) <;> simp only [hb_]) | (refine wayD_byN (F := res) (fun _ hb_ => ?_) (fun _ hb_ => ?_) <;> simp only [hb_]) | (refine rdK_by (F := res) (fun _ => ?_) (fun _ => ?_)) | (refine effK_by (F := res) (fun _ => ?_) (fun _ => ?_)) | (refine effK_by2 (F := res) (fun _ => ?_) (fun _ => ?_)) | (refine rdD_by (F := res) (fun _ => ?_) (fun _ => ?_)) | (refine effD_by (F := res) (fun _ => ?_) (fun _ => ?_)) | (refine effD_by2 (F := res) (fun _ => ?_) (fun _ => ?_)) | simp -implicitDefEqProofs (disch := first | omega | (simp only [List.length_append, List.length_cons, List.length_nil, List.length_drop, List.length_take]; omega)) only [evs, tys, lors, Nat.reduceAdd, Nat.reduceSub, Nat.reduceMul, Nat.reducePow, Nat.reduceBEq, Nat.reduceLT, Nat.reduceLeDiff, Nat.reduceEqDiff, Int.reduceLT, Int.reduceLE, Int.reduceEq, Int.reduceNe, Int.reduceToNat, Int.reduceAdd, Int.reduceSub, Int.reduceMul, Int.reducePow, Int.reduceDiv, Int.reduceMod, Int.reduceNeg, reduceCtorEq, codeKey, List.contains, List.elem, Ev.load, peek, pack, storeV, fieldAddr, field, cvB, part_cells h1, part_cells h2, part_src h2, p2])
  rw [loopL_step' rfl]
  repeat' (first | (refine cond_by (F := res) (fun _ => ?_) (fun _ => ?_)) | (refine wayK_by (F := res) (fun _ hb_ => ?_) (fun _ hb_ => ?_) <;> simp only [hb_]) | (refine wayK_byN (F := res) (fun _ hb_ => ?_) (fun _ hb_ => ?_) <;> simp only [hb_]) | (refine wayD_by (F := res) (fun _ hb_ => ?_) (fun _ hb_ => ?_) <;> simp only [hb_]) | (refine wayD_byN (F := res) (fun _ hb_ => ?_) (fun _ hb_ => ?_) <;> simp only [hb_]) | (refine rdK_by (F := res) (fun _ => ?_) (fun _ => ?_)) | (refine effK_by (F := res) (fun _ => ?_) (fun _ => ?_)) | (refine effK_by2 (F := res) (fun _ => ?_) (fun _ => ?_)) | (refine rdD_by (F := res) (fun _ => ?_) (fun _ => ?_)) | (refine effD_by (F := res) (fun _ => ?_) (fun _ => ?_)) | (refine effD_by2 (F := res) (fun _ => ?_) (fun _ => ?_)) | simp -implicitDefEqProofs (disch := first | omega | (simp only [List.length_append, List.length_cons, List.length_nil, List.length_drop, List.length_take]; omega)) only [evs, tys, lors, Nat.reduceAdd, Nat.reduceSub, Nat.reduceMul, Nat.reducePow, Nat.reduceBEq, Nat.reduceLT, Nat.reduceLeDiff, Nat.reduceEqDiff, Int.reduceLT, Int.reduceLE, Int.reduceEq, Int.reduceNe, Int.reduceToNat, Int.reduceAdd, Int.reduceSub, Int.reduceMul, Int.reducePow, Int.reduceDiv, Int.reduceMod, Int.reduceNeg, reduceCtorEq, codeKey, List.contains, List.elem, Ev.load, peek, pack, storeV, fieldAddr, field, cvB])
  all_goals exact res_eq
theorem join3 {v1 v2 v3 : V} {b1 b2 b3 : List Int} (h1 : Part v1 b1) (h2 : Part v2 b2) (h3 : Part v3 b3) (hl : b1.length + b2.length + b3.length ≤ 100000000000) (H : Heap) :
    callV (CL lore) 39 [.sl [v1, v2, v3] 1 true] H = some (.row H.length (b1.length + b2.length + b3.length), H ++ [⟨enc8 (b1 ++ b2 ++ b3), 1, true, false⟩]) := by
  refine callV_sh rfl ?_
  have p1 := a34_nils (H := H) (b := b1) (by omega)
  have p2 := a34_row (nx_get H ⟨enc8 b1, 1, true, false⟩) rfl (b := b2) (by omega)
  have p3 := a34_row (nx_get H ⟨enc8 (b1 ++ b2), 1, true, false⟩) List.length_append (b := b3) (by omega)
  rw [nx_set] at p2 p3
  rw [call_start lore_ext39 Tryd.func39 rfl lore_okf39 (Nat.le_of_ble_eq_true rfl)]
  repeat' (first | (refine cond_by (F := res) (fun _ => ?_) (fun _ => ?_)) | (refine wayK_by (F := res) (fun _ hb_ => ?_) (fun _ hb_ => ?_) <;> simp only [hb_]) | (refine wayK_byN (F := res) (fun _ hb_ => ?_) (fun _ hb_ => ?_) <;> simp only [hb_]) | (refine wayD_by (F := res) (fun _ hb_ => ?_) (fun _ hb_ => ?_) <;> simp only [hb_]) | (refine wayD_byN (F := res) (fun _ hb_ => ?_) (fun _ hb_ => ?_) <;> simp only [hb_]) | (refine rdK_by (F := res) (fun _ => ?_) (fun _ => ?_)) | (refine effK_by (F := res) (fun _ => ?_) (fun _ => ?_)) | (refine effK_by2 (F := res) (fun _ => ?_) (fun _ => ?_)) | (refine rdD_by (F := res) (fun _ => ?_) (fun _ => ?_)) | (refine effD_by (F := res) (fun _ => ?_) (fun _ => ?_)) | (refine effD_by2 (F := res) (fun _ => ?_) (fun _ => ?_)) | simp -implicitDefEqProofs (disch := first | omega | (simp only [List.length_append, List.length_cons, List.length_nil, List.length_drop, List.length_take]; omega)) only [evs, tys, lors, Nat.reduceAdd, Nat.reduceSub, Nat.reduceMul, Nat.reducePow, Nat.reduceBEq, Nat.reduceLT, Nat.reduceLeDiff, Nat.reduceEqDiff, Int.reduceLT, Int.reduceLE, Int.reduceEq, Int.reduceNe, Int.reduceToNat, Int.reduceAdd, Int.reduceSub, Int.reduceMul, Int.reducePow, Int.reduceDiv, Int.reduceMod, Int.reduceNeg, reduceCtorEq, codeKey, List.contains, List.elem, Ev.load, peek, pack, storeV, fieldAddr, field, cvB])
  rw [loopL_step' rfl]
  repeat' (first | (refine cond_by (F := res) (fun _ => ?_) (fun _ => ?_)) | (refine wayK_by (F := res) (fun _ hb_ => ?_) (fun _ hb_ => ?_) <;> simp only [hb_]) | (refine wayK_byN (F := res) (fun _ hb_ => ?_) (fun _ hb_ => ?_) <;> simp only [hb_]) | (refine wayD_by (F := res) (fun _ hb_ => ?_) (fun _ hb_ => ?_) <;> simp only [hb_]) | (refine wayD_byN (F := res) (fun _ hb_ => ?_) (fun _ hb_ => ?_) <;> simp only [hb_]) | (refine rdK_by (F := res) (fun _ => ?_) (fun _ => ?_)) | (refine effK_by (F := res) (fun _ => ?_) (fun _ => ?_)) | (refine effK_by2 (F := res) (fun _ => ?_) (fun _ => ?_)) | (refine rdD_by (F := res) (fun _ => ?_) (fun _ => ?_)) | (refine effD_by (F := res) (fun _ => ?_) (fun _ => ?_)) | (refine effD_by2 (F := res) (fun _ => ?_) (fun _ => ?_)) | simp -implicitDefEqProofs (disch := first | omega | (simp only [List.length_append, List.length_cons, List.length_nil, List.length_drop, List.length_take]; omega)) only [evs, tys, lors, Nat.reduceAdd, Nat.reduceSub, Nat.reduceMul, Nat.reducePow, Nat.reduceBEq, Nat.reduceLT, Nat.reduceLeDiff, Nat.reduceEqDiff, Int.reduceLT, Int.reduceLE, Int.reduceEq, Int.reduceNe, Int.reduceToNat, Int.reduceAdd, Int.reduceSub, Int.reduceMul, Int.reducePow, Int.reduceDiv, Int.reduceMod, Int.reduceNeg, reduceCtorEq, codeKey, List.contains, List.elem, Ev.load, peek, pack, storeV, fieldAddr, field, cvB, part_cells h1, part_src h1, p1])
  rw [loopL_step' rfl]
  repeat' (first | (refine cond_by (F := res) (fun _ => ?_) (fun _ => ?_)) | (refine wayK_by (F := res) (fun _ hb_ => ?_) (fun _ hb_ => ?_) <;> simp only [hb_]) | (refine wayK_byN (F := res) (fun _ hb_ => ?_) (fun _ hb_ => ?_) <;> simp only [hb_]) | (refine wayD_by (F := res) (fun _ hb_ => ?_) (fun _ hb_ => ?_) <;> simp only [hb_]) | (refine wayD_byN (F := res) (fun _ hb_ => ?_) (fun _ hb_ => ?_) <;> simp only [hb_]) | (refine rdK_by (F := res) (fun _ => ?_) (fun _ => ?_)) | (refine effK_by (F := res) (fun _ => ?_) (fun _ => ?_)) | (refine effK_by2 (F := res) (fun _ => ?_) (fun _ => ?_)) | (refine rdD_by (F := res) (fun _ => ?_) (fun _ => ?_)) | (refine effD_by (F := res) (fun _ => ?_) (fun _ => ?_)) | (refine effD_by2 (F := res) (fun _ => ?_) (fun _ => ?_)) | simp -implicitDefEqProofs (disch := first | omega | (simp only [List.length_append, List.length_cons, List.length_nil, List.length_drop, List.length_take]; omega)) only [evs, tys, lors, Nat.reduceAdd, Nat.reduceSub, Nat.reduceMul, Nat.reducePow, Nat.reduceBEq, Nat.reduceLT, Nat.reduceLeDiff, Nat.reduceEqDiff, Int.reduceLT, Int.reduceLE, Int.reduceEq, Int.reduceNe, Int.reduceToNat, Int.reduceAdd, Int.reduceSub, Int.reduceMul, Int.reducePow, Int.reduceDiv, Int.reduceMod, Int.reduceNeg, reduceCtorEq, codeKey, List.contains, List.elem, Ev.load, peek, pack, storeV, fieldAddr, field, cvB, part_cells h2, part_src h2, p2])
  rw [loopL_step' rfl]
  repeat' (first | (refine cond_by (F := res) (fun _ => ?_) (fun _ => ?_)) | (refine wayK_by (F := res) (fun _ hb_ => ?_) (fun _ hb_ => ?_) <;> simp only [hb_]) | (refine wayK_byN (F := res) (fun _ hb_ => ?_) (fun _ hb_ => ?_) <;> simp only [hb_]) | (refine wayD_by (F := res) (fun _ hb_ => ?_) (fun _ hb_ => ?_) <;> simp only [hb_]) | (refine wayD_byN (F := res) (fun _ hb_ => ?_) (fun _ hb_ => ?_) <;> simp only [hb_]) | (refine rdK_by (F := res) (fun _ => ?_) (fun _ => ?_)) | (refine effK_by (F := res) (fun _ => ?_) (fun _ => ?_)) | (refine effK_by2 (F := res) (fun _ => ?_) (fun _ => ?_)) | (refine rdD_by (F := res) (fun _ => ?_) (fun _ => ?_)) | (refine effD_by (F := res) (fun _ => ?_) (fun _ => ?_)) | (refine effD_by2 (F := res) (fun _ => ?_) (fun _ => ?_)) | simp -implicitDefEqProofs (disch := first | omega | (simp only [List.length_append, List.length_cons, List.length_nil, List.length_drop, List.length_take]; omega)) only [evs, tys, lors, Nat.reduceAdd, Nat.reduceSub, Nat.reduceMul, Nat.reducePow, Nat.reduceBEq, Nat.reduceLT, Nat.reduceLeDiff, Nat.reduceEqDiff, Int.reduceLT, Int.reduceLE, Int.reduceEq, Int.reduceNe, Int.reduceToNat, Int.reduceAdd, Int.reduceSub, Int.reduceMul, Int.reducePow, Int.reduceDiv, Int.reduceMod, Int.reduceNeg, reduceCtorEq, codeKey, List.contains, List.elem, Ev.load, peek, pack, storeV, fieldAddr, field, cvB, part_cells h3, part_src h3, p3])
  rw [loopL_step' rfl]
  repeat' (first | (refine cond_by (F := res) (fun _ => ?_) (fun _ => ?_)) | (refine wayK_by (F := res) (fun _ hb_ => ?_) (fun _ hb_ => ?_) <;> simp only [hb_]) | (refine wayK_byN (F := res) (fun _ hb_ => ?_) (fun _ hb_ => ?_) <;> simp only [hb_]) | (refine wayD_by (F := res) (fun _ hb_ => ?_) (fun _ hb_ => ?_) <;> simp only [hb_]) | (refine wayD_byN (F := res) (fun _ hb_ => ?_) (fun _ hb_ => ?_) <;> simp only [hb_]) | (refine rdK_by (F := res) (fun _ => ?_) (fun _ => ?_)) | (refine effK_by (F := res) (fun _ => ?_) (fun _ => ?_)) | (refine effK_by2 (F := res) (fun _ => ?_) (fun _ => ?_)) | (refine rdD_by (F := res) (fun _ => ?_) (fun _ => ?_)) | (refine effD_by (F := res) (fun _ => ?_) (fun _ => ?_)) | (refine effD_by2 (F := res) (fun _ => ?_) (fun _ => ?_)) | simp -implicitDefEqProofs (disch := first | omega | (simp only [List.length_append, List.length_cons, List.length_nil, List.length_drop, List.length_take]; omega)) only [evs, tys, lors, Nat.reduceAdd, Nat.reduceSub, Nat.reduceMul, Nat.reducePow, Nat.reduceBEq, Nat.reduceLT, Nat.reduceLeDiff, Nat.reduceEqDiff, Int.reduceLT, Int.reduceLE, Int.reduceEq, Int.reduceNe, Int.reduceToNat, Int.reduceAdd, Int.reduceSub, Int.reduceMul, Int.reducePow, Int.reduceDiv, Int.reduceMod, Int.reduceNeg, reduceCtorEq, codeKey, List.contains, List.elem, Ev.load, peek, pack, storeV, fieldAddr, field, cvB])
  all_goals exact res_eq
theorem join4 {v1 v2 v3 v4 : V} {b1 b2 b3 b4 : List Int} (h1 : Part v1 b1) (h2 : Part v2 b2) (h3 : Part v3 b3) (h4 : Part v4 b4) (hl : b1.length + b2.length + b3.length + b4.length ≤ 100000000000) (H : Heap) :
    callV (CL lore) 39 [.sl [v1, v2, v3, v4] 1 true] H = some (.row H.length (b1.length + b2.length + b3.length + b4.length), H ++ [⟨enc8 (b1 ++ b2 ++ b3 ++ b4), 1, true, false⟩]) := by
  refine callV_sh rfl ?_
  have p1 := a34_nils (H := H) (b := b1) (by omega)
  have p2 := a34_row (nx_get H ⟨enc8 b1, 1, true, false⟩) rfl (b := b2) (by omega)
  have p3 := a34_row (nx_get H ⟨enc8 (b1 ++ b2), 1, true, false⟩) List.length_append (b := b3) (by omega)
  have p4 := a34_row (tot := b1.length + b2.length + b3.length) (nx_get H ⟨enc8 (b1 ++ b2 ++ b3), 1, true, false⟩) (by rw [List.length_append, List.length_append]) (b := b4) (by omega)
  rw [nx_set] at p2 p3 p4
  rw [call_start lore_ext39 Tryd.func39 rfl lore_okf39 (Nat.le_of_ble_eq_true rfl)]
  repeat' (first | (refine cond_by (F := res) (fun _ => ?_) (fun _ => ?_)) | (refine wayK_by (F := res) (fun _ hb_ => ?_) (fun _ hb_ => ?_) <;> simp only [hb_]) | (refine wayK_byN (F := res) (fun _ hb_ => ?_) (fun _ hb_ => ?_) <;> simp only [hb_]) | (refine wayD_by (F := res) (fun _ hb_ => ?_) (fun _ hb_ => ?_) <;> simp only [hb_]) | (refine wayD_byN (F := res) (fun _ hb_ => ?_) (fun _ hb_ => ?_) <;> simp only [hb_]) | (refine rdK_by (F := res) (fun _ => ?_) (fun _ => ?_)) | (refine effK_by (F := res) (fun _ => ?_) (fun _ => ?_)) | (refine effK_by2 (F := res) (fun _ => ?_) (fun _ => ?_)) | (refine rdD_by (F := res) (fun _ => ?_) (fun _ => ?_)) | (refine effD_by (F := res) (fun _ => ?_) (fun _ => ?_)) | (refine effD_by2 (F := res) (fun _ => ?_) (fun _ => ?_)) | simp -implicitDefEqProofs (disch := first | omega | (simp only [List.length_append, List.length_cons, List.length_nil, List.length_drop, List.length_take]; omega)) only [evs, tys, lors, Nat.reduceAdd, Nat.reduceSub, Nat.reduceMul, Nat.reducePow, Nat.reduceBEq, Nat.reduceLT, Nat.reduceLeDiff, Nat.reduceEqDiff, Int.reduceLT, Int.reduceLE, Int.reduceEq, Int.reduceNe, Int.reduceToNat, Int.reduceAdd, Int.reduceSub, Int.reduceMul, Int.reducePow, Int.reduceDiv, Int.reduceMod, Int.reduceNeg, reduceCtorEq, codeKey, List.contains, List.elem, Ev.load, peek, pack, storeV, fieldAddr, field, cvB])
  rw [loopL_step' rfl]
  repeat' (first | (refine cond_by (F := res) (fun _ => ?_) (fun _ => ?_)) | (refine wayK_by (F := res) (fun _ hb_ => ?_) (fun _ hb_ => ?_) <;> simp only [hb_]) | (refine wayK_byN (F := res) (fun _ hb_ => ?_) (fun _ hb_ => ?_) <;> simp only [hb_]) | (refine wayD_by (F := res) (fun _ hb_ => ?_) (fun _ hb_ => ?_) <;> simp only [hb_]) | (refine wayD_byN (F := res) (fun _ hb_ => ?_) (fun _ hb_ => ?_) <;> simp only [hb_]) | (refine rdK_by (F := res) (fun _ => ?_) (fun _ => ?_)) | (refine effK_by (F := res) (fun _ => ?_) (fun _ => ?_)) | (refine effK_by2 (F := res) (fun _ => ?_) (fun _ => ?_)) | (refine rdD_by (F := res) (fun _ => ?_) (fun _ => ?_)) | (refine effD_by (F := res) (fun _ => ?_) (fun _ => ?_)) | (refine effD_by2 (F := res) (fun _ => ?_) (fun _ => ?_)) | simp -implicitDefEqProofs (disch := first | omega | (simp only [List.length_append, List.length_cons, List.length_nil, List.length_drop, List.length_take]; omega)) only [evs, tys, lors, Nat.reduceAdd, Nat.reduceSub, Nat.reduceMul, Nat.reducePow, Nat.reduceBEq, Nat.reduceLT, Nat.reduceLeDiff, Nat.reduceEqDiff, Int.reduceLT, Int.reduceLE, Int.reduceEq, Int.reduceNe, Int.reduceToNat, Int.reduceAdd, Int.reduceSub, Int.reduceMul, Int.reducePow, Int.reduceDiv, Int.reduceMod, Int.reduceNeg, reduceCtorEq, codeKey, List.contains, List.elem, Ev.load, peek, pack, storeV, fieldAddr, field, cvB, part_cells h1, part_src h1, p1])
  rw [loopL_step' rfl]
  repeat' (first | (refine cond_by (F := res) (fun _ => ?_) (fun _ => ?_)) | (refine wayK_by (F := res) (fun _ hb_ => ?_) (fun _ hb_ => ?_) <;> simp only [hb_]) | (refine wayK_byN (F := res) (fun _ hb_ => ?_) (fun _ hb_ => ?_) <;> simp only [hb_]) | (refine wayD_by (F := res) (fun _ hb_ => ?_) (fun _ hb_ => ?_) <;> simp only [hb_]) | (refine wayD_byN (F := res) (fun _ hb_ => ?_) (fun _ hb_ => ?_) <;> simp only [hb_]) | (refine rdK_by (F := res) (fun _ => ?_) (fun _ => ?_)) | (refine effK_by (F := res) (fun _ => ?_) (fun _ => ?_)) | (refine effK_by2 (F := res) (fun _ => ?_) (fun _ => ?_)) | (refine rdD_by (F := res) (fun _ => ?_) (fun _ => ?_)) | (refine effD_by (F := res) (fun _ => ?_) (fun _ => ?_)) | (refine effD_by2 (F := res) (fun _ => ?_) (fun _ => ?_)) | simp -implicitDefEqProofs (disch := first | omega | (simp only [List.length_append, List.length_cons, List.length_nil, List.length_drop, List.length_take]; omega)) only [evs, tys, lors, Nat.reduceAdd, Nat.reduceSub, Nat.reduceMul, Nat.reducePow, Nat.reduceBEq, Nat.reduceLT, Nat.reduceLeDiff, Nat.reduceEqDiff, Int.reduceLT, Int.reduceLE, Int.reduceEq, Int.reduceNe, Int.reduceToNat, Int.reduceAdd, Int.reduceSub, Int.reduceMul, Int.reducePow, Int.reduceDiv, Int.reduceMod, Int.reduceNeg, reduceCtorEq, codeKey, List.contains, List.elem, Ev.load, peek, pack, storeV, fieldAddr, field, cvB, part_cells h2, part_src h2, p2])
  rw [loopL_step' rfl]
  repeat' (first | (refine cond_by (F := res) (fun _ => ?_) (fun _ => ?_)) | (refine wayK_by (F := res) (fun _ hb_ => ?_) (fun _ hb_ => ?_) <;> simp only [hb_]) | (refine wayK_byN (F := res) (fun _ hb_ => ?_) (fun _ hb_ => ?_) <;> simp only [hb_]) | (refine wayD_by (F := res) (fun _ hb_ => ?_) (fun _ hb_ => ?_) <;> simp only [hb_]) | (refine wayD_byN (F := res) (fun _ hb_ => ?_) (fun _ hb_ => ?_) <;> simp only [hb_]) | (refine rdK_by (F := res) (fun _ => ?_) (fun _ => ?_)) | (refine effK_by (F := res) (fun _ => ?_) (fun _ => ?_)) | (refine effK_by2 (F := res) (fun _ => ?_) (fun _ => ?_)) | (refine rdD_by (F := res) (fun _ => ?_) (fun _ => ?_)) | (refine effD_by (F := res) (fun _ => ?_) (fun _ => ?_)) | (refine effD_by2 (F := res) (fun _ => ?_) (fun _ => ?_)) | simp -implicitDefEqProofs (disch := first | omega | (simp only [List.length_append, List.length_cons, List.length_nil, List.length_drop, List.length_take]; omega)) only [evs, tys, lors, Nat.reduceAdd, Nat.reduceSub, Nat.reduceMul, Nat.reducePow, Nat.reduceBEq, Nat.reduceLT, Nat.reduceLeDiff, Nat.reduceEqDiff, Int.reduceLT, Int.reduceLE, Int.reduceEq, Int.reduceNe, Int.reduceToNat, Int.reduceAdd, Int.reduceSub, Int.reduceMul, Int.reducePow, Int.reduceDiv, Int.reduceMod, Int.reduceNeg, reduceCtorEq, codeKey, List.contains, List.elem, Ev.load, peek, pack, storeV, fieldAddr, field, cvB, part_cells h3, part_src h3, p3])
  rw [loopL_step' rfl]
  repeat' (first | (refine cond_by (F := res) (fun _ => ?_) (fun _ => ?_)) | (refine wayK_by (F := res) (fun _ hb_ => ?_) (fun _ hb_ => ?_) <;> simp only [hb_]) | (refine wayK_byN (F := res) (fun _ hb_ => ?_) (fun _ hb_ => ?_) <;> simp only [hb_]) | (refine wayD_by (F := res) (fun _ hb_ => ?_) (fun _ hb_ => ?_) <;> simp only [hb_]) | (refine wayD_byN (F := res) (fun _ hb_ => ?_) (fun _ hb_ => ?_) <;> simp only [hb_]) | (refine rdK_by (F := res) (fun _ => ?_) (fun _ => ?_)) | (refine effK_by (F := res) (fun _ => ?_) (fun _ => ?_)) | (refine effK_by2 (F := res) (fun _ => ?_) (fun _ => ?_)) | (refine rdD_by (F := res) (fun _ => ?_) (fun _ => ?_)) | (refine effD_by (F := res) (fun _ => ?_) (fun _ => ?_)) | (refine effD_by2 (F := res) (fun _ => ?_) (fun _ => ?_)) | simp -implicitDefEqProofs (disch := first | omega | (simp only [List.length_append, List.length_cons, List.length_nil, List.length_drop, List.length_take]; omega)) only [evs, tys, lors, Nat.reduceAdd, Nat.reduceSub, Nat.reduceMul, Nat.reducePow, Nat.reduceBEq, Nat.reduceLT, Nat.reduceLeDiff, Nat.reduceEqDiff, Int.reduceLT, Int.reduceLE, Int.reduceEq, Int.reduceNe, Int.reduceToNat, Int.reduceAdd, Int.reduceSub, Int.reduceMul, Int.reducePow, Int.reduceDiv, Int.reduceMod, Int.reduceNeg, reduceCtorEq, codeKey, List.contains, List.elem, Ev.load, peek, pack, storeV, fieldAddr, field, cvB, part_cells h4, part_src h4, p4])
  rw [loopL_step' rfl]
  repeat' (first | (refine cond_by (F := res) (fun _ => ?_) (fun _ => ?_)) | (refine wayK_by (F := res) (fun _ hb_ => ?_) (fun _ hb_ => ?_) <;> simp only [hb_]) | (refine wayK_byN (F := res) (fun _ hb_ => ?_) (fun _ hb_ => ?_) <;> simp only [hb_]) | (refine wayD_by (F := res) (fun _ hb_ => ?_) (fun _ hb_ => ?_) <;> simp only [hb_]) | (refine wayD_byN (F := res) (fun _ hb_ => ?_) (fun _ hb_ => ?_) <;> simp only [hb_]) | (refine rdK_by (F := res) (fun _ => ?_) (fun _ => ?_)) | (refine effK_by (F := res) (fun _ => ?_) (fun _ => ?_)) | (refine effK_by2 (F := res) (fun _ => ?_) (fun _ => ?_)) | (refine rdD_by (F := res) (fun _ => ?_) (fun _ => ?_)) | (refine effD_by (F := res) (fun _ => ?_) (fun _ => ?_)) | (refine effD_by2 (F := res) (fun _ => ?_) (fun _ => ?_)) | simp -implicitDefEqProofs (disch := first | omega | (simp only [List.length_append, List.length_cons, List.length_nil, List.length_drop, List.length_take]; omega)) only [evs, tys, lors, Nat.reduceAdd, Nat.reduceSub, Nat.reduceMul, Nat.reducePow, Nat.reduceBEq, Nat.reduceLT, Nat.reduceLeDiff, Nat.reduceEqDiff, Int.reduceLT, Int.reduceLE, Int.reduceEq, Int.reduceNe, Int.reduceToNat, Int.reduceAdd, Int.reduceSub, Int.reduceMul, Int.reducePow, Int.reduceDiv, Int.reduceMod, Int.reduceNeg, reduceCtorEq, codeKey, List.contains, List.elem, Ev.load, peek, pack, storeV, fieldAddr, field, cvB])
  all_goals exact res_eq


theorem varR_ref : ∀ (f : Nat) (x : Int), 0 ≤ x → x < 2 ^ (7 * f) → x < 18446744073709551616 → 0 < f → f ≤ 100 → ∀ H : Heap, callV (CL lore) 40 [.int .u64 x] H = some (.sl (enc8 (varF f x)) 1 false, H) := by
  intro f
  induction f with
  | zero => intro x _ _ _ h; omega
  | succ f ih =>
    intro x h0 h1 h64 _ hfl H
    refine callV_ans (r := some _) ?_ lore_sh40 rfl H
    have e8 : (8 : Int) = ((8 : Nat) : Int) := rfl
    rw [varF]
    by_cases hx : x < 128
    · rw [if_pos hx]
      have hn := fun H => num_cv x ⟨h0, h64⟩ 8 (by decide) (by decide) H
      rw [← e8] at hn
      rw [call_start lore_ext40 Tryd.func40 rfl lore_okf40 (Nat.le_of_ble_eq_true rfl)]
      repeat' (first | (refine cond_by (F := ans) (fun _ => ?_) (fun _ => ?_)) | (refine wayK_by (F := ans) (fun _ hb_ => ?_) (fun _ hb_ => ?_) <;> simp only [hb_]) | (refine wayK_byN (F := ans) (fun _ hb_ => ?_) (fun _ hb_ => ?_) <;> simp only [hb_]) | (refine wayD_by (F := ans) (fun _ hb_ => ?_) (fun _ hb_ => ?_) <;> simp only [hb_]) | (refine wayD_byN (F := ans) (fun _ hb_ => ?_) (fun _ hb_ => ?_) <;> simp only [hb_]) | (refine rdK_by (F := ans) (fun _ => ?_) (fun _ => ?_)) | (refine effK_by (F := ans) (fun _ => ?_) (fun _ => ?_)) | (refine effK_by2 (F := ans) (fun _ => ?_) (fun _ => ?_)) | (refine rdD_by (F := ans) (fun _ => ?_) (fun _ => ?_)) | (refine effD_by (F := ans) (fun _ => ?_) (fun _ => ?_)) | (refine effD_by2 (F := ans) (fun _ => ?_) (fun _ => ?_)) | simp -implicitDefEqProofs (disch := first | omega | (simp only [List.length_append, List.length_cons, List.length_nil, List.length_drop, List.length_take]; omega)) only [evs, tys, lors, Nat.reduceAdd, Nat.reduceSub, Nat.reduceMul, Nat.reducePow, Nat.reduceBEq, Nat.reduceLT, Nat.reduceLeDiff, Nat.reduceEqDiff, Int.reduceLT, Int.reduceLE, Int.reduceEq, Int.reduceNe, Int.reduceToNat, Int.reduceAdd, Int.reduceSub, Int.reduceMul, Int.reducePow, Int.reduceDiv, Int.reduceMod, Int.reduceNeg, reduceCtorEq, codeKey, List.contains, List.elem, Ev.load, peek, pack, storeV, fieldAddr, field, cvB, hx, hn, decide_true])
      all_goals trace_state
    · rw [if_neg hx]
      have hf : 0 < f := by
        rcases Nat.eq_zero_or_pos f with h | h
        · subst h
          have e7 : (2 : Int) ^ (7 * (0 + 1)) = 128 := by decide
          omega
        · exact h
      have h2' : x / 128 < 2 ^ (7 * f) := by
        rw [show 7 * (f + 1) = 7 * f + 7 by omega, Int.pow_add] at h1
        have e77 : (2 : Int) ^ 7 = 128 := by decide
        rw [e77] at h1
        exact Int.ediv_lt_of_lt_mul (by decide) h1
      have hn := fun H => num_cv (x % 128 + 128) (by omega) 8 (by decide) (by decide) H
      rw [← e8] at hn
      have hr := ih (x / 128) (by omega) h2' (by omega) hf (by omega)
      have hle := varF_le f (x / 128)
      have hj := fun H => join2 (part_sl (numB (x % 128 + 128) 8) false) (part_sl (varF f (x / 128)) false) (by rw [numB_len]; omega) H
      rw [call_start lore_ext40 Tryd.func40 rfl lore_okf40 (Nat.le_of_ble_eq_true rfl)]
      repeat' (first | (refine cond_by (F := ans) (fun _ => ?_) (fun _ => ?_)) | (refine wayK_by (F := ans) (fun _ hb_ => ?_) (fun _ hb_ => ?_) <;> simp only [hb_]) | (refine wayK_byN (F := ans) (fun _ hb_ => ?_) (fun _ hb_ => ?_) <;> simp only [hb_]) | (refine wayD_by (F := ans) (fun _ hb_ => ?_) (fun _ hb_ => ?_) <;> simp only [hb_]) | (refine wayD_byN (F := ans) (fun _ hb_ => ?_) (fun _ hb_ => ?_) <;> simp only [hb_]) | (refine rdK_by (F := ans) (fun _ => ?_) (fun _ => ?_)) | (refine effK_by (F := ans) (fun _ => ?_) (fun _ => ?_)) | (refine effK_by2 (F := ans) (fun _ => ?_) (fun _ => ?_)) | (refine rdD_by (F := ans) (fun _ => ?_) (fun _ => ?_)) | (refine effD_by (F := ans) (fun _ => ?_) (fun _ => ?_)) | (refine effD_by2 (F := ans) (fun _ => ?_) (fun _ => ?_)) | simp -implicitDefEqProofs (disch := first | omega | (simp only [List.length_append, List.length_cons, List.length_nil, List.length_drop, List.length_take]; omega)) only [evs, tys, lors, Nat.reduceAdd, Nat.reduceSub, Nat.reduceMul, Nat.reducePow, Nat.reduceBEq, Nat.reduceLT, Nat.reduceLeDiff, Nat.reduceEqDiff, Int.reduceLT, Int.reduceLE, Int.reduceEq, Int.reduceNe, Int.reduceToNat, Int.reduceAdd, Int.reduceSub, Int.reduceMul, Int.reducePow, Int.reduceDiv, Int.reduceMod, Int.reduceNeg, reduceCtorEq, codeKey, List.contains, List.elem, Ev.load, peek, pack, storeV, fieldAddr, field, cvB, hx, hn, hr, hj, decide_false])
      all_goals first
        | (simp [giveP, give, fz2, fz1, enc8_len]; done)
        | trace_state
theorem varint_ref (x : Int) (h0 : 0 ≤ x) (h1 : x < 18446744073709551616) (H : Heap) : callV (CL lore) 40 [.int .u64 x] H = some (.sl (enc8 (varF 10 x)) 1 false, H) :=
  varR_ref 10 x h0 (by
    have e70 : (18446744073709551616 : Int) ≤ 2 ^ (7 * 10) := by decide
    omega) h1 (by decide) (by decide) H
theorem notU {y : Int} (h0 : 0 ≤ y) (h1 : y < 18446744073709551616) : notI .u64 y = 18446744073709551615 - y := by
  have := xor_ones (x := y.toNat) (by omega)
  have hx := xorI_natU (x := y.toNat) (y := 2 ^ 64 - 1) (by omega) (by decide)
  unfold notI
  unfold xorI at hx
  rw [BitVec.xor_comm] at hx
  rw [Int.toNat_of_nonneg h0, this] at hx
  have e : ((2 ^ 64 - 1 : Nat) : Int) = if IntKind.u64.signed = true then -1 else IntKind.u64.max := by decide
  rw [e] at hx
  rw [hx]
  omega
theorem signed_cv (a : Int) (ha : -9223372036854775808 ≤ a ∧ a ≤ 9223372036854775807) (H : Heap) : callV (CL lore) 41 [.int .i64 a] H = some (.int .u64 (zig a), H) := by
  refine callV_ans (r := some _) ?_ lore_sh41 rfl H
  unfold zig
  by_cases h : a < 0
  · rw [if_neg (by omega)]
    have e1 : IntKind.u64.wrap a = a + 18446744073709551616 := by rw [IntKind.wrap_u64]; omega
    have e2 : IntKind.u64.wrap ((a + 18446744073709551616) * 2) = 2 * a + 18446744073709551616 := by rw [IntKind.wrap_u64]; omega
    have e3 := notU (y := 2 * a + 18446744073709551616) (by omega) (by omega)
    have e4 : 18446744073709551615 - (2 * a + 18446744073709551616) = -2 * a - 1 := by omega
    rw [call_start lore_ext41 Tryd.func41 rfl lore_okf41 (Nat.le_of_ble_eq_true rfl)]
    repeat' (first | (refine cond_by (F := ans) (fun _ => ?_) (fun _ => ?_)) | (refine wayK_by (F := ans) (fun _ hb_ => ?_) (fun _ hb_ => ?_) <;> simp only [hb_]) | (refine wayK_byN (F := ans) (fun _ hb_ => ?_) (fun _ hb_ => ?_) <;> simp only [hb_]) | (refine wayD_by (F := ans) (fun _ hb_ => ?_) (fun _ hb_ => ?_) <;> simp only [hb_]) | (refine wayD_byN (F := ans) (fun _ hb_ => ?_) (fun _ hb_ => ?_) <;> simp only [hb_]) | (refine rdK_by (F := ans) (fun _ => ?_) (fun _ => ?_)) | (refine effK_by (F := ans) (fun _ => ?_) (fun _ => ?_)) | (refine effK_by2 (F := ans) (fun _ => ?_) (fun _ => ?_)) | (refine rdD_by (F := ans) (fun _ => ?_) (fun _ => ?_)) | (refine effD_by (F := ans) (fun _ => ?_) (fun _ => ?_)) | (refine effD_by2 (F := ans) (fun _ => ?_) (fun _ => ?_)) | simp -implicitDefEqProofs (disch := first | omega | (simp only [List.length_append, List.length_cons, List.length_nil, List.length_drop, List.length_take]; omega)) only [evs, tys, lors, Nat.reduceAdd, Nat.reduceSub, Nat.reduceMul, Nat.reducePow, Nat.reduceBEq, Nat.reduceLT, Nat.reduceLeDiff, Nat.reduceEqDiff, Int.reduceLT, Int.reduceLE, Int.reduceEq, Int.reduceNe, Int.reduceToNat, Int.reduceAdd, Int.reduceSub, Int.reduceMul, Int.reducePow, Int.reduceDiv, Int.reduceMod, Int.reduceNeg, reduceCtorEq, codeKey, List.contains, List.elem, Ev.load, peek, pack, storeV, fieldAddr, field, cvB, h, e1, e2, e3, e4, decide_true])
    all_goals trace_state
  · rw [if_pos (by omega)]
    have e1 : IntKind.u64.wrap a = a := by rw [IntKind.wrap_u64]; omega
    have e2 : IntKind.u64.wrap (a * 2) = 2 * a := by rw [IntKind.wrap_u64]; omega
    rw [call_start lore_ext41 Tryd.func41 rfl lore_okf41 (Nat.le_of_ble_eq_true rfl)]
    repeat' (first | (refine cond_by (F := ans) (fun _ => ?_) (fun _ => ?_)) | (refine wayK_by (F := ans) (fun _ hb_ => ?_) (fun _ hb_ => ?_) <;> simp only [hb_]) | (refine wayK_byN (F := ans) (fun _ hb_ => ?_) (fun _ hb_ => ?_) <;> simp only [hb_]) | (refine wayD_by (F := ans) (fun _ hb_ => ?_) (fun _ hb_ => ?_) <;> simp only [hb_]) | (refine wayD_byN (F := ans) (fun _ hb_ => ?_) (fun _ hb_ => ?_) <;> simp only [hb_]) | (refine rdK_by (F := ans) (fun _ => ?_) (fun _ => ?_)) | (refine effK_by (F := ans) (fun _ => ?_) (fun _ => ?_)) | (refine effK_by2 (F := ans) (fun _ => ?_) (fun _ => ?_)) | (refine rdD_by (F := ans) (fun _ => ?_) (fun _ => ?_)) | (refine effD_by (F := ans) (fun _ => ?_) (fun _ => ?_)) | (refine effD_by2 (F := ans) (fun _ => ?_) (fun _ => ?_)) | simp -implicitDefEqProofs (disch := first | omega | (simp only [List.length_append, List.length_cons, List.length_nil, List.length_drop, List.length_take]; omega)) only [evs, tys, lors, Nat.reduceAdd, Nat.reduceSub, Nat.reduceMul, Nat.reducePow, Nat.reduceBEq, Nat.reduceLT, Nat.reduceLeDiff, Nat.reduceEqDiff, Int.reduceLT, Int.reduceLE, Int.reduceEq, Int.reduceNe, Int.reduceToNat, Int.reduceAdd, Int.reduceSub, Int.reduceMul, Int.reducePow, Int.reduceDiv, Int.reduceMod, Int.reduceNeg, reduceCtorEq, codeKey, List.contains, List.elem, Ev.load, peek, pack, storeV, fieldAddr, field, cvB, h, e1, e2, decide_false])
    all_goals trace_state
/-! noughts. -/
theorem nhi_step {x k : Nat} (h0 : 0 < x) (hk : k ≤ 63) (hx : x < 2 ^ (64 - k)) : (x / 2 ^ (63 - k) % 2 = 0 → k < 63 ∧ x < 2 ^ (64 - (k + 1))) ∧ (¬ x / 2 ^ (63 - k) % 2 = 0 → 64 - blN x = k) := by
  have e : 64 - k = (63 - k) + 1 := by omega
  rw [e, Nat.pow_succ] at hx
  have hlt : x / 2 ^ (63 - k) < 2 := by
    rw [Nat.div_lt_iff_lt_mul (Nat.two_pow_pos _)]; omega
  refine ⟨fun h => ?_, fun h => ?_⟩
  · have h' : x / 2 ^ (63 - k) = 0 := by
      generalize x / 2 ^ (63 - k) = q at *
      omega
    rw [Nat.div_eq_zero_iff] at h'
    have hx2 : x < 2 ^ (63 - k) := by
      rcases h' with h' | h'
      · have := Nat.two_pow_pos (63 - k); omega
      · exact h'
    refine ⟨?_, ?_⟩
    · rcases Nat.lt_or_ge k 63 with h3 | h3
      · exact h3
      · obtain rfl : k = 63 := by omega
        simp at hx2
        omega
    · rw [show 64 - (k + 1) = 63 - k by omega]; exact hx2
  · have h' : 1 ≤ x / 2 ^ (63 - k) := by
      generalize x / 2 ^ (63 - k) = q at *
      omega
    rw [Nat.le_div_iff_mul_le (Nat.two_pow_pos _), Nat.one_mul] at h'
    have hb : x.log2 = 63 - k := (Nat.log2_eq_iff (by omega)).2 ⟨h', by rw [Nat.pow_succ]; omega⟩
    unfold blN
    rw [if_neg (by omega), hb]
    omega
theorem loopHi (x : Nat) (h0 : 0 < x) (h1 : x < 18446744073709551616) (K : Kont) (R : Option V) (a : Code) (ha : loopIn Tryd.prog 49 2 = some a)
    (hR : ans (K (.exit 0) (Sl 26 .wild [(0, .int .u64 (x : Int)), (4, .int .i64 ((64 - blN x : Nat) : Int)), (5, .int .i64 0)]) []) = R) :
    ∀ (m k : Nat), k + m = 63 → x < 2 ^ (64 - k) → ans (loopL lore 49 a (Sl 26 .wild [(0, .int .u64 (x : Int)), (4, .int .i64 (k : Int)), (5, .int .i64 0)]) [] K) = R := by
  have hk := loop_key ha
  simp only [loopIn, Tryd.func49, Tryd.f49, loopAt, Option.bind_some, codeKey, if_true, Option.some.injEq, Nat.reduceEqDiff, if_false] at ha
  intro m
  induction m with
  | zero =>
    intro k hk' hx
    have hst := nhi_step h0 (by omega) hx
    have ez : (63 : Int) - (k : Int) = ((63 - k : Nat) : Int) := by omega
    have e0 : (0 : Int) ≤ ((63 - k : Nat) : Int) := by omega
    have e64 : 63 - k ≤ 64 := by omega
    have ep : ((x : Int) / 2 ^ (63 - k)) = ((x / 2 ^ (63 - k) : Nat) : Int) := by rw [Int.natCast_ediv, Int.natCast_pow]; rfl
    have hq : x / 2 ^ (63 - k) < 18446744073709551616 := Nat.lt_of_le_of_lt (Nat.div_le_self _ _) h1
    generalize x / 2 ^ (63 - k) = q at *
    by_cases hz : q % 2 = 0
    · have := (hst.1 hz).1
      omega
    · have e2 : ¬ (q : Int) % 2 = 0 := by omega
      have hb := hst.2 hz
      rw [hb] at hR
      rw [loopL_step' ha]
      repeat' (first | (refine cond_by (F := ans) (fun _ => ?_) (fun _ => ?_)) | (refine wayK_by (F := ans) (fun _ hb_ => ?_) (fun _ hb_ => ?_) <;> simp only [hb_]) | (refine wayK_byN (F := ans) (fun _ hb_ => ?_) (fun _ hb_ => ?_) <;> simp only [hb_]) | (refine wayD_by (F := ans) (fun _ hb_ => ?_) (fun _ hb_ => ?_) <;> simp only [hb_]) | (refine wayD_byN (F := ans) (fun _ hb_ => ?_) (fun _ hb_ => ?_) <;> simp only [hb_]) | (refine rdK_by (F := ans) (fun _ => ?_) (fun _ => ?_)) | (refine effK_by (F := ans) (fun _ => ?_) (fun _ => ?_)) | (refine effK_by2 (F := ans) (fun _ => ?_) (fun _ => ?_)) | (refine rdD_by (F := ans) (fun _ => ?_) (fun _ => ?_)) | (refine effD_by (F := ans) (fun _ => ?_) (fun _ => ?_)) | (refine effD_by2 (F := ans) (fun _ => ?_) (fun _ => ?_)) | simp -implicitDefEqProofs (disch := first | omega | (simp only [List.length_append, List.length_cons, List.length_nil, List.length_drop, List.length_take]; omega)) only [evs, tys, lors, Nat.reduceAdd, Nat.reduceSub, Nat.reduceMul, Nat.reducePow, Nat.reduceBEq, Nat.reduceLT, Nat.reduceLeDiff, Nat.reduceEqDiff, Int.reduceLT, Int.reduceLE, Int.reduceEq, Int.reduceNe, Int.reduceToNat, Int.reduceAdd, Int.reduceSub, Int.reduceMul, Int.reducePow, Int.reduceDiv, Int.reduceMod, Int.reduceNeg, reduceCtorEq, codeKey, List.contains, List.elem, Ev.load, peek, pack, storeV, fieldAddr, field, cvB, hk, ez, e0, e64, ep, e2, bits1, decide_false, Int.toNat_natCast])
      exact hR
  | succ m ih =>
    intro k hk' hx
    have hst := nhi_step h0 (by omega) hx
    have ez : (63 : Int) - (k : Int) = ((63 - k : Nat) : Int) := by omega
    have e0 : (0 : Int) ≤ ((63 - k : Nat) : Int) := by omega
    have e64 : 63 - k ≤ 64 := by omega
    have ep : ((x : Int) / 2 ^ (63 - k)) = ((x / 2 ^ (63 - k) : Nat) : Int) := by rw [Int.natCast_ediv, Int.natCast_pow]; rfl
    have hq : x / 2 ^ (63 - k) < 18446744073709551616 := Nat.lt_of_le_of_lt (Nat.div_le_self _ _) h1
    generalize x / 2 ^ (63 - k) = q at *
    by_cases hz : q % 2 = 0
    · have e2 : (q : Int) % 2 = 0 := by omega
      have hn := ih (k + 1) (by omega) (hst.1 hz).2
      have e5 : ((k + 1 : Nat) : Int) = (k : Int) + 1 := by omega
      rw [e5] at hn
      rw [loopL_step' ha]
      repeat' (first | (refine cond_by (F := ans) (fun _ => ?_) (fun _ => ?_)) | (refine wayK_by (F := ans) (fun _ hb_ => ?_) (fun _ hb_ => ?_) <;> simp only [hb_]) | (refine wayK_byN (F := ans) (fun _ hb_ => ?_) (fun _ hb_ => ?_) <;> simp only [hb_]) | (refine wayD_by (F := ans) (fun _ hb_ => ?_) (fun _ hb_ => ?_) <;> simp only [hb_]) | (refine wayD_byN (F := ans) (fun _ hb_ => ?_) (fun _ hb_ => ?_) <;> simp only [hb_]) | (refine rdK_by (F := ans) (fun _ => ?_) (fun _ => ?_)) | (refine effK_by (F := ans) (fun _ => ?_) (fun _ => ?_)) | (refine effK_by2 (F := ans) (fun _ => ?_) (fun _ => ?_)) | (refine rdD_by (F := ans) (fun _ => ?_) (fun _ => ?_)) | (refine effD_by (F := ans) (fun _ => ?_) (fun _ => ?_)) | (refine effD_by2 (F := ans) (fun _ => ?_) (fun _ => ?_)) | simp -implicitDefEqProofs (disch := first | omega | (simp only [List.length_append, List.length_cons, List.length_nil, List.length_drop, List.length_take]; omega)) only [evs, tys, lors, Nat.reduceAdd, Nat.reduceSub, Nat.reduceMul, Nat.reducePow, Nat.reduceBEq, Nat.reduceLT, Nat.reduceLeDiff, Nat.reduceEqDiff, Int.reduceLT, Int.reduceLE, Int.reduceEq, Int.reduceNe, Int.reduceToNat, Int.reduceAdd, Int.reduceSub, Int.reduceMul, Int.reducePow, Int.reduceDiv, Int.reduceMod, Int.reduceNeg, reduceCtorEq, codeKey, List.contains, List.elem, Ev.load, peek, pack, storeV, fieldAddr, field, cvB, hk, ez, e0, e64, ep, e2, bits1, decide_true, Int.toNat_natCast])
      exact hn
    · have e2 : ¬ (q : Int) % 2 = 0 := by omega
      have hb := hst.2 hz
      rw [hb] at hR
      rw [loopL_step' ha]
      repeat' (first | (refine cond_by (F := ans) (fun _ => ?_) (fun _ => ?_)) | (refine wayK_by (F := ans) (fun _ hb_ => ?_) (fun _ hb_ => ?_) <;> simp only [hb_]) | (refine wayK_byN (F := ans) (fun _ hb_ => ?_) (fun _ hb_ => ?_) <;> simp only [hb_]) | (refine wayD_by (F := ans) (fun _ hb_ => ?_) (fun _ hb_ => ?_) <;> simp only [hb_]) | (refine wayD_byN (F := ans) (fun _ hb_ => ?_) (fun _ hb_ => ?_) <;> simp only [hb_]) | (refine rdK_by (F := ans) (fun _ => ?_) (fun _ => ?_)) | (refine effK_by (F := ans) (fun _ => ?_) (fun _ => ?_)) | (refine effK_by2 (F := ans) (fun _ => ?_) (fun _ => ?_)) | (refine rdD_by (F := ans) (fun _ => ?_) (fun _ => ?_)) | (refine effD_by (F := ans) (fun _ => ?_) (fun _ => ?_)) | (refine effD_by2 (F := ans) (fun _ => ?_) (fun _ => ?_)) | simp -implicitDefEqProofs (disch := first | omega | (simp only [List.length_append, List.length_cons, List.length_nil, List.length_drop, List.length_take]; omega)) only [evs, tys, lors, Nat.reduceAdd, Nat.reduceSub, Nat.reduceMul, Nat.reducePow, Nat.reduceBEq, Nat.reduceLT, Nat.reduceLeDiff, Nat.reduceEqDiff, Int.reduceLT, Int.reduceLE, Int.reduceEq, Int.reduceNe, Int.reduceToNat, Int.reduceAdd, Int.reduceSub, Int.reduceMul, Int.reducePow, Int.reduceDiv, Int.reduceMod, Int.reduceNeg, reduceCtorEq, codeKey, List.contains, List.elem, Ev.load, peek, pack, storeV, fieldAddr, field, cvB, hk, ez, e0, e64, ep, e2, bits1, decide_false, Int.toNat_natCast])
      exact hR
theorem loopLo (x : Nat) (h0 : 0 < x) (h1 : x < 18446744073709551616) (v : V) (K : Kont) (R : Option V) (a : Code) (ha : loopIn Tryd.prog 49 4 = some a)
    (hR : ans (K (.exit 2) (Sl 26 .wild [(0, .int .u64 (x : Int)), (4, v), (5, .int .i64 (tz x : Int))]) []) = R) :
    ∀ (m k : Nat), k + m = 64 → 0 < m → x / 2 ^ k * 2 ^ k = x → k + tzF m (x / 2 ^ k) = tz x → ans (loopL lore 49 a (Sl 26 .wild [(0, .int .u64 (x : Int)), (4, v), (5, .int .i64 (k : Int))]) [] K) = R := by
  have hk := loop_key ha
  simp only [loopIn, Tryd.func49, Tryd.f49, loopAt, Option.bind_some, codeKey, if_true, Option.some.injEq, Nat.reduceEqDiff, if_false] at ha
  intro m
  induction m with
  | zero => intro k _ h; omega
  | succ m ih =>
    intro k hk' _ hx ht
    have e0 : (0 : Int) ≤ (k : Int) := by omega
    have e64 : k ≤ 64 := by omega
    have ep : ((x : Int) / 2 ^ k) = ((x / 2 ^ k : Nat) : Int) := by rw [Int.natCast_ediv, Int.natCast_pow]; rfl
    have hq : x / 2 ^ k < 18446744073709551616 := Nat.lt_of_le_of_lt (Nat.div_le_self _ _) h1
    have hdd : x / 2 ^ (k + 1) = x / 2 ^ k / 2 := by rw [Nat.pow_succ, Nat.div_div_eq_div_mul]
    have hps : 2 ^ (k + 1) = 2 ^ k * 2 := Nat.pow_succ ..
    have h63 : k = 63 → x / 2 ^ k < 2 := fun h => by subst h; omega
    rw [tzF] at ht
    generalize x / 2 ^ k = q at *
    by_cases hz : q % 2 = 1
    · rw [if_pos hz, Nat.add_zero] at ht
      have e2 : (q : Int) % 2 = 1 := by omega
      rw [← ht] at hR
      rw [loopL_step' ha]
      repeat' (first | (refine cond_by (F := ans) (fun _ => ?_) (fun _ => ?_)) | (refine wayK_by (F := ans) (fun _ hb_ => ?_) (fun _ hb_ => ?_) <;> simp only [hb_]) | (refine wayK_byN (F := ans) (fun _ hb_ => ?_) (fun _ hb_ => ?_) <;> simp only [hb_]) | (refine wayD_by (F := ans) (fun _ hb_ => ?_) (fun _ hb_ => ?_) <;> simp only [hb_]) | (refine wayD_byN (F := ans) (fun _ hb_ => ?_) (fun _ hb_ => ?_) <;> simp only [hb_]) | (refine rdK_by (F := ans) (fun _ => ?_) (fun _ => ?_)) | (refine effK_by (F := ans) (fun _ => ?_) (fun _ => ?_)) | (refine effK_by2 (F := ans) (fun _ => ?_) (fun _ => ?_)) | (refine rdD_by (F := ans) (fun _ => ?_) (fun _ => ?_)) | (refine effD_by (F := ans) (fun _ => ?_) (fun _ => ?_)) | (refine effD_by2 (F := ans) (fun _ => ?_) (fun _ => ?_)) | simp -implicitDefEqProofs (disch := first | omega | (simp only [List.length_append, List.length_cons, List.length_nil, List.length_drop, List.length_take]; omega)) only [evs, tys, lors, Nat.reduceAdd, Nat.reduceSub, Nat.reduceMul, Nat.reducePow, Nat.reduceBEq, Nat.reduceLT, Nat.reduceLeDiff, Nat.reduceEqDiff, Int.reduceLT, Int.reduceLE, Int.reduceEq, Int.reduceNe, Int.reduceToNat, Int.reduceAdd, Int.reduceSub, Int.reduceMul, Int.reducePow, Int.reduceDiv, Int.reduceMod, Int.reduceNeg, reduceCtorEq, codeKey, List.contains, List.elem, Ev.load, peek, pack, storeV, fieldAddr, field, cvB, hk, e0, e64, ep, e2, bits1, decide_false, Int.toNat_natCast])
      exact hR
    · rw [if_neg hz] at ht
      have e2 : (q : Int) % 2 = 0 := by omega
      have hx' : x / 2 ^ (k + 1) * 2 ^ (k + 1) = x := by
        rw [hdd, hps]
        have : q / 2 * 2 = q := by omega
        rw [Nat.mul_comm (2 ^ k) 2, ← Nat.mul_assoc, this]
        exact hx
      have hm : 0 < m := by
        rcases Nat.eq_zero_or_pos m with h | h
        · subst h
          obtain rfl : k = 63 := by omega
          have hb := h63 rfl
          obtain rfl : q = 0 := by omega
          omega
        · exact h
      have hn := ih (k + 1) (by omega) hm hx' (by rw [hdd]; omega)
      have e5 : ((k + 1 : Nat) : Int) = (k : Int) + 1 := by omega
      rw [e5] at hn
      rw [loopL_step' ha]
      repeat' (first | (refine cond_by (F := ans) (fun _ => ?_) (fun _ => ?_)) | (refine wayK_by (F := ans) (fun _ hb_ => ?_) (fun _ hb_ => ?_) <;> simp only [hb_]) | (refine wayK_byN (F := ans) (fun _ hb_ => ?_) (fun _ hb_ => ?_) <;> simp only [hb_]) | (refine wayD_by (F := ans) (fun _ hb_ => ?_) (fun _ hb_ => ?_) <;> simp only [hb_]) | (refine wayD_byN (F := ans) (fun _ hb_ => ?_) (fun _ hb_ => ?_) <;> simp only [hb_]) | (refine rdK_by (F := ans) (fun _ => ?_) (fun _ => ?_)) | (refine effK_by (F := ans) (fun _ => ?_) (fun _ => ?_)) | (refine effK_by2 (F := ans) (fun _ => ?_) (fun _ => ?_)) | (refine rdD_by (F := ans) (fun _ => ?_) (fun _ => ?_)) | (refine effD_by (F := ans) (fun _ => ?_) (fun _ => ?_)) | (refine effD_by2 (F := ans) (fun _ => ?_) (fun _ => ?_)) | simp -implicitDefEqProofs (disch := first | omega | (simp only [List.length_append, List.length_cons, List.length_nil, List.length_drop, List.length_take]; omega)) only [evs, tys, lors, Nat.reduceAdd, Nat.reduceSub, Nat.reduceMul, Nat.reducePow, Nat.reduceBEq, Nat.reduceLT, Nat.reduceLeDiff, Nat.reduceEqDiff, Int.reduceLT, Int.reduceLE, Int.reduceEq, Int.reduceNe, Int.reduceToNat, Int.reduceAdd, Int.reduceSub, Int.reduceMul, Int.reducePow, Int.reduceDiv, Int.reduceMod, Int.reduceNeg, reduceCtorEq, codeKey, List.contains, List.elem, Ev.load, peek, pack, storeV, fieldAddr, field, cvB, hk, e0, e64, ep, e2, bits1, decide_true, Int.toNat_natCast])
      exact hn
theorem noughts_cv (x : Nat) (h0 : 0 < x) (h1 : x < 18446744073709551616) (H : Heap) : callV (CL lore) 49 [.int .u64 (x : Int)] H = some (.tup [.int .i64 (lz x : Int), .int .i64 (tz x : Int)], H) := by
  refine callV_ans (r := some _) ?_ lore_sh49 rfl H
  have hhi := loopHi x h0 h1
  have hlo := loopLo x h0 h1
  have hmin : min ((64 - blN x : Nat) : Int) 31 = (lz x : Int) := by
    unfold lz
    omega
  rw [call_start lore_ext49 Tryd.func49 rfl lore_okf49 (Nat.le_of_ble_eq_true rfl)]
  repeat' (first | (refine cond_by (F := ans) (fun _ => ?_) (fun _ => ?_)) | (refine wayK_by (F := ans) (fun _ hb_ => ?_) (fun _ hb_ => ?_) <;> simp only [hb_]) | (refine wayK_byN (F := ans) (fun _ hb_ => ?_) (fun _ hb_ => ?_) <;> simp only [hb_]) | (refine wayD_by (F := ans) (fun _ hb_ => ?_) (fun _ hb_ => ?_) <;> simp only [hb_]) | (refine wayD_byN (F := ans) (fun _ hb_ => ?_) (fun _ hb_ => ?_) <;> simp only [hb_]) | (refine rdK_by (F := ans) (fun _ => ?_) (fun _ => ?_)) | (refine effK_by (F := ans) (fun _ => ?_) (fun _ => ?_)) | (refine effK_by2 (F := ans) (fun _ => ?_) (fun _ => ?_)) | (refine rdD_by (F := ans) (fun _ => ?_) (fun _ => ?_)) | (refine effD_by (F := ans) (fun _ => ?_) (fun _ => ?_)) | (refine effD_by2 (F := ans) (fun _ => ?_) (fun _ => ?_)) | simp -implicitDefEqProofs (disch := first | omega | (simp only [List.length_append, List.length_cons, List.length_nil, List.length_drop, List.length_take]; omega)) only [evs, tys, lors, Nat.reduceAdd, Nat.reduceSub, Nat.reduceMul, Nat.reducePow, Nat.reduceBEq, Nat.reduceLT, Nat.reduceLeDiff, Nat.reduceEqDiff, Int.reduceLT, Int.reduceLE, Int.reduceEq, Int.reduceNe, Int.reduceToNat, Int.reduceAdd, Int.reduceSub, Int.reduceMul, Int.reducePow, Int.reduceDiv, Int.reduceMod, Int.reduceNeg, reduceCtorEq, codeKey, List.contains, List.elem, Ev.load, peek, pack, storeV, fieldAddr, field, cvB])
  refine hhi _ _ _ (by rfl) ?_ 63 0 rfl (by rw [Nat.sub_zero]; exact h1)
  repeat' (first | (refine cond_by (F := ans) (fun _ => ?_) (fun _ => ?_)) | (refine wayK_by (F := ans) (fun _ hb_ => ?_) (fun _ hb_ => ?_) <;> simp only [hb_]) | (refine wayK_byN (F := ans) (fun _ hb_ => ?_) (fun _ hb_ => ?_) <;> simp only [hb_]) | (refine wayD_by (F := ans) (fun _ hb_ => ?_) (fun _ hb_ => ?_) <;> simp only [hb_]) | (refine wayD_byN (F := ans) (fun _ hb_ => ?_) (fun _ hb_ => ?_) <;> simp only [hb_]) | (refine rdK_by (F := ans) (fun _ => ?_) (fun _ => ?_)) | (refine effK_by (F := ans) (fun _ => ?_) (fun _ => ?_)) | (refine effK_by2 (F := ans) (fun _ => ?_) (fun _ => ?_)) | (refine rdD_by (F := ans) (fun _ => ?_) (fun _ => ?_)) | (refine effD_by (F := ans) (fun _ => ?_) (fun _ => ?_)) | (refine effD_by2 (F := ans) (fun _ => ?_) (fun _ => ?_)) | simp -implicitDefEqProofs (disch := first | omega | (simp only [List.length_append, List.length_cons, List.length_nil, List.length_drop, List.length_take]; omega)) only [evs, tys, lors, Nat.reduceAdd, Nat.reduceSub, Nat.reduceMul, Nat.reducePow, Nat.reduceBEq, Nat.reduceLT, Nat.reduceLeDiff, Nat.reduceEqDiff, Int.reduceLT, Int.reduceLE, Int.reduceEq, Int.reduceNe, Int.reduceToNat, Int.reduceAdd, Int.reduceSub, Int.reduceMul, Int.reducePow, Int.reduceDiv, Int.reduceMod, Int.reduceNeg, reduceCtorEq, codeKey, List.contains, List.elem, Ev.load, peek, pack, storeV, fieldAddr, field, cvB])
  refine hlo _ _ _ _ (by rfl) ?_ 64 0 rfl (by decide) (by simp) (by simp [tz])
  repeat' (first | (refine cond_by (F := ans) (fun _ => ?_) (fun _ => ?_)) | (refine wayK_by (F := ans) (fun _ hb_ => ?_) (fun _ hb_ => ?_) <;> simp only [hb_]) | (refine wayK_byN (F := ans) (fun _ hb_ => ?_) (fun _ hb_ => ?_) <;> simp only [hb_]) | (refine wayD_by (F := ans) (fun _ hb_ => ?_) (fun _ hb_ => ?_) <;> simp only [hb_]) | (refine wayD_byN (F := ans) (fun _ hb_ => ?_) (fun _ hb_ => ?_) <;> simp only [hb_]) | (refine rdK_by (F := ans) (fun _ => ?_) (fun _ => ?_)) | (refine effK_by (F := ans) (fun _ => ?_) (fun _ => ?_)) | (refine effK_by2 (F := ans) (fun _ => ?_) (fun _ => ?_)) | (refine rdD_by (F := ans) (fun _ => ?_) (fun _ => ?_)) | (refine effD_by (F := ans) (fun _ => ?_) (fun _ => ?_)) | (refine effD_by2 (F := ans) (fun _ => ?_) (fun _ => ?_)) | simp -implicitDefEqProofs (disch := first | omega | (simp only [List.length_append, List.length_cons, List.length_nil, List.length_drop, List.length_take]; omega)) only [evs, tys, lors, Nat.reduceAdd, Nat.reduceSub, Nat.reduceMul, Nat.reducePow, Nat.reduceBEq, Nat.reduceLT, Nat.reduceLeDiff, Nat.reduceEqDiff, Int.reduceLT, Int.reduceLE, Int.reduceEq, Int.reduceNe, Int.reduceToNat, Int.reduceAdd, Int.reduceSub, Int.reduceMul, Int.reducePow, Int.reduceDiv, Int.reduceMod, Int.reduceNeg, reduceCtorEq, codeKey, List.contains, List.elem, Ev.load, peek, pack, storeV, fieldAddr, field, cvB, hmin])
  all_goals trace_state


theorem jn2 (lit : List V) (p q : List Int) (hlit : lit = enc8 p) (c : Bool) (hl : p.length + q.length ≤ 100000000000) (H : Heap) : callV (CL lore) 39 [.sl [.sl lit 1 true, .sl (enc8 q) 1 c] 1 true] H = some (.row H.length (p.length + q.length), H ++ [⟨enc8 (p ++ q), 1, true, false⟩]) := by
  subst hlit
  exact join2 (part_sl p true) (part_sl q c) hl H
theorem num_m (d : Int) (n : Nat) (hn : 1 ≤ n) (hn64 : n ≤ 64) (m : Int) (hm : m = n) (H : Heap) : callV (CL lore) 32 [.int .u64 (d % 18446744073709551616), .int .i64 m] H = some (.sl (enc8 (numB d n)) 1 false, H) := by
  subst hm
  have := num_cv (d % 18446744073709551616) (by omega) n hn hn64 H
  rw [numB_mod d n hn64] at this
  exact this
theorem step_cv (d : Int) (hd : -9223372036854775808 ≤ d ∧ d ≤ 9223372036854775807) (H : Heap) : callV (CL lore) 43 [.int .i64 d] H = some (.sl (enc8 (difB d)) 1 (decide (d = 0)), H) := by
  refine callV_ans (r := some _) ?_ lore_sh43 rfl H
  have e1 : IntKind.u64.wrap d = d % 18446744073709551616 := IntKind.wrap_u64 ..
  have n14 := num_m d 14 (by decide) (by decide) 14 rfl
  have n17 := num_m d 17 (by decide) (by decide) 17 rfl
  have n20 := num_m d 20 (by decide) (by decide) 20 rfl
  have n64 := num_m d 64 (by decide) (by decide) 64 rfl
  have j14 := jn2 [.int .u8 1, .int .u8 0] [1, 0] (numB d 14) rfl false (by rw [numB_len]; decide)
  have j17 := jn2 [.int .u8 1, .int .u8 1, .int .u8 0] [1, 1, 0] (numB d 17) rfl false (by rw [numB_len]; decide)
  have j20 := jn2 [.int .u8 1, .int .u8 1, .int .u8 1, .int .u8 0] [1, 1, 1, 0] (numB d 20) rfl false (by rw [numB_len]; decide)
  have j64 := jn2 [.int .u8 1, .int .u8 1, .int .u8 1, .int .u8 1] [1, 1, 1, 1] (numB d 64) rfl false (by rw [numB_len]; decide)
  unfold difB
  by_cases h0 : d = 0
  · rw [if_pos h0, decide_eq_true h0]
    rw [call_start lore_ext43 Tryd.func43 rfl lore_okf43 (Nat.le_of_ble_eq_true rfl)]
    repeat' (first | (refine cond_by (F := ans) (fun _ => ?_) (fun _ => ?_)) | (refine wayK_by (F := ans) (fun _ hb_ => ?_) (fun _ hb_ => ?_) <;> simp only [hb_]) | (refine wayK_byN (F := ans) (fun _ hb_ => ?_) (fun _ hb_ => ?_) <;> simp only [hb_]) | (refine wayD_by (F := ans) (fun _ hb_ => ?_) (fun _ hb_ => ?_) <;> simp only [hb_]) | (refine wayD_byN (F := ans) (fun _ hb_ => ?_) (fun _ hb_ => ?_) <;> simp only [hb_]) | (refine rdK_by (F := ans) (fun _ => ?_) (fun _ => ?_)) | (refine effK_by (F := ans) (fun _ => ?_) (fun _ => ?_)) | (refine effK_by2 (F := ans) (fun _ => ?_) (fun _ => ?_)) | (refine rdD_by (F := ans) (fun _ => ?_) (fun _ => ?_)) | (refine effD_by (F := ans) (fun _ => ?_) (fun _ => ?_)) | (refine effD_by2 (F := ans) (fun _ => ?_) (fun _ => ?_)) | simp -implicitDefEqProofs (disch := first | omega | (simp only [List.length_append, List.length_cons, List.length_nil, List.length_drop, List.length_take]; omega)) only [evs, tys, lors, Nat.reduceAdd, Nat.reduceSub, Nat.reduceMul, Nat.reducePow, Nat.reduceBEq, Nat.reduceLT, Nat.reduceLeDiff, Nat.reduceEqDiff, Int.reduceLT, Int.reduceLE, Int.reduceEq, Int.reduceNe, Int.reduceToNat, Int.reduceAdd, Int.reduceSub, Int.reduceMul, Int.reducePow, Int.reduceDiv, Int.reduceMod, Int.reduceNeg, reduceCtorEq, codeKey, List.contains, List.elem, Ev.load, peek, pack, storeV, fieldAddr, field, cvB, h0, decide_true])
    all_goals first | rfl | trace_state
  · rw [if_neg h0, decide_eq_false h0]
    by_cases h1 : -8192 < d ∧ d ≤ 8192
    · rw [if_pos h1]
      have c1 : -8191 ≤ d := by omega
      rw [call_start lore_ext43 Tryd.func43 rfl lore_okf43 (Nat.le_of_ble_eq_true rfl)]
      repeat' (first | (refine cond_by (F := ans) (fun _ => ?_) (fun _ => ?_)) | (refine wayK_by (F := ans) (fun _ hb_ => ?_) (fun _ hb_ => ?_) <;> simp only [hb_]) | (refine wayK_byN (F := ans) (fun _ hb_ => ?_) (fun _ hb_ => ?_) <;> simp only [hb_]) | (refine wayD_by (F := ans) (fun _ hb_ => ?_) (fun _ hb_ => ?_) <;> simp only [hb_]) | (refine wayD_byN (F := ans) (fun _ hb_ => ?_) (fun _ hb_ => ?_) <;> simp only [hb_]) | (refine rdK_by (F := ans) (fun _ => ?_) (fun _ => ?_)) | (refine effK_by (F := ans) (fun _ => ?_) (fun _ => ?_)) | (refine effK_by2 (F := ans) (fun _ => ?_) (fun _ => ?_)) | (refine rdD_by (F := ans) (fun _ => ?_) (fun _ => ?_)) | (refine effD_by (F := ans) (fun _ => ?_) (fun _ => ?_)) | (refine effD_by2 (F := ans) (fun _ => ?_) (fun _ => ?_)) | simp -implicitDefEqProofs (disch := first | omega | (simp only [List.length_append, List.length_cons, List.length_nil, List.length_drop, List.length_take]; omega)) only [evs, tys, lors, Nat.reduceAdd, Nat.reduceSub, Nat.reduceMul, Nat.reducePow, Nat.reduceBEq, Nat.reduceLT, Nat.reduceLeDiff, Nat.reduceEqDiff, Int.reduceLT, Int.reduceLE, Int.reduceEq, Int.reduceNe, Int.reduceToNat, Int.reduceAdd, Int.reduceSub, Int.reduceMul, Int.reducePow, Int.reduceDiv, Int.reduceMod, Int.reduceNeg, reduceCtorEq, codeKey, List.contains, List.elem, Ev.load, peek, pack, storeV, fieldAddr, field, cvB, h0, c1, h1.2, e1, n14, j14, decide_true, decide_false])
      all_goals first | (simp [giveP, give, fz2, fz1, enc8_len, numB]; done) | trace_state
    · rw [if_neg h1]
      have c1 : ¬ -8191 ≤ d ∨ (-8191 ≤ d ∧ ¬ d ≤ 8192) := by omega
      by_cases h2 : -65536 < d ∧ d ≤ 65536
      · rw [if_pos h2]
        have c2 : -65535 ≤ d := by omega
        rw [call_start lore_ext43 Tryd.func43 rfl lore_okf43 (Nat.le_of_ble_eq_true rfl)]
        rcases c1 with c1 | ⟨c1, c1'⟩
        · repeat' (first | (refine cond_by (F := ans) (fun _ => ?_) (fun _ => ?_)) | (refine wayK_by (F := ans) (fun _ hb_ => ?_) (fun _ hb_ => ?_) <;> simp only [hb_]) | (refine wayK_byN (F := ans) (fun _ hb_ => ?_) (fun _ hb_ => ?_) <;> simp only [hb_]) | (refine wayD_by (F := ans) (fun _ hb_ => ?_) (fun _ hb_ => ?_) <;> simp only [hb_]) | (refine wayD_byN (F := ans) (fun _ hb_ => ?_) (fun _ hb_ => ?_) <;> simp only [hb_]) | (refine rdK_by (F := ans) (fun _ => ?_) (fun _ => ?_)) | (refine effK_by (F := ans) (fun _ => ?_) (fun _ => ?_)) | (refine effK_by2 (F := ans) (fun _ => ?_) (fun _ => ?_)) | (refine rdD_by (F := ans) (fun _ => ?_) (fun _ => ?_)) | (refine effD_by (F := ans) (fun _ => ?_) (fun _ => ?_)) | (refine effD_by2 (F := ans) (fun _ => ?_) (fun _ => ?_)) | simp -implicitDefEqProofs (disch := first | omega | (simp only [List.length_append, List.length_cons, List.length_nil, List.length_drop, List.length_take]; omega)) only [evs, tys, lors, Nat.reduceAdd, Nat.reduceSub, Nat.reduceMul, Nat.reducePow, Nat.reduceBEq, Nat.reduceLT, Nat.reduceLeDiff, Nat.reduceEqDiff, Int.reduceLT, Int.reduceLE, Int.reduceEq, Int.reduceNe, Int.reduceToNat, Int.reduceAdd, Int.reduceSub, Int.reduceMul, Int.reducePow, Int.reduceDiv, Int.reduceMod, Int.reduceNeg, reduceCtorEq, codeKey, List.contains, List.elem, Ev.load, peek, pack, storeV, fieldAddr, field, cvB, h0, c1, c2, h2.2, e1, n17, j17, decide_true, decide_false])
          all_goals first | (simp [giveP, give, fz2, fz1, enc8_len, numB]; done) | trace_state
        · repeat' (first | (refine cond_by (F := ans) (fun _ => ?_) (fun _ => ?_)) | (refine wayK_by (F := ans) (fun _ hb_ => ?_) (fun _ hb_ => ?_) <;> simp only [hb_]) | (refine wayK_byN (F := ans) (fun _ hb_ => ?_) (fun _ hb_ => ?_) <;> simp only [hb_]) | (refine wayD_by (F := ans) (fun _ hb_ => ?_) (fun _ hb_ => ?_) <;> simp only [hb_]) | (refine wayD_byN (F := ans) (fun _ hb_ => ?_) (fun _ hb_ => ?_) <;> simp only [hb_]) | (refine rdK_by (F := ans) (fun _ => ?_) (fun _ => ?_)) | (refine effK_by (F := ans) (fun _ => ?_) (fun _ => ?_)) | (refine effK_by2 (F := ans) (fun _ => ?_) (fun _ => ?_)) | (refine rdD_by (F := ans) (fun _ => ?_) (fun _ => ?_)) | (refine effD_by (F := ans) (fun _ => ?_) (fun _ => ?_)) | (refine effD_by2 (F := ans) (fun _ => ?_) (fun _ => ?_)) | simp -implicitDefEqProofs (disch := first | omega | (simp only [List.length_append, List.length_cons, List.length_nil, List.length_drop, List.length_take]; omega)) only [evs, tys, lors, Nat.reduceAdd, Nat.reduceSub, Nat.reduceMul, Nat.reducePow, Nat.reduceBEq, Nat.reduceLT, Nat.reduceLeDiff, Nat.reduceEqDiff, Int.reduceLT, Int.reduceLE, Int.reduceEq, Int.reduceNe, Int.reduceToNat, Int.reduceAdd, Int.reduceSub, Int.reduceMul, Int.reducePow, Int.reduceDiv, Int.reduceMod, Int.reduceNeg, reduceCtorEq, codeKey, List.contains, List.elem, Ev.load, peek, pack, storeV, fieldAddr, field, cvB, h0, c1, c1', c2, h2.2, e1, n17, j17, decide_true, decide_false])
          all_goals first | (simp [giveP, give, fz2, fz1, enc8_len, numB]; done) | trace_state
      · rw [if_neg h2]
        have c2 : (¬ -65535 ≤ d ∧ ¬ -8191 ≤ d) ∨ (-65535 ≤ d ∧ ¬ d ≤ 65536 ∧ -8191 ≤ d ∧ ¬ d ≤ 8192) := by omega
        by_cases h3 : -524288 < d ∧ d ≤ 524288
        · rw [if_pos h3]
          have c3 : -524287 ≤ d := by omega
          rw [call_start lore_ext43 Tryd.func43 rfl lore_okf43 (Nat.le_of_ble_eq_true rfl)]
          rcases c2 with ⟨c2, c1⟩ | ⟨c2, c2', c1, c1'⟩
          · repeat' (first | (refine cond_by (F := ans) (fun _ => ?_) (fun _ => ?_)) | (refine wayK_by (F := ans) (fun _ hb_ => ?_) (fun _ hb_ => ?_) <;> simp only [hb_]) | (refine wayK_byN (F := ans) (fun _ hb_ => ?_) (fun _ hb_ => ?_) <;> simp only [hb_]) | (refine wayD_by (F := ans) (fun _ hb_ => ?_) (fun _ hb_ => ?_) <;> simp only [hb_]) | (refine wayD_byN (F := ans) (fun _ hb_ => ?_) (fun _ hb_ => ?_) <;> simp only [hb_]) | (refine rdK_by (F := ans) (fun _ => ?_) (fun _ => ?_)) | (refine effK_by (F := ans) (fun _ => ?_) (fun _ => ?_)) | (refine effK_by2 (F := ans) (fun _ => ?_) (fun _ => ?_)) | (refine rdD_by (F := ans) (fun _ => ?_) (fun _ => ?_)) | (refine effD_by (F := ans) (fun _ => ?_) (fun _ => ?_)) | (refine effD_by2 (F := ans) (fun _ => ?_) (fun _ => ?_)) | simp -implicitDefEqProofs (disch := first | omega | (simp only [List.length_append, List.length_cons, List.length_nil, List.length_drop, List.length_take]; omega)) only [evs, tys, lors, Nat.reduceAdd, Nat.reduceSub, Nat.reduceMul, Nat.reducePow, Nat.reduceBEq, Nat.reduceLT, Nat.reduceLeDiff, Nat.reduceEqDiff, Int.reduceLT, Int.reduceLE, Int.reduceEq, Int.reduceNe, Int.reduceToNat, Int.reduceAdd, Int.reduceSub, Int.reduceMul, Int.reducePow, Int.reduceDiv, Int.reduceMod, Int.reduceNeg, reduceCtorEq, codeKey, List.contains, List.elem, Ev.load, peek, pack, storeV, fieldAddr, field, cvB, h0, c1, c2, c3, h3.2, e1, n20, j20, decide_true, decide_false])
            all_goals first | (simp [giveP, give, fz2, fz1, enc8_len, numB]; done) | trace_state
          · repeat' (first | (refine cond_by (F := ans) (fun _ => ?_) (fun _ => ?_)) | (refine wayK_by (F := ans) (fun _ hb_ => ?_) (fun _ hb_ => ?_) <;> simp only [hb_]) | (refine wayK_byN (F := ans) (fun _ hb_ => ?_) (fun _ hb_ => ?_) <;> simp only [hb_]) | (refine wayD_by (F := ans) (fun _ hb_ => ?_) (fun _ hb_ => ?_) <;> simp only [hb_]) | (refine wayD_byN (F := ans) (fun _ hb_ => ?_) (fun _ hb_ => ?_) <;> simp only [hb_]) | (refine rdK_by (F := ans) (fun _ => ?_) (fun _ => ?_)) | (refine effK_by (F := ans) (fun _ => ?_) (fun _ => ?_)) | (refine effK_by2 (F := ans) (fun _ => ?_) (fun _ => ?_)) | (refine rdD_by (F := ans) (fun _ => ?_) (fun _ => ?_)) | (refine effD_by (F := ans) (fun _ => ?_) (fun _ => ?_)) | (refine effD_by2 (F := ans) (fun _ => ?_) (fun _ => ?_)) | simp -implicitDefEqProofs (disch := first | omega | (simp only [List.length_append, List.length_cons, List.length_nil, List.length_drop, List.length_take]; omega)) only [evs, tys, lors, Nat.reduceAdd, Nat.reduceSub, Nat.reduceMul, Nat.reducePow, Nat.reduceBEq, Nat.reduceLT, Nat.reduceLeDiff, Nat.reduceEqDiff, Int.reduceLT, Int.reduceLE, Int.reduceEq, Int.reduceNe, Int.reduceToNat, Int.reduceAdd, Int.reduceSub, Int.reduceMul, Int.reducePow, Int.reduceDiv, Int.reduceMod, Int.reduceNeg, reduceCtorEq, codeKey, List.contains, List.elem, Ev.load, peek, pack, storeV, fieldAddr, field, cvB, h0, c1, c1', c2, c2', c3, h3.2, e1, n20, j20, decide_true, decide_false])
            all_goals first | (simp [giveP, give, fz2, fz1, enc8_len, numB]; done) | trace_state
        · rw [if_neg h3]
          have c3 : (¬ -524287 ≤ d ∧ ¬ -65535 ≤ d ∧ ¬ -8191 ≤ d) ∨ (-524287 ≤ d ∧ ¬ d ≤ 524288 ∧ -65535 ≤ d ∧ ¬ d ≤ 65536 ∧ -8191 ≤ d ∧ ¬ d ≤ 8192) := by omega
          rw [call_start lore_ext43 Tryd.func43 rfl lore_okf43 (Nat.le_of_ble_eq_true rfl)]
          rcases c3 with ⟨c3, c2, c1⟩ | ⟨c3, c3', c2, c2', c1, c1'⟩
          · repeat' (first | (refine cond_by (F := ans) (fun _ => ?_) (fun _ => ?_)) | (refine wayK_by (F := ans) (fun _ hb_ => ?_) (fun _ hb_ => ?_) <;> simp only [hb_]) | (refine wayK_byN (F := ans) (fun _ hb_ => ?_) (fun _ hb_ => ?_) <;> simp only [hb_]) | (refine wayD_by (F := ans) (fun _ hb_ => ?_) (fun _ hb_ => ?_) <;> simp only [hb_]) | (refine wayD_byN (F := ans) (fun _ hb_ => ?_) (fun _ hb_ => ?_) <;> simp only [hb_]) | (refine rdK_by (F := ans) (fun _ => ?_) (fun _ => ?_)) | (refine effK_by (F := ans) (fun _ => ?_) (fun _ => ?_)) | (refine effK_by2 (F := ans) (fun _ => ?_) (fun _ => ?_)) | (refine rdD_by (F := ans) (fun _ => ?_) (fun _ => ?_)) | (refine effD_by (F := ans) (fun _ => ?_) (fun _ => ?_)) | (refine effD_by2 (F := ans) (fun _ => ?_) (fun _ => ?_)) | simp -implicitDefEqProofs (disch := first | omega | (simp only [List.length_append, List.length_cons, List.length_nil, List.length_drop, List.length_take]; omega)) only [evs, tys, lors, Nat.reduceAdd, Nat.reduceSub, Nat.reduceMul, Nat.reducePow, Nat.reduceBEq, Nat.reduceLT, Nat.reduceLeDiff, Nat.reduceEqDiff, Int.reduceLT, Int.reduceLE, Int.reduceEq, Int.reduceNe, Int.reduceToNat, Int.reduceAdd, Int.reduceSub, Int.reduceMul, Int.reducePow, Int.reduceDiv, Int.reduceMod, Int.reduceNeg, reduceCtorEq, codeKey, List.contains, List.elem, Ev.load, peek, pack, storeV, fieldAddr, field, cvB, h0, c1, c2, c3, e1, n64, j64, decide_true, decide_false])
            all_goals first | (simp [giveP, give, fz2, fz1, enc8_len, numB]; done) | trace_state
          · repeat' (first | (refine cond_by (F := ans) (fun _ => ?_) (fun _ => ?_)) | (refine wayK_by (F := ans) (fun _ hb_ => ?_) (fun _ hb_ => ?_) <;> simp only [hb_]) | (refine wayK_byN (F := ans) (fun _ hb_ => ?_) (fun _ hb_ => ?_) <;> simp only [hb_]) | (refine wayD_by (F := ans) (fun _ hb_ => ?_) (fun _ hb_ => ?_) <;> simp only [hb_]) | (refine wayD_byN (F := ans) (fun _ hb_ => ?_) (fun _ hb_ => ?_) <;> simp only [hb_]) | (refine rdK_by (F := ans) (fun _ => ?_) (fun _ => ?_)) | (refine effK_by (F := ans) (fun _ => ?_) (fun _ => ?_)) | (refine effK_by2 (F := ans) (fun _ => ?_) (fun _ => ?_)) | (refine rdD_by (F := ans) (fun _ => ?_) (fun _ => ?_)) | (refine effD_by (F := ans) (fun _ => ?_) (fun _ => ?_)) | (refine effD_by2 (F := ans) (fun _ => ?_) (fun _ => ?_)) | simp -implicitDefEqProofs (disch := first | omega | (simp only [List.length_append, List.length_cons, List.length_nil, List.length_drop, List.length_take]; omega)) only [evs, tys, lors, Nat.reduceAdd, Nat.reduceSub, Nat.reduceMul, Nat.reducePow, Nat.reduceBEq, Nat.reduceLT, Nat.reduceLeDiff, Nat.reduceEqDiff, Int.reduceLT, Int.reduceLE, Int.reduceEq, Int.reduceNe, Int.reduceToNat, Int.reduceAdd, Int.reduceSub, Int.reduceMul, Int.reducePow, Int.reduceDiv, Int.reduceMod, Int.reduceNeg, reduceCtorEq, codeKey, List.contains, List.elem, Ev.load, peek, pack, storeV, fieldAddr, field, cvB, h0, c1, c1', c2, c2', c3, c3', e1, n64, j64, decide_true, decide_false])
            all_goals first | (simp [giveP, give, fz2, fz1, enc8_len, numB]; done) | trace_state
theorem num_z (x : Int) (hx : 0 ≤ x ∧ x < 18446744073709551616) (n : Nat) (hn : 1 ≤ n) (hn64 : n ≤ 64) (m : Int) (hm : m = n) (H : Heap) : callV (CL lore) 32 [.int .u64 x, .int .i64 m] H = some (.sl (enc8 (numB x n)) 1 false, H) := by
  subst hm
  exact num_cv x hx n hn hn64 H
theorem jn4 (lit : List V) (p q r s : List Int) (hlit : lit = enc8 p) (c d e : Bool) (hl : p.length + q.length + r.length + s.length ≤ 100000000000) (H : Heap) : callV (CL lore) 39 [.sl [.sl lit 1 true, .sl (enc8 q) 1 c, .sl (enc8 r) 1 d, .sl (enc8 s) 1 e] 1 true] H = some (.row H.length (p.length + q.length + r.length + s.length), H ++ [⟨enc8 (p ++ q ++ r ++ s), 1, true, false⟩]) := by
  subst hlit
  exact join4 (part_sl p true) (part_sl q c) (part_sl r d) (part_sl s e) hl H
theorem give_row2 {H : Heap} {i tot : Nat} {q : List Int} {v : V} (hH : H[i]? = some ⟨enc8 q, 1, true, false⟩) (hl : q.length = tot) (hv : ∀ H, fz2 H v = some (v, H)) : giveP false H (.tup [.row i tot, v]) = some (.tup [.sl (enc8 q) 1 false, v]) := by
  have e1 : fz2 H (.row i tot) = some (.sl (enc8 q) 1 false, H.set i ⟨enc8 q, 1, true, true⟩) := by
    show fz1 H (.row i tot) = _
    simp only [fz1, hH]
    rw [if_pos ⟨Nat.zero_lt_one, by rw [enc8_len]; exact hl, trivial⟩]
  have e2 := hv (H.set i ⟨enc8 q, 1, true, true⟩)
  have e3 : fz2s (H.set i ⟨enc8 q, 1, true, true⟩) [v] = some ([v], H.set i ⟨enc8 q, 1, true, true⟩) := by
    rw [fz2s, e2]; rfl
  show (fz2s H [.row i tot, v]).map _ = _
  rw [fz2s, e1, Option.bind_some, e3]
  rfl
abbrev frV (f : Fr) : V := .agg [.bool f.there, .int .i64 f.l, .int .i64 f.t]
theorem value_cv (a b : Nat) (ha : a < 2 ^ 64) (hb : b < 2 ^ 64) (f : Fr) (hf : FrOk f) (H : Heap) :
    callV (CL lore) 42 [.fl .f64 a, .fl .f64 b, frV f] H = some (.tup [.sl (enc8 (xorB (vbN a ^^^ vbN b) f).1) 1 (decide (vbN a ^^^ vbN b = 0)), frV (xorB (vbN a ^^^ vbN b) f).2], H) := by
  refine callV_ans (r := some _) ?_ lore_sh42 rfl H
  have r1 := rbits_cv a ha
  have r2 := rbits_cv b hb
  have hx := xorI_natU (vbN_lt ha) (vbN_lt hb)
  have hlt : vbN a ^^^ vbN b < 2 ^ 64 := Nat.xor_lt_two_pow (vbN_lt ha) (vbN_lt hb)
  generalize vbN a ^^^ vbN b = x at *
  unfold xorB
  by_cases h0 : x = 0
  · rw [if_pos h0]
    have hx0 : (x : Int) = 0 := by omega
    subst h0
    obtain ⟨fb, fl, ft⟩ := f
    rw [call_start lore_ext42 Tryd.func42 rfl lore_okf42 (Nat.le_of_ble_eq_true rfl)]
    repeat' (first | (refine cond_by (F := ans) (fun _ => ?_) (fun _ => ?_)) | (refine wayK_by (F := ans) (fun _ hb_ => ?_) (fun _ hb_ => ?_) <;> simp only [hb_]) | (refine wayK_byN (F := ans) (fun _ hb_ => ?_) (fun _ hb_ => ?_) <;> simp only [hb_]) | (refine wayD_by (F := ans) (fun _ hb_ => ?_) (fun _ hb_ => ?_) <;> simp only [hb_]) | (refine wayD_byN (F := ans) (fun _ hb_ => ?_) (fun _ hb_ => ?_) <;> simp only [hb_]) | (refine rdK_by (F := ans) (fun _ => ?_) (fun _ => ?_)) | (refine effK_by (F := ans) (fun _ => ?_) (fun _ => ?_)) | (refine effK_by2 (F := ans) (fun _ => ?_) (fun _ => ?_)) | (refine rdD_by (F := ans) (fun _ => ?_) (fun _ => ?_)) | (refine effD_by (F := ans) (fun _ => ?_) (fun _ => ?_)) | (refine effD_by2 (F := ans) (fun _ => ?_) (fun _ => ?_)) | simp -implicitDefEqProofs (disch := first | omega | (simp only [List.length_append, List.length_cons, List.length_nil, List.length_drop, List.length_take]; omega)) only [evs, tys, lors, Nat.reduceAdd, Nat.reduceSub, Nat.reduceMul, Nat.reducePow, Nat.reduceBEq, Nat.reduceLT, Nat.reduceLeDiff, Nat.reduceEqDiff, Int.reduceLT, Int.reduceLE, Int.reduceEq, Int.reduceNe, Int.reduceToNat, Int.reduceAdd, Int.reduceSub, Int.reduceMul, Int.reducePow, Int.reduceDiv, Int.reduceMod, Int.reduceNeg, reduceCtorEq, codeKey, List.contains, List.elem, Ev.load, peek, pack, storeV, fieldAddr, field, cvB, r1, r2, hx, hx0, decide_true])
    all_goals repeat (rw [chkB_bit (by kernel_rfl)])
    repeat' (first | (refine cond_by (F := ans) (fun _ => ?_) (fun _ => ?_)) | (refine wayK_by (F := ans) (fun _ hb_ => ?_) (fun _ hb_ => ?_) <;> simp only [hb_]) | (refine wayK_byN (F := ans) (fun _ hb_ => ?_) (fun _ hb_ => ?_) <;> simp only [hb_]) | (refine wayD_by (F := ans) (fun _ hb_ => ?_) (fun _ hb_ => ?_) <;> simp only [hb_]) | (refine wayD_byN (F := ans) (fun _ hb_ => ?_) (fun _ hb_ => ?_) <;> simp only [hb_]) | (refine rdK_by (F := ans) (fun _ => ?_) (fun _ => ?_)) | (refine effK_by (F := ans) (fun _ => ?_) (fun _ => ?_)) | (refine effK_by2 (F := ans) (fun _ => ?_) (fun _ => ?_)) | (refine rdD_by (F := ans) (fun _ => ?_) (fun _ => ?_)) | (refine effD_by (F := ans) (fun _ => ?_) (fun _ => ?_)) | (refine effD_by2 (F := ans) (fun _ => ?_) (fun _ => ?_)) | simp -implicitDefEqProofs (disch := first | omega | (simp only [List.length_append, List.length_cons, List.length_nil, List.length_drop, List.length_take]; omega)) only [evs, tys, lors, Nat.reduceAdd, Nat.reduceSub, Nat.reduceMul, Nat.reducePow, Nat.reduceBEq, Nat.reduceLT, Nat.reduceLeDiff, Nat.reduceEqDiff, Int.reduceLT, Int.reduceLE, Int.reduceEq, Int.reduceNe, Int.reduceToNat, Int.reduceAdd, Int.reduceSub, Int.reduceMul, Int.reducePow, Int.reduceDiv, Int.reduceMod, Int.reduceNeg, reduceCtorEq, codeKey, List.contains, List.elem, Ev.load, peek, pack, storeV, fieldAddr, field, cvB, r1, r2, hx, hx0, decide_true])
    all_goals first | rfl | (simp [giveP, give, fz2, fz1, enc8_len, numB]; done) | trace_state
  · rw [if_neg h0, decide_eq_false h0]
    have hx0 : ¬ (x : Int) = 0 := by omega
    have hn0 := noughts_cv x (by omega) hlt
    obtain ⟨l1, l2, l3, l4, l5, l6⟩ := lt_facts (show 0 < x by omega) hlt
    by_cases hr : f.there = true ∧ f.l ≤ lz x ∧ f.t ≤ tz x
    · rw [if_pos hr]
      obtain ⟨t0, t1, t2⟩ := hf hr.1
      obtain ⟨fb, fl, ft⟩ := f
      simp only at hr t0 t1 t2 ⊢
      obtain ⟨hr1, hr2, hr3⟩ := hr
      subst hr1
      obtain ⟨ftn, rfl⟩ : ∃ n : Nat, ft = n := ⟨ft.toNat, by omega⟩
      have g1 : (fl : Int) ≤ (lz x : Int) := by omega
      have g2 : (ftn : Int) ≤ (tz x : Int) := by omega
      have hq : 0 ≤ (x : Int) / 2 ^ ftn ∧ (x : Int) / 2 ^ ftn < 18446744073709551616 := ⟨Int.ediv_nonneg (by omega) (Int.le_of_lt (p2_pos _)), Int.lt_of_le_of_lt (Int.ediv_le_self _ (by omega)) (by omega)⟩
      have p3 := num_z ((x : Int) / 2 ^ ftn) hq (64 - fl - ftn) (by omega) (by omega) (64 - (fl : Int) - (ftn : Int)) (by omega)
      have j3 := jn2 [.int .u8 1, .int .u8 0] [1, 0] (numB ((x : Int) / 2 ^ ftn) (64 - fl - ftn)) rfl false (by rw [numB_len]; simp only [List.length_cons, List.length_nil]; omega)
      have hcast : ((x / 2 ^ ftn : Nat) : Int) = (x : Int) / 2 ^ ftn := by rw [Int.natCast_ediv, Int.natCast_pow]; rfl
      simp only [Int.toNat_natCast, hcast]
      rw [call_start lore_ext42 Tryd.func42 rfl lore_okf42 (Nat.le_of_ble_eq_true rfl)]
      repeat' (first | (refine cond_by (F := ans) (fun _ => ?_) (fun _ => ?_)) | (refine wayK_by (F := ans) (fun _ hb_ => ?_) (fun _ hb_ => ?_) <;> simp only [hb_]) | (refine wayK_byN (F := ans) (fun _ hb_ => ?_) (fun _ hb_ => ?_) <;> simp only [hb_]) | (refine wayD_by (F := ans) (fun _ hb_ => ?_) (fun _ hb_ => ?_) <;> simp only [hb_]) | (refine wayD_byN (F := ans) (fun _ hb_ => ?_) (fun _ hb_ => ?_) <;> simp only [hb_]) | (refine rdK_by (F := ans) (fun _ => ?_) (fun _ => ?_)) | (refine effK_by (F := ans) (fun _ => ?_) (fun _ => ?_)) | (refine effK_by2 (F := ans) (fun _ => ?_) (fun _ => ?_)) | (refine rdD_by (F := ans) (fun _ => ?_) (fun _ => ?_)) | (refine effD_by (F := ans) (fun _ => ?_) (fun _ => ?_)) | (refine effD_by2 (F := ans) (fun _ => ?_) (fun _ => ?_)) | simp -implicitDefEqProofs (disch := first | omega | (simp only [List.length_append, List.length_cons, List.length_nil, List.length_drop, List.length_take]; omega)) only [evs, tys, lors, Nat.reduceAdd, Nat.reduceSub, Nat.reduceMul, Nat.reducePow, Nat.reduceBEq, Nat.reduceLT, Nat.reduceLeDiff, Nat.reduceEqDiff, Int.reduceLT, Int.reduceLE, Int.reduceEq, Int.reduceNe, Int.reduceToNat, Int.reduceAdd, Int.reduceSub, Int.reduceMul, Int.reducePow, Int.reduceDiv, Int.reduceMod, Int.reduceNeg, reduceCtorEq, codeKey, List.contains, List.elem, Ev.load, peek, pack, storeV, fieldAddr, field, cvB, r1, r2, hx, hx0, hn0, g1, g2, p3, j3, bits1, decide_true, decide_false])
      all_goals repeat (rw [chkB_bit (by kernel_rfl)])
      repeat' (first | (refine cond_by (F := ans) (fun _ => ?_) (fun _ => ?_)) | (refine wayK_by (F := ans) (fun _ hb_ => ?_) (fun _ hb_ => ?_) <;> simp only [hb_]) | (refine wayK_byN (F := ans) (fun _ hb_ => ?_) (fun _ hb_ => ?_) <;> simp only [hb_]) | (refine wayD_by (F := ans) (fun _ hb_ => ?_) (fun _ hb_ => ?_) <;> simp only [hb_]) | (refine wayD_byN (F := ans) (fun _ hb_ => ?_) (fun _ hb_ => ?_) <;> simp only [hb_]) | (refine rdK_by (F := ans) (fun _ => ?_) (fun _ => ?_)) | (refine effK_by (F := ans) (fun _ => ?_) (fun _ => ?_)) | (refine effK_by2 (F := ans) (fun _ => ?_) (fun _ => ?_)) | (refine rdD_by (F := ans) (fun _ => ?_) (fun _ => ?_)) | (refine effD_by (F := ans) (fun _ => ?_) (fun _ => ?_)) | (refine effD_by2 (F := ans) (fun _ => ?_) (fun _ => ?_)) | simp -implicitDefEqProofs (disch := first | omega | (simp only [List.length_append, List.length_cons, List.length_nil, List.length_drop, List.length_take]; omega)) only [evs, tys, lors, Nat.reduceAdd, Nat.reduceSub, Nat.reduceMul, Nat.reducePow, Nat.reduceBEq, Nat.reduceLT, Nat.reduceLeDiff, Nat.reduceEqDiff, Int.reduceLT, Int.reduceLE, Int.reduceEq, Int.reduceNe, Int.reduceToNat, Int.reduceAdd, Int.reduceSub, Int.reduceMul, Int.reducePow, Int.reduceDiv, Int.reduceMod, Int.reduceNeg, reduceCtorEq, codeKey, List.contains, List.elem, Ev.load, peek, pack, storeV, fieldAddr, field, cvB, r1, r2, hx, hx0, hn0, g1, g2, p3, j3, bits1, decide_true, decide_false])
      have nn0 : numB 0 1 = [0] := by decide
      have nn1 : numB 1 1 = [1] := by decide
      rw [nn0, nn1]
      exact give_row2 (q := 1 :: 0 :: numB ((x : Int) / 2 ^ ftn) (64 - fl - ftn)) rfl (by simp only [List.length_cons]; omega) (fun _ => rfl)
    · rw [if_neg hr]
      have hcond : f.there = false ∨ (f.there = true ∧ ¬ (f.l : Int) ≤ (lz x : Int)) ∨ (f.there = true ∧ (f.l : Int) ≤ (lz x : Int) ∧ ¬ f.t ≤ (tz x : Int)) := by
        cases hft : f.there with
        | false => exact Or.inl rfl
        | true =>
          rw [hft] at hr
          simp only [true_and] at hr
          refine Or.inr ?_
          by_cases hg : f.l ≤ lz x
          · exact Or.inr ⟨rfl, by omega, fun hh => hr ⟨hg, hh⟩⟩
          · exact Or.inl ⟨rfl, by omega⟩
      have hn6 : ((64 - lz x - tz x : Nat) : Int) % 64 = (((64 - lz x - tz x) % 64 : Nat) : Int) := by omega
      have hn7 : (64 : Int) - (lz x : Int) - (tz x : Int) = ((64 - lz x - tz x : Nat) : Int) := by omega
      have hq : 0 ≤ (x : Int) / 2 ^ tz x ∧ (x : Int) / 2 ^ tz x < 18446744073709551616 := ⟨Int.ediv_nonneg (by omega) (Int.le_of_lt (p2_pos _)), Int.lt_of_le_of_lt (Int.ediv_le_self _ (by omega)) (by omega)⟩
      have p3 := num_z (lz x : Nat) (by omega) 5 (by decide) (by decide) 5 rfl
      have p4 := num_z (((64 - lz x - tz x) % 64 : Nat) : Int) (by omega) 6 (by decide) (by decide) 6 rfl
      have p5 := num_z ((x : Int) / 2 ^ tz x) hq (64 - lz x - tz x) (by omega) (by omega) ((64 - lz x - tz x : Nat) : Int) rfl
      have j5 := jn4 [.int .u8 1, .int .u8 1] [1, 1] (numB (lz x : Nat) 5) (numB (((64 - lz x - tz x) % 64 : Nat) : Int) 6) (numB ((x : Int) / 2 ^ tz x) (64 - lz x - tz x)) rfl false false false (by simp only [numB_len, List.length_cons, List.length_nil]; omega)
      have hcast : ((x / 2 ^ tz x : Nat) : Int) = (x : Int) / 2 ^ tz x := by rw [Int.natCast_ediv, Int.natCast_pow]; rfl
      simp only [hcast]
      have hlz : 0 ≤ (lz x : Int) ∧ (lz x : Int) ≤ 31 := by omega
      have htz : 0 ≤ (tz x : Int) ∧ (tz x : Int) ≤ 63 := by omega
      have hn63 : 0 ≤ ((64 - lz x - tz x : Nat) : Int) ∧ ((64 - lz x - tz x : Nat) : Int) ≤ 64 := by omega
      have m1 : numB 1 1 = [1] := by decide
      simp only [numB_len] at j5
      rw [m1]
      have u1 := numB_len (lz x : Nat) 5
      have u2 := numB_len (((64 - lz x - tz x) % 64 : Nat) : Int) 6
      have u3 := numB_len ((x : Int) / 2 ^ tz x) (64 - lz x - tz x)
      generalize numB (lz x : Nat) 5 = q1 at *
      generalize numB (((64 - lz x - tz x) % 64 : Nat) : Int) 6 = q2 at *
      generalize numB ((x : Int) / 2 ^ tz x) (64 - lz x - tz x) = q3 at *
      obtain ⟨fb, fl, ft⟩ := f
      simp only at hcond ⊢
      rw [call_start lore_ext42 Tryd.func42 rfl lore_okf42 (Nat.le_of_ble_eq_true rfl)]
      rcases hcond with rfl | ⟨rfl, hc2⟩ | ⟨rfl, hc2, hc3⟩
      · repeat' (first | (refine cond_by (F := ans) (fun _ => ?_) (fun _ => ?_)) | (refine wayK_by (F := ans) (fun _ hb_ => ?_) (fun _ hb_ => ?_) <;> simp only [hb_]) | (refine wayK_byN (F := ans) (fun _ hb_ => ?_) (fun _ hb_ => ?_) <;> simp only [hb_]) | (refine wayD_by (F := ans) (fun _ hb_ => ?_) (fun _ hb_ => ?_) <;> simp only [hb_]) | (refine wayD_byN (F := ans) (fun _ hb_ => ?_) (fun _ hb_ => ?_) <;> simp only [hb_]) | (refine rdK_by (F := ans) (fun _ => ?_) (fun _ => ?_)) | (refine effK_by (F := ans) (fun _ => ?_) (fun _ => ?_)) | (refine effK_by2 (F := ans) (fun _ => ?_) (fun _ => ?_)) | (refine rdD_by (F := ans) (fun _ => ?_) (fun _ => ?_)) | (refine effD_by (F := ans) (fun _ => ?_) (fun _ => ?_)) | (refine effD_by2 (F := ans) (fun _ => ?_) (fun _ => ?_)) | simp -implicitDefEqProofs (disch := first | omega | (simp only [List.length_append, List.length_cons, List.length_nil, List.length_drop, List.length_take]; omega)) only [evs, tys, lors, Nat.reduceAdd, Nat.reduceSub, Nat.reduceMul, Nat.reducePow, Nat.reduceBEq, Nat.reduceLT, Nat.reduceLeDiff, Nat.reduceEqDiff, Int.reduceLT, Int.reduceLE, Int.reduceEq, Int.reduceNe, Int.reduceToNat, Int.reduceAdd, Int.reduceSub, Int.reduceMul, Int.reducePow, Int.reduceDiv, Int.reduceMod, Int.reduceNeg, reduceCtorEq, codeKey, List.contains, List.elem, Ev.load, peek, pack, storeV, fieldAddr, field, cvB, r1, r2, hx, hx0, hn0, hn6, hn7, p3, p4, p5, j5, bits1, decide_true, decide_false])
        exact give_row2 (q := 1 :: 1 :: (q1 ++ q2 ++ q3)) rfl (by simp only [List.length_cons, List.length_append]; omega) (fun _ => rfl)
      · repeat' (first | (refine cond_by (F := ans) (fun _ => ?_) (fun _ => ?_)) | (refine wayK_by (F := ans) (fun _ hb_ => ?_) (fun _ hb_ => ?_) <;> simp only [hb_]) | (refine wayK_byN (F := ans) (fun _ hb_ => ?_) (fun _ hb_ => ?_) <;> simp only [hb_]) | (refine wayD_by (F := ans) (fun _ hb_ => ?_) (fun _ hb_ => ?_) <;> simp only [hb_]) | (refine wayD_byN (F := ans) (fun _ hb_ => ?_) (fun _ hb_ => ?_) <;> simp only [hb_]) | (refine rdK_by (F := ans) (fun _ => ?_) (fun _ => ?_)) | (refine effK_by (F := ans) (fun _ => ?_) (fun _ => ?_)) | (refine effK_by2 (F := ans) (fun _ => ?_) (fun _ => ?_)) | (refine rdD_by (F := ans) (fun _ => ?_) (fun _ => ?_)) | (refine effD_by (F := ans) (fun _ => ?_) (fun _ => ?_)) | (refine effD_by2 (F := ans) (fun _ => ?_) (fun _ => ?_)) | simp -implicitDefEqProofs (disch := first | omega | (simp only [List.length_append, List.length_cons, List.length_nil, List.length_drop, List.length_take]; omega)) only [evs, tys, lors, Nat.reduceAdd, Nat.reduceSub, Nat.reduceMul, Nat.reducePow, Nat.reduceBEq, Nat.reduceLT, Nat.reduceLeDiff, Nat.reduceEqDiff, Int.reduceLT, Int.reduceLE, Int.reduceEq, Int.reduceNe, Int.reduceToNat, Int.reduceAdd, Int.reduceSub, Int.reduceMul, Int.reducePow, Int.reduceDiv, Int.reduceMod, Int.reduceNeg, reduceCtorEq, codeKey, List.contains, List.elem, Ev.load, peek, pack, storeV, fieldAddr, field, cvB, r1, r2, hx, hx0, hn0, hn6, hn7, hc2, p3, p4, p5, j5, bits1, decide_true, decide_false])
        exact give_row2 (q := 1 :: 1 :: (q1 ++ q2 ++ q3)) rfl (by simp only [List.length_cons, List.length_append]; omega) (fun _ => rfl)
      · repeat' (first | (refine cond_by (F := ans) (fun _ => ?_) (fun _ => ?_)) | (refine wayK_by (F := ans) (fun _ hb_ => ?_) (fun _ hb_ => ?_) <;> simp only [hb_]) | (refine wayK_byN (F := ans) (fun _ hb_ => ?_) (fun _ hb_ => ?_) <;> simp only [hb_]) | (refine wayD_by (F := ans) (fun _ hb_ => ?_) (fun _ hb_ => ?_) <;> simp only [hb_]) | (refine wayD_byN (F := ans) (fun _ hb_ => ?_) (fun _ hb_ => ?_) <;> simp only [hb_]) | (refine rdK_by (F := ans) (fun _ => ?_) (fun _ => ?_)) | (refine effK_by (F := ans) (fun _ => ?_) (fun _ => ?_)) | (refine effK_by2 (F := ans) (fun _ => ?_) (fun _ => ?_)) | (refine rdD_by (F := ans) (fun _ => ?_) (fun _ => ?_)) | (refine effD_by (F := ans) (fun _ => ?_) (fun _ => ?_)) | (refine effD_by2 (F := ans) (fun _ => ?_) (fun _ => ?_)) | simp -implicitDefEqProofs (disch := first | omega | (simp only [List.length_append, List.length_cons, List.length_nil, List.length_drop, List.length_take]; omega)) only [evs, tys, lors, Nat.reduceAdd, Nat.reduceSub, Nat.reduceMul, Nat.reducePow, Nat.reduceBEq, Nat.reduceLT, Nat.reduceLeDiff, Nat.reduceEqDiff, Int.reduceLT, Int.reduceLE, Int.reduceEq, Int.reduceNe, Int.reduceToNat, Int.reduceAdd, Int.reduceSub, Int.reduceMul, Int.reducePow, Int.reduceDiv, Int.reduceMod, Int.reduceNeg, reduceCtorEq, codeKey, List.contains, List.elem, Ev.load, peek, pack, storeV, fieldAddr, field, cvB, r1, r2, hx, hx0, hn0, hn6, hn7, hc2, hc3, p3, p4, p5, j5, bits1, decide_true, decide_false])
        exact give_row2 (q := 1 :: 1 :: (q1 ++ q2 ++ q3)) rfl (by simp only [List.length_cons, List.length_append]; omega) (fun _ => rfl)
end Go.Proofs.YtmjdcoacmmmhnaaDoor
