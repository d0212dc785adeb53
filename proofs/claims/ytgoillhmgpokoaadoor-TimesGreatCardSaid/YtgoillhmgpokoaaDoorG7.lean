/-
Rates as texts.
-/
import Derived.Test.YtgoillhmgpokoaaDoorG6
namespace Go.Proofs.YtgoillhmgpokoaaDoor
open Go Ev
set_option linter.all false
set_option maxHeartbeats 4000000
set_option maxRecDepth 5000
attribute [local irreducible] codeL condL loopL callL callV evOps evDraw rdK effK wayK oneK wayD oneD rdD effD chks chkB res

theorem printL_len : ∀ (l : List Nat) (d : Int) (acc : List UInt8), (∀ i ∈ l, i < 6) → 0 ≤ d → d ≤ 2305843009213693952 → (printL l d acc).length ≤ acc.length + 23 * l.length
  | [], d, acc, _, _, _ => by simp [printL]
  | i :: r, d, acc, hl, h0, h1 => by
    have hns := nsOf_pos (hl i (by simp))
    have hq0 := Int.ediv_nonneg h0 (show 0 ≤ nsOf i by omega)
    have hq1 := Int.ediv_le_self (nsOf i) h0
    have hil := itoa_len hq0 (by omega)
    have hnl := nameOf_len i
    have hm0 := Int.emod_nonneg d (show nsOf i ≠ 0 by omega)
    have hm1 := emod_le h0 (nsOf i)
    simp only [printL]
    split
    · have := printL_len r (d % nsOf i) (acc ++ (Lib.itoa (d / nsOf i) ++ nameOf i)) (fun k hk => hl k (by simp [hk])) hm0 (by omega)
      simp only [List.length_append, List.length_cons] at this ⊢
      omega
    · have := printL_len r d acc (fun k hk => hl k (by simp [hk])) h0 h1
      simp only [List.length_cons]
      omega
theorem spanL_len {d : Int} (h0 : 0 ≤ d) (h1 : d ≤ 2305843009213693952) : (spanL d).length ≤ 200 := by
  unfold spanL
  split
  · simp
  · have := printL_len (List.range' 0 6) d [] (fun i hi => by have := List.mem_range'_1.1 hi; omega) h0 h1
    simp at this
    unfold printF
    omega
def rateL (n p : Int) : List UInt8 := Lib.itoa n ++ [47] ++ spanL p
theorem printRate_cv (n p : Int) (H : Heap) : callV (CL lore) 24 [.agg [.int .i64 n, .int .i64 p]] H = if RightR n p then some (.tup [.str (bs (rateL n p)), .int .i64 0], H) else some (.tup [.str (bs []), .int .i64 21], H) := by
  rw [callV_ans (r := if RightR n p then some (.tup [.str (bs (rateL n p)), .int .i64 0]) else some (.tup [.str (bs []), .int .i64 21])) ?_ (lore_shared 24) rfl H]
  · split <;> rfl
  rw [call_start lore_ext24 Tryd.func24 rfl lore_okf24 (Nat.le_of_ble_eq_true rfl)]
  by_cases hr : RightR n p
  · rw [if_pos hr]
    have h1 := spanL_len (d := p) (by omega) (by omega)
    have h2 := itoa_len (n := n) (by omega) (by omega)
    repeat' (first | (refine cond_by (F := ans) (fun _ => ?_) (fun _ => ?_)) | (refine wayK_by (F := ans) (fun _ hb => ?_) (fun _ hb => ?_) <;> simp only [hb]) | (refine wayK_byN (F := ans) (fun _ hb => ?_) (fun _ hb => ?_) <;> simp only [hb]) | (refine wayD_by (F := ans) (fun _ hb => ?_) (fun _ hb => ?_) <;> simp only [hb]) | (refine wayD_byN (F := ans) (fun _ hb => ?_) (fun _ hb => ?_) <;> simp only [hb]) | (refine rdK_by (F := ans) (fun _ => ?_) (fun _ => ?_)) | (refine effK_by (F := ans) (fun _ => ?_) (fun _ => ?_)) | (refine effK_by2 (F := ans) (fun _ => ?_) (fun _ => ?_)) | (refine rdD_by (F := ans) (fun _ => ?_) (fun _ => ?_)) | (refine effD_by (F := ans) (fun _ => ?_) (fun _ => ?_)) | (refine effD_by2 (F := ans) (fun _ => ?_) (fun _ => ?_)) | simp -implicitDefEqProofs (disch := first | omega | (simp only [List.length_append, List.length_cons, List.length_nil, List.length_drop, List.length_take]; omega)) only [evs, tys, lors, Nat.reduceAdd, Nat.reduceSub, Nat.reduceMul, Nat.reducePow, Nat.reduceBEq, Nat.reduceLT, Nat.reduceLeDiff, Nat.reduceEqDiff, Int.reduceLT, Int.reduceLE, Int.reduceEq, Int.reduceNe, Int.reduceToNat, Int.reduceAdd, Int.reduceSub, Int.reduceMul, Int.reducePow, Int.reduceDiv, Int.reduceMod, Int.reduceNeg, reduceCtorEq, codeKey, List.contains, List.elem, Ev.load, peek, pack, storeV, fieldAddr, field, cvB, right_cv, itoa_cv, printSpan_cv])
    all_goals first
      | (exfalso; omega)
      | rfl
  · rw [if_neg hr]
    repeat' (first | (refine cond_by (F := ans) (fun _ => ?_) (fun _ => ?_)) | (refine wayK_by (F := ans) (fun _ hb => ?_) (fun _ hb => ?_) <;> simp only [hb]) | (refine wayK_byN (F := ans) (fun _ hb => ?_) (fun _ hb => ?_) <;> simp only [hb]) | (refine wayD_by (F := ans) (fun _ hb => ?_) (fun _ hb => ?_) <;> simp only [hb]) | (refine wayD_byN (F := ans) (fun _ hb => ?_) (fun _ hb => ?_) <;> simp only [hb]) | (refine rdK_by (F := ans) (fun _ => ?_) (fun _ => ?_)) | (refine effK_by (F := ans) (fun _ => ?_) (fun _ => ?_)) | (refine effK_by2 (F := ans) (fun _ => ?_) (fun _ => ?_)) | (refine rdD_by (F := ans) (fun _ => ?_) (fun _ => ?_)) | (refine effD_by (F := ans) (fun _ => ?_) (fun _ => ?_)) | (refine effD_by2 (F := ans) (fun _ => ?_) (fun _ => ?_)) | simp -implicitDefEqProofs (disch := first | omega | (simp only [List.length_append, List.length_cons, List.length_nil, List.length_drop, List.length_take]; omega)) only [evs, tys, lors, Nat.reduceAdd, Nat.reduceSub, Nat.reduceMul, Nat.reducePow, Nat.reduceBEq, Nat.reduceLT, Nat.reduceLeDiff, Nat.reduceEqDiff, Int.reduceLT, Int.reduceLE, Int.reduceEq, Int.reduceNe, Int.reduceToNat, Int.reduceAdd, Int.reduceSub, Int.reduceMul, Int.reducePow, Int.reduceDiv, Int.reduceMod, Int.reduceNeg, reduceCtorEq, codeKey, List.contains, List.elem, Ev.load, peek, pack, storeV, fieldAddr, field, cvB, right_cv])
    exfalso; omega
theorem printRated_cv (n p : Int) (H : Heap) : callV (CL lore) 30 [.agg [.int .i64 n, .int .i64 p]] H = if RightR n p then some (.tup [.str (bs (rateL n p)), .int .i64 0], H) else some (.tup [.str (bs []), .int .i64 21], H) := by
  rw [callV_ans (r := if RightR n p then some (.tup [.str (bs (rateL n p)), .int .i64 0]) else some (.tup [.str (bs []), .int .i64 21])) ?_ (lore_shared 30) rfl H]
  · split <;> rfl
  rw [call_start lore_ext30 Tryd.func30 rfl lore_okf30 (Nat.le_of_ble_eq_true rfl)]
  by_cases hr : RightR n p
  · rw [if_pos hr]
    have h1 := spanL_len (d := p) (by omega) (by omega)
    have h2 := itoa_len (n := n) (by omega) (by omega)
    have hdc := fun H => digitsd_cv n.toNat (by omega) n (by omega) H
    rw [show ((n.toNat : Nat) : Int) = n by omega] at hdc
    repeat' (first | (refine cond_by (F := ans) (fun _ => ?_) (fun _ => ?_)) | (refine wayK_by (F := ans) (fun _ hb => ?_) (fun _ hb => ?_) <;> simp only [hb]) | (refine wayK_byN (F := ans) (fun _ hb => ?_) (fun _ hb => ?_) <;> simp only [hb]) | (refine wayD_by (F := ans) (fun _ hb => ?_) (fun _ hb => ?_) <;> simp only [hb]) | (refine wayD_byN (F := ans) (fun _ hb => ?_) (fun _ hb => ?_) <;> simp only [hb]) | (refine rdK_by (F := ans) (fun _ => ?_) (fun _ => ?_)) | (refine effK_by (F := ans) (fun _ => ?_) (fun _ => ?_)) | (refine effK_by2 (F := ans) (fun _ => ?_) (fun _ => ?_)) | (refine rdD_by (F := ans) (fun _ => ?_) (fun _ => ?_)) | (refine effD_by (F := ans) (fun _ => ?_) (fun _ => ?_)) | (refine effD_by2 (F := ans) (fun _ => ?_) (fun _ => ?_)) | simp -implicitDefEqProofs (disch := first | omega | (simp only [List.length_append, List.length_cons, List.length_nil, List.length_drop, List.length_take]; omega)) only [evs, tys, lors, Nat.reduceAdd, Nat.reduceSub, Nat.reduceMul, Nat.reducePow, Nat.reduceBEq, Nat.reduceLT, Nat.reduceLeDiff, Nat.reduceEqDiff, Int.reduceLT, Int.reduceLE, Int.reduceEq, Int.reduceNe, Int.reduceToNat, Int.reduceAdd, Int.reduceSub, Int.reduceMul, Int.reducePow, Int.reduceDiv, Int.reduceMod, Int.reduceNeg, reduceCtorEq, codeKey, List.contains, List.elem, Ev.load, peek, pack, storeV, fieldAddr, field, cvB, rightd_cv, hdc, printSpand_cv])
    all_goals first
      | (exfalso; omega)
      | rfl
  · rw [if_neg hr]
    repeat' (first | (refine cond_by (F := ans) (fun _ => ?_) (fun _ => ?_)) | (refine wayK_by (F := ans) (fun _ hb => ?_) (fun _ hb => ?_) <;> simp only [hb]) | (refine wayK_byN (F := ans) (fun _ hb => ?_) (fun _ hb => ?_) <;> simp only [hb]) | (refine wayD_by (F := ans) (fun _ hb => ?_) (fun _ hb => ?_) <;> simp only [hb]) | (refine wayD_byN (F := ans) (fun _ hb => ?_) (fun _ hb => ?_) <;> simp only [hb]) | (refine rdK_by (F := ans) (fun _ => ?_) (fun _ => ?_)) | (refine effK_by (F := ans) (fun _ => ?_) (fun _ => ?_)) | (refine effK_by2 (F := ans) (fun _ => ?_) (fun _ => ?_)) | (refine rdD_by (F := ans) (fun _ => ?_) (fun _ => ?_)) | (refine effD_by (F := ans) (fun _ => ?_) (fun _ => ?_)) | (refine effD_by2 (F := ans) (fun _ => ?_) (fun _ => ?_)) | simp -implicitDefEqProofs (disch := first | omega | (simp only [List.length_append, List.length_cons, List.length_nil, List.length_drop, List.length_take]; omega)) only [evs, tys, lors, Nat.reduceAdd, Nat.reduceSub, Nat.reduceMul, Nat.reducePow, Nat.reduceBEq, Nat.reduceLT, Nat.reduceLeDiff, Nat.reduceEqDiff, Int.reduceLT, Int.reduceLE, Int.reduceEq, Int.reduceNe, Int.reduceToNat, Int.reduceAdd, Int.reduceSub, Int.reduceMul, Int.reducePow, Int.reduceDiv, Int.reduceMod, Int.reduceNeg, reduceCtorEq, codeKey, List.contains, List.elem, Ev.load, peek, pack, storeV, fieldAddr, field, cvB, rightd_cv])
    exfalso; omega

theorem namedL_le (s : List UInt8) (frm : Nat) : ∀ (l : List Nat) (a : Option Nat) (b : Nat), b ≤ s.length → (namedL s frm l a b).2 ≤ s.length
  | [], a, b, h => h
  | i :: r, a, b, h => by
    simp only [namedL]
    split
    · exact namedL_le s frm r a b h
    · have := cpl_le_right (nameOf i) s
      exact namedL_le s frm r _ _ (by omega)
theorem parseL_pl : ∀ (k : Nat) (t : List UInt8) (frm : Nat) (sum : Int) (pos : Nat), (parseL k t frm sum pos).2.2 ≤ pos + t.length
  | 0, t, frm, sum, pos => by simp [parseL]
  | k + 1, t, frm, sum, pos => by
    have hd := digitsL_le t
    simp only [parseL]
    split
    · simp
    · split
      · have := namedL_le (t.drop (digitsL t)) frm (List.range' 0 6) none 0 (by omega)
        rw [List.length_drop] at this
        simp only [namedF]
        omega
      · rename_i j hj
        split
        · simp
        · split
          · simp
          · have hp := unitF_pfx hj
            rw [List.length_drop] at hp
            have := parseL_pl k (t.drop (digitsL t + (nameOf j).length)) (j + 1) (sum + (valO 2305843009213693952 0 (t.take (digitsL t))).getD (2305843009213693952 + 1) * nsOf j) (pos + digitsL t + (nameOf j).length)
            rw [List.length_drop] at this
            omega
theorem parseF_pl (s : List UInt8) : (parseF s).2.2 ≤ s.length := by
  have := parseL_pl 7 s 0 0 0
  simpa [parseF] using this
theorem parseL_sum : ∀ (k : Nat) (t : List UInt8) (frm : Nat) (sum : Int) (pos : Nat) (n : Int), 0 ≤ sum → sum ≤ 2305843009213693952 → parseL k t frm sum pos = (n, 0, 0) → 0 ≤ n ∧ n ≤ 2305843009213693952
  | 0, t, frm, sum, pos, n, _, _, h => by simp [parseL] at h
  | k + 1, t, frm, sum, pos, n, h0, h1, h => by
    simp only [parseL] at h
    split at h
    · simp at h
    · split at h
      · simp at h
      · rename_i j hj
        have hv := valO_range _ (take_digitsL t) 2305843009213693952 (by decide)
        have hns := nsOf_pos (unitF_lt hj)
        split at h
        · simp at h
        · rename_i hx
          have hm := mul_room hv.1 hns.1 h1 hx
          split at h
          · simp only [Prod.mk.injEq, and_true] at h
            omega
          · exact parseL_sum k _ _ _ _ n (by omega) (by omega) h

/-- What a rate's text says. -/
def parseRV (s : List UInt8) : V :=
  if digitsL s = 0 then .tup [.agg [.int .i64 0, .int .i64 0], .int .i64 20, .int .i64 0]
  else if 1099511627776 < (valO 1099511627776 0 (s.take (digitsL s))).getD (1099511627776 + 1) then .tup [.agg [.int .i64 0, .int .i64 0], .int .i64 2, .int .i64 0]
  else if ¬ (digitsL s < s.length ∧ (s.getD (digitsL s) 0).toNat = 47) then .tup [.agg [.int .i64 0, .int .i64 0], .int .i64 20, .int .i64 (digitsL s : Nat)]
  else if ¬ (parseF (s.drop (digitsL s + 1))).2.1 = 0 then .tup [.agg [.int .i64 0, .int .i64 0], .int .i64 (parseF (s.drop (digitsL s + 1))).2.1, .int .i64 ((digitsL s + 1 + (parseF (s.drop (digitsL s + 1))).2.2 : Nat) : Int)]
  else if (parseF (s.drop (digitsL s + 1))).1 = 0 then .tup [.agg [.int .i64 0, .int .i64 0], .int .i64 20, .int .i64 (s.length : Nat)]
  else .tup [.agg [.int .i64 ((valO 1099511627776 0 (s.take (digitsL s))).getD (1099511627776 + 1)), .int .i64 (parseF (s.drop (digitsL s + 1))).1], .int .i64 0, .int .i64 0]
theorem parseRate_cv (s : List UInt8) (hs : s.length < 4611686018427387904) (H : Heap) : callV (CL lore) 25 [.str (bs s)] H = some (parseRV s, H) := by
  refine callV_ans (r := some _) ?_ (lore_shared 25) rfl H
  rw [call_start lore_ext25 Tryd.func25 rfl lore_okf25 (Nat.le_of_ble_eq_true rfl)]
  have hdl := digitsL_le s
  have hdig := take_digitsL s
  have hval := fun H => value_cv (s.take (digitsL s)) (by rw [List.length_take]; omega) 1099511627776 (by decide) (by decide) hdig H
  have hv := valO_range _ hdig 1099511627776 (by decide)
  have hpl := parseF_pl (s.drop (digitsL s + 1))
  rw [List.length_drop] at hpl
  unfold parseRV
  generalize (valO 1099511627776 0 (s.take (digitsL s))).getD (1099511627776 + 1) = x at *
  have hp := fun (H : Heap) (h : digitsL s < s.length) => parseSpan_cv (s.drop (digitsL s + 1)) (by rw [List.length_drop]; omega) H
  simp only [parseV] at hp
  repeat' (first | (refine cond_by (F := ans) (fun _ => ?_) (fun _ => ?_)) | (refine wayK_by (F := ans) (fun _ hb => ?_) (fun _ hb => ?_) <;> simp only [hb]) | (refine wayK_byN (F := ans) (fun _ hb => ?_) (fun _ hb => ?_) <;> simp only [hb]) | (refine wayD_by (F := ans) (fun _ hb => ?_) (fun _ hb => ?_) <;> simp only [hb]) | (refine wayD_byN (F := ans) (fun _ hb => ?_) (fun _ hb => ?_) <;> simp only [hb]) | (refine rdK_by (F := ans) (fun _ => ?_) (fun _ => ?_)) | (refine effK_by (F := ans) (fun _ => ?_) (fun _ => ?_)) | (refine effK_by2 (F := ans) (fun _ => ?_) (fun _ => ?_)) | (refine rdD_by (F := ans) (fun _ => ?_) (fun _ => ?_)) | (refine effD_by (F := ans) (fun _ => ?_) (fun _ => ?_)) | (refine effD_by2 (F := ans) (fun _ => ?_) (fun _ => ?_)) | simp -implicitDefEqProofs (disch := first | omega | (simp only [List.length_append, List.length_cons, List.length_nil, List.length_drop, List.length_take]; omega)) only [evs, tys, lors, Nat.reduceAdd, Nat.reduceSub, Nat.reduceMul, Nat.reducePow, Nat.reduceBEq, Nat.reduceLT, Nat.reduceLeDiff, Nat.reduceEqDiff, Int.reduceLT, Int.reduceLE, Int.reduceEq, Int.reduceNe, Int.reduceToNat, Int.reduceAdd, Int.reduceSub, Int.reduceMul, Int.reducePow, Int.reduceDiv, Int.reduceMod, Int.reduceNeg, reduceCtorEq, codeKey, List.contains, List.elem, Ev.load, peek, pack, storeV, fieldAddr, field, cvB, digits_cv, hval, cast_addN, cast_succ, List.take_length, List.drop_zero, hp])
  all_goals repeat (first | rw [if_pos (by omega)] | rw [if_neg (by omega)])
  all_goals trace_state
end Go.Proofs.YtgoillhmgpokoaaDoor
