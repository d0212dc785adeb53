/-
ParseRate of the document.
-/
import Derived.Test.YtgoillhmgpokoaaDoorG7
namespace Go.Proofs.YtgoillhmgpokoaaDoor
open Go Ev
set_option linter.all false
set_option maxHeartbeats 4000000
set_option maxRecDepth 5000
attribute [local irreducible] codeL condL loopL callL callV evOps evDraw rdK effK wayK oneK wayD oneD rdD effD chks chkB res

theorem eqV29 (x y x' y' : Int) : eqV Tryd.prog 29 (.agg [.int .i64 x, .int .i64 y]) (.agg [.int .i64 x', .int .i64 y']) = some (decide (x = x' ∧ y = y')) := by
  have h1 : Tryd.prog.stoodInHeld 29 = false ∧ Tryd.prog.eqGuardType Tryd.prog.depth 29 = false := ⟨by kernel_rfl, by kernel_rfl⟩
  simp only [eqV, Tryd.underlying29]
  rw [if_pos h1]
  simp [eqFlat, eqCell, Tryd.underlying2]
  by_cases ha : x = x' <;> by_cases hb : y = y' <;> simp [ha, hb]
theorem eqR_eql (x y x' y' : Int) : eqOp Tryd.prog .eql 29 (.agg [.int .i64 x, .int .i64 y]) (.agg [.int .i64 x', .int .i64 y']) = some (.bool (decide (x = x' ∧ y = y'))) := by
  simp only [eqOp, eqV29]; rfl
theorem eqR_neq (x y x' y' : Int) : eqOp Tryd.prog .neq 29 (.agg [.int .i64 x, .int .i64 y]) (.agg [.int .i64 x', .int .i64 y']) = some (.bool (decide (¬ (x = x' ∧ y = y')))) := by
  simp only [eqOp, eqV29, Option.map, not_dec]
theorem valO_lead {s : List UInt8} (h : leadZ s) : (valO 1099511627776 0 (s.take 1)).getD (1099511627776 + 1) = 0 := by
  match s, h with
  | c :: r, h =>
    unfold leadZ at h
    simp only [List.getD_cons_zero, List.take_succ_cons, List.take_zero] at h ⊢
    simp [valO, h]
theorem parseRated_cv (s : List UInt8) (hs : s.length < 4611686018427387904) (H : Heap) : callV (CL lore) 31 [.str (bs s)] H = some (parseRV s, H) := by
  refine callV_ans (r := some _) ?_ (lore_shared 31) rfl H
  rw [call_start lore_ext31 Tryd.func31 rfl lore_okf31 (Nat.le_of_ble_eq_true rfl)]
  have hdl := digitsL_le s
  have hdig := take_digitsL s
  have hnum : ∀ H, callV (CL lore) 41 [.str (bs s), .int .i64 0, .int .i64 1099511627776] H = some (numberV 1099511627776 0 s, H) := fun H => by
    have := number_cv s 0 (by omega) hs 1099511627776 (by decide) (by decide) H
    simpa using this
  have hv := valO_range _ hdig 1099511627776 (by decide)
  have hpl := parseF_pl (s.drop (digitsL s + 1))
  rw [List.length_drop] at hpl
  have hp := fun (H : Heap) (h : digitsL s < s.length) => parseSpand_cv (s.drop (digitsL s + 1)) (by rw [List.length_drop]; omega) H
  simp only [parseV] at hp
  unfold parseRV
  by_cases hz : digL s = 0
  · have hnv : numberV 1099511627776 0 s = .tup [.int .i64 0, .int .i64 0, .int .i64 0] := by unfold numberV; rw [if_pos hz]; rfl
    rw [hnv] at hnum
    repeat' (first | (refine cond_by (F := ans) (fun _ => ?_) (fun _ => ?_)) | (refine wayK_by (F := ans) (fun _ hb => ?_) (fun _ hb => ?_) <;> simp only [hb]) | (refine wayK_byN (F := ans) (fun _ hb => ?_) (fun _ hb => ?_) <;> simp only [hb]) | (refine wayD_by (F := ans) (fun _ hb => ?_) (fun _ hb => ?_) <;> simp only [hb]) | (refine wayD_byN (F := ans) (fun _ hb => ?_) (fun _ hb => ?_) <;> simp only [hb]) | (refine rdK_by (F := ans) (fun _ => ?_) (fun _ => ?_)) | (refine effK_by (F := ans) (fun _ => ?_) (fun _ => ?_)) | (refine effK_by2 (F := ans) (fun _ => ?_) (fun _ => ?_)) | (refine rdD_by (F := ans) (fun _ => ?_) (fun _ => ?_)) | (refine effD_by (F := ans) (fun _ => ?_) (fun _ => ?_)) | (refine effD_by2 (F := ans) (fun _ => ?_) (fun _ => ?_)) | simp -implicitDefEqProofs (disch := first | omega | (simp only [List.length_append, List.length_cons, List.length_nil, List.length_drop, List.length_take]; omega)) only [evs, tys, lors, Nat.reduceAdd, Nat.reduceSub, Nat.reduceMul, Nat.reducePow, Nat.reduceBEq, Nat.reduceLT, Nat.reduceLeDiff, Nat.reduceEqDiff, Int.reduceLT, Int.reduceLE, Int.reduceEq, Int.reduceNe, Int.reduceToNat, Int.reduceAdd, Int.reduceSub, Int.reduceMul, Int.reducePow, Int.reduceDiv, Int.reduceMod, Int.reduceNeg, reduceCtorEq, codeKey, List.contains, List.elem, Ev.load, peek, pack, storeV, fieldAddr, field, cvB, hnum])
    rw [if_pos (digL_zero.2 hz)]
  have hz' : ¬ digitsL s = 0 := fun h => hz (digL_zero.1 h)
  by_cases hl : leadZ s
  · have hd1 := digitsL_lead hl
    have hnv : numberV 1099511627776 0 s = .tup [.int .i64 0, .int .i64 (digitsL s : Nat), .int .i64 (digitsL s : Nat)] := by unfold numberV; rw [if_neg hz, if_pos hl, hd1]
    have hval := valO_lead hl
    rw [← hd1] at hval
    rw [hnv] at hnum
    rw [hval] at hv ⊢
    have hnx : ¬ (digitsL s < s.length ∧ (s.getD (digitsL s) 0).toNat = 47) := by
      obtain ⟨b, r, hb, hbd⟩ := lead_next hl
      rintro ⟨hlt, h47⟩
      rw [hd1] at hlt h47
      rw [drop_getD hlt] at hb
      have := (List.cons.inj hb).1
      rw [← this] at hbd
      unfold isDig at hbd
      omega
    repeat' (first | (refine cond_by (F := ans) (fun _ => ?_) (fun _ => ?_)) | (refine wayK_by (F := ans) (fun _ hb => ?_) (fun _ hb => ?_) <;> simp only [hb]) | (refine wayK_byN (F := ans) (fun _ hb => ?_) (fun _ hb => ?_) <;> simp only [hb]) | (refine wayD_by (F := ans) (fun _ hb => ?_) (fun _ hb => ?_) <;> simp only [hb]) | (refine wayD_byN (F := ans) (fun _ hb => ?_) (fun _ hb => ?_) <;> simp only [hb]) | (refine rdK_by (F := ans) (fun _ => ?_) (fun _ => ?_)) | (refine effK_by (F := ans) (fun _ => ?_) (fun _ => ?_)) | (refine effK_by2 (F := ans) (fun _ => ?_) (fun _ => ?_)) | (refine rdD_by (F := ans) (fun _ => ?_) (fun _ => ?_)) | (refine effD_by (F := ans) (fun _ => ?_) (fun _ => ?_)) | (refine effD_by2 (F := ans) (fun _ => ?_) (fun _ => ?_)) | simp -implicitDefEqProofs (disch := first | omega | (simp only [List.length_append, List.length_cons, List.length_nil, List.length_drop, List.length_take]; omega)) only [evs, tys, lors, Nat.reduceAdd, Nat.reduceSub, Nat.reduceMul, Nat.reducePow, Nat.reduceBEq, Nat.reduceLT, Nat.reduceLeDiff, Nat.reduceEqDiff, Int.reduceLT, Int.reduceLE, Int.reduceEq, Int.reduceNe, Int.reduceToNat, Int.reduceAdd, Int.reduceSub, Int.reduceMul, Int.reducePow, Int.reduceDiv, Int.reduceMod, Int.reduceNeg, reduceCtorEq, codeKey, List.contains, List.elem, Ev.load, peek, pack, storeV, fieldAddr, field, cvB, hnum])
    any_goals (exfalso; omega)
    all_goals repeat (first | rw [if_pos hnx] | rw [if_pos (by omega)] | rw [if_neg (by omega)])
  · have hd1 := digitsL_nolead hl
    have hnv : numberV 1099511627776 0 s = .tup [.int .i64 ((valO 1099511627776 0 (s.take (digitsL s))).getD (1099511627776 + 1)), .int .i64 (digitsL s : Nat), .int .i64 (-1)] := by unfold numberV; rw [if_neg hz, if_neg hl, hd1, Nat.zero_add]
    rw [hnv] at hnum
    generalize (valO 1099511627776 0 (s.take (digitsL s))).getD (1099511627776 + 1) = x at *
    repeat' (first | (refine cond_by (F := ans) (fun _ => ?_) (fun _ => ?_)) | (refine wayK_by (F := ans) (fun _ hb => ?_) (fun _ hb => ?_) <;> simp only [hb]) | (refine wayK_byN (F := ans) (fun _ hb => ?_) (fun _ hb => ?_) <;> simp only [hb]) | (refine wayD_by (F := ans) (fun _ hb => ?_) (fun _ hb => ?_) <;> simp only [hb]) | (refine wayD_byN (F := ans) (fun _ hb => ?_) (fun _ hb => ?_) <;> simp only [hb]) | (refine rdK_by (F := ans) (fun _ => ?_) (fun _ => ?_)) | (refine effK_by (F := ans) (fun _ => ?_) (fun _ => ?_)) | (refine effK_by2 (F := ans) (fun _ => ?_) (fun _ => ?_)) | (refine rdD_by (F := ans) (fun _ => ?_) (fun _ => ?_)) | (refine effD_by (F := ans) (fun _ => ?_) (fun _ => ?_)) | (refine effD_by2 (F := ans) (fun _ => ?_) (fun _ => ?_)) | simp -implicitDefEqProofs (disch := first | omega | (simp only [List.length_append, List.length_cons, List.length_nil, List.length_drop, List.length_take]; omega)) only [evs, tys, lors, Nat.reduceAdd, Nat.reduceSub, Nat.reduceMul, Nat.reducePow, Nat.reduceBEq, Nat.reduceLT, Nat.reduceLeDiff, Nat.reduceEqDiff, Int.reduceLT, Int.reduceLE, Int.reduceEq, Int.reduceNe, Int.reduceToNat, Int.reduceAdd, Int.reduceSub, Int.reduceMul, Int.reducePow, Int.reduceDiv, Int.reduceMod, Int.reduceNeg, reduceCtorEq, codeKey, List.contains, List.elem, Ev.load, peek, pack, storeV, fieldAddr, field, cvB, hnum, cast_addN, cast_succ, hp, List.take_length])
    all_goals repeat (first | rw [if_pos (by omega)] | rw [if_neg (by omega)])
    all_goals trace_state
end Go.Proofs.YtgoillhmgpokoaaDoor
