/-
scale: Index and Bounds.
-/
import Derived.Test.YthpfimildcbgmaaDoorLore
import Derived.Test.YthpfimildcbgmaaDoorEvBits
import Derived.Lib.ItoaNum
namespace Go.Proofs.YthpfimildcbgmaaDoor
open Go Ev
set_option linter.all false
set_option maxHeartbeats 4000000
set_option maxRecDepth 5000
attribute [local irreducible] codeL condL loopL callL callV evOps evDraw rdK effK wayK oneK wayD oneD rdD effD chks chkB res

theorem len64_cv (x : Int) (h0 : 0 ≤ x) (h1 : x ≤ 18446744073709551615) (H : Heap) : callV (CL lore) 87 [.int .u64 x] H = some (.int .i64 (Lib.bitLen x.toNat), H) := by
  refine callV_ans (r := some _) ?_ lore_sh87 rfl H
  rw [callL_ext (k := len64X) rfl]
  simp only [len64X]
  rw [if_pos ⟨h0, h1⟩]
  rfl
abbrev RightS (L M D : Int) : Prop := (1 ≤ L ∧ L ≤ 1099511627776) ∧ (2 * L ≤ M ∧ M ≤ 2305843009213693952) ∧ 1 ≤ D ∧ D ≤ 3
theorem bitLen_bounds (n : Nat) (h : 1 ≤ n) (h2 : n < 18446744073709551616) : 1 ≤ Lib.bitLen n ∧ 2 ^ (Lib.bitLen n - 1) ≤ n ∧ n < 2 ^ Lib.bitLen n :=
  Lib.bitLenAux_bounds 64 n h2 (by omega)
theorem pow_lt_of {a b : Nat} (h : 2 ^ a < 2 ^ b) : a < b := (Nat.pow_lt_pow_iff_right (by decide)).1 h
theorem bitLen_le {n b : Nat} (h : 1 ≤ n) (h2 : n < 18446744073709551616) (hb : n < 2 ^ b) : Lib.bitLen n ≤ b := by
  have := bitLen_bounds n h h2
  have h3 : 2 ^ (Lib.bitLen n - 1) < 2 ^ b := by omega
  have := pow_lt_of h3
  omega
def subE (D : Int) : Nat := if D = 1 then 5 else if D = 2 then 8 else 11
theorem shaped_cv (L M D : Int) (H : Heap) : callV (CL lore) 46 [.agg [.int .i64 L, .int .i64 M, .int .i64 D]] H =
    if RightS L M D then some (.tup [.agg [.int .i64 ((Lib.bitLen L.toNat : Int) - 1), .int .i64 (subE D)], .bool true], H) else some (.tup [.agg [.int .i64 0, .int .i64 0], .bool false], H) := by
  rw [callV_ans (r := if RightS L M D then some (.tup [.agg [.int .i64 ((Lib.bitLen L.toNat : Int) - 1), .int .i64 (subE D)], .bool true]) else some (.tup [.agg [.int .i64 0, .int .i64 0], .bool false])) ?_ lore_sh46 rfl H]
  · split <;> rfl
  rw [call_start lore_ext46 Tryd.func46 rfl lore_okf46 (Nat.le_of_ble_eq_true rfl)]
  by_cases hr : RightS L M D
  · rw [if_pos hr]
    have hb := bitLen_bounds L.toNat (by omega) (by omega)
    have hb2 := bitLen_le (n := L.toNat) (b := 41) (by omega) (by omega) (by omega)
    have hD : D = 1 ∨ D = 2 ∨ D = 3 := by omega
    have h19 : ∀ H, callV (CL lore) 87 [.int .u64 19] H = some (.int .i64 5, H) := fun H => len64_cv 19 (by decide) (by decide) H
    have h199 : ∀ H, callV (CL lore) 87 [.int .u64 199] H = some (.int .i64 8, H) := fun H => len64_cv 199 (by decide) (by decide) H
    have h1999 : ∀ H, callV (CL lore) 87 [.int .u64 1999] H = some (.int .i64 11, H) := fun H => len64_cv 1999 (by decide) (by decide) H
    have hl := fun H => len64_cv L (by omega) (by omega) H
    have ha : loopIn Tryd.prog 46 5 = some _ := rfl
    have hk := loop_key ha
    clear ha
    rcases hD with rfl | rfl | rfl
    all_goals repeat' (first | (refine cond_by (F := ans) (fun _ => ?_) (fun _ => ?_)) | (refine wayK_by (F := ans) (fun _ hb_ => ?_) (fun _ hb_ => ?_) <;> simp only [hb_]) | (refine wayK_byN (F := ans) (fun _ hb_ => ?_) (fun _ hb_ => ?_) <;> simp only [hb_]) | (refine wayD_by (F := ans) (fun _ hb_ => ?_) (fun _ hb_ => ?_) <;> simp only [hb_]) | (refine wayD_byN (F := ans) (fun _ hb_ => ?_) (fun _ hb_ => ?_) <;> simp only [hb_]) | (refine rdK_by (F := ans) (fun _ => ?_) (fun _ => ?_)) | (refine effK_by (F := ans) (fun _ => ?_) (fun _ => ?_)) | (refine effK_by2 (F := ans) (fun _ => ?_) (fun _ => ?_)) | (refine rdD_by (F := ans) (fun _ => ?_) (fun _ => ?_)) | (refine effD_by (F := ans) (fun _ => ?_) (fun _ => ?_)) | (refine effD_by2 (F := ans) (fun _ => ?_) (fun _ => ?_)) | simp -implicitDefEqProofs (disch := first | omega | (simp only [List.length_append, List.length_cons, List.length_nil, List.length_drop, List.length_take]; omega)) only [evs, tys, lors, Nat.reduceAdd, Nat.reduceSub, Nat.reduceMul, Nat.reducePow, Nat.reduceBEq, Nat.reduceLT, Nat.reduceLeDiff, Nat.reduceEqDiff, Int.reduceLT, Int.reduceLE, Int.reduceEq, Int.reduceNe, Int.reduceToNat, Int.reduceAdd, Int.reduceSub, Int.reduceMul, Int.reducePow, Int.reduceDiv, Int.reduceMod, Int.reduceNeg, reduceCtorEq, codeKey, List.contains, List.elem, Ev.load, peek, pack, storeV, fieldAddr, field, cvB])
    all_goals first
      | (exfalso; omega; done)
      | skip
    all_goals (rw [loopL_step' rfl]; repeat' (first | (refine cond_by (F := ans) (fun _ => ?_) (fun _ => ?_)) | (refine wayK_by (F := ans) (fun _ hb_ => ?_) (fun _ hb_ => ?_) <;> simp only [hb_]) | (refine wayK_byN (F := ans) (fun _ hb_ => ?_) (fun _ hb_ => ?_) <;> simp only [hb_]) | (refine wayD_by (F := ans) (fun _ hb_ => ?_) (fun _ hb_ => ?_) <;> simp only [hb_]) | (refine wayD_byN (F := ans) (fun _ hb_ => ?_) (fun _ hb_ => ?_) <;> simp only [hb_]) | (refine rdK_by (F := ans) (fun _ => ?_) (fun _ => ?_)) | (refine effK_by (F := ans) (fun _ => ?_) (fun _ => ?_)) | (refine effK_by2 (F := ans) (fun _ => ?_) (fun _ => ?_)) | (refine rdD_by (F := ans) (fun _ => ?_) (fun _ => ?_)) | (refine effD_by (F := ans) (fun _ => ?_) (fun _ => ?_)) | (refine effD_by2 (F := ans) (fun _ => ?_) (fun _ => ?_)) | simp -implicitDefEqProofs (disch := first | omega | (simp only [List.length_append, List.length_cons, List.length_nil, List.length_drop, List.length_take]; omega)) only [evs, tys, lors, Nat.reduceAdd, Nat.reduceSub, Nat.reduceMul, Nat.reducePow, Nat.reduceBEq, Nat.reduceLT, Nat.reduceLeDiff, Nat.reduceEqDiff, Int.reduceLT, Int.reduceLE, Int.reduceEq, Int.reduceNe, Int.reduceToNat, Int.reduceAdd, Int.reduceSub, Int.reduceMul, Int.reducePow, Int.reduceDiv, Int.reduceMod, Int.reduceNeg, reduceCtorEq, codeKey, List.contains, List.elem, Ev.load, peek, pack, storeV, fieldAddr, field, cvB, hk]))
    all_goals (rw [loopL_step' rfl]; repeat' (first | (refine cond_by (F := ans) (fun _ => ?_) (fun _ => ?_)) | (refine wayK_by (F := ans) (fun _ hb_ => ?_) (fun _ hb_ => ?_) <;> simp only [hb_]) | (refine wayK_byN (F := ans) (fun _ hb_ => ?_) (fun _ hb_ => ?_) <;> simp only [hb_]) | (refine wayD_by (F := ans) (fun _ hb_ => ?_) (fun _ hb_ => ?_) <;> simp only [hb_]) | (refine wayD_byN (F := ans) (fun _ hb_ => ?_) (fun _ hb_ => ?_) <;> simp only [hb_]) | (refine rdK_by (F := ans) (fun _ => ?_) (fun _ => ?_)) | (refine effK_by (F := ans) (fun _ => ?_) (fun _ => ?_)) | (refine effK_by2 (F := ans) (fun _ => ?_) (fun _ => ?_)) | (refine rdD_by (F := ans) (fun _ => ?_) (fun _ => ?_)) | (refine effD_by (F := ans) (fun _ => ?_) (fun _ => ?_)) | (refine effD_by2 (F := ans) (fun _ => ?_) (fun _ => ?_)) | simp -implicitDefEqProofs (disch := first | omega | (simp only [List.length_append, List.length_cons, List.length_nil, List.length_drop, List.length_take]; omega)) only [evs, tys, lors, Nat.reduceAdd, Nat.reduceSub, Nat.reduceMul, Nat.reducePow, Nat.reduceBEq, Nat.reduceLT, Nat.reduceLeDiff, Nat.reduceEqDiff, Int.reduceLT, Int.reduceLE, Int.reduceEq, Int.reduceNe, Int.reduceToNat, Int.reduceAdd, Int.reduceSub, Int.reduceMul, Int.reducePow, Int.reduceDiv, Int.reduceMod, Int.reduceNeg, reduceCtorEq, codeKey, List.contains, List.elem, Ev.load, peek, pack, storeV, fieldAddr, field, cvB, hk, hl, h19, h199, h1999]))
    · rfl
    all_goals (rw [loopL_step' rfl]; repeat' (first | (refine cond_by (F := ans) (fun _ => ?_) (fun _ => ?_)) | (refine wayK_by (F := ans) (fun _ hb_ => ?_) (fun _ hb_ => ?_) <;> simp only [hb_]) | (refine wayK_byN (F := ans) (fun _ hb_ => ?_) (fun _ hb_ => ?_) <;> simp only [hb_]) | (refine wayD_by (F := ans) (fun _ hb_ => ?_) (fun _ hb_ => ?_) <;> simp only [hb_]) | (refine wayD_byN (F := ans) (fun _ hb_ => ?_) (fun _ hb_ => ?_) <;> simp only [hb_]) | (refine rdK_by (F := ans) (fun _ => ?_) (fun _ => ?_)) | (refine effK_by (F := ans) (fun _ => ?_) (fun _ => ?_)) | (refine effK_by2 (F := ans) (fun _ => ?_) (fun _ => ?_)) | (refine rdD_by (F := ans) (fun _ => ?_) (fun _ => ?_)) | (refine effD_by (F := ans) (fun _ => ?_) (fun _ => ?_)) | (refine effD_by2 (F := ans) (fun _ => ?_) (fun _ => ?_)) | simp -implicitDefEqProofs (disch := first | omega | (simp only [List.length_append, List.length_cons, List.length_nil, List.length_drop, List.length_take]; omega)) only [evs, tys, lors, Nat.reduceAdd, Nat.reduceSub, Nat.reduceMul, Nat.reducePow, Nat.reduceBEq, Nat.reduceLT, Nat.reduceLeDiff, Nat.reduceEqDiff, Int.reduceLT, Int.reduceLE, Int.reduceEq, Int.reduceNe, Int.reduceToNat, Int.reduceAdd, Int.reduceSub, Int.reduceMul, Int.reducePow, Int.reduceDiv, Int.reduceMod, Int.reduceNeg, reduceCtorEq, codeKey, List.contains, List.elem, Ev.load, peek, pack, storeV, fieldAddr, field, cvB, hk, hl, h19, h199, h1999]))
    · rfl
    all_goals (rw [loopL_step' rfl]; repeat' (first | (refine cond_by (F := ans) (fun _ => ?_) (fun _ => ?_)) | (refine wayK_by (F := ans) (fun _ hb_ => ?_) (fun _ hb_ => ?_) <;> simp only [hb_]) | (refine wayK_byN (F := ans) (fun _ hb_ => ?_) (fun _ hb_ => ?_) <;> simp only [hb_]) | (refine wayD_by (F := ans) (fun _ hb_ => ?_) (fun _ hb_ => ?_) <;> simp only [hb_]) | (refine wayD_byN (F := ans) (fun _ hb_ => ?_) (fun _ hb_ => ?_) <;> simp only [hb_]) | (refine rdK_by (F := ans) (fun _ => ?_) (fun _ => ?_)) | (refine effK_by (F := ans) (fun _ => ?_) (fun _ => ?_)) | (refine effK_by2 (F := ans) (fun _ => ?_) (fun _ => ?_)) | (refine rdD_by (F := ans) (fun _ => ?_) (fun _ => ?_)) | (refine effD_by (F := ans) (fun _ => ?_) (fun _ => ?_)) | (refine effD_by2 (F := ans) (fun _ => ?_) (fun _ => ?_)) | simp -implicitDefEqProofs (disch := first | omega | (simp only [List.length_append, List.length_cons, List.length_nil, List.length_drop, List.length_take]; omega)) only [evs, tys, lors, Nat.reduceAdd, Nat.reduceSub, Nat.reduceMul, Nat.reducePow, Nat.reduceBEq, Nat.reduceLT, Nat.reduceLeDiff, Nat.reduceEqDiff, Int.reduceLT, Int.reduceLE, Int.reduceEq, Int.reduceNe, Int.reduceToNat, Int.reduceAdd, Int.reduceSub, Int.reduceMul, Int.reducePow, Int.reduceDiv, Int.reduceMod, Int.reduceNeg, reduceCtorEq, codeKey, List.contains, List.elem, Ev.load, peek, pack, storeV, fieldAddr, field, cvB, hk, hl, h19, h199, h1999]))
    · rfl
  · rw [if_neg hr]
    repeat' (first | (refine cond_by (F := ans) (fun _ => ?_) (fun _ => ?_)) | (refine wayK_by (F := ans) (fun _ hb_ => ?_) (fun _ hb_ => ?_) <;> simp only [hb_]) | (refine wayK_byN (F := ans) (fun _ hb_ => ?_) (fun _ hb_ => ?_) <;> simp only [hb_]) | (refine wayD_by (F := ans) (fun _ hb_ => ?_) (fun _ hb_ => ?_) <;> simp only [hb_]) | (refine wayD_byN (F := ans) (fun _ hb_ => ?_) (fun _ hb_ => ?_) <;> simp only [hb_]) | (refine rdK_by (F := ans) (fun _ => ?_) (fun _ => ?_)) | (refine effK_by (F := ans) (fun _ => ?_) (fun _ => ?_)) | (refine effK_by2 (F := ans) (fun _ => ?_) (fun _ => ?_)) | (refine rdD_by (F := ans) (fun _ => ?_) (fun _ => ?_)) | (refine effD_by (F := ans) (fun _ => ?_) (fun _ => ?_)) | (refine effD_by2 (F := ans) (fun _ => ?_) (fun _ => ?_)) | simp -implicitDefEqProofs (disch := first | omega | (simp only [List.length_append, List.length_cons, List.length_nil, List.length_drop, List.length_take]; omega)) only [evs, tys, lors, Nat.reduceAdd, Nat.reduceSub, Nat.reduceMul, Nat.reducePow, Nat.reduceBEq, Nat.reduceLT, Nat.reduceLeDiff, Nat.reduceEqDiff, Int.reduceLT, Int.reduceLE, Int.reduceEq, Int.reduceNe, Int.reduceToNat, Int.reduceAdd, Int.reduceSub, Int.reduceMul, Int.reducePow, Int.reduceDiv, Int.reduceMod, Int.reduceNeg, reduceCtorEq, codeKey, List.contains, List.elem, Ev.load, peek, pack, storeV, fieldAddr, field, cvB])
    all_goals (exfalso; omega)
def kOf (e : Nat) (x : Int) : Nat := Lib.bitLen x.toNat - e
def idxZ (e : Nat) (x : Int) : Int := if x < 2 ^ e then x else 2 ^ e + ((kOf e x : Int) - 1) * 2 ^ (e - 1) + x / 2 ^ kOf e x - 2 ^ (e - 1)
theorem pow_le {a b : Nat} (h : a ≤ b) : (2 : Int) ^ a ≤ 2 ^ b := by
  have := Nat.pow_le_pow_right (show 0 < 2 by decide) h
  exact_mod_cast this
theorem k_facts (e : Nat) (he1 : 1 ≤ e) (x : Int) (h0 : 0 ≤ x) (h1 : x ≤ 2305843009213693952) : Lib.bitLen x.toNat ≤ 62 ∧ (x < 2 ^ e ↔ Lib.bitLen x.toNat ≤ e) ∧ (¬ x < 2 ^ e → 0 ≤ x / 2 ^ kOf e x ∧ x / 2 ^ kOf e x < 2 ^ e ∧ 2 ^ e ≤ 2 * (x / 2 ^ kOf e x)) := by
  obtain ⟨n, rfl⟩ : ∃ n : Nat, x = (n : Int) := ⟨x.toNat, by omega⟩
  unfold kOf
  rw [Int.toNat_natCast]
  by_cases hn : n = 0
  · subst hn
    have : (0 : Int) < 2 ^ e := Int.pow_pos (by decide)
    refine ⟨by decide, ⟨fun _ => by simp [Lib.bitLen, Lib.bitLenAux_zero], fun _ => by omega⟩, fun h => by omega⟩
  · obtain ⟨b1, b2, b3⟩ := bitLen_bounds n (by omega) (by omega)
    have hb : Lib.bitLen n ≤ 62 := bitLen_le (by omega) (by omega) (by omega)
    generalize Lib.bitLen n = b at *
    have c2 : (2 : Int) ^ (b - 1) ≤ n := by exact_mod_cast b2
    have c3 : (n : Int) < 2 ^ b := by exact_mod_cast b3
    refine ⟨hb, ⟨fun h => ?_, fun h => ?_⟩, fun h => ?_⟩
    · rcases Nat.lt_or_ge e b with hh | hh
      · have := pow_le (show e ≤ b - 1 by omega)
        omega
      · exact hh
    · have := pow_le h
      omega
    · have hk : (0 : Int) < 2 ^ (b - e) := Int.pow_pos (by decide)
      have heb : e < b := by
        rcases Nat.lt_or_ge e b with hh | hh
        · exact hh
        · have := pow_le hh; omega
      refine ⟨Int.ediv_nonneg (by omega) (by omega), (Int.ediv_lt_iff_lt_mul hk).2 ?_, ?_⟩
      · rw [← Int.pow_add, show e + (b - e) = b by omega]; exact c3
      · have h' : (2 : Int) ^ (e - 1) ≤ n / 2 ^ (b - e) := by
          refine (Int.le_ediv_iff_mul_le hk).2 ?_
          rw [← Int.pow_add, show e - 1 + (b - e) = b - 1 by omega]; exact c2
        have he : (2 : Int) ^ e ≤ 2 * 2 ^ (e - 1) := by
          rw [← Int.pow_succ']
          exact pow_le (by omega)
        omega
abbrev Sub3 (e : Nat) : Prop := e = 5 ∨ e = 8 ∨ e = 11
theorem index_cv (u e : Nat) (hu : u ≤ 40) (he : Sub3 e) (v : Int) (h0 : 0 ≤ v) (h1 : v ≤ 2305843009213693952) (H : Heap) :
    callV (CL lore) 47 [.agg [.int .i64 (u : Int), .int .i64 (e : Int)], .int .i64 v] H = some (.int .i64 (idxZ e (v / 2 ^ u)), H) := by
  refine callV_ans (r := some _) ?_ lore_sh47 rfl H
  rw [call_start lore_ext47 Tryd.func47 rfl lore_okf47 (Nat.le_of_ble_eq_true rfl)]
  have hp : (0 : Int) < 2 ^ u := Int.pow_pos (by decide)
  have x0 : 0 ≤ v / 2 ^ u := Int.ediv_nonneg h0 (by omega)
  have x1 : v / 2 ^ u ≤ v := Int.ediv_le_self _ h0
  have kf := k_facts e (by rcases he with rfl | rfl | rfl <;> decide) (v / 2 ^ u) x0 (by omega)
  have hl := fun H => len64_cv (v / 2 ^ u) x0 (by omega) H
  unfold idxZ
  rcases he with rfl | rfl | rfl
  · unfold kOf at *
    generalize Lib.bitLen (v / 2 ^ u).toNat = b at *
    by_cases hb : b ≤ 5
    · rw [if_pos (kf.2.1.2 hb)]
      repeat' (first | (refine cond_by (F := ans) (fun _ => ?_) (fun _ => ?_)) | (refine wayK_by (F := ans) (fun _ hb_ => ?_) (fun _ hb_ => ?_) <;> simp only [hb_]) | (refine wayK_byN (F := ans) (fun _ hb_ => ?_) (fun _ hb_ => ?_) <;> simp only [hb_]) | (refine wayD_by (F := ans) (fun _ hb_ => ?_) (fun _ hb_ => ?_) <;> simp only [hb_]) | (refine wayD_byN (F := ans) (fun _ hb_ => ?_) (fun _ hb_ => ?_) <;> simp only [hb_]) | (refine rdK_by (F := ans) (fun _ => ?_) (fun _ => ?_)) | (refine effK_by (F := ans) (fun _ => ?_) (fun _ => ?_)) | (refine effK_by2 (F := ans) (fun _ => ?_) (fun _ => ?_)) | (refine rdD_by (F := ans) (fun _ => ?_) (fun _ => ?_)) | (refine effD_by (F := ans) (fun _ => ?_) (fun _ => ?_)) | (refine effD_by2 (F := ans) (fun _ => ?_) (fun _ => ?_)) | simp -implicitDefEqProofs (disch := first | omega | (simp only [List.length_append, List.length_cons, List.length_nil, List.length_drop, List.length_take]; omega)) only [evs, tys, lors, Nat.reduceAdd, Nat.reduceSub, Nat.reduceMul, Nat.reducePow, Nat.reduceBEq, Nat.reduceLT, Nat.reduceLeDiff, Nat.reduceEqDiff, Int.reduceLT, Int.reduceLE, Int.reduceEq, Int.reduceNe, Int.reduceToNat, Int.reduceAdd, Int.reduceSub, Int.reduceMul, Int.reducePow, Int.reduceDiv, Int.reduceMod, Int.reduceNeg, reduceCtorEq, codeKey, List.contains, List.elem, Ev.load, peek, pack, storeV, fieldAddr, field, cvB, bits1, hl])
      all_goals (exfalso; omega)
    · have hlt := fun h => hb (kf.2.1.1 h)
      rw [if_neg hlt]
      have kf3 := kf.2.2 hlt
      have hkb : (b : Int) - 5 = ((b - 5 : Nat) : Int) := by omega
      repeat' (first | (refine cond_by (F := ans) (fun _ => ?_) (fun _ => ?_)) | (refine wayK_by (F := ans) (fun _ hb_ => ?_) (fun _ hb_ => ?_) <;> simp only [hb_]) | (refine wayK_byN (F := ans) (fun _ hb_ => ?_) (fun _ hb_ => ?_) <;> simp only [hb_]) | (refine wayD_by (F := ans) (fun _ hb_ => ?_) (fun _ hb_ => ?_) <;> simp only [hb_]) | (refine wayD_byN (F := ans) (fun _ hb_ => ?_) (fun _ hb_ => ?_) <;> simp only [hb_]) | (refine rdK_by (F := ans) (fun _ => ?_) (fun _ => ?_)) | (refine effK_by (F := ans) (fun _ => ?_) (fun _ => ?_)) | (refine effK_by2 (F := ans) (fun _ => ?_) (fun _ => ?_)) | (refine rdD_by (F := ans) (fun _ => ?_) (fun _ => ?_)) | (refine effD_by (F := ans) (fun _ => ?_) (fun _ => ?_)) | (refine effD_by2 (F := ans) (fun _ => ?_) (fun _ => ?_)) | simp -implicitDefEqProofs (disch := first | omega | (simp only [List.length_append, List.length_cons, List.length_nil, List.length_drop, List.length_take]; omega)) only [evs, tys, lors, Nat.reduceAdd, Nat.reduceSub, Nat.reduceMul, Nat.reducePow, Nat.reduceBEq, Nat.reduceLT, Nat.reduceLeDiff, Nat.reduceEqDiff, Int.reduceLT, Int.reduceLE, Int.reduceEq, Int.reduceNe, Int.reduceToNat, Int.reduceAdd, Int.reduceSub, Int.reduceMul, Int.reducePow, Int.reduceDiv, Int.reduceMod, Int.reduceNeg, reduceCtorEq, codeKey, List.contains, List.elem, Ev.load, peek, pack, storeV, fieldAddr, field, cvB, bits1, hl, hkb])
      all_goals (exfalso; omega)
  · unfold kOf at *
    generalize Lib.bitLen (v / 2 ^ u).toNat = b at *
    by_cases hb : b ≤ 8
    · rw [if_pos (kf.2.1.2 hb)]
      repeat' (first | (refine cond_by (F := ans) (fun _ => ?_) (fun _ => ?_)) | (refine wayK_by (F := ans) (fun _ hb_ => ?_) (fun _ hb_ => ?_) <;> simp only [hb_]) | (refine wayK_byN (F := ans) (fun _ hb_ => ?_) (fun _ hb_ => ?_) <;> simp only [hb_]) | (refine wayD_by (F := ans) (fun _ hb_ => ?_) (fun _ hb_ => ?_) <;> simp only [hb_]) | (refine wayD_byN (F := ans) (fun _ hb_ => ?_) (fun _ hb_ => ?_) <;> simp only [hb_]) | (refine rdK_by (F := ans) (fun _ => ?_) (fun _ => ?_)) | (refine effK_by (F := ans) (fun _ => ?_) (fun _ => ?_)) | (refine effK_by2 (F := ans) (fun _ => ?_) (fun _ => ?_)) | (refine rdD_by (F := ans) (fun _ => ?_) (fun _ => ?_)) | (refine effD_by (F := ans) (fun _ => ?_) (fun _ => ?_)) | (refine effD_by2 (F := ans) (fun _ => ?_) (fun _ => ?_)) | simp -implicitDefEqProofs (disch := first | omega | (simp only [List.length_append, List.length_cons, List.length_nil, List.length_drop, List.length_take]; omega)) only [evs, tys, lors, Nat.reduceAdd, Nat.reduceSub, Nat.reduceMul, Nat.reducePow, Nat.reduceBEq, Nat.reduceLT, Nat.reduceLeDiff, Nat.reduceEqDiff, Int.reduceLT, Int.reduceLE, Int.reduceEq, Int.reduceNe, Int.reduceToNat, Int.reduceAdd, Int.reduceSub, Int.reduceMul, Int.reducePow, Int.reduceDiv, Int.reduceMod, Int.reduceNeg, reduceCtorEq, codeKey, List.contains, List.elem, Ev.load, peek, pack, storeV, fieldAddr, field, cvB, bits1, hl])
      all_goals (exfalso; omega)
    · have hlt := fun h => hb (kf.2.1.1 h)
      rw [if_neg hlt]
      have kf3 := kf.2.2 hlt
      have hkb : (b : Int) - 8 = ((b - 8 : Nat) : Int) := by omega
      repeat' (first | (refine cond_by (F := ans) (fun _ => ?_) (fun _ => ?_)) | (refine wayK_by (F := ans) (fun _ hb_ => ?_) (fun _ hb_ => ?_) <;> simp only [hb_]) | (refine wayK_byN (F := ans) (fun _ hb_ => ?_) (fun _ hb_ => ?_) <;> simp only [hb_]) | (refine wayD_by (F := ans) (fun _ hb_ => ?_) (fun _ hb_ => ?_) <;> simp only [hb_]) | (refine wayD_byN (F := ans) (fun _ hb_ => ?_) (fun _ hb_ => ?_) <;> simp only [hb_]) | (refine rdK_by (F := ans) (fun _ => ?_) (fun _ => ?_)) | (refine effK_by (F := ans) (fun _ => ?_) (fun _ => ?_)) | (refine effK_by2 (F := ans) (fun _ => ?_) (fun _ => ?_)) | (refine rdD_by (F := ans) (fun _ => ?_) (fun _ => ?_)) | (refine effD_by (F := ans) (fun _ => ?_) (fun _ => ?_)) | (refine effD_by2 (F := ans) (fun _ => ?_) (fun _ => ?_)) | simp -implicitDefEqProofs (disch := first | omega | (simp only [List.length_append, List.length_cons, List.length_nil, List.length_drop, List.length_take]; omega)) only [evs, tys, lors, Nat.reduceAdd, Nat.reduceSub, Nat.reduceMul, Nat.reducePow, Nat.reduceBEq, Nat.reduceLT, Nat.reduceLeDiff, Nat.reduceEqDiff, Int.reduceLT, Int.reduceLE, Int.reduceEq, Int.reduceNe, Int.reduceToNat, Int.reduceAdd, Int.reduceSub, Int.reduceMul, Int.reducePow, Int.reduceDiv, Int.reduceMod, Int.reduceNeg, reduceCtorEq, codeKey, List.contains, List.elem, Ev.load, peek, pack, storeV, fieldAddr, field, cvB, bits1, hl, hkb])
      all_goals (exfalso; omega)
  · unfold kOf at *
    generalize Lib.bitLen (v / 2 ^ u).toNat = b at *
    by_cases hb : b ≤ 11
    · rw [if_pos (kf.2.1.2 hb)]
      repeat' (first | (refine cond_by (F := ans) (fun _ => ?_) (fun _ => ?_)) | (refine wayK_by (F := ans) (fun _ hb_ => ?_) (fun _ hb_ => ?_) <;> simp only [hb_]) | (refine wayK_byN (F := ans) (fun _ hb_ => ?_) (fun _ hb_ => ?_) <;> simp only [hb_]) | (refine wayD_by (F := ans) (fun _ hb_ => ?_) (fun _ hb_ => ?_) <;> simp only [hb_]) | (refine wayD_byN (F := ans) (fun _ hb_ => ?_) (fun _ hb_ => ?_) <;> simp only [hb_]) | (refine rdK_by (F := ans) (fun _ => ?_) (fun _ => ?_)) | (refine effK_by (F := ans) (fun _ => ?_) (fun _ => ?_)) | (refine effK_by2 (F := ans) (fun _ => ?_) (fun _ => ?_)) | (refine rdD_by (F := ans) (fun _ => ?_) (fun _ => ?_)) | (refine effD_by (F := ans) (fun _ => ?_) (fun _ => ?_)) | (refine effD_by2 (F := ans) (fun _ => ?_) (fun _ => ?_)) | simp -implicitDefEqProofs (disch := first | omega | (simp only [List.length_append, List.length_cons, List.length_nil, List.length_drop, List.length_take]; omega)) only [evs, tys, lors, Nat.reduceAdd, Nat.reduceSub, Nat.reduceMul, Nat.reducePow, Nat.reduceBEq, Nat.reduceLT, Nat.reduceLeDiff, Nat.reduceEqDiff, Int.reduceLT, Int.reduceLE, Int.reduceEq, Int.reduceNe, Int.reduceToNat, Int.reduceAdd, Int.reduceSub, Int.reduceMul, Int.reducePow, Int.reduceDiv, Int.reduceMod, Int.reduceNeg, reduceCtorEq, codeKey, List.contains, List.elem, Ev.load, peek, pack, storeV, fieldAddr, field, cvB, bits1, hl])
      all_goals (exfalso; omega)
    · have hlt := fun h => hb (kf.2.1.1 h)
      rw [if_neg hlt]
      have kf3 := kf.2.2 hlt
      have hkb : (b : Int) - 11 = ((b - 11 : Nat) : Int) := by omega
      repeat' (first | (refine cond_by (F := ans) (fun _ => ?_) (fun _ => ?_)) | (refine wayK_by (F := ans) (fun _ hb_ => ?_) (fun _ hb_ => ?_) <;> simp only [hb_]) | (refine wayK_byN (F := ans) (fun _ hb_ => ?_) (fun _ hb_ => ?_) <;> simp only [hb_]) | (refine wayD_by (F := ans) (fun _ hb_ => ?_) (fun _ hb_ => ?_) <;> simp only [hb_]) | (refine wayD_byN (F := ans) (fun _ hb_ => ?_) (fun _ hb_ => ?_) <;> simp only [hb_]) | (refine rdK_by (F := ans) (fun _ => ?_) (fun _ => ?_)) | (refine effK_by (F := ans) (fun _ => ?_) (fun _ => ?_)) | (refine effK_by2 (F := ans) (fun _ => ?_) (fun _ => ?_)) | (refine rdD_by (F := ans) (fun _ => ?_) (fun _ => ?_)) | (refine effD_by (F := ans) (fun _ => ?_) (fun _ => ?_)) | (refine effD_by2 (F := ans) (fun _ => ?_) (fun _ => ?_)) | simp -implicitDefEqProofs (disch := first | omega | (simp only [List.length_append, List.length_cons, List.length_nil, List.length_drop, List.length_take]; omega)) only [evs, tys, lors, Nat.reduceAdd, Nat.reduceSub, Nat.reduceMul, Nat.reducePow, Nat.reduceBEq, Nat.reduceLT, Nat.reduceLeDiff, Nat.reduceEqDiff, Int.reduceLT, Int.reduceLE, Int.reduceEq, Int.reduceNe, Int.reduceToNat, Int.reduceAdd, Int.reduceSub, Int.reduceMul, Int.reducePow, Int.reduceDiv, Int.reduceMod, Int.reduceNeg, reduceCtorEq, codeKey, List.contains, List.elem, Ev.load, peek, pack, storeV, fieldAddr, field, cvB, bits1, hl, hkb])
      all_goals (exfalso; omega)

def uOf (L : Int) : Nat := Lib.bitLen L.toNat - 1
theorem uOf_facts {L : Int} (h0 : 1 ≤ L) (h1 : L ≤ 1099511627776) : uOf L ≤ 40 ∧ (2 : Int) ^ uOf L ≤ L ∧ L < 2 * 2 ^ uOf L ∧ (Lib.bitLen L.toNat : Int) - 1 = (uOf L : Int) := by
  obtain ⟨b1, b2, b3⟩ := bitLen_bounds L.toNat (by omega) (by omega)
  have hb : Lib.bitLen L.toNat ≤ 41 := bitLen_le (by omega) (by omega) (by omega)
  unfold uOf
  obtain ⟨n, rfl⟩ : ∃ n : Nat, L = (n : Int) := ⟨L.toNat, by omega⟩
  rw [Int.toNat_natCast] at *
  generalize Lib.bitLen n = b at *
  have c2 : (2 : Int) ^ (b - 1) ≤ n := by exact_mod_cast b2
  have c3 : (n : Int) < 2 ^ b := by exact_mod_cast b3
  refine ⟨by omega, c2, ?_, by omega⟩
  rw [← Int.pow_succ', show b - 1 + 1 = b by omega]
  exact c3
theorem sub3 {D : Int} (h : 1 ≤ D ∧ D ≤ 3) : Sub3 (subE D) := by
  have hD' : D = 1 ∨ D = 2 ∨ D = 3 := by omega
  rcases hD' with rfl | rfl | rfl <;> decide
theorem shaped2_cv (L M D : Int) (H : Heap) : callV (CL lore) 46 [.agg [.int .i64 L, .int .i64 M, .int .i64 D]] H =
    if RightS L M D then some (.tup [.agg [.int .i64 (uOf L : Nat), .int .i64 (subE D : Nat)], .bool true], H) else some (.tup [.agg [.int .i64 0, .int .i64 0], .bool false], H) := by
  rw [shaped_cv]
  split
  · rw [(uOf_facts (by omega) (by omega)).2.2.2]
  · rfl
theorem idxZ_bounds (e : Nat) (he : Sub3 e) (x : Int) (h0 : 0 ≤ x) (h1 : x ≤ 2305843009213693952) : 0 ≤ idxZ e x ∧ idxZ e x ≤ 1000000 := by
  have kf := k_facts e (by rcases he with rfl | rfl | rfl <;> decide) x h0 h1
  unfold idxZ
  split
  · rcases he with rfl | rfl | rfl <;> omega
  · rename_i hx
    have kf3 := kf.2.2 hx
    have hk : kOf e x ≤ 62 := by unfold kOf; omega
    have hk1 : 1 ≤ kOf e x := by
      have := kf.2.1
      unfold kOf
      omega
    generalize kOf e x = k at *
    rcases he with rfl | rfl | rfl
    all_goals
      simp only [Nat.reduceSub, Int.reducePow] at *
      omega
abbrev topOf (L M D : Int) : Int := idxZ (subE D) (M / 2 ^ uOf L)
theorem x_facts {L M D : Int} (hr : RightS L M D) {v : Int} (v0 : 0 ≤ v) (v1 : v ≤ 2305843009213693952) : uOf L ≤ 40 ∧ 0 ≤ v / 2 ^ uOf L ∧ v / 2 ^ uOf L ≤ 2305843009213693952 ∧ Sub3 (subE D) ∧ 0 ≤ idxZ (subE D) (v / 2 ^ uOf L) ∧ idxZ (subE D) (v / 2 ^ uOf L) ≤ 1000000 := by
  have hp : (0 : Int) < 2 ^ uOf L := Int.pow_pos (by decide)
  have x0 : 0 ≤ v / 2 ^ uOf L := Int.ediv_nonneg v0 (by omega)
  have x1 : v / 2 ^ uOf L ≤ v := Int.ediv_le_self _ v0
  have he := sub3 hr.2.2
  have := idxZ_bounds _ he _ x0 (by omega)
  exact ⟨(uOf_facts (by omega) (by omega)).1, x0, by omega, he, this.1, this.2⟩
def indexV (L M D v : Int) : V := if RightS L M D then if 0 ≤ v ∧ v ≤ M then .tup [.int .i64 (idxZ (subE D) (v / 2 ^ uOf L)), .int .i64 0] else .tup [.int .i64 0, .int .i64 2] else .tup [.int .i64 0, .int .i64 80]
theorem indexP_cv (L M D v : Int) (H : Heap) : callV (CL lore) 16 [.agg [.int .i64 L, .int .i64 M, .int .i64 D], .int .i64 v] H = some (indexV L M D v, H) := by
  refine callV_ans (r := some _) ?_ lore_sh16 rfl H
  rw [call_start lore_ext16 Tryd.func16 rfl lore_okf16 (Nat.le_of_ble_eq_true rfl)]
  unfold indexV
  by_cases hr : RightS L M D
  · rw [if_pos hr]
    by_cases hv : 0 ≤ v ∧ v ≤ M
    · rw [if_pos hv]
      obtain ⟨f1, f2, f3, f4, f5, f6⟩ := x_facts hr (v := v) (by omega) (by omega)
      have hi := fun H => index_cv (uOf L) (subE D) f1 f4 v (by omega) (by omega) H
      repeat' (first | (refine cond_by (F := ans) (fun _ => ?_) (fun _ => ?_)) | (refine wayK_by (F := ans) (fun _ hb_ => ?_) (fun _ hb_ => ?_) <;> simp only [hb_]) | (refine wayK_byN (F := ans) (fun _ hb_ => ?_) (fun _ hb_ => ?_) <;> simp only [hb_]) | (refine wayD_by (F := ans) (fun _ hb_ => ?_) (fun _ hb_ => ?_) <;> simp only [hb_]) | (refine wayD_byN (F := ans) (fun _ hb_ => ?_) (fun _ hb_ => ?_) <;> simp only [hb_]) | (refine rdK_by (F := ans) (fun _ => ?_) (fun _ => ?_)) | (refine effK_by (F := ans) (fun _ => ?_) (fun _ => ?_)) | (refine effK_by2 (F := ans) (fun _ => ?_) (fun _ => ?_)) | (refine rdD_by (F := ans) (fun _ => ?_) (fun _ => ?_)) | (refine effD_by (F := ans) (fun _ => ?_) (fun _ => ?_)) | (refine effD_by2 (F := ans) (fun _ => ?_) (fun _ => ?_)) | simp -implicitDefEqProofs (disch := first | omega | (simp only [List.length_append, List.length_cons, List.length_nil, List.length_drop, List.length_take]; omega)) only [evs, tys, lors, Nat.reduceAdd, Nat.reduceSub, Nat.reduceMul, Nat.reducePow, Nat.reduceBEq, Nat.reduceLT, Nat.reduceLeDiff, Nat.reduceEqDiff, Int.reduceLT, Int.reduceLE, Int.reduceEq, Int.reduceNe, Int.reduceToNat, Int.reduceAdd, Int.reduceSub, Int.reduceMul, Int.reducePow, Int.reduceDiv, Int.reduceMod, Int.reduceNeg, reduceCtorEq, codeKey, List.contains, List.elem, Ev.load, peek, pack, storeV, fieldAddr, field, cvB, shaped2_cv, hi])
      all_goals first | rfl | (rw [if_pos (by omega)]; done) | (rw [if_neg (by omega)]; done) | (exfalso; omega)
    · rw [if_neg hv]
      repeat' (first | (refine cond_by (F := ans) (fun _ => ?_) (fun _ => ?_)) | (refine wayK_by (F := ans) (fun _ hb_ => ?_) (fun _ hb_ => ?_) <;> simp only [hb_]) | (refine wayK_byN (F := ans) (fun _ hb_ => ?_) (fun _ hb_ => ?_) <;> simp only [hb_]) | (refine wayD_by (F := ans) (fun _ hb_ => ?_) (fun _ hb_ => ?_) <;> simp only [hb_]) | (refine wayD_byN (F := ans) (fun _ hb_ => ?_) (fun _ hb_ => ?_) <;> simp only [hb_]) | (refine rdK_by (F := ans) (fun _ => ?_) (fun _ => ?_)) | (refine effK_by (F := ans) (fun _ => ?_) (fun _ => ?_)) | (refine effK_by2 (F := ans) (fun _ => ?_) (fun _ => ?_)) | (refine rdD_by (F := ans) (fun _ => ?_) (fun _ => ?_)) | (refine effD_by (F := ans) (fun _ => ?_) (fun _ => ?_)) | (refine effD_by2 (F := ans) (fun _ => ?_) (fun _ => ?_)) | simp -implicitDefEqProofs (disch := first | omega | (simp only [List.length_append, List.length_cons, List.length_nil, List.length_drop, List.length_take]; omega)) only [evs, tys, lors, Nat.reduceAdd, Nat.reduceSub, Nat.reduceMul, Nat.reducePow, Nat.reduceBEq, Nat.reduceLT, Nat.reduceLeDiff, Nat.reduceEqDiff, Int.reduceLT, Int.reduceLE, Int.reduceEq, Int.reduceNe, Int.reduceToNat, Int.reduceAdd, Int.reduceSub, Int.reduceMul, Int.reducePow, Int.reduceDiv, Int.reduceMod, Int.reduceNeg, reduceCtorEq, codeKey, List.contains, List.elem, Ev.load, peek, pack, storeV, fieldAddr, field, cvB, shaped2_cv])
      all_goals first | rfl | (rw [if_pos (by omega)]; done) | (rw [if_neg (by omega)]; done) | (exfalso; omega)
  · rw [if_neg hr]
    repeat' (first | (refine cond_by (F := ans) (fun _ => ?_) (fun _ => ?_)) | (refine wayK_by (F := ans) (fun _ hb_ => ?_) (fun _ hb_ => ?_) <;> simp only [hb_]) | (refine wayK_byN (F := ans) (fun _ hb_ => ?_) (fun _ hb_ => ?_) <;> simp only [hb_]) | (refine wayD_by (F := ans) (fun _ hb_ => ?_) (fun _ hb_ => ?_) <;> simp only [hb_]) | (refine wayD_byN (F := ans) (fun _ hb_ => ?_) (fun _ hb_ => ?_) <;> simp only [hb_]) | (refine rdK_by (F := ans) (fun _ => ?_) (fun _ => ?_)) | (refine effK_by (F := ans) (fun _ => ?_) (fun _ => ?_)) | (refine effK_by2 (F := ans) (fun _ => ?_) (fun _ => ?_)) | (refine rdD_by (F := ans) (fun _ => ?_) (fun _ => ?_)) | (refine effD_by (F := ans) (fun _ => ?_) (fun _ => ?_)) | (refine effD_by2 (F := ans) (fun _ => ?_) (fun _ => ?_)) | simp -implicitDefEqProofs (disch := first | omega | (simp only [List.length_append, List.length_cons, List.length_nil, List.length_drop, List.length_take]; omega)) only [evs, tys, lors, Nat.reduceAdd, Nat.reduceSub, Nat.reduceMul, Nat.reducePow, Nat.reduceBEq, Nat.reduceLT, Nat.reduceLeDiff, Nat.reduceEqDiff, Int.reduceLT, Int.reduceLE, Int.reduceEq, Int.reduceNe, Int.reduceToNat, Int.reduceAdd, Int.reduceSub, Int.reduceMul, Int.reducePow, Int.reduceDiv, Int.reduceMod, Int.reduceNeg, reduceCtorEq, codeKey, List.contains, List.elem, Ev.load, peek, pack, storeV, fieldAddr, field, cvB, shaped2_cv])
    all_goals first | rfl | (rw [if_pos (by omega)]; done) | (rw [if_neg (by omega)]; done) | (exfalso; omega)

def shN (e : Nat) (i : Int) : Nat := if i < 2 ^ e then 0 else ((i - 2 ^ e) / 2 ^ (e - 1) + 1).toNat
def sbZ (e : Nat) (i : Int) : Int := if i < 2 ^ e then i else (i - 2 ^ e) % 2 ^ (e - 1) + 2 ^ (e - 1)
theorem low_le (e : Nat) (he : Sub3 e) (x i : Int) (h0 : 0 ≤ x) (h1 : x ≤ 2305843009213693952) (i0 : 0 ≤ i) (i1 : i ≤ idxZ e x) : shN e i ≤ 62 ∧ 0 ≤ sbZ e i ∧ sbZ e i < 2 ^ e ∧ sbZ e i * 2 ^ shN e i ≤ x ∧ (2 : Int) ^ shN e i ≤ x + 1 := by
  have kf := k_facts e (by rcases he with rfl | rfl | rfl <;> decide) x h0 h1
  have hb := idxZ_bounds e he x h0 h1
  by_cases hi : i < 2 ^ e
  · have e1 : shN e i = 0 := by unfold shN; rw [if_pos hi]
    have e2 : sbZ e i = i := by unfold sbZ; rw [if_pos hi]
    rw [e1, e2, Int.pow_zero, Int.mul_one]
    refine ⟨by decide, i0, hi, ?_, by omega⟩
    by_cases hx : x < 2 ^ e
    · unfold idxZ at i1
      rw [if_pos hx] at i1
      exact i1
    · omega
  · have hx : ¬ x < 2 ^ e := fun hx => by
      unfold idxZ at i1
      rw [if_pos hx] at i1
      omega
    obtain ⟨k0, k1, k2⟩ := kf.2.2 hx
    have hk : kOf e x ≤ 62 := by unfold kOf; omega
    have hk1 : 1 ≤ kOf e x := by
      have := kf.2.1
      unfold kOf
      omega
    unfold idxZ at i1
    rw [if_neg hx] at i1
    have e1 : shN e i = ((i - 2 ^ e) / 2 ^ (e - 1) + 1).toNat := by unfold shN; rw [if_neg hi]
    have e2 : sbZ e i = (i - 2 ^ e) % 2 ^ (e - 1) + 2 ^ (e - 1) := by unfold sbZ; rw [if_neg hi]
    have hxk := Int.mul_ediv_self_le (x := x) (k := 2 ^ kOf e x) (by have : (0 : Int) < 2 ^ kOf e x := Int.pow_pos (by decide); omega)
    rw [e2]
    generalize shN e i = sh at *
    generalize kOf e x = k at *
    generalize hr : x / 2 ^ k = r at *
    have hsk : sh ≤ k ∧ (sh = k → (i - 2 ^ e) % 2 ^ (e - 1) + 2 ^ (e - 1) ≤ r) ∧ 1 ≤ sh ∧ 0 ≤ (i - 2 ^ e) % 2 ^ (e - 1) ∧ (i - 2 ^ e) % 2 ^ (e - 1) + 2 ^ (e - 1) < 2 ^ e ∧ 1 ≤ (i - 2 ^ e) % 2 ^ (e - 1) + 2 ^ (e - 1) := by
      rcases he with rfl | rfl | rfl
      all_goals
        simp only [Nat.reduceSub, Int.reducePow] at *
        omega
    obtain ⟨s1, s2, s3, s4, s5, s6⟩ := hsk
    generalize (i - 2 ^ e) % 2 ^ (e - 1) + 2 ^ (e - 1) = sb at *
    have hp : (0 : Int) < 2 ^ sh := Int.pow_pos (by decide)
    have hle : sb * 2 ^ sh ≤ x := by
      by_cases h : sh = k
      · have := Int.mul_le_mul_of_nonneg_right (s2 h) (show (0 : Int) ≤ 2 ^ sh by omega)
        rw [h, Int.mul_comm r] at this
        rw [h]
        omega
      · have a := Int.mul_le_mul_of_nonneg_right (show sb ≤ 2 * r by omega) (show (0 : Int) ≤ 2 ^ sh by omega)
        have b := pow_le (show sh + 1 ≤ k by omega)
        have c := Int.mul_le_mul_of_nonneg_right b k0
        rw [Int.pow_succ, Int.mul_assoc, Int.mul_comm] at c
        omega
    refine ⟨by omega, by omega, s5, hle, ?_⟩
    have := Int.mul_le_mul_of_nonneg_right s6 (show (0 : Int) ≤ 2 ^ sh by omega)
    omega
theorem bounds_cv (u e : Nat) (hu : u ≤ 40) (he : Sub3 e) (x i : Int) (h0 : 0 ≤ x) (h1 : x * 2 ^ u ≤ 2305843009213693952) (i0 : 0 ≤ i) (i1 : i ≤ idxZ e x) (H : Heap) :
    callV (CL lore) 49 [.agg [.int .i64 (u : Int), .int .i64 (e : Int)], .int .i64 i] H = some (.tup [.int .i64 (sbZ e i * 2 ^ shN e i * 2 ^ u), .int .i64 (sbZ e i * 2 ^ shN e i * 2 ^ u + 2 ^ shN e i * 2 ^ u - 1)], H) := by
  refine callV_ans (r := some _) ?_ lore_sh49 rfl H
  rw [call_start lore_ext49 Tryd.func49 rfl lore_okf49 (Nat.le_of_ble_eq_true rfl)]
  have hp : (0 : Int) < 2 ^ u := Int.pow_pos (by decide)
  have hx1 : x ≤ x * 2 ^ u := by
    have := Int.mul_le_mul_of_nonneg_left (show (1 : Int) ≤ 2 ^ u by omega) h0
    omega
  have hb := idxZ_bounds e he x h0 (by omega)
  obtain ⟨l1, l2, l3, l4, l5⟩ := low_le e he x i h0 (by omega) i0 i1
  have p40 := pow_le hu
  have hps : (0 : Int) < 2 ^ shN e i := Int.pow_pos (by decide)
  have m1 := Int.mul_le_mul_of_nonneg_right l4 (show (0 : Int) ≤ 2 ^ u by omega)
  have m2 := Int.mul_le_mul_of_nonneg_right l5 (show (0 : Int) ≤ 2 ^ u by omega)
  have m3 : 0 ≤ sbZ e i * 2 ^ shN e i := Int.mul_nonneg l2 (by omega)
  have m4 := Int.mul_nonneg m3 (show (0 : Int) ≤ 2 ^ u by omega)
  have m5 : 0 ≤ (2 : Int) ^ shN e i * 2 ^ u := Int.mul_nonneg (by omega) (by omega)
  rw [Int.add_mul, Int.one_mul] at m2
  have c40 : (2 : Int) ^ 40 = 1099511627776 := by decide
  by_cases hi : i < 2 ^ e
  · have e1 : shN e i = 0 := by unfold shN; rw [if_pos hi]
    have e2 : sbZ e i = i := by unfold sbZ; rw [if_pos hi]
    rw [e1, e2, Int.pow_zero, Int.mul_one] at m1 m3 m4
    rw [e1, Int.pow_zero, Int.one_mul] at m2 m5
    rw [e1, e2, Int.pow_zero, Int.mul_one, Int.one_mul]
    rcases he with rfl | rfl | rfl
    all_goals repeat' (first | (refine cond_by (F := ans) (fun _ => ?_) (fun _ => ?_)) | (refine wayK_by (F := ans) (fun _ hb_ => ?_) (fun _ hb_ => ?_) <;> simp only [hb_]) | (refine wayK_byN (F := ans) (fun _ hb_ => ?_) (fun _ hb_ => ?_) <;> simp only [hb_]) | (refine wayD_by (F := ans) (fun _ hb_ => ?_) (fun _ hb_ => ?_) <;> simp only [hb_]) | (refine wayD_byN (F := ans) (fun _ hb_ => ?_) (fun _ hb_ => ?_) <;> simp only [hb_]) | (refine rdK_by (F := ans) (fun _ => ?_) (fun _ => ?_)) | (refine effK_by (F := ans) (fun _ => ?_) (fun _ => ?_)) | (refine effK_by2 (F := ans) (fun _ => ?_) (fun _ => ?_)) | (refine rdD_by (F := ans) (fun _ => ?_) (fun _ => ?_)) | (refine effD_by (F := ans) (fun _ => ?_) (fun _ => ?_)) | (refine effD_by2 (F := ans) (fun _ => ?_) (fun _ => ?_)) | simp -implicitDefEqProofs (disch := first | omega | (simp only [List.length_append, List.length_cons, List.length_nil, List.length_drop, List.length_take]; omega)) only [evs, tys, lors, Nat.reduceAdd, Nat.reduceSub, Nat.reduceMul, Nat.reducePow, Nat.reduceBEq, Nat.reduceLT, Nat.reduceLeDiff, Nat.reduceEqDiff, Int.reduceLT, Int.reduceLE, Int.reduceEq, Int.reduceNe, Int.reduceToNat, Int.reduceAdd, Int.reduceSub, Int.reduceMul, Int.reducePow, Int.reduceDiv, Int.reduceMod, Int.reduceNeg, reduceCtorEq, codeKey, List.contains, List.elem, Ev.load, peek, pack, storeV, fieldAddr, field, cvB, bits1, Int.pow_zero, Int.mul_one, Int.one_mul])
    all_goals (exfalso; omega)
  · have e1 : shN e i = ((i - 2 ^ e) / 2 ^ (e - 1) + 1).toNat := by unfold shN; rw [if_neg hi]
    have e2 : sbZ e i = (i - 2 ^ e) % 2 ^ (e - 1) + 2 ^ (e - 1) := by unfold sbZ; rw [if_neg hi]
    have e3 : (i - 2 ^ e) / 2 ^ (e - 1) + 1 = (shN e i : Int) := by
      rcases he with rfl | rfl | rfl
      all_goals
        simp only [Nat.reduceSub, Int.reducePow] at *
        omega
    generalize shN e i = sh at *
    generalize sbZ e i = sb at *
    rcases he with rfl | rfl | rfl
    all_goals
      simp only [Nat.reduceSub, Int.reducePow] at *
      repeat' (first | (refine cond_by (F := ans) (fun _ => ?_) (fun _ => ?_)) | (refine wayK_by (F := ans) (fun _ hb_ => ?_) (fun _ hb_ => ?_) <;> simp only [hb_]) | (refine wayK_byN (F := ans) (fun _ hb_ => ?_) (fun _ hb_ => ?_) <;> simp only [hb_]) | (refine wayD_by (F := ans) (fun _ hb_ => ?_) (fun _ hb_ => ?_) <;> simp only [hb_]) | (refine wayD_byN (F := ans) (fun _ hb_ => ?_) (fun _ hb_ => ?_) <;> simp only [hb_]) | (refine rdK_by (F := ans) (fun _ => ?_) (fun _ => ?_)) | (refine effK_by (F := ans) (fun _ => ?_) (fun _ => ?_)) | (refine effK_by2 (F := ans) (fun _ => ?_) (fun _ => ?_)) | (refine rdD_by (F := ans) (fun _ => ?_) (fun _ => ?_)) | (refine effD_by (F := ans) (fun _ => ?_) (fun _ => ?_)) | (refine effD_by2 (F := ans) (fun _ => ?_) (fun _ => ?_)) | simp -implicitDefEqProofs (disch := first | omega | (simp only [List.length_append, List.length_cons, List.length_nil, List.length_drop, List.length_take]; omega)) only [evs, tys, lors, Nat.reduceAdd, Nat.reduceSub, Nat.reduceMul, Nat.reducePow, Nat.reduceBEq, Nat.reduceLT, Nat.reduceLeDiff, Nat.reduceEqDiff, Int.reduceLT, Int.reduceLE, Int.reduceEq, Int.reduceNe, Int.reduceToNat, Int.reduceAdd, Int.reduceSub, Int.reduceMul, Int.reducePow, Int.reduceDiv, Int.reduceMod, Int.reduceNeg, reduceCtorEq, codeKey, List.contains, List.elem, Ev.load, peek, pack, storeV, fieldAddr, field, cvB, bits1, e3, ← e2, Int.one_mul])
    all_goals (exfalso; omega)
abbrev lowZ (L D i : Int) : Int := sbZ (subE D) i * 2 ^ shN (subE D) i * 2 ^ uOf L
abbrev widZ (L D i : Int) : Int := 2 ^ shN (subE D) i * 2 ^ uOf L
def boundsV (L M D i : Int) : V := if RightS L M D then if 0 ≤ i ∧ i ≤ topOf L M D then .tup [.int .i64 (lowZ L D i), .int .i64 (lowZ L D i + widZ L D i - 1), .int .i64 0] else .tup [.int .i64 0, .int .i64 0, .int .i64 2] else .tup [.int .i64 0, .int .i64 0, .int .i64 80]
theorem boundsP_cv (L M D i : Int) (H : Heap) : callV (CL lore) 20 [.agg [.int .i64 L, .int .i64 M, .int .i64 D], .int .i64 i] H = some (boundsV L M D i, H) := by
  refine callV_ans (r := some _) ?_ lore_sh20 rfl H
  rw [call_start lore_ext20 Tryd.func20 rfl lore_okf20 (Nat.le_of_ble_eq_true rfl)]
  unfold boundsV
  by_cases hr : RightS L M D
  · rw [if_pos hr]
    obtain ⟨f1, f2, f3, f4, f5, f6⟩ := x_facts hr (v := M) (by omega) (by omega)
    have hi := fun H => index_cv (uOf L) (subE D) f1 f4 M (by omega) (by omega) H
    simp only [topOf]
    by_cases hv : 0 ≤ i ∧ i ≤ idxZ (subE D) (M / 2 ^ uOf L)
    · rw [if_pos hv]
      have hp : (0 : Int) < 2 ^ uOf L := Int.pow_pos (by decide)
      have hm : M / 2 ^ uOf L * 2 ^ uOf L ≤ M := Int.ediv_mul_le _ (by omega)
      have hb := fun H => bounds_cv (uOf L) (subE D) f1 f4 (M / 2 ^ uOf L) i f2 (by omega) hv.1 hv.2 H
      repeat' (first | (refine cond_by (F := ans) (fun _ => ?_) (fun _ => ?_)) | (refine wayK_by (F := ans) (fun _ hb_ => ?_) (fun _ hb_ => ?_) <;> simp only [hb_]) | (refine wayK_byN (F := ans) (fun _ hb_ => ?_) (fun _ hb_ => ?_) <;> simp only [hb_]) | (refine wayD_by (F := ans) (fun _ hb_ => ?_) (fun _ hb_ => ?_) <;> simp only [hb_]) | (refine wayD_byN (F := ans) (fun _ hb_ => ?_) (fun _ hb_ => ?_) <;> simp only [hb_]) | (refine rdK_by (F := ans) (fun _ => ?_) (fun _ => ?_)) | (refine effK_by (F := ans) (fun _ => ?_) (fun _ => ?_)) | (refine effK_by2 (F := ans) (fun _ => ?_) (fun _ => ?_)) | (refine rdD_by (F := ans) (fun _ => ?_) (fun _ => ?_)) | (refine effD_by (F := ans) (fun _ => ?_) (fun _ => ?_)) | (refine effD_by2 (F := ans) (fun _ => ?_) (fun _ => ?_)) | simp -implicitDefEqProofs (disch := first | omega | (simp only [List.length_append, List.length_cons, List.length_nil, List.length_drop, List.length_take]; omega)) only [evs, tys, lors, Nat.reduceAdd, Nat.reduceSub, Nat.reduceMul, Nat.reducePow, Nat.reduceBEq, Nat.reduceLT, Nat.reduceLeDiff, Nat.reduceEqDiff, Int.reduceLT, Int.reduceLE, Int.reduceEq, Int.reduceNe, Int.reduceToNat, Int.reduceAdd, Int.reduceSub, Int.reduceMul, Int.reducePow, Int.reduceDiv, Int.reduceMod, Int.reduceNeg, reduceCtorEq, codeKey, List.contains, List.elem, Ev.load, peek, pack, storeV, fieldAddr, field, cvB, shaped2_cv, hi, hb])
      all_goals first | rfl | (rw [if_pos (by omega)]; done) | (rw [if_neg (by omega)]; done) | (exfalso; omega)
    · rw [if_neg hv]
      repeat' (first | (refine cond_by (F := ans) (fun _ => ?_) (fun _ => ?_)) | (refine wayK_by (F := ans) (fun _ hb_ => ?_) (fun _ hb_ => ?_) <;> simp only [hb_]) | (refine wayK_byN (F := ans) (fun _ hb_ => ?_) (fun _ hb_ => ?_) <;> simp only [hb_]) | (refine wayD_by (F := ans) (fun _ hb_ => ?_) (fun _ hb_ => ?_) <;> simp only [hb_]) | (refine wayD_byN (F := ans) (fun _ hb_ => ?_) (fun _ hb_ => ?_) <;> simp only [hb_]) | (refine rdK_by (F := ans) (fun _ => ?_) (fun _ => ?_)) | (refine effK_by (F := ans) (fun _ => ?_) (fun _ => ?_)) | (refine effK_by2 (F := ans) (fun _ => ?_) (fun _ => ?_)) | (refine rdD_by (F := ans) (fun _ => ?_) (fun _ => ?_)) | (refine effD_by (F := ans) (fun _ => ?_) (fun _ => ?_)) | (refine effD_by2 (F := ans) (fun _ => ?_) (fun _ => ?_)) | simp -implicitDefEqProofs (disch := first | omega | (simp only [List.length_append, List.length_cons, List.length_nil, List.length_drop, List.length_take]; omega)) only [evs, tys, lors, Nat.reduceAdd, Nat.reduceSub, Nat.reduceMul, Nat.reducePow, Nat.reduceBEq, Nat.reduceLT, Nat.reduceLeDiff, Nat.reduceEqDiff, Int.reduceLT, Int.reduceLE, Int.reduceEq, Int.reduceNe, Int.reduceToNat, Int.reduceAdd, Int.reduceSub, Int.reduceMul, Int.reducePow, Int.reduceDiv, Int.reduceMod, Int.reduceNeg, reduceCtorEq, codeKey, List.contains, List.elem, Ev.load, peek, pack, storeV, fieldAddr, field, cvB, shaped2_cv, hi])
      all_goals first | rfl | (rw [if_pos (by omega)]; done) | (rw [if_neg (by omega)]; done) | (exfalso; omega)
  · rw [if_neg hr]
    repeat' (first | (refine cond_by (F := ans) (fun _ => ?_) (fun _ => ?_)) | (refine wayK_by (F := ans) (fun _ hb_ => ?_) (fun _ hb_ => ?_) <;> simp only [hb_]) | (refine wayK_byN (F := ans) (fun _ hb_ => ?_) (fun _ hb_ => ?_) <;> simp only [hb_]) | (refine wayD_by (F := ans) (fun _ hb_ => ?_) (fun _ hb_ => ?_) <;> simp only [hb_]) | (refine wayD_byN (F := ans) (fun _ hb_ => ?_) (fun _ hb_ => ?_) <;> simp only [hb_]) | (refine rdK_by (F := ans) (fun _ => ?_) (fun _ => ?_)) | (refine effK_by (F := ans) (fun _ => ?_) (fun _ => ?_)) | (refine effK_by2 (F := ans) (fun _ => ?_) (fun _ => ?_)) | (refine rdD_by (F := ans) (fun _ => ?_) (fun _ => ?_)) | (refine effD_by (F := ans) (fun _ => ?_) (fun _ => ?_)) | (refine effD_by2 (F := ans) (fun _ => ?_) (fun _ => ?_)) | simp -implicitDefEqProofs (disch := first | omega | (simp only [List.length_append, List.length_cons, List.length_nil, List.length_drop, List.length_take]; omega)) only [evs, tys, lors, Nat.reduceAdd, Nat.reduceSub, Nat.reduceMul, Nat.reducePow, Nat.reduceBEq, Nat.reduceLT, Nat.reduceLeDiff, Nat.reduceEqDiff, Int.reduceLT, Int.reduceLE, Int.reduceEq, Int.reduceNe, Int.reduceToNat, Int.reduceAdd, Int.reduceSub, Int.reduceMul, Int.reducePow, Int.reduceDiv, Int.reduceMod, Int.reduceNeg, reduceCtorEq, codeKey, List.contains, List.elem, Ev.load, peek, pack, storeV, fieldAddr, field, cvB, shaped2_cv])
    all_goals first | rfl | (rw [if_pos (by omega)]; done) | (rw [if_neg (by omega)]; done) | (exfalso; omega)

theorem st_lo {e : Nat} {i : Int} (h : i < 2 ^ e) : sbZ e i = i ∧ shN e i = 0 := by
  unfold sbZ shN
  rw [if_pos h, if_pos h]
  exact ⟨rfl, rfl⟩
theorem st_hi {e : Nat} {i : Int} (h : ¬ i < 2 ^ e) : sbZ e i = (i - 2 ^ e) % 2 ^ (e - 1) + 2 ^ (e - 1) ∧ shN e i = ((i - 2 ^ e) / 2 ^ (e - 1) + 1).toNat := by
  unfold sbZ shN
  rw [if_neg h, if_neg h]
  exact ⟨rfl, rfl⟩
theorem st_step (e : Nat) (he : Sub3 e) (i : Int) (h0 : 0 ≤ i) : sbZ e i * 2 ^ shN e i + 2 ^ shN e i = sbZ e (i + 1) * 2 ^ shN e (i + 1) := by
  by_cases h1 : i + 1 < 2 ^ e
  · obtain ⟨a1, a2⟩ := st_lo (show i < 2 ^ e by omega)
    obtain ⟨b1, b2⟩ := st_lo h1
    rw [a1, a2, b1, b2, Int.pow_zero]
    omega
  · obtain ⟨b1, b2⟩ := st_hi h1
    by_cases h2 : i < 2 ^ e
    · obtain ⟨a1, a2⟩ := st_lo h2
      have e1 : i = 2 ^ e - 1 := by omega
      have e2 : shN e (i + 1) = 1 := by
        rw [b2]
        rcases he with rfl | rfl | rfl
        all_goals
          simp only [Nat.reduceSub, Int.reducePow] at *
          omega
      rw [a1, a2, b1, e2, Int.pow_zero, e1]
      rcases he with rfl | rfl | rfl
      all_goals
        simp only [Nat.reduceSub, Int.reducePow] at *
        omega
    · obtain ⟨a1, a2⟩ := st_hi h2
      have hc : (shN e (i + 1) = shN e i ∧ sbZ e (i + 1) = sbZ e i + 1) ∨ (shN e (i + 1) = shN e i + 1 ∧ 2 * sbZ e (i + 1) = sbZ e i + 1) := by
        rw [a1, a2, b1, b2]
        rcases he with rfl | rfl | rfl
        all_goals
          simp only [Nat.reduceSub, Int.reducePow] at *
          omega
      rcases hc with ⟨c1, c2⟩ | ⟨c1, c2⟩
      · rw [c1, c2, Int.add_mul, Int.one_mul]
      · rw [c1, Int.pow_succ', ← Int.mul_assoc, Int.mul_comm _ 2, c2, Int.add_mul, Int.one_mul]
theorem idx_in (e : Nat) (he : Sub3 e) (x : Int) (h0 : 0 ≤ x) (h1 : x ≤ 2305843009213693952) : sbZ e (idxZ e x) * 2 ^ shN e (idxZ e x) ≤ x ∧ x < sbZ e (idxZ e x) * 2 ^ shN e (idxZ e x) + 2 ^ shN e (idxZ e x) := by
  have kf := k_facts e (by rcases he with rfl | rfl | rfl <;> decide) x h0 h1
  by_cases hx : x < 2 ^ e
  · have e0 : idxZ e x = x := by unfold idxZ; rw [if_pos hx]
    rw [e0]
    obtain ⟨a1, a2⟩ := st_lo hx
    rw [a1, a2, Int.pow_zero]
    omega
  · obtain ⟨k0, k1, k2⟩ := kf.2.2 hx
    have hk1 : 1 ≤ kOf e x := by
      have := kf.2.1
      unfold kOf
      omega
    have e0 : idxZ e x = 2 ^ e + ((kOf e x : Int) - 1) * 2 ^ (e - 1) + x / 2 ^ kOf e x - 2 ^ (e - 1) := by unfold idxZ; rw [if_neg hx]
    have hp : (0 : Int) < 2 ^ kOf e x := Int.pow_pos (by decide)
    have m1 := Int.mul_ediv_self_le (x := x) (k := 2 ^ kOf e x) (by omega)
    have m2 := Int.lt_mul_ediv_self_add (x := x) hp
    generalize idxZ e x = i at *
    generalize kOf e x = k at *
    have hi : ¬ i < 2 ^ e := by
      generalize x / 2 ^ k = r at *
      rcases he with rfl | rfl | rfl
      all_goals
        simp only [Nat.reduceSub, Int.reducePow] at *
        omega
    obtain ⟨a1, a2⟩ := st_hi hi
    have ha : sbZ e i = x / 2 ^ k ∧ shN e i = k := by
      rw [a1, a2]
      generalize x / 2 ^ k = r at *
      rcases he with rfl | rfl | rfl
      all_goals
        simp only [Nat.reduceSub, Int.reducePow] at *
        omega
    rw [ha.1, ha.2, Int.mul_comm]
    exact ⟨m1, m2⟩
theorem low_step {L D : Int} (hD : 1 ≤ D ∧ D ≤ 3) (i : Int) (h0 : 0 ≤ i) : lowZ L D i + widZ L D i = lowZ L D (i + 1) := by
  unfold lowZ widZ
  rw [← Int.add_mul, st_step _ (sub3 hD) i h0]
theorem wid_pos (L D i : Int) : 0 < widZ L D i := Int.mul_pos (Int.pow_pos (by decide)) (Int.pow_pos (by decide))
theorem low_zero (L : Int) {D : Int} (hD : 1 ≤ D ∧ D ≤ 3) : lowZ L D 0 = 0 := by
  unfold lowZ
  obtain ⟨a1, a2⟩ := st_lo (e := subE D) (i := 0) (Int.pow_pos (by decide))
  rw [a1, Int.zero_mul, Int.zero_mul]
theorem low_mono {L D : Int} (hD : 1 ≤ D ∧ D ≤ 3) (i : Int) (h0 : 0 ≤ i) : ∀ n : Nat, lowZ L D i ≤ lowZ L D (i + n) ∧ (0 < n → lowZ L D i + widZ L D i ≤ lowZ L D (i + n)) := by
  intro n
  induction n with
  | zero => simp
  | succ n ih =>
    have h1 := low_step (L := L) hD (i + n) (by omega)
    have h2 := wid_pos L D (i + n)
    have h3 := low_step (L := L) hD i h0
    have e : i + ((n + 1 : Nat) : Int) = i + n + 1 := by omega
    rw [e]
    refine ⟨by omega, fun _ => ?_⟩
    rcases Nat.eq_zero_or_pos n with rfl | hn
    · simp only [Int.natCast_zero, Int.add_zero] at *; omega
    · have := ih.2 hn; omega
theorem low_lt {L D : Int} (hD : 1 ≤ D ∧ D ≤ 3) (i j : Int) (h0 : 0 ≤ i) (hij : i < j) : lowZ L D i + widZ L D i ≤ lowZ L D j := by
  have := (low_mono (L := L) hD i h0 (j - i).toNat).2 (by omega)
  have e : i + ((j - i).toNat : Int) = j := by omega
  rw [e] at this
  exact this
theorem v_in {L M D : Int} (hr : RightS L M D) (v : Int) (h0 : 0 ≤ v) (h1 : v ≤ 2305843009213693952) : lowZ L D (idxZ (subE D) (v / 2 ^ uOf L)) ≤ v ∧ v < lowZ L D (idxZ (subE D) (v / 2 ^ uOf L)) + widZ L D (idxZ (subE D) (v / 2 ^ uOf L)) := by
  obtain ⟨f1, f2, f3, f4, f5, f6⟩ := x_facts hr h0 h1
  obtain ⟨g1, g2⟩ := idx_in _ f4 _ f2 f3
  have hp : (0 : Int) < 2 ^ uOf L := Int.pow_pos (by decide)
  unfold lowZ widZ
  generalize idxZ (subE D) (v / 2 ^ uOf L) = i at *
  rw [← Int.add_mul]
  exact ⟨(Int.le_ediv_iff_mul_le hp).1 g1, (Int.ediv_lt_iff_lt_mul hp).1 g2⟩
theorem idx_mono {L M D : Int} (hr : RightS L M D) (v w : Int) (h0 : 0 ≤ v) (hw : v ≤ w) (h1 : w ≤ 2305843009213693952) : idxZ (subE D) (v / 2 ^ uOf L) ≤ idxZ (subE D) (w / 2 ^ uOf L) := by
  have a := v_in hr v h0 (by omega)
  have b := v_in hr w (by omega) h1
  obtain ⟨f1, f2, f3, f4, f5, f6⟩ := x_facts hr (show 0 ≤ w by omega) h1
  rcases Int.lt_or_le (idxZ (subE D) (w / 2 ^ uOf L)) (idxZ (subE D) (v / 2 ^ uOf L)) with h | h
  · have := low_lt (L := L) hr.2.2 _ _ f5 h
    omega
  · exact h
end Go.Proofs.YthpfimildcbgmaaDoor
