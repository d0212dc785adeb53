/-
whole: less, and one taken off; Len. How many bits a whole number has: whole.Len.
-/
import Derived.Test.YtacnpljkcpomnaaW3
import Derived.Test.YtacnpljkcpomnaaF1
namespace Go.Proofs.Ytacnpljkcpomnaa
open Go Ev
set_option linter.all false
set_option maxHeartbeats 4000000
set_option maxRecDepth 5000
attribute [local irreducible] codeL condL loopL callL callV evOps evDraw rdK effK wayK oneK wayD oneD rdD effD chks chkB res


theorem sub64_cv (x y c : Int) (hx : 0 ≤ x ∧ x < 18446744073709551616) (hy : 0 ≤ y ∧ y < 18446744073709551616) (hc : c = 0 ∨ c = 1) (H : Heap) : callV (CL lore) 70 [.int .u64 x, .int .u64 y, .int .u64 c] H = some (.tup [.int .u64 ((x - y - c) % 18446744073709551616), .int .u64 (if x < y + c then 1 else 0)], H) := by
  refine callV_ans (r := some _) ?_ lore_sh70 rfl H
  rw [callL_ext (k := outer .sub64) rfl]
  simp only [outer]
  rw [if_pos (by omega)]
  simp only [Option.map_some]
  have e1 : (((x.toNat + 2 ^ 64 - y.toNat - c.toNat) % 2 ^ 64 : Nat) : Int) = (x - y - c) % 18446744073709551616 := by omega
  have e2 : ((if x.toNat < y.toNat + c.toNat then 1 else 0 : Nat) : Int) = if x < y + c then 1 else 0 := by
    split <;> split <;> omega
  rw [e1, e2]
  rfl
theorem lessL (al bs : List Int) (c1 c2 : Bool) (ha1 : Us 18446744073709551616 al) (hb1 : Us 18446744073709551616 bs) (hal : al.length ≤ 1000000) (hbl : bs.length ≤ 1000000) (K : Kont) (R : Option V) (a : Code) (ha : loopIn Try.prog 69 4 = some a) (fin : List Int) (rf : Int)
    (hR : ans (K (.exit 0) (Sl 40 .wild [(0, .sl (enc al) 1 c1), (1, .sl (enc bs) 1 c2), (5, .row 0 al.length), (6, .int .u64 rf), (13, .int .i64 al.length), (14, .int .i64 al.length)]) [⟨enc fin, 1, true, false⟩]) = R) :
    ∀ (xs ad ys pre os : List Int) (r j : Int), al = ad ++ xs → j = ad.length → ys = bs.drop ad.length → pre.length = ad.length → os.length = xs.length → (r = 0 ∨ r = 1) → pre ++ lessW 18446744073709551616 xs ys r = fin → lessR 18446744073709551616 xs ys r = rf →
    ans (loopL lore 69 a (Sl 40 .wild [(0, .sl (enc al) 1 c1), (1, .sl (enc bs) 1 c2), (5, .row 0 al.length), (6, .int .u64 r), (13, .int .i64 al.length), (14, .int .i64 j)]) [⟨enc (pre ++ os), 1, true, false⟩] K) = R := by
  have hk := loop_key ha
  simp only [loopIn, Try.func69, Try.f69, loopAt, Option.bind_some, codeKey, if_true, Option.some.injEq, Nat.reduceEqDiff, if_false] at ha
  intro xs
  induction xs with
  | nil =>
    intro ad ys pre os r j hb hj hy hp ho hr hfin hrf
    simp only [lessW, lessR] at hfin hrf
    obtain rfl : os = [] := List.length_eq_zero_iff.1 ho
    rw [List.append_nil] at hb
    subst hb hj hfin hrf
    rw [loopL_step' ha]
    rw [List.append_nil] at hR
    have e4' := enc_len bs
    repeat' (first | (refine cond_by (F := ans) (fun _ => ?_) (fun _ => ?_)) | (refine wayK_by (F := ans) (fun _ hb_ => ?_) (fun _ hb_ => ?_) <;> simp only [hb_]) | (refine wayK_byN (F := ans) (fun _ hb_ => ?_) (fun _ hb_ => ?_) <;> simp only [hb_]) | (refine wayD_by (F := ans) (fun _ hb_ => ?_) (fun _ hb_ => ?_) <;> simp only [hb_]) | (refine wayD_byN (F := ans) (fun _ hb_ => ?_) (fun _ hb_ => ?_) <;> simp only [hb_]) | (refine rdK_by (F := ans) (fun _ => ?_) (fun _ => ?_)) | (refine effK_by (F := ans) (fun _ => ?_) (fun _ => ?_)) | (refine effK_by2 (F := ans) (fun _ => ?_) (fun _ => ?_)) | (refine rdD_by (F := ans) (fun _ => ?_) (fun _ => ?_)) | (refine effD_by (F := ans) (fun _ => ?_) (fun _ => ?_)) | (refine effD_by2 (F := ans) (fun _ => ?_) (fun _ => ?_)) | simp -implicitDefEqProofs (disch := first | omega | (simp only [List.length_append, List.length_cons, List.length_nil, List.length_drop, List.length_take]; omega)) only [evs, tys, lors, Nat.reduceAdd, Nat.reduceSub, Nat.reduceMul, Nat.reducePow, Nat.reduceBEq, Nat.reduceLT, Nat.reduceLeDiff, Nat.reduceEqDiff, Int.reduceLT, Int.reduceLE, Int.reduceEq, Int.reduceNe, Int.reduceToNat, Int.reduceAdd, Int.reduceSub, Int.reduceMul, Int.reducePow, Int.reduceDiv, Int.reduceMod, Int.reduceNeg, reduceCtorEq, codeKey, List.contains, List.elem, Ev.load, peek, pack, storeV, fieldAddr, field, cvB, hk, e4'])
    all_goals first
      | (exfalso; omega)
      | exact hR
  | cons x xs ih =>
    intro ad ys pre os r j hb hj hy hp ho hr hfin hrf
    cases os with
    | nil => simp at ho
    | cons o os =>
      obtain ⟨hx, hu2⟩ := us_cons.1 (us_append.1 (hb ▸ ha1)).2
      have hu3 : Us 18446744073709551616 ys := hy ▸ fun z hz => hb1 z (List.mem_of_mem_drop hz)
      have hh := headD_us (by decide) hu3
      simp only [lessW, lessR] at hfin hrf
      have e1 : (enc al)[j.toNat]? = some (.int .u64 x) := by
        rw [hb, hj, Int.toNat_natCast]; exact enc_get ad x xs
      have e2 : (enc (pre ++ o :: os))[j.toNat]? = some (.int .u64 o) := by
        rw [show j.toNat = pre.length by omega]; exact enc_get pre o os
      have e3 : ∀ z, (enc (pre ++ o :: os)).set j.toNat (.int .u64 z) = enc (pre ++ z :: os) := fun z => by
        rw [show j.toNat = pre.length by omega]; exact enc_set pre o z os
      have e4 := enc_len al
      have e4' := enc_len bs
      have hl : j < al.length ∧ al.length = ad.length + xs.length + 1 := by rw [hb]; simp; omega
      simp only [List.length_cons] at ho
      have e5 : (enc (pre ++ o :: os)).length = al.length := by rw [enc_len, List.length_append, List.length_cons]; omega
      have next := ih (ad ++ [x]) ys.tail (pre ++ [(x - ys.headD 0 - r) % 18446744073709551616]) os (if x < ys.headD 0 + r then 1 else 0) (j + 1) (by rw [hb, List.append_assoc]; rfl) (by simp; omega) (by rw [hy, List.tail_drop]; simp) (by simp; omega) (by omega) (by split <;> simp) (by rw [← hfin, List.append_assoc]; rfl) hrf
      rw [List.append_assoc] at next
      have e8 : 0 ≤ (if x < ys.headD 0 + r then (1 : Int) else 0) ∧ (if x < ys.headD 0 + r then (1 : Int) else 0) ≤ 1 := by split <;> decide
      have s1 := fun H => sub64_cv x (ys.headD 0) r hx hh hr H
      rcases Nat.lt_or_ge ad.length bs.length with hlt | hge
      · have hdc := List.drop_eq_getElem_cons hlt
        have hyh : ys.headD 0 = bs[ad.length] := by rw [hy, hdc]; rfl
        have e9 : (enc bs)[j.toNat]? = some (.int .u64 (ys.headD 0)) := by
          rw [hj, Int.toNat_natCast, enc, List.getElem?_map, List.getElem?_eq_getElem hlt, hyh]; rfl
        generalize ys.headD 0 = y at *
        generalize (if x < y + r then (1 : Int) else 0) = q at *
        rw [loopL_step' ha]
        repeat' (first | (refine cond_by (F := ans) (fun _ => ?_) (fun _ => ?_)) | (refine wayK_by (F := ans) (fun _ hb_ => ?_) (fun _ hb_ => ?_) <;> simp only [hb_]) | (refine wayK_byN (F := ans) (fun _ hb_ => ?_) (fun _ hb_ => ?_) <;> simp only [hb_]) | (refine wayD_by (F := ans) (fun _ hb_ => ?_) (fun _ hb_ => ?_) <;> simp only [hb_]) | (refine wayD_byN (F := ans) (fun _ hb_ => ?_) (fun _ hb_ => ?_) <;> simp only [hb_]) | (refine rdK_by (F := ans) (fun _ => ?_) (fun _ => ?_)) | (refine effK_by (F := ans) (fun _ => ?_) (fun _ => ?_)) | (refine effK_by2 (F := ans) (fun _ => ?_) (fun _ => ?_)) | (refine rdD_by (F := ans) (fun _ => ?_) (fun _ => ?_)) | (refine effD_by (F := ans) (fun _ => ?_) (fun _ => ?_)) | (refine effD_by2 (F := ans) (fun _ => ?_) (fun _ => ?_)) | simp -implicitDefEqProofs (disch := first | omega | (simp only [List.length_append, List.length_cons, List.length_nil, List.length_drop, List.length_take]; omega)) only [evs, tys, lors, Nat.reduceAdd, Nat.reduceSub, Nat.reduceMul, Nat.reducePow, Nat.reduceBEq, Nat.reduceLT, Nat.reduceLeDiff, Nat.reduceEqDiff, Int.reduceLT, Int.reduceLE, Int.reduceEq, Int.reduceNe, Int.reduceToNat, Int.reduceAdd, Int.reduceSub, Int.reduceMul, Int.reducePow, Int.reduceDiv, Int.reduceMod, Int.reduceNeg, reduceCtorEq, codeKey, List.contains, List.elem, Ev.load, peek, pack, storeV, fieldAddr, field, cvB, hk, e1, e2, e3, e4, e4', e5, e9, s1, implies_true, onElem_int])
        · exact next
        all_goals (exfalso; omega)
      · have hyn : ys = [] := by rw [hy]; exact List.drop_eq_nil_of_le hge
        have hy0 : ys.headD 0 = 0 := by rw [hyn]; rfl
        clear hfin hrf
        generalize ys.headD 0 = y at *
        subst hy0
        generalize (if x < 0 + r then (1 : Int) else 0) = q at *
        rw [loopL_step' ha]
        repeat' (first | (refine cond_by (F := ans) (fun _ => ?_) (fun _ => ?_)) | (refine wayK_by (F := ans) (fun _ hb_ => ?_) (fun _ hb_ => ?_) <;> simp only [hb_]) | (refine wayK_byN (F := ans) (fun _ hb_ => ?_) (fun _ hb_ => ?_) <;> simp only [hb_]) | (refine wayD_by (F := ans) (fun _ hb_ => ?_) (fun _ hb_ => ?_) <;> simp only [hb_]) | (refine wayD_byN (F := ans) (fun _ hb_ => ?_) (fun _ hb_ => ?_) <;> simp only [hb_]) | (refine rdK_by (F := ans) (fun _ => ?_) (fun _ => ?_)) | (refine effK_by (F := ans) (fun _ => ?_) (fun _ => ?_)) | (refine effK_by2 (F := ans) (fun _ => ?_) (fun _ => ?_)) | (refine rdD_by (F := ans) (fun _ => ?_) (fun _ => ?_)) | (refine effD_by (F := ans) (fun _ => ?_) (fun _ => ?_)) | (refine effD_by2 (F := ans) (fun _ => ?_) (fun _ => ?_)) | simp -implicitDefEqProofs (disch := first | omega | (simp only [List.length_append, List.length_cons, List.length_nil, List.length_drop, List.length_take]; omega)) only [evs, tys, lors, Nat.reduceAdd, Nat.reduceSub, Nat.reduceMul, Nat.reducePow, Nat.reduceBEq, Nat.reduceLT, Nat.reduceLeDiff, Nat.reduceEqDiff, Int.reduceLT, Int.reduceLE, Int.reduceEq, Int.reduceNe, Int.reduceToNat, Int.reduceAdd, Int.reduceSub, Int.reduceMul, Int.reducePow, Int.reduceDiv, Int.reduceMod, Int.reduceNeg, reduceCtorEq, codeKey, List.contains, List.elem, Ev.load, peek, pack, storeV, fieldAddr, field, cvB, hk, e1, e2, e3, e4, e4', e5, s1, implies_true, onElem_int])
        · exfalso; omega
        · exact next
        · exfalso; omega
theorem less_cv (al bs : List Int) (c1 c2 : Bool) (ha1 : Us 18446744073709551616 al) (hb1 : Us 18446744073709551616 bs) (hal : al.length ≤ 1000000) (hbl : bs.length ≤ 1000000) (H : Heap) : callV (CL lore) 69 [.sl (enc al) 1 c1, .sl (enc bs) 1 c2] H = some (.sl (enc (lessW 18446744073709551616 al bs 0)) 1 false, H) := by
  refine callV_ans (r := some _) ?_ lore_sh69 rfl H
  rw [call_start lore_ext69 Try.func69 rfl lore_okf69 (Nat.le_of_ble_eq_true rfl)]
  have e4 := enc_len al
  repeat' (first | (refine cond_by (F := ans) (fun _ => ?_) (fun _ => ?_)) | (refine wayK_by (F := ans) (fun _ hb_ => ?_) (fun _ hb_ => ?_) <;> simp only [hb_]) | (refine wayK_byN (F := ans) (fun _ hb_ => ?_) (fun _ hb_ => ?_) <;> simp only [hb_]) | (refine wayD_by (F := ans) (fun _ hb_ => ?_) (fun _ hb_ => ?_) <;> simp only [hb_]) | (refine wayD_byN (F := ans) (fun _ hb_ => ?_) (fun _ hb_ => ?_) <;> simp only [hb_]) | (refine rdK_by (F := ans) (fun _ => ?_) (fun _ => ?_)) | (refine effK_by (F := ans) (fun _ => ?_) (fun _ => ?_)) | (refine effK_by2 (F := ans) (fun _ => ?_) (fun _ => ?_)) | (refine rdD_by (F := ans) (fun _ => ?_) (fun _ => ?_)) | (refine effD_by (F := ans) (fun _ => ?_) (fun _ => ?_)) | (refine effD_by2 (F := ans) (fun _ => ?_) (fun _ => ?_)) | simp -implicitDefEqProofs (disch := first | omega | (simp only [List.length_append, List.length_cons, List.length_nil, List.length_drop, List.length_take]; omega)) only [evs, tys, lors, Nat.reduceAdd, Nat.reduceSub, Nat.reduceMul, Nat.reducePow, Nat.reduceBEq, Nat.reduceLT, Nat.reduceLeDiff, Nat.reduceEqDiff, Int.reduceLT, Int.reduceLE, Int.reduceEq, Int.reduceNe, Int.reduceToNat, Int.reduceAdd, Int.reduceSub, Int.reduceMul, Int.reducePow, Int.reduceDiv, Int.reduceMod, Int.reduceNeg, reduceCtorEq, codeKey, List.contains, List.elem, Ev.load, peek, pack, storeV, fieldAddr, field, cvB, mk73, e4])
  have ez : List.replicate al.length (V.int .u64 0) = enc ([] ++ List.replicate al.length 0) := by
    rw [List.nil_append, enc, List.map_replicate]
  rw [ez]
  refine lessL al bs c1 c2 ha1 hb1 hal hbl _ _ _ (by rfl) _ (lessR 18446744073709551616 al bs 0) ?_ al [] bs [] (List.replicate al.length 0) 0 0 rfl rfl rfl rfl (by simp) (by simp) rfl rfl
  have e6 : (enc (lessW 18446744073709551616 al bs 0)).length = al.length := by rw [enc_len, lessW_len]
  repeat' (first | (refine cond_by (F := ans) (fun _ => ?_) (fun _ => ?_)) | (refine wayK_by (F := ans) (fun _ hb_ => ?_) (fun _ hb_ => ?_) <;> simp only [hb_]) | (refine wayK_byN (F := ans) (fun _ hb_ => ?_) (fun _ hb_ => ?_) <;> simp only [hb_]) | (refine wayD_by (F := ans) (fun _ hb_ => ?_) (fun _ hb_ => ?_) <;> simp only [hb_]) | (refine wayD_byN (F := ans) (fun _ hb_ => ?_) (fun _ hb_ => ?_) <;> simp only [hb_]) | (refine rdK_by (F := ans) (fun _ => ?_) (fun _ => ?_)) | (refine effK_by (F := ans) (fun _ => ?_) (fun _ => ?_)) | (refine effK_by2 (F := ans) (fun _ => ?_) (fun _ => ?_)) | (refine rdD_by (F := ans) (fun _ => ?_) (fun _ => ?_)) | (refine effD_by (F := ans) (fun _ => ?_) (fun _ => ?_)) | (refine effD_by2 (F := ans) (fun _ => ?_) (fun _ => ?_)) | simp -implicitDefEqProofs (disch := first | omega | (simp only [List.length_append, List.length_cons, List.length_nil, List.length_drop, List.length_take]; omega)) only [evs, tys, lors, Nat.reduceAdd, Nat.reduceSub, Nat.reduceMul, Nat.reducePow, Nat.reduceBEq, Nat.reduceLT, Nat.reduceLeDiff, Nat.reduceEqDiff, Int.reduceLT, Int.reduceLE, Int.reduceEq, Int.reduceNe, Int.reduceToNat, Int.reduceAdd, Int.reduceSub, Int.reduceMul, Int.reducePow, Int.reduceDiv, Int.reduceMod, Int.reduceNeg, reduceCtorEq, codeKey, List.contains, List.elem, Ev.load, peek, pack, storeV, fieldAddr, field, cvB, e6, e4])
  all_goals simp [giveP, give, fz2, fz1, e6]
theorem words_len {n : Int} (h : 2 ≤ n) : 1 ≤ (words n).length ∧ ((words n).length = 1 → words n = [n] ∧ n < 18446744073709551616) := by
  obtain ⟨a, x, e, x0, x1, hv, _, _⟩ := words_last (show 0 < n by omega)
  rw [e]
  refine ⟨by simp, fun h1 => ?_⟩
  obtain rfl : a = [] := by simpa using h1
  simp only [wv, List.length_nil, Int.pow_zero, Int.one_mul, Int.zero_add] at hv
  subst hv
  exact ⟨rfl, by rw [p264] at x1; omega⟩
theorem cmp1_cv (n : Int) (h : 2 ≤ n) (hl : (words n).length ≤ 1000000) (c1 c2 b1 b2 : Bool) (H : Heap) : callV (CL lore) 67 [.agg [.bool b1, .sl (enc (words n)) 1 c1], .agg [.bool b2, .sl [.int .u64 1] 1 c2]] H = some (.int .i64 1, H) := by
  refine callV_ans (r := some _) ?_ lore_sh67 rfl H
  rw [call_start lore_ext67 Try.func67 rfl lore_okf67 (Nat.le_of_ble_eq_true rfl)]
  obtain ⟨w1, w2⟩ := words_len h
  have e1 := enc_len (words n)
  by_cases h1 : (words n).length = 1
  · obtain ⟨w3, w4⟩ := w2 h1
    rw [w3]
    simp only [enc, List.map_cons, List.map_nil]
    repeat' (first | (refine cond_by (F := ans) (fun _ => ?_) (fun _ => ?_)) | (refine wayK_by (F := ans) (fun _ hb_ => ?_) (fun _ hb_ => ?_) <;> simp only [hb_]) | (refine wayK_byN (F := ans) (fun _ hb_ => ?_) (fun _ hb_ => ?_) <;> simp only [hb_]) | (refine wayD_by (F := ans) (fun _ hb_ => ?_) (fun _ hb_ => ?_) <;> simp only [hb_]) | (refine wayD_byN (F := ans) (fun _ hb_ => ?_) (fun _ hb_ => ?_) <;> simp only [hb_]) | (refine rdK_by (F := ans) (fun _ => ?_) (fun _ => ?_)) | (refine effK_by (F := ans) (fun _ => ?_) (fun _ => ?_)) | (refine effK_by2 (F := ans) (fun _ => ?_) (fun _ => ?_)) | (refine rdD_by (F := ans) (fun _ => ?_) (fun _ => ?_)) | (refine effD_by (F := ans) (fun _ => ?_) (fun _ => ?_)) | (refine effD_by2 (F := ans) (fun _ => ?_) (fun _ => ?_)) | simp -implicitDefEqProofs (disch := first | omega | (simp only [List.length_append, List.length_cons, List.length_nil, List.length_drop, List.length_take]; omega)) only [evs, tys, lors, Nat.reduceAdd, Nat.reduceSub, Nat.reduceMul, Nat.reducePow, Nat.reduceBEq, Nat.reduceLT, Nat.reduceLeDiff, Nat.reduceEqDiff, Int.reduceLT, Int.reduceLE, Int.reduceEq, Int.reduceNe, Int.reduceToNat, Int.reduceAdd, Int.reduceSub, Int.reduceMul, Int.reducePow, Int.reduceDiv, Int.reduceMod, Int.reduceNeg, reduceCtorEq, codeKey, List.contains, List.elem, Ev.load, peek, pack, storeV, fieldAddr, field, cvB])
    rw [loopL_step' rfl]
    repeat' (first | (refine cond_by (F := ans) (fun _ => ?_) (fun _ => ?_)) | (refine wayK_by (F := ans) (fun _ hb_ => ?_) (fun _ hb_ => ?_) <;> simp only [hb_]) | (refine wayK_byN (F := ans) (fun _ hb_ => ?_) (fun _ hb_ => ?_) <;> simp only [hb_]) | (refine wayD_by (F := ans) (fun _ hb_ => ?_) (fun _ hb_ => ?_) <;> simp only [hb_]) | (refine wayD_byN (F := ans) (fun _ hb_ => ?_) (fun _ hb_ => ?_) <;> simp only [hb_]) | (refine rdK_by (F := ans) (fun _ => ?_) (fun _ => ?_)) | (refine effK_by (F := ans) (fun _ => ?_) (fun _ => ?_)) | (refine effK_by2 (F := ans) (fun _ => ?_) (fun _ => ?_)) | (refine rdD_by (F := ans) (fun _ => ?_) (fun _ => ?_)) | (refine effD_by (F := ans) (fun _ => ?_) (fun _ => ?_)) | (refine effD_by2 (F := ans) (fun _ => ?_) (fun _ => ?_)) | simp -implicitDefEqProofs (disch := first | omega | (simp only [List.length_append, List.length_cons, List.length_nil, List.length_drop, List.length_take]; omega)) only [evs, tys, lors, Nat.reduceAdd, Nat.reduceSub, Nat.reduceMul, Nat.reducePow, Nat.reduceBEq, Nat.reduceLT, Nat.reduceLeDiff, Nat.reduceEqDiff, Int.reduceLT, Int.reduceLE, Int.reduceEq, Int.reduceNe, Int.reduceToNat, Int.reduceAdd, Int.reduceSub, Int.reduceMul, Int.reducePow, Int.reduceDiv, Int.reduceMod, Int.reduceNeg, reduceCtorEq, codeKey, List.contains, List.elem, Ev.load, peek, pack, storeV, fieldAddr, field, cvB])
    all_goals first | rfl | (exfalso; omega)
  · repeat' (first | (refine cond_by (F := ans) (fun _ => ?_) (fun _ => ?_)) | (refine wayK_by (F := ans) (fun _ hb_ => ?_) (fun _ hb_ => ?_) <;> simp only [hb_]) | (refine wayK_byN (F := ans) (fun _ hb_ => ?_) (fun _ hb_ => ?_) <;> simp only [hb_]) | (refine wayD_by (F := ans) (fun _ hb_ => ?_) (fun _ hb_ => ?_) <;> simp only [hb_]) | (refine wayD_byN (F := ans) (fun _ hb_ => ?_) (fun _ hb_ => ?_) <;> simp only [hb_]) | (refine rdK_by (F := ans) (fun _ => ?_) (fun _ => ?_)) | (refine effK_by (F := ans) (fun _ => ?_) (fun _ => ?_)) | (refine effK_by2 (F := ans) (fun _ => ?_) (fun _ => ?_)) | (refine rdD_by (F := ans) (fun _ => ?_) (fun _ => ?_)) | (refine effD_by (F := ans) (fun _ => ?_) (fun _ => ?_)) | (refine effD_by2 (F := ans) (fun _ => ?_) (fun _ => ?_)) | simp -implicitDefEqProofs (disch := first | omega | (simp only [List.length_append, List.length_cons, List.length_nil, List.length_drop, List.length_take]; omega)) only [evs, tys, lors, Nat.reduceAdd, Nat.reduceSub, Nat.reduceMul, Nat.reducePow, Nat.reduceBEq, Nat.reduceLT, Nat.reduceLeDiff, Nat.reduceEqDiff, Int.reduceLT, Int.reduceLE, Int.reduceEq, Int.reduceNe, Int.reduceToNat, Int.reduceAdd, Int.reduceSub, Int.reduceMul, Int.reducePow, Int.reduceDiv, Int.reduceMod, Int.reduceNeg, reduceCtorEq, codeKey, List.contains, List.elem, Ev.load, peek, pack, storeV, fieldAddr, field, cvB, e1])
    all_goals first | rfl | (exfalso; omega)
theorem neg1_cv (c : Bool) (H : Heap) : callV (CL lore) 66 [.agg [.bool false, .sl [.int .u64 1] 1 c]] H = some (.agg [.bool true, .sl [.int .u64 1] 1 c], H) := by
  refine callV_ans (r := some _) ?_ lore_sh66 rfl H
  rw [call_start lore_ext66 Try.func66 rfl lore_okf66 (Nat.le_of_ble_eq_true rfl)]
  have h1 := fun H => made_cv true [1] c (by decide) H
  have e : trim [1] = [1] := rfl
  rw [e, if_pos rfl] at h1
  simp only [enc, List.map_cons, List.map_nil, List.length_cons, List.length_nil, Bool.true_and] at h1
  repeat' (first | (refine cond_by (F := ans) (fun _ => ?_) (fun _ => ?_)) | (refine wayK_by (F := ans) (fun _ hb_ => ?_) (fun _ hb_ => ?_) <;> simp only [hb_]) | (refine wayK_byN (F := ans) (fun _ hb_ => ?_) (fun _ hb_ => ?_) <;> simp only [hb_]) | (refine wayD_by (F := ans) (fun _ hb_ => ?_) (fun _ hb_ => ?_) <;> simp only [hb_]) | (refine wayD_byN (F := ans) (fun _ hb_ => ?_) (fun _ hb_ => ?_) <;> simp only [hb_]) | (refine rdK_by (F := ans) (fun _ => ?_) (fun _ => ?_)) | (refine effK_by (F := ans) (fun _ => ?_) (fun _ => ?_)) | (refine effK_by2 (F := ans) (fun _ => ?_) (fun _ => ?_)) | (refine rdD_by (F := ans) (fun _ => ?_) (fun _ => ?_)) | (refine effD_by (F := ans) (fun _ => ?_) (fun _ => ?_)) | (refine effD_by2 (F := ans) (fun _ => ?_) (fun _ => ?_)) | simp -implicitDefEqProofs (disch := first | omega | (simp only [List.length_append, List.length_cons, List.length_nil, List.length_drop, List.length_take]; omega)) only [evs, tys, lors, Nat.reduceAdd, Nat.reduceSub, Nat.reduceMul, Nat.reducePow, Nat.reduceBEq, Nat.reduceLT, Nat.reduceLeDiff, Nat.reduceEqDiff, Int.reduceLT, Int.reduceLE, Int.reduceEq, Int.reduceNe, Int.reduceToNat, Int.reduceAdd, Int.reduceSub, Int.reduceMul, Int.reducePow, Int.reduceDiv, Int.reduceMod, Int.reduceNeg, reduceCtorEq, codeKey, List.contains, List.elem, Ev.load, peek, pack, storeV, fieldAddr, field, cvB, h1])
  all_goals trace_state
theorem sub1_cv (n : Int) (h : 2 ≤ n) (hl : (words n).length ≤ 1000000) (c1 c2 : Bool) (H : Heap) : callV (CL lore) 50 [.agg [.bool false, .sl (enc (words n)) 1 c1], .agg [.bool false, .sl [.int .u64 1] 1 c2]] H = some (.agg [.bool false, .sl (enc (words (n - 1))) 1 false], H) := by
  have hu := words_us n
  have hv := words_wv (show 0 ≤ n by omega)
  rw [p264] at hu hv
  obtain ⟨w1, w2⟩ := words_len h
  have hu1 : Us 18446744073709551616 [1] := us_cons.2 ⟨by decide, fun x hx => by simp at hx⟩
  obtain ⟨l1, l2, l3⟩ := lessW_val (B := 18446744073709551616) (by decide) (words n) [1] 0 (by simpa using w1) hu hu1 (by simp)
  have l0 := wv_lt (by decide) _ l1
  have la := wv_lt (by decide) _ hu
  rw [lessW_len] at l0
  have hlv : wv 18446744073709551616 (lessW 18446744073709551616 (words n) [1] 0) = n - 1 := by
    simp only [wv, Int.mul_zero, Int.add_zero, Int.sub_zero] at l3
    rw [hv] at l3 la
    generalize (18446744073709551616 : Int) ^ (words n).length = P at *
    rcases l2 with h2 | h2 <;> rw [h2] at l3
    · omega
    · omega
  have hadd : ∀ H, callV (CL lore) 65 [.agg [.bool false, .sl (enc (words n)) 1 c1], .agg [.bool true, .sl [.int .u64 1] 1 c2]] H = some (.agg [.bool false, .sl (enc (words (n - 1))) 1 false], H) := by
    intro H
    refine callV_ans (r := some _) ?_ lore_sh65 rfl H
    rw [call_start lore_ext65 Try.func65 rfl lore_okf65 (Nat.le_of_ble_eq_true rfl)]
    have h1 := fun H => cmp1_cv n h hl c1 c2 false true H
    have h2 := fun H => less_cv (words n) [1] c1 c2 hu hu1 hl (by decide) H
    have h3 := fun H => made_cv false (lessW 18446744073709551616 (words n) [1] 0) false (by rw [lessW_len]; omega) H
    rw [trim_eq (by rw [p264]; exact l1), p264, hlv] at h3
    have h4 : ∀ H, callV (CL lore) 62 [.bool false, .sl (enc (lessW 18446744073709551616 (words n) [1] 0)) 1 false] H = some (.agg [.bool false, .sl (enc (words (n - 1))) 1 false], H) := fun H => by
      rw [h3 H]
      congr 6
      split <;> rfl
    have e0 : enc [1] = [.int .u64 1] := rfl
    rw [e0] at h2
    repeat' (first | (refine cond_by (F := ans) (fun _ => ?_) (fun _ => ?_)) | (refine wayK_by (F := ans) (fun _ hb_ => ?_) (fun _ hb_ => ?_) <;> simp only [hb_]) | (refine wayK_byN (F := ans) (fun _ hb_ => ?_) (fun _ hb_ => ?_) <;> simp only [hb_]) | (refine wayD_by (F := ans) (fun _ hb_ => ?_) (fun _ hb_ => ?_) <;> simp only [hb_]) | (refine wayD_byN (F := ans) (fun _ hb_ => ?_) (fun _ hb_ => ?_) <;> simp only [hb_]) | (refine rdK_by (F := ans) (fun _ => ?_) (fun _ => ?_)) | (refine effK_by (F := ans) (fun _ => ?_) (fun _ => ?_)) | (refine effK_by2 (F := ans) (fun _ => ?_) (fun _ => ?_)) | (refine rdD_by (F := ans) (fun _ => ?_) (fun _ => ?_)) | (refine effD_by (F := ans) (fun _ => ?_) (fun _ => ?_)) | (refine effD_by2 (F := ans) (fun _ => ?_) (fun _ => ?_)) | simp -implicitDefEqProofs (disch := first | omega | (simp only [List.length_append, List.length_cons, List.length_nil, List.length_drop, List.length_take]; omega)) only [evs, tys, lors, Nat.reduceAdd, Nat.reduceSub, Nat.reduceMul, Nat.reducePow, Nat.reduceBEq, Nat.reduceLT, Nat.reduceLeDiff, Nat.reduceEqDiff, Int.reduceLT, Int.reduceLE, Int.reduceEq, Int.reduceNe, Int.reduceToNat, Int.reduceAdd, Int.reduceSub, Int.reduceMul, Int.reducePow, Int.reduceDiv, Int.reduceMod, Int.reduceNeg, reduceCtorEq, codeKey, List.contains, List.elem, Ev.load, peek, pack, storeV, fieldAddr, field, cvB, h1, h2, h4, eqB_eql])
    all_goals trace_state
  refine callV_ans (r := some _) ?_ lore_sh50 rfl H
  rw [call_start lore_ext50 Try.func50 rfl lore_okf50 (Nat.le_of_ble_eq_true rfl)]
  have h5 := neg1_cv c2
  repeat' (first | (refine cond_by (F := ans) (fun _ => ?_) (fun _ => ?_)) | (refine wayK_by (F := ans) (fun _ hb_ => ?_) (fun _ hb_ => ?_) <;> simp only [hb_]) | (refine wayK_byN (F := ans) (fun _ hb_ => ?_) (fun _ hb_ => ?_) <;> simp only [hb_]) | (refine wayD_by (F := ans) (fun _ hb_ => ?_) (fun _ hb_ => ?_) <;> simp only [hb_]) | (refine wayD_byN (F := ans) (fun _ hb_ => ?_) (fun _ hb_ => ?_) <;> simp only [hb_]) | (refine rdK_by (F := ans) (fun _ => ?_) (fun _ => ?_)) | (refine effK_by (F := ans) (fun _ => ?_) (fun _ => ?_)) | (refine effK_by2 (F := ans) (fun _ => ?_) (fun _ => ?_)) | (refine rdD_by (F := ans) (fun _ => ?_) (fun _ => ?_)) | (refine effD_by (F := ans) (fun _ => ?_) (fun _ => ?_)) | (refine effD_by2 (F := ans) (fun _ => ?_) (fun _ => ?_)) | simp -implicitDefEqProofs (disch := first | omega | (simp only [List.length_append, List.length_cons, List.length_nil, List.length_drop, List.length_take]; omega)) only [evs, tys, lors, Nat.reduceAdd, Nat.reduceSub, Nat.reduceMul, Nat.reducePow, Nat.reduceBEq, Nat.reduceLT, Nat.reduceLeDiff, Nat.reduceEqDiff, Int.reduceLT, Int.reduceLE, Int.reduceEq, Int.reduceNe, Int.reduceToNat, Int.reduceAdd, Int.reduceSub, Int.reduceMul, Int.reducePow, Int.reduceDiv, Int.reduceMod, Int.reduceNeg, reduceCtorEq, codeKey, List.contains, List.elem, Ev.load, peek, pack, storeV, fieldAddr, field, cvB, hadd, h5])
  all_goals trace_state


/-- How many bits. -/
def bl (n : Int) : Nat := if n ≤ 0 then 0 else n.toNat.log2 + 1
theorem bl_of {n : Int} {k : Nat} (h0 : 2 ^ k ≤ n) (h1 : n < 2 ^ (k + 1)) : bl n = k + 1 := by
  have hp : (0 : Int) < 2 ^ k := Int.pow_pos (by decide)
  unfold bl
  rw [if_neg (by omega)]
  obtain ⟨m, rfl⟩ : ∃ m : Nat, n = m := ⟨n.toNat, by omega⟩
  rw [Int.toNat_natCast, log2_of (k := k) (by exact_mod_cast h0) (by exact_mod_cast h1)]
theorem bl_facts {n : Int} (h : 0 < n) : 1 ≤ bl n ∧ 2 ^ (bl n - 1) ≤ n ∧ n < 2 ^ bl n := by
  obtain ⟨m, rfl⟩ : ∃ m : Nat, n = m := ⟨n.toNat, by omega⟩
  have hm : m ≠ 0 := by omega
  obtain ⟨a, b⟩ := (Nat.log2_eq_iff hm).1 rfl
  unfold bl
  rw [if_neg (by omega), Int.toNat_natCast, Nat.add_sub_cancel]
  exact ⟨by omega, by exact_mod_cast a, by exact_mod_cast b⟩
theorem bl_zero : bl 0 = 0 := rfl
theorem len_cv (n : Int) (h : 0 ≤ n) (hl : (words n).length ≤ 1000000) (b c : Bool) (H : Heap) : callV (CL lore) 51 [.agg [.bool b, .sl (enc (words n)) 1 c]] H = some (.int .i64 (bl n), H) := by
  refine callV_ans (r := some _) ?_ lore_sh51 rfl H
  rw [call_start lore_ext51 Try.func51 rfl lore_okf51 (Nat.le_of_ble_eq_true rfl)]
  by_cases h0 : n = 0
  · subst h0
    have e : words 0 = [] := by decide
    have e1 : (enc []).length = 0 := rfl
    rw [e]
    repeat' (first | (refine cond_by (F := ans) (fun _ => ?_) (fun _ => ?_)) | (refine wayK_by (F := ans) (fun _ hb_ => ?_) (fun _ hb_ => ?_) <;> simp only [hb_]) | (refine wayK_byN (F := ans) (fun _ hb_ => ?_) (fun _ hb_ => ?_) <;> simp only [hb_]) | (refine wayD_by (F := ans) (fun _ hb_ => ?_) (fun _ hb_ => ?_) <;> simp only [hb_]) | (refine wayD_byN (F := ans) (fun _ hb_ => ?_) (fun _ hb_ => ?_) <;> simp only [hb_]) | (refine rdK_by (F := ans) (fun _ => ?_) (fun _ => ?_)) | (refine effK_by (F := ans) (fun _ => ?_) (fun _ => ?_)) | (refine effK_by2 (F := ans) (fun _ => ?_) (fun _ => ?_)) | (refine rdD_by (F := ans) (fun _ => ?_) (fun _ => ?_)) | (refine effD_by (F := ans) (fun _ => ?_) (fun _ => ?_)) | (refine effD_by2 (F := ans) (fun _ => ?_) (fun _ => ?_)) | simp -implicitDefEqProofs (disch := first | omega | (simp only [List.length_append, List.length_cons, List.length_nil, List.length_drop, List.length_take]; omega)) only [evs, tys, lors, Nat.reduceAdd, Nat.reduceSub, Nat.reduceMul, Nat.reducePow, Nat.reduceBEq, Nat.reduceLT, Nat.reduceLeDiff, Nat.reduceEqDiff, Int.reduceLT, Int.reduceLE, Int.reduceEq, Int.reduceNe, Int.reduceToNat, Int.reduceAdd, Int.reduceSub, Int.reduceMul, Int.reducePow, Int.reduceDiv, Int.reduceMod, Int.reduceNeg, reduceCtorEq, codeKey, List.contains, List.elem, Ev.load, peek, pack, storeV, fieldAddr, field, cvB, e1])
    rfl
  · obtain ⟨p, x, e, x0, x1, hv, v0, v1⟩ := words_last (show 0 < n by omega)
    rw [p264] at x1 v0 v1
    rw [e] at hl ⊢
    have e1 := enc_len (p ++ [x])
    have e2 := enc_get p x []
    have e3 : (p ++ [x]).length = p.length + 1 := by simp
    rw [e3] at e1 hl
    have e4 : (((p.length + 1 : Nat) : Int) - 1).toNat = p.length := by omega
    have hb := fun H => len64_cv x (by omega) (by omega) H
    obtain ⟨b1, b2, b3⟩ := bitLen_bounds x.toNat (by omega) (by omega)
    have hbl : bl n = (p.length * 64 + (Lib.bitLen x.toNat - 1)) + 1 := by
      have e5 : (18446744073709551616 : Int) = 2 ^ 64 := p264.symm
      rw [p264, e5] at hv
      rw [e5] at v0 v1
      rw [← Int.pow_mul] at hv v1
      obtain ⟨m, rfl⟩ : ∃ m : Nat, x = m := ⟨x.toNat, by omega⟩
      rw [Int.toNat_natCast] at *
      have c2 : (2 : Int) ^ (Lib.bitLen m - 1) ≤ m := by exact_mod_cast b2
      have c3 : (m : Int) + 1 ≤ 2 ^ Lib.bitLen m := by exact_mod_cast b3
      have hP : (0 : Int) < 2 ^ (64 * p.length) := Int.pow_pos (by decide)
      have m1 := Int.mul_le_mul_of_nonneg_left c2 (show (0 : Int) ≤ 2 ^ (64 * p.length) by omega)
      have m2 := Int.mul_le_mul_of_nonneg_left c3 (show (0 : Int) ≤ 2 ^ (64 * p.length) by omega)
      rw [← Int.pow_add] at m1 m2
      rw [Int.mul_add, Int.mul_one] at m2
      refine bl_of ?_ ?_
      · rw [Nat.mul_comm p.length]; omega
      · rw [show p.length * 64 + (Lib.bitLen m - 1) + 1 = 64 * p.length + Lib.bitLen m by omega]; omega
    have hbb := bitLen_le (n := x.toNat) (b := 64) (by omega) (by omega) (by omega)
    have e6 : (p.length : Int) * 64 + (Lib.bitLen x.toNat : Int) = (bl n : Int) := by rw [hbl]; omega
    have e7 : ((p.length + 1 : Nat) : Int) - 1 = p.length := by omega
    repeat' (first | (refine cond_by (F := ans) (fun _ => ?_) (fun _ => ?_)) | (refine wayK_by (F := ans) (fun _ hb_ => ?_) (fun _ hb_ => ?_) <;> simp only [hb_]) | (refine wayK_byN (F := ans) (fun _ hb_ => ?_) (fun _ hb_ => ?_) <;> simp only [hb_]) | (refine wayD_by (F := ans) (fun _ hb_ => ?_) (fun _ hb_ => ?_) <;> simp only [hb_]) | (refine wayD_byN (F := ans) (fun _ hb_ => ?_) (fun _ hb_ => ?_) <;> simp only [hb_]) | (refine rdK_by (F := ans) (fun _ => ?_) (fun _ => ?_)) | (refine effK_by (F := ans) (fun _ => ?_) (fun _ => ?_)) | (refine effK_by2 (F := ans) (fun _ => ?_) (fun _ => ?_)) | (refine rdD_by (F := ans) (fun _ => ?_) (fun _ => ?_)) | (refine effD_by (F := ans) (fun _ => ?_) (fun _ => ?_)) | (refine effD_by2 (F := ans) (fun _ => ?_) (fun _ => ?_)) | simp -implicitDefEqProofs (disch := first | omega | (simp only [List.length_append, List.length_cons, List.length_nil, List.length_drop, List.length_take]; omega)) only [evs, tys, lors, Nat.reduceAdd, Nat.reduceSub, Nat.reduceMul, Nat.reducePow, Nat.reduceBEq, Nat.reduceLT, Nat.reduceLeDiff, Nat.reduceEqDiff, Int.reduceLT, Int.reduceLE, Int.reduceEq, Int.reduceNe, Int.reduceToNat, Int.reduceAdd, Int.reduceSub, Int.reduceMul, Int.reducePow, Int.reduceDiv, Int.reduceMod, Int.reduceNeg, reduceCtorEq, codeKey, List.contains, List.elem, Ev.load, peek, pack, storeV, fieldAddr, field, cvB, e1, e2, e4, hb, e6, e7])
    all_goals first
      | (exfalso; omega)
      | trace_state
end Go.Proofs.Ytacnpljkcpomnaa
