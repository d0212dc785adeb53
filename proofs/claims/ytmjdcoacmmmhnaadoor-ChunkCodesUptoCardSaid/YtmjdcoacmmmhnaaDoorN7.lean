/-
The reference's Decode: the second point and those behind it. The reference's Decode. The reference's Decode answers what Decode does.
-/
import Derived.Test.YtmjdcoacmmmhnaaDoorN4
import Derived.Test.YtmjdcoacmmmhnaaDoorL1
namespace Go.Proofs.YtmjdcoacmmmhnaaDoor
open Go Ev
set_option linter.all false
set_option maxHeartbeats 4000000
set_option maxRecDepth 5000
attribute [local irreducible] codeL condL loopL callL callV evOps evDraw rdK effK wayK oneK wayD oneD rdD effD chks chkB res


attribute [local irreducible] QB

/-- The boxes behind a point: two frames made, the frame written, the point appended. -/
def HN (H : Heap) (F r : Nat) (g : Fr) (o : List (Int × Nat)) : Heap := ((H ++ [FB g] ++ [FB g]).set F (FB g)).set r ⟨encD o, 2, true, false⟩
theorem hn_len {H : Heap} {F r : Nat} {g : Fr} {o : List (Int × Nat)} : (HN H F r g o).length = H.length + 2 := by unfold HN; simp
theorem hn_r {H : Heap} {F r : Nat} {g : Fr} {o : List (Int × Nat)} (hr : r < H.length) : (HN H F r g o)[r]? = some ⟨encD o, 2, true, false⟩ := by
  unfold HN
  rw [List.getElem?_set_self (by simp; omega)]
theorem hn_F {H : Heap} {F r : Nat} {g : Fr} {o : List (Int × Nat)} (hF : F < H.length) (hr : F < r) : (HN H F r g o)[F]? = some (FB g) := by
  unfold HN
  rw [List.getElem?_set_ne (by omega), List.getElem?_set_self (by simp; omega)]
theorem hn_q {H : Heap} {F r B : Nat} {g : Fr} {o : List (Int × Nat)} {bv : V} {L : List Int} (h : QOk H bv L B) (hF : B < F) (hr : F < r) : QOk (HN H F r g o) bv L B := by
  unfold HN
  exact qok_set (qok_set (qok_app (qok_app h _) _) (by omega) _) (by omega) _
theorem stepR1 (L : List Int) (h01 : Bits01 L) (hL : L.length ≤ 2000000000) (v0 : V) (bv : V) (B F n : Nat) (hn : 1 < n) (hB : B < F) (K : Kont) (Rb R : Option V) (a : Code) (ha : loopIn Tryd.prog 12 14 = some a)
    (hBad : ∀ (H' : Heap) (v8 v9 v10 v11 v13 : V) (p : Int), 0 < H'.length → ans (K (.exit 2) (slR v0 n v8 v9 v10 v11 v13 F) (QB H' bv p true)) = Rb)
    (d : DS) (hd : DOk L d) (hs : d.short L = false) (hi : d.i = 1) (H : Heap) (h0 : 0 < H.length) (hq : QOk H bv L B) (r : Nat) (hF : F < r) (hr : r < H.length) (hHF : H[F]? = some (FB d.fr)) (out : List (Int × Nat)) (hol : out.length = 1) (hHr : H[r]? = some ⟨encD out, 2, true, false⟩)
    (hR : (decPt L d).short L = false → ans (loopL lore 12 a (slR v0 n (.row r 2) (.int .u64 ((decPt L d).at_ % 18446744073709551616)) (.int .u64 (decPt L d).step) (.int .u64 ((decPt L d).value : Nat)) (.int .i64 2) F) (QB (HN H F r (decPt L d).fr (out ++ [((decPt L d).at_, (decPt L d).value)])) bv ((decPt L d).p : Nat) false) K) = R)
    (hRb : (decPt L d).short L = true → R = Rb) :
    ans (loopL lore 12 a (slR v0 n (.row r 1) (.int .u64 (d.at_ % 18446744073709551616)) (.int .u64 d.step) (.int .u64 (d.value : Nat)) (.int .i64 1) F) (QB H bv (d.p : Nat) false) K) = R := by
  have hk := loop_key ha
  simp only [loopIn, Tryd.func12, Tryd.f12, loopAt, Option.bind_some, codeKey, if_true, Option.some.injEq, Nat.reduceEqDiff, if_false] at ha
  obtain ⟨k1, k2, k3, k4', k5⟩ := hd
  have k4 := k4' hs
  clear k4'
  obtain ⟨hb, hp⟩ := sh_false hs
  obtain ⟨i, p, at_, st, v, f, bad⟩ := d
  simp only at hb hp hi k1 k2 k3 k4 hHF
  subst hb hi
  clear hs k5
  obtain ⟨d1, d2⟩ := dec1 L h01 p at_ st v f
  have hvb := varQ_bd L h01 10 0 0 p rfl (by decide) (fun _ => by decide)
  have hv := rvar_cv H h0 bv L B hq h01 hL p (by omega)
  have hx := rvalue_cv H h0 bv L B hq h01 hL f k4 (varQ L 10 0 0 p).2.1 (by omega) (varQ L 10 0 0 p).2.2 v k3
  have hxg := xorP_ge L h01 (varQ L 10 0 0 p).2.1 f
  have hxb := xorP_bd L h01 (varQ L 10 0 0 p).2.1 f k4
  have hsh : ((varQ L 10 0 0 p).2.2 || decide (L.length < (xorP L (varQ L 10 0 0 p).2.1 f).2.1) || (xorP L (varQ L 10 0 0 p).2.1 f).2.2.2) = (decPt L ⟨1, p, at_, st, v, f, false⟩).short L := d1.symm
  rw [hsh] at hx d2
  generalize (decPt L ⟨1, p, at_, st, v, f, false⟩).short L = fl at *
  clear d1
  have hfb2 : (xorP L (varQ L 10 0 0 p).2.1 f).2.2.2 = true → fl = true := fun h => by rw [← hsh, h, Bool.or_true]
  clear hsh
  generalize (xorP L (varQ L 10 0 0 p).2.1 f).2.2.2 = xb at *
  generalize (xorP L (varQ L 10 0 0 p).2.1 f).2.2.1 = g at *
  generalize (xorP L (varQ L 10 0 0 p).2.1 f).2.1 = q at *
  generalize (xorP L (varQ L 10 0 0 p).2.1 f).1 = x at *
  generalize (varQ L 10 0 0 p).2.2 = s at *
  generalize (varQ L 10 0 0 p).2.1 = Q at *
  generalize (varQ L 10 0 0 p).1 = X at *
  obtain ⟨w, hw, hwb, hwx⟩ : ∃ w : Nat, (if xb = true then (0 : Int) else ((v ^^^ x.toNat : Nat) : Int)) = w ∧ w < 2 ^ 64 ∧ (fl = false → v ^^^ x.toNat = w) := by
    cases xb with
    | true => exact ⟨0, rfl, by decide, fun h => by rw [hfb2 rfl] at h; cases h⟩
    | false => exact ⟨v ^^^ x.toNat, rfl, Nat.xor_lt_two_pow k3 (by omega), fun _ => rfl⟩
  rw [hw] at hx
  have hfb := frombits_cv w hwb
  have hA : -9223372036854775808 ≤ wrapS (at_ + X) ∧ wrapS (at_ + X) ≤ 9223372036854775807 := by unfold wrapS; omega
  have hat : IntKind.u64.wrap (at_ % 18446744073709551616 + X) = wrapS (at_ + X) % 18446744073709551616 := by rw [IntKind.wrap_u64]; unfold wrapS; omega
  generalize wrapS (at_ + X) = A at *
  have hai : IntKind.i64.wrap (A % 18446744073709551616) = A := by rw [IntKind.wrap_i64]; omega
  have hn0 : (1 : Int) < (n : Int) := by omega
  have hap := fun (p' : Int) (s' : Bool) => appD_row (H := QB ((H ++ [FB g] ++ [FB g]).set F (FB g)) bv p' s') (i := r) (tot := 1) (l := out) (p := (A, w)) (by rw [qb_get (by omega), List.getElem?_set_ne (by omega), List.append_assoc, List.getElem?_append_left hr, hHr]) hol (by decide)
  simp only [qb_set (show ¬ r = 0 by omega)] at hap
  have hHN : ((H ++ [FB g] ++ [FB g]).set F (FB g)).set r ⟨encD (out ++ [(A, w)]), 2, true, false⟩ = HN H F r g (out ++ [(A, w)]) := rfl
  rw [hHN] at hap
  have hFlen := lt_of_get hHF
  have hgF : (H ++ [FB g] ++ [FB g])[F]? = some (FB f) := by rw [List.append_assoc, List.getElem?_append_left hFlen, hHF]
  have hF0 : ¬ F = 0 := by omega
  have hfin : ans (loopL lore 12 a (slR v0 n (.row r 2) (.int .u64 (A % 18446744073709551616)) (.int .u64 X) (.int .u64 (w : Nat)) (.int .i64 2) F) (QB (HN H F r g (out ++ [(A, w)])) bv (q : Nat) fl) K) = R := by
    cases fl with
    | false =>
      have hR := hR rfl
      rw [d2 rfl] at hR
      simp only [hwx rfl] at hR
      exact hR
    | true =>
      rw [hRb rfl]
      have lB : 0 < (HN H F r g (out ++ [(A, w)])).length := by rw [hn_len]; omega
      generalize HN H F r g (out ++ [(A, w)]) = H' at *
      rw [loopL_step' ha]
      by_cases h1 : (2 : Int) < (n : Int)
      · repeat' (first | (refine cond_by (F := ans) (fun _ => ?_) (fun _ => ?_)) | (refine wayK_by (F := ans) (fun _ hb_ => ?_) (fun _ hb_ => ?_) <;> simp only [hb_]) | (refine wayK_byN (F := ans) (fun _ hb_ => ?_) (fun _ hb_ => ?_) <;> simp only [hb_]) | (refine wayD_by (F := ans) (fun _ hb_ => ?_) (fun _ hb_ => ?_) <;> simp only [hb_]) | (refine wayD_byN (F := ans) (fun _ hb_ => ?_) (fun _ hb_ => ?_) <;> simp only [hb_]) | (refine rdK_by (F := ans) (fun _ => ?_) (fun _ => ?_)) | (refine effK_by (F := ans) (fun _ => ?_) (fun _ => ?_)) | (refine effK_by2 (F := ans) (fun _ => ?_) (fun _ => ?_)) | (refine rdD_by (F := ans) (fun _ => ?_) (fun _ => ?_)) | (refine effD_by (F := ans) (fun _ => ?_) (fun _ => ?_)) | (refine effD_by2 (F := ans) (fun _ => ?_) (fun _ => ?_)) | simp -implicitDefEqProofs (disch := first | omega | (simp only [List.length_append, List.length_cons, List.length_nil, List.length_drop, List.length_take]; omega)) only [evs, tys, lors, Nat.reduceAdd, Nat.reduceSub, Nat.reduceMul, Nat.reducePow, Nat.reduceBEq, Nat.reduceLT, Nat.reduceLeDiff, Nat.reduceEqDiff, Int.reduceLT, Int.reduceLE, Int.reduceEq, Int.reduceNe, Int.reduceToNat, Int.reduceAdd, Int.reduceSub, Int.reduceMul, Int.reducePow, Int.reduceDiv, Int.reduceMod, Int.reduceNeg, reduceCtorEq, codeKey, List.contains, List.elem, Ev.load, peek, pack, storeV, fieldAddr, field, cvB, hk, h1, qb_0 lB, decide_true])
        exact hBad _ _ _ _ _ _ _ lB
      · repeat' (first | (refine cond_by (F := ans) (fun _ => ?_) (fun _ => ?_)) | (refine wayK_by (F := ans) (fun _ hb_ => ?_) (fun _ hb_ => ?_) <;> simp only [hb_]) | (refine wayK_byN (F := ans) (fun _ hb_ => ?_) (fun _ hb_ => ?_) <;> simp only [hb_]) | (refine wayD_by (F := ans) (fun _ hb_ => ?_) (fun _ hb_ => ?_) <;> simp only [hb_]) | (refine wayD_byN (F := ans) (fun _ hb_ => ?_) (fun _ hb_ => ?_) <;> simp only [hb_]) | (refine rdK_by (F := ans) (fun _ => ?_) (fun _ => ?_)) | (refine effK_by (F := ans) (fun _ => ?_) (fun _ => ?_)) | (refine effK_by2 (F := ans) (fun _ => ?_) (fun _ => ?_)) | (refine rdD_by (F := ans) (fun _ => ?_) (fun _ => ?_)) | (refine effD_by (F := ans) (fun _ => ?_) (fun _ => ?_)) | (refine effD_by2 (F := ans) (fun _ => ?_) (fun _ => ?_)) | simp -implicitDefEqProofs (disch := first | omega | (simp only [List.length_append, List.length_cons, List.length_nil, List.length_drop, List.length_take]; omega)) only [evs, tys, lors, Nat.reduceAdd, Nat.reduceSub, Nat.reduceMul, Nat.reducePow, Nat.reduceBEq, Nat.reduceLT, Nat.reduceLeDiff, Nat.reduceEqDiff, Int.reduceLT, Int.reduceLE, Int.reduceEq, Int.reduceNe, Int.reduceToNat, Int.reduceAdd, Int.reduceSub, Int.reduceMul, Int.reducePow, Int.reduceDiv, Int.reduceMod, Int.reduceNeg, reduceCtorEq, codeKey, List.contains, List.elem, Ev.load, peek, pack, storeV, fieldAddr, field, cvB, hk, h1, qb_0 lB, decide_false])
        exact hBad _ _ _ _ _ _ _ lB
  rw [loopL_step' ha]
  repeat' (first | (refine cond_by (F := ans) (fun _ => ?_) (fun _ => ?_)) | (refine wayK_by (F := ans) (fun _ hb_ => ?_) (fun _ hb_ => ?_) <;> simp only [hb_]) | (refine wayK_byN (F := ans) (fun _ hb_ => ?_) (fun _ hb_ => ?_) <;> simp only [hb_]) | (refine wayD_by (F := ans) (fun _ hb_ => ?_) (fun _ hb_ => ?_) <;> simp only [hb_]) | (refine wayD_byN (F := ans) (fun _ hb_ => ?_) (fun _ hb_ => ?_) <;> simp only [hb_]) | (refine rdK_by (F := ans) (fun _ => ?_) (fun _ => ?_)) | (refine effK_by (F := ans) (fun _ => ?_) (fun _ => ?_)) | (refine effK_by2 (F := ans) (fun _ => ?_) (fun _ => ?_)) | (refine rdD_by (F := ans) (fun _ => ?_) (fun _ => ?_)) | (refine effD_by (F := ans) (fun _ => ?_) (fun _ => ?_)) | (refine effD_by2 (F := ans) (fun _ => ?_) (fun _ => ?_)) | simp -implicitDefEqProofs (disch := first | omega | (simp only [List.length_append, List.length_cons, List.length_nil, List.length_drop, List.length_take]; omega)) only [evs, tys, lors, Nat.reduceAdd, Nat.reduceSub, Nat.reduceMul, Nat.reducePow, Nat.reduceBEq, Nat.reduceLT, Nat.reduceLeDiff, Nat.reduceEqDiff, Int.reduceLT, Int.reduceLE, Int.reduceEq, Int.reduceNe, Int.reduceToNat, Int.reduceAdd, Int.reduceSub, Int.reduceMul, Int.reducePow, Int.reduceDiv, Int.reduceMod, Int.reduceNeg, reduceCtorEq, codeKey, List.contains, List.elem, Ev.load, peek, pack, storeV, fieldAddr, field, cvB, hk, hn0, qb_0 h0, hv, hx, hat, hai, hfb, hap, hHF, hgF, qb_get hF0, qb_set hF0, srcD_sl, elem22, decide_true, decide_false])
  all_goals first | exact hfin | trace_state
theorem stepR2 (L : List Int) (h01 : Bits01 L) (hL : L.length ≤ 2000000000) (v0 : V) (bv : V) (B F n m : Nat) (hn : m + 2 < n) (hm : m ≤ 100000) (hB : B < F) (K : Kont) (Rb R : Option V) (a : Code) (ha : loopIn Tryd.prog 12 14 = some a)
    (hBad : ∀ (H' : Heap) (v8 v9 v10 v11 v13 : V) (p : Int), 0 < H'.length → ans (K (.exit 2) (slR v0 n v8 v9 v10 v11 v13 F) (QB H' bv p true)) = Rb)
    (d : DS) (hd : DOk L d) (hs : d.short L = false) (hi : d.i = m + 2) (H : Heap) (h0 : 0 < H.length) (hq : QOk H bv L B) (r : Nat) (hF : F < r) (hr : r < H.length) (hHF : H[F]? = some (FB d.fr)) (out : List (Int × Nat)) (hol : out.length = m + 2) (hHr : H[r]? = some ⟨encD out, 2, true, false⟩)
    (hR : (decPt L d).short L = false → ans (loopL lore 12 a (slR v0 n (.row r (m + 3)) (.int .u64 ((decPt L d).at_ % 18446744073709551616)) (.int .u64 (decPt L d).step) (.int .u64 ((decPt L d).value : Nat)) (.int .i64 ((m + 3 : Nat) : Int)) F) (QB (HN H F r (decPt L d).fr (out ++ [((decPt L d).at_, (decPt L d).value)])) bv ((decPt L d).p : Nat) false) K) = R)
    (hRb : (decPt L d).short L = true → R = Rb) :
    ans (loopL lore 12 a (slR v0 n (.row r (m + 2)) (.int .u64 (d.at_ % 18446744073709551616)) (.int .u64 d.step) (.int .u64 (d.value : Nat)) (.int .i64 ((m + 2 : Nat) : Int)) F) (QB H bv (d.p : Nat) false) K) = R := by
  have hk := loop_key ha
  simp only [loopIn, Tryd.func12, Tryd.f12, loopAt, Option.bind_some, codeKey, if_true, Option.some.injEq, Nat.reduceEqDiff, if_false] at ha
  obtain ⟨k1, k2, k3, k4', k5⟩ := hd
  have k4 := k4' hs
  clear k4'
  obtain ⟨hb, hp⟩ := sh_false hs
  obtain ⟨i, p, at_, st, v, f, bad⟩ := d
  simp only at hb hp hi k1 k2 k3 k4 hHF
  subst hb hi
  clear hs k5
  obtain ⟨d1, d2⟩ := dec2 L h01 m p at_ st v f
  have hdg := difP_ge L p
  have hv := rstep_cv H h0 bv L B hq h01 hL p (by omega) false
  have hx := rvalue_cv H h0 bv L B hq h01 hL f k4 (difP L p).2 (by omega) (false || decide (L.length < (difP L p).2)) v k3
  have hxg := xorP_ge L h01 (difP L p).2 f
  have hxb := xorP_bd L h01 (difP L p).2 f k4
  have hsh : (false || decide (L.length < (difP L p).2) || decide (L.length < (xorP L (difP L p).2 f).2.1) || (xorP L (difP L p).2 f).2.2.2) = (decPt L ⟨m + 2, p, at_, st, v, f, false⟩).short L := by rw [Bool.false_or]; exact d1.symm
  rw [hsh] at hx
  have hfb2 : (xorP L (difP L p).2 f).2.2.2 = true → (decPt L ⟨m + 2, p, at_, st, v, f, false⟩).short L = true := fun h => by rw [← hsh, h, Bool.or_true]
  generalize (decPt L ⟨m + 2, p, at_, st, v, f, false⟩).short L = fl at *
  rw [d2] at hR
  clear d1 hsh d2
  simp only at hR
  generalize (xorP L (difP L p).2 f).2.2.2 = xb at *
  generalize (xorP L (difP L p).2 f).2.2.1 = g at *
  generalize (xorP L (difP L p).2 f).2.1 = q at *
  generalize (xorP L (difP L p).2 f).1 = x at *
  generalize (difP L p).1 = dd at *
  have hst : IntKind.u64.wrap (st + dd % 18446744073709551616) = (st + dd) % 18446744073709551616 := by rw [IntKind.wrap_u64]; omega
  have hX : 0 ≤ (st + dd) % 18446744073709551616 ∧ (st + dd) % 18446744073709551616 < 18446744073709551616 := by omega
  generalize (st + dd) % 18446744073709551616 = X at *
  generalize (difP L p).2 = Q at *
  obtain ⟨w, hw, hwb, hwx⟩ : ∃ w : Nat, (if xb = true then (0 : Int) else ((v ^^^ x.toNat : Nat) : Int)) = w ∧ w < 2 ^ 64 ∧ (fl = false → v ^^^ x.toNat = w) := by
    cases xb with
    | true => exact ⟨0, rfl, by decide, fun h => by rw [hfb2 rfl] at h; cases h⟩
    | false => exact ⟨v ^^^ x.toNat, rfl, Nat.xor_lt_two_pow k3 (by omega), fun _ => rfl⟩
  rw [hw] at hx
  have hfb := frombits_cv w hwb
  have hA : -9223372036854775808 ≤ wrapS (at_ + X) ∧ wrapS (at_ + X) ≤ 9223372036854775807 := by unfold wrapS; omega
  have hat : IntKind.u64.wrap (at_ % 18446744073709551616 + X) = wrapS (at_ + X) % 18446744073709551616 := by rw [IntKind.wrap_u64]; unfold wrapS; omega
  generalize wrapS (at_ + X) = A at *
  have hai : IntKind.i64.wrap (A % 18446744073709551616) = A := by rw [IntKind.wrap_i64]; omega
  have hn0 : ((m + 2 : Nat) : Int) < (n : Int) := by omega
  have hz1 : ¬ ((m + 2 : Nat) : Int) = 0 := by omega
  have hz2 : ¬ ((m + 2 : Nat) : Int) = 1 := by omega
  have hz5 : ((m + 2 : Nat) : Int) + 1 = ((m + 3 : Nat) : Int) := by omega
  have hap := fun (p' : Int) (s' : Bool) => appD_row (H := QB ((H ++ [FB g] ++ [FB g]).set F (FB g)) bv p' s') (i := r) (tot := m + 2) (l := out) (p := (A, w)) (by rw [qb_get (by omega), List.getElem?_set_ne (by omega), List.append_assoc, List.getElem?_append_left hr, hHr]) hol (by omega)
  simp only [qb_set (show ¬ r = 0 by omega)] at hap
  have hHN : ((H ++ [FB g] ++ [FB g]).set F (FB g)).set r ⟨encD (out ++ [(A, w)]), 2, true, false⟩ = HN H F r g (out ++ [(A, w)]) := rfl
  rw [hHN] at hap
  have hFlen := lt_of_get hHF
  have hgF : (H ++ [FB g] ++ [FB g])[F]? = some (FB f) := by rw [List.append_assoc, List.getElem?_append_left hFlen, hHF]
  have hgF1 : H[F]? = some (FB f) := hHF
  have hF0 : ¬ F = 0 := by omega
  have hfin : ans (loopL lore 12 a (slR v0 n (.row r (m + 3)) (.int .u64 (A % 18446744073709551616)) (.int .u64 X) (.int .u64 (w : Nat)) (.int .i64 ((m + 3 : Nat) : Int)) F) (QB (HN H F r g (out ++ [(A, w)])) bv (q : Nat) fl) K) = R := by
    cases fl with
    | false =>
      have hR := hR rfl
      simp only [hwx rfl] at hR
      exact hR
    | true =>
      rw [hRb rfl]
      have lB : 0 < (HN H F r g (out ++ [(A, w)])).length := by rw [hn_len]; omega
      generalize HN H F r g (out ++ [(A, w)]) = H' at *
      rw [loopL_step' ha]
      by_cases h1 : ((m + 3 : Nat) : Int) < (n : Int)
      · repeat' (first | (refine cond_by (F := ans) (fun _ => ?_) (fun _ => ?_)) | (refine wayK_by (F := ans) (fun _ hb_ => ?_) (fun _ hb_ => ?_) <;> simp only [hb_]) | (refine wayK_byN (F := ans) (fun _ hb_ => ?_) (fun _ hb_ => ?_) <;> simp only [hb_]) | (refine wayD_by (F := ans) (fun _ hb_ => ?_) (fun _ hb_ => ?_) <;> simp only [hb_]) | (refine wayD_byN (F := ans) (fun _ hb_ => ?_) (fun _ hb_ => ?_) <;> simp only [hb_]) | (refine rdK_by (F := ans) (fun _ => ?_) (fun _ => ?_)) | (refine effK_by (F := ans) (fun _ => ?_) (fun _ => ?_)) | (refine effK_by2 (F := ans) (fun _ => ?_) (fun _ => ?_)) | (refine rdD_by (F := ans) (fun _ => ?_) (fun _ => ?_)) | (refine effD_by (F := ans) (fun _ => ?_) (fun _ => ?_)) | (refine effD_by2 (F := ans) (fun _ => ?_) (fun _ => ?_)) | simp -implicitDefEqProofs (disch := first | omega | (simp only [List.length_append, List.length_cons, List.length_nil, List.length_drop, List.length_take]; omega)) only [evs, tys, lors, Nat.reduceAdd, Nat.reduceSub, Nat.reduceMul, Nat.reducePow, Nat.reduceBEq, Nat.reduceLT, Nat.reduceLeDiff, Nat.reduceEqDiff, Int.reduceLT, Int.reduceLE, Int.reduceEq, Int.reduceNe, Int.reduceToNat, Int.reduceAdd, Int.reduceSub, Int.reduceMul, Int.reducePow, Int.reduceDiv, Int.reduceMod, Int.reduceNeg, reduceCtorEq, codeKey, List.contains, List.elem, Ev.load, peek, pack, storeV, fieldAddr, field, cvB, hk, h1, qb_0 lB, decide_true])
        exact hBad _ _ _ _ _ _ _ lB
      · repeat' (first | (refine cond_by (F := ans) (fun _ => ?_) (fun _ => ?_)) | (refine wayK_by (F := ans) (fun _ hb_ => ?_) (fun _ hb_ => ?_) <;> simp only [hb_]) | (refine wayK_byN (F := ans) (fun _ hb_ => ?_) (fun _ hb_ => ?_) <;> simp only [hb_]) | (refine wayD_by (F := ans) (fun _ hb_ => ?_) (fun _ hb_ => ?_) <;> simp only [hb_]) | (refine wayD_byN (F := ans) (fun _ hb_ => ?_) (fun _ hb_ => ?_) <;> simp only [hb_]) | (refine rdK_by (F := ans) (fun _ => ?_) (fun _ => ?_)) | (refine effK_by (F := ans) (fun _ => ?_) (fun _ => ?_)) | (refine effK_by2 (F := ans) (fun _ => ?_) (fun _ => ?_)) | (refine rdD_by (F := ans) (fun _ => ?_) (fun _ => ?_)) | (refine effD_by (F := ans) (fun _ => ?_) (fun _ => ?_)) | (refine effD_by2 (F := ans) (fun _ => ?_) (fun _ => ?_)) | simp -implicitDefEqProofs (disch := first | omega | (simp only [List.length_append, List.length_cons, List.length_nil, List.length_drop, List.length_take]; omega)) only [evs, tys, lors, Nat.reduceAdd, Nat.reduceSub, Nat.reduceMul, Nat.reducePow, Nat.reduceBEq, Nat.reduceLT, Nat.reduceLeDiff, Nat.reduceEqDiff, Int.reduceLT, Int.reduceLE, Int.reduceEq, Int.reduceNe, Int.reduceToNat, Int.reduceAdd, Int.reduceSub, Int.reduceMul, Int.reducePow, Int.reduceDiv, Int.reduceMod, Int.reduceNeg, reduceCtorEq, codeKey, List.contains, List.elem, Ev.load, peek, pack, storeV, fieldAddr, field, cvB, hk, h1, qb_0 lB, decide_false])
        exact hBad _ _ _ _ _ _ _ lB
  rw [loopL_step' ha]
  repeat' (first | (refine cond_by (F := ans) (fun _ => ?_) (fun _ => ?_)) | (refine wayK_by (F := ans) (fun _ hb_ => ?_) (fun _ hb_ => ?_) <;> simp only [hb_]) | (refine wayK_byN (F := ans) (fun _ hb_ => ?_) (fun _ hb_ => ?_) <;> simp only [hb_]) | (refine wayD_by (F := ans) (fun _ hb_ => ?_) (fun _ hb_ => ?_) <;> simp only [hb_]) | (refine wayD_byN (F := ans) (fun _ hb_ => ?_) (fun _ hb_ => ?_) <;> simp only [hb_]) | (refine rdK_by (F := ans) (fun _ => ?_) (fun _ => ?_)) | (refine effK_by (F := ans) (fun _ => ?_) (fun _ => ?_)) | (refine effK_by2 (F := ans) (fun _ => ?_) (fun _ => ?_)) | (refine rdD_by (F := ans) (fun _ => ?_) (fun _ => ?_)) | (refine effD_by (F := ans) (fun _ => ?_) (fun _ => ?_)) | (refine effD_by2 (F := ans) (fun _ => ?_) (fun _ => ?_)) | simp -implicitDefEqProofs (disch := first | omega | (simp only [List.length_append, List.length_cons, List.length_nil, List.length_drop, List.length_take]; omega)) only [evs, tys, lors, Nat.reduceAdd, Nat.reduceSub, Nat.reduceMul, Nat.reducePow, Nat.reduceBEq, Nat.reduceLT, Nat.reduceLeDiff, Nat.reduceEqDiff, Int.reduceLT, Int.reduceLE, Int.reduceEq, Int.reduceNe, Int.reduceToNat, Int.reduceAdd, Int.reduceSub, Int.reduceMul, Int.reducePow, Int.reduceDiv, Int.reduceMod, Int.reduceNeg, reduceCtorEq, codeKey, List.contains, List.elem, Ev.load, peek, pack, storeV, fieldAddr, field, cvB, hk, hn0, hz1, hz2, hz5, qb_0 h0, hv, hx, hst, hat, hai, hfb, hap, hgF1, hgF, qb_get hF0, qb_set hF0, srcD_sl, elem22, decide_true, decide_false])
  all_goals first | exact hfin | trace_state


theorem decL_short {L : List Int} {d : DS} (h : d.short L = true) : ∀ m, decL L m d = ([], d)
  | 0 => rfl
  | m + 1 => by rw [decL, if_pos h]
theorem loopRD (L : List Int) (h01 : Bits01 L) (hL : L.length ≤ 2000000000) (v0 : V) (bv : V) (B F n : Nat) (hn : n ≤ 65535) (hB : B < F) (K : Kont) (Rb : Option V) (Rg : List (Int × Nat) → Option V) (a : Code) (ha : loopIn Tryd.prog 12 14 = some a)
    (hGood : ∀ (H' : Heap) (ov v9 v10 v11 v13 : V) (out : List (Int × Nat)) (p : Int), 0 < H'.length → OutR H' ov out F → out.length = n → DotsOk out → ans (K (.exit 2) (slR v0 n ov v9 v10 v11 v13 F) (QB H' bv p false)) = Rg out)
    (hBad : ∀ (H' : Heap) (v8 v9 v10 v11 v13 : V) (p : Int), 0 < H'.length → ans (K (.exit 2) (slR v0 n v8 v9 v10 v11 v13 F) (QB H' bv p true)) = Rb) :
    ∀ (m : Nat) (d : DS) (out : List (Int × Nat)) (ov : V) (H : Heap), d.i = out.length → out.length + m = n → 0 < H.length → QOk H bv L B → H[F]? = some (FB d.fr) → OutR H ov out F → DOk L d → d.short L = false → DotsOk out →
      ans (loopL lore 12 a (slR v0 n ov (.int .u64 (d.at_ % 18446744073709551616)) (.int .u64 d.step) (.int .u64 (d.value : Nat)) (.int .i64 (out.length : Nat)) F) (QB H bv (d.p : Nat) false) K) = if (decL L m d).2.short L = true then Rb else Rg (out ++ (decL L m d).1) := by
  have ha' := ha
  have hk := loop_key ha
  simp only [loopIn, Tryd.func12, Tryd.f12, loopAt, Option.bind_some, codeKey, if_true, Option.some.injEq, Nat.reduceEqDiff, if_false] at ha
  intro m
  induction m with
  | zero =>
    intro d out ov H hi hm h0 hq hHF ho hd hs hdo
    have hlt : ¬ ((out.length : Nat) : Int) < (n : Int) := by omega
    rw [decL, if_neg (by rw [hs]; decide), List.append_nil, loopL_step' ha]
    repeat' (first | (refine cond_by (F := ans) (fun _ => ?_) (fun _ => ?_)) | (refine wayK_by (F := ans) (fun _ hb_ => ?_) (fun _ hb_ => ?_) <;> simp only [hb_]) | (refine wayK_byN (F := ans) (fun _ hb_ => ?_) (fun _ hb_ => ?_) <;> simp only [hb_]) | (refine wayD_by (F := ans) (fun _ hb_ => ?_) (fun _ hb_ => ?_) <;> simp only [hb_]) | (refine wayD_byN (F := ans) (fun _ hb_ => ?_) (fun _ hb_ => ?_) <;> simp only [hb_]) | (refine rdK_by (F := ans) (fun _ => ?_) (fun _ => ?_)) | (refine effK_by (F := ans) (fun _ => ?_) (fun _ => ?_)) | (refine effK_by2 (F := ans) (fun _ => ?_) (fun _ => ?_)) | (refine rdD_by (F := ans) (fun _ => ?_) (fun _ => ?_)) | (refine effD_by (F := ans) (fun _ => ?_) (fun _ => ?_)) | (refine effD_by2 (F := ans) (fun _ => ?_) (fun _ => ?_)) | simp -implicitDefEqProofs (disch := first | omega | (simp only [List.length_append, List.length_cons, List.length_nil, List.length_drop, List.length_take]; omega)) only [evs, tys, lors, Nat.reduceAdd, Nat.reduceSub, Nat.reduceMul, Nat.reducePow, Nat.reduceBEq, Nat.reduceLT, Nat.reduceLeDiff, Nat.reduceEqDiff, Int.reduceLT, Int.reduceLE, Int.reduceEq, Int.reduceNe, Int.reduceToNat, Int.reduceAdd, Int.reduceSub, Int.reduceMul, Int.reducePow, Int.reduceDiv, Int.reduceMod, Int.reduceNeg, reduceCtorEq, codeKey, List.contains, List.elem, Ev.load, peek, pack, storeV, fieldAddr, field, cvB, hk, qb_0 h0, hlt, decide_false])
    exact hGood _ _ _ _ _ _ _ _ h0 ho (by omega) hdo
  | succ m ih =>
    intro d out ov H hi hm h0 hq hHF ho hd hs hdo
    have hd2 := decPt_ok h01 hd hs
    have hi2 := decPt_i L d
    have hdo2 : DotsOk (out ++ [((decPt L d).at_, (decPt L d).value)]) := fun q hq => by
      rcases List.mem_append.1 hq with h | h
      · exact hdo q h
      · obtain rfl := List.mem_singleton.1 h
        exact ⟨hd2.a, hd2.v⟩
    have hdl : decL L (m + 1) d = (((decPt L d).at_, (decPt L d).value) :: (decL L m (decPt L d)).1, (decL L m (decPt L d)).2) := by
      rw [decL, if_neg (by rw [hs]; decide)]
    rw [hdl]
    have hRb : (decPt L d).short L = true → (if ((decL L m (decPt L d)).2).short L = true then Rb else Rg (out ++ (((decPt L d).at_, (decPt L d).value) :: (decL L m (decPt L d)).1))) = Rb := fun h => by
      rw [decL_short h, if_pos h]
    have hFl := lt_of_get hHF
    have hlen2 : (out ++ [((decPt L d).at_, (decPt L d).value)]).length = out.length + 1 := by simp
    have happ : out ++ (((decPt L d).at_, (decPt L d).value) :: (decL L m (decPt L d)).1) = out ++ [((decPt L d).at_, (decPt L d).value)] ++ (decL L m (decPt L d)).1 := by rw [List.append_assoc]; rfl
    rcases ho with ⟨rfl, rfl⟩ | ⟨hne, r, rfl, hr0, hr, hHr⟩
    · refine stepR0 L h01 hL v0 bv B F n (by simp at hm; omega) K Rb _ a ha' hBad d hd hs hi H h0 hq (fun h => ?_) hRb
      have hfr : (decPt L d).fr = d.fr := by
        obtain ⟨i, p, at_, st, v, f, bad⟩ := d
        obtain rfl : i = 0 := hi
        rfl
      rw [happ]
      exact ih (decPt L d) [((decPt L d).at_, (decPt L d).value)] _ _ (by rw [hi2, hi]; rfl) (by simp at hm ⊢; omega) (by simp) (qok_app hq _) (by rw [List.getElem?_append_left hFl, hHF, hfr]) (Or.inr ⟨by simp, _, rfl, hFl, by simp, by simp⟩) hd2 h hdo2
    · have hpos := List.length_pos_iff.2 hne
      rcases Nat.lt_or_ge out.length 2 with h2 | h2
      · have h1 : out.length = 1 := by omega
        have hres := stepR1 L h01 hL v0 bv B F n (by omega) hB K Rb (if (decL L m (decPt L d)).2.short L = true then Rb else Rg (out ++ [((decPt L d).at_, (decPt L d).value)] ++ (decL L m (decPt L d)).1)) a ha' hBad d hd hs (by omega) H h0 hq r hr0 hr hHF out h1 hHr (fun h => by
          have := ih (decPt L d) (out ++ [((decPt L d).at_, (decPt L d).value)]) (.row r 2) (HN H F r (decPt L d).fr (out ++ [((decPt L d).at_, (decPt L d).value)])) (by rw [hi2, hlen2, hi]) (by rw [hlen2]; omega) (by rw [hn_len]; omega) (hn_q hq hB hr0) (hn_F hFl hr0) (Or.inr ⟨by simp, r, by rw [hlen2, h1], hr0, by rw [hn_len]; omega, hn_r hr⟩) hd2 h hdo2
          rw [hlen2, h1] at this
          exact this) (fun h => by rw [← happ]; exact hRb h)
        rw [happ, h1]
        exact hres
      · obtain ⟨k, hk2⟩ : ∃ k, out.length = k + 2 := ⟨out.length - 2, by omega⟩
        have hres := stepR2 L h01 hL v0 bv B F n k (by omega) (by omega) hB K Rb (if (decL L m (decPt L d)).2.short L = true then Rb else Rg (out ++ [((decPt L d).at_, (decPt L d).value)] ++ (decL L m (decPt L d)).1)) a ha' hBad d hd hs (by omega) H h0 hq r hr0 hr hHF out hk2 hHr (fun h => by
          have := ih (decPt L d) (out ++ [((decPt L d).at_, (decPt L d).value)]) (.row r (k + 3)) (HN H F r (decPt L d).fr (out ++ [((decPt L d).at_, (decPt L d).value)])) (by rw [hi2, hlen2, hi]) (by rw [hlen2]; omega) (by rw [hn_len]; omega) (hn_q hq hB hr0) (hn_F hFl hr0) (Or.inr ⟨by simp, r, by rw [hlen2, hk2], hr0, by rw [hn_len]; omega, hn_r hr⟩) hd2 h hdo2
          rw [hlen2, hk2] at this
          exact this) (fun h => by rw [← happ]; exact hRb h)
        rw [happ, hk2]
        exact hres
theorem unpack_app : ∀ (a b : List Int), unpack (a ++ b) = unpack a ++ unpack b
  | [], b => rfl
  | x :: a, b => by rw [List.cons_append, unpack, unpack, unpack_app a b, List.append_assoc]
theorem loopBits (bs : List Int) (hbs : Us8 bs) (hlen : bs.length ≤ 200000000) (c : Bool) (v0 : V) (K : Kont) (R : Option V) (a : Code) (ha : loopIn Tryd.prog 12 5 = some a)
    (hR : ∀ z : Int, ans (K (.exit 0) (Sl 134 .wild [(0, v0), (4, .ptr 0 0), (24, .sl (enc8 bs) 1 c), (25, .int .i64 bs.length), (26, .int .i64 z)]) [⟨[.row 1 (unpack bs).length, .int .i64 0, .bool false], 0, false, false⟩, ⟨enc8 (unpack bs), 1, true, false⟩]) = R) :
    ∀ (xs ad : List Int) (z : Int), bs = ad ++ xs → z = ad.length → ans (loopL lore 12 a (Sl 134 .wild [(0, v0), (4, .ptr 0 0), (24, .sl (enc8 bs) 1 c), (25, .int .i64 bs.length), (26, .int .i64 z)]) [⟨[.row 1 (unpack ad).length, .int .i64 0, .bool false], 0, false, false⟩, ⟨enc8 (unpack ad), 1, true, false⟩] K) = R := by
  have hk := loop_key ha
  simp only [loopIn, Tryd.func12, Tryd.f12, loopAt, Option.bind_some, codeKey, if_true, Option.some.injEq, Nat.reduceEqDiff, if_false] at ha
  have e4 := enc8_len bs
  intro xs
  induction xs with
  | nil =>
    intro ad z hl hz
    rw [List.append_nil] at hl
    subst hl hz
    have hn : ¬ (bs.length : Int) < (bs.length : Int) := by omega
    rw [loopL_step' ha]
    repeat' (first | (refine cond_by (F := ans) (fun _ => ?_) (fun _ => ?_)) | (refine wayK_by (F := ans) (fun _ hb_ => ?_) (fun _ hb_ => ?_) <;> simp only [hb_]) | (refine wayK_byN (F := ans) (fun _ hb_ => ?_) (fun _ hb_ => ?_) <;> simp only [hb_]) | (refine wayD_by (F := ans) (fun _ hb_ => ?_) (fun _ hb_ => ?_) <;> simp only [hb_]) | (refine wayD_byN (F := ans) (fun _ hb_ => ?_) (fun _ hb_ => ?_) <;> simp only [hb_]) | (refine rdK_by (F := ans) (fun _ => ?_) (fun _ => ?_)) | (refine effK_by (F := ans) (fun _ => ?_) (fun _ => ?_)) | (refine effK_by2 (F := ans) (fun _ => ?_) (fun _ => ?_)) | (refine rdD_by (F := ans) (fun _ => ?_) (fun _ => ?_)) | (refine effD_by (F := ans) (fun _ => ?_) (fun _ => ?_)) | (refine effD_by2 (F := ans) (fun _ => ?_) (fun _ => ?_)) | simp -implicitDefEqProofs (disch := first | omega | (simp only [List.length_append, List.length_cons, List.length_nil, List.length_drop, List.length_take]; omega)) only [evs, tys, lors, Nat.reduceAdd, Nat.reduceSub, Nat.reduceMul, Nat.reducePow, Nat.reduceBEq, Nat.reduceLT, Nat.reduceLeDiff, Nat.reduceEqDiff, Int.reduceLT, Int.reduceLE, Int.reduceEq, Int.reduceNe, Int.reduceToNat, Int.reduceAdd, Int.reduceSub, Int.reduceMul, Int.reducePow, Int.reduceDiv, Int.reduceMod, Int.reduceNeg, reduceCtorEq, codeKey, List.contains, List.elem, Ev.load, peek, pack, storeV, fieldAddr, field, cvB, hk, hn, decide_false])
    exact hR _
  | cons y xs ih =>
    intro ad z hl hz
    have hl2 : bs = (ad ++ [y]) ++ xs := by rw [hl, List.append_assoc]; rfl
    have hy := hbs y (by rw [hl]; simp)
    have hll : bs.length = ad.length + (xs.length + 1) := by rw [hl]; simp
    have hlt : z < (bs.length : Int) := by omega
    have hz0 : 0 ≤ z := by omega
    have e1 : (enc8 bs)[z.toNat]? = some (.int .u8 y) := by
      rw [show z.toNat = ad.length by omega, hl]
      exact enc8_get ad y xs
    have hih := ih (ad ++ [y]) (z + 1) hl2 (by simp; omega)
    have hu : unpack (ad ++ [y]) = unpack ad ++ numB y 8 := by
      rw [unpack_app, unpack, unpack, List.append_nil]
    rw [hu] at hih
    have hul := unpack_len ad
    have hnum := fun H => num_z y (by omega) 8 (by decide) (by decide) 8 rfl H
    have hap := a34_row (H := [⟨[.row 1 (unpack ad).length, .int .i64 0, .bool false], 0, false, false⟩, ⟨enc8 (unpack ad), 1, true, false⟩]) (i := 1) (a := unpack ad) (tot := (unpack ad).length) (b := numB y 8) rfl rfl (by rw [numB_len]; omega)
    rw [List.length_append] at hih
    rw [numB_len] at hap hih
    generalize numB y 8 = nb at *
    rw [loopL_step' ha]
    repeat' (first | (refine cond_by (F := ans) (fun _ => ?_) (fun _ => ?_)) | (refine wayK_by (F := ans) (fun _ hb_ => ?_) (fun _ hb_ => ?_) <;> simp only [hb_]) | (refine wayK_byN (F := ans) (fun _ hb_ => ?_) (fun _ hb_ => ?_) <;> simp only [hb_]) | (refine wayD_by (F := ans) (fun _ hb_ => ?_) (fun _ hb_ => ?_) <;> simp only [hb_]) | (refine wayD_byN (F := ans) (fun _ hb_ => ?_) (fun _ hb_ => ?_) <;> simp only [hb_]) | (refine rdK_by (F := ans) (fun _ => ?_) (fun _ => ?_)) | (refine effK_by (F := ans) (fun _ => ?_) (fun _ => ?_)) | (refine effK_by2 (F := ans) (fun _ => ?_) (fun _ => ?_)) | (refine rdD_by (F := ans) (fun _ => ?_) (fun _ => ?_)) | (refine effD_by (F := ans) (fun _ => ?_) (fun _ => ?_)) | (refine effD_by2 (F := ans) (fun _ => ?_) (fun _ => ?_)) | simp -implicitDefEqProofs (disch := first | omega | (simp only [List.length_append, List.length_cons, List.length_nil, List.length_drop, List.length_take]; omega)) only [evs, tys, lors, Nat.reduceAdd, Nat.reduceSub, Nat.reduceMul, Nat.reducePow, Nat.reduceBEq, Nat.reduceLT, Nat.reduceLeDiff, Nat.reduceEqDiff, Int.reduceLT, Int.reduceLE, Int.reduceEq, Int.reduceNe, Int.reduceToNat, Int.reduceAdd, Int.reduceSub, Int.reduceMul, Int.reducePow, Int.reduceDiv, Int.reduceMod, Int.reduceNeg, reduceCtorEq, codeKey, List.contains, List.elem, Ev.load, peek, pack, storeV, fieldAddr, field, cvB, hk, hlt, e1, e4, hnum, hap, s34_sl, decide_true])
    all_goals repeat (rw [chkB_bit (by kernel_rfl)])
    repeat' (first | (refine cond_by (F := ans) (fun _ => ?_) (fun _ => ?_)) | (refine wayK_by (F := ans) (fun _ hb_ => ?_) (fun _ hb_ => ?_) <;> simp only [hb_]) | (refine wayK_byN (F := ans) (fun _ hb_ => ?_) (fun _ hb_ => ?_) <;> simp only [hb_]) | (refine wayD_by (F := ans) (fun _ hb_ => ?_) (fun _ hb_ => ?_) <;> simp only [hb_]) | (refine wayD_byN (F := ans) (fun _ hb_ => ?_) (fun _ hb_ => ?_) <;> simp only [hb_]) | (refine rdK_by (F := ans) (fun _ => ?_) (fun _ => ?_)) | (refine effK_by (F := ans) (fun _ => ?_) (fun _ => ?_)) | (refine effK_by2 (F := ans) (fun _ => ?_) (fun _ => ?_)) | (refine rdD_by (F := ans) (fun _ => ?_) (fun _ => ?_)) | (refine effD_by (F := ans) (fun _ => ?_) (fun _ => ?_)) | (refine effD_by2 (F := ans) (fun _ => ?_) (fun _ => ?_)) | simp -implicitDefEqProofs (disch := first | omega | (simp only [List.length_append, List.length_cons, List.length_nil, List.length_drop, List.length_take]; omega)) only [evs, tys, lors, Nat.reduceAdd, Nat.reduceSub, Nat.reduceMul, Nat.reducePow, Nat.reduceBEq, Nat.reduceLT, Nat.reduceLeDiff, Nat.reduceEqDiff, Int.reduceLT, Int.reduceLE, Int.reduceEq, Int.reduceNe, Int.reduceToNat, Int.reduceAdd, Int.reduceSub, Int.reduceMul, Int.reducePow, Int.reduceDiv, Int.reduceMod, Int.reduceNeg, reduceCtorEq, codeKey, List.contains, List.elem, Ev.load, peek, pack, storeV, fieldAddr, field, cvB, hk, hlt, e1, e4, hnum, hap, s34_sl, decide_true])
    all_goals first | exact hih | trace_state


theorem give_rowD {H : Heap} {i tot : Nat} {q : List (Int × Nat)} {fz : Bool} {vs : List V} (hH : H[i]? = some ⟨encD q, 2, true, fz⟩) (hl : q.length = tot) (hv : plains vs = true) : giveP false H (.tup (.row i tot :: vs)) = some (.tup (.sl (encD q) 2 false :: vs)) := by
  have e1 : fz2 H (.row i tot) = some (.sl (encD q) 2 false, H.set i ⟨encD q, 2, true, true⟩) := by
    show fz1 H (.row i tot) = _
    simp only [fz1, hH]
    rw [if_pos ⟨by decide, by rw [encD_len]; exact hl, trivial⟩]
  show (fz2s H (.row i tot :: vs)).map _ = _
  rw [fz2s, e1, Option.bind_some, fz2s_plain _ hv]
  rfl
/-- What is answered behind the points. -/
def tailV (b : List Int) (out : List (Int × Nat)) : V := if fltL out = none ∧ bytesL out = b then .tup [if out = [] then .nils else .sl (encD out) 2 false, .int .i64 0] else .tup [.nils, .int .i64 191]
theorem dec12_cv (b : List Int) (c : Bool) (hb : Us8 b) (hlen : b.length ≤ 100000000) (H : Heap) : callV (CL lore) 12 [.sl (enc8 b) 1 c] H = some (decV b, H) := by
  refine callV_ans (r := some _) ?_ lore_sh12 rfl H
  have e4 := enc8_len b
  match b, hb, hlen, e4 with
  | [], _, _, e4 =>
    rw [call_start lore_ext12 Tryd.func12 rfl lore_okf12 (Nat.le_of_ble_eq_true rfl)]
    repeat' (first | (refine cond_by (F := ans) (fun _ => ?_) (fun _ => ?_)) | (refine wayK_by (F := ans) (fun _ hb_ => ?_) (fun _ hb_ => ?_) <;> simp only [hb_]) | (refine wayK_byN (F := ans) (fun _ hb_ => ?_) (fun _ hb_ => ?_) <;> simp only [hb_]) | (refine wayD_by (F := ans) (fun _ hb_ => ?_) (fun _ hb_ => ?_) <;> simp only [hb_]) | (refine wayD_byN (F := ans) (fun _ hb_ => ?_) (fun _ hb_ => ?_) <;> simp only [hb_]) | (refine rdK_by (F := ans) (fun _ => ?_) (fun _ => ?_)) | (refine effK_by (F := ans) (fun _ => ?_) (fun _ => ?_)) | (refine effK_by2 (F := ans) (fun _ => ?_) (fun _ => ?_)) | (refine rdD_by (F := ans) (fun _ => ?_) (fun _ => ?_)) | (refine effD_by (F := ans) (fun _ => ?_) (fun _ => ?_)) | (refine effD_by2 (F := ans) (fun _ => ?_) (fun _ => ?_)) | simp -implicitDefEqProofs (disch := first | omega | (simp only [List.length_append, List.length_cons, List.length_nil, List.length_drop, List.length_take]; omega)) only [evs, tys, lors, Nat.reduceAdd, Nat.reduceSub, Nat.reduceMul, Nat.reducePow, Nat.reduceBEq, Nat.reduceLT, Nat.reduceLeDiff, Nat.reduceEqDiff, Int.reduceLT, Int.reduceLE, Int.reduceEq, Int.reduceNe, Int.reduceToNat, Int.reduceAdd, Int.reduceSub, Int.reduceMul, Int.reducePow, Int.reduceDiv, Int.reduceMod, Int.reduceNeg, reduceCtorEq, codeKey, List.contains, List.elem, Ev.load, peek, pack, storeV, fieldAddr, field, cvB, e4, List.length_nil])
    all_goals rfl
  | [x], _, _, e4 =>
    rw [call_start lore_ext12 Tryd.func12 rfl lore_okf12 (Nat.le_of_ble_eq_true rfl)]
    repeat' (first | (refine cond_by (F := ans) (fun _ => ?_) (fun _ => ?_)) | (refine wayK_by (F := ans) (fun _ hb_ => ?_) (fun _ hb_ => ?_) <;> simp only [hb_]) | (refine wayK_byN (F := ans) (fun _ hb_ => ?_) (fun _ hb_ => ?_) <;> simp only [hb_]) | (refine wayD_by (F := ans) (fun _ hb_ => ?_) (fun _ hb_ => ?_) <;> simp only [hb_]) | (refine wayD_byN (F := ans) (fun _ hb_ => ?_) (fun _ hb_ => ?_) <;> simp only [hb_]) | (refine rdK_by (F := ans) (fun _ => ?_) (fun _ => ?_)) | (refine effK_by (F := ans) (fun _ => ?_) (fun _ => ?_)) | (refine effK_by2 (F := ans) (fun _ => ?_) (fun _ => ?_)) | (refine rdD_by (F := ans) (fun _ => ?_) (fun _ => ?_)) | (refine effD_by (F := ans) (fun _ => ?_) (fun _ => ?_)) | (refine effD_by2 (F := ans) (fun _ => ?_) (fun _ => ?_)) | simp -implicitDefEqProofs (disch := first | omega | (simp only [List.length_append, List.length_cons, List.length_nil, List.length_drop, List.length_take]; omega)) only [evs, tys, lors, Nat.reduceAdd, Nat.reduceSub, Nat.reduceMul, Nat.reducePow, Nat.reduceBEq, Nat.reduceLT, Nat.reduceLeDiff, Nat.reduceEqDiff, Int.reduceLT, Int.reduceLE, Int.reduceEq, Int.reduceNe, Int.reduceToNat, Int.reduceAdd, Int.reduceSub, Int.reduceMul, Int.reducePow, Int.reduceDiv, Int.reduceMod, Int.reduceNeg, reduceCtorEq, codeKey, List.contains, List.elem, Ev.load, peek, pack, storeV, fieldAddr, field, cvB, e4, List.length_cons, List.length_nil])
    all_goals rfl
  | b0 :: b1 :: bs, hb, hlen, e4 =>
    have h0 := hb b0 (by simp)
    have h1 := hb b1 (by simp)
    have hbs : Us8 bs := fun x hx => hb x (by simp [hx])
    have hnn : (b0 * 256 + b1).toNat ≤ 65535 := by omega
    have hN' : b0 * 256 + b1 = ((b0 * 256 + b1).toNat : Int) := by omega
    have hD : decV (b0 :: b1 :: bs) = if (decL (unpack bs) (b0 * 256 + b1).toNat D0).2.short (unpack bs) = true then .tup [.nils, .int .i64 191] else tailV (b0 :: b1 :: bs) (decL (unpack bs) (b0 * 256 + b1).toNat D0).1 := by
      have hdv : decV (b0 :: b1 :: bs) = if (decL (unpack bs) (b0 * 256 + b1).toNat D0).2.short (unpack bs) = false ∧ fltL (decL (unpack bs) (b0 * 256 + b1).toNat D0).1 = none ∧ bytesL (decL (unpack bs) (b0 * 256 + b1).toNat D0).1 = b0 :: b1 :: bs then .tup [if (decL (unpack bs) (b0 * 256 + b1).toNat D0).1 = [] then .nils else .sl (encD (decL (unpack bs) (b0 * 256 + b1).toNat D0).1) 2 false, .int .i64 0] else .tup [.nils, .int .i64 191] := rfl
      rw [hdv]
      unfold tailV
      generalize (decL (unpack bs) (b0 * 256 + b1).toNat D0).2.short (unpack bs) = q
      generalize (decL (unpack bs) (b0 * 256 + b1).toNat D0).1 = o
      cases q with
      | false =>
        rw [if_neg (show ¬ false = true by decide)]
        by_cases hc : fltL o = none ∧ bytesL o = b0 :: b1 :: bs
        · rw [if_pos hc, if_pos ⟨rfl, hc⟩]
        · rw [if_neg hc, if_neg (fun h => hc h.2)]
      | true => rw [if_pos rfl, if_neg (fun h => by cases h.1)]
    rw [hD]
    generalize hN : (b0 * 256 + b1).toNat = N at *
    have g0 : (enc8 (b0 :: b1 :: bs))[0]? = some (.int .u8 b0) := rfl
    have g1 : (enc8 (b0 :: b1 :: bs))[1]? = some (.int .u8 b1) := rfl
    have hll : (b0 :: b1 :: bs).length = bs.length + 2 := rfl
    have hlb : bs.length ≤ 99999998 := by omega
    have hlt2 : ¬ ((bs.length + 2 : Nat) : Int) < 2 := by omega
    have h01 := unpack_01 bs
    have hLl := unpack_len bs
    have us1 : ∀ out : List (Int × Nat), out.length = N → Us8 (bytesL out) := fun out h => bytesL_us8 (by omega)
    have bl1 : ∀ out : List (Int × Nat), out.length = N → (bytesL out).length ≤ 200000000000000 := fun out h => by
      have := bytesL_le out
      omega
    have hEq := fun (out : List (Int × Nat)) (h : out.length = N) (x y : Bool) (Hx : Heap) => same_cv (bytesL out) (b0 :: b1 :: bs) (bl1 out h) x y Hx
    have hdl := decL_ok h01 N D0 (D0_ok _)
    have hs0 : D0.short (unpack bs) = false := by
      unfold DS.short D0
      simp
    have hoe : ∀ out : List (Int × Nat), out.length = N → encV out = match fltL out with
      | some j => .tup [.nils, .int .i64 190, .int .i64 (j : Nat)]
      | none => .tup [.sl (enc8 (bytesL out)) 1 out.isEmpty, .int .i64 0, .int .i64 0] := fun out h => by
      unfold encV
      rw [if_neg (by omega)]
      cases fltL out <;> rfl
    have hN2 : b0 * 256 + b1 = (N : Int) := by omega
    have hbd : 0 ≤ b0 * 256 ∧ b0 * 256 ≤ 65280 := by omega
    obtain ⟨a, ha⟩ : ∃ a, loopIn Tryd.prog 12 14 = some a := ⟨_, rfl⟩
    have hLR := fun (bv : V) (B F : Nat) (Hs : Heap) (hBF : B < F) (hH0 : 0 < Hs.length) (hq : QOk Hs bv (unpack bs) B) (hHF : Hs[F]? = some (FB D0.fr)) (K : Kont) (hG) (hBd) => loopRD (unpack bs) h01 (by omega) (.sl (enc8 (b0 :: b1 :: bs)) 1 c) bv B F N hnn hBF K (some (.tup [.nils, .int .i64 191])) (fun out => some (tailV (b0 :: b1 :: bs) out)) a ha hG hBd N D0 [] .nils Hs rfl (by simp) hH0 hq hHF (Or.inl ⟨rfl, rfl⟩) (D0_ok _) hs0 (fun q hq => by simp at hq)
    have hfin : (if (decL (unpack bs) N D0).2.short (unpack bs) = true then some (.tup [.nils, .int .i64 191]) else some (tailV (b0 :: b1 :: bs) ([] ++ (decL (unpack bs) N D0).1))) = some (if (decL (unpack bs) N D0).2.short (unpack bs) = true then .tup [.nils, .int .i64 191] else tailV (b0 :: b1 :: bs) (decL (unpack bs) N D0).1) := by
      rw [List.nil_append]
      split <;> rfl
    simp only [hfin] at hLR
    generalize (if (decL (unpack bs) N D0).2.short (unpack bs) = true then V.tup [.nils, .int .i64 191] else tailV (b0 :: b1 :: bs) (decL (unpack bs) N D0).1) = RR at *
    have hz1 : D0.at_ % 18446744073709551616 = 0 := rfl
    have hz2 : D0.step = 0 := rfl
    have hz3 : ((D0.value : Nat) : Int) = 0 := rfl
    have hz4 : ((D0.p : Nat) : Int) = 0 := rfl
    have hz5 : ((([] : List (Int × Nat)).length : Nat) : Int) = 0 := rfl
    simp only [hz1, hz2, hz3, hz4, hz5] at hLR
    cases bs with
    | nil =>
      have hQ : QB [⟨[.nils], 0, false, false⟩, FB D0.fr] .nils 0 false = [⟨[.nils, .int .i64 0, .bool false], 0, false, false⟩, ⟨[.bool false, .int .i64 0, .int .i64 0], 0, false, false⟩] := by unfold QB; rfl
      have hLR := hLR .nils 0 1 [⟨[.nils], 0, false, false⟩, FB D0.fr] (by decide) (by simp) (Or.inl ⟨rfl, rfl⟩) rfl
      rw [hQ] at hLR
      have en : (enc8 []).length = 0 := rfl
      rw [call_start lore_ext12 Tryd.func12 rfl lore_okf12 (Nat.le_of_ble_eq_true rfl)]
      repeat' (first | (refine cond_by (F := ans) (fun _ => ?_) (fun _ => ?_)) | (refine wayK_by (F := ans) (fun _ hb_ => ?_) (fun _ hb_ => ?_) <;> simp only [hb_]) | (refine wayK_byN (F := ans) (fun _ hb_ => ?_) (fun _ hb_ => ?_) <;> simp only [hb_]) | (refine wayD_by (F := ans) (fun _ hb_ => ?_) (fun _ hb_ => ?_) <;> simp only [hb_]) | (refine wayD_byN (F := ans) (fun _ hb_ => ?_) (fun _ hb_ => ?_) <;> simp only [hb_]) | (refine rdK_by (F := ans) (fun _ => ?_) (fun _ => ?_)) | (refine effK_by (F := ans) (fun _ => ?_) (fun _ => ?_)) | (refine effK_by2 (F := ans) (fun _ => ?_) (fun _ => ?_)) | (refine rdD_by (F := ans) (fun _ => ?_) (fun _ => ?_)) | (refine effD_by (F := ans) (fun _ => ?_) (fun _ => ?_)) | (refine effD_by2 (F := ans) (fun _ => ?_) (fun _ => ?_)) | simp -implicitDefEqProofs (disch := first | omega | (simp only [List.length_append, List.length_cons, List.length_nil, List.length_drop, List.length_take]; omega)) only [evs, tys, lors, Nat.reduceAdd, Nat.reduceSub, Nat.reduceMul, Nat.reducePow, Nat.reduceBEq, Nat.reduceLT, Nat.reduceLeDiff, Nat.reduceEqDiff, Int.reduceLT, Int.reduceLE, Int.reduceEq, Int.reduceNe, Int.reduceToNat, Int.reduceAdd, Int.reduceSub, Int.reduceMul, Int.reducePow, Int.reduceDiv, Int.reduceMod, Int.reduceNeg, reduceCtorEq, codeKey, List.contains, List.elem, Ev.load, peek, pack, storeV, fieldAddr, field, cvB, e4, hll, hlt2, g0, g1, slice2, decide_false])
      rw [loopL_step' rfl]
      repeat' (first | (refine cond_by (F := ans) (fun _ => ?_) (fun _ => ?_)) | (refine wayK_by (F := ans) (fun _ hb_ => ?_) (fun _ hb_ => ?_) <;> simp only [hb_]) | (refine wayK_byN (F := ans) (fun _ hb_ => ?_) (fun _ hb_ => ?_) <;> simp only [hb_]) | (refine wayD_by (F := ans) (fun _ hb_ => ?_) (fun _ hb_ => ?_) <;> simp only [hb_]) | (refine wayD_byN (F := ans) (fun _ hb_ => ?_) (fun _ hb_ => ?_) <;> simp only [hb_]) | (refine rdK_by (F := ans) (fun _ => ?_) (fun _ => ?_)) | (refine effK_by (F := ans) (fun _ => ?_) (fun _ => ?_)) | (refine effK_by2 (F := ans) (fun _ => ?_) (fun _ => ?_)) | (refine rdD_by (F := ans) (fun _ => ?_) (fun _ => ?_)) | (refine effD_by (F := ans) (fun _ => ?_) (fun _ => ?_)) | (refine effD_by2 (F := ans) (fun _ => ?_) (fun _ => ?_)) | simp -implicitDefEqProofs (disch := first | omega | (simp only [List.length_append, List.length_cons, List.length_nil, List.length_drop, List.length_take]; omega)) only [evs, tys, lors, Nat.reduceAdd, Nat.reduceSub, Nat.reduceMul, Nat.reducePow, Nat.reduceBEq, Nat.reduceLT, Nat.reduceLeDiff, Nat.reduceEqDiff, Int.reduceLT, Int.reduceLE, Int.reduceEq, Int.reduceNe, Int.reduceToNat, Int.reduceAdd, Int.reduceSub, Int.reduceMul, Int.reducePow, Int.reduceDiv, Int.reduceMod, Int.reduceNeg, reduceCtorEq, codeKey, List.contains, List.elem, Ev.load, peek, pack, storeV, fieldAddr, field, cvB, g0, g1, hN2, en, decide_false])
      obtain rfl : a = _ := (Option.some.inj ((show loopIn Tryd.prog 12 14 = some _ from rfl).symm.trans ha)).symm
      refine hLR _ ?_ ?_
      · intro H' ov v9 v10 v11 v13 out p hp ho hl hdo
        have hEq := hEq out hl
        unfold tailV
        rcases ho with ⟨rfl, rfl⟩ | ⟨hne, r, rfl, hr0, hr, hHr⟩
        · have h9 := enc9_nils (QB H' .nils p false)
          rw [hoe [] hl] at h9
          have hf : fltL [] = none := rfl
          rw [hf] at h9
          by_cases hb2 : bytesL [] = b0 :: b1 :: []
          · have hEq := fun (x y : Bool) (Hx : Heap) => (hEq x y Hx).trans (by rw [decide_eq_true hb2])
            rw [if_pos ⟨rfl, hb2⟩, if_pos rfl]
            repeat' (first | (refine cond_by (F := ans) (fun _ => ?_) (fun _ => ?_)) | (refine wayK_by (F := ans) (fun _ hb_ => ?_) (fun _ hb_ => ?_) <;> simp only [hb_]) | (refine wayK_byN (F := ans) (fun _ hb_ => ?_) (fun _ hb_ => ?_) <;> simp only [hb_]) | (refine wayD_by (F := ans) (fun _ hb_ => ?_) (fun _ hb_ => ?_) <;> simp only [hb_]) | (refine wayD_byN (F := ans) (fun _ hb_ => ?_) (fun _ hb_ => ?_) <;> simp only [hb_]) | (refine rdK_by (F := ans) (fun _ => ?_) (fun _ => ?_)) | (refine effK_by (F := ans) (fun _ => ?_) (fun _ => ?_)) | (refine effK_by2 (F := ans) (fun _ => ?_) (fun _ => ?_)) | (refine rdD_by (F := ans) (fun _ => ?_) (fun _ => ?_)) | (refine effD_by (F := ans) (fun _ => ?_) (fun _ => ?_)) | (refine effD_by2 (F := ans) (fun _ => ?_) (fun _ => ?_)) | simp -implicitDefEqProofs (disch := first | omega | (simp only [List.length_append, List.length_cons, List.length_nil, List.length_drop, List.length_take]; omega)) only [evs, tys, lors, Nat.reduceAdd, Nat.reduceSub, Nat.reduceMul, Nat.reducePow, Nat.reduceBEq, Nat.reduceLT, Nat.reduceLeDiff, Nat.reduceEqDiff, Int.reduceLT, Int.reduceLE, Int.reduceEq, Int.reduceNe, Int.reduceToNat, Int.reduceAdd, Int.reduceSub, Int.reduceMul, Int.reducePow, Int.reduceDiv, Int.reduceMod, Int.reduceNeg, reduceCtorEq, codeKey, List.contains, List.elem, Ev.load, peek, pack, storeV, fieldAddr, field, cvB, qb_0 hp, h9, hEq])
            all_goals trace_state
          · have hEq := fun (x y : Bool) (Hx : Heap) => (hEq x y Hx).trans (by rw [decide_eq_false hb2])
            rw [if_neg (fun h => hb2 h.2)]
            repeat' (first | (refine cond_by (F := ans) (fun _ => ?_) (fun _ => ?_)) | (refine wayK_by (F := ans) (fun _ hb_ => ?_) (fun _ hb_ => ?_) <;> simp only [hb_]) | (refine wayK_byN (F := ans) (fun _ hb_ => ?_) (fun _ hb_ => ?_) <;> simp only [hb_]) | (refine wayD_by (F := ans) (fun _ hb_ => ?_) (fun _ hb_ => ?_) <;> simp only [hb_]) | (refine wayD_byN (F := ans) (fun _ hb_ => ?_) (fun _ hb_ => ?_) <;> simp only [hb_]) | (refine rdK_by (F := ans) (fun _ => ?_) (fun _ => ?_)) | (refine effK_by (F := ans) (fun _ => ?_) (fun _ => ?_)) | (refine effK_by2 (F := ans) (fun _ => ?_) (fun _ => ?_)) | (refine rdD_by (F := ans) (fun _ => ?_) (fun _ => ?_)) | (refine effD_by (F := ans) (fun _ => ?_) (fun _ => ?_)) | (refine effD_by2 (F := ans) (fun _ => ?_) (fun _ => ?_)) | simp -implicitDefEqProofs (disch := first | omega | (simp only [List.length_append, List.length_cons, List.length_nil, List.length_drop, List.length_take]; omega)) only [evs, tys, lors, Nat.reduceAdd, Nat.reduceSub, Nat.reduceMul, Nat.reducePow, Nat.reduceBEq, Nat.reduceLT, Nat.reduceLeDiff, Nat.reduceEqDiff, Int.reduceLT, Int.reduceLE, Int.reduceEq, Int.reduceNe, Int.reduceToNat, Int.reduceAdd, Int.reduceSub, Int.reduceMul, Int.reducePow, Int.reduceDiv, Int.reduceMod, Int.reduceNeg, reduceCtorEq, codeKey, List.contains, List.elem, Ev.load, peek, pack, storeV, fieldAddr, field, cvB, qb_0 hp, h9, hEq])
            all_goals trace_state
        · have hr0' : ¬ r = 0 := by omega
          have h9 := enc9_row out hdo r (QB H' .nils p false) (by rw [qb_len]; exact hr) (by rw [qb_get hr0']; exact hHr)
          rw [qb_set hr0', hoe out hl] at h9
          cases hf : fltL out with
          | some j =>
            rw [hf] at h9
            rw [if_neg (fun h => by cases h.1)]
            repeat' (first | (refine cond_by (F := ans) (fun _ => ?_) (fun _ => ?_)) | (refine wayK_by (F := ans) (fun _ hb_ => ?_) (fun _ hb_ => ?_) <;> simp only [hb_]) | (refine wayK_byN (F := ans) (fun _ hb_ => ?_) (fun _ hb_ => ?_) <;> simp only [hb_]) | (refine wayD_by (F := ans) (fun _ hb_ => ?_) (fun _ hb_ => ?_) <;> simp only [hb_]) | (refine wayD_byN (F := ans) (fun _ hb_ => ?_) (fun _ hb_ => ?_) <;> simp only [hb_]) | (refine rdK_by (F := ans) (fun _ => ?_) (fun _ => ?_)) | (refine effK_by (F := ans) (fun _ => ?_) (fun _ => ?_)) | (refine effK_by2 (F := ans) (fun _ => ?_) (fun _ => ?_)) | (refine rdD_by (F := ans) (fun _ => ?_) (fun _ => ?_)) | (refine effD_by (F := ans) (fun _ => ?_) (fun _ => ?_)) | (refine effD_by2 (F := ans) (fun _ => ?_) (fun _ => ?_)) | simp -implicitDefEqProofs (disch := first | omega | (simp only [List.length_append, List.length_cons, List.length_nil, List.length_drop, List.length_take]; omega)) only [evs, tys, lors, Nat.reduceAdd, Nat.reduceSub, Nat.reduceMul, Nat.reducePow, Nat.reduceBEq, Nat.reduceLT, Nat.reduceLeDiff, Nat.reduceEqDiff, Int.reduceLT, Int.reduceLE, Int.reduceEq, Int.reduceNe, Int.reduceToNat, Int.reduceAdd, Int.reduceSub, Int.reduceMul, Int.reducePow, Int.reduceDiv, Int.reduceMod, Int.reduceNeg, reduceCtorEq, codeKey, List.contains, List.elem, Ev.load, peek, pack, storeV, fieldAddr, field, cvB, qb_0 hp, h9])
            all_goals trace_state
          | none =>
            rw [hf] at h9
            by_cases hb2 : bytesL out = b0 :: b1 :: []
            · have hEq := fun (x y : Bool) (Hx : Heap) => (hEq x y Hx).trans (by rw [decide_eq_true hb2])
              rw [if_pos ⟨rfl, hb2⟩, if_neg hne]
              repeat' (first | (refine cond_by (F := ans) (fun _ => ?_) (fun _ => ?_)) | (refine wayK_by (F := ans) (fun _ hb_ => ?_) (fun _ hb_ => ?_) <;> simp only [hb_]) | (refine wayK_byN (F := ans) (fun _ hb_ => ?_) (fun _ hb_ => ?_) <;> simp only [hb_]) | (refine wayD_by (F := ans) (fun _ hb_ => ?_) (fun _ hb_ => ?_) <;> simp only [hb_]) | (refine wayD_byN (F := ans) (fun _ hb_ => ?_) (fun _ hb_ => ?_) <;> simp only [hb_]) | (refine rdK_by (F := ans) (fun _ => ?_) (fun _ => ?_)) | (refine effK_by (F := ans) (fun _ => ?_) (fun _ => ?_)) | (refine effK_by2 (F := ans) (fun _ => ?_) (fun _ => ?_)) | (refine rdD_by (F := ans) (fun _ => ?_) (fun _ => ?_)) | (refine effD_by (F := ans) (fun _ => ?_) (fun _ => ?_)) | (refine effD_by2 (F := ans) (fun _ => ?_) (fun _ => ?_)) | simp -implicitDefEqProofs (disch := first | omega | (simp only [List.length_append, List.length_cons, List.length_nil, List.length_drop, List.length_take]; omega)) only [evs, tys, lors, Nat.reduceAdd, Nat.reduceSub, Nat.reduceMul, Nat.reducePow, Nat.reduceBEq, Nat.reduceLT, Nat.reduceLeDiff, Nat.reduceEqDiff, Int.reduceLT, Int.reduceLE, Int.reduceEq, Int.reduceNe, Int.reduceToNat, Int.reduceAdd, Int.reduceSub, Int.reduceMul, Int.reducePow, Int.reduceDiv, Int.reduceMod, Int.reduceNeg, reduceCtorEq, codeKey, List.contains, List.elem, Ev.load, peek, pack, storeV, fieldAddr, field, cvB, qb_0 hp, h9, hEq])
              exact give_rowD (by rw [qb_get hr0', List.getElem?_set_self hr]) rfl rfl
            · have hEq := fun (x y : Bool) (Hx : Heap) => (hEq x y Hx).trans (by rw [decide_eq_false hb2])
              rw [if_neg (fun h => hb2 h.2)]
              repeat' (first | (refine cond_by (F := ans) (fun _ => ?_) (fun _ => ?_)) | (refine wayK_by (F := ans) (fun _ hb_ => ?_) (fun _ hb_ => ?_) <;> simp only [hb_]) | (refine wayK_byN (F := ans) (fun _ hb_ => ?_) (fun _ hb_ => ?_) <;> simp only [hb_]) | (refine wayD_by (F := ans) (fun _ hb_ => ?_) (fun _ hb_ => ?_) <;> simp only [hb_]) | (refine wayD_byN (F := ans) (fun _ hb_ => ?_) (fun _ hb_ => ?_) <;> simp only [hb_]) | (refine rdK_by (F := ans) (fun _ => ?_) (fun _ => ?_)) | (refine effK_by (F := ans) (fun _ => ?_) (fun _ => ?_)) | (refine effK_by2 (F := ans) (fun _ => ?_) (fun _ => ?_)) | (refine rdD_by (F := ans) (fun _ => ?_) (fun _ => ?_)) | (refine effD_by (F := ans) (fun _ => ?_) (fun _ => ?_)) | (refine effD_by2 (F := ans) (fun _ => ?_) (fun _ => ?_)) | simp -implicitDefEqProofs (disch := first | omega | (simp only [List.length_append, List.length_cons, List.length_nil, List.length_drop, List.length_take]; omega)) only [evs, tys, lors, Nat.reduceAdd, Nat.reduceSub, Nat.reduceMul, Nat.reducePow, Nat.reduceBEq, Nat.reduceLT, Nat.reduceLeDiff, Nat.reduceEqDiff, Int.reduceLT, Int.reduceLE, Int.reduceEq, Int.reduceNe, Int.reduceToNat, Int.reduceAdd, Int.reduceSub, Int.reduceMul, Int.reducePow, Int.reduceDiv, Int.reduceMod, Int.reduceNeg, reduceCtorEq, codeKey, List.contains, List.elem, Ev.load, peek, pack, storeV, fieldAddr, field, cvB, qb_0 hp, h9, hEq])
              all_goals trace_state
      · intro H' v8 v9 v10 v11 v13 p hp
        repeat' (first | (refine cond_by (F := ans) (fun _ => ?_) (fun _ => ?_)) | (refine wayK_by (F := ans) (fun _ hb_ => ?_) (fun _ hb_ => ?_) <;> simp only [hb_]) | (refine wayK_byN (F := ans) (fun _ hb_ => ?_) (fun _ hb_ => ?_) <;> simp only [hb_]) | (refine wayD_by (F := ans) (fun _ hb_ => ?_) (fun _ hb_ => ?_) <;> simp only [hb_]) | (refine wayD_byN (F := ans) (fun _ hb_ => ?_) (fun _ hb_ => ?_) <;> simp only [hb_]) | (refine rdK_by (F := ans) (fun _ => ?_) (fun _ => ?_)) | (refine effK_by (F := ans) (fun _ => ?_) (fun _ => ?_)) | (refine effK_by2 (F := ans) (fun _ => ?_) (fun _ => ?_)) | (refine rdD_by (F := ans) (fun _ => ?_) (fun _ => ?_)) | (refine effD_by (F := ans) (fun _ => ?_) (fun _ => ?_)) | (refine effD_by2 (F := ans) (fun _ => ?_) (fun _ => ?_)) | simp -implicitDefEqProofs (disch := first | omega | (simp only [List.length_append, List.length_cons, List.length_nil, List.length_drop, List.length_take]; omega)) only [evs, tys, lors, Nat.reduceAdd, Nat.reduceSub, Nat.reduceMul, Nat.reducePow, Nat.reduceBEq, Nat.reduceLT, Nat.reduceLeDiff, Nat.reduceEqDiff, Int.reduceLT, Int.reduceLE, Int.reduceEq, Int.reduceNe, Int.reduceToNat, Int.reduceAdd, Int.reduceSub, Int.reduceMul, Int.reducePow, Int.reduceDiv, Int.reduceMod, Int.reduceNeg, reduceCtorEq, codeKey, List.contains, List.elem, Ev.load, peek, pack, storeV, fieldAddr, field, cvB, qb_0 hp])
        all_goals trace_state
    | cons y ys =>
      have hQ : QB [⟨[.nils], 0, false, false⟩, ⟨enc8 (unpack (y :: ys)), 1, true, false⟩, FB D0.fr] (.row 1 (unpack (y :: ys)).length) 0 false = [⟨[.row 1 (unpack (y :: ys)).length, .int .i64 0, .bool false], 0, false, false⟩, ⟨enc8 (unpack (y :: ys)), 1, true, false⟩, ⟨[.bool false, .int .i64 0, .int .i64 0], 0, false, false⟩] := by unfold QB; rfl
      have hLR := hLR (.row 1 (unpack (y :: ys)).length) 1 2 [⟨[.nils], 0, false, false⟩, ⟨enc8 (unpack (y :: ys)), 1, true, false⟩, FB D0.fr] (by decide) (by simp) (Or.inr ⟨rfl, by decide, rfl⟩) rfl
      rw [hQ] at hLR
      have hlB := loopBits (y :: ys) hbs (by omega) c (.sl (enc8 (b0 :: b1 :: y :: ys)) 1 c)
      have e5 := enc8_len (y :: ys)
      have hy := hbs y (by simp)
      have hnum := fun H => num_z y (by omega) 8 (by decide) (by decide) 8 rfl H
      have hap := a34_nils (H := [⟨[.nils, .int .i64 0, .bool false], 0, false, false⟩]) (b := numB y 8) (by rw [numB_len]; decide)
      rw [numB_len] at hap
      have hu1 : unpack [y] = numB y 8 := by rw [unpack, unpack, List.append_nil]
      have hey : (enc8 (y :: ys))[0]? = some (.int .u8 y) := rfl
      have hl8 := numB_len y 8
      have hpos : (0 : Int) < ((ys.length + 1 : Nat) : Int) := by omega
      rw [List.length_cons] at e5
      have hlt3 : ¬ ((ys.length + 1 + 2 : Nat) : Int) < 2 := by omega
      rw [call_start lore_ext12 Tryd.func12 rfl lore_okf12 (Nat.le_of_ble_eq_true rfl)]
      repeat' (first | (refine cond_by (F := ans) (fun _ => ?_) (fun _ => ?_)) | (refine wayK_by (F := ans) (fun _ hb_ => ?_) (fun _ hb_ => ?_) <;> simp only [hb_]) | (refine wayK_byN (F := ans) (fun _ hb_ => ?_) (fun _ hb_ => ?_) <;> simp only [hb_]) | (refine wayD_by (F := ans) (fun _ hb_ => ?_) (fun _ hb_ => ?_) <;> simp only [hb_]) | (refine wayD_byN (F := ans) (fun _ hb_ => ?_) (fun _ hb_ => ?_) <;> simp only [hb_]) | (refine rdK_by (F := ans) (fun _ => ?_) (fun _ => ?_)) | (refine effK_by (F := ans) (fun _ => ?_) (fun _ => ?_)) | (refine effK_by2 (F := ans) (fun _ => ?_) (fun _ => ?_)) | (refine rdD_by (F := ans) (fun _ => ?_) (fun _ => ?_)) | (refine effD_by (F := ans) (fun _ => ?_) (fun _ => ?_)) | (refine effD_by2 (F := ans) (fun _ => ?_) (fun _ => ?_)) | simp -implicitDefEqProofs (disch := first | omega | (simp only [List.length_append, List.length_cons, List.length_nil, List.length_drop, List.length_take]; omega)) only [evs, tys, lors, Nat.reduceAdd, Nat.reduceSub, Nat.reduceMul, Nat.reducePow, Nat.reduceBEq, Nat.reduceLT, Nat.reduceLeDiff, Nat.reduceEqDiff, Int.reduceLT, Int.reduceLE, Int.reduceEq, Int.reduceNe, Int.reduceToNat, Int.reduceAdd, Int.reduceSub, Int.reduceMul, Int.reducePow, Int.reduceDiv, Int.reduceMod, Int.reduceNeg, reduceCtorEq, codeKey, List.contains, List.elem, Ev.load, peek, pack, storeV, fieldAddr, field, cvB, e4, hll, hlt2, hlt3, g0, g1, slice2, decide_false])
      rw [loopL_step' rfl]
      repeat' (first | (refine cond_by (F := ans) (fun _ => ?_) (fun _ => ?_)) | (refine wayK_by (F := ans) (fun _ hb_ => ?_) (fun _ hb_ => ?_) <;> simp only [hb_]) | (refine wayK_byN (F := ans) (fun _ hb_ => ?_) (fun _ hb_ => ?_) <;> simp only [hb_]) | (refine wayD_by (F := ans) (fun _ hb_ => ?_) (fun _ hb_ => ?_) <;> simp only [hb_]) | (refine wayD_byN (F := ans) (fun _ hb_ => ?_) (fun _ hb_ => ?_) <;> simp only [hb_]) | (refine rdK_by (F := ans) (fun _ => ?_) (fun _ => ?_)) | (refine effK_by (F := ans) (fun _ => ?_) (fun _ => ?_)) | (refine effK_by2 (F := ans) (fun _ => ?_) (fun _ => ?_)) | (refine rdD_by (F := ans) (fun _ => ?_) (fun _ => ?_)) | (refine effD_by (F := ans) (fun _ => ?_) (fun _ => ?_)) | (refine effD_by2 (F := ans) (fun _ => ?_) (fun _ => ?_)) | simp -implicitDefEqProofs (disch := first | omega | (simp only [List.length_append, List.length_cons, List.length_nil, List.length_drop, List.length_take]; omega)) only [evs, tys, lors, Nat.reduceAdd, Nat.reduceSub, Nat.reduceMul, Nat.reducePow, Nat.reduceBEq, Nat.reduceLT, Nat.reduceLeDiff, Nat.reduceEqDiff, Int.reduceLT, Int.reduceLE, Int.reduceEq, Int.reduceNe, Int.reduceToNat, Int.reduceAdd, Int.reduceSub, Int.reduceMul, Int.reducePow, Int.reduceDiv, Int.reduceMod, Int.reduceNeg, reduceCtorEq, codeKey, List.contains, List.elem, Ev.load, peek, pack, storeV, fieldAddr, field, cvB, e5, hey, hnum, hap, hpos, s34_sl, decide_true])
      all_goals repeat (rw [chkB_bit (by kernel_rfl)])
      repeat' (first | (refine cond_by (F := ans) (fun _ => ?_) (fun _ => ?_)) | (refine wayK_by (F := ans) (fun _ hb_ => ?_) (fun _ hb_ => ?_) <;> simp only [hb_]) | (refine wayK_byN (F := ans) (fun _ hb_ => ?_) (fun _ hb_ => ?_) <;> simp only [hb_]) | (refine wayD_by (F := ans) (fun _ hb_ => ?_) (fun _ hb_ => ?_) <;> simp only [hb_]) | (refine wayD_byN (F := ans) (fun _ hb_ => ?_) (fun _ hb_ => ?_) <;> simp only [hb_]) | (refine rdK_by (F := ans) (fun _ => ?_) (fun _ => ?_)) | (refine effK_by (F := ans) (fun _ => ?_) (fun _ => ?_)) | (refine effK_by2 (F := ans) (fun _ => ?_) (fun _ => ?_)) | (refine rdD_by (F := ans) (fun _ => ?_) (fun _ => ?_)) | (refine effD_by (F := ans) (fun _ => ?_) (fun _ => ?_)) | (refine effD_by2 (F := ans) (fun _ => ?_) (fun _ => ?_)) | simp -implicitDefEqProofs (disch := first | omega | (simp only [List.length_append, List.length_cons, List.length_nil, List.length_drop, List.length_take]; omega)) only [evs, tys, lors, Nat.reduceAdd, Nat.reduceSub, Nat.reduceMul, Nat.reducePow, Nat.reduceBEq, Nat.reduceLT, Nat.reduceLeDiff, Nat.reduceEqDiff, Int.reduceLT, Int.reduceLE, Int.reduceEq, Int.reduceNe, Int.reduceToNat, Int.reduceAdd, Int.reduceSub, Int.reduceMul, Int.reducePow, Int.reduceDiv, Int.reduceMod, Int.reduceNeg, reduceCtorEq, codeKey, List.contains, List.elem, Ev.load, peek, pack, storeV, fieldAddr, field, cvB, e5, hey, hnum, hap, hpos, s34_sl, decide_true])
      have hlB := fun K R a ha hR => hlB K R a ha hR ys [y] 1 rfl rfl
      simp only [hu1, hl8, List.length_cons] at hlB
      refine hlB _ _ _ (by rfl) ?_
      intro z
      repeat' (first | (refine cond_by (F := ans) (fun _ => ?_) (fun _ => ?_)) | (refine wayK_by (F := ans) (fun _ hb_ => ?_) (fun _ hb_ => ?_) <;> simp only [hb_]) | (refine wayK_byN (F := ans) (fun _ hb_ => ?_) (fun _ hb_ => ?_) <;> simp only [hb_]) | (refine wayD_by (F := ans) (fun _ hb_ => ?_) (fun _ hb_ => ?_) <;> simp only [hb_]) | (refine wayD_byN (F := ans) (fun _ hb_ => ?_) (fun _ hb_ => ?_) <;> simp only [hb_]) | (refine rdK_by (F := ans) (fun _ => ?_) (fun _ => ?_)) | (refine effK_by (F := ans) (fun _ => ?_) (fun _ => ?_)) | (refine effK_by2 (F := ans) (fun _ => ?_) (fun _ => ?_)) | (refine rdD_by (F := ans) (fun _ => ?_) (fun _ => ?_)) | (refine effD_by (F := ans) (fun _ => ?_) (fun _ => ?_)) | (refine effD_by2 (F := ans) (fun _ => ?_) (fun _ => ?_)) | simp -implicitDefEqProofs (disch := first | omega | (simp only [List.length_append, List.length_cons, List.length_nil, List.length_drop, List.length_take]; omega)) only [evs, tys, lors, Nat.reduceAdd, Nat.reduceSub, Nat.reduceMul, Nat.reducePow, Nat.reduceBEq, Nat.reduceLT, Nat.reduceLeDiff, Nat.reduceEqDiff, Int.reduceLT, Int.reduceLE, Int.reduceEq, Int.reduceNe, Int.reduceToNat, Int.reduceAdd, Int.reduceSub, Int.reduceMul, Int.reducePow, Int.reduceDiv, Int.reduceMod, Int.reduceNeg, reduceCtorEq, codeKey, List.contains, List.elem, Ev.load, peek, pack, storeV, fieldAddr, field, cvB, g0, g1, hN2, decide_false])
      obtain rfl : a = _ := (Option.some.inj ((show loopIn Tryd.prog 12 14 = some _ from rfl).symm.trans ha)).symm
      refine hLR _ ?_ ?_
      · intro H' ov v9 v10 v11 v13 out p hp ho hl hdo
        have hEq := hEq out hl
        unfold tailV
        rcases ho with ⟨rfl, rfl⟩ | ⟨hne, r, rfl, hr0, hr, hHr⟩
        · have h9 := enc9_nils (QB H' (.row 1 (unpack (y :: ys)).length) p false)
          rw [hoe [] hl] at h9
          have hf : fltL [] = none := rfl
          rw [hf] at h9
          by_cases hb2 : bytesL [] = b0 :: b1 :: y :: ys
          · have hEq := fun (x y : Bool) (Hx : Heap) => (hEq x y Hx).trans (by rw [decide_eq_true hb2])
            rw [if_pos ⟨rfl, hb2⟩, if_pos rfl]
            repeat' (first | (refine cond_by (F := ans) (fun _ => ?_) (fun _ => ?_)) | (refine wayK_by (F := ans) (fun _ hb_ => ?_) (fun _ hb_ => ?_) <;> simp only [hb_]) | (refine wayK_byN (F := ans) (fun _ hb_ => ?_) (fun _ hb_ => ?_) <;> simp only [hb_]) | (refine wayD_by (F := ans) (fun _ hb_ => ?_) (fun _ hb_ => ?_) <;> simp only [hb_]) | (refine wayD_byN (F := ans) (fun _ hb_ => ?_) (fun _ hb_ => ?_) <;> simp only [hb_]) | (refine rdK_by (F := ans) (fun _ => ?_) (fun _ => ?_)) | (refine effK_by (F := ans) (fun _ => ?_) (fun _ => ?_)) | (refine effK_by2 (F := ans) (fun _ => ?_) (fun _ => ?_)) | (refine rdD_by (F := ans) (fun _ => ?_) (fun _ => ?_)) | (refine effD_by (F := ans) (fun _ => ?_) (fun _ => ?_)) | (refine effD_by2 (F := ans) (fun _ => ?_) (fun _ => ?_)) | simp -implicitDefEqProofs (disch := first | omega | (simp only [List.length_append, List.length_cons, List.length_nil, List.length_drop, List.length_take]; omega)) only [evs, tys, lors, Nat.reduceAdd, Nat.reduceSub, Nat.reduceMul, Nat.reducePow, Nat.reduceBEq, Nat.reduceLT, Nat.reduceLeDiff, Nat.reduceEqDiff, Int.reduceLT, Int.reduceLE, Int.reduceEq, Int.reduceNe, Int.reduceToNat, Int.reduceAdd, Int.reduceSub, Int.reduceMul, Int.reducePow, Int.reduceDiv, Int.reduceMod, Int.reduceNeg, reduceCtorEq, codeKey, List.contains, List.elem, Ev.load, peek, pack, storeV, fieldAddr, field, cvB, qb_0 hp, h9, hEq])
            all_goals trace_state
          · have hEq := fun (x y : Bool) (Hx : Heap) => (hEq x y Hx).trans (by rw [decide_eq_false hb2])
            rw [if_neg (fun h => hb2 h.2)]
            repeat' (first | (refine cond_by (F := ans) (fun _ => ?_) (fun _ => ?_)) | (refine wayK_by (F := ans) (fun _ hb_ => ?_) (fun _ hb_ => ?_) <;> simp only [hb_]) | (refine wayK_byN (F := ans) (fun _ hb_ => ?_) (fun _ hb_ => ?_) <;> simp only [hb_]) | (refine wayD_by (F := ans) (fun _ hb_ => ?_) (fun _ hb_ => ?_) <;> simp only [hb_]) | (refine wayD_byN (F := ans) (fun _ hb_ => ?_) (fun _ hb_ => ?_) <;> simp only [hb_]) | (refine rdK_by (F := ans) (fun _ => ?_) (fun _ => ?_)) | (refine effK_by (F := ans) (fun _ => ?_) (fun _ => ?_)) | (refine effK_by2 (F := ans) (fun _ => ?_) (fun _ => ?_)) | (refine rdD_by (F := ans) (fun _ => ?_) (fun _ => ?_)) | (refine effD_by (F := ans) (fun _ => ?_) (fun _ => ?_)) | (refine effD_by2 (F := ans) (fun _ => ?_) (fun _ => ?_)) | simp -implicitDefEqProofs (disch := first | omega | (simp only [List.length_append, List.length_cons, List.length_nil, List.length_drop, List.length_take]; omega)) only [evs, tys, lors, Nat.reduceAdd, Nat.reduceSub, Nat.reduceMul, Nat.reducePow, Nat.reduceBEq, Nat.reduceLT, Nat.reduceLeDiff, Nat.reduceEqDiff, Int.reduceLT, Int.reduceLE, Int.reduceEq, Int.reduceNe, Int.reduceToNat, Int.reduceAdd, Int.reduceSub, Int.reduceMul, Int.reducePow, Int.reduceDiv, Int.reduceMod, Int.reduceNeg, reduceCtorEq, codeKey, List.contains, List.elem, Ev.load, peek, pack, storeV, fieldAddr, field, cvB, qb_0 hp, h9, hEq])
            all_goals trace_state
        · have hr0' : ¬ r = 0 := by omega
          have h9 := enc9_row out hdo r (QB H' (.row 1 (unpack (y :: ys)).length) p false) (by rw [qb_len]; exact hr) (by rw [qb_get hr0']; exact hHr)
          rw [qb_set hr0', hoe out hl] at h9
          cases hf : fltL out with
          | some j =>
            rw [hf] at h9
            rw [if_neg (fun h => by cases h.1)]
            repeat' (first | (refine cond_by (F := ans) (fun _ => ?_) (fun _ => ?_)) | (refine wayK_by (F := ans) (fun _ hb_ => ?_) (fun _ hb_ => ?_) <;> simp only [hb_]) | (refine wayK_byN (F := ans) (fun _ hb_ => ?_) (fun _ hb_ => ?_) <;> simp only [hb_]) | (refine wayD_by (F := ans) (fun _ hb_ => ?_) (fun _ hb_ => ?_) <;> simp only [hb_]) | (refine wayD_byN (F := ans) (fun _ hb_ => ?_) (fun _ hb_ => ?_) <;> simp only [hb_]) | (refine rdK_by (F := ans) (fun _ => ?_) (fun _ => ?_)) | (refine effK_by (F := ans) (fun _ => ?_) (fun _ => ?_)) | (refine effK_by2 (F := ans) (fun _ => ?_) (fun _ => ?_)) | (refine rdD_by (F := ans) (fun _ => ?_) (fun _ => ?_)) | (refine effD_by (F := ans) (fun _ => ?_) (fun _ => ?_)) | (refine effD_by2 (F := ans) (fun _ => ?_) (fun _ => ?_)) | simp -implicitDefEqProofs (disch := first | omega | (simp only [List.length_append, List.length_cons, List.length_nil, List.length_drop, List.length_take]; omega)) only [evs, tys, lors, Nat.reduceAdd, Nat.reduceSub, Nat.reduceMul, Nat.reducePow, Nat.reduceBEq, Nat.reduceLT, Nat.reduceLeDiff, Nat.reduceEqDiff, Int.reduceLT, Int.reduceLE, Int.reduceEq, Int.reduceNe, Int.reduceToNat, Int.reduceAdd, Int.reduceSub, Int.reduceMul, Int.reducePow, Int.reduceDiv, Int.reduceMod, Int.reduceNeg, reduceCtorEq, codeKey, List.contains, List.elem, Ev.load, peek, pack, storeV, fieldAddr, field, cvB, qb_0 hp, h9])
            all_goals trace_state
          | none =>
            rw [hf] at h9
            by_cases hb2 : bytesL out = b0 :: b1 :: y :: ys
            · have hEq := fun (x y : Bool) (Hx : Heap) => (hEq x y Hx).trans (by rw [decide_eq_true hb2])
              rw [if_pos ⟨rfl, hb2⟩, if_neg hne]
              repeat' (first | (refine cond_by (F := ans) (fun _ => ?_) (fun _ => ?_)) | (refine wayK_by (F := ans) (fun _ hb_ => ?_) (fun _ hb_ => ?_) <;> simp only [hb_]) | (refine wayK_byN (F := ans) (fun _ hb_ => ?_) (fun _ hb_ => ?_) <;> simp only [hb_]) | (refine wayD_by (F := ans) (fun _ hb_ => ?_) (fun _ hb_ => ?_) <;> simp only [hb_]) | (refine wayD_byN (F := ans) (fun _ hb_ => ?_) (fun _ hb_ => ?_) <;> simp only [hb_]) | (refine rdK_by (F := ans) (fun _ => ?_) (fun _ => ?_)) | (refine effK_by (F := ans) (fun _ => ?_) (fun _ => ?_)) | (refine effK_by2 (F := ans) (fun _ => ?_) (fun _ => ?_)) | (refine rdD_by (F := ans) (fun _ => ?_) (fun _ => ?_)) | (refine effD_by (F := ans) (fun _ => ?_) (fun _ => ?_)) | (refine effD_by2 (F := ans) (fun _ => ?_) (fun _ => ?_)) | simp -implicitDefEqProofs (disch := first | omega | (simp only [List.length_append, List.length_cons, List.length_nil, List.length_drop, List.length_take]; omega)) only [evs, tys, lors, Nat.reduceAdd, Nat.reduceSub, Nat.reduceMul, Nat.reducePow, Nat.reduceBEq, Nat.reduceLT, Nat.reduceLeDiff, Nat.reduceEqDiff, Int.reduceLT, Int.reduceLE, Int.reduceEq, Int.reduceNe, Int.reduceToNat, Int.reduceAdd, Int.reduceSub, Int.reduceMul, Int.reducePow, Int.reduceDiv, Int.reduceMod, Int.reduceNeg, reduceCtorEq, codeKey, List.contains, List.elem, Ev.load, peek, pack, storeV, fieldAddr, field, cvB, qb_0 hp, h9, hEq])
              exact give_rowD (by rw [qb_get hr0', List.getElem?_set_self hr]) rfl rfl
            · have hEq := fun (x y : Bool) (Hx : Heap) => (hEq x y Hx).trans (by rw [decide_eq_false hb2])
              rw [if_neg (fun h => hb2 h.2)]
              repeat' (first | (refine cond_by (F := ans) (fun _ => ?_) (fun _ => ?_)) | (refine wayK_by (F := ans) (fun _ hb_ => ?_) (fun _ hb_ => ?_) <;> simp only [hb_]) | (refine wayK_byN (F := ans) (fun _ hb_ => ?_) (fun _ hb_ => ?_) <;> simp only [hb_]) | (refine wayD_by (F := ans) (fun _ hb_ => ?_) (fun _ hb_ => ?_) <;> simp only [hb_]) | (refine wayD_byN (F := ans) (fun _ hb_ => ?_) (fun _ hb_ => ?_) <;> simp only [hb_]) | (refine rdK_by (F := ans) (fun _ => ?_) (fun _ => ?_)) | (refine effK_by (F := ans) (fun _ => ?_) (fun _ => ?_)) | (refine effK_by2 (F := ans) (fun _ => ?_) (fun _ => ?_)) | (refine rdD_by (F := ans) (fun _ => ?_) (fun _ => ?_)) | (refine effD_by (F := ans) (fun _ => ?_) (fun _ => ?_)) | (refine effD_by2 (F := ans) (fun _ => ?_) (fun _ => ?_)) | simp -implicitDefEqProofs (disch := first | omega | (simp only [List.length_append, List.length_cons, List.length_nil, List.length_drop, List.length_take]; omega)) only [evs, tys, lors, Nat.reduceAdd, Nat.reduceSub, Nat.reduceMul, Nat.reducePow, Nat.reduceBEq, Nat.reduceLT, Nat.reduceLeDiff, Nat.reduceEqDiff, Int.reduceLT, Int.reduceLE, Int.reduceEq, Int.reduceNe, Int.reduceToNat, Int.reduceAdd, Int.reduceSub, Int.reduceMul, Int.reducePow, Int.reduceDiv, Int.reduceMod, Int.reduceNeg, reduceCtorEq, codeKey, List.contains, List.elem, Ev.load, peek, pack, storeV, fieldAddr, field, cvB, qb_0 hp, h9, hEq])
              all_goals trace_state
      · intro H' v8 v9 v10 v11 v13 p hp
        repeat' (first | (refine cond_by (F := ans) (fun _ => ?_) (fun _ => ?_)) | (refine wayK_by (F := ans) (fun _ hb_ => ?_) (fun _ hb_ => ?_) <;> simp only [hb_]) | (refine wayK_byN (F := ans) (fun _ hb_ => ?_) (fun _ hb_ => ?_) <;> simp only [hb_]) | (refine wayD_by (F := ans) (fun _ hb_ => ?_) (fun _ hb_ => ?_) <;> simp only [hb_]) | (refine wayD_byN (F := ans) (fun _ hb_ => ?_) (fun _ hb_ => ?_) <;> simp only [hb_]) | (refine rdK_by (F := ans) (fun _ => ?_) (fun _ => ?_)) | (refine effK_by (F := ans) (fun _ => ?_) (fun _ => ?_)) | (refine effK_by2 (F := ans) (fun _ => ?_) (fun _ => ?_)) | (refine rdD_by (F := ans) (fun _ => ?_) (fun _ => ?_)) | (refine effD_by (F := ans) (fun _ => ?_) (fun _ => ?_)) | (refine effD_by2 (F := ans) (fun _ => ?_) (fun _ => ?_)) | simp -implicitDefEqProofs (disch := first | omega | (simp only [List.length_append, List.length_cons, List.length_nil, List.length_drop, List.length_take]; omega)) only [evs, tys, lors, Nat.reduceAdd, Nat.reduceSub, Nat.reduceMul, Nat.reducePow, Nat.reduceBEq, Nat.reduceLT, Nat.reduceLeDiff, Nat.reduceEqDiff, Int.reduceLT, Int.reduceLE, Int.reduceEq, Int.reduceNe, Int.reduceToNat, Int.reduceAdd, Int.reduceSub, Int.reduceMul, Int.reducePow, Int.reduceDiv, Int.reduceMod, Int.reduceNeg, reduceCtorEq, codeKey, List.contains, List.elem, Ev.load, peek, pack, storeV, fieldAddr, field, cvB, qb_0 hp])
        all_goals trace_state
end Go.Proofs.YtmjdcoacmmmhnaaDoor
