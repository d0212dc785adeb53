/-
Equal of bytes; rows of points. Decode: facts.
-/
import Derived.Test.YtmjdcoacmmmhnaaDoorB4
namespace Go.Proofs.YtmjdcoacmmmhnaaDoor
open Go Ev
set_option linter.all false
set_option maxHeartbeats 4000000
set_option maxRecDepth 5000
attribute [local irreducible] codeL condL loopL callL callV evOps evDraw rdK effK wayK oneK wayD oneD rdD effD chks chkB res

attribute [local irreducible] RB

theorem bytesV_enc8 : ∀ l : List Int, bytesV (enc8 l) = some (l.map fun n => UInt8.ofNat n.toNat)
  | [] => rfl
  | x :: r => by
    show bytesV (.int .u8 x :: enc8 r) = _
    rw [bytesV_cons, bytesV_enc8 r]; rfl
theorem u8_inj {x y : Int} (hx : 0 ≤ x ∧ x < 256) (hy : 0 ≤ y ∧ y < 256) (h : UInt8.ofNat x.toNat = UInt8.ofNat y.toNat) : x = y := by
  have := congrArg UInt8.toNat h
  rw [UInt8.toNat_ofNat', UInt8.toNat_ofNat'] at this
  omega
theorem us8_inj : ∀ (a b : List Int), Us8 a → Us8 b → (a.map fun n => UInt8.ofNat n.toNat) = (b.map fun n => UInt8.ofNat n.toNat) → a = b
  | [], [], _, _, _ => rfl
  | [], _ :: _, _, _, h => by simp at h
  | _ :: _, [], _, _, h => by simp at h
  | x :: a, y :: b, ha, hb, h => by
    rw [List.map_cons, List.map_cons, List.cons.injEq] at h
    rw [u8_inj (ha x (by simp)) (hb y (by simp)) h.1, us8_inj a b (fun z hz => ha z (by simp [hz])) (fun z hz => hb z (by simp [hz])) h.2]
theorem equal_cv (a b : List Int) (ha : Us8 a) (hb : Us8 b) (c d : Bool) (H : Heap) : callV (CL lore) 31 [.sl (enc8 a) 1 c, .sl (enc8 b) 1 d] H = some (.bool (decide (a = b)), H) := by
  refine callV_ans (r := some _) ?_ lore_sh31 rfl H
  rw [call_start lore_ext31 Tryd.func31 rfl lore_okf31 (Nat.le_of_ble_eq_true rfl)]
  repeat' (first | (refine cond_by (F := ans) (fun _ => ?_) (fun _ => ?_)) | (refine wayK_by (F := ans) (fun _ hb_ => ?_) (fun _ hb_ => ?_) <;> simp only [hb_]) | (refine wayK_byN (F := ans) (fun _ hb_ => ?_) (fun _ hb_ => ?_) <;> simp only [hb_]) | (refine wayD_by (F := ans) (fun _ hb_ => ?_) (fun _ hb_ => ?_) <;> simp only [hb_]) | (refine wayD_byN (F := ans) (fun _ hb_ => ?_) (fun _ hb_ => ?_) <;> simp only [hb_]) | (refine rdK_by (F := ans) (fun _ => ?_) (fun _ => ?_)) | (refine effK_by (F := ans) (fun _ => ?_) (fun _ => ?_)) | (refine effK_by2 (F := ans) (fun _ => ?_) (fun _ => ?_)) | (refine rdD_by (F := ans) (fun _ => ?_) (fun _ => ?_)) | (refine effD_by (F := ans) (fun _ => ?_) (fun _ => ?_)) | (refine effD_by2 (F := ans) (fun _ => ?_) (fun _ => ?_)) | simp -implicitDefEqProofs (disch := first | omega | (simp only [List.length_append, List.length_cons, List.length_nil, List.length_drop, List.length_take]; omega)) only [evs, tys, lors, Nat.reduceAdd, Nat.reduceSub, Nat.reduceMul, Nat.reducePow, Nat.reduceBEq, Nat.reduceLT, Nat.reduceLeDiff, Nat.reduceEqDiff, Int.reduceLT, Int.reduceLE, Int.reduceEq, Int.reduceNe, Int.reduceToNat, Int.reduceAdd, Int.reduceSub, Int.reduceMul, Int.reducePow, Int.reduceDiv, Int.reduceMod, Int.reduceNeg, reduceCtorEq, codeKey, List.contains, List.elem, Ev.load, peek, pack, storeV, fieldAddr, field, cvB, bytesV_enc8])
  rw [decide_eq_decide.2 ⟨us8_inj a b ha hb, fun h => by rw [h]⟩]


theorem xorP_ge (L : List Int) (hL : Bits01 L) (p : Nat) (f : Fr) : p + 1 ≤ (xorP L p f).2.1 ∧ (xorP L p f).2.1 ≤ p + 77 := by
  have e6 := gp_lt hL (p + 7) 6
  have e64 : (2 : Int) ^ 6 = 64 := by decide
  unfold xorP
  simp only
  generalize hn : (if gp L (p + 7) 6 = 0 then (64 : Int) else gp L (p + 7) 6) = n
  have hn2 : 1 ≤ n ∧ n ≤ 64 := by rw [← hn]; split <;> omega
  split
  · simp only; omega
  · split
    · split
      · simp only; omega
      · simp only; omega
    · split <;> simp only <;> omega
theorem difP_ge (L : List Int) (p : Nat) : p + 1 ≤ (difP L p).2 ∧ (difP L p).2 ≤ p + 68 := by
  unfold difP
  split
  · simp only; omega
  · split
    · simp only; omega
    · split
      · simp only; omega
      · split <;> simp only <;> omega
theorem xorP_frR (L : List Int) (hL : Bits01 L) (p : Nat) (f : Fr) (hf : FrR f) (hb : (xorP L p f).2.2.2 = false) : FrR (xorP L p f).2.2.1 := by
  have a5 := gp_lt hL (p + 2) 5
  have a6 := gp_lt hL (p + 7) 6
  have e64 : (2 : Int) ^ 6 = 64 := by decide
  have e32 : (2 : Int) ^ 5 = 32 := by decide
  revert hb
  unfold xorP
  simp only
  generalize hn : (if gp L (p + 7) 6 = 0 then (64 : Int) else gp L (p + 7) 6) = n
  have hn2 : 1 ≤ n ∧ n ≤ 64 := by rw [← hn]; split <;> omega
  split
  · exact fun _ => hf
  · split
    · split
      · intro h; cases h
      · intro _ _
        simp only
        omega
    · split
      · intro h; cases h
      · exact fun _ => hf
theorem xorP_bd (L : List Int) (hL : Bits01 L) (p : Nat) (f : Fr) (hf : FrR f) : 0 ≤ (xorP L p f).1 ∧ (xorP L p f).1 < 18446744073709551616 := by
  have a5 := gp_lt hL (p + 2) 5
  have a6 := gp_lt hL (p + 7) 6
  have e64 : (2 : Int) ^ 6 = 64 := by decide
  have e32 : (2 : Int) ^ 5 = 32 := by decide
  unfold xorP
  simp only
  generalize hn : (if gp L (p + 7) 6 = 0 then (64 : Int) else gp L (p + 7) 6) = n
  have hn2 : 1 ≤ n ∧ n ≤ 64 := by rw [← hn]; split <;> omega
  clear hn
  split
  · simp only; omega
  · split
    · split
      · simp only; omega
      · rename_i ht
        obtain ⟨m, rfl⟩ := Int.eq_ofNat_of_zero_le (show 0 ≤ n by omega)
        obtain ⟨l, hl⟩ := Int.eq_ofNat_of_zero_le a5.1
        rw [hl] at ht ⊢
        obtain ⟨t, ht2⟩ := Int.eq_ofNat_of_zero_le (show 0 ≤ 64 - (l : Int) - (m : Int) by omega)
        rw [ht2]
        simp only [Int.toNat_natCast]
        obtain ⟨x0, x1⟩ := gp_lt hL (p + 13) m
        have := shl_fits (t := t) (l := l) (by omega) x0 x1
        omega
    · split
      · simp only; omega
      · rename_i hbad
        have hft : f.there = true := by cases h : f.there <;> simp_all
        obtain ⟨f1, f2, f3⟩ := hf hft
        have ht : ¬ f.t < 0 := fun hh => hbad (Or.inr hh)
        obtain ⟨t, ht2⟩ := Int.eq_ofNat_of_zero_le (show 0 ≤ f.t by omega)
        simp only [ht2, Int.toNat_natCast]
        obtain ⟨x0, x1⟩ := gp_lt hL (p + 2) (64 - f.l - t)
        have := shl_fits (t := t) (l := f.l) (by omega) x0 x1
        omega
theorem varP_bd (L : List Int) (hL : Bits01 L) : ∀ (f k : Nat) (a : Int) (p : Nat), k + 7 * f = 70 → 0 ≤ a → (k ≤ 63 → a < 2 ^ k) → a < 18446744073709551616 → 0 ≤ (varP L f k a p).1 ∧ (varP L f k a p).1 < 18446744073709551616
  | 0, k, a, p, hk, h0, h1, h2 => by simp only [varP]; exact ⟨h0, h2⟩
  | f + 1, k, a, p, hk, h0, h1, h2 => by
    obtain ⟨g0, g1⟩ := gp_lt hL p 8
    have e64 : (2 : Int) ^ 64 = 18446744073709551616 := by decide
    have hk63 : k ≤ 63 := by omega
    have h1 := h1 hk63
    have ha : 0 ≤ a + gp L p 8 % 128 * 2 ^ k % 2 ^ 64 ∧ (k + 7 ≤ 63 → a + gp L p 8 % 128 * 2 ^ k % 2 ^ 64 < 2 ^ (k + 7)) ∧ a + gp L p 8 % 128 * 2 ^ k % 2 ^ 64 < 18446744073709551616 := by
      have hp2 := p2_pos k
      have a0 : 0 ≤ gp L p 8 % 128 * 2 ^ k := Int.mul_nonneg (by omega) (by omega)
      have a1 := Int.mul_le_mul_of_nonneg_right (show gp L p 8 % 128 ≤ 127 by omega) (show (0 : Int) ≤ 2 ^ k by omega)
      have a3 : 0 ≤ gp L p 8 % 128 * 2 ^ k % 2 ^ 64 := Int.emod_nonneg _ (by decide)
      have e7 : (2 : Int) ^ (k + 7) = 2 ^ k * 128 := by rw [Int.pow_add]; rfl
      refine ⟨by omega, fun hk7 => ?_, ?_⟩
      · rw [e7]
        have a2 : gp L p 8 % 128 * 2 ^ k % 2 ^ 64 ≤ gp L p 8 % 128 * 2 ^ k := by
          generalize gp L p 8 % 128 * 2 ^ k = w at *
          rw [e64]
          omega
        omega
      · rcases Nat.lt_or_ge k 63 with hk2 | hk2
        · have hk57 : k ≤ 56 := by omega
          have a2 : gp L p 8 % 128 * 2 ^ k % 2 ^ 64 ≤ gp L p 8 % 128 * 2 ^ k := by
            generalize gp L p 8 % 128 * 2 ^ k = w at *
            rw [e64]
            omega
          have hp : (2 : Int) ^ k ≤ 2 ^ 56 := by
            have := Nat.pow_le_pow_right (show 0 < 2 by decide) hk57
            exact_mod_cast this
          have e56 : (2 : Int) ^ 56 = 72057594037927936 := by decide
          omega
        · obtain rfl : k = 63 := by omega
          have e63 : (2 : Int) ^ 63 = 9223372036854775808 := by decide
          rw [e63, e64] at *
          omega
    rw [varP]
    split
    · exact ⟨ha.1, ha.2.2⟩
    · exact varP_bd L hL f (k + 7) _ _ (by omega) ha.1 ha.2.1 ha.2.2
theorem zag_eq {x : Int} (h0 : 0 ≤ x) (h1 : x < 18446744073709551616) : xorI .i64 (x / 2) (-(x % 2)) = zag x := by
  obtain ⟨n, rfl⟩ := Int.eq_ofNat_of_zero_le h0
  have e1 : ((n : Int) / 2) = ((n / 2 : Nat) : Int) := by omega
  have hn : n / 2 < 2 ^ 64 := by omega
  unfold zag
  rw [e1]
  by_cases hb : (n : Int) % 2 = 0
  · rw [if_pos hb, hb]
    show IntKind.i64.wrap ((BitVec.ofInt 64 ((n / 2 : Nat) : Int) ^^^ BitVec.ofInt 64 (-0)).toNat : Int) = _
    rw [BitVec.toNat_xor, ofNat_toNat hn, show (BitVec.ofInt 64 (-0)).toNat = 0 by decide, Nat.xor_zero, w_i64 (by omega) (by omega)]
  · rw [if_neg hb, show (n : Int) % 2 = 1 by omega]
    show IntKind.i64.wrap ((BitVec.ofInt 64 ((n / 2 : Nat) : Int) ^^^ BitVec.ofInt 64 (-1)).toNat : Int) = _
    rw [BitVec.toNat_xor, ofNat_toNat hn, show (BitVec.ofInt 64 (-1)).toNat = 2 ^ 64 - 1 by decide, xor_ones hn, IntKind.wrap_i64]
    omega
/-! Rows of points. -/
theorem plains_encD : ∀ l, plains (encD l) = true
  | [] => rfl
  | x :: r => by
    show plains (.agg [.int .i64 x.1, .fl .f64 x.2] :: encD r) = true
    rw [plains, plains_encD r]; rfl
theorem encD_app (a b : List (Int × Nat)) : encD (a ++ b) = encD a ++ encD b := List.map_append ..
theorem appD_nils {H : Heap} {p : Int × Nat} : appendV Tryd.prog H 22 .nils [.agg [.int .i64 p.1, .fl .f64 p.2]] = some (.row H.length 1, H ++ [⟨encD [p], 2, true, false⟩]) := by
  have hbt := by39
  have e : maxLen47 = 140737488355328 := by decide
  simp only [appendV, Tryd.underlying22, el39, if_true, sz39, List.length_cons, List.length_nil]
  rw [if_pos ⟨by omega, by omega⟩]
  rfl
theorem appD_row {H : Heap} {i tot : Nat} {l : List (Int × Nat)} {p : Int × Nat} (hH : H[i]? = some ⟨encD l, 2, true, false⟩) (hl : l.length = tot) (hb : tot ≤ 100000000000) : appendV Tryd.prog H 22 (.row i tot) [.agg [.int .i64 p.1, .fl .f64 p.2]] = some (.row i (tot + 1), H.set i ⟨encD (l ++ [p]), 2, true, false⟩) := by
  have hbt := by39
  have hm : (tot + 1) * bytesT Tryd.prog 39 ≤ maxLen47 := by
    have := Nat.mul_le_mul (show tot + 1 ≤ 100000000001 by omega) hbt
    have e : maxLen47 = 140737488355328 := by decide
    omega
  have hm2 : tot + 1 ≤ maxLen47 := by
    have e : maxLen47 = 140737488355328 := by decide
    omega
  simp only [appendV, Tryd.underlying22, el39, if_true, hH, sz39, List.length_cons, List.length_nil]
  rw [if_pos ⟨trivial, by rw [encD_len, hl], fun _ => rfl, hm, hm2⟩, encD_app]
  rfl
theorem srcD_sl {H : Heap} {es : List V} {c : Bool} : srcV Tryd.prog H 2 22 (.sl es 2 c) = some es := by
  simp only [srcV, Tryd.underlying22, szOk, els, beq_self_eq_true, if_true]
section
variable {H : Heap} {h : Nat} {by_ : List Int} {c : Bool} {p : Int} {sh : Bool} {f : Fr}
theorem rb_get {r : Nat} (hr : ¬ r = h) : (RB H h by_ c p sh f)[r]? = H[r]? := by
  unfold RB
  rw [List.getElem?_set_ne (fun e => hr e.symm)]
theorem rb_set {r : Nat} (hr : ¬ r = h) (y : Box) : (RB H h by_ c p sh f).set r y = RB (H.set r y) h by_ c p sh f := by
  unfold RB
  rw [List.set_comm _ _ (fun e => hr e.symm)]
end
theorem old_get (H : Heap) (x : Box) (X : List Box) : (H ++ [x] ++ X)[H.length]? = some x := by simp
theorem old_set (H : Heap) (x y : Box) (X : List Box) : (H ++ [x] ++ X).set H.length y = H ++ [y] ++ X := by simp
theorem new_get (H : Heap) (x : Box) : (H ++ [x])[H.length]? = some x := by simp
theorem new_set (H : Heap) (x y : Box) : (H ++ [x]).set H.length y = H ++ [y] := by simp
end Go.Proofs.YtmjdcoacmmmhnaaDoor
