/-
The writer: put. The writer: its first bits, varint. The writer: differences of differences.
-/
import Derived.Test.YtmjdcoacmmmhnaaDoorLore
import Derived.Test.YtmjdcoacmmmhnaaDoorK
namespace Go.Proofs.YtmjdcoacmmmhnaaDoor
open Go Ev
set_option linter.all false
set_option maxHeartbeats 4000000
set_option maxRecDepth 5000
attribute [local irreducible] codeL condL loopL callL callV evOps evDraw rdK effK wayK oneK wayD oneD rdD effD chks chkB res



def enc8 (l : List Int) : List V := l.map (V.int .u8)
theorem enc8_len (l : List Int) : (enc8 l).length = l.length := List.length_map ..
theorem enc8_app (a b : List Int) : enc8 (a ++ b) = enc8 a ++ enc8 b := List.map_append ..
theorem enc8_get (a : List Int) (x : Int) (b : List Int) : (enc8 (a ++ x :: b))[a.length]? = some (.int .u8 x) := by
  unfold enc8
  rw [List.getElem?_map, List.getElem?_append_right (Nat.le_refl _), Nat.sub_self]
  rfl
theorem enc8_set (a : List Int) (x y : Int) (b : List Int) : (enc8 (a ++ x :: b)).set a.length (.int .u8 y) = enc8 (a ++ y :: b) := by
  unfold enc8
  rw [← List.map_set, List.set_append_right _ _ (Nat.le_refl _), Nat.sub_self]
  rfl
theorem onElem_int {k : IntKind} {n : Int} {v : V} : onElem (.int k n) 0 [v] = v := rfl
theorem callV_sh {E : Lore} {f : Nat} {vs : List V} {H : Heap} {r : Res} (hs : E.shared f = true) (h : res (callL E f vs H) = r) : callV (CL E) f vs H = r := by
  unfold callV
  have e : (CL E).shared f = true := hs
  rw [e]
  exact of_res h
theorem chkB_bit {b : Bool} {p : Prop} {k : Res} (h : b = true) : chkB b p k = k := by subst h; unfold chkB; rfl
theorem src_sl {H : Heap} {es : List V} {c : Bool} : srcV Tryd.prog H 1 23 (.sl es 1 c) = some es := by
  simp only [srcV, Tryd.underlying23, szOk, els, beq_self_eq_true, if_true]
theorem app_row {H : Heap} {i tot : Nat} {cs : List V} {v : Int} (hH : H[i]? = some ⟨cs, 1, true, false⟩) (hl : cs.length = tot) (hb : tot ≤ 100000000000) : appendV Tryd.prog H 23 (.row i tot) [.int .u8 v] = some (.row i (tot + 1), H.set i ⟨cs ++ [.int .u8 v], 1, true, false⟩) := by
  have hz : sizeT Tryd.prog 5 = 1 := sz5
  have hbt := by5
  have hm : (tot + 1) * bytesT Tryd.prog 5 ≤ maxLen47 := by
    have := Nat.mul_le_mul (show tot + 1 ≤ 100000000001 by omega) hbt
    have e : maxLen47 = 140737488355328 := by decide
    omega
  have hm2 : tot + 1 ≤ maxLen47 := by
    have e : maxLen47 = 140737488355328 := by decide
    omega
  simp only [appendV, Tryd.underlying23, el5, if_true, hH, hz, List.length_cons, List.length_nil]
  rw [if_pos ⟨trivial, hl, fun _ => rfl, hm, hm2⟩]
theorem lenU_row {h : Heap} {e : TypeId} {i tot sz : Nat} {cs : List V} {pl fz : Bool} (hH : h[i]? = some ⟨cs, sz, pl, fz⟩) (hs : 0 < sz) (hl : cs.length = tot) : lenU h (some (.slice e)) (.row i tot) = some (.int .i64 tot) := by
  simp only [lenU, els, hH]
  rw [if_pos ⟨hs, hl⟩]
  simp [hl]
theorem two_len (H : Heap) (h r : Nat) (b c : Box) : ((H.set h b).set r c).length = H.length := by simp
section two
variable {H : Heap} {h r : Nat} (h1 : h < H.length) (h2 : r < H.length) (h3 : h ≠ r)
include h1 h2 h3
theorem two_h (b c : Box) : ((H.set h b).set r c)[h]? = some b := by
  rw [List.getElem?_set_ne (Ne.symm h3), List.getElem?_set_self h1]
theorem two_r (b c : Box) : ((H.set h b).set r c)[r]? = some c := by
  rw [List.getElem?_set_self (by rw [List.length_set]; exact h2)]
theorem two_sh (b c b' : Box) : ((H.set h b).set r c).set h b' = (H.set h b').set r c := by
  rw [List.set_comm _ _ (Ne.symm h3), List.set_set]
theorem two_sr (b c c' : Box) : ((H.set h b).set r c).set r c' = (H.set h b).set r c' := List.set_set ..
end two
/-- The boxes of a writer: h its own, r its bytes. -/
def WB (H : Heap) (h r : Nat) (bits : List Int) (rest : List V) : Heap := (H.set h ⟨.row r (packB bits).length :: .int .i64 bits.length :: rest, 0, false, false⟩).set r ⟨enc8 (packB bits), 1, true, false⟩
theorem or_bit {y b : Int} {j : Nat} (hj : j ≤ 7) (h0 : 0 ≤ y) (h1 : y < 256) (h2 : y % 2 ^ (j + 1) = 0) (hb : b = 0 ∨ b = 1) : orI .u8 y (b * 2 ^ j) = y + b * 2 ^ j := by
  obtain ⟨n, rfl⟩ := Int.eq_ofNat_of_zero_le h0
  obtain ⟨k, rfl⟩ : ∃ k : Nat, b = k := ⟨b.toNat, by omega⟩
  have hp : 2 ^ j ≤ 2 ^ 7 := Nat.pow_le_pow_right (by decide) hj
  have hk : k * 2 ^ j ≤ 2 ^ j := by
    have h01 : k ≤ 1 := by omega
    have := Nat.mul_le_mul_right (2 ^ j) h01
    omega
  have e1 : ((k : Int) * 2 ^ j) = ((k * 2 ^ j : Nat) : Int) := by rw [Int.natCast_mul, Int.natCast_pow]; rfl
  have hm : n % 2 ^ (j + 1) = 0 := by
    have e2 : ((2 : Int) ^ (j + 1)) = ((2 ^ (j + 1) : Nat) : Int) := by rw [Int.natCast_pow]; rfl
    rw [e2, ← Int.natCast_emod] at h2
    omega
  obtain ⟨a, rfl⟩ : ∃ a, n = a * 2 ^ (j + 1) := ⟨n / 2 ^ (j + 1), (Nat.div_mul_cancel (Nat.dvd_of_mod_eq_zero hm)).symm⟩
  have hlt : k * 2 ^ j < 2 ^ (j + 1) := by rw [Nat.pow_succ]; have := Nat.two_pow_pos j; omega
  rw [e1, orI_natB (by omega) (by omega), or_apart hlt, Int.natCast_add]
theorem loopPut (H : Heap) (h r : Nat) (h1 : h < H.length) (h2 : r < H.length) (h3 : h ≠ r) (x : Int) (hx : 0 ≤ x ∧ x < 18446744073709551616) (rest : List V) (hrest : rest.length = 8) (K : Kont) (R : Res) (a : Code) (ha : loopIn Tryd.prog 52 1 = some a) (out : List Int)
    (hR : res (K (.exit 0) (Sl 61 .wild [(0, .ptr h 0), (1, .int .u64 x), (6, .int .i64 (-1))]) (WB H h r out rest)) = R) :
    ∀ (m : Nat) (bits : List Int) (z : Int), z = (m : Int) - 1 → m ≤ 64 → Bits01 bits → bits.length + m ≤ 4000000000 → bits ++ numB x m = out → res (loopL lore 52 a (Sl 61 .wild [(0, .ptr h 0), (1, .int .u64 x), (6, .int .i64 z)]) (WB H h r bits rest) K) = R := by
  have hk := loop_key ha
  simp only [loopIn, Tryd.func52, Tryd.f52, loopAt, Option.bind_some, codeKey, if_true, Option.some.injEq, Nat.reduceEqDiff, if_false] at ha
  have g1 := two_h h1 h2 h3
  have g2 := two_r h1 h2 h3
  have g3 := two_sh h1 h2 h3
  have g4 := two_sr (H := H) h1 h2 h3
  intro m
  induction m with
  | zero =>
    intro bits z hz hm hb hl ho
    rw [numB, List.append_nil] at ho
    subst ho
    obtain rfl : z = -1 := by omega
    rw [loopL_step' ha]
    repeat' (first | (refine cond_by (F := res) (fun _ => ?_) (fun _ => ?_)) | (refine wayK_by (F := res) (fun _ hb_ => ?_) (fun _ hb_ => ?_) <;> simp only [hb_]) | (refine wayK_byN (F := res) (fun _ hb_ => ?_) (fun _ hb_ => ?_) <;> simp only [hb_]) | (refine wayD_by (F := res) (fun _ hb_ => ?_) (fun _ hb_ => ?_) <;> simp only [hb_]) | (refine wayD_byN (F := res) (fun _ hb_ => ?_) (fun _ hb_ => ?_) <;> simp only [hb_]) | (refine rdK_by (F := res) (fun _ => ?_) (fun _ => ?_)) | (refine effK_by (F := res) (fun _ => ?_) (fun _ => ?_)) | (refine effK_by2 (F := res) (fun _ => ?_) (fun _ => ?_)) | (refine rdD_by (F := res) (fun _ => ?_) (fun _ => ?_)) | (refine effD_by (F := res) (fun _ => ?_) (fun _ => ?_)) | (refine effD_by2 (F := res) (fun _ => ?_) (fun _ => ?_)) | simp -implicitDefEqProofs (disch := first | omega | (simp only [List.length_append, List.length_cons, List.length_nil, List.length_drop, List.length_take]; omega)) only [evs, tys, lors, Nat.reduceAdd, Nat.reduceSub, Nat.reduceMul, Nat.reducePow, Nat.reduceBEq, Nat.reduceLT, Nat.reduceLeDiff, Nat.reduceEqDiff, Int.reduceLT, Int.reduceLE, Int.reduceEq, Int.reduceNe, Int.reduceToNat, Int.reduceAdd, Int.reduceSub, Int.reduceMul, Int.reducePow, Int.reduceDiv, Int.reduceMod, Int.reduceNeg, reduceCtorEq, codeKey, List.contains, List.elem, Ev.load, peek, pack, storeV, fieldAddr, field, cvB, hk])
    exact hR
  | succ m ih =>
    intro bits z hz hm hb hl ho
    obtain rfl : z = (m : Int) := by omega
    have hm0 : (0 : Int) ≤ (m : Int) := by omega
    obtain ⟨c1, c2, c3, c4, c5, c6, c7, c8, rfl⟩ : ∃ c1 c2 c3 c4 c5 c6 c7 c8, rest = [c1, c2, c3, c4, c5, c6, c7, c8] := by
      match rest, hrest with
      | [c1, c2, c3, c4, c5, c6, c7, c8], _ => exact ⟨_, _, _, _, _, _, _, _, rfl⟩
    rw [loopL_step' ha]
    unfold WB
    by_cases h8 : bits.length % 8 = 0
    · have e8 : (bits.length : Int) % 8 = 0 := by omega
      have l8 := enc8_len (packB bits)
      have hlb : (packB bits).length ≤ 100000000000 := by rw [packB_len _ bits rfl]; omega
      have hap := packB_snoc bits.length bits (x / 2 ^ m % 2) rfl
      have l9 : (enc8 (packB bits) ++ [V.int .u8 0]).length = (packB bits).length + 1 := by rw [List.length_append, l8]; rfl
      have l10 : (((packB bits).length + 1 : Nat) : Int) - 1 = ((packB bits).length : Nat) := by omega
      have q1 : (enc8 (packB bits) ++ [V.int .u8 0])[(packB bits).length]? = some (.int .u8 0) := by
        have := enc8_get (packB bits) 0 []
        rw [enc8_app] at this
        exact this
      have q2 : ∀ v, (enc8 (packB bits) ++ [V.int .u8 0]).set (packB bits).length (.int .u8 v) = enc8 (packB bits ++ [v]) := fun v => by
        have := enc8_set (packB bits) 0 v []
        rw [← this]
        simp [enc8]
      have hsh : (7 : Int) - 0 = ((7 : Nat) : Int) := rfl
      have hbit : 0 ≤ x / 2 ^ m % 2 ∧ x / 2 ^ m % 2 ≤ 1 := by omega
      have hxm : 0 ≤ x / 2 ^ m ∧ x / 2 ^ m < 18446744073709551616 := ⟨Int.ediv_nonneg hx.1 (Int.le_of_lt (p2_pos m)), Int.lt_of_le_of_lt (Int.ediv_le_self _ hx.1) hx.2⟩
      have hor : orI .u8 0 (x / 2 ^ m % 2 * 128) = x / 2 ^ m % 2 * 128 := by
        have h := or_bit (y := 0) (b := x / 2 ^ m % 2) (j := 7) (by decide) (by decide) (by decide) (by decide) (by omega)
        rw [show (2 : Int) ^ 7 = 128 by decide, Int.zero_add] at h
        exact h
      have hnext := ih (bits ++ [x / 2 ^ m % 2]) ((m : Int) - 1) rfl (by omega) (bits01_app hb (fun z hz => by simp at hz; omega)) (by rw [List.length_append, List.length_cons, List.length_nil]; omega) (by rw [List.append_assoc]; exact ho)
      unfold WB at hnext
      rw [hap.1 h8] at hnext
      have hl2 : (packB bits ++ [x / 2 ^ m % 2 * 128]).length = (packB bits).length + 1 := by simp
      have hl3 : ((bits ++ [x / 2 ^ m % 2]).length : Int) = (bits.length : Int) + 1 := by simp
      rw [hl2, hl3] at hnext
      repeat' (first | (refine cond_by (F := res) (fun _ => ?_) (fun _ => ?_)) | (refine wayK_by (F := res) (fun _ hb_ => ?_) (fun _ hb_ => ?_) <;> simp only [hb_]) | (refine wayK_byN (F := res) (fun _ hb_ => ?_) (fun _ hb_ => ?_) <;> simp only [hb_]) | (refine wayD_by (F := res) (fun _ hb_ => ?_) (fun _ hb_ => ?_) <;> simp only [hb_]) | (refine wayD_byN (F := res) (fun _ hb_ => ?_) (fun _ hb_ => ?_) <;> simp only [hb_]) | (refine rdK_by (F := res) (fun _ => ?_) (fun _ => ?_)) | (refine effK_by (F := res) (fun _ => ?_) (fun _ => ?_)) | (refine effK_by2 (F := res) (fun _ => ?_) (fun _ => ?_)) | (refine rdD_by (F := res) (fun _ => ?_) (fun _ => ?_)) | (refine effD_by (F := res) (fun _ => ?_) (fun _ => ?_)) | (refine effD_by2 (F := res) (fun _ => ?_) (fun _ => ?_)) | simp -implicitDefEqProofs (disch := first | omega | (simp only [List.length_append, List.length_cons, List.length_nil, List.length_drop, List.length_take]; omega)) only [evs, tys, lors, Nat.reduceAdd, Nat.reduceSub, Nat.reduceMul, Nat.reducePow, Nat.reduceBEq, Nat.reduceLT, Nat.reduceLeDiff, Nat.reduceEqDiff, Int.reduceLT, Int.reduceLE, Int.reduceEq, Int.reduceNe, Int.reduceToNat, Int.reduceAdd, Int.reduceSub, Int.reduceMul, Int.reducePow, Int.reduceDiv, Int.reduceMod, Int.reduceNeg, reduceCtorEq, codeKey, List.contains, List.elem, Ev.load, peek, pack, storeV, fieldAddr, field, cvB, hk, hm0, g1, g2, g3, g4, e8, l8, l9, l10, q1, q2, hsh, hor, src_sl, app_row (g2 _ _) l8 hlb, lenU_row (g2 _ _) Nat.zero_lt_one l9, bits1, decide_true, Int.toNat_natCast, implies_true, onElem_int])
      all_goals repeat (rw [chkB_bit (by kernel_rfl)])
      repeat' (first | (refine cond_by (F := res) (fun _ => ?_) (fun _ => ?_)) | (refine wayK_by (F := res) (fun _ hb_ => ?_) (fun _ hb_ => ?_) <;> simp only [hb_]) | (refine wayK_byN (F := res) (fun _ hb_ => ?_) (fun _ hb_ => ?_) <;> simp only [hb_]) | (refine wayD_by (F := res) (fun _ hb_ => ?_) (fun _ hb_ => ?_) <;> simp only [hb_]) | (refine wayD_byN (F := res) (fun _ hb_ => ?_) (fun _ hb_ => ?_) <;> simp only [hb_]) | (refine rdK_by (F := res) (fun _ => ?_) (fun _ => ?_)) | (refine effK_by (F := res) (fun _ => ?_) (fun _ => ?_)) | (refine effK_by2 (F := res) (fun _ => ?_) (fun _ => ?_)) | (refine rdD_by (F := res) (fun _ => ?_) (fun _ => ?_)) | (refine effD_by (F := res) (fun _ => ?_) (fun _ => ?_)) | (refine effD_by2 (F := res) (fun _ => ?_) (fun _ => ?_)) | simp -implicitDefEqProofs (disch := first | omega | (simp only [List.length_append, List.length_cons, List.length_nil, List.length_drop, List.length_take]; omega)) only [evs, tys, lors, Nat.reduceAdd, Nat.reduceSub, Nat.reduceMul, Nat.reducePow, Nat.reduceBEq, Nat.reduceLT, Nat.reduceLeDiff, Nat.reduceEqDiff, Int.reduceLT, Int.reduceLE, Int.reduceEq, Int.reduceNe, Int.reduceToNat, Int.reduceAdd, Int.reduceSub, Int.reduceMul, Int.reducePow, Int.reduceDiv, Int.reduceMod, Int.reduceNeg, reduceCtorEq, codeKey, List.contains, List.elem, Ev.load, peek, pack, storeV, fieldAddr, field, cvB, hk, hm0, g1, g2, g3, g4, e8, l8, l9, l10, q1, q2, hsh, hor, src_sl, app_row (g2 _ _) l8 hlb, lenU_row (g2 _ _) Nat.zero_lt_one l9, bits1, decide_true, Int.toNat_natCast, implies_true, onElem_int])
      all_goals first
        | exact hnext
        | trace_state
    · have e8 : ¬ (bits.length : Int) % 8 = 0 := by omega
      obtain ⟨p, y, hp1, hp2, hp3⟩ := (packB_snoc bits.length bits (x / 2 ^ m % 2) rfl).2 h8
      obtain ⟨y0, y1, y2⟩ := hp3 hb
      have hnext := ih (bits ++ [x / 2 ^ m % 2]) ((m : Int) - 1) rfl (by omega) (bits01_app hb (fun z hz => by simp at hz; omega)) (by rw [List.length_append, List.length_cons, List.length_nil]; omega) (by rw [List.append_assoc]; exact ho)
      unfold WB at hnext
      rw [hp2] at hnext
      rw [hp1]
      have hlb : p.length ≤ 100000000000 := by
        have := packB_len _ bits rfl
        rw [hp1, List.length_append] at this
        omega
      have hsh : (7 : Int) - (bits.length : Int) % 8 = ((7 - bits.length % 8 : Nat) : Int) := by omega
      have hj : 7 - bits.length % 8 ≤ 7 := by omega
      rw [show 8 - bits.length % 8 = (7 - bits.length % 8) + 1 by omega] at y2
      have l8 : (enc8 (p ++ [y])).length = p.length + 1 := by rw [enc8_len, List.length_append]; rfl
      have l9 : (p ++ [y]).length = p.length + 1 := by simp
      have l11 : ∀ v, (p ++ [v]).length = p.length + 1 := by simp
      have l10 : ((p.length + 1 : Nat) : Int) - 1 = (p.length : Nat) := by omega
      have q1 := enc8_get p y []
      have q2 := fun v => enc8_set p y v []
      have hbit : 0 ≤ x / 2 ^ m % 2 ∧ x / 2 ^ m % 2 ≤ 1 := by omega
      have hxm : 0 ≤ x / 2 ^ m ∧ x / 2 ^ m < 18446744073709551616 := ⟨Int.ediv_nonneg hx.1 (Int.le_of_lt (p2_pos m)), Int.lt_of_le_of_lt (Int.ediv_le_self _ hx.1) hx.2⟩
      have hor := or_bit (b := x / 2 ^ m % 2) hj y0 y1 y2 (by omega)
      have hl3 : ((bits ++ [x / 2 ^ m % 2]).length : Int) = (bits.length : Int) + 1 := by simp
      rw [l11, hl3] at hnext
      rw [l9]
      have hbj : 0 ≤ x / 2 ^ m % 2 * 2 ^ (7 - bits.length % 8) ∧ x / 2 ^ m % 2 * 2 ^ (7 - bits.length % 8) ≤ 128 := by
        have a1 : (2 : Int) ^ (7 - bits.length % 8) ≤ 2 ^ 7 := by
          have := Nat.pow_le_pow_right (show 0 < 2 by decide) hj
          exact_mod_cast this
        have a2 := p2_pos (7 - bits.length % 8)
        have e7 : (2 : Int) ^ 7 = 128 := by decide
        have h01 : x / 2 ^ m % 2 = 0 ∨ x / 2 ^ m % 2 = 1 := by omega
        rcases h01 with h | h <;> rw [h] <;> omega
      repeat' (first | (refine cond_by (F := res) (fun _ => ?_) (fun _ => ?_)) | (refine wayK_by (F := res) (fun _ hb_ => ?_) (fun _ hb_ => ?_) <;> simp only [hb_]) | (refine wayK_byN (F := res) (fun _ hb_ => ?_) (fun _ hb_ => ?_) <;> simp only [hb_]) | (refine wayD_by (F := res) (fun _ hb_ => ?_) (fun _ hb_ => ?_) <;> simp only [hb_]) | (refine wayD_byN (F := res) (fun _ hb_ => ?_) (fun _ hb_ => ?_) <;> simp only [hb_]) | (refine rdK_by (F := res) (fun _ => ?_) (fun _ => ?_)) | (refine effK_by (F := res) (fun _ => ?_) (fun _ => ?_)) | (refine effK_by2 (F := res) (fun _ => ?_) (fun _ => ?_)) | (refine rdD_by (F := res) (fun _ => ?_) (fun _ => ?_)) | (refine effD_by (F := res) (fun _ => ?_) (fun _ => ?_)) | (refine effD_by2 (F := res) (fun _ => ?_) (fun _ => ?_)) | simp -implicitDefEqProofs (disch := first | omega | (simp only [List.length_append, List.length_cons, List.length_nil, List.length_drop, List.length_take]; omega)) only [evs, tys, lors, Nat.reduceAdd, Nat.reduceSub, Nat.reduceMul, Nat.reducePow, Nat.reduceBEq, Nat.reduceLT, Nat.reduceLeDiff, Nat.reduceEqDiff, Int.reduceLT, Int.reduceLE, Int.reduceEq, Int.reduceNe, Int.reduceToNat, Int.reduceAdd, Int.reduceSub, Int.reduceMul, Int.reducePow, Int.reduceDiv, Int.reduceMod, Int.reduceNeg, reduceCtorEq, codeKey, List.contains, List.elem, Ev.load, peek, pack, storeV, fieldAddr, field, cvB, hk, hm0, g1, g2, g3, g4, e8, l8, l10, q1, q2, hsh, hor, src_sl, lenU_row (g2 _ _) Nat.zero_lt_one l8, bits1, decide_true, decide_false, Int.toNat_natCast, implies_true, onElem_int])
      all_goals repeat (rw [chkB_bit (by kernel_rfl)])
      repeat' (first | (refine cond_by (F := res) (fun _ => ?_) (fun _ => ?_)) | (refine wayK_by (F := res) (fun _ hb_ => ?_) (fun _ hb_ => ?_) <;> simp only [hb_]) | (refine wayK_byN (F := res) (fun _ hb_ => ?_) (fun _ hb_ => ?_) <;> simp only [hb_]) | (refine wayD_by (F := res) (fun _ hb_ => ?_) (fun _ hb_ => ?_) <;> simp only [hb_]) | (refine wayD_byN (F := res) (fun _ hb_ => ?_) (fun _ hb_ => ?_) <;> simp only [hb_]) | (refine rdK_by (F := res) (fun _ => ?_) (fun _ => ?_)) | (refine effK_by (F := res) (fun _ => ?_) (fun _ => ?_)) | (refine effK_by2 (F := res) (fun _ => ?_) (fun _ => ?_)) | (refine rdD_by (F := res) (fun _ => ?_) (fun _ => ?_)) | (refine effD_by (F := res) (fun _ => ?_) (fun _ => ?_)) | (refine effD_by2 (F := res) (fun _ => ?_) (fun _ => ?_)) | simp -implicitDefEqProofs (disch := first | omega | (simp only [List.length_append, List.length_cons, List.length_nil, List.length_drop, List.length_take]; omega)) only [evs, tys, lors, Nat.reduceAdd, Nat.reduceSub, Nat.reduceMul, Nat.reducePow, Nat.reduceBEq, Nat.reduceLT, Nat.reduceLeDiff, Nat.reduceEqDiff, Int.reduceLT, Int.reduceLE, Int.reduceEq, Int.reduceNe, Int.reduceToNat, Int.reduceAdd, Int.reduceSub, Int.reduceMul, Int.reducePow, Int.reduceDiv, Int.reduceMod, Int.reduceNeg, reduceCtorEq, codeKey, List.contains, List.elem, Ev.load, peek, pack, storeV, fieldAddr, field, cvB, hk, hm0, g1, g2, g3, g4, e8, l8, l10, q1, q2, hsh, hor, src_sl, lenU_row (g2 _ _) Nat.zero_lt_one l8, bits1, decide_true, decide_false, Int.toNat_natCast, implies_true, onElem_int])
      all_goals first
        | exact hnext
        | trace_state
theorem put_cv (H : Heap) (h r : Nat) (h1 : h < H.length) (h2 : r < H.length) (h3 : h ≠ r) (x : Int) (hx : 0 ≤ x ∧ x < 18446744073709551616) (rest : List V) (hrest : rest.length = 8) (m : Nat) (hm : m ≤ 64) (bits : List Int) (hb : Bits01 bits) (hl : bits.length + m ≤ 4000000000) :
    callV (CL lore) 52 [.ptr h 0, .int .u64 x, .int .i64 m] (WB H h r bits rest) = some (.tup [], WB H h r (bits ++ numB x m) rest) := by
  refine callV_sh rfl ?_
  rw [call_start lore_ext52 Tryd.func52 rfl lore_okf52 (Nat.le_of_ble_eq_true rfl)]
  repeat' (first | (refine cond_by (F := res) (fun _ => ?_) (fun _ => ?_)) | (refine wayK_by (F := res) (fun _ hb_ => ?_) (fun _ hb_ => ?_) <;> simp only [hb_]) | (refine wayK_byN (F := res) (fun _ hb_ => ?_) (fun _ hb_ => ?_) <;> simp only [hb_]) | (refine wayD_by (F := res) (fun _ hb_ => ?_) (fun _ hb_ => ?_) <;> simp only [hb_]) | (refine wayD_byN (F := res) (fun _ hb_ => ?_) (fun _ hb_ => ?_) <;> simp only [hb_]) | (refine rdK_by (F := res) (fun _ => ?_) (fun _ => ?_)) | (refine effK_by (F := res) (fun _ => ?_) (fun _ => ?_)) | (refine effK_by2 (F := res) (fun _ => ?_) (fun _ => ?_)) | (refine rdD_by (F := res) (fun _ => ?_) (fun _ => ?_)) | (refine effD_by (F := res) (fun _ => ?_) (fun _ => ?_)) | (refine effD_by2 (F := res) (fun _ => ?_) (fun _ => ?_)) | simp -implicitDefEqProofs (disch := first | omega | (simp only [List.length_append, List.length_cons, List.length_nil, List.length_drop, List.length_take]; omega)) only [evs, tys, lors, Nat.reduceAdd, Nat.reduceSub, Nat.reduceMul, Nat.reducePow, Nat.reduceBEq, Nat.reduceLT, Nat.reduceLeDiff, Nat.reduceEqDiff, Int.reduceLT, Int.reduceLE, Int.reduceEq, Int.reduceNe, Int.reduceToNat, Int.reduceAdd, Int.reduceSub, Int.reduceMul, Int.reducePow, Int.reduceDiv, Int.reduceMod, Int.reduceNeg, reduceCtorEq, codeKey, List.contains, List.elem, Ev.load, peek, pack, storeV, fieldAddr, field, cvB])
  refine loopPut H h r h1 h2 h3 x hx rest hrest _ _ _ (by rfl) _ ?_ m bits _ rfl hm hb hl rfl
  repeat' (first | (refine cond_by (F := res) (fun _ => ?_) (fun _ => ?_)) | (refine wayK_by (F := res) (fun _ hb_ => ?_) (fun _ hb_ => ?_) <;> simp only [hb_]) | (refine wayK_byN (F := res) (fun _ hb_ => ?_) (fun _ hb_ => ?_) <;> simp only [hb_]) | (refine wayD_by (F := res) (fun _ hb_ => ?_) (fun _ hb_ => ?_) <;> simp only [hb_]) | (refine wayD_byN (F := res) (fun _ hb_ => ?_) (fun _ hb_ => ?_) <;> simp only [hb_]) | (refine rdK_by (F := res) (fun _ => ?_) (fun _ => ?_)) | (refine effK_by (F := res) (fun _ => ?_) (fun _ => ?_)) | (refine effK_by2 (F := res) (fun _ => ?_) (fun _ => ?_)) | (refine rdD_by (F := res) (fun _ => ?_) (fun _ => ?_)) | (refine effD_by (F := res) (fun _ => ?_) (fun _ => ?_)) | (refine effD_by2 (F := res) (fun _ => ?_) (fun _ => ?_)) | simp -implicitDefEqProofs (disch := first | omega | (simp only [List.length_append, List.length_cons, List.length_nil, List.length_drop, List.length_take]; omega)) only [evs, tys, lors, Nat.reduceAdd, Nat.reduceSub, Nat.reduceMul, Nat.reducePow, Nat.reduceBEq, Nat.reduceLT, Nat.reduceLeDiff, Nat.reduceEqDiff, Int.reduceLT, Int.reduceLE, Int.reduceEq, Int.reduceNe, Int.reduceToNat, Int.reduceAdd, Int.reduceSub, Int.reduceMul, Int.reducePow, Int.reduceDiv, Int.reduceMod, Int.reduceNeg, reduceCtorEq, codeKey, List.contains, List.elem, Ev.load, peek, pack, storeV, fieldAddr, field, cvB])
  all_goals exact res_eq


section wb
variable {H : Heap} {h r : Nat} {bits : List Int} {rest : List V}
theorem wb_h (h1 : h < H.length) (h2 : r < H.length) (h3 : h ≠ r) : (WB H h r bits rest)[h]? = some ⟨.row r (packB bits).length :: .int .i64 bits.length :: rest, 0, false, false⟩ := two_h h1 h2 h3 _ _
theorem wb_sh (h1 : h < H.length) (h2 : r < H.length) (h3 : h ≠ r) (rest' : List V) : (WB H h r bits rest).set h ⟨.row r (packB bits).length :: .int .i64 bits.length :: rest', 0, false, false⟩ = WB H h r bits rest' := two_sh h1 h2 h3 _ _ _
theorem wb_app (h1 : h < H.length) (h2 : r < H.length) (x : Box) : WB H h r bits rest ++ [x] = WB (H ++ [x]) h r bits rest := by
  unfold WB
  rw [List.set_append_left _ _ h1, List.set_append_left _ _ (by rw [List.length_set]; exact h2)]
theorem wb_len : (WB H h r bits rest).length = H.length := by unfold WB; simp
theorem wb_new (h1 : h < H.length) (h2 : r < H.length) (x : Box) : (WB (H ++ [x]) h r bits rest)[H.length]? = some x := by
  rw [← wb_app h1 h2, List.getElem?_append_right (by rw [wb_len]; exact Nat.le_refl _), wb_len, Nat.sub_self]
  rfl
theorem wb_snew (h1 : h < H.length) (h2 : r < H.length) (x y : Box) : (WB (H ++ [x]) h r bits rest).set H.length y = WB (H ++ [y]) h r bits rest := by
  rw [← wb_app h1 h2, ← wb_app h1 h2, List.set_append_right _ _ (by rw [wb_len]; exact Nat.le_refl _), wb_len, Nat.sub_self]
  rfl
end wb
/-- A writer that has written nothing. -/
abbrev NB (H : Heap) (h : Nat) (rest : List V) : Prop := H[h]? = some ⟨.nils :: .int .i64 0 :: rest, 0, false, false⟩
abbrev Z0 : Box := ⟨[.int .u8 0], 1, true, false⟩
theorem nb_lt {H : Heap} {h : Nat} {rest : List V} (hn : NB H h rest) : h < H.length := by
  rcases Nat.lt_or_ge h H.length with h' | h'
  · exact h'
  · unfold NB at hn
    rw [List.getElem?_eq_none h'] at hn
    cases hn
theorem app_nils {H : Heap} {v : Int} : appendV Tryd.prog H 23 .nils [.int .u8 v] = some (.row H.length 1, H ++ [⟨[.int .u8 v], 1, true, false⟩]) := by
  have hz : sizeT Tryd.prog 5 = 1 := sz5
  have hbt := by5
  have e : maxLen47 = 140737488355328 := by decide
  simp only [appendV, Tryd.underlying23, el5, if_true, hz, List.length_cons, List.length_nil]
  rw [if_pos ⟨by omega, by omega⟩]
  rfl
theorem put_nil (H : Heap) (h : Nat) (x : Int) (hx : 0 ≤ x ∧ x < 18446744073709551616) (rest : List V) (hrest : rest.length = 8) (hn : NB H h rest) :
    callV (CL lore) 52 [.ptr h 0, .int .u64 x, .int .i64 8] H = some (.tup [], WB (H ++ [Z0]) h H.length (numB x 8) rest) := by
  refine callV_sh rfl ?_
  have hlt := nb_lt hn
  have h3 : h ≠ H.length := by omega
  have hG1 : h < (H ++ [Z0]).length := by simp; omega
  have hG2 : H.length < (H ++ [Z0]).length := by simp
  have f1 : ∀ b, ((H ++ [Z0]).set h b)[h]? = some b := fun b => List.getElem?_set_self hG1
  have f2 : ∀ b, ((H ++ [Z0]).set h b)[H.length]? = some Z0 := fun b => by
    rw [List.getElem?_set_ne h3, List.getElem?_append_right (Nat.le_refl _), Nat.sub_self]; rfl
  have f3 : (H ++ [Z0])[h]? = some ⟨.nils :: .int .i64 0 :: rest, 0, false, false⟩ := by rw [List.getElem?_append_left hlt]; exact hn
  have g1 := two_h hG1 hG2 h3
  have g2 := two_r hG1 hG2 h3
  have g3 := two_sh hG1 hG2 h3
  have g4 := two_sr (H := H ++ [Z0]) hG1 hG2 h3
  have hxm : 0 ≤ x / 128 ∧ x / 128 < 18446744073709551616 := by omega
  have hbit : 0 ≤ x / 128 % 2 ∧ x / 128 % 2 ≤ 1 := by omega
  have hor : orI .u8 0 (x / 128 % 2 * 128) = x / 128 % 2 * 128 := by
    have h := or_bit (y := 0) (b := x / 128 % 2) (j := 7) (by decide) (by decide) (by decide) (by decide) (by omega)
    rw [show (2 : Int) ^ 7 = 128 by decide, Int.zero_add] at h
    exact h
  have hsh : (7 : Int) - 0 = ((7 : Nat) : Int) := rfl
  have hlp := loopPut (H ++ [Z0]) h H.length hG1 hG2 h3 x hx rest hrest
  obtain ⟨c1, c2, c3, c4, c5, c6, c7, c8, rfl⟩ : ∃ c1 c2 c3 c4 c5 c6 c7 c8, rest = [c1, c2, c3, c4, c5, c6, c7, c8] := by
    match rest, hrest with
    | [c1, c2, c3, c4, c5, c6, c7, c8], _ => exact ⟨_, _, _, _, _, _, _, _, rfl⟩
  rw [call_start lore_ext52 Tryd.func52 rfl lore_okf52 (Nat.le_of_ble_eq_true rfl)]
  repeat' (first | (refine cond_by (F := res) (fun _ => ?_) (fun _ => ?_)) | (refine wayK_by (F := res) (fun _ hb_ => ?_) (fun _ hb_ => ?_) <;> simp only [hb_]) | (refine wayK_byN (F := res) (fun _ hb_ => ?_) (fun _ hb_ => ?_) <;> simp only [hb_]) | (refine wayD_by (F := res) (fun _ hb_ => ?_) (fun _ hb_ => ?_) <;> simp only [hb_]) | (refine wayD_byN (F := res) (fun _ hb_ => ?_) (fun _ hb_ => ?_) <;> simp only [hb_]) | (refine rdK_by (F := res) (fun _ => ?_) (fun _ => ?_)) | (refine effK_by (F := res) (fun _ => ?_) (fun _ => ?_)) | (refine effK_by2 (F := res) (fun _ => ?_) (fun _ => ?_)) | (refine rdD_by (F := res) (fun _ => ?_) (fun _ => ?_)) | (refine effD_by (F := res) (fun _ => ?_) (fun _ => ?_)) | (refine effD_by2 (F := res) (fun _ => ?_) (fun _ => ?_)) | simp -implicitDefEqProofs (disch := first | omega | (simp only [List.length_append, List.length_cons, List.length_nil, List.length_drop, List.length_take]; omega)) only [evs, tys, lors, Nat.reduceAdd, Nat.reduceSub, Nat.reduceMul, Nat.reducePow, Nat.reduceBEq, Nat.reduceLT, Nat.reduceLeDiff, Nat.reduceEqDiff, Int.reduceLT, Int.reduceLE, Int.reduceEq, Int.reduceNe, Int.reduceToNat, Int.reduceAdd, Int.reduceSub, Int.reduceMul, Int.reducePow, Int.reduceDiv, Int.reduceMod, Int.reduceNeg, reduceCtorEq, codeKey, List.contains, List.elem, Ev.load, peek, pack, storeV, fieldAddr, field, cvB])
  rw [loopL_step' rfl]
  have hl := lenU_row (e := 5) (tot := 1) (f2 ⟨[.row H.length 1, .int .i64 0, c1, c2, c3, c4, c5, c6, c7, c8], 0, false, false⟩) Nat.zero_lt_one rfl
  have hsb : 0 ≤ x / 128 % 2 * 128 ∧ x / 128 % 2 * 128 ≤ 255 := by omega
  repeat' (first | (refine cond_by (F := res) (fun _ => ?_) (fun _ => ?_)) | (refine wayK_by (F := res) (fun _ hb_ => ?_) (fun _ hb_ => ?_) <;> simp only [hb_]) | (refine wayK_byN (F := res) (fun _ hb_ => ?_) (fun _ hb_ => ?_) <;> simp only [hb_]) | (refine wayD_by (F := res) (fun _ hb_ => ?_) (fun _ hb_ => ?_) <;> simp only [hb_]) | (refine wayD_byN (F := res) (fun _ hb_ => ?_) (fun _ hb_ => ?_) <;> simp only [hb_]) | (refine rdK_by (F := res) (fun _ => ?_) (fun _ => ?_)) | (refine effK_by (F := res) (fun _ => ?_) (fun _ => ?_)) | (refine effK_by2 (F := res) (fun _ => ?_) (fun _ => ?_)) | (refine rdD_by (F := res) (fun _ => ?_) (fun _ => ?_)) | (refine effD_by (F := res) (fun _ => ?_) (fun _ => ?_)) | (refine effD_by2 (F := res) (fun _ => ?_) (fun _ => ?_)) | simp -implicitDefEqProofs (disch := first | omega | (simp only [List.length_append, List.length_cons, List.length_nil, List.length_drop, List.length_take]; omega)) only [evs, tys, lors, Nat.reduceAdd, Nat.reduceSub, Nat.reduceMul, Nat.reducePow, Nat.reduceBEq, Nat.reduceLT, Nat.reduceLeDiff, Nat.reduceEqDiff, Int.reduceLT, Int.reduceLE, Int.reduceEq, Int.reduceNe, Int.reduceToNat, Int.reduceAdd, Int.reduceSub, Int.reduceMul, Int.reducePow, Int.reduceDiv, Int.reduceMod, Int.reduceNeg, reduceCtorEq, codeKey, List.contains, List.elem, Ev.load, peek, pack, storeV, fieldAddr, field, cvB, hn, f1, f2, f3, g1, g2, g3, g4, hsh, hor, hl, src_sl, app_nils, bits1, implies_true, onElem_int])
  all_goals repeat (rw [chkB_bit (by kernel_rfl)])
  repeat' (first | (refine cond_by (F := res) (fun _ => ?_) (fun _ => ?_)) | (refine wayK_by (F := res) (fun _ hb_ => ?_) (fun _ hb_ => ?_) <;> simp only [hb_]) | (refine wayK_byN (F := res) (fun _ hb_ => ?_) (fun _ hb_ => ?_) <;> simp only [hb_]) | (refine wayD_by (F := res) (fun _ hb_ => ?_) (fun _ hb_ => ?_) <;> simp only [hb_]) | (refine wayD_byN (F := res) (fun _ hb_ => ?_) (fun _ hb_ => ?_) <;> simp only [hb_]) | (refine rdK_by (F := res) (fun _ => ?_) (fun _ => ?_)) | (refine effK_by (F := res) (fun _ => ?_) (fun _ => ?_)) | (refine effK_by2 (F := res) (fun _ => ?_) (fun _ => ?_)) | (refine rdD_by (F := res) (fun _ => ?_) (fun _ => ?_)) | (refine effD_by (F := res) (fun _ => ?_) (fun _ => ?_)) | (refine effD_by2 (F := res) (fun _ => ?_) (fun _ => ?_)) | simp -implicitDefEqProofs (disch := first | omega | (simp only [List.length_append, List.length_cons, List.length_nil, List.length_drop, List.length_take]; omega)) only [evs, tys, lors, Nat.reduceAdd, Nat.reduceSub, Nat.reduceMul, Nat.reducePow, Nat.reduceBEq, Nat.reduceLT, Nat.reduceLeDiff, Nat.reduceEqDiff, Int.reduceLT, Int.reduceLE, Int.reduceEq, Int.reduceNe, Int.reduceToNat, Int.reduceAdd, Int.reduceSub, Int.reduceMul, Int.reducePow, Int.reduceDiv, Int.reduceMod, Int.reduceNeg, reduceCtorEq, codeKey, List.contains, List.elem, Ev.load, peek, pack, storeV, fieldAddr, field, cvB, hn, f1, f2, f3, g1, g2, g3, g4, hsh, hor, hl, src_sl, app_nils, bits1, implies_true, onElem_int])
  have hpk : packB [x / 128 % 2] = [x / 128 % 2 * 128] := by
    have := (packB_snoc 0 [] (x / 128 % 2) rfl).1 rfl
    rw [packB_nil, List.nil_append, List.nil_append] at this
    exact this
  have hnum : numB x 8 = [x / 128 % 2] ++ numB x 7 := by
    rw [numB]
    rfl
  have hw : ((H ++ [Z0]).set h ⟨[.row H.length 1, .int .i64 1, c1, c2, c3, c4, c5, c6, c7, c8], 0, false, false⟩).set H.length ⟨[.int .u8 (x / 128 % 2 * 128)], 1, true, false⟩ = WB (H ++ [Z0]) h H.length [x / 128 % 2] [c1, c2, c3, c4, c5, c6, c7, c8] := by
    unfold WB
    rw [hpk]
    rfl
  rw [hw]
  refine hlp _ _ _ (by rfl) (numB x 8) ?_ 7 [x / 128 % 2] _ rfl (by decide) (fun z hz => by simp at hz; omega) (by simp) hnum.symm
  repeat' (first | (refine cond_by (F := res) (fun _ => ?_) (fun _ => ?_)) | (refine wayK_by (F := res) (fun _ hb_ => ?_) (fun _ hb_ => ?_) <;> simp only [hb_]) | (refine wayK_byN (F := res) (fun _ hb_ => ?_) (fun _ hb_ => ?_) <;> simp only [hb_]) | (refine wayD_by (F := res) (fun _ hb_ => ?_) (fun _ hb_ => ?_) <;> simp only [hb_]) | (refine wayD_byN (F := res) (fun _ hb_ => ?_) (fun _ hb_ => ?_) <;> simp only [hb_]) | (refine rdK_by (F := res) (fun _ => ?_) (fun _ => ?_)) | (refine effK_by (F := res) (fun _ => ?_) (fun _ => ?_)) | (refine effK_by2 (F := res) (fun _ => ?_) (fun _ => ?_)) | (refine rdD_by (F := res) (fun _ => ?_) (fun _ => ?_)) | (refine effD_by (F := res) (fun _ => ?_) (fun _ => ?_)) | (refine effD_by2 (F := res) (fun _ => ?_) (fun _ => ?_)) | simp -implicitDefEqProofs (disch := first | omega | (simp only [List.length_append, List.length_cons, List.length_nil, List.length_drop, List.length_take]; omega)) only [evs, tys, lors, Nat.reduceAdd, Nat.reduceSub, Nat.reduceMul, Nat.reducePow, Nat.reduceBEq, Nat.reduceLT, Nat.reduceLeDiff, Nat.reduceEqDiff, Int.reduceLT, Int.reduceLE, Int.reduceEq, Int.reduceNe, Int.reduceToNat, Int.reduceAdd, Int.reduceSub, Int.reduceMul, Int.reducePow, Int.reduceDiv, Int.reduceMod, Int.reduceNeg, reduceCtorEq, codeKey, List.contains, List.elem, Ev.load, peek, pack, storeV, fieldAddr, field, cvB])
  all_goals exact res_eq
theorem or_128 {x : Int} (h0 : 0 ≤ x) (h1 : x < 128) : orI .u64 x 128 = x + 128 := by
  obtain ⟨n, rfl⟩ := Int.eq_ofNat_of_zero_le h0
  have := orI_natU (x := n) (y := 1 * 2 ^ 7) (by omega) (by decide)
  rw [Nat.or_comm, or_apart (show n < 2 ^ 7 by omega)] at this
  have e : ((1 * 2 ^ 7 : Nat) : Int) = 128 := by decide
  rw [e] at this
  rw [this]
  omega
theorem loopVar (H : Heap) (h r : Nat) (h1 : h < H.length) (h2 : r < H.length) (h3 : h ≠ r) (rest : List V) (hrest : rest.length = 8) (K : Kont) (R : Res) (a : Code) (ha : loopIn Tryd.prog 51 1 = some a) (out : List Int)
    (hR : ∀ (x : Int) (bits : List Int), 0 ≤ x → x < 128 → Bits01 bits → bits.length + 8 ≤ 4000000000 → bits ++ numB x 8 = out → res (K (.exit 0) (Sl 16 .wild [(0, .ptr h 0), (1, .int .u64 x)]) (WB H h r bits rest)) = R) :
    ∀ (f : Nat) (x : Int) (bits : List Int), 0 ≤ x → x < 2 ^ (7 * f) → x < 18446744073709551616 → Bits01 bits → bits.length + 8 * f ≤ 4000000000 → 0 < f → bits ++ varF f x = out → res (loopL lore 51 a (Sl 16 .wild [(0, .ptr h 0), (1, .int .u64 x)]) (WB H h r bits rest) K) = R := by
  have hk := loop_key ha
  simp only [loopIn, Tryd.func51, Tryd.f51, loopAt, Option.bind_some, codeKey, if_true, Option.some.injEq, Nat.reduceEqDiff, if_false] at ha
  intro f
  induction f with
  | zero => intro x bits _ _ _ _ _ h; omega
  | succ f ih =>
    intro x bits h0 h1' h64 hb hl _ ho
    rw [varF] at ho
    by_cases hx : x < 128
    · rw [if_pos hx] at ho
      have hr := hR x bits h0 hx hb (by omega) ho
      have hx' : ¬ 128 ≤ x := by omega
      rw [loopL_step' ha]
      repeat' (first | (refine cond_by (F := res) (fun _ => ?_) (fun _ => ?_)) | (refine wayK_by (F := res) (fun _ hb_ => ?_) (fun _ hb_ => ?_) <;> simp only [hb_]) | (refine wayK_byN (F := res) (fun _ hb_ => ?_) (fun _ hb_ => ?_) <;> simp only [hb_]) | (refine wayD_by (F := res) (fun _ hb_ => ?_) (fun _ hb_ => ?_) <;> simp only [hb_]) | (refine wayD_byN (F := res) (fun _ hb_ => ?_) (fun _ hb_ => ?_) <;> simp only [hb_]) | (refine rdK_by (F := res) (fun _ => ?_) (fun _ => ?_)) | (refine effK_by (F := res) (fun _ => ?_) (fun _ => ?_)) | (refine effK_by2 (F := res) (fun _ => ?_) (fun _ => ?_)) | (refine rdD_by (F := res) (fun _ => ?_) (fun _ => ?_)) | (refine effD_by (F := res) (fun _ => ?_) (fun _ => ?_)) | (refine effD_by2 (F := res) (fun _ => ?_) (fun _ => ?_)) | simp -implicitDefEqProofs (disch := first | omega | (simp only [List.length_append, List.length_cons, List.length_nil, List.length_drop, List.length_take]; omega)) only [evs, tys, lors, Nat.reduceAdd, Nat.reduceSub, Nat.reduceMul, Nat.reducePow, Nat.reduceBEq, Nat.reduceLT, Nat.reduceLeDiff, Nat.reduceEqDiff, Int.reduceLT, Int.reduceLE, Int.reduceEq, Int.reduceNe, Int.reduceToNat, Int.reduceAdd, Int.reduceSub, Int.reduceMul, Int.reducePow, Int.reduceDiv, Int.reduceMod, Int.reduceNeg, reduceCtorEq, codeKey, List.contains, List.elem, Ev.load, peek, pack, storeV, fieldAddr, field, cvB, hk, hx', decide_false])
      exact hr
    · rw [if_neg hx] at ho
      have hx' : 128 ≤ x := by omega
      have hf : 0 < f := by
        rcases Nat.eq_zero_or_pos f with h | h
        · subst h
          have e7 : (2 : Int) ^ (7 * (0 + 1)) = 128 := by decide
          omega
        · exact h
      have h2' : x / 128 < 2 ^ (7 * f) := by
        rw [show 7 * (f + 1) = 7 * f + 7 by omega, Int.pow_add] at h1'
        have e77 : (2 : Int) ^ 7 = 128 := by decide
        rw [e77] at h1'
        exact Int.ediv_lt_of_lt_mul (by decide) h1'
      have hor := or_128 (x := x % 128) (by omega) (by omega)
      have hp := put_cv H h r h1 h2 h3 (x % 128 + 128) (by omega) rest hrest 8 (by decide) bits hb (by omega)
      have e8 : ((8 : Nat) : Int) = 8 := rfl
      rw [e8] at hp
      have hn := ih (x / 128) (bits ++ numB (x % 128 + 128) 8) (by omega) h2' (by omega) (bits01_app hb (numB_01 _ _)) (by rw [List.length_append, numB_len]; omega) hf (by rw [List.append_assoc]; exact ho)
      rw [loopL_step' ha]
      repeat' (first | (refine cond_by (F := res) (fun _ => ?_) (fun _ => ?_)) | (refine wayK_by (F := res) (fun _ hb_ => ?_) (fun _ hb_ => ?_) <;> simp only [hb_]) | (refine wayK_byN (F := res) (fun _ hb_ => ?_) (fun _ hb_ => ?_) <;> simp only [hb_]) | (refine wayD_by (F := res) (fun _ hb_ => ?_) (fun _ hb_ => ?_) <;> simp only [hb_]) | (refine wayD_byN (F := res) (fun _ hb_ => ?_) (fun _ hb_ => ?_) <;> simp only [hb_]) | (refine rdK_by (F := res) (fun _ => ?_) (fun _ => ?_)) | (refine effK_by (F := res) (fun _ => ?_) (fun _ => ?_)) | (refine effK_by2 (F := res) (fun _ => ?_) (fun _ => ?_)) | (refine rdD_by (F := res) (fun _ => ?_) (fun _ => ?_)) | (refine effD_by (F := res) (fun _ => ?_) (fun _ => ?_)) | (refine effD_by2 (F := res) (fun _ => ?_) (fun _ => ?_)) | simp -implicitDefEqProofs (disch := first | omega | (simp only [List.length_append, List.length_cons, List.length_nil, List.length_drop, List.length_take]; omega)) only [evs, tys, lors, Nat.reduceAdd, Nat.reduceSub, Nat.reduceMul, Nat.reducePow, Nat.reduceBEq, Nat.reduceLT, Nat.reduceLeDiff, Nat.reduceEqDiff, Int.reduceLT, Int.reduceLE, Int.reduceEq, Int.reduceNe, Int.reduceToNat, Int.reduceAdd, Int.reduceSub, Int.reduceMul, Int.reducePow, Int.reduceDiv, Int.reduceMod, Int.reduceNeg, reduceCtorEq, codeKey, List.contains, List.elem, Ev.load, peek, pack, storeV, fieldAddr, field, cvB, hk, hx', hor, hp, bits1, decide_true])
      all_goals first
        | exact hn
        | trace_state
theorem varint_cv (H : Heap) (h r : Nat) (h1 : h < H.length) (h2 : r < H.length) (h3 : h ≠ r) (x : Int) (hx : 0 ≤ x ∧ x < 18446744073709551616) (rest : List V) (hrest : rest.length = 8) (bits : List Int) (hb : Bits01 bits) (hl : bits.length + 80 ≤ 4000000000) :
    callV (CL lore) 51 [.ptr h 0, .int .u64 x] (WB H h r bits rest) = some (.tup [], WB H h r (bits ++ varF 10 x) rest) := by
  refine callV_sh rfl ?_
  have e70 : (18446744073709551616 : Int) ≤ 2 ^ (7 * 10) := by decide
  rw [call_start lore_ext51 Tryd.func51 rfl lore_okf51 (Nat.le_of_ble_eq_true rfl)]
  repeat' (first | (refine cond_by (F := res) (fun _ => ?_) (fun _ => ?_)) | (refine wayK_by (F := res) (fun _ hb_ => ?_) (fun _ hb_ => ?_) <;> simp only [hb_]) | (refine wayK_byN (F := res) (fun _ hb_ => ?_) (fun _ hb_ => ?_) <;> simp only [hb_]) | (refine wayD_by (F := res) (fun _ hb_ => ?_) (fun _ hb_ => ?_) <;> simp only [hb_]) | (refine wayD_byN (F := res) (fun _ hb_ => ?_) (fun _ hb_ => ?_) <;> simp only [hb_]) | (refine rdK_by (F := res) (fun _ => ?_) (fun _ => ?_)) | (refine effK_by (F := res) (fun _ => ?_) (fun _ => ?_)) | (refine effK_by2 (F := res) (fun _ => ?_) (fun _ => ?_)) | (refine rdD_by (F := res) (fun _ => ?_) (fun _ => ?_)) | (refine effD_by (F := res) (fun _ => ?_) (fun _ => ?_)) | (refine effD_by2 (F := res) (fun _ => ?_) (fun _ => ?_)) | simp -implicitDefEqProofs (disch := first | omega | (simp only [List.length_append, List.length_cons, List.length_nil, List.length_drop, List.length_take]; omega)) only [evs, tys, lors, Nat.reduceAdd, Nat.reduceSub, Nat.reduceMul, Nat.reducePow, Nat.reduceBEq, Nat.reduceLT, Nat.reduceLeDiff, Nat.reduceEqDiff, Int.reduceLT, Int.reduceLE, Int.reduceEq, Int.reduceNe, Int.reduceToNat, Int.reduceAdd, Int.reduceSub, Int.reduceMul, Int.reducePow, Int.reduceDiv, Int.reduceMod, Int.reduceNeg, reduceCtorEq, codeKey, List.contains, List.elem, Ev.load, peek, pack, storeV, fieldAddr, field, cvB])
  refine loopVar H h r h1 h2 h3 rest hrest _ _ _ (by rfl) (bits ++ varF 10 x) ?_ 10 x bits hx.1 (by omega) hx.2 hb (by omega) (by decide) rfl
  intro x' bits' x0 x1 hb' hl' ho
  have hp := put_cv H h r h1 h2 h3 x' (by omega) rest hrest 8 (by decide) bits' hb' hl'
  rw [ho] at hp
  have e8 : ((8 : Nat) : Int) = 8 := rfl
  rw [e8] at hp
  repeat' (first | (refine cond_by (F := res) (fun _ => ?_) (fun _ => ?_)) | (refine wayK_by (F := res) (fun _ hb_ => ?_) (fun _ hb_ => ?_) <;> simp only [hb_]) | (refine wayK_byN (F := res) (fun _ hb_ => ?_) (fun _ hb_ => ?_) <;> simp only [hb_]) | (refine wayD_by (F := res) (fun _ hb_ => ?_) (fun _ hb_ => ?_) <;> simp only [hb_]) | (refine wayD_byN (F := res) (fun _ hb_ => ?_) (fun _ hb_ => ?_) <;> simp only [hb_]) | (refine rdK_by (F := res) (fun _ => ?_) (fun _ => ?_)) | (refine effK_by (F := res) (fun _ => ?_) (fun _ => ?_)) | (refine effK_by2 (F := res) (fun _ => ?_) (fun _ => ?_)) | (refine rdD_by (F := res) (fun _ => ?_) (fun _ => ?_)) | (refine effD_by (F := res) (fun _ => ?_) (fun _ => ?_)) | (refine effD_by2 (F := res) (fun _ => ?_) (fun _ => ?_)) | simp -implicitDefEqProofs (disch := first | omega | (simp only [List.length_append, List.length_cons, List.length_nil, List.length_drop, List.length_take]; omega)) only [evs, tys, lors, Nat.reduceAdd, Nat.reduceSub, Nat.reduceMul, Nat.reducePow, Nat.reduceBEq, Nat.reduceLT, Nat.reduceLeDiff, Nat.reduceEqDiff, Int.reduceLT, Int.reduceLE, Int.reduceEq, Int.reduceNe, Int.reduceToNat, Int.reduceAdd, Int.reduceSub, Int.reduceMul, Int.reducePow, Int.reduceDiv, Int.reduceMod, Int.reduceNeg, reduceCtorEq, codeKey, List.contains, List.elem, Ev.load, peek, pack, storeV, fieldAddr, field, cvB, hp])
  all_goals exact res_eq
theorem varint_nil (H : Heap) (h : Nat) (x : Int) (hx : 0 ≤ x ∧ x < 18446744073709551616) (rest : List V) (hrest : rest.length = 8) (hn : NB H h rest) :
    callV (CL lore) 51 [.ptr h 0, .int .u64 x] H = some (.tup [], WB (H ++ [Z0]) h H.length (varF 10 x) rest) := by
  refine callV_sh rfl ?_
  have hlt := nb_lt hn
  have h3 : h ≠ H.length := by omega
  have hG1 : h < (H ++ [Z0]).length := by simp; omega
  have hG2 : H.length < (H ++ [Z0]).length := by simp
  have e70 : (18446744073709551616 : Int) ≤ 2 ^ (7 * 10) := by decide
  have hv : varF 10 x = if x < 128 then numB x 8 else numB (x % 128 + 128) 8 ++ varF 9 (x / 128) := by rw [varF]
  rw [call_start lore_ext51 Tryd.func51 rfl lore_okf51 (Nat.le_of_ble_eq_true rfl)]
  repeat' (first | (refine cond_by (F := res) (fun _ => ?_) (fun _ => ?_)) | (refine wayK_by (F := res) (fun _ hb_ => ?_) (fun _ hb_ => ?_) <;> simp only [hb_]) | (refine wayK_byN (F := res) (fun _ hb_ => ?_) (fun _ hb_ => ?_) <;> simp only [hb_]) | (refine wayD_by (F := res) (fun _ hb_ => ?_) (fun _ hb_ => ?_) <;> simp only [hb_]) | (refine wayD_byN (F := res) (fun _ hb_ => ?_) (fun _ hb_ => ?_) <;> simp only [hb_]) | (refine rdK_by (F := res) (fun _ => ?_) (fun _ => ?_)) | (refine effK_by (F := res) (fun _ => ?_) (fun _ => ?_)) | (refine effK_by2 (F := res) (fun _ => ?_) (fun _ => ?_)) | (refine rdD_by (F := res) (fun _ => ?_) (fun _ => ?_)) | (refine effD_by (F := res) (fun _ => ?_) (fun _ => ?_)) | (refine effD_by2 (F := res) (fun _ => ?_) (fun _ => ?_)) | simp -implicitDefEqProofs (disch := first | omega | (simp only [List.length_append, List.length_cons, List.length_nil, List.length_drop, List.length_take]; omega)) only [evs, tys, lors, Nat.reduceAdd, Nat.reduceSub, Nat.reduceMul, Nat.reducePow, Nat.reduceBEq, Nat.reduceLT, Nat.reduceLeDiff, Nat.reduceEqDiff, Int.reduceLT, Int.reduceLE, Int.reduceEq, Int.reduceNe, Int.reduceToNat, Int.reduceAdd, Int.reduceSub, Int.reduceMul, Int.reducePow, Int.reduceDiv, Int.reduceMod, Int.reduceNeg, reduceCtorEq, codeKey, List.contains, List.elem, Ev.load, peek, pack, storeV, fieldAddr, field, cvB])
  by_cases h128 : x < 128
  · rw [if_pos h128] at hv
    have hx' : ¬ 128 ≤ x := by omega
    have hp := put_nil H h x hx rest hrest hn
    rw [← hv] at hp
    rw [loopL_step' rfl]
    repeat' (first | (refine cond_by (F := res) (fun _ => ?_) (fun _ => ?_)) | (refine wayK_by (F := res) (fun _ hb_ => ?_) (fun _ hb_ => ?_) <;> simp only [hb_]) | (refine wayK_byN (F := res) (fun _ hb_ => ?_) (fun _ hb_ => ?_) <;> simp only [hb_]) | (refine wayD_by (F := res) (fun _ hb_ => ?_) (fun _ hb_ => ?_) <;> simp only [hb_]) | (refine wayD_byN (F := res) (fun _ hb_ => ?_) (fun _ hb_ => ?_) <;> simp only [hb_]) | (refine rdK_by (F := res) (fun _ => ?_) (fun _ => ?_)) | (refine effK_by (F := res) (fun _ => ?_) (fun _ => ?_)) | (refine effK_by2 (F := res) (fun _ => ?_) (fun _ => ?_)) | (refine rdD_by (F := res) (fun _ => ?_) (fun _ => ?_)) | (refine effD_by (F := res) (fun _ => ?_) (fun _ => ?_)) | (refine effD_by2 (F := res) (fun _ => ?_) (fun _ => ?_)) | simp -implicitDefEqProofs (disch := first | omega | (simp only [List.length_append, List.length_cons, List.length_nil, List.length_drop, List.length_take]; omega)) only [evs, tys, lors, Nat.reduceAdd, Nat.reduceSub, Nat.reduceMul, Nat.reducePow, Nat.reduceBEq, Nat.reduceLT, Nat.reduceLeDiff, Nat.reduceEqDiff, Int.reduceLT, Int.reduceLE, Int.reduceEq, Int.reduceNe, Int.reduceToNat, Int.reduceAdd, Int.reduceSub, Int.reduceMul, Int.reducePow, Int.reduceDiv, Int.reduceMod, Int.reduceNeg, reduceCtorEq, codeKey, List.contains, List.elem, Ev.load, peek, pack, storeV, fieldAddr, field, cvB, hx', hp, decide_false])
    all_goals exact res_eq
  · rw [if_neg h128] at hv
    have hx' : 128 ≤ x := by omega
    have hor := or_128 (x := x % 128) (by omega) (by omega)
    have hp := put_nil H h (x % 128 + 128) (by omega) rest hrest hn
    rw [loopL_step' rfl]
    repeat' (first | (refine cond_by (F := res) (fun _ => ?_) (fun _ => ?_)) | (refine wayK_by (F := res) (fun _ hb_ => ?_) (fun _ hb_ => ?_) <;> simp only [hb_]) | (refine wayK_byN (F := res) (fun _ hb_ => ?_) (fun _ hb_ => ?_) <;> simp only [hb_]) | (refine wayD_by (F := res) (fun _ hb_ => ?_) (fun _ hb_ => ?_) <;> simp only [hb_]) | (refine wayD_byN (F := res) (fun _ hb_ => ?_) (fun _ hb_ => ?_) <;> simp only [hb_]) | (refine rdK_by (F := res) (fun _ => ?_) (fun _ => ?_)) | (refine effK_by (F := res) (fun _ => ?_) (fun _ => ?_)) | (refine effK_by2 (F := res) (fun _ => ?_) (fun _ => ?_)) | (refine rdD_by (F := res) (fun _ => ?_) (fun _ => ?_)) | (refine effD_by (F := res) (fun _ => ?_) (fun _ => ?_)) | (refine effD_by2 (F := res) (fun _ => ?_) (fun _ => ?_)) | simp -implicitDefEqProofs (disch := first | omega | (simp only [List.length_append, List.length_cons, List.length_nil, List.length_drop, List.length_take]; omega)) only [evs, tys, lors, Nat.reduceAdd, Nat.reduceSub, Nat.reduceMul, Nat.reducePow, Nat.reduceBEq, Nat.reduceLT, Nat.reduceLeDiff, Nat.reduceEqDiff, Int.reduceLT, Int.reduceLE, Int.reduceEq, Int.reduceNe, Int.reduceToNat, Int.reduceAdd, Int.reduceSub, Int.reduceMul, Int.reducePow, Int.reduceDiv, Int.reduceMod, Int.reduceNeg, reduceCtorEq, codeKey, List.contains, List.elem, Ev.load, peek, pack, storeV, fieldAddr, field, cvB, hx', hp, hor, bits1, decide_true])
    refine loopVar (H ++ [Z0]) h H.length hG1 hG2 h3 rest hrest _ _ _ (by rfl) (varF 10 x) ?_ 9 (x / 128) (numB (x % 128 + 128) 8) (by omega) (by
      have e63 : (2 : Int) ^ (7 * 9) = 9223372036854775808 := by decide
      omega) (by omega) (numB_01 _ _) (by rw [numB_len]; decide) (by decide) hv.symm
    intro x' bits' x0 x1 hb' hl' ho
    have hp := put_cv (H ++ [Z0]) h H.length hG1 hG2 h3 x' (by omega) rest hrest 8 (by decide) bits' hb' hl'
    rw [ho] at hp
    have e8 : ((8 : Nat) : Int) = 8 := rfl
    rw [e8] at hp
    repeat' (first | (refine cond_by (F := res) (fun _ => ?_) (fun _ => ?_)) | (refine wayK_by (F := res) (fun _ hb_ => ?_) (fun _ hb_ => ?_) <;> simp only [hb_]) | (refine wayK_byN (F := res) (fun _ hb_ => ?_) (fun _ hb_ => ?_) <;> simp only [hb_]) | (refine wayD_by (F := res) (fun _ hb_ => ?_) (fun _ hb_ => ?_) <;> simp only [hb_]) | (refine wayD_byN (F := res) (fun _ hb_ => ?_) (fun _ hb_ => ?_) <;> simp only [hb_]) | (refine rdK_by (F := res) (fun _ => ?_) (fun _ => ?_)) | (refine effK_by (F := res) (fun _ => ?_) (fun _ => ?_)) | (refine effK_by2 (F := res) (fun _ => ?_) (fun _ => ?_)) | (refine rdD_by (F := res) (fun _ => ?_) (fun _ => ?_)) | (refine effD_by (F := res) (fun _ => ?_) (fun _ => ?_)) | (refine effD_by2 (F := res) (fun _ => ?_) (fun _ => ?_)) | simp -implicitDefEqProofs (disch := first | omega | (simp only [List.length_append, List.length_cons, List.length_nil, List.length_drop, List.length_take]; omega)) only [evs, tys, lors, Nat.reduceAdd, Nat.reduceSub, Nat.reduceMul, Nat.reducePow, Nat.reduceBEq, Nat.reduceLT, Nat.reduceLeDiff, Nat.reduceEqDiff, Int.reduceLT, Int.reduceLE, Int.reduceEq, Int.reduceNe, Int.reduceToNat, Int.reduceAdd, Int.reduceSub, Int.reduceMul, Int.reducePow, Int.reduceDiv, Int.reduceMod, Int.reduceNeg, reduceCtorEq, codeKey, List.contains, List.elem, Ev.load, peek, pack, storeV, fieldAddr, field, cvB, hp])
    all_goals exact res_eq

attribute [local irreducible] WB

theorem numB_mod (d : Int) : ∀ n : Nat, n ≤ 64 → numB (d % 18446744073709551616) n = numB d n
  | 0, _ => rfl
  | n + 1, h => by
    rw [numB, numB, numB_mod d n (by omega)]
    have e : d % 18446744073709551616 / 2 ^ n % 2 = d / 2 ^ n % 2 := by
      have hp := p2_pos n
      have e1 : (18446744073709551616 : Int) = 2 ^ n * (2 * 2 ^ (63 - n)) := by
        rw [← Int.pow_succ', ← Int.pow_add, show n + (63 - n + 1) = 64 by omega]
        decide
      have e2 := Int.mul_ediv_add_emod d 18446744073709551616
      have e3 : d % 18446744073709551616 = d - 2 ^ n * (2 * 2 ^ (63 - n) * (d / 18446744073709551616)) := by
        rw [← Int.mul_assoc, ← e1]
        omega
      have e4 : d - 2 ^ n * (2 * 2 ^ (63 - n) * (d / 18446744073709551616)) = d + 2 ^ n * (-(2 * 2 ^ (63 - n) * (d / 18446744073709551616))) := by
        rw [Int.mul_neg]; omega
      rw [e3, e4, Int.add_mul_ediv_left _ _ (by omega)]
      generalize d / 2 ^ n = q
      rw [Int.mul_assoc]
      omega
    rw [e]
theorem put_n (H : Heap) (h r : Nat) (h1 : h < H.length) (h2 : r < H.length) (h3 : h ≠ r) (x : Int) (hx : 0 ≤ x ∧ x < 18446744073709551616) (rest : List V) (hrest : rest.length = 8) (m : Int) (n : Nat) (hmn : m = n) (hm : n ≤ 64) (bits : List Int) (hb : Bits01 bits) (hl : bits.length + 64 ≤ 4000000000) :
    callV (CL lore) 52 [.ptr h 0, .int .u64 x, .int .i64 m] (WB H h r bits rest) = some (.tup [], WB H h r (bits ++ numB x n) rest) := by
  subst hmn
  exact put_cv H h r h1 h2 h3 x hx rest hrest n hm bits hb (by omega)
abbrev K1 : Box := ⟨[.int .u64 2, .int .i64 2, .int .i64 14], 0, false, false⟩
abbrev K2 : Box := ⟨[.int .u64 6, .int .i64 3, .int .i64 17], 0, false, false⟩
abbrev K3 : Box := ⟨[.int .u64 14, .int .i64 4, .int .i64 20], 0, false, false⟩
theorem cls0 : idxS Tryd.prog (some (.array 3 89)) (.agg [.int .u64 2, .int .i64 2, .int .i64 14, .int .u64 6, .int .i64 3, .int .i64 17, .int .u64 14, .int .i64 4, .int .i64 20]) 0 = some (.agg [.int .u64 2, .int .i64 2, .int .i64 14]) := by kernel_rfl
theorem cls1 : idxS Tryd.prog (some (.array 3 89)) (.agg [.int .u64 2, .int .i64 2, .int .i64 14, .int .u64 6, .int .i64 3, .int .i64 17, .int .u64 14, .int .i64 4, .int .i64 20]) 1 = some (.agg [.int .u64 6, .int .i64 3, .int .i64 17]) := by kernel_rfl
theorem cls2 : idxS Tryd.prog (some (.array 3 89)) (.agg [.int .u64 2, .int .i64 2, .int .i64 14, .int .u64 6, .int .i64 3, .int .i64 17, .int .u64 14, .int .i64 4, .int .i64 20]) 2 = some (.agg [.int .u64 14, .int .i64 4, .int .i64 20]) := by kernel_rfl
theorem dif_cv (H : Heap) (h r : Nat) (h1 : h < H.length) (h2 : r < H.length) (h3 : h ≠ r) (d : Int) (hd : -9223372036854775808 ≤ d ∧ d ≤ 9223372036854775807) (rest : List V) (hrest : rest.length = 8) (bits : List Int) (hb : Bits01 bits) (hl : bits.length + 100 ≤ 4000000000) :
    ∃ X, callV (CL lore) 54 [.ptr h 0, .int .i64 d] (WB H h r bits rest) = some (.tup [], WB (H ++ X) h r (bits ++ difB d) rest) := by
  have hu : IntKind.u64.wrap d = d % 18446744073709551616 := IntKind.wrap_u64 d
  have hdm : 0 ≤ d % 18446744073709551616 ∧ d % 18446744073709551616 < 18446744073709551616 := by omega
  have L := fun (H' : Heap) (e : H.length ≤ H'.length) x hx m n hmn hm b hb' hl' => put_n H' h r (by omega) (by omega) h3 x hx rest hrest m n hmn hm b hb' hl'
  have l1 : H.length ≤ (H ++ [K1]).length := by simp
  have l2 : H.length ≤ ((H ++ [K1]) ++ [K2]).length := by simp
  have l3 : H.length ≤ (((H ++ [K1]) ++ [K2]) ++ [K3]).length := by simp
  unfold difB
  by_cases h0 : d = 0
  · rw [if_pos h0]
    refine ⟨[], callV_sh rfl ?_⟩
    have p1 := L H (Nat.le_refl _) 0 (by decide) 1 1 rfl (by decide) bits hb (by omega)
    subst h0
    rw [call_start lore_ext54 Tryd.func54 rfl lore_okf54 (Nat.le_of_ble_eq_true rfl)]
    repeat' (first | (refine cond_by (F := res) (fun _ => ?_) (fun _ => ?_)) | (refine wayK_by (F := res) (fun _ hb_ => ?_) (fun _ hb_ => ?_) <;> simp only [hb_]) | (refine wayK_byN (F := res) (fun _ hb_ => ?_) (fun _ hb_ => ?_) <;> simp only [hb_]) | (refine wayD_by (F := res) (fun _ hb_ => ?_) (fun _ hb_ => ?_) <;> simp only [hb_]) | (refine wayD_byN (F := res) (fun _ hb_ => ?_) (fun _ hb_ => ?_) <;> simp only [hb_]) | (refine rdK_by (F := res) (fun _ => ?_) (fun _ => ?_)) | (refine effK_by (F := res) (fun _ => ?_) (fun _ => ?_)) | (refine effK_by2 (F := res) (fun _ => ?_) (fun _ => ?_)) | (refine rdD_by (F := res) (fun _ => ?_) (fun _ => ?_)) | (refine effD_by (F := res) (fun _ => ?_) (fun _ => ?_)) | (refine effD_by2 (F := res) (fun _ => ?_) (fun _ => ?_)) | simp -implicitDefEqProofs (disch := first | omega | (simp only [List.length_append, List.length_cons, List.length_nil, List.length_drop, List.length_take]; omega)) only [evs, tys, lors, Nat.reduceAdd, Nat.reduceSub, Nat.reduceMul, Nat.reducePow, Nat.reduceBEq, Nat.reduceLT, Nat.reduceLeDiff, Nat.reduceEqDiff, Int.reduceLT, Int.reduceLE, Int.reduceEq, Int.reduceNe, Int.reduceToNat, Int.reduceAdd, Int.reduceSub, Int.reduceMul, Int.reducePow, Int.reduceDiv, Int.reduceMod, Int.reduceNeg, reduceCtorEq, codeKey, List.contains, List.elem, Ev.load, peek, pack, storeV, fieldAddr, field, cvB, p1, decide_true, List.append_nil])
    all_goals exact res_eq
  · rw [if_neg h0]
    by_cases c1 : -8192 < d ∧ d ≤ 8192
    · rw [if_pos c1, ← List.append_assoc, ← numB_mod d 14 (by decide)]
      refine ⟨[K1], callV_sh rfl ?_⟩
      have p1 := L _ l1 2 (by decide) 2 2 rfl (by decide) bits hb (by omega)
      have p2 := L _ l1 _ hdm 14 14 rfl (by decide) (bits ++ numB 2 2) (bits01_app hb (numB_01 _ _)) (by rw [List.length_append, numB_len]; omega)
      obtain ⟨a1, a2⟩ := c1
      rw [call_start lore_ext54 Tryd.func54 rfl lore_okf54 (Nat.le_of_ble_eq_true rfl)]
      repeat' (first | (refine cond_by (F := res) (fun _ => ?_) (fun _ => ?_)) | (refine wayK_by (F := res) (fun _ hb_ => ?_) (fun _ hb_ => ?_) <;> simp only [hb_]) | (refine wayK_byN (F := res) (fun _ hb_ => ?_) (fun _ hb_ => ?_) <;> simp only [hb_]) | (refine wayD_by (F := res) (fun _ hb_ => ?_) (fun _ hb_ => ?_) <;> simp only [hb_]) | (refine wayD_byN (F := res) (fun _ hb_ => ?_) (fun _ hb_ => ?_) <;> simp only [hb_]) | (refine rdK_by (F := res) (fun _ => ?_) (fun _ => ?_)) | (refine effK_by (F := res) (fun _ => ?_) (fun _ => ?_)) | (refine effK_by2 (F := res) (fun _ => ?_) (fun _ => ?_)) | (refine rdD_by (F := res) (fun _ => ?_) (fun _ => ?_)) | (refine effD_by (F := res) (fun _ => ?_) (fun _ => ?_)) | (refine effD_by2 (F := res) (fun _ => ?_) (fun _ => ?_)) | simp -implicitDefEqProofs (disch := first | omega | (simp only [List.length_append, List.length_cons, List.length_nil, List.length_drop, List.length_take]; omega)) only [evs, tys, lors, Nat.reduceAdd, Nat.reduceSub, Nat.reduceMul, Nat.reducePow, Nat.reduceBEq, Nat.reduceLT, Nat.reduceLeDiff, Nat.reduceEqDiff, Int.reduceLT, Int.reduceLE, Int.reduceEq, Int.reduceNe, Int.reduceToNat, Int.reduceAdd, Int.reduceSub, Int.reduceMul, Int.reducePow, Int.reduceDiv, Int.reduceMod, Int.reduceNeg, reduceCtorEq, codeKey, List.contains, List.elem, Ev.load, peek, pack, storeV, fieldAddr, field, cvB, h0, decide_false, decide_true])
      rw [loopL_step' rfl]
      repeat' (first | (refine cond_by (F := res) (fun _ => ?_) (fun _ => ?_)) | (refine wayK_by (F := res) (fun _ hb_ => ?_) (fun _ hb_ => ?_) <;> simp only [hb_]) | (refine wayK_byN (F := res) (fun _ hb_ => ?_) (fun _ hb_ => ?_) <;> simp only [hb_]) | (refine wayD_by (F := res) (fun _ hb_ => ?_) (fun _ hb_ => ?_) <;> simp only [hb_]) | (refine wayD_byN (F := res) (fun _ hb_ => ?_) (fun _ hb_ => ?_) <;> simp only [hb_]) | (refine rdK_by (F := res) (fun _ => ?_) (fun _ => ?_)) | (refine effK_by (F := res) (fun _ => ?_) (fun _ => ?_)) | (refine effK_by2 (F := res) (fun _ => ?_) (fun _ => ?_)) | (refine rdD_by (F := res) (fun _ => ?_) (fun _ => ?_)) | (refine effD_by (F := res) (fun _ => ?_) (fun _ => ?_)) | (refine effD_by2 (F := res) (fun _ => ?_) (fun _ => ?_)) | simp -implicitDefEqProofs (disch := first | omega | (simp only [List.length_append, List.length_cons, List.length_nil, List.length_drop, List.length_take]; omega)) only [evs, tys, lors, Nat.reduceAdd, Nat.reduceSub, Nat.reduceMul, Nat.reducePow, Nat.reduceBEq, Nat.reduceLT, Nat.reduceLeDiff, Nat.reduceEqDiff, Int.reduceLT, Int.reduceLE, Int.reduceEq, Int.reduceNe, Int.reduceToNat, Int.reduceAdd, Int.reduceSub, Int.reduceMul, Int.reducePow, Int.reduceDiv, Int.reduceMod, Int.reduceNeg, reduceCtorEq, codeKey, List.contains, List.elem, Ev.load, peek, pack, storeV, fieldAddr, field, cvB, h0, hu, p1, p2, a1, a2, cls0, wb_app, wb_len, wb_new, wb_snew, bits1, decide_false, decide_true])
      all_goals first | exact res_eq | trace_state
    · rw [if_neg c1]
      have a1 : ¬ (-8192 < d) ∨ ((-8192 < d) ∧ ¬ d ≤ 8192) := by omega
      by_cases c2 : -65536 < d ∧ d ≤ 65536
      · rw [if_pos c2, ← List.append_assoc, ← numB_mod d 17 (by decide)]
        refine ⟨[K1, K2], callV_sh rfl ?_⟩
        have p1 := L _ l2 6 (by decide) 3 3 rfl (by decide) bits hb (by omega)
        have p2 := L _ l2 _ hdm 17 17 rfl (by decide) (bits ++ numB 6 3) (bits01_app hb (numB_01 _ _)) (by rw [List.length_append, numB_len]; omega)
        obtain ⟨b1, b2⟩ := c2
        rw [call_start lore_ext54 Tryd.func54 rfl lore_okf54 (Nat.le_of_ble_eq_true rfl)]
        repeat' (first | (refine cond_by (F := res) (fun _ => ?_) (fun _ => ?_)) | (refine wayK_by (F := res) (fun _ hb_ => ?_) (fun _ hb_ => ?_) <;> simp only [hb_]) | (refine wayK_byN (F := res) (fun _ hb_ => ?_) (fun _ hb_ => ?_) <;> simp only [hb_]) | (refine wayD_by (F := res) (fun _ hb_ => ?_) (fun _ hb_ => ?_) <;> simp only [hb_]) | (refine wayD_byN (F := res) (fun _ hb_ => ?_) (fun _ hb_ => ?_) <;> simp only [hb_]) | (refine rdK_by (F := res) (fun _ => ?_) (fun _ => ?_)) | (refine effK_by (F := res) (fun _ => ?_) (fun _ => ?_)) | (refine effK_by2 (F := res) (fun _ => ?_) (fun _ => ?_)) | (refine rdD_by (F := res) (fun _ => ?_) (fun _ => ?_)) | (refine effD_by (F := res) (fun _ => ?_) (fun _ => ?_)) | (refine effD_by2 (F := res) (fun _ => ?_) (fun _ => ?_)) | simp -implicitDefEqProofs (disch := first | omega | (simp only [List.length_append, List.length_cons, List.length_nil, List.length_drop, List.length_take]; omega)) only [evs, tys, lors, Nat.reduceAdd, Nat.reduceSub, Nat.reduceMul, Nat.reducePow, Nat.reduceBEq, Nat.reduceLT, Nat.reduceLeDiff, Nat.reduceEqDiff, Int.reduceLT, Int.reduceLE, Int.reduceEq, Int.reduceNe, Int.reduceToNat, Int.reduceAdd, Int.reduceSub, Int.reduceMul, Int.reducePow, Int.reduceDiv, Int.reduceMod, Int.reduceNeg, reduceCtorEq, codeKey, List.contains, List.elem, Ev.load, peek, pack, storeV, fieldAddr, field, cvB, h0, decide_false, decide_true])
        rw [loopL_step' rfl]
        rcases a1 with a1 | ⟨a1, a2⟩
        · repeat' (first | (refine cond_by (F := res) (fun _ => ?_) (fun _ => ?_)) | (refine wayK_by (F := res) (fun _ hb_ => ?_) (fun _ hb_ => ?_) <;> simp only [hb_]) | (refine wayK_byN (F := res) (fun _ hb_ => ?_) (fun _ hb_ => ?_) <;> simp only [hb_]) | (refine wayD_by (F := res) (fun _ hb_ => ?_) (fun _ hb_ => ?_) <;> simp only [hb_]) | (refine wayD_byN (F := res) (fun _ hb_ => ?_) (fun _ hb_ => ?_) <;> simp only [hb_]) | (refine rdK_by (F := res) (fun _ => ?_) (fun _ => ?_)) | (refine effK_by (F := res) (fun _ => ?_) (fun _ => ?_)) | (refine effK_by2 (F := res) (fun _ => ?_) (fun _ => ?_)) | (refine rdD_by (F := res) (fun _ => ?_) (fun _ => ?_)) | (refine effD_by (F := res) (fun _ => ?_) (fun _ => ?_)) | (refine effD_by2 (F := res) (fun _ => ?_) (fun _ => ?_)) | simp -implicitDefEqProofs (disch := first | omega | (simp only [List.length_append, List.length_cons, List.length_nil, List.length_drop, List.length_take]; omega)) only [evs, tys, lors, Nat.reduceAdd, Nat.reduceSub, Nat.reduceMul, Nat.reducePow, Nat.reduceBEq, Nat.reduceLT, Nat.reduceLeDiff, Nat.reduceEqDiff, Int.reduceLT, Int.reduceLE, Int.reduceEq, Int.reduceNe, Int.reduceToNat, Int.reduceAdd, Int.reduceSub, Int.reduceMul, Int.reducePow, Int.reduceDiv, Int.reduceMod, Int.reduceNeg, reduceCtorEq, codeKey, List.contains, List.elem, Ev.load, peek, pack, storeV, fieldAddr, field, cvB, h0, hu, p1, p2, a1, b1, b2, cls0, wb_app, wb_len, wb_new, wb_snew, bits1, decide_false, decide_true])
          rw [loopL_step' rfl]
          repeat' (first | (refine cond_by (F := res) (fun _ => ?_) (fun _ => ?_)) | (refine wayK_by (F := res) (fun _ hb_ => ?_) (fun _ hb_ => ?_) <;> simp only [hb_]) | (refine wayK_byN (F := res) (fun _ hb_ => ?_) (fun _ hb_ => ?_) <;> simp only [hb_]) | (refine wayD_by (F := res) (fun _ hb_ => ?_) (fun _ hb_ => ?_) <;> simp only [hb_]) | (refine wayD_byN (F := res) (fun _ hb_ => ?_) (fun _ hb_ => ?_) <;> simp only [hb_]) | (refine rdK_by (F := res) (fun _ => ?_) (fun _ => ?_)) | (refine effK_by (F := res) (fun _ => ?_) (fun _ => ?_)) | (refine effK_by2 (F := res) (fun _ => ?_) (fun _ => ?_)) | (refine rdD_by (F := res) (fun _ => ?_) (fun _ => ?_)) | (refine effD_by (F := res) (fun _ => ?_) (fun _ => ?_)) | (refine effD_by2 (F := res) (fun _ => ?_) (fun _ => ?_)) | simp -implicitDefEqProofs (disch := first | omega | (simp only [List.length_append, List.length_cons, List.length_nil, List.length_drop, List.length_take]; omega)) only [evs, tys, lors, Nat.reduceAdd, Nat.reduceSub, Nat.reduceMul, Nat.reducePow, Nat.reduceBEq, Nat.reduceLT, Nat.reduceLeDiff, Nat.reduceEqDiff, Int.reduceLT, Int.reduceLE, Int.reduceEq, Int.reduceNe, Int.reduceToNat, Int.reduceAdd, Int.reduceSub, Int.reduceMul, Int.reducePow, Int.reduceDiv, Int.reduceMod, Int.reduceNeg, reduceCtorEq, codeKey, List.contains, List.elem, Ev.load, peek, pack, storeV, fieldAddr, field, cvB, h0, hu, p1, p2, b1, b2, cls1, wb_app, wb_len, wb_new, wb_snew, bits1, decide_false, decide_true])
          all_goals first | exact res_eq | (simp only [List.append_assoc, List.cons_append, List.nil_append]; exact res_eq) | trace_state
        · repeat' (first | (refine cond_by (F := res) (fun _ => ?_) (fun _ => ?_)) | (refine wayK_by (F := res) (fun _ hb_ => ?_) (fun _ hb_ => ?_) <;> simp only [hb_]) | (refine wayK_byN (F := res) (fun _ hb_ => ?_) (fun _ hb_ => ?_) <;> simp only [hb_]) | (refine wayD_by (F := res) (fun _ hb_ => ?_) (fun _ hb_ => ?_) <;> simp only [hb_]) | (refine wayD_byN (F := res) (fun _ hb_ => ?_) (fun _ hb_ => ?_) <;> simp only [hb_]) | (refine rdK_by (F := res) (fun _ => ?_) (fun _ => ?_)) | (refine effK_by (F := res) (fun _ => ?_) (fun _ => ?_)) | (refine effK_by2 (F := res) (fun _ => ?_) (fun _ => ?_)) | (refine rdD_by (F := res) (fun _ => ?_) (fun _ => ?_)) | (refine effD_by (F := res) (fun _ => ?_) (fun _ => ?_)) | (refine effD_by2 (F := res) (fun _ => ?_) (fun _ => ?_)) | simp -implicitDefEqProofs (disch := first | omega | (simp only [List.length_append, List.length_cons, List.length_nil, List.length_drop, List.length_take]; omega)) only [evs, tys, lors, Nat.reduceAdd, Nat.reduceSub, Nat.reduceMul, Nat.reducePow, Nat.reduceBEq, Nat.reduceLT, Nat.reduceLeDiff, Nat.reduceEqDiff, Int.reduceLT, Int.reduceLE, Int.reduceEq, Int.reduceNe, Int.reduceToNat, Int.reduceAdd, Int.reduceSub, Int.reduceMul, Int.reducePow, Int.reduceDiv, Int.reduceMod, Int.reduceNeg, reduceCtorEq, codeKey, List.contains, List.elem, Ev.load, peek, pack, storeV, fieldAddr, field, cvB, h0, hu, p1, p2, a1, a2, b1, b2, cls0, wb_app, wb_len, wb_new, wb_snew, bits1, decide_false, decide_true])
          rw [loopL_step' rfl]
          repeat' (first | (refine cond_by (F := res) (fun _ => ?_) (fun _ => ?_)) | (refine wayK_by (F := res) (fun _ hb_ => ?_) (fun _ hb_ => ?_) <;> simp only [hb_]) | (refine wayK_byN (F := res) (fun _ hb_ => ?_) (fun _ hb_ => ?_) <;> simp only [hb_]) | (refine wayD_by (F := res) (fun _ hb_ => ?_) (fun _ hb_ => ?_) <;> simp only [hb_]) | (refine wayD_byN (F := res) (fun _ hb_ => ?_) (fun _ hb_ => ?_) <;> simp only [hb_]) | (refine rdK_by (F := res) (fun _ => ?_) (fun _ => ?_)) | (refine effK_by (F := res) (fun _ => ?_) (fun _ => ?_)) | (refine effK_by2 (F := res) (fun _ => ?_) (fun _ => ?_)) | (refine rdD_by (F := res) (fun _ => ?_) (fun _ => ?_)) | (refine effD_by (F := res) (fun _ => ?_) (fun _ => ?_)) | (refine effD_by2 (F := res) (fun _ => ?_) (fun _ => ?_)) | simp -implicitDefEqProofs (disch := first | omega | (simp only [List.length_append, List.length_cons, List.length_nil, List.length_drop, List.length_take]; omega)) only [evs, tys, lors, Nat.reduceAdd, Nat.reduceSub, Nat.reduceMul, Nat.reducePow, Nat.reduceBEq, Nat.reduceLT, Nat.reduceLeDiff, Nat.reduceEqDiff, Int.reduceLT, Int.reduceLE, Int.reduceEq, Int.reduceNe, Int.reduceToNat, Int.reduceAdd, Int.reduceSub, Int.reduceMul, Int.reducePow, Int.reduceDiv, Int.reduceMod, Int.reduceNeg, reduceCtorEq, codeKey, List.contains, List.elem, Ev.load, peek, pack, storeV, fieldAddr, field, cvB, h0, hu, p1, p2, b1, b2, cls1, wb_app, wb_len, wb_new, wb_snew, bits1, decide_false, decide_true])
          all_goals first | exact res_eq | (simp only [List.append_assoc, List.cons_append, List.nil_append]; exact res_eq) | trace_state
      · rw [if_neg c2]
        have b1 : ¬ (-65536 < d) ∨ ((-65536 < d) ∧ ¬ d ≤ 65536) := by omega
        by_cases c3 : -524288 < d ∧ d ≤ 524288
        · rw [if_pos c3, ← List.append_assoc, ← numB_mod d 20 (by decide)]
          refine ⟨[K1, K2, K3], callV_sh rfl ?_⟩
          have p1 := L _ l3 14 (by decide) 4 4 rfl (by decide) bits hb (by omega)
          have p2 := L _ l3 _ hdm 20 20 rfl (by decide) (bits ++ numB 14 4) (bits01_app hb (numB_01 _ _)) (by rw [List.length_append, numB_len]; omega)
          obtain ⟨d1, d2⟩ := c3
          rw [call_start lore_ext54 Tryd.func54 rfl lore_okf54 (Nat.le_of_ble_eq_true rfl)]
          repeat' (first | (refine cond_by (F := res) (fun _ => ?_) (fun _ => ?_)) | (refine wayK_by (F := res) (fun _ hb_ => ?_) (fun _ hb_ => ?_) <;> simp only [hb_]) | (refine wayK_byN (F := res) (fun _ hb_ => ?_) (fun _ hb_ => ?_) <;> simp only [hb_]) | (refine wayD_by (F := res) (fun _ hb_ => ?_) (fun _ hb_ => ?_) <;> simp only [hb_]) | (refine wayD_byN (F := res) (fun _ hb_ => ?_) (fun _ hb_ => ?_) <;> simp only [hb_]) | (refine rdK_by (F := res) (fun _ => ?_) (fun _ => ?_)) | (refine effK_by (F := res) (fun _ => ?_) (fun _ => ?_)) | (refine effK_by2 (F := res) (fun _ => ?_) (fun _ => ?_)) | (refine rdD_by (F := res) (fun _ => ?_) (fun _ => ?_)) | (refine effD_by (F := res) (fun _ => ?_) (fun _ => ?_)) | (refine effD_by2 (F := res) (fun _ => ?_) (fun _ => ?_)) | simp -implicitDefEqProofs (disch := first | omega | (simp only [List.length_append, List.length_cons, List.length_nil, List.length_drop, List.length_take]; omega)) only [evs, tys, lors, Nat.reduceAdd, Nat.reduceSub, Nat.reduceMul, Nat.reducePow, Nat.reduceBEq, Nat.reduceLT, Nat.reduceLeDiff, Nat.reduceEqDiff, Int.reduceLT, Int.reduceLE, Int.reduceEq, Int.reduceNe, Int.reduceToNat, Int.reduceAdd, Int.reduceSub, Int.reduceMul, Int.reducePow, Int.reduceDiv, Int.reduceMod, Int.reduceNeg, reduceCtorEq, codeKey, List.contains, List.elem, Ev.load, peek, pack, storeV, fieldAddr, field, cvB, h0, decide_false, decide_true])
          rw [loopL_step' rfl]
          rcases a1 with a1 | ⟨a1, a2⟩ <;> rcases b1 with b1 | ⟨b1, b2⟩
          · repeat' (first | (refine cond_by (F := res) (fun _ => ?_) (fun _ => ?_)) | (refine wayK_by (F := res) (fun _ hb_ => ?_) (fun _ hb_ => ?_) <;> simp only [hb_]) | (refine wayK_byN (F := res) (fun _ hb_ => ?_) (fun _ hb_ => ?_) <;> simp only [hb_]) | (refine wayD_by (F := res) (fun _ hb_ => ?_) (fun _ hb_ => ?_) <;> simp only [hb_]) | (refine wayD_byN (F := res) (fun _ hb_ => ?_) (fun _ hb_ => ?_) <;> simp only [hb_]) | (refine rdK_by (F := res) (fun _ => ?_) (fun _ => ?_)) | (refine effK_by (F := res) (fun _ => ?_) (fun _ => ?_)) | (refine effK_by2 (F := res) (fun _ => ?_) (fun _ => ?_)) | (refine rdD_by (F := res) (fun _ => ?_) (fun _ => ?_)) | (refine effD_by (F := res) (fun _ => ?_) (fun _ => ?_)) | (refine effD_by2 (F := res) (fun _ => ?_) (fun _ => ?_)) | simp -implicitDefEqProofs (disch := first | omega | (simp only [List.length_append, List.length_cons, List.length_nil, List.length_drop, List.length_take]; omega)) only [evs, tys, lors, Nat.reduceAdd, Nat.reduceSub, Nat.reduceMul, Nat.reducePow, Nat.reduceBEq, Nat.reduceLT, Nat.reduceLeDiff, Nat.reduceEqDiff, Int.reduceLT, Int.reduceLE, Int.reduceEq, Int.reduceNe, Int.reduceToNat, Int.reduceAdd, Int.reduceSub, Int.reduceMul, Int.reducePow, Int.reduceDiv, Int.reduceMod, Int.reduceNeg, reduceCtorEq, codeKey, List.contains, List.elem, Ev.load, peek, pack, storeV, fieldAddr, field, cvB, h0, a1, cls0, wb_app, wb_len, wb_new, wb_snew, bits1, decide_false, decide_true])
            rw [loopL_step' rfl]
            repeat' (first | (refine cond_by (F := res) (fun _ => ?_) (fun _ => ?_)) | (refine wayK_by (F := res) (fun _ hb_ => ?_) (fun _ hb_ => ?_) <;> simp only [hb_]) | (refine wayK_byN (F := res) (fun _ hb_ => ?_) (fun _ hb_ => ?_) <;> simp only [hb_]) | (refine wayD_by (F := res) (fun _ hb_ => ?_) (fun _ hb_ => ?_) <;> simp only [hb_]) | (refine wayD_byN (F := res) (fun _ hb_ => ?_) (fun _ hb_ => ?_) <;> simp only [hb_]) | (refine rdK_by (F := res) (fun _ => ?_) (fun _ => ?_)) | (refine effK_by (F := res) (fun _ => ?_) (fun _ => ?_)) | (refine effK_by2 (F := res) (fun _ => ?_) (fun _ => ?_)) | (refine rdD_by (F := res) (fun _ => ?_) (fun _ => ?_)) | (refine effD_by (F := res) (fun _ => ?_) (fun _ => ?_)) | (refine effD_by2 (F := res) (fun _ => ?_) (fun _ => ?_)) | simp -implicitDefEqProofs (disch := first | omega | (simp only [List.length_append, List.length_cons, List.length_nil, List.length_drop, List.length_take]; omega)) only [evs, tys, lors, Nat.reduceAdd, Nat.reduceSub, Nat.reduceMul, Nat.reducePow, Nat.reduceBEq, Nat.reduceLT, Nat.reduceLeDiff, Nat.reduceEqDiff, Int.reduceLT, Int.reduceLE, Int.reduceEq, Int.reduceNe, Int.reduceToNat, Int.reduceAdd, Int.reduceSub, Int.reduceMul, Int.reducePow, Int.reduceDiv, Int.reduceMod, Int.reduceNeg, reduceCtorEq, codeKey, List.contains, List.elem, Ev.load, peek, pack, storeV, fieldAddr, field, cvB, h0, b1, cls1, wb_app, wb_len, wb_new, wb_snew, bits1, decide_false, decide_true])
            rw [loopL_step' rfl]
            repeat' (first | (refine cond_by (F := res) (fun _ => ?_) (fun _ => ?_)) | (refine wayK_by (F := res) (fun _ hb_ => ?_) (fun _ hb_ => ?_) <;> simp only [hb_]) | (refine wayK_byN (F := res) (fun _ hb_ => ?_) (fun _ hb_ => ?_) <;> simp only [hb_]) | (refine wayD_by (F := res) (fun _ hb_ => ?_) (fun _ hb_ => ?_) <;> simp only [hb_]) | (refine wayD_byN (F := res) (fun _ hb_ => ?_) (fun _ hb_ => ?_) <;> simp only [hb_]) | (refine rdK_by (F := res) (fun _ => ?_) (fun _ => ?_)) | (refine effK_by (F := res) (fun _ => ?_) (fun _ => ?_)) | (refine effK_by2 (F := res) (fun _ => ?_) (fun _ => ?_)) | (refine rdD_by (F := res) (fun _ => ?_) (fun _ => ?_)) | (refine effD_by (F := res) (fun _ => ?_) (fun _ => ?_)) | (refine effD_by2 (F := res) (fun _ => ?_) (fun _ => ?_)) | simp -implicitDefEqProofs (disch := first | omega | (simp only [List.length_append, List.length_cons, List.length_nil, List.length_drop, List.length_take]; omega)) only [evs, tys, lors, Nat.reduceAdd, Nat.reduceSub, Nat.reduceMul, Nat.reducePow, Nat.reduceBEq, Nat.reduceLT, Nat.reduceLeDiff, Nat.reduceEqDiff, Int.reduceLT, Int.reduceLE, Int.reduceEq, Int.reduceNe, Int.reduceToNat, Int.reduceAdd, Int.reduceSub, Int.reduceMul, Int.reducePow, Int.reduceDiv, Int.reduceMod, Int.reduceNeg, reduceCtorEq, codeKey, List.contains, List.elem, Ev.load, peek, pack, storeV, fieldAddr, field, cvB, h0, hu, p1, p2, d1, d2, cls2, wb_app, wb_len, wb_new, wb_snew, bits1, decide_false, decide_true])
            all_goals first | exact res_eq | (simp only [List.append_assoc, List.cons_append, List.nil_append]; exact res_eq) | trace_state
          · exfalso; omega
          · repeat' (first | (refine cond_by (F := res) (fun _ => ?_) (fun _ => ?_)) | (refine wayK_by (F := res) (fun _ hb_ => ?_) (fun _ hb_ => ?_) <;> simp only [hb_]) | (refine wayK_byN (F := res) (fun _ hb_ => ?_) (fun _ hb_ => ?_) <;> simp only [hb_]) | (refine wayD_by (F := res) (fun _ hb_ => ?_) (fun _ hb_ => ?_) <;> simp only [hb_]) | (refine wayD_byN (F := res) (fun _ hb_ => ?_) (fun _ hb_ => ?_) <;> simp only [hb_]) | (refine rdK_by (F := res) (fun _ => ?_) (fun _ => ?_)) | (refine effK_by (F := res) (fun _ => ?_) (fun _ => ?_)) | (refine effK_by2 (F := res) (fun _ => ?_) (fun _ => ?_)) | (refine rdD_by (F := res) (fun _ => ?_) (fun _ => ?_)) | (refine effD_by (F := res) (fun _ => ?_) (fun _ => ?_)) | (refine effD_by2 (F := res) (fun _ => ?_) (fun _ => ?_)) | simp -implicitDefEqProofs (disch := first | omega | (simp only [List.length_append, List.length_cons, List.length_nil, List.length_drop, List.length_take]; omega)) only [evs, tys, lors, Nat.reduceAdd, Nat.reduceSub, Nat.reduceMul, Nat.reducePow, Nat.reduceBEq, Nat.reduceLT, Nat.reduceLeDiff, Nat.reduceEqDiff, Int.reduceLT, Int.reduceLE, Int.reduceEq, Int.reduceNe, Int.reduceToNat, Int.reduceAdd, Int.reduceSub, Int.reduceMul, Int.reducePow, Int.reduceDiv, Int.reduceMod, Int.reduceNeg, reduceCtorEq, codeKey, List.contains, List.elem, Ev.load, peek, pack, storeV, fieldAddr, field, cvB, h0, a1, a2, cls0, wb_app, wb_len, wb_new, wb_snew, bits1, decide_false, decide_true])
            rw [loopL_step' rfl]
            repeat' (first | (refine cond_by (F := res) (fun _ => ?_) (fun _ => ?_)) | (refine wayK_by (F := res) (fun _ hb_ => ?_) (fun _ hb_ => ?_) <;> simp only [hb_]) | (refine wayK_byN (F := res) (fun _ hb_ => ?_) (fun _ hb_ => ?_) <;> simp only [hb_]) | (refine wayD_by (F := res) (fun _ hb_ => ?_) (fun _ hb_ => ?_) <;> simp only [hb_]) | (refine wayD_byN (F := res) (fun _ hb_ => ?_) (fun _ hb_ => ?_) <;> simp only [hb_]) | (refine rdK_by (F := res) (fun _ => ?_) (fun _ => ?_)) | (refine effK_by (F := res) (fun _ => ?_) (fun _ => ?_)) | (refine effK_by2 (F := res) (fun _ => ?_) (fun _ => ?_)) | (refine rdD_by (F := res) (fun _ => ?_) (fun _ => ?_)) | (refine effD_by (F := res) (fun _ => ?_) (fun _ => ?_)) | (refine effD_by2 (F := res) (fun _ => ?_) (fun _ => ?_)) | simp -implicitDefEqProofs (disch := first | omega | (simp only [List.length_append, List.length_cons, List.length_nil, List.length_drop, List.length_take]; omega)) only [evs, tys, lors, Nat.reduceAdd, Nat.reduceSub, Nat.reduceMul, Nat.reducePow, Nat.reduceBEq, Nat.reduceLT, Nat.reduceLeDiff, Nat.reduceEqDiff, Int.reduceLT, Int.reduceLE, Int.reduceEq, Int.reduceNe, Int.reduceToNat, Int.reduceAdd, Int.reduceSub, Int.reduceMul, Int.reducePow, Int.reduceDiv, Int.reduceMod, Int.reduceNeg, reduceCtorEq, codeKey, List.contains, List.elem, Ev.load, peek, pack, storeV, fieldAddr, field, cvB, h0, b1, cls1, wb_app, wb_len, wb_new, wb_snew, bits1, decide_false, decide_true])
            rw [loopL_step' rfl]
            repeat' (first | (refine cond_by (F := res) (fun _ => ?_) (fun _ => ?_)) | (refine wayK_by (F := res) (fun _ hb_ => ?_) (fun _ hb_ => ?_) <;> simp only [hb_]) | (refine wayK_byN (F := res) (fun _ hb_ => ?_) (fun _ hb_ => ?_) <;> simp only [hb_]) | (refine wayD_by (F := res) (fun _ hb_ => ?_) (fun _ hb_ => ?_) <;> simp only [hb_]) | (refine wayD_byN (F := res) (fun _ hb_ => ?_) (fun _ hb_ => ?_) <;> simp only [hb_]) | (refine rdK_by (F := res) (fun _ => ?_) (fun _ => ?_)) | (refine effK_by (F := res) (fun _ => ?_) (fun _ => ?_)) | (refine effK_by2 (F := res) (fun _ => ?_) (fun _ => ?_)) | (refine rdD_by (F := res) (fun _ => ?_) (fun _ => ?_)) | (refine effD_by (F := res) (fun _ => ?_) (fun _ => ?_)) | (refine effD_by2 (F := res) (fun _ => ?_) (fun _ => ?_)) | simp -implicitDefEqProofs (disch := first | omega | (simp only [List.length_append, List.length_cons, List.length_nil, List.length_drop, List.length_take]; omega)) only [evs, tys, lors, Nat.reduceAdd, Nat.reduceSub, Nat.reduceMul, Nat.reducePow, Nat.reduceBEq, Nat.reduceLT, Nat.reduceLeDiff, Nat.reduceEqDiff, Int.reduceLT, Int.reduceLE, Int.reduceEq, Int.reduceNe, Int.reduceToNat, Int.reduceAdd, Int.reduceSub, Int.reduceMul, Int.reducePow, Int.reduceDiv, Int.reduceMod, Int.reduceNeg, reduceCtorEq, codeKey, List.contains, List.elem, Ev.load, peek, pack, storeV, fieldAddr, field, cvB, h0, hu, p1, p2, d1, d2, cls2, wb_app, wb_len, wb_new, wb_snew, bits1, decide_false, decide_true])
            all_goals first | exact res_eq | (simp only [List.append_assoc, List.cons_append, List.nil_append]; exact res_eq) | trace_state
          · repeat' (first | (refine cond_by (F := res) (fun _ => ?_) (fun _ => ?_)) | (refine wayK_by (F := res) (fun _ hb_ => ?_) (fun _ hb_ => ?_) <;> simp only [hb_]) | (refine wayK_byN (F := res) (fun _ hb_ => ?_) (fun _ hb_ => ?_) <;> simp only [hb_]) | (refine wayD_by (F := res) (fun _ hb_ => ?_) (fun _ hb_ => ?_) <;> simp only [hb_]) | (refine wayD_byN (F := res) (fun _ hb_ => ?_) (fun _ hb_ => ?_) <;> simp only [hb_]) | (refine rdK_by (F := res) (fun _ => ?_) (fun _ => ?_)) | (refine effK_by (F := res) (fun _ => ?_) (fun _ => ?_)) | (refine effK_by2 (F := res) (fun _ => ?_) (fun _ => ?_)) | (refine rdD_by (F := res) (fun _ => ?_) (fun _ => ?_)) | (refine effD_by (F := res) (fun _ => ?_) (fun _ => ?_)) | (refine effD_by2 (F := res) (fun _ => ?_) (fun _ => ?_)) | simp -implicitDefEqProofs (disch := first | omega | (simp only [List.length_append, List.length_cons, List.length_nil, List.length_drop, List.length_take]; omega)) only [evs, tys, lors, Nat.reduceAdd, Nat.reduceSub, Nat.reduceMul, Nat.reducePow, Nat.reduceBEq, Nat.reduceLT, Nat.reduceLeDiff, Nat.reduceEqDiff, Int.reduceLT, Int.reduceLE, Int.reduceEq, Int.reduceNe, Int.reduceToNat, Int.reduceAdd, Int.reduceSub, Int.reduceMul, Int.reducePow, Int.reduceDiv, Int.reduceMod, Int.reduceNeg, reduceCtorEq, codeKey, List.contains, List.elem, Ev.load, peek, pack, storeV, fieldAddr, field, cvB, h0, a1, a2, cls0, wb_app, wb_len, wb_new, wb_snew, bits1, decide_false, decide_true])
            rw [loopL_step' rfl]
            repeat' (first | (refine cond_by (F := res) (fun _ => ?_) (fun _ => ?_)) | (refine wayK_by (F := res) (fun _ hb_ => ?_) (fun _ hb_ => ?_) <;> simp only [hb_]) | (refine wayK_byN (F := res) (fun _ hb_ => ?_) (fun _ hb_ => ?_) <;> simp only [hb_]) | (refine wayD_by (F := res) (fun _ hb_ => ?_) (fun _ hb_ => ?_) <;> simp only [hb_]) | (refine wayD_byN (F := res) (fun _ hb_ => ?_) (fun _ hb_ => ?_) <;> simp only [hb_]) | (refine rdK_by (F := res) (fun _ => ?_) (fun _ => ?_)) | (refine effK_by (F := res) (fun _ => ?_) (fun _ => ?_)) | (refine effK_by2 (F := res) (fun _ => ?_) (fun _ => ?_)) | (refine rdD_by (F := res) (fun _ => ?_) (fun _ => ?_)) | (refine effD_by (F := res) (fun _ => ?_) (fun _ => ?_)) | (refine effD_by2 (F := res) (fun _ => ?_) (fun _ => ?_)) | simp -implicitDefEqProofs (disch := first | omega | (simp only [List.length_append, List.length_cons, List.length_nil, List.length_drop, List.length_take]; omega)) only [evs, tys, lors, Nat.reduceAdd, Nat.reduceSub, Nat.reduceMul, Nat.reducePow, Nat.reduceBEq, Nat.reduceLT, Nat.reduceLeDiff, Nat.reduceEqDiff, Int.reduceLT, Int.reduceLE, Int.reduceEq, Int.reduceNe, Int.reduceToNat, Int.reduceAdd, Int.reduceSub, Int.reduceMul, Int.reducePow, Int.reduceDiv, Int.reduceMod, Int.reduceNeg, reduceCtorEq, codeKey, List.contains, List.elem, Ev.load, peek, pack, storeV, fieldAddr, field, cvB, h0, b1, b2, cls1, wb_app, wb_len, wb_new, wb_snew, bits1, decide_false, decide_true])
            rw [loopL_step' rfl]
            repeat' (first | (refine cond_by (F := res) (fun _ => ?_) (fun _ => ?_)) | (refine wayK_by (F := res) (fun _ hb_ => ?_) (fun _ hb_ => ?_) <;> simp only [hb_]) | (refine wayK_byN (F := res) (fun _ hb_ => ?_) (fun _ hb_ => ?_) <;> simp only [hb_]) | (refine wayD_by (F := res) (fun _ hb_ => ?_) (fun _ hb_ => ?_) <;> simp only [hb_]) | (refine wayD_byN (F := res) (fun _ hb_ => ?_) (fun _ hb_ => ?_) <;> simp only [hb_]) | (refine rdK_by (F := res) (fun _ => ?_) (fun _ => ?_)) | (refine effK_by (F := res) (fun _ => ?_) (fun _ => ?_)) | (refine effK_by2 (F := res) (fun _ => ?_) (fun _ => ?_)) | (refine rdD_by (F := res) (fun _ => ?_) (fun _ => ?_)) | (refine effD_by (F := res) (fun _ => ?_) (fun _ => ?_)) | (refine effD_by2 (F := res) (fun _ => ?_) (fun _ => ?_)) | simp -implicitDefEqProofs (disch := first | omega | (simp only [List.length_append, List.length_cons, List.length_nil, List.length_drop, List.length_take]; omega)) only [evs, tys, lors, Nat.reduceAdd, Nat.reduceSub, Nat.reduceMul, Nat.reducePow, Nat.reduceBEq, Nat.reduceLT, Nat.reduceLeDiff, Nat.reduceEqDiff, Int.reduceLT, Int.reduceLE, Int.reduceEq, Int.reduceNe, Int.reduceToNat, Int.reduceAdd, Int.reduceSub, Int.reduceMul, Int.reducePow, Int.reduceDiv, Int.reduceMod, Int.reduceNeg, reduceCtorEq, codeKey, List.contains, List.elem, Ev.load, peek, pack, storeV, fieldAddr, field, cvB, h0, hu, p1, p2, d1, d2, cls2, wb_app, wb_len, wb_new, wb_snew, bits1, decide_false, decide_true])
            all_goals first | exact res_eq | (simp only [List.append_assoc, List.cons_append, List.nil_append]; exact res_eq) | trace_state
        · rw [if_neg c3, ← List.append_assoc, ← numB_mod d 64 (by decide)]
          have d1 : ¬ (-524288 < d) ∨ ((-524288 < d) ∧ ¬ d ≤ 524288) := by omega
          refine ⟨[K1, K2, K3], callV_sh rfl ?_⟩
          have p1 := L _ l3 15 (by decide) 4 4 rfl (by decide) bits hb (by omega)
          have p2 := L _ l3 _ hdm 64 64 rfl (by decide) (bits ++ numB 15 4) (bits01_app hb (numB_01 _ _)) (by rw [List.length_append, numB_len]; omega)
          rw [call_start lore_ext54 Tryd.func54 rfl lore_okf54 (Nat.le_of_ble_eq_true rfl)]
          repeat' (first | (refine cond_by (F := res) (fun _ => ?_) (fun _ => ?_)) | (refine wayK_by (F := res) (fun _ hb_ => ?_) (fun _ hb_ => ?_) <;> simp only [hb_]) | (refine wayK_byN (F := res) (fun _ hb_ => ?_) (fun _ hb_ => ?_) <;> simp only [hb_]) | (refine wayD_by (F := res) (fun _ hb_ => ?_) (fun _ hb_ => ?_) <;> simp only [hb_]) | (refine wayD_byN (F := res) (fun _ hb_ => ?_) (fun _ hb_ => ?_) <;> simp only [hb_]) | (refine rdK_by (F := res) (fun _ => ?_) (fun _ => ?_)) | (refine effK_by (F := res) (fun _ => ?_) (fun _ => ?_)) | (refine effK_by2 (F := res) (fun _ => ?_) (fun _ => ?_)) | (refine rdD_by (F := res) (fun _ => ?_) (fun _ => ?_)) | (refine effD_by (F := res) (fun _ => ?_) (fun _ => ?_)) | (refine effD_by2 (F := res) (fun _ => ?_) (fun _ => ?_)) | simp -implicitDefEqProofs (disch := first | omega | (simp only [List.length_append, List.length_cons, List.length_nil, List.length_drop, List.length_take]; omega)) only [evs, tys, lors, Nat.reduceAdd, Nat.reduceSub, Nat.reduceMul, Nat.reducePow, Nat.reduceBEq, Nat.reduceLT, Nat.reduceLeDiff, Nat.reduceEqDiff, Int.reduceLT, Int.reduceLE, Int.reduceEq, Int.reduceNe, Int.reduceToNat, Int.reduceAdd, Int.reduceSub, Int.reduceMul, Int.reducePow, Int.reduceDiv, Int.reduceMod, Int.reduceNeg, reduceCtorEq, codeKey, List.contains, List.elem, Ev.load, peek, pack, storeV, fieldAddr, field, cvB, h0, decide_false, decide_true])
          rw [loopL_step' rfl]
          rcases d1 with d1 | ⟨d1, d2⟩
          · have a1 : ¬ (-8192 < d) := by omega
            have b1 : ¬ (-65536 < d) := by omega
            repeat' (first | (refine cond_by (F := res) (fun _ => ?_) (fun _ => ?_)) | (refine wayK_by (F := res) (fun _ hb_ => ?_) (fun _ hb_ => ?_) <;> simp only [hb_]) | (refine wayK_byN (F := res) (fun _ hb_ => ?_) (fun _ hb_ => ?_) <;> simp only [hb_]) | (refine wayD_by (F := res) (fun _ hb_ => ?_) (fun _ hb_ => ?_) <;> simp only [hb_]) | (refine wayD_byN (F := res) (fun _ hb_ => ?_) (fun _ hb_ => ?_) <;> simp only [hb_]) | (refine rdK_by (F := res) (fun _ => ?_) (fun _ => ?_)) | (refine effK_by (F := res) (fun _ => ?_) (fun _ => ?_)) | (refine effK_by2 (F := res) (fun _ => ?_) (fun _ => ?_)) | (refine rdD_by (F := res) (fun _ => ?_) (fun _ => ?_)) | (refine effD_by (F := res) (fun _ => ?_) (fun _ => ?_)) | (refine effD_by2 (F := res) (fun _ => ?_) (fun _ => ?_)) | simp -implicitDefEqProofs (disch := first | omega | (simp only [List.length_append, List.length_cons, List.length_nil, List.length_drop, List.length_take]; omega)) only [evs, tys, lors, Nat.reduceAdd, Nat.reduceSub, Nat.reduceMul, Nat.reducePow, Nat.reduceBEq, Nat.reduceLT, Nat.reduceLeDiff, Nat.reduceEqDiff, Int.reduceLT, Int.reduceLE, Int.reduceEq, Int.reduceNe, Int.reduceToNat, Int.reduceAdd, Int.reduceSub, Int.reduceMul, Int.reducePow, Int.reduceDiv, Int.reduceMod, Int.reduceNeg, reduceCtorEq, codeKey, List.contains, List.elem, Ev.load, peek, pack, storeV, fieldAddr, field, cvB, h0, a1, cls0, wb_app, wb_len, wb_new, wb_snew, bits1, decide_false, decide_true])
            rw [loopL_step' rfl]
            repeat' (first | (refine cond_by (F := res) (fun _ => ?_) (fun _ => ?_)) | (refine wayK_by (F := res) (fun _ hb_ => ?_) (fun _ hb_ => ?_) <;> simp only [hb_]) | (refine wayK_byN (F := res) (fun _ hb_ => ?_) (fun _ hb_ => ?_) <;> simp only [hb_]) | (refine wayD_by (F := res) (fun _ hb_ => ?_) (fun _ hb_ => ?_) <;> simp only [hb_]) | (refine wayD_byN (F := res) (fun _ hb_ => ?_) (fun _ hb_ => ?_) <;> simp only [hb_]) | (refine rdK_by (F := res) (fun _ => ?_) (fun _ => ?_)) | (refine effK_by (F := res) (fun _ => ?_) (fun _ => ?_)) | (refine effK_by2 (F := res) (fun _ => ?_) (fun _ => ?_)) | (refine rdD_by (F := res) (fun _ => ?_) (fun _ => ?_)) | (refine effD_by (F := res) (fun _ => ?_) (fun _ => ?_)) | (refine effD_by2 (F := res) (fun _ => ?_) (fun _ => ?_)) | simp -implicitDefEqProofs (disch := first | omega | (simp only [List.length_append, List.length_cons, List.length_nil, List.length_drop, List.length_take]; omega)) only [evs, tys, lors, Nat.reduceAdd, Nat.reduceSub, Nat.reduceMul, Nat.reducePow, Nat.reduceBEq, Nat.reduceLT, Nat.reduceLeDiff, Nat.reduceEqDiff, Int.reduceLT, Int.reduceLE, Int.reduceEq, Int.reduceNe, Int.reduceToNat, Int.reduceAdd, Int.reduceSub, Int.reduceMul, Int.reducePow, Int.reduceDiv, Int.reduceMod, Int.reduceNeg, reduceCtorEq, codeKey, List.contains, List.elem, Ev.load, peek, pack, storeV, fieldAddr, field, cvB, h0, b1, cls1, wb_app, wb_len, wb_new, wb_snew, bits1, decide_false, decide_true])
            rw [loopL_step' rfl]
            repeat' (first | (refine cond_by (F := res) (fun _ => ?_) (fun _ => ?_)) | (refine wayK_by (F := res) (fun _ hb_ => ?_) (fun _ hb_ => ?_) <;> simp only [hb_]) | (refine wayK_byN (F := res) (fun _ hb_ => ?_) (fun _ hb_ => ?_) <;> simp only [hb_]) | (refine wayD_by (F := res) (fun _ hb_ => ?_) (fun _ hb_ => ?_) <;> simp only [hb_]) | (refine wayD_byN (F := res) (fun _ hb_ => ?_) (fun _ hb_ => ?_) <;> simp only [hb_]) | (refine rdK_by (F := res) (fun _ => ?_) (fun _ => ?_)) | (refine effK_by (F := res) (fun _ => ?_) (fun _ => ?_)) | (refine effK_by2 (F := res) (fun _ => ?_) (fun _ => ?_)) | (refine rdD_by (F := res) (fun _ => ?_) (fun _ => ?_)) | (refine effD_by (F := res) (fun _ => ?_) (fun _ => ?_)) | (refine effD_by2 (F := res) (fun _ => ?_) (fun _ => ?_)) | simp -implicitDefEqProofs (disch := first | omega | (simp only [List.length_append, List.length_cons, List.length_nil, List.length_drop, List.length_take]; omega)) only [evs, tys, lors, Nat.reduceAdd, Nat.reduceSub, Nat.reduceMul, Nat.reducePow, Nat.reduceBEq, Nat.reduceLT, Nat.reduceLeDiff, Nat.reduceEqDiff, Int.reduceLT, Int.reduceLE, Int.reduceEq, Int.reduceNe, Int.reduceToNat, Int.reduceAdd, Int.reduceSub, Int.reduceMul, Int.reducePow, Int.reduceDiv, Int.reduceMod, Int.reduceNeg, reduceCtorEq, codeKey, List.contains, List.elem, Ev.load, peek, pack, storeV, fieldAddr, field, cvB, h0, d1, cls2, wb_app, wb_len, wb_new, wb_snew, bits1, decide_false, decide_true])
            rw [loopL_step' rfl]
            repeat' (first | (refine cond_by (F := res) (fun _ => ?_) (fun _ => ?_)) | (refine wayK_by (F := res) (fun _ hb_ => ?_) (fun _ hb_ => ?_) <;> simp only [hb_]) | (refine wayK_byN (F := res) (fun _ hb_ => ?_) (fun _ hb_ => ?_) <;> simp only [hb_]) | (refine wayD_by (F := res) (fun _ hb_ => ?_) (fun _ hb_ => ?_) <;> simp only [hb_]) | (refine wayD_byN (F := res) (fun _ hb_ => ?_) (fun _ hb_ => ?_) <;> simp only [hb_]) | (refine rdK_by (F := res) (fun _ => ?_) (fun _ => ?_)) | (refine effK_by (F := res) (fun _ => ?_) (fun _ => ?_)) | (refine effK_by2 (F := res) (fun _ => ?_) (fun _ => ?_)) | (refine rdD_by (F := res) (fun _ => ?_) (fun _ => ?_)) | (refine effD_by (F := res) (fun _ => ?_) (fun _ => ?_)) | (refine effD_by2 (F := res) (fun _ => ?_) (fun _ => ?_)) | simp -implicitDefEqProofs (disch := first | omega | (simp only [List.length_append, List.length_cons, List.length_nil, List.length_drop, List.length_take]; omega)) only [evs, tys, lors, Nat.reduceAdd, Nat.reduceSub, Nat.reduceMul, Nat.reducePow, Nat.reduceBEq, Nat.reduceLT, Nat.reduceLeDiff, Nat.reduceEqDiff, Int.reduceLT, Int.reduceLE, Int.reduceEq, Int.reduceNe, Int.reduceToNat, Int.reduceAdd, Int.reduceSub, Int.reduceMul, Int.reducePow, Int.reduceDiv, Int.reduceMod, Int.reduceNeg, reduceCtorEq, codeKey, List.contains, List.elem, Ev.load, peek, pack, storeV, fieldAddr, field, cvB, hu, p1, p2, decide_false, decide_true])
            all_goals first | exact res_eq | (simp only [List.append_assoc, List.cons_append, List.nil_append]; exact res_eq) | trace_state
          · have a1 : -8192 < d ∧ ¬ d ≤ 8192 := by omega
            have b1 : -65536 < d ∧ ¬ d ≤ 65536 := by omega
            repeat' (first | (refine cond_by (F := res) (fun _ => ?_) (fun _ => ?_)) | (refine wayK_by (F := res) (fun _ hb_ => ?_) (fun _ hb_ => ?_) <;> simp only [hb_]) | (refine wayK_byN (F := res) (fun _ hb_ => ?_) (fun _ hb_ => ?_) <;> simp only [hb_]) | (refine wayD_by (F := res) (fun _ hb_ => ?_) (fun _ hb_ => ?_) <;> simp only [hb_]) | (refine wayD_byN (F := res) (fun _ hb_ => ?_) (fun _ hb_ => ?_) <;> simp only [hb_]) | (refine rdK_by (F := res) (fun _ => ?_) (fun _ => ?_)) | (refine effK_by (F := res) (fun _ => ?_) (fun _ => ?_)) | (refine effK_by2 (F := res) (fun _ => ?_) (fun _ => ?_)) | (refine rdD_by (F := res) (fun _ => ?_) (fun _ => ?_)) | (refine effD_by (F := res) (fun _ => ?_) (fun _ => ?_)) | (refine effD_by2 (F := res) (fun _ => ?_) (fun _ => ?_)) | simp -implicitDefEqProofs (disch := first | omega | (simp only [List.length_append, List.length_cons, List.length_nil, List.length_drop, List.length_take]; omega)) only [evs, tys, lors, Nat.reduceAdd, Nat.reduceSub, Nat.reduceMul, Nat.reducePow, Nat.reduceBEq, Nat.reduceLT, Nat.reduceLeDiff, Nat.reduceEqDiff, Int.reduceLT, Int.reduceLE, Int.reduceEq, Int.reduceNe, Int.reduceToNat, Int.reduceAdd, Int.reduceSub, Int.reduceMul, Int.reducePow, Int.reduceDiv, Int.reduceMod, Int.reduceNeg, reduceCtorEq, codeKey, List.contains, List.elem, Ev.load, peek, pack, storeV, fieldAddr, field, cvB, h0, a1.1, a1.2, cls0, wb_app, wb_len, wb_new, wb_snew, bits1, decide_false, decide_true])
            rw [loopL_step' rfl]
            repeat' (first | (refine cond_by (F := res) (fun _ => ?_) (fun _ => ?_)) | (refine wayK_by (F := res) (fun _ hb_ => ?_) (fun _ hb_ => ?_) <;> simp only [hb_]) | (refine wayK_byN (F := res) (fun _ hb_ => ?_) (fun _ hb_ => ?_) <;> simp only [hb_]) | (refine wayD_by (F := res) (fun _ hb_ => ?_) (fun _ hb_ => ?_) <;> simp only [hb_]) | (refine wayD_byN (F := res) (fun _ hb_ => ?_) (fun _ hb_ => ?_) <;> simp only [hb_]) | (refine rdK_by (F := res) (fun _ => ?_) (fun _ => ?_)) | (refine effK_by (F := res) (fun _ => ?_) (fun _ => ?_)) | (refine effK_by2 (F := res) (fun _ => ?_) (fun _ => ?_)) | (refine rdD_by (F := res) (fun _ => ?_) (fun _ => ?_)) | (refine effD_by (F := res) (fun _ => ?_) (fun _ => ?_)) | (refine effD_by2 (F := res) (fun _ => ?_) (fun _ => ?_)) | simp -implicitDefEqProofs (disch := first | omega | (simp only [List.length_append, List.length_cons, List.length_nil, List.length_drop, List.length_take]; omega)) only [evs, tys, lors, Nat.reduceAdd, Nat.reduceSub, Nat.reduceMul, Nat.reducePow, Nat.reduceBEq, Nat.reduceLT, Nat.reduceLeDiff, Nat.reduceEqDiff, Int.reduceLT, Int.reduceLE, Int.reduceEq, Int.reduceNe, Int.reduceToNat, Int.reduceAdd, Int.reduceSub, Int.reduceMul, Int.reducePow, Int.reduceDiv, Int.reduceMod, Int.reduceNeg, reduceCtorEq, codeKey, List.contains, List.elem, Ev.load, peek, pack, storeV, fieldAddr, field, cvB, h0, b1.1, b1.2, cls1, wb_app, wb_len, wb_new, wb_snew, bits1, decide_false, decide_true])
            rw [loopL_step' rfl]
            repeat' (first | (refine cond_by (F := res) (fun _ => ?_) (fun _ => ?_)) | (refine wayK_by (F := res) (fun _ hb_ => ?_) (fun _ hb_ => ?_) <;> simp only [hb_]) | (refine wayK_byN (F := res) (fun _ hb_ => ?_) (fun _ hb_ => ?_) <;> simp only [hb_]) | (refine wayD_by (F := res) (fun _ hb_ => ?_) (fun _ hb_ => ?_) <;> simp only [hb_]) | (refine wayD_byN (F := res) (fun _ hb_ => ?_) (fun _ hb_ => ?_) <;> simp only [hb_]) | (refine rdK_by (F := res) (fun _ => ?_) (fun _ => ?_)) | (refine effK_by (F := res) (fun _ => ?_) (fun _ => ?_)) | (refine effK_by2 (F := res) (fun _ => ?_) (fun _ => ?_)) | (refine rdD_by (F := res) (fun _ => ?_) (fun _ => ?_)) | (refine effD_by (F := res) (fun _ => ?_) (fun _ => ?_)) | (refine effD_by2 (F := res) (fun _ => ?_) (fun _ => ?_)) | simp -implicitDefEqProofs (disch := first | omega | (simp only [List.length_append, List.length_cons, List.length_nil, List.length_drop, List.length_take]; omega)) only [evs, tys, lors, Nat.reduceAdd, Nat.reduceSub, Nat.reduceMul, Nat.reducePow, Nat.reduceBEq, Nat.reduceLT, Nat.reduceLeDiff, Nat.reduceEqDiff, Int.reduceLT, Int.reduceLE, Int.reduceEq, Int.reduceNe, Int.reduceToNat, Int.reduceAdd, Int.reduceSub, Int.reduceMul, Int.reducePow, Int.reduceDiv, Int.reduceMod, Int.reduceNeg, reduceCtorEq, codeKey, List.contains, List.elem, Ev.load, peek, pack, storeV, fieldAddr, field, cvB, h0, d1, d2, cls2, wb_app, wb_len, wb_new, wb_snew, bits1, decide_false, decide_true])
            rw [loopL_step' rfl]
            repeat' (first | (refine cond_by (F := res) (fun _ => ?_) (fun _ => ?_)) | (refine wayK_by (F := res) (fun _ hb_ => ?_) (fun _ hb_ => ?_) <;> simp only [hb_]) | (refine wayK_byN (F := res) (fun _ hb_ => ?_) (fun _ hb_ => ?_) <;> simp only [hb_]) | (refine wayD_by (F := res) (fun _ hb_ => ?_) (fun _ hb_ => ?_) <;> simp only [hb_]) | (refine wayD_byN (F := res) (fun _ hb_ => ?_) (fun _ hb_ => ?_) <;> simp only [hb_]) | (refine rdK_by (F := res) (fun _ => ?_) (fun _ => ?_)) | (refine effK_by (F := res) (fun _ => ?_) (fun _ => ?_)) | (refine effK_by2 (F := res) (fun _ => ?_) (fun _ => ?_)) | (refine rdD_by (F := res) (fun _ => ?_) (fun _ => ?_)) | (refine effD_by (F := res) (fun _ => ?_) (fun _ => ?_)) | (refine effD_by2 (F := res) (fun _ => ?_) (fun _ => ?_)) | simp -implicitDefEqProofs (disch := first | omega | (simp only [List.length_append, List.length_cons, List.length_nil, List.length_drop, List.length_take]; omega)) only [evs, tys, lors, Nat.reduceAdd, Nat.reduceSub, Nat.reduceMul, Nat.reducePow, Nat.reduceBEq, Nat.reduceLT, Nat.reduceLeDiff, Nat.reduceEqDiff, Int.reduceLT, Int.reduceLE, Int.reduceEq, Int.reduceNe, Int.reduceToNat, Int.reduceAdd, Int.reduceSub, Int.reduceMul, Int.reducePow, Int.reduceDiv, Int.reduceMod, Int.reduceNeg, reduceCtorEq, codeKey, List.contains, List.elem, Ev.load, peek, pack, storeV, fieldAddr, field, cvB, hu, p1, p2, decide_false, decide_true])
            all_goals first | exact res_eq | (simp only [List.append_assoc, List.cons_append, List.nil_append]; exact res_eq) | trace_state
end Go.Proofs.YtmjdcoacmmmhnaaDoor
