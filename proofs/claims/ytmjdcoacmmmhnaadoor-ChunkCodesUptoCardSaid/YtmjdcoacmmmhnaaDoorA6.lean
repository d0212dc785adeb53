/-
The writer: what a value's bits differ in. The writer: xor. The writer: points.
-/
import Derived.Test.YtmjdcoacmmmhnaaDoorA3
import Derived.Lib.ItoaNum
namespace Go.Proofs.YtmjdcoacmmmhnaaDoor
open Go Ev
set_option linter.all false
set_option maxHeartbeats 4000000
set_option maxRecDepth 5000
attribute [local irreducible] codeL condL loopL callL callV evOps evDraw rdK effK wayK oneK wayD oneD rdD effD chks chkB res


attribute [local irreducible] WB

theorem len64_cv (x : Int) (h0 : 0 ≤ x) (h1 : x ≤ 18446744073709551615) (H : Heap) : callV (CL lore) 57 [.int .u64 x] H = some (.int .i64 (Lib.bitLen x.toNat), H) := by
  refine callV_ans (r := some _) ?_ lore_sh57 rfl H
  rw [callL_ext (k := len64X) rfl]
  simp only [len64X]
  rw [if_pos ⟨h0, h1⟩]
  rfl
theorem bitLen_eq {x : Nat} (h0 : 0 < x) (h1 : x < 18446744073709551616) : Lib.bitLen x = blN x := by
  obtain ⟨a1, a2, a3⟩ := Lib.bitLenAux_bounds 64 x h1 (by omega)
  obtain ⟨b1, b2, b3⟩ := blN_facts h0
  have c1 : 2 ^ (Lib.bitLen x - 1) < 2 ^ blN x := Nat.lt_of_le_of_lt a2 b3
  have c2 : 2 ^ (blN x - 1) < 2 ^ Lib.bitLen x := Nat.lt_of_le_of_lt b2 a3
  have := pow_lt2 c1
  have := pow_lt2 c2
  have a1' : 1 ≤ Lib.bitLen x := a1
  omega
theorem lead_cv (x : Nat) (h0 : 0 < x) (h1 : x < 18446744073709551616) (H : Heap) : callV (CL lore) 55 [.int .u64 (x : Int)] H = some (.int .i64 ((64 - blN x : Nat) : Int), H) := by
  refine callV_ans (r := some _) ?_ lore_sh55 rfl H
  have hl := fun H => len64_cv (x : Int) (by omega) (by omega) H
  simp only [Int.toNat_natCast, bitLen_eq h0 h1] at hl
  have hb : blN x ≤ 64 := by
    obtain ⟨b1, b2, b3⟩ := blN_facts h0
    have : 2 ^ (blN x - 1) < 2 ^ 64 := by omega
    have := pow_lt2 this
    omega
  have e : (64 : Int) - (blN x : Int) = ((64 - blN x : Nat) : Int) := by omega
  rw [call_start lore_ext55 Tryd.func55 rfl lore_okf55 (Nat.le_of_ble_eq_true rfl)]
  repeat' (first | (refine cond_by (F := ans) (fun _ => ?_) (fun _ => ?_)) | (refine wayK_by (F := ans) (fun _ hb_ => ?_) (fun _ hb_ => ?_) <;> simp only [hb_]) | (refine wayK_byN (F := ans) (fun _ hb_ => ?_) (fun _ hb_ => ?_) <;> simp only [hb_]) | (refine wayD_by (F := ans) (fun _ hb_ => ?_) (fun _ hb_ => ?_) <;> simp only [hb_]) | (refine wayD_byN (F := ans) (fun _ hb_ => ?_) (fun _ hb_ => ?_) <;> simp only [hb_]) | (refine rdK_by (F := ans) (fun _ => ?_) (fun _ => ?_)) | (refine effK_by (F := ans) (fun _ => ?_) (fun _ => ?_)) | (refine effK_by2 (F := ans) (fun _ => ?_) (fun _ => ?_)) | (refine rdD_by (F := ans) (fun _ => ?_) (fun _ => ?_)) | (refine effD_by (F := ans) (fun _ => ?_) (fun _ => ?_)) | (refine effD_by2 (F := ans) (fun _ => ?_) (fun _ => ?_)) | simp -implicitDefEqProofs (disch := first | omega | (simp only [List.length_append, List.length_cons, List.length_nil, List.length_drop, List.length_take]; omega)) only [evs, tys, lors, Nat.reduceAdd, Nat.reduceSub, Nat.reduceMul, Nat.reducePow, Nat.reduceBEq, Nat.reduceLT, Nat.reduceLeDiff, Nat.reduceEqDiff, Int.reduceLT, Int.reduceLE, Int.reduceEq, Int.reduceNe, Int.reduceToNat, Int.reduceAdd, Int.reduceSub, Int.reduceMul, Int.reducePow, Int.reduceDiv, Int.reduceMod, Int.reduceNeg, reduceCtorEq, codeKey, List.contains, List.elem, Ev.load, peek, pack, storeV, fieldAddr, field, cvB, hl, e])
theorem low_bit {x : Nat} (h0 : 0 < x) (h1 : x < 2 ^ 64) : x &&& (2 ^ 64 - x) = 2 ^ tz x := by
  obtain ⟨q, e, hq, hl⟩ := tzF_facts 64 x h0 h1
  have hT : tz x = tzF 64 x := rfl
  rw [hT]
  generalize tzF 64 x = T at *
  have hx1 : 2 ^ 64 - x = 2 ^ 64 - ((x - 1) + 1) := by omega
  apply Nat.eq_of_testBit_eq
  intro i
  rw [Nat.testBit_and, hx1, Nat.testBit_two_pow_sub_succ (by omega), Nat.testBit_two_pow]
  have hp := Nat.two_pow_pos T
  rcases Nat.lt_trichotomy i T with h | h | h
  · have : x.testBit i = false := by
      rw [Nat.testBit_eq_decide_div_mod_eq, decide_eq_false_iff_not, e]
      rw [show q * 2 ^ T = q * 2 ^ (T - i - 1) * 2 * 2 ^ i by rw [Nat.mul_assoc, Nat.mul_assoc, ← Nat.pow_succ', ← Nat.pow_add]; congr 2; omega]
      rw [Nat.mul_div_cancel _ (Nat.two_pow_pos i)]
      omega
    rw [this, decide_eq_false (show ¬ T = i by omega)]
    rfl
  · subst h
    have a1 : x.testBit i = true := by
      rw [Nat.testBit_eq_decide_div_mod_eq, decide_eq_true_eq, e, Nat.mul_div_cancel _ hp]
      exact hq
    have a2 : (x - 1).testBit i = false := by
      rw [Nat.testBit_eq_decide_div_mod_eq, decide_eq_false_iff_not]
      have : (x - 1) / 2 ^ i = q - 1 := by
        obtain ⟨k, rfl⟩ : ∃ k, q = k + 1 := ⟨q - 1, by omega⟩
        rw [e, Nat.add_mul, Nat.one_mul, Nat.add_sub_assoc hp, Nat.mul_comm, Nat.mul_add_div hp, Nat.div_eq_of_lt (by omega)]
        omega
      rw [this]
      omega
    rw [a1, a2, decide_eq_true hl]
    simp
  · have : (x - 1).testBit i = x.testBit i := by
      rw [Nat.testBit_eq_decide_div_mod_eq, Nat.testBit_eq_decide_div_mod_eq]
      have hd : (x - 1) / 2 ^ (T + 1) = x / 2 ^ (T + 1) := by
        obtain ⟨k, hk⟩ : ∃ k, q = 2 * k + 1 := ⟨q / 2, by omega⟩
        have ex : x = 2 ^ (T + 1) * k + 2 ^ T := by rw [e, hk, Nat.pow_succ]; grind
        have hp2 := Nat.two_pow_pos (T + 1)
        have hlt : 2 ^ T < 2 ^ (T + 1) := by rw [Nat.pow_succ]; omega
        rw [ex, Nat.add_sub_assoc hp, Nat.mul_add_div hp2, Nat.mul_add_div hp2, Nat.div_eq_of_lt hlt, Nat.div_eq_of_lt (by omega)]
      rw [show i = (T + 1) + (i - (T + 1)) by omega, Nat.pow_add, ← Nat.div_div_eq_div_mul, ← Nat.div_div_eq_div_mul, hd]
    rw [this, decide_eq_false (show ¬ T = i by omega)]
    cases x.testBit i <;> simp
def tabN : List Int := [0, 1, 56, 2, 57, 49, 28, 3, 61, 58, 42, 50, 38, 29, 17, 4, 62, 47, 59, 36, 45, 43, 51, 22, 53, 39, 33, 30, 24, 18, 12, 5, 63, 55, 48, 27, 60, 41, 37, 16, 46, 35, 44, 21, 52, 32, 23, 11, 54, 26, 40, 15, 34, 20, 31, 10, 25, 14, 19, 9, 13, 8, 7, 6]
theorem tab_ok : ∀ T : Nat, T < 64 → tabN[2 ^ T * 285870213051353865 % 18446744073709551616 / 288230376151711744]? = some (T : Int) := by decide +kernel
theorem tab_drop (i : Nat) (t : Int) (h : tabN[i]? = some t) : ∃ T', List.drop (i * 1) ([.int .u8 0, .int .u8 1, .int .u8 56, .int .u8 2, .int .u8 57, .int .u8 49, .int .u8 28, .int .u8 3, .int .u8 61, .int .u8 58, .int .u8 42, .int .u8 50, .int .u8 38, .int .u8 29, .int .u8 17, .int .u8 4, .int .u8 62, .int .u8 47, .int .u8 59, .int .u8 36, .int .u8 45, .int .u8 43, .int .u8 51, .int .u8 22, .int .u8 53, .int .u8 39, .int .u8 33, .int .u8 30, .int .u8 24, .int .u8 18, .int .u8 12, .int .u8 5, .int .u8 63, .int .u8 55, .int .u8 48, .int .u8 27, .int .u8 60, .int .u8 41, .int .u8 37, .int .u8 16, .int .u8 46, .int .u8 35, .int .u8 44, .int .u8 21, .int .u8 52, .int .u8 32, .int .u8 23, .int .u8 11, .int .u8 54, .int .u8 26, .int .u8 40, .int .u8 15, .int .u8 34, .int .u8 20, .int .u8 31, .int .u8 10, .int .u8 25, .int .u8 14, .int .u8 19, .int .u8 9, .int .u8 13, .int .u8 8, .int .u8 7, .int .u8 6] : List V) = .int .u8 t :: T' := by
  have hi : i < tabN.length := by
    rcases Nat.lt_or_ge i tabN.length with h' | h'
    · exact h'
    · rw [List.getElem?_eq_none h'] at h; cases h
  refine ⟨(enc8 tabN).drop (i + 1), ?_⟩
  have e : (enc8 tabN).drop i = .int .u8 t :: (enc8 tabN).drop (i + 1) := by
    rw [List.drop_eq_getElem_cons (by rw [enc8_len]; exact hi)]
    congr 1
    have : (enc8 tabN)[i]? = some (.int .u8 t) := by unfold enc8; rw [List.getElem?_map, h]; rfl
    rw [List.getElem?_eq_getElem (by rw [enc8_len]; exact hi)] at this
    exact Option.some.inj this
  rw [Nat.mul_one]
  exact e
theorem trail_cv (x : Nat) (h0 : 0 < x) (h1 : x < 18446744073709551616) (H : Heap) : callV (CL lore) 56 [.int .u64 (x : Int)] H = some (.int .i64 (tz x : Int), H) := by
  refine callV_ans (r := some _) ?_ lore_sh56 rfl H
  have hlb := low_bit h0 h1
  obtain ⟨l1, l2, l3, l4, l5, l6⟩ := lt_facts h0 h1
  have hw : IntKind.u64.wrap (0 - (x : Int)) = ((2 ^ 64 - x : Nat) : Int) := by rw [IntKind.wrap_u64]; omega
  have ha : andI .u64 (x : Int) ((2 ^ 64 - x : Nat) : Int) = ((2 ^ tz x : Nat) : Int) := by
    rw [andI_natU h1 (by omega), hlb]
  have ht := tab_ok (tz x) (by omega)
  have hm : IntKind.u64.wrap (((2 ^ tz x : Nat) : Int) * 285870213051353865) = ((2 ^ tz x * 285870213051353865 % 18446744073709551616 : Nat) : Int) := by rw [IntKind.wrap_u64]; omega
  have hx0 : ¬ (x : Int) = 0 := by omega
  generalize 2 ^ tz x * 285870213051353865 % 18446744073709551616 = M at *
  have hM : M / 288230376151711744 < 64 := by
    rcases Nat.lt_or_ge (M / 288230376151711744) 64 with h | h
    · exact h
    · have e64 : tabN.length = 64 := by decide
      rw [List.getElem?_eq_none (by omega)] at ht
      cases ht
  have hd : (M : Int) / 288230376151711744 = ((M / 288230376151711744 : Nat) : Int) := by omega
  obtain ⟨T', hT'⟩ := tab_drop _ _ ht
  have h1le : 1 ≤ T'.length + 1 := by omega
  rw [call_start lore_ext56 Tryd.func56 rfl lore_okf56 (Nat.le_of_ble_eq_true rfl)]
  repeat' (first | (refine cond_by (F := ans) (fun _ => ?_) (fun _ => ?_)) | (refine wayK_by (F := ans) (fun _ hb_ => ?_) (fun _ hb_ => ?_) <;> simp only [hb_]) | (refine wayK_byN (F := ans) (fun _ hb_ => ?_) (fun _ hb_ => ?_) <;> simp only [hb_]) | (refine wayD_by (F := ans) (fun _ hb_ => ?_) (fun _ hb_ => ?_) <;> simp only [hb_]) | (refine wayD_byN (F := ans) (fun _ hb_ => ?_) (fun _ hb_ => ?_) <;> simp only [hb_]) | (refine rdK_by (F := ans) (fun _ => ?_) (fun _ => ?_)) | (refine effK_by (F := ans) (fun _ => ?_) (fun _ => ?_)) | (refine effK_by2 (F := ans) (fun _ => ?_) (fun _ => ?_)) | (refine rdD_by (F := ans) (fun _ => ?_) (fun _ => ?_)) | (refine effD_by (F := ans) (fun _ => ?_) (fun _ => ?_)) | (refine effD_by2 (F := ans) (fun _ => ?_) (fun _ => ?_)) | simp -implicitDefEqProofs (disch := first | omega | (simp only [List.length_append, List.length_cons, List.length_nil, List.length_drop, List.length_take]; omega)) only [evs, tys, lors, Nat.reduceAdd, Nat.reduceSub, Nat.reduceMul, Nat.reducePow, Nat.reduceBEq, Nat.reduceLT, Nat.reduceLeDiff, Nat.reduceEqDiff, Int.reduceLT, Int.reduceLE, Int.reduceEq, Int.reduceNe, Int.reduceToNat, Int.reduceAdd, Int.reduceSub, Int.reduceMul, Int.reducePow, Int.reduceDiv, Int.reduceMod, Int.reduceNeg, reduceCtorEq, codeKey, List.contains, List.elem, Ev.load, peek, pack, storeV, fieldAddr, field, cvB, hw, ha, hm, hx0, hd, hT', h1le, bits1, decide_false, List.length_cons, List.take_succ_cons, List.take_zero])
  all_goals trace_state


theorem xor_cv (H : Heap) (h r : Nat) (h1 : h < H.length) (h2 : r < H.length) (h3 : h ≠ r) (x : Nat) (hx : x < 18446744073709551616) (c1 c2 c3 c4 c5 : V) (f : Fr) (hf : FrOk f) (bits : List Int) (hb : Bits01 bits) (hl : bits.length + 200 ≤ 4000000000) :
    callV (CL lore) 53 [.ptr h 0, .int .u64 (x : Int)] (WB H h r bits [c1, c2, c3, c4, c5, .bool f.there, .int .i64 f.l, .int .i64 f.t]) = some (.tup [], WB H h r (bits ++ (xorB x f).1) [c1, c2, c3, c4, c5, .bool (xorB x f).2.there, .int .i64 (xorB x f).2.l, .int .i64 (xorB x f).2.t]) := by
  refine callV_sh rfl ?_
  have L := fun rest hrest x hx m n hmn hm b hb' hl' => put_n H h r h1 h2 h3 x hx rest hrest m n hmn hm b hb' hl'
  unfold xorB
  by_cases h0 : x = 0
  · rw [if_pos h0]
    have hx0 : (x : Int) = 0 := by omega
    have p1 := L [c1, c2, c3, c4, c5, .bool f.there, .int .i64 f.l, .int .i64 f.t] rfl 0 (by decide) 1 1 rfl (by decide) bits hb (by omega)
    rw [call_start lore_ext53 Tryd.func53 rfl lore_okf53 (Nat.le_of_ble_eq_true rfl)]
    repeat' (first | (refine cond_by (F := res) (fun _ => ?_) (fun _ => ?_)) | (refine wayK_by (F := res) (fun _ hb_ => ?_) (fun _ hb_ => ?_) <;> simp only [hb_]) | (refine wayK_byN (F := res) (fun _ hb_ => ?_) (fun _ hb_ => ?_) <;> simp only [hb_]) | (refine wayD_by (F := res) (fun _ hb_ => ?_) (fun _ hb_ => ?_) <;> simp only [hb_]) | (refine wayD_byN (F := res) (fun _ hb_ => ?_) (fun _ hb_ => ?_) <;> simp only [hb_]) | (refine rdK_by (F := res) (fun _ => ?_) (fun _ => ?_)) | (refine effK_by (F := res) (fun _ => ?_) (fun _ => ?_)) | (refine effK_by2 (F := res) (fun _ => ?_) (fun _ => ?_)) | (refine rdD_by (F := res) (fun _ => ?_) (fun _ => ?_)) | (refine effD_by (F := res) (fun _ => ?_) (fun _ => ?_)) | (refine effD_by2 (F := res) (fun _ => ?_) (fun _ => ?_)) | simp -implicitDefEqProofs (disch := first | omega | (simp only [List.length_append, List.length_cons, List.length_nil, List.length_drop, List.length_take]; omega)) only [evs, tys, lors, Nat.reduceAdd, Nat.reduceSub, Nat.reduceMul, Nat.reducePow, Nat.reduceBEq, Nat.reduceLT, Nat.reduceLeDiff, Nat.reduceEqDiff, Int.reduceLT, Int.reduceLE, Int.reduceEq, Int.reduceNe, Int.reduceToNat, Int.reduceAdd, Int.reduceSub, Int.reduceMul, Int.reducePow, Int.reduceDiv, Int.reduceMod, Int.reduceNeg, reduceCtorEq, codeKey, List.contains, List.elem, Ev.load, peek, pack, storeV, fieldAddr, field, cvB, hx0, p1, decide_true])
    all_goals exact res_eq
  · rw [if_neg h0]
    have hx0 : ¬ (x : Int) = 0 := by omega
    have hl1 := lead_cv x (by omega) hx
    have ht1 := trail_cv x (by omega) hx
    obtain ⟨l1, l2, l3, l4, l5, l6⟩ := lt_facts (show 0 < x by omega) hx
    have hmin : min ((64 - blN x : Nat) : Int) 31 = (lz x : Int) := by unfold lz; omega
    by_cases hr : f.there = true ∧ f.l ≤ lz x ∧ f.t ≤ tz x
    · rw [if_pos hr]
      obtain ⟨t0, t1, t2⟩ := hf hr.1
      obtain ⟨fb, fl, ft⟩ := f
      simp only at hr t0 t1 t2 ⊢
      obtain ⟨hr1, hr2, hr3⟩ := hr
      subst hr1
      obtain ⟨ftn, rfl⟩ : ∃ n : Nat, ft = n := ⟨ft.toNat, by omega⟩
      have g1 : (fl : Int) ≤ (lz x : Int) := by omega
      have g2 : (ftn : Int) ≤ (tz x : Int) := by omega
      have p1 := L [c1, c2, c3, c4, c5, .bool true, .int .i64 fl, .int .i64 (ftn : Nat)] rfl 1 (by decide) 1 1 rfl (by decide) bits hb (by omega)
      have p2 := L [c1, c2, c3, c4, c5, .bool true, .int .i64 fl, .int .i64 (ftn : Nat)] rfl 0 (by decide) 1 1 rfl (by decide) (bits ++ numB 1 1) (bits01_app hb (numB_01 _ _)) (by rw [List.length_append, numB_len]; omega)
      have hq : 0 ≤ (x : Int) / 2 ^ ftn ∧ (x : Int) / 2 ^ ftn < 18446744073709551616 := ⟨Int.ediv_nonneg (by omega) (Int.le_of_lt (p2_pos _)), Int.lt_of_le_of_lt (Int.ediv_le_self _ (by omega)) (by omega)⟩
      have p3 := L [c1, c2, c3, c4, c5, .bool true, .int .i64 fl, .int .i64 (ftn : Nat)] rfl ((x : Int) / 2 ^ ftn) hq (64 - (fl : Int) - (ftn : Int)) (64 - fl - ftn) (by omega) (by omega) (bits ++ numB 1 1 ++ numB 0 1) (bits01_app (bits01_app hb (numB_01 _ _)) (numB_01 _ _)) (by simp only [List.length_append, numB_len]; omega)
      have hcast : ((x / 2 ^ ftn : Nat) : Int) = (x : Int) / 2 ^ ftn := by rw [Int.natCast_ediv, Int.natCast_pow]; rfl
      simp only [Int.toNat_natCast, hcast]
      rw [← List.append_assoc, ← List.append_assoc]
      rw [call_start lore_ext53 Tryd.func53 rfl lore_okf53 (Nat.le_of_ble_eq_true rfl)]
      repeat' (first | (refine cond_by (F := res) (fun _ => ?_) (fun _ => ?_)) | (refine wayK_by (F := res) (fun _ hb_ => ?_) (fun _ hb_ => ?_) <;> simp only [hb_]) | (refine wayK_byN (F := res) (fun _ hb_ => ?_) (fun _ hb_ => ?_) <;> simp only [hb_]) | (refine wayD_by (F := res) (fun _ hb_ => ?_) (fun _ hb_ => ?_) <;> simp only [hb_]) | (refine wayD_byN (F := res) (fun _ hb_ => ?_) (fun _ hb_ => ?_) <;> simp only [hb_]) | (refine rdK_by (F := res) (fun _ => ?_) (fun _ => ?_)) | (refine effK_by (F := res) (fun _ => ?_) (fun _ => ?_)) | (refine effK_by2 (F := res) (fun _ => ?_) (fun _ => ?_)) | (refine rdD_by (F := res) (fun _ => ?_) (fun _ => ?_)) | (refine effD_by (F := res) (fun _ => ?_) (fun _ => ?_)) | (refine effD_by2 (F := res) (fun _ => ?_) (fun _ => ?_)) | simp -implicitDefEqProofs (disch := first | omega | (simp only [List.length_append, List.length_cons, List.length_nil, List.length_drop, List.length_take]; omega)) only [evs, tys, lors, Nat.reduceAdd, Nat.reduceSub, Nat.reduceMul, Nat.reducePow, Nat.reduceBEq, Nat.reduceLT, Nat.reduceLeDiff, Nat.reduceEqDiff, Int.reduceLT, Int.reduceLE, Int.reduceEq, Int.reduceNe, Int.reduceToNat, Int.reduceAdd, Int.reduceSub, Int.reduceMul, Int.reducePow, Int.reduceDiv, Int.reduceMod, Int.reduceNeg, reduceCtorEq, codeKey, List.contains, List.elem, Ev.load, peek, pack, storeV, fieldAddr, field, cvB, hx0, hl1, ht1, hmin, g1, g2, p1, p2, p3, wb_h, bits1, decide_true, decide_false])
      all_goals repeat (rw [chkB_bit (by kernel_rfl)])
      repeat' (first | (refine cond_by (F := res) (fun _ => ?_) (fun _ => ?_)) | (refine wayK_by (F := res) (fun _ hb_ => ?_) (fun _ hb_ => ?_) <;> simp only [hb_]) | (refine wayK_byN (F := res) (fun _ hb_ => ?_) (fun _ hb_ => ?_) <;> simp only [hb_]) | (refine wayD_by (F := res) (fun _ hb_ => ?_) (fun _ hb_ => ?_) <;> simp only [hb_]) | (refine wayD_byN (F := res) (fun _ hb_ => ?_) (fun _ hb_ => ?_) <;> simp only [hb_]) | (refine rdK_by (F := res) (fun _ => ?_) (fun _ => ?_)) | (refine effK_by (F := res) (fun _ => ?_) (fun _ => ?_)) | (refine effK_by2 (F := res) (fun _ => ?_) (fun _ => ?_)) | (refine rdD_by (F := res) (fun _ => ?_) (fun _ => ?_)) | (refine effD_by (F := res) (fun _ => ?_) (fun _ => ?_)) | (refine effD_by2 (F := res) (fun _ => ?_) (fun _ => ?_)) | simp -implicitDefEqProofs (disch := first | omega | (simp only [List.length_append, List.length_cons, List.length_nil, List.length_drop, List.length_take]; omega)) only [evs, tys, lors, Nat.reduceAdd, Nat.reduceSub, Nat.reduceMul, Nat.reducePow, Nat.reduceBEq, Nat.reduceLT, Nat.reduceLeDiff, Nat.reduceEqDiff, Int.reduceLT, Int.reduceLE, Int.reduceEq, Int.reduceNe, Int.reduceToNat, Int.reduceAdd, Int.reduceSub, Int.reduceMul, Int.reducePow, Int.reduceDiv, Int.reduceMod, Int.reduceNeg, reduceCtorEq, codeKey, List.contains, List.elem, Ev.load, peek, pack, storeV, fieldAddr, field, cvB, hx0, hl1, ht1, hmin, g1, g2, p1, p2, p3, wb_h, bits1, decide_true, decide_false])
      all_goals first | exact res_eq | trace_state
    · rw [if_neg hr]
      have hcond : f.there = false ∨ (f.there = true ∧ ¬ (f.l : Int) ≤ (lz x : Int)) ∨ (f.there = true ∧ (f.l : Int) ≤ (lz x : Int) ∧ ¬ f.t ≤ (tz x : Int)) := by
        cases hft : f.there with
        | false => exact Or.inl rfl
        | true =>
          rw [hft] at hr
          simp only [true_and] at hr
          refine Or.inr ?_
          by_cases hg : f.l ≤ lz x
          · exact Or.inr ⟨rfl, by omega, fun hh => hr ⟨hg, hh⟩⟩
          · exact Or.inl ⟨rfl, by omega⟩
      have p1 := L [c1, c2, c3, c4, c5, .bool f.there, .int .i64 f.l, .int .i64 f.t] rfl 1 (by decide) 1 1 rfl (by decide) bits hb (by omega)
      have p2 := L [c1, c2, c3, c4, c5, .bool f.there, .int .i64 f.l, .int .i64 f.t] rfl 1 (by decide) 1 1 rfl (by decide) (bits ++ numB 1 1) (bits01_app hb (numB_01 _ _)) (by rw [List.length_append, numB_len]; omega)
      have p3 := L [c1, c2, c3, c4, c5, .bool f.there, .int .i64 f.l, .int .i64 f.t] rfl (lz x : Nat) (by omega) 5 5 rfl (by decide) (bits ++ numB 1 1 ++ numB 1 1) (bits01_app (bits01_app hb (numB_01 _ _)) (numB_01 _ _)) (by simp only [List.length_append, numB_len]; omega)
      have hn6 : ((64 - lz x - tz x : Nat) : Int) % 64 = (((64 - lz x - tz x) % 64 : Nat) : Int) := by omega
      have hn7 : (64 : Int) - (lz x : Int) - (tz x : Int) = ((64 - lz x - tz x : Nat) : Int) := by omega
      have p4 := L [c1, c2, c3, c4, c5, .bool f.there, .int .i64 f.l, .int .i64 f.t] rfl (((64 - lz x - tz x) % 64 : Nat) : Int) (by omega) 6 6 rfl (by decide) (bits ++ numB 1 1 ++ numB 1 1 ++ numB (lz x : Nat) 5) (bits01_app (bits01_app (bits01_app hb (numB_01 _ _)) (numB_01 _ _)) (numB_01 _ _)) (by simp only [List.length_append, numB_len]; omega)
      have hq : 0 ≤ (x : Int) / 2 ^ tz x ∧ (x : Int) / 2 ^ tz x < 18446744073709551616 := ⟨Int.ediv_nonneg (by omega) (Int.le_of_lt (p2_pos _)), Int.lt_of_le_of_lt (Int.ediv_le_self _ (by omega)) (by omega)⟩
      have p5 := L [c1, c2, c3, c4, c5, .bool f.there, .int .i64 f.l, .int .i64 f.t] rfl ((x : Int) / 2 ^ tz x) hq ((64 - lz x - tz x : Nat) : Int) (64 - lz x - tz x) rfl (by omega) (bits ++ numB 1 1 ++ numB 1 1 ++ numB (lz x : Nat) 5 ++ numB (((64 - lz x - tz x) % 64 : Nat) : Int) 6) (bits01_app (bits01_app (bits01_app (bits01_app hb (numB_01 _ _)) (numB_01 _ _)) (numB_01 _ _)) (numB_01 _ _)) (by simp only [List.length_append, numB_len]; omega)
      have hcast : ((x / 2 ^ tz x : Nat) : Int) = (x : Int) / 2 ^ tz x := by rw [Int.natCast_ediv, Int.natCast_pow]; rfl
      simp only [hcast]
      rw [← List.append_assoc, ← List.append_assoc, ← List.append_assoc, ← List.append_assoc]
      have hlz : 0 ≤ (lz x : Int) ∧ (lz x : Int) ≤ 31 := by omega
      have htz : 0 ≤ (tz x : Int) ∧ (tz x : Int) ≤ 63 := by omega
      have hn63 : 0 ≤ ((64 - lz x - tz x : Nat) : Int) ∧ ((64 - lz x - tz x : Nat) : Int) ≤ 64 := by omega
      have key : ∀ T L n6 n : Nat, T = tz x → True := fun _ _ _ _ _ => trivial
      rw [call_start lore_ext53 Tryd.func53 rfl lore_okf53 (Nat.le_of_ble_eq_true rfl)]
      rcases hcond with hc | ⟨hc, hc2⟩ | ⟨hc, hc2, hc3⟩
      · rw [hc] at p1 p2 p3 p4 p5 ⊢
        repeat' (first | (refine cond_by (F := res) (fun _ => ?_) (fun _ => ?_)) | (refine wayK_by (F := res) (fun _ hb_ => ?_) (fun _ hb_ => ?_) <;> simp only [hb_]) | (refine wayK_byN (F := res) (fun _ hb_ => ?_) (fun _ hb_ => ?_) <;> simp only [hb_]) | (refine wayD_by (F := res) (fun _ hb_ => ?_) (fun _ hb_ => ?_) <;> simp only [hb_]) | (refine wayD_byN (F := res) (fun _ hb_ => ?_) (fun _ hb_ => ?_) <;> simp only [hb_]) | (refine rdK_by (F := res) (fun _ => ?_) (fun _ => ?_)) | (refine effK_by (F := res) (fun _ => ?_) (fun _ => ?_)) | (refine effK_by2 (F := res) (fun _ => ?_) (fun _ => ?_)) | (refine rdD_by (F := res) (fun _ => ?_) (fun _ => ?_)) | (refine effD_by (F := res) (fun _ => ?_) (fun _ => ?_)) | (refine effD_by2 (F := res) (fun _ => ?_) (fun _ => ?_)) | simp -implicitDefEqProofs (disch := first | omega | (simp only [List.length_append, List.length_cons, List.length_nil, List.length_drop, List.length_take]; omega)) only [evs, tys, lors, Nat.reduceAdd, Nat.reduceSub, Nat.reduceMul, Nat.reducePow, Nat.reduceBEq, Nat.reduceLT, Nat.reduceLeDiff, Nat.reduceEqDiff, Int.reduceLT, Int.reduceLE, Int.reduceEq, Int.reduceNe, Int.reduceToNat, Int.reduceAdd, Int.reduceSub, Int.reduceMul, Int.reducePow, Int.reduceDiv, Int.reduceMod, Int.reduceNeg, reduceCtorEq, codeKey, List.contains, List.elem, Ev.load, peek, pack, storeV, fieldAddr, field, cvB, hx0, hl1, ht1, hmin, hn6, hn7, p1, p2, p3, p4, p5, wb_h, wb_sh, bits1, decide_true, decide_false])
        all_goals first | exact res_eq | trace_state
      · rw [hc] at p1 p2 p3 p4 p5 ⊢
        repeat' (first | (refine cond_by (F := res) (fun _ => ?_) (fun _ => ?_)) | (refine wayK_by (F := res) (fun _ hb_ => ?_) (fun _ hb_ => ?_) <;> simp only [hb_]) | (refine wayK_byN (F := res) (fun _ hb_ => ?_) (fun _ hb_ => ?_) <;> simp only [hb_]) | (refine wayD_by (F := res) (fun _ hb_ => ?_) (fun _ hb_ => ?_) <;> simp only [hb_]) | (refine wayD_byN (F := res) (fun _ hb_ => ?_) (fun _ hb_ => ?_) <;> simp only [hb_]) | (refine rdK_by (F := res) (fun _ => ?_) (fun _ => ?_)) | (refine effK_by (F := res) (fun _ => ?_) (fun _ => ?_)) | (refine effK_by2 (F := res) (fun _ => ?_) (fun _ => ?_)) | (refine rdD_by (F := res) (fun _ => ?_) (fun _ => ?_)) | (refine effD_by (F := res) (fun _ => ?_) (fun _ => ?_)) | (refine effD_by2 (F := res) (fun _ => ?_) (fun _ => ?_)) | simp -implicitDefEqProofs (disch := first | omega | (simp only [List.length_append, List.length_cons, List.length_nil, List.length_drop, List.length_take]; omega)) only [evs, tys, lors, Nat.reduceAdd, Nat.reduceSub, Nat.reduceMul, Nat.reducePow, Nat.reduceBEq, Nat.reduceLT, Nat.reduceLeDiff, Nat.reduceEqDiff, Int.reduceLT, Int.reduceLE, Int.reduceEq, Int.reduceNe, Int.reduceToNat, Int.reduceAdd, Int.reduceSub, Int.reduceMul, Int.reducePow, Int.reduceDiv, Int.reduceMod, Int.reduceNeg, reduceCtorEq, codeKey, List.contains, List.elem, Ev.load, peek, pack, storeV, fieldAddr, field, cvB, hx0, hl1, ht1, hmin, hn6, hn7, hc2, p1, p2, p3, p4, p5, wb_h, wb_sh, bits1, decide_true, decide_false])
        all_goals first | exact res_eq | trace_state
      · rw [hc] at p1 p2 p3 p4 p5 ⊢
        repeat' (first | (refine cond_by (F := res) (fun _ => ?_) (fun _ => ?_)) | (refine wayK_by (F := res) (fun _ hb_ => ?_) (fun _ hb_ => ?_) <;> simp only [hb_]) | (refine wayK_byN (F := res) (fun _ hb_ => ?_) (fun _ hb_ => ?_) <;> simp only [hb_]) | (refine wayD_by (F := res) (fun _ hb_ => ?_) (fun _ hb_ => ?_) <;> simp only [hb_]) | (refine wayD_byN (F := res) (fun _ hb_ => ?_) (fun _ hb_ => ?_) <;> simp only [hb_]) | (refine rdK_by (F := res) (fun _ => ?_) (fun _ => ?_)) | (refine effK_by (F := res) (fun _ => ?_) (fun _ => ?_)) | (refine effK_by2 (F := res) (fun _ => ?_) (fun _ => ?_)) | (refine rdD_by (F := res) (fun _ => ?_) (fun _ => ?_)) | (refine effD_by (F := res) (fun _ => ?_) (fun _ => ?_)) | (refine effD_by2 (F := res) (fun _ => ?_) (fun _ => ?_)) | simp -implicitDefEqProofs (disch := first | omega | (simp only [List.length_append, List.length_cons, List.length_nil, List.length_drop, List.length_take]; omega)) only [evs, tys, lors, Nat.reduceAdd, Nat.reduceSub, Nat.reduceMul, Nat.reducePow, Nat.reduceBEq, Nat.reduceLT, Nat.reduceLeDiff, Nat.reduceEqDiff, Int.reduceLT, Int.reduceLE, Int.reduceEq, Int.reduceNe, Int.reduceToNat, Int.reduceAdd, Int.reduceSub, Int.reduceMul, Int.reducePow, Int.reduceDiv, Int.reduceMod, Int.reduceNeg, reduceCtorEq, codeKey, List.contains, List.elem, Ev.load, peek, pack, storeV, fieldAddr, field, cvB, hx0, hl1, ht1, hmin, hn6, hn7, hc2, hc3, p1, p2, p3, p4, p5, wb_h, wb_sh, bits1, decide_true, decide_false])
        all_goals first | exact res_eq | trace_state


theorem w64 : FloatKind.f64.format.width = 64 := rfl
theorem b_fl {t : TypeId} {op : BinOp} {k : FloatKind} {a b : Nat} : bin Tryd.prog op t (.fl k a) (.fl k b) = binF op k a b := by
  cases op <;> simp [bin]
theorem bits_cv (a : Nat) (ha : a < 2 ^ 64) (H : Heap) : callV (CL lore) 48 [.fl .f64 a] H = some (.int .u64 (a : Int), H) := by
  refine callV_ans (r := some _) ?_ lore_sh48 rfl H
  rw [callL_ext (k := outer .bits64) rfl]
  simp only [outer]
  rw [if_pos ha]
  rfl
theorem frombits_cv (a : Nat) (ha : a < 2 ^ 64) (H : Heap) : callV (CL lore) 30 [.int .u64 (a : Int)] H = some (.fl .f64 a, H) := by
  refine callV_ans (r := some _) ?_ lore_sh30 rfl H
  rw [callL_ext (k := outer .frombits64) rfl]
  simp only [outer]
  rw [if_pos (by omega), Int.toNat_natCast]
  rfl
/-- A float's bits, one pattern for all that are no number. -/
def vbN (v : Nat) : Nat := if FloatKind.f64.format.order v v = some .eq then v else NAN
theorem vbN_lt {v : Nat} (h : v < 2 ^ 64) : vbN v < 2 ^ 64 := by
  unfold vbN NAN
  split
  · exact h
  · decide
theorem vbN_vbN (v : Nat) : vbN (vbN v) = vbN v := by
  by_cases h : FloatKind.f64.format.order v v = some .eq
  · have : vbN v = v := by unfold vbN; rw [if_pos h]
    rw [this, this]
  · have : vbN v = NAN := by unfold vbN; rw [if_neg h]
    rw [this]
    have hn : ¬ FloatKind.f64.format.order NAN NAN = some .eq := by decide
    unfold vbN
    rw [if_neg hn]
theorem gbits_cv (v : Nat) (hv : v < 2 ^ 64) (H : Heap) : callV (CL lore) 50 [.fl .f64 v] H = some (.int .u64 (vbN v : Int), H) := by
  refine callV_ans (r := some _) ?_ lore_sh50 rfl H
  have hb := bits_cv v hv
  unfold vbN
  by_cases h : FloatKind.f64.format.order v v = some .eq
  · have f : binF .neq .f64 v v = some (.bool false) := by
      show some (V.bool (FloatKind.f64.format.order v v != some .eq)) = _
      rw [h]; rfl
    rw [if_pos h]
    rw [call_start lore_ext50 Tryd.func50 rfl lore_okf50 (Nat.le_of_ble_eq_true rfl)]
    repeat' (first | (refine cond_by (F := ans) (fun _ => ?_) (fun _ => ?_)) | (refine wayK_by (F := ans) (fun _ hb_ => ?_) (fun _ hb_ => ?_) <;> simp only [hb_]) | (refine wayK_byN (F := ans) (fun _ hb_ => ?_) (fun _ hb_ => ?_) <;> simp only [hb_]) | (refine wayD_by (F := ans) (fun _ hb_ => ?_) (fun _ hb_ => ?_) <;> simp only [hb_]) | (refine wayD_byN (F := ans) (fun _ hb_ => ?_) (fun _ hb_ => ?_) <;> simp only [hb_]) | (refine rdK_by (F := ans) (fun _ => ?_) (fun _ => ?_)) | (refine effK_by (F := ans) (fun _ => ?_) (fun _ => ?_)) | (refine effK_by2 (F := ans) (fun _ => ?_) (fun _ => ?_)) | (refine rdD_by (F := ans) (fun _ => ?_) (fun _ => ?_)) | (refine effD_by (F := ans) (fun _ => ?_) (fun _ => ?_)) | (refine effD_by2 (F := ans) (fun _ => ?_) (fun _ => ?_)) | simp -implicitDefEqProofs (disch := first | omega | (simp only [List.length_append, List.length_cons, List.length_nil, List.length_drop, List.length_take]; omega)) only [evs, tys, lors, Nat.reduceAdd, Nat.reduceSub, Nat.reduceMul, Nat.reducePow, Nat.reduceBEq, Nat.reduceLT, Nat.reduceLeDiff, Nat.reduceEqDiff, Int.reduceLT, Int.reduceLE, Int.reduceEq, Int.reduceNe, Int.reduceToNat, Int.reduceAdd, Int.reduceSub, Int.reduceMul, Int.reducePow, Int.reduceDiv, Int.reduceMod, Int.reduceNeg, reduceCtorEq, codeKey, List.contains, List.elem, Ev.load, peek, pack, storeV, fieldAddr, field, cvB, b_fl, f, hb])
  · have f : binF .neq .f64 v v = some (.bool true) := by
      show some (V.bool (FloatKind.f64.format.order v v != some .eq)) = _
      congr 2
      simpa using h
    rw [if_neg h]
    rw [call_start lore_ext50 Tryd.func50 rfl lore_okf50 (Nat.le_of_ble_eq_true rfl)]
    repeat' (first | (refine cond_by (F := ans) (fun _ => ?_) (fun _ => ?_)) | (refine wayK_by (F := ans) (fun _ hb_ => ?_) (fun _ hb_ => ?_) <;> simp only [hb_]) | (refine wayK_byN (F := ans) (fun _ hb_ => ?_) (fun _ hb_ => ?_) <;> simp only [hb_]) | (refine wayD_by (F := ans) (fun _ hb_ => ?_) (fun _ hb_ => ?_) <;> simp only [hb_]) | (refine wayD_byN (F := ans) (fun _ hb_ => ?_) (fun _ hb_ => ?_) <;> simp only [hb_]) | (refine rdK_by (F := ans) (fun _ => ?_) (fun _ => ?_)) | (refine effK_by (F := ans) (fun _ => ?_) (fun _ => ?_)) | (refine effK_by2 (F := ans) (fun _ => ?_) (fun _ => ?_)) | (refine rdD_by (F := ans) (fun _ => ?_) (fun _ => ?_)) | (refine effD_by (F := ans) (fun _ => ?_) (fun _ => ?_)) | (refine effD_by2 (F := ans) (fun _ => ?_) (fun _ => ?_)) | simp -implicitDefEqProofs (disch := first | omega | (simp only [List.length_append, List.length_cons, List.length_nil, List.length_drop, List.length_take]; omega)) only [evs, tys, lors, Nat.reduceAdd, Nat.reduceSub, Nat.reduceMul, Nat.reducePow, Nat.reduceBEq, Nat.reduceLT, Nat.reduceLeDiff, Nat.reduceEqDiff, Int.reduceLT, Int.reduceLE, Int.reduceEq, Int.reduceNe, Int.reduceToNat, Int.reduceAdd, Int.reduceSub, Int.reduceMul, Int.reducePow, Int.reduceDiv, Int.reduceMod, Int.reduceNeg, reduceCtorEq, codeKey, List.contains, List.elem, Ev.load, peek, pack, storeV, fieldAddr, field, cvB, b_fl, f, hb])
    all_goals rfl
theorem rbits_cv (v : Nat) (hv : v < 2 ^ 64) (H : Heap) : callV (CL lore) 38 [.fl .f64 v] H = some (.int .u64 (vbN v : Int), H) := by
  refine callV_ans (r := some _) ?_ lore_sh38 rfl H
  have hb := bits_cv v hv
  unfold vbN
  by_cases h : FloatKind.f64.format.order v v = some .eq
  · have f : binF .neq .f64 v v = some (.bool false) := by
      show some (V.bool (FloatKind.f64.format.order v v != some .eq)) = _
      rw [h]; rfl
    rw [if_pos h]
    rw [call_start lore_ext38 Tryd.func38 rfl lore_okf38 (Nat.le_of_ble_eq_true rfl)]
    repeat' (first | (refine cond_by (F := ans) (fun _ => ?_) (fun _ => ?_)) | (refine wayK_by (F := ans) (fun _ hb_ => ?_) (fun _ hb_ => ?_) <;> simp only [hb_]) | (refine wayK_byN (F := ans) (fun _ hb_ => ?_) (fun _ hb_ => ?_) <;> simp only [hb_]) | (refine wayD_by (F := ans) (fun _ hb_ => ?_) (fun _ hb_ => ?_) <;> simp only [hb_]) | (refine wayD_byN (F := ans) (fun _ hb_ => ?_) (fun _ hb_ => ?_) <;> simp only [hb_]) | (refine rdK_by (F := ans) (fun _ => ?_) (fun _ => ?_)) | (refine effK_by (F := ans) (fun _ => ?_) (fun _ => ?_)) | (refine effK_by2 (F := ans) (fun _ => ?_) (fun _ => ?_)) | (refine rdD_by (F := ans) (fun _ => ?_) (fun _ => ?_)) | (refine effD_by (F := ans) (fun _ => ?_) (fun _ => ?_)) | (refine effD_by2 (F := ans) (fun _ => ?_) (fun _ => ?_)) | simp -implicitDefEqProofs (disch := first | omega | (simp only [List.length_append, List.length_cons, List.length_nil, List.length_drop, List.length_take]; omega)) only [evs, tys, lors, Nat.reduceAdd, Nat.reduceSub, Nat.reduceMul, Nat.reducePow, Nat.reduceBEq, Nat.reduceLT, Nat.reduceLeDiff, Nat.reduceEqDiff, Int.reduceLT, Int.reduceLE, Int.reduceEq, Int.reduceNe, Int.reduceToNat, Int.reduceAdd, Int.reduceSub, Int.reduceMul, Int.reducePow, Int.reduceDiv, Int.reduceMod, Int.reduceNeg, reduceCtorEq, codeKey, List.contains, List.elem, Ev.load, peek, pack, storeV, fieldAddr, field, cvB, b_fl, f, hb])
  · have f : binF .neq .f64 v v = some (.bool true) := by
      show some (V.bool (FloatKind.f64.format.order v v != some .eq)) = _
      congr 2
      simpa using h
    rw [if_neg h]
    rw [call_start lore_ext38 Tryd.func38 rfl lore_okf38 (Nat.le_of_ble_eq_true rfl)]
    repeat' (first | (refine cond_by (F := ans) (fun _ => ?_) (fun _ => ?_)) | (refine wayK_by (F := ans) (fun _ hb_ => ?_) (fun _ hb_ => ?_) <;> simp only [hb_]) | (refine wayK_byN (F := ans) (fun _ hb_ => ?_) (fun _ hb_ => ?_) <;> simp only [hb_]) | (refine wayD_by (F := ans) (fun _ hb_ => ?_) (fun _ hb_ => ?_) <;> simp only [hb_]) | (refine wayD_byN (F := ans) (fun _ hb_ => ?_) (fun _ hb_ => ?_) <;> simp only [hb_]) | (refine rdK_by (F := ans) (fun _ => ?_) (fun _ => ?_)) | (refine effK_by (F := ans) (fun _ => ?_) (fun _ => ?_)) | (refine effK_by2 (F := ans) (fun _ => ?_) (fun _ => ?_)) | (refine rdD_by (F := ans) (fun _ => ?_) (fun _ => ?_)) | (refine effD_by (F := ans) (fun _ => ?_) (fun _ => ?_)) | (refine effD_by2 (F := ans) (fun _ => ?_) (fun _ => ?_)) | simp -implicitDefEqProofs (disch := first | omega | (simp only [List.length_append, List.length_cons, List.length_nil, List.length_drop, List.length_take]; omega)) only [evs, tys, lors, Nat.reduceAdd, Nat.reduceSub, Nat.reduceMul, Nat.reducePow, Nat.reduceBEq, Nat.reduceLT, Nat.reduceLeDiff, Nat.reduceEqDiff, Int.reduceLT, Int.reduceLE, Int.reduceEq, Int.reduceNe, Int.reduceToNat, Int.reduceAdd, Int.reduceSub, Int.reduceMul, Int.reducePow, Int.reduceDiv, Int.reduceMod, Int.reduceNeg, reduceCtorEq, codeKey, List.contains, List.elem, Ev.load, peek, pack, storeV, fieldAddr, field, cvB, b_fl, f, hb])
    all_goals rfl
abbrev rst (s : ES) (u : Nat) : List V := [.int .i64 (s.i : Nat), .int .i64 s.at_, .fl .f64 u, .int .u64 s.step, .int .u64 (s.value : Nat), .bool s.fr.there, .int .i64 s.fr.l, .int .i64 s.fr.t]
theorem xor_ones {x : Nat} (h : x < 2 ^ 64) : x ^^^ (2 ^ 64 - 1) = 2 ^ 64 - (x + 1) := by
  apply Nat.eq_of_testBit_eq
  intro i
  rw [Nat.testBit_xor, Nat.testBit_two_pow_sub_succ h, Nat.testBit_two_pow_sub_one]
  by_cases hi : i < 64
  · rw [decide_eq_true hi]
    cases x.testBit i <;> rfl
  · have : x.testBit i = false := Nat.testBit_lt_two_pow (Nat.lt_of_lt_of_le h (Nat.pow_le_pow_right (by decide) (by omega)))
    rw [this, decide_eq_false hi]
    rfl
theorem shr_any {a : Int} {b : Nat} (hb : b ≤ 64) : shrI .i64 a b = a / 2 ^ b := by
  have e : IntKind.i64.bits = 64 := rfl
  simp only [shrI, e, Nat.min_eq_left hb]
  exact Int.fdiv_eq_ediv_of_nonneg _ (Int.le_of_lt (Int.pow_pos (by decide)))
theorem zig_eq {a : Int} (h : -9223372036854775808 ≤ a ∧ a ≤ 9223372036854775807) : xorI .u64 (a % 18446744073709551616 * 2 % 18446744073709551616) (a / 9223372036854775808 % 18446744073709551616) = zig a := by
  unfold zig
  by_cases h0 : 0 ≤ a
  · rw [if_pos h0]
    have e1 : a % 18446744073709551616 * 2 % 18446744073709551616 = ((2 * a.toNat : Nat) : Int) := by omega
    have e2 : a / 9223372036854775808 % 18446744073709551616 = ((0 : Nat) : Int) := by omega
    rw [e1, e2, xorI_natU (by omega) (by decide), Nat.xor_zero]
    omega
  · rw [if_neg h0]
    obtain ⟨m, hm⟩ : ∃ m : Nat, a % 18446744073709551616 * 2 % 18446744073709551616 = m := ⟨(a % 18446744073709551616 * 2 % 18446744073709551616).toNat, by omega⟩
    have e2 : a / 9223372036854775808 % 18446744073709551616 = ((2 ^ 64 - 1 : Nat) : Int) := by
      have : a / 9223372036854775808 = -1 := by omega
      rw [this]
      decide
    have hm2 : m < 2 ^ 64 := by omega
    rw [hm, e2, xorI_natU hm2 (by decide), xor_ones hm2]
    omega
theorem difB_le (d : Int) : (difB d).length ≤ 68 := by
  unfold difB
  repeat' split
  all_goals simp only [List.length_append, numB_len]; decide
theorem wb_old {H : Heap} {h r : Nat} {bits : List Int} {rest : List V} (h1 : h < H.length) (h2 : r < H.length) (x : Box) (X : List Box) : (WB (H ++ [x] ++ X) h r bits rest)[H.length]? = some x := by
  unfold WB
  rw [List.getElem?_set_ne (by omega), List.getElem?_set_ne (by omega), List.append_assoc, List.getElem?_append_right (Nat.le_refl _), Nat.sub_self]
  rfl
theorem point_cv (H : Heap) (h r : Nat) (h1 : h < H.length) (h2 : r < H.length) (h3 : h ≠ r) (s : ES) (u : Nat) (hi : 1 ≤ s.i) (hib : s.i ≤ 100000) (hs : ESOk s) (hf : FrOk s.fr) (a : Int) (ha : -9223372036854775808 ≤ a ∧ a ≤ 9223372036854775807) (v : Nat) (hv : v < 2 ^ 64) (bits : List Int) (hb : Bits01 bits) (hl : bits.length + 1000 ≤ 4000000000) :
    ∃ X, callV (CL lore) 44 [.ptr h 0, .agg [.int .i64 a, .fl .f64 v]] (WB H h r bits (rst s u)) = some (.tup [], WB (H ++ X) h r (bits ++ (encPt s a (vbN v)).1) (rst (encPt s a (vbN v)).2 v)) := by
  obtain ⟨i, sat, st0, val, fr⟩ := s
  obtain ⟨o1, o2, o3⟩ := hs
  simp only at hi hib o1 o2 o3 hf ⊢
  have hvb := vbN_lt hv
  have hg := gbits_cv v hv
  have hst : IntKind.u64.wrap (IntKind.u64.wrap a - IntKind.u64.wrap sat) = (a - sat) % 18446744073709551616 := by simp only [IntKind.wrap_u64]; omega
  have hxr : xorI .u64 (vbN v : Int) (val : Int) = ((vbN v ^^^ val : Nat) : Int) := xorI_natU hvb o3
  have hxl : vbN v ^^^ val < 2 ^ 64 := Nat.xor_lt_two_pow hvb o3
  have hstb : 0 ≤ (a - sat) % 18446744073709551616 ∧ (a - sat) % 18446744073709551616 < 18446744073709551616 := by omega
  have lB : ∀ b : Box, h < (H ++ [b]).length ∧ r < (H ++ [b]).length := fun b => by simp; omega
  rcases Nat.lt_or_ge i 2 with hi2 | hi2
  · obtain rfl : i = 1 := by omega
    simp only [encPt]
    generalize (a - sat) % 18446744073709551616 = st at *
    have p1 := varint_cv (H ++ [⟨[.int .i64 a, .fl .f64 v], 0, false, false⟩]) h r (lB _).1 (lB _).2 h3 st hstb (rst ⟨1, sat, st0, val, fr⟩ u) rfl bits hb (by omega)
    have p2 := xor_cv (H ++ [⟨[.int .i64 a, .fl .f64 v], 0, false, false⟩]) h r (lB _).1 (lB _).2 h3 _ hxl (.int .i64 ((1 : Nat) : Int)) (.int .i64 sat) (.fl .f64 u) (.int .u64 st0) (.int .u64 (val : Nat)) fr hf (bits ++ varF 10 st) (bits01_app hb (varF_01 _ _)) (by have := varF_le 10 st; rw [List.length_append]; omega)
    refine ⟨[⟨[.int .i64 a, .fl .f64 v], 0, false, false⟩], callV_sh rfl ?_⟩
    rw [← List.append_assoc]
    generalize xorB (vbN v ^^^ val) fr = xb at *
    have e1 : ((1 : Nat) : Int) = 1 := rfl
    have e2 : ((2 : Nat) : Int) = 2 := rfl
    simp only [rst, e1, e2] at p1 p2 ⊢
    rw [call_start lore_ext44 Tryd.func44 rfl lore_okf44 (Nat.le_of_ble_eq_true rfl)]
    repeat' (first | (refine cond_by (F := res) (fun _ => ?_) (fun _ => ?_)) | (refine wayK_by (F := res) (fun _ hb_ => ?_) (fun _ hb_ => ?_) <;> simp only [hb_]) | (refine wayK_byN (F := res) (fun _ hb_ => ?_) (fun _ hb_ => ?_) <;> simp only [hb_]) | (refine wayD_by (F := res) (fun _ hb_ => ?_) (fun _ hb_ => ?_) <;> simp only [hb_]) | (refine wayD_byN (F := res) (fun _ hb_ => ?_) (fun _ hb_ => ?_) <;> simp only [hb_]) | (refine rdK_by (F := res) (fun _ => ?_) (fun _ => ?_)) | (refine effK_by (F := res) (fun _ => ?_) (fun _ => ?_)) | (refine effK_by2 (F := res) (fun _ => ?_) (fun _ => ?_)) | (refine rdD_by (F := res) (fun _ => ?_) (fun _ => ?_)) | (refine effD_by (F := res) (fun _ => ?_) (fun _ => ?_)) | (refine effD_by2 (F := res) (fun _ => ?_) (fun _ => ?_)) | simp -implicitDefEqProofs (disch := first | omega | (simp only [List.length_append, List.length_cons, List.length_nil, List.length_drop, List.length_take]; omega)) only [evs, tys, lors, Nat.reduceAdd, Nat.reduceSub, Nat.reduceMul, Nat.reducePow, Nat.reduceBEq, Nat.reduceLT, Nat.reduceLeDiff, Nat.reduceEqDiff, Int.reduceLT, Int.reduceLE, Int.reduceEq, Int.reduceNe, Int.reduceToNat, Int.reduceAdd, Int.reduceSub, Int.reduceMul, Int.reducePow, Int.reduceDiv, Int.reduceMod, Int.reduceNeg, reduceCtorEq, codeKey, List.contains, List.elem, Ev.load, peek, pack, storeV, fieldAddr, field, cvB, w64, hg, hst, hxr, p1, p2, wb_h, wb_sh, wb_app, wb_len, wb_new, decide_true, decide_false])
    all_goals first | exact res_eq | trace_state
  · obtain ⟨j, rfl⟩ : ∃ j, i = j + 2 := ⟨i - 2, by omega⟩
    simp only [encPt]
    have hdw : IntKind.i64.wrap (IntKind.u64.wrap ((a - sat) % 18446744073709551616 - st0)) = wrapS ((a - sat) % 18446744073709551616 - st0) := by
      rw [IntKind.wrap_u64, IntKind.wrap_i64]
      unfold wrapS
      generalize (a - sat) % 18446744073709551616 - st0 = z
      omega
    have hdb : -9223372036854775808 ≤ wrapS ((a - sat) % 18446744073709551616 - st0) ∧ wrapS ((a - sat) % 18446744073709551616 - st0) ≤ 9223372036854775807 := by unfold wrapS; omega
    generalize wrapS ((a - sat) % 18446744073709551616 - st0) = dd at *
    generalize (a - sat) % 18446744073709551616 = st at *
    obtain ⟨X, p1⟩ := dif_cv (H ++ [⟨[.int .i64 a, .fl .f64 v], 0, false, false⟩]) h r (lB _).1 (lB _).2 h3 dd hdb (rst ⟨j + 2, sat, st0, val, fr⟩ u) rfl bits hb (by omega)
    have lX : h < (H ++ [(⟨[.int .i64 a, .fl .f64 v], 0, false, false⟩ : Box)] ++ X).length ∧ r < (H ++ [(⟨[.int .i64 a, .fl .f64 v], 0, false, false⟩ : Box)] ++ X).length := by simp; omega
    have p2 := xor_cv (H ++ [⟨[.int .i64 a, .fl .f64 v], 0, false, false⟩] ++ X) h r lX.1 lX.2 h3 _ hxl (.int .i64 ((j + 2 : Nat) : Int)) (.int .i64 sat) (.fl .f64 u) (.int .u64 st0) (.int .u64 (val : Nat)) fr hf (bits ++ difB dd) (bits01_app hb (difB_01 _)) (by have := difB_le dd; rw [List.length_append]; omega)
    have hnew : ∀ (b : List Int) (rest : List V), (WB (H ++ [⟨[.int .i64 a, .fl .f64 v], 0, false, false⟩] ++ X) h r b rest)[H.length]? = some ⟨[.int .i64 a, .fl .f64 v], 0, false, false⟩ := fun b rest => wb_old h1 h2 _ _
    refine ⟨[⟨[.int .i64 a, .fl .f64 v], 0, false, false⟩] ++ X, callV_sh rfl ?_⟩
    rw [← List.append_assoc, ← List.append_assoc]
    generalize xorB (vbN v ^^^ val) fr = xb at *
    have e1 : ((j + 2 : Nat) : Int) + 1 = ((j + 3 : Nat) : Int) := by omega
    have n0 : ¬ ((j + 2 : Nat) : Int) = 0 := by omega
    have n1 : ¬ ((j + 2 : Nat) : Int) = 1 := by omega
    have jb : (0 : Int) ≤ ((j + 2 : Nat) : Int) ∧ ((j + 2 : Nat) : Int) ≤ 200000 := by omega
    simp only [rst] at p1 p2 ⊢
    generalize ((j + 2 : Nat) : Int) = jj at *
    rw [call_start lore_ext44 Tryd.func44 rfl lore_okf44 (Nat.le_of_ble_eq_true rfl)]
    repeat' (first | (refine cond_by (F := res) (fun _ => ?_) (fun _ => ?_)) | (refine wayK_by (F := res) (fun _ hb_ => ?_) (fun _ hb_ => ?_) <;> simp only [hb_]) | (refine wayK_byN (F := res) (fun _ hb_ => ?_) (fun _ hb_ => ?_) <;> simp only [hb_]) | (refine wayD_by (F := res) (fun _ hb_ => ?_) (fun _ hb_ => ?_) <;> simp only [hb_]) | (refine wayD_byN (F := res) (fun _ hb_ => ?_) (fun _ hb_ => ?_) <;> simp only [hb_]) | (refine rdK_by (F := res) (fun _ => ?_) (fun _ => ?_)) | (refine effK_by (F := res) (fun _ => ?_) (fun _ => ?_)) | (refine effK_by2 (F := res) (fun _ => ?_) (fun _ => ?_)) | (refine rdD_by (F := res) (fun _ => ?_) (fun _ => ?_)) | (refine effD_by (F := res) (fun _ => ?_) (fun _ => ?_)) | (refine effD_by2 (F := res) (fun _ => ?_) (fun _ => ?_)) | simp -implicitDefEqProofs (disch := first | omega | (simp only [List.length_append, List.length_cons, List.length_nil, List.length_drop, List.length_take]; omega)) only [evs, tys, lors, Nat.reduceAdd, Nat.reduceSub, Nat.reduceMul, Nat.reducePow, Nat.reduceBEq, Nat.reduceLT, Nat.reduceLeDiff, Nat.reduceEqDiff, Int.reduceLT, Int.reduceLE, Int.reduceEq, Int.reduceNe, Int.reduceToNat, Int.reduceAdd, Int.reduceSub, Int.reduceMul, Int.reducePow, Int.reduceDiv, Int.reduceMod, Int.reduceNeg, reduceCtorEq, codeKey, List.contains, List.elem, Ev.load, peek, pack, storeV, fieldAddr, field, cvB, w64, hg, hst, hxr, hdw, n0, n1, e1, p1, p2, hnew, wb_h, wb_sh, wb_app, wb_len, wb_new, decide_true, decide_false])
    all_goals first | exact res_eq | trace_state
end Go.Proofs.YtmjdcoacmmmhnaaDoor
