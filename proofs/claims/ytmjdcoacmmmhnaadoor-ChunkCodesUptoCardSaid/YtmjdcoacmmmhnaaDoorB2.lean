/-
The reader: get. The reader: varint, difference, xor.
-/
import Derived.Test.YtmjdcoacmmmhnaaDoorA9
namespace Go.Proofs.YtmjdcoacmmmhnaaDoor
open Go Ev
set_option linter.all false
set_option maxHeartbeats 4000000
set_option maxRecDepth 5000
attribute [local irreducible] codeL condL loopL callL callV evOps evDraw rdK effK wayK oneK wayD oneD rdD effD chks chkB res

attribute [local irreducible] WB

abbrev Us8 (l : List Int) : Prop := ∀ x ∈ l, 0 ≤ x ∧ x < 256
theorem numB_get (x : Int) : ∀ (n j : Nat), j < n → (numB x n)[j]? = some (x / 2 ^ (n - 1 - j) % 2)
  | n + 1, 0, _ => by rw [numB]; rfl
  | n + 1, j + 1, h => by
    rw [numB, List.getElem?_cons_succ, numB_get x n j (by omega), show n + 1 - 1 - (j + 1) = n - 1 - j by omega]
theorem unpack_len : ∀ l : List Int, (unpack l).length = 8 * l.length
  | [] => rfl
  | y :: r => by rw [unpack, List.length_append, numB_len, unpack_len r, List.length_cons]; omega
theorem unpack_01 : ∀ l : List Int, Bits01 (unpack l)
  | [] => fun b hb => by simp [unpack] at hb
  | y :: r => bits01_app (numB_01 _ _) (unpack_01 r)
theorem unpack_get : ∀ (l : List Int) (q : Nat) (y : Int), l[q / 8]? = some y → (unpack l)[q]? = some (y / 2 ^ (7 - q % 8) % 2)
  | [], q, y, h => by simp at h
  | z :: r, q, y, h => by
    rw [unpack]
    rcases Nat.lt_or_ge q 8 with hq | hq
    · rw [show q / 8 = 0 by omega] at h
      obtain rfl : z = y := by simpa using h
      rw [List.getElem?_append_left (by rw [numB_len]; exact hq), numB_get z 8 q hq, show q % 8 = q by omega]
    · rw [show q / 8 = (q - 8) / 8 + 1 by omega, List.getElem?_cons_succ] at h
      rw [List.getElem?_append_right (by rw [numB_len]; exact hq), numB_len, unpack_get r (q - 8) y h, show (q - 8) % 8 = q % 8 by omega]
theorem gp_succ (L : List Int) (p k : Nat) : gp L p (k + 1) = 2 * gp L p k + (L[p + k]?).getD 0 := by
  unfold gp
  rw [rdv_succ, List.drop_drop]
  congr 1
  cases h : L[p + k]? with
  | none =>
    rw [List.getElem?_eq_none_iff] at h
    rw [List.drop_eq_nil_of_le h]
    rfl
  | some b =>
    obtain ⟨h1, h2⟩ := List.getElem?_eq_some_iff.1 h
    rw [List.drop_eq_getElem_cons h1, h2]
    rfl
/-- A reader's box. -/
def RX (by_ : List Int) (c : Bool) (p : Int) (sh : Bool) (f : Fr) : Box := ⟨[.sl (enc8 by_) 1 c, .int .i64 p, .bool sh, .bool f.there, .int .i64 f.l, .int .i64 f.t], 0, false, false⟩
def RB (H : Heap) (h : Nat) (by_ : List Int) (c : Bool) (p : Int) (sh : Bool) (f : Fr) : Heap := H.set h (RX by_ c p sh f)
theorem rb_h {H : Heap} {h : Nat} (h1 : h < H.length) (by_ : List Int) (c : Bool) (p : Int) (sh : Bool) (f : Fr) : (RB H h by_ c p sh f)[h]? = some ⟨[.sl (enc8 by_) 1 c, .int .i64 p, .bool sh, .bool f.there, .int .i64 f.l, .int .i64 f.t], 0, false, false⟩ := List.getElem?_set_self h1
theorem rb_s {H : Heap} {h : Nat} (by_ : List Int) (c : Bool) (p : Int) (sh : Bool) (f : Fr) (p' : Int) (sh' fb : Bool) (l : Nat) (t : Int) : (RB H h by_ c p sh f).set h ⟨[.sl (enc8 by_) 1 c, .int .i64 p', .bool sh', .bool fb, .int .i64 l, .int .i64 t], 0, false, false⟩ = RB H h by_ c p' sh' ⟨fb, l, t⟩ := List.set_set ..
theorem or_one {x b : Int} (h0 : 0 ≤ x) (h1 : x < 9223372036854775808) (hb : b = 0 ∨ b = 1) : orI .u64 (x * 2) b = 2 * x + b := by
  obtain ⟨n, rfl⟩ := Int.eq_ofNat_of_zero_le h0
  obtain ⟨k, rfl⟩ : ∃ k : Nat, b = k := ⟨b.toNat, by omega⟩
  have := orI_natU (x := n * 2 ^ 1) (y := k) (by omega) (by omega)
  rw [or_apart (show k < 2 ^ 1 by omega)] at this
  have e : ((n * 2 ^ 1 : Nat) : Int) = (n : Int) * 2 := by rw [Int.natCast_mul]; rfl
  rw [e] at this
  rw [this]
  omega
theorem loopGet (H : Heap) (h : Nat) (h1 : h < H.length) (by_ : List Int) (c : Bool) (hby : Us8 by_) (hlen : by_.length ≤ 200000000000000) (p n : Nat) (hn : n ≤ 64) (hp : p ≤ 3000000000000000) (sh : Bool) (f : Fr) (K : Kont) (R : Res) (a : Code) (ha : loopIn Tryd.prog 27 3 = some a)
    (hR : res (K (.exit 0) (Sl 56 .wild [(0, .ptr h 0), (5, .int .u64 (gp (unpack by_) p n)), (6, .int .i64 (n : Nat)), (7, .int .i64 (n : Nat))]) (RB H h by_ c ((p + n : Nat) : Int) (sh || decide (0 < n ∧ 8 * by_.length < p + n)) f)) = R) :
    ∀ (m k : Nat) (x z q : Int) (s : Bool), k + m = n → z = k → q = ((p + k : Nat) : Int) → x = gp (unpack by_) p k → s = (sh || decide (0 < k ∧ 8 * by_.length < p + k)) → res (loopL lore 27 a (Sl 56 .wild [(0, .ptr h 0), (5, .int .u64 x), (6, .int .i64 (n : Nat)), (7, .int .i64 z)]) (RB H h by_ c q s f) K) = R := by
  have hk := loop_key ha
  simp only [loopIn, Tryd.func27, Tryd.f27, loopAt, Option.bind_some, codeKey, if_true, Option.some.injEq, Nat.reduceEqDiff, if_false] at ha
  intro m
  induction m with
  | zero =>
    intro k x z q s hk2 hz hq hx hs
    obtain rfl : k = n := by omega
    subst hz hq hx hs
    have hlt : ¬ (k : Int) < (k : Int) := by omega
    rw [loopL_step' ha]
    repeat' (first | (refine cond_by (F := res) (fun _ => ?_) (fun _ => ?_)) | (refine wayK_by (F := res) (fun _ hb_ => ?_) (fun _ hb_ => ?_) <;> simp only [hb_]) | (refine wayK_byN (F := res) (fun _ hb_ => ?_) (fun _ hb_ => ?_) <;> simp only [hb_]) | (refine wayD_by (F := res) (fun _ hb_ => ?_) (fun _ hb_ => ?_) <;> simp only [hb_]) | (refine wayD_byN (F := res) (fun _ hb_ => ?_) (fun _ hb_ => ?_) <;> simp only [hb_]) | (refine rdK_by (F := res) (fun _ => ?_) (fun _ => ?_)) | (refine effK_by (F := res) (fun _ => ?_) (fun _ => ?_)) | (refine effK_by2 (F := res) (fun _ => ?_) (fun _ => ?_)) | (refine rdD_by (F := res) (fun _ => ?_) (fun _ => ?_)) | (refine effD_by (F := res) (fun _ => ?_) (fun _ => ?_)) | (refine effD_by2 (F := res) (fun _ => ?_) (fun _ => ?_)) | simp -implicitDefEqProofs (disch := first | omega | (simp only [List.length_append, List.length_cons, List.length_nil, List.length_drop, List.length_take]; omega)) only [evs, tys, lors, Nat.reduceAdd, Nat.reduceSub, Nat.reduceMul, Nat.reducePow, Nat.reduceBEq, Nat.reduceLT, Nat.reduceLeDiff, Nat.reduceEqDiff, Int.reduceLT, Int.reduceLE, Int.reduceEq, Int.reduceNe, Int.reduceToNat, Int.reduceAdd, Int.reduceSub, Int.reduceMul, Int.reducePow, Int.reduceDiv, Int.reduceMod, Int.reduceNeg, reduceCtorEq, codeKey, List.contains, List.elem, Ev.load, peek, pack, storeV, fieldAddr, field, cvB, hk, hlt, decide_false])
    exact hR
  | succ m ih =>
    intro k x z q s hk2 hz hq hx hs
    have hlt : z < (n : Int) := by omega
    obtain ⟨x0, x1⟩ := gp_lt (unpack_01 by_) p k
    have hk63 : (2 : Int) ^ k ≤ 2 ^ 63 := by
      have := Nat.pow_le_pow_right (show 0 < 2 by decide) (show k ≤ 63 by omega)
      exact_mod_cast this
    have e63 : (2 : Int) ^ 63 = 9223372036854775808 := by decide
    rw [← hx] at x0 x1
    have e4 := enc8_len by_
    have hq0 : 0 ≤ q ∧ q ≤ 5000000000000000 := by omega
    obtain ⟨fb, fl, ft⟩ := f
    rcases Nat.lt_or_ge ((p + k) / 8) by_.length with hb | hb
    · have hgt : by_[(p + k) / 8]? = some by_[(p + k) / 8] := List.getElem?_eq_getElem hb
      have hyb := hby _ (List.getElem_mem hb)
      generalize by_[(p + k) / 8] = y at *
      have hu := unpack_get by_ (p + k) y hgt
      have e1 : (enc8 by_)[(q / 8).toNat]? = some (.int .u8 y) := by
        rw [show (q / 8).toNat = (p + k) / 8 by omega]
        unfold enc8
        rw [List.getElem?_map, hgt]
        rfl
      have hlb : q / 8 < (by_.length : Int) := by omega
      have hsh : (7 : Int) - q % 8 = ((7 - (p + k) % 8 : Nat) : Int) := by omega
      have hy2 : 0 ≤ y / 2 ^ (7 - (p + k) % 8) ∧ y / 2 ^ (7 - (p + k) % 8) < 256 := ⟨Int.ediv_nonneg hyb.1 (Int.le_of_lt (p2_pos _)), Int.lt_of_le_of_lt (Int.ediv_le_self _ hyb.1) hyb.2⟩
      have hand : andI .u8 (y / 2 ^ (7 - (p + k) % 8)) 1 = y / 2 ^ (7 - (p + k) % 8) % 2 := and_u8_m 1 hy2.1 hy2.2 rfl (by decide)
      have hor := or_one (x := x) (b := y / 2 ^ (7 - (p + k) % 8) % 2) x0 (by omega) (by omega)
      have hnx := ih (k + 1) (2 * x + y / 2 ^ (7 - (p + k) % 8) % 2) (z + 1) (q + 1) s (by omega) (by omega) (by omega) (by rw [gp_succ, hu, ← hx]; rfl) (by
        rw [hs]
        congr 1
        rw [decide_eq_decide]
        omega)
      have hw2 : 0 ≤ y / 2 ^ (7 - (p + k) % 8) % 2 ∧ y / 2 ^ (7 - (p + k) % 8) % 2 ≤ 1 := by omega
      rw [loopL_step' ha]
      repeat' (first | (refine cond_by (F := res) (fun _ => ?_) (fun _ => ?_)) | (refine wayK_by (F := res) (fun _ hb_ => ?_) (fun _ hb_ => ?_) <;> simp only [hb_]) | (refine wayK_byN (F := res) (fun _ hb_ => ?_) (fun _ hb_ => ?_) <;> simp only [hb_]) | (refine wayD_by (F := res) (fun _ hb_ => ?_) (fun _ hb_ => ?_) <;> simp only [hb_]) | (refine wayD_byN (F := res) (fun _ hb_ => ?_) (fun _ hb_ => ?_) <;> simp only [hb_]) | (refine rdK_by (F := res) (fun _ => ?_) (fun _ => ?_)) | (refine effK_by (F := res) (fun _ => ?_) (fun _ => ?_)) | (refine effK_by2 (F := res) (fun _ => ?_) (fun _ => ?_)) | (refine rdD_by (F := res) (fun _ => ?_) (fun _ => ?_)) | (refine effD_by (F := res) (fun _ => ?_) (fun _ => ?_)) | (refine effD_by2 (F := res) (fun _ => ?_) (fun _ => ?_)) | simp -implicitDefEqProofs (disch := first | omega | (simp only [List.length_append, List.length_cons, List.length_nil, List.length_drop, List.length_take]; omega)) only [evs, tys, lors, Nat.reduceAdd, Nat.reduceSub, Nat.reduceMul, Nat.reducePow, Nat.reduceBEq, Nat.reduceLT, Nat.reduceLeDiff, Nat.reduceEqDiff, Int.reduceLT, Int.reduceLE, Int.reduceEq, Int.reduceNe, Int.reduceToNat, Int.reduceAdd, Int.reduceSub, Int.reduceMul, Int.reducePow, Int.reduceDiv, Int.reduceMod, Int.reduceNeg, reduceCtorEq, codeKey, List.contains, List.elem, Ev.load, peek, pack, storeV, fieldAddr, field, cvB, hk, hlt, e1, e4, hlb, hsh, hand, hor, rb_h h1, rb_s, bits1, decide_true, decide_false])
      all_goals first | exact hnx | trace_state
    · have hu : (unpack by_)[p + k]? = none := by
        rw [List.getElem?_eq_none_iff, unpack_len]
        omega
      have hlb : ¬ q / 8 < (by_.length : Int) := by omega
      have hnx := ih (k + 1) (x * 2) (z + 1) (q + 1) true (by omega) (by omega) (by omega) (by rw [gp_succ, hu, ← hx]; simp; omega) (by
        have : 0 < k + 1 ∧ 8 * by_.length < p + (k + 1) := by omega
        rw [decide_eq_true this]
        simp)
      rw [loopL_step' ha]
      repeat' (first | (refine cond_by (F := res) (fun _ => ?_) (fun _ => ?_)) | (refine wayK_by (F := res) (fun _ hb_ => ?_) (fun _ hb_ => ?_) <;> simp only [hb_]) | (refine wayK_byN (F := res) (fun _ hb_ => ?_) (fun _ hb_ => ?_) <;> simp only [hb_]) | (refine wayD_by (F := res) (fun _ hb_ => ?_) (fun _ hb_ => ?_) <;> simp only [hb_]) | (refine wayD_byN (F := res) (fun _ hb_ => ?_) (fun _ hb_ => ?_) <;> simp only [hb_]) | (refine rdK_by (F := res) (fun _ => ?_) (fun _ => ?_)) | (refine effK_by (F := res) (fun _ => ?_) (fun _ => ?_)) | (refine effK_by2 (F := res) (fun _ => ?_) (fun _ => ?_)) | (refine rdD_by (F := res) (fun _ => ?_) (fun _ => ?_)) | (refine effD_by (F := res) (fun _ => ?_) (fun _ => ?_)) | (refine effD_by2 (F := res) (fun _ => ?_) (fun _ => ?_)) | simp -implicitDefEqProofs (disch := first | omega | (simp only [List.length_append, List.length_cons, List.length_nil, List.length_drop, List.length_take]; omega)) only [evs, tys, lors, Nat.reduceAdd, Nat.reduceSub, Nat.reduceMul, Nat.reducePow, Nat.reduceBEq, Nat.reduceLT, Nat.reduceLeDiff, Nat.reduceEqDiff, Int.reduceLT, Int.reduceLE, Int.reduceEq, Int.reduceNe, Int.reduceToNat, Int.reduceAdd, Int.reduceSub, Int.reduceMul, Int.reducePow, Int.reduceDiv, Int.reduceMod, Int.reduceNeg, reduceCtorEq, codeKey, List.contains, List.elem, Ev.load, peek, pack, storeV, fieldAddr, field, cvB, hk, hlt, e4, hlb, rb_h h1, rb_s, bits1, decide_true, decide_false])
      all_goals first | exact hnx | trace_state
theorem get_cv (H : Heap) (h : Nat) (h1 : h < H.length) (by_ : List Int) (c : Bool) (hby : Us8 by_) (hlen : by_.length ≤ 200000000000000) (p n : Nat) (hn : n ≤ 64) (hp : p ≤ 3000000000000000) (sh : Bool) (f : Fr) :
    callV (CL lore) 27 [.ptr h 0, .int .i64 (n : Nat)] (RB H h by_ c (p : Nat) sh f) = some (.int .u64 (gp (unpack by_) p n), RB H h by_ c ((p + n : Nat) : Int) (sh || decide (0 < n ∧ 8 * by_.length < p + n)) f) := by
  refine callV_sh rfl ?_
  rw [call_start lore_ext27 Tryd.func27 rfl lore_okf27 (Nat.le_of_ble_eq_true rfl)]
  repeat' (first | (refine cond_by (F := res) (fun _ => ?_) (fun _ => ?_)) | (refine wayK_by (F := res) (fun _ hb_ => ?_) (fun _ hb_ => ?_) <;> simp only [hb_]) | (refine wayK_byN (F := res) (fun _ hb_ => ?_) (fun _ hb_ => ?_) <;> simp only [hb_]) | (refine wayD_by (F := res) (fun _ hb_ => ?_) (fun _ hb_ => ?_) <;> simp only [hb_]) | (refine wayD_byN (F := res) (fun _ hb_ => ?_) (fun _ hb_ => ?_) <;> simp only [hb_]) | (refine rdK_by (F := res) (fun _ => ?_) (fun _ => ?_)) | (refine effK_by (F := res) (fun _ => ?_) (fun _ => ?_)) | (refine effK_by2 (F := res) (fun _ => ?_) (fun _ => ?_)) | (refine rdD_by (F := res) (fun _ => ?_) (fun _ => ?_)) | (refine effD_by (F := res) (fun _ => ?_) (fun _ => ?_)) | (refine effD_by2 (F := res) (fun _ => ?_) (fun _ => ?_)) | simp -implicitDefEqProofs (disch := first | omega | (simp only [List.length_append, List.length_cons, List.length_nil, List.length_drop, List.length_take]; omega)) only [evs, tys, lors, Nat.reduceAdd, Nat.reduceSub, Nat.reduceMul, Nat.reducePow, Nat.reduceBEq, Nat.reduceLT, Nat.reduceLeDiff, Nat.reduceEqDiff, Int.reduceLT, Int.reduceLE, Int.reduceEq, Int.reduceNe, Int.reduceToNat, Int.reduceAdd, Int.reduceSub, Int.reduceMul, Int.reducePow, Int.reduceDiv, Int.reduceMod, Int.reduceNeg, reduceCtorEq, codeKey, List.contains, List.elem, Ev.load, peek, pack, storeV, fieldAddr, field, cvB])
  refine loopGet H h h1 by_ c hby hlen p n hn hp sh f _ _ _ (by rfl) ?_ n 0 _ _ _ sh (by omega) rfl (by rw [Nat.add_zero]) (by rw [show gp (unpack by_) p 0 = 0 from rdv_zero _]) (by simp)
  repeat' (first | (refine cond_by (F := res) (fun _ => ?_) (fun _ => ?_)) | (refine wayK_by (F := res) (fun _ hb_ => ?_) (fun _ hb_ => ?_) <;> simp only [hb_]) | (refine wayK_byN (F := res) (fun _ hb_ => ?_) (fun _ hb_ => ?_) <;> simp only [hb_]) | (refine wayD_by (F := res) (fun _ hb_ => ?_) (fun _ hb_ => ?_) <;> simp only [hb_]) | (refine wayD_byN (F := res) (fun _ hb_ => ?_) (fun _ hb_ => ?_) <;> simp only [hb_]) | (refine rdK_by (F := res) (fun _ => ?_) (fun _ => ?_)) | (refine effK_by (F := res) (fun _ => ?_) (fun _ => ?_)) | (refine effK_by2 (F := res) (fun _ => ?_) (fun _ => ?_)) | (refine rdD_by (F := res) (fun _ => ?_) (fun _ => ?_)) | (refine effD_by (F := res) (fun _ => ?_) (fun _ => ?_)) | (refine effD_by2 (F := res) (fun _ => ?_) (fun _ => ?_)) | simp -implicitDefEqProofs (disch := first | omega | (simp only [List.length_append, List.length_cons, List.length_nil, List.length_drop, List.length_take]; omega)) only [evs, tys, lors, Nat.reduceAdd, Nat.reduceSub, Nat.reduceMul, Nat.reducePow, Nat.reduceBEq, Nat.reduceLT, Nat.reduceLeDiff, Nat.reduceEqDiff, Int.reduceLT, Int.reduceLE, Int.reduceEq, Int.reduceNe, Int.reduceToNat, Int.reduceAdd, Int.reduceSub, Int.reduceMul, Int.reducePow, Int.reduceDiv, Int.reduceMod, Int.reduceNeg, reduceCtorEq, codeKey, List.contains, List.elem, Ev.load, peek, pack, storeV, fieldAddr, field, cvB])
  all_goals exact res_eq

attribute [local irreducible] RB

theorem get_n (H : Heap) (h : Nat) (h1 : h < H.length) (by_ : List Int) (c : Bool) (hby : Us8 by_) (hlen : by_.length ≤ 200000000000000) (p n : Nat) (hn : n ≤ 64) (hn0 : 0 < n) (hp : p ≤ 3000000000000000) (pz m qz : Int) (hpz : pz = p) (hm : m = n) (hqz : qz = ((p + n : Nat) : Int)) (sh : Bool) (f : Fr) :
    callV (CL lore) 27 [.ptr h 0, .int .i64 m] (RB H h by_ c pz sh f) = some (.int .u64 (gp (unpack by_) p n), RB H h by_ c qz (sh || decide (8 * by_.length < p + n)) f) := by
  subst hpz hm hqz
  rw [get_cv H h h1 by_ c hby hlen p n hn hp sh f]
  congr 4
  rw [decide_eq_decide]
  omega
theorem sh_le {sh : Bool} {A p q : Nat} (h : p ≤ q) : (sh || decide (A < p) || decide (A < q)) = (sh || decide (A < q)) := by
  cases sh
  · by_cases h1 : A < p
    · simp [h1, show A < q by omega]
    · simp [h1]
  · rfl
theorem or_hi {x r : Int} {k : Nat} (hk : k ≤ 63) (h0 : 0 ≤ x) (h1 : x < 2 ^ k) (r0 : 0 ≤ r) (r1 : r < 128) : orI .u64 x (r * 2 ^ k % 18446744073709551616) = x + r * 2 ^ k % 2 ^ 64 := by
  obtain ⟨n, rfl⟩ := Int.eq_ofNat_of_zero_le h0
  obtain ⟨m, rfl⟩ := Int.eq_ofNat_of_zero_le r0
  have e1 : ((m : Int) * 2 ^ k) % 18446744073709551616 = ((m % 2 ^ (64 - k) * 2 ^ k : Nat) : Int) := by
    have e2 : ((m : Int) * 2 ^ k) % 18446744073709551616 = ((m * 2 ^ k % 18446744073709551616 : Nat) : Int) := by
      rw [Int.natCast_emod, Int.natCast_mul, Int.natCast_pow]; rfl
    rw [e2]
    congr 1
    have e3 : (18446744073709551616 : Nat) = 2 ^ (64 - k) * 2 ^ k := by rw [← Nat.pow_add, show 64 - k + k = 64 by omega]
    rw [e3, Nat.mul_mod_mul_right]
  have e64 : (2 : Int) ^ 64 = 18446744073709551616 := by decide
  have hn : n < 2 ^ k := by
    have e : ((2 : Int) ^ k) = ((2 ^ k : Nat) : Int) := by rw [Int.natCast_pow]; rfl
    omega
  have hlt : m % 2 ^ (64 - k) * 2 ^ k < 2 ^ 64 := by
    have a1 := Nat.mod_lt m (Nat.two_pow_pos (64 - k))
    have a2 := Nat.mul_lt_mul_of_pos_right a1 (Nat.two_pow_pos k)
    rw [← Nat.pow_add, show 64 - k + k = 64 by omega] at a2
    exact a2
  have hn64 : n < 2 ^ 64 := Nat.lt_of_lt_of_le hn (Nat.pow_le_pow_right (by decide) (by omega))
  rw [e64, e1, orI_natU hn64 hlt, Nat.or_comm, or_apart hn, Int.natCast_add]
  omega
theorem varP_ge (L : List Int) : ∀ (f k : Nat) (a : Int) (p : Nat), p ≤ (varP L f k a p).2.1 ∧ (varP L f k a p).2.1 ≤ p + 8 * f
  | 0, k, a, p => by simp [varP]
  | f + 1, k, a, p => by
    rw [varP]
    split
    · simp only; omega
    · have := varP_ge L f (k + 7) (a + gp L p 8 % 128 * 2 ^ k % 2 ^ 64) (p + 8)
      omega
theorem varP_pos (L : List Int) (f k : Nat) (a : Int) (p : Nat) (hf : 0 < f) : p + 8 ≤ (varP L f k a p).2.1 := by
  obtain ⟨g, rfl⟩ : ∃ g, f = g + 1 := ⟨f - 1, by omega⟩
  rw [varP]
  split
  · simp only; omega
  · exact (varP_ge L g (k + 7) _ (p + 8)).1
theorem loopVR (H : Heap) (h : Nat) (h1 : h < H.length) (by_ : List Int) (c : Bool) (hby : Us8 by_) (hlen : by_.length ≤ 200000000000000) (fr : Fr) (a : Code) (ha : loopIn Tryd.prog 26 3 = some a) :
    ∀ (f k : Nat) (x z : Int) (p : Nat) (pz : Int) (sh : Bool), k + 7 * f = 70 → z = k → 0 ≤ x → x < 2 ^ k → p + 8 * f ≤ 3000000000000000 → pz = p →
    (∀ X Q, varP (unpack by_) f k x p = (X, Q, false) → ∃ z' : Int, ∀ K : Kont, res (loopL lore 26 a (Sl 25 .wild [(0, .ptr h 0), (2, .int .u64 0), (3, .int .u64 x), (4, .int .i64 z)]) (RB H h by_ c pz sh fr) K) = res (K .ret (Sl 25 .wild [(0, .ptr h 0), (2, .int .u64 X), (3, .int .u64 X), (4, .int .i64 z')]) (RB H h by_ c ((Q : Nat) : Int) (sh || decide (8 * by_.length < Q)) fr))) ∧
    (∀ X Q, varP (unpack by_) f k x p = (X, Q, true) → ∃ s' : Bool, ∀ K : Kont, res (loopL lore 26 a (Sl 25 .wild [(0, .ptr h 0), (2, .int .u64 0), (3, .int .u64 x), (4, .int .i64 z)]) (RB H h by_ c pz sh fr) K) = res (K (.exit 0) (Sl 25 .wild [(0, .ptr h 0), (2, .int .u64 0), (3, .int .u64 X), (4, .int .i64 70)]) (RB H h by_ c ((Q : Nat) : Int) s' fr))) := by
  have hk := loop_key ha
  simp only [loopIn, Tryd.func26, Tryd.f26, loopAt, Option.bind_some, codeKey, if_true, Option.some.injEq, Nat.reduceEqDiff, if_false] at ha
  intro f
  induction f with
  | zero =>
    intro k x z p pz sh hkf hz hx0 hx1 hp hpz
    rw [varP]
    refine ⟨fun X Q he => by simp at he, fun X Q he => ⟨sh, fun K => ?_⟩⟩
    obtain ⟨rfl, rfl, _⟩ := by simpa using he
    obtain rfl : z = 70 := by omega
    subst hpz
    rw [loopL_step' ha]
    repeat' (first | (refine cond_by (F := res) (fun _ => ?_) (fun _ => ?_)) | (refine wayK_by (F := res) (fun _ hb_ => ?_) (fun _ hb_ => ?_) <;> simp only [hb_]) | (refine wayK_byN (F := res) (fun _ hb_ => ?_) (fun _ hb_ => ?_) <;> simp only [hb_]) | (refine wayD_by (F := res) (fun _ hb_ => ?_) (fun _ hb_ => ?_) <;> simp only [hb_]) | (refine wayD_byN (F := res) (fun _ hb_ => ?_) (fun _ hb_ => ?_) <;> simp only [hb_]) | (refine rdK_by (F := res) (fun _ => ?_) (fun _ => ?_)) | (refine effK_by (F := res) (fun _ => ?_) (fun _ => ?_)) | (refine effK_by2 (F := res) (fun _ => ?_) (fun _ => ?_)) | (refine rdD_by (F := res) (fun _ => ?_) (fun _ => ?_)) | (refine effD_by (F := res) (fun _ => ?_) (fun _ => ?_)) | (refine effD_by2 (F := res) (fun _ => ?_) (fun _ => ?_)) | simp -implicitDefEqProofs (disch := first | omega | (simp only [List.length_append, List.length_cons, List.length_nil, List.length_drop, List.length_take]; omega)) only [evs, tys, lors, Nat.reduceAdd, Nat.reduceSub, Nat.reduceMul, Nat.reducePow, Nat.reduceBEq, Nat.reduceLT, Nat.reduceLeDiff, Nat.reduceEqDiff, Int.reduceLT, Int.reduceLE, Int.reduceEq, Int.reduceNe, Int.reduceToNat, Int.reduceAdd, Int.reduceSub, Int.reduceMul, Int.reducePow, Int.reduceDiv, Int.reduceMod, Int.reduceNeg, reduceCtorEq, codeKey, List.contains, List.elem, Ev.load, peek, pack, storeV, fieldAddr, field, cvB, hk])
  | succ f ih =>
    intro k x z p pz sh hkf hz hx0 hx1 hp hpz
    have hz64 : z < 64 := by omega
    obtain ⟨g0, g1⟩ := gp_lt (unpack_01 by_) p 8
    have e8 : (2 : Int) ^ 8 = 256 := by decide
    rw [e8] at g1
    have hg := get_n H h h1 by_ c hby hlen p 8 (by decide) (by decide) (by omega) pz 8 (pz + 8) hpz rfl (by omega) sh fr
    have hand : andI .u64 (gp (unpack by_) p 8) 127 = gp (unpack by_) p 8 % 128 := and_u64_m 7 g0 (by omega) rfl (by decide)
    have hor := or_hi (x := x) (r := gp (unpack by_) p 8 % 128) (k := k) (by omega) hx0 hx1 (by omega) (by omega)
    have hw : IntKind.u64.wrap (gp (unpack by_) p 8 % 128 * 2 ^ k) = gp (unpack by_) p 8 % 128 * 2 ^ k % 18446744073709551616 := IntKind.wrap_u64 _
    have hx64 : x + gp (unpack by_) p 8 % 128 * 2 ^ k % 2 ^ 64 < 2 ^ (k + 7) ∧ 0 ≤ x + gp (unpack by_) p 8 % 128 * 2 ^ k % 2 ^ 64 := by
      have hp2 := p2_pos k
      have a0 : 0 ≤ gp (unpack by_) p 8 % 128 * 2 ^ k := Int.mul_nonneg (by omega) (by omega)
      have a1 := Int.mul_le_mul_of_nonneg_right (show gp (unpack by_) p 8 % 128 ≤ 127 by omega) (show (0 : Int) ≤ 2 ^ k by omega)
      have a2 : gp (unpack by_) p 8 % 128 * 2 ^ k % 2 ^ 64 ≤ gp (unpack by_) p 8 % 128 * 2 ^ k := by
        generalize gp (unpack by_) p 8 % 128 * 2 ^ k = w at *
        omega
      have a3 : 0 ≤ gp (unpack by_) p 8 % 128 * 2 ^ k % 2 ^ 64 := Int.emod_nonneg _ (by decide)
      have e7 : (2 : Int) ^ (k + 7) = 2 ^ k * 128 := by rw [Int.pow_add]; rfl
      rw [e7]
      omega
    rw [varP]
    subst hz
    have hkc : (k : Int) + 7 = ((k + 7 : Nat) : Int) := by omega
    by_cases h128 : gp (unpack by_) p 8 < 128
    · rw [if_pos h128]
      refine ⟨fun X Q he => ⟨k, fun K => ?_⟩, fun X Q he => by simp at he⟩
      obtain ⟨rfl, rfl⟩ := by simpa using he
      have hq : pz + 8 = ((p + 8 : Nat) : Int) := by omega
      rw [hq] at hg
      generalize gp (unpack by_) p 8 = g at *
      rw [loopL_step' ha]
      repeat' (first | (refine cond_by (F := res) (fun _ => ?_) (fun _ => ?_)) | (refine wayK_by (F := res) (fun _ hb_ => ?_) (fun _ hb_ => ?_) <;> simp only [hb_]) | (refine wayK_byN (F := res) (fun _ hb_ => ?_) (fun _ hb_ => ?_) <;> simp only [hb_]) | (refine wayD_by (F := res) (fun _ hb_ => ?_) (fun _ hb_ => ?_) <;> simp only [hb_]) | (refine wayD_byN (F := res) (fun _ hb_ => ?_) (fun _ hb_ => ?_) <;> simp only [hb_]) | (refine rdK_by (F := res) (fun _ => ?_) (fun _ => ?_)) | (refine effK_by (F := res) (fun _ => ?_) (fun _ => ?_)) | (refine effK_by2 (F := res) (fun _ => ?_) (fun _ => ?_)) | (refine rdD_by (F := res) (fun _ => ?_) (fun _ => ?_)) | (refine effD_by (F := res) (fun _ => ?_) (fun _ => ?_)) | (refine effD_by2 (F := res) (fun _ => ?_) (fun _ => ?_)) | simp -implicitDefEqProofs (disch := first | omega | (simp only [List.length_append, List.length_cons, List.length_nil, List.length_drop, List.length_take]; omega)) only [evs, tys, lors, Nat.reduceAdd, Nat.reduceSub, Nat.reduceMul, Nat.reducePow, Nat.reduceBEq, Nat.reduceLT, Nat.reduceLeDiff, Nat.reduceEqDiff, Int.reduceLT, Int.reduceLE, Int.reduceEq, Int.reduceNe, Int.reduceToNat, Int.reduceAdd, Int.reduceSub, Int.reduceMul, Int.reducePow, Int.reduceDiv, Int.reduceMod, Int.reduceNeg, reduceCtorEq, codeKey, List.contains, List.elem, Ev.load, peek, pack, storeV, fieldAddr, field, cvB, hk, hz64, hg, hand, hw, hor, h128, shl_u64, decide_true])
    · rw [if_neg h128]
      obtain ⟨i1, i2⟩ := ih (k + 7) (x + gp (unpack by_) p 8 % 128 * 2 ^ k % 2 ^ 64) ((k + 7 : Nat) : Int) (p + 8) (pz + 8) (sh || decide (8 * by_.length < p + 8)) (by omega) rfl hx64.2 hx64.1 (by omega) (by omega)
      have step : ∀ K : Kont, res (loopL lore 26 a (Sl 25 .wild [(0, .ptr h 0), (2, .int .u64 0), (3, .int .u64 x), (4, .int .i64 (k : Nat))]) (RB H h by_ c pz sh fr) K) = res (loopL lore 26 a (Sl 25 .wild [(0, .ptr h 0), (2, .int .u64 0), (3, .int .u64 (x + gp (unpack by_) p 8 % 128 * 2 ^ k % 2 ^ 64)), (4, .int .i64 ((k + 7 : Nat) : Int))]) (RB H h by_ c (pz + 8) (sh || decide (8 * by_.length < p + 8)) fr) K) := by
        intro K
        clear i1 i2 ih
        generalize gp (unpack by_) p 8 = g at *
        rw [loopL_step' ha]
        repeat' (first | (refine cond_by (F := res) (fun _ => ?_) (fun _ => ?_)) | (refine wayK_by (F := res) (fun _ hb_ => ?_) (fun _ hb_ => ?_) <;> simp only [hb_]) | (refine wayK_byN (F := res) (fun _ hb_ => ?_) (fun _ hb_ => ?_) <;> simp only [hb_]) | (refine wayD_by (F := res) (fun _ hb_ => ?_) (fun _ hb_ => ?_) <;> simp only [hb_]) | (refine wayD_byN (F := res) (fun _ hb_ => ?_) (fun _ hb_ => ?_) <;> simp only [hb_]) | (refine rdK_by (F := res) (fun _ => ?_) (fun _ => ?_)) | (refine effK_by (F := res) (fun _ => ?_) (fun _ => ?_)) | (refine effK_by2 (F := res) (fun _ => ?_) (fun _ => ?_)) | (refine rdD_by (F := res) (fun _ => ?_) (fun _ => ?_)) | (refine effD_by (F := res) (fun _ => ?_) (fun _ => ?_)) | (refine effD_by2 (F := res) (fun _ => ?_) (fun _ => ?_)) | simp -implicitDefEqProofs (disch := first | omega | (simp only [List.length_append, List.length_cons, List.length_nil, List.length_drop, List.length_take]; omega)) only [evs, tys, lors, Nat.reduceAdd, Nat.reduceSub, Nat.reduceMul, Nat.reducePow, Nat.reduceBEq, Nat.reduceLT, Nat.reduceLeDiff, Nat.reduceEqDiff, Int.reduceLT, Int.reduceLE, Int.reduceEq, Int.reduceNe, Int.reduceToNat, Int.reduceAdd, Int.reduceSub, Int.reduceMul, Int.reducePow, Int.reduceDiv, Int.reduceMod, Int.reduceNeg, reduceCtorEq, codeKey, List.contains, List.elem, Ev.load, peek, pack, storeV, fieldAddr, field, cvB, hk, hz64, hg, hand, hw, hor, h128, hkc, shl_u64, decide_false, decide_true])
      refine ⟨fun X Q he => ?_, fun X Q he => ?_⟩
      · obtain ⟨z', hz'⟩ := i1 X Q he
        have hQ := varP_ge (unpack by_) f (k + 7) (x + gp (unpack by_) p 8 % 128 * 2 ^ k % 2 ^ 64) (p + 8)
        rw [he] at hQ
        exact ⟨z', fun K => by rw [step, hz', sh_le hQ.1]⟩
      · obtain ⟨s', hs'⟩ := i2 X Q he
        exact ⟨s', fun K => by rw [step, hs']⟩
theorem varR_cv (H : Heap) (h : Nat) (h1 : h < H.length) (by_ : List Int) (c : Bool) (hby : Us8 by_) (hlen : by_.length ≤ 200000000000000) (fr : Fr) (p : Nat) (hp : p ≤ 2000000000000000) (sh : Bool) (X : Int) (Q : Nat) (o : Bool) (he : varP (unpack by_) 10 0 0 p = (X, Q, o)) :
    callV (CL lore) 26 [.ptr h 0] (RB H h by_ c (p : Nat) sh fr) = some (.int .u64 X, RB H h by_ c (Q : Nat) (sh || decide (8 * by_.length < Q) || o) fr) := by
  obtain ⟨a, ha⟩ : ∃ a, loopIn Tryd.prog 26 3 = some a := ⟨_, rfl⟩
  obtain ⟨v1, v2⟩ := loopVR H h h1 by_ c hby hlen fr a ha 10 0 0 0 p _ sh rfl rfl (by decide) (by decide) (by omega) rfl
  refine callV_sh rfl ?_
  obtain ⟨fb, fl, ft⟩ := fr
  rw [call_start lore_ext26 Tryd.func26 rfl lore_okf26 (Nat.le_of_ble_eq_true rfl)]
  repeat' (first | (refine cond_by (F := res) (fun _ => ?_) (fun _ => ?_)) | (refine wayK_by (F := res) (fun _ hb_ => ?_) (fun _ hb_ => ?_) <;> simp only [hb_]) | (refine wayK_byN (F := res) (fun _ hb_ => ?_) (fun _ hb_ => ?_) <;> simp only [hb_]) | (refine wayD_by (F := res) (fun _ hb_ => ?_) (fun _ hb_ => ?_) <;> simp only [hb_]) | (refine wayD_byN (F := res) (fun _ hb_ => ?_) (fun _ hb_ => ?_) <;> simp only [hb_]) | (refine rdK_by (F := res) (fun _ => ?_) (fun _ => ?_)) | (refine effK_by (F := res) (fun _ => ?_) (fun _ => ?_)) | (refine effK_by2 (F := res) (fun _ => ?_) (fun _ => ?_)) | (refine rdD_by (F := res) (fun _ => ?_) (fun _ => ?_)) | (refine effD_by (F := res) (fun _ => ?_) (fun _ => ?_)) | (refine effD_by2 (F := res) (fun _ => ?_) (fun _ => ?_)) | simp -implicitDefEqProofs (disch := first | omega | (simp only [List.length_append, List.length_cons, List.length_nil, List.length_drop, List.length_take]; omega)) only [evs, tys, lors, Nat.reduceAdd, Nat.reduceSub, Nat.reduceMul, Nat.reducePow, Nat.reduceBEq, Nat.reduceLT, Nat.reduceLeDiff, Nat.reduceEqDiff, Int.reduceLT, Int.reduceLE, Int.reduceEq, Int.reduceNe, Int.reduceToNat, Int.reduceAdd, Int.reduceSub, Int.reduceMul, Int.reducePow, Int.reduceDiv, Int.reduceMod, Int.reduceNeg, reduceCtorEq, codeKey, List.contains, List.elem, Ev.load, peek, pack, storeV, fieldAddr, field, cvB])
  obtain rfl : a = _ := (Option.some.inj ((show loopIn Tryd.prog 26 3 = some _ from rfl).symm.trans ha)).symm
  cases o with
  | false =>
    obtain ⟨z', hz'⟩ := v1 X Q he
    rw [hz', Bool.or_false]
    repeat' (first | (refine cond_by (F := res) (fun _ => ?_) (fun _ => ?_)) | (refine wayK_by (F := res) (fun _ hb_ => ?_) (fun _ hb_ => ?_) <;> simp only [hb_]) | (refine wayK_byN (F := res) (fun _ hb_ => ?_) (fun _ hb_ => ?_) <;> simp only [hb_]) | (refine wayD_by (F := res) (fun _ hb_ => ?_) (fun _ hb_ => ?_) <;> simp only [hb_]) | (refine wayD_byN (F := res) (fun _ hb_ => ?_) (fun _ hb_ => ?_) <;> simp only [hb_]) | (refine rdK_by (F := res) (fun _ => ?_) (fun _ => ?_)) | (refine effK_by (F := res) (fun _ => ?_) (fun _ => ?_)) | (refine effK_by2 (F := res) (fun _ => ?_) (fun _ => ?_)) | (refine rdD_by (F := res) (fun _ => ?_) (fun _ => ?_)) | (refine effD_by (F := res) (fun _ => ?_) (fun _ => ?_)) | (refine effD_by2 (F := res) (fun _ => ?_) (fun _ => ?_)) | simp -implicitDefEqProofs (disch := first | omega | (simp only [List.length_append, List.length_cons, List.length_nil, List.length_drop, List.length_take]; omega)) only [evs, tys, lors, Nat.reduceAdd, Nat.reduceSub, Nat.reduceMul, Nat.reducePow, Nat.reduceBEq, Nat.reduceLT, Nat.reduceLeDiff, Nat.reduceEqDiff, Int.reduceLT, Int.reduceLE, Int.reduceEq, Int.reduceNe, Int.reduceToNat, Int.reduceAdd, Int.reduceSub, Int.reduceMul, Int.reducePow, Int.reduceDiv, Int.reduceMod, Int.reduceNeg, reduceCtorEq, codeKey, List.contains, List.elem, Ev.load, peek, pack, storeV, fieldAddr, field, cvB])
    all_goals exact res_eq
  | true =>
    obtain ⟨s', hs'⟩ := v2 X Q he
    rw [hs', Bool.or_true]
    repeat' (first | (refine cond_by (F := res) (fun _ => ?_) (fun _ => ?_)) | (refine wayK_by (F := res) (fun _ hb_ => ?_) (fun _ hb_ => ?_) <;> simp only [hb_]) | (refine wayK_byN (F := res) (fun _ hb_ => ?_) (fun _ hb_ => ?_) <;> simp only [hb_]) | (refine wayD_by (F := res) (fun _ hb_ => ?_) (fun _ hb_ => ?_) <;> simp only [hb_]) | (refine wayD_byN (F := res) (fun _ hb_ => ?_) (fun _ hb_ => ?_) <;> simp only [hb_]) | (refine rdK_by (F := res) (fun _ => ?_) (fun _ => ?_)) | (refine effK_by (F := res) (fun _ => ?_) (fun _ => ?_)) | (refine effK_by2 (F := res) (fun _ => ?_) (fun _ => ?_)) | (refine rdD_by (F := res) (fun _ => ?_) (fun _ => ?_)) | (refine effD_by (F := res) (fun _ => ?_) (fun _ => ?_)) | (refine effD_by2 (F := res) (fun _ => ?_) (fun _ => ?_)) | simp -implicitDefEqProofs (disch := first | omega | (simp only [List.length_append, List.length_cons, List.length_nil, List.length_drop, List.length_take]; omega)) only [evs, tys, lors, Nat.reduceAdd, Nat.reduceSub, Nat.reduceMul, Nat.reducePow, Nat.reduceBEq, Nat.reduceLT, Nat.reduceLeDiff, Nat.reduceEqDiff, Int.reduceLT, Int.reduceLE, Int.reduceEq, Int.reduceNe, Int.reduceToNat, Int.reduceAdd, Int.reduceSub, Int.reduceMul, Int.reducePow, Int.reduceDiv, Int.reduceMod, Int.reduceNeg, reduceCtorEq, codeKey, List.contains, List.elem, Ev.load, peek, pack, storeV, fieldAddr, field, cvB, rb_h h1, rb_s])
    all_goals exact res_eq
end Go.Proofs.YtmjdcoacmmmhnaaDoor
