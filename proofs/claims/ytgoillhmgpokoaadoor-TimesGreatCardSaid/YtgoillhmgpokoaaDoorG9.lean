/-
Div64.
-/
import Derived.Test.YtgoillhmgpokoaaDoorG6
import Derived.Test.YtgoillhmgpokoaaDoorEvBits
namespace Go.Proofs.YtgoillhmgpokoaaDoor
open Go Ev
set_option linter.all false
set_option maxHeartbeats 4000000
set_option maxRecDepth 5000
attribute [local irreducible] codeL condL loopL callL callV evOps evDraw rdK effK wayK oneK wayD oneD rdD effD chks chkB res

/-- The table of bit lengths. -/
def lenT (i : Int) : Int := if i < 1 then 0 else if i < 2 then 1 else if i < 4 then 2 else if i < 8 then 3 else if i < 16 then 4 else if i < 32 then 5 else if i < 64 then 6 else if i < 128 then 7 else 8
def tabOk (l : List UInt8) : Bool := (l.length == 256) && (List.range 256).all fun i => decide (((l.getD i 0).toNat : Int) = lenT i)
theorem tab_size (l : List UInt8) (h : tabOk l = true) : (bs l).size = 256 := by
  unfold tabOk at h
  simp only [Bool.and_eq_true, beq_iff_eq] at h
  rw [bs_size]; exact h.1
theorem tab_get (l : List UInt8) (h : tabOk l = true) (i : Int) (h0 : 0 ≤ i) (h1 : i < 256) : ((((bs l).data[i.toNat]?).getD 0).toNat : Int) = lenT i := by
  unfold tabOk at h
  simp only [Bool.and_eq_true, beq_iff_eq, List.all_eq_true, List.mem_range, decide_eq_true_eq] at h
  have := h.2 i.toNat (by omega)
  rw [bs_get, ← List.getD_eq_getElem?_getD, this, Int.toNat_of_nonneg h0]
theorem lenT_bounds (i : Int) : 0 ≤ lenT i ∧ lenT i ≤ 8 := by
  unfold lenT
  repeat' split
  all_goals omega
def len16 (x : Int) : Int := if 256 ≤ x then 8 + lenT (x / 256) else lenT x
def len32 (x : Int) : Int := if 65536 ≤ x then 16 + len16 (x / 65536) else len16 x
def len64 (x : Int) : Int := if 4294967296 ≤ x then 32 + len32 (x / 4294967296) else len32 x
theorem wl {i c : Int} (h0 : 0 ≤ c) (h1 : c ≤ 100) : IntKind.i64.wrap (c + IntKind.i64.wrap (lenT i)) = c + lenT i := by
  have := lenT_bounds i
  rw [w_i64 (n := lenT i) (by omega) (by omega), w_i64 (by omega) (by omega)]
theorem len64_cv (x : Int) (h0 : 0 ≤ x) (h1 : x ≤ 18446744073709551615) (H : Heap) : callV (CL lore) 59 [.int .u64 x] H = some (.int .i64 (len64 x), H) := by
  refine callV_ans (r := some _) ?_ (lore_shared 59) rfl H
  rw [call_start lore_ext59 Tryd.func59 rfl lore_okf59 (Nat.le_of_ble_eq_true rfl)]
  repeat' (first | (refine cond_by (F := ans) (fun _ => ?_) (fun _ => ?_)) | (refine wayK_by (F := ans) (fun _ hb_ => ?_) (fun _ hb_ => ?_) <;> simp only [hb_]) | (refine wayK_byN (F := ans) (fun _ hb_ => ?_) (fun _ hb_ => ?_) <;> simp only [hb_]) | (refine wayD_by (F := ans) (fun _ hb_ => ?_) (fun _ hb_ => ?_) <;> simp only [hb_]) | (refine wayD_byN (F := ans) (fun _ hb_ => ?_) (fun _ hb_ => ?_) <;> simp only [hb_]) | (refine rdK_by (F := ans) (fun _ => ?_) (fun _ => ?_)) | (refine effK_by (F := ans) (fun _ => ?_) (fun _ => ?_)) | (refine effK_by2 (F := ans) (fun _ => ?_) (fun _ => ?_)) | (refine rdD_by (F := ans) (fun _ => ?_) (fun _ => ?_)) | (refine effD_by (F := ans) (fun _ => ?_) (fun _ => ?_)) | (refine effD_by2 (F := ans) (fun _ => ?_) (fun _ => ?_)) | simp -implicitDefEqProofs (disch := first | omega | (simp only [List.length_append, List.length_cons, List.length_nil, List.length_drop, List.length_take]; omega)) only [evs, tys, lors, Nat.reduceAdd, Nat.reduceSub, Nat.reduceMul, Nat.reducePow, Nat.reduceBEq, Nat.reduceLT, Nat.reduceLeDiff, Nat.reduceEqDiff, Int.reduceLT, Int.reduceLE, Int.reduceEq, Int.reduceNe, Int.reduceToNat, Int.reduceAdd, Int.reduceSub, Int.reduceMul, Int.reducePow, Int.reduceDiv, Int.reduceMod, Int.reduceNeg, reduceCtorEq, codeKey, List.contains, List.elem, Ev.load, peek, pack, storeV, fieldAddr, field, cvB, bits1])
  all_goals first
    | (exfalso; rename_i h; rw [tab_size _ (by kernel_rfl)] at h; omega)
    | skip
  all_goals rw [tab_get _ (by kernel_rfl) _ (by omega) (by omega)]
  all_goals (unfold len64 len32 len16; (repeat (first | rw [if_pos (by assumption)] | rw [if_neg (by assumption)])); rw [wl (by decide) (by decide)]; try first | rfl | exact congrArg (fun z => some (V.int .i64 z)) (by omega))

theorem lenT_spec (i : Int) (h0 : 0 ≤ i) (h1 : i < 256) : i < 2 ^ (lenT i).toNat ∧ (0 < i → 2 ^ ((lenT i).toNat - 1) ≤ i) := by
  have : ∀ n : Nat, n < 256 → (n : Int) < 2 ^ (lenT (n : Int)).toNat ∧ (0 < (n : Int) → 2 ^ ((lenT (n : Int)).toNat - 1) ≤ (n : Int)) := by decide +kernel
  have := this i.toNat (by omega)
  rw [Int.toNat_of_nonneg h0] at this
  exact this
/-- From the length of x / 2^k to that of x. -/
theorem len_up {x : Int} {k l : Nat} (h0 : 0 ≤ x) (h1 : x / 2 ^ k < 2 ^ l) (h2 : 0 < x / 2 ^ k → 2 ^ (l - 1) ≤ x / 2 ^ k) (h3 : 0 < x / 2 ^ k) (h4 : 0 < l) : x < 2 ^ (k + l) ∧ 2 ^ (k + l - 1) ≤ x := by
  have hk : (0 : Int) < 2 ^ k := Int.pow_pos (by decide)
  have a := (Int.ediv_lt_iff_lt_mul hk).1 h1
  have b := (Int.le_ediv_iff_mul_le hk).1 (h2 h3)
  rw [← Int.pow_add] at a b
  rw [Nat.add_comm, show l + k - 1 = l - 1 + k by omega]
  exact ⟨a, b⟩
def LenIs (x l : Int) : Prop := 0 ≤ l ∧ x < 2 ^ l.toNat ∧ (0 < x → 0 < l ∧ 2 ^ (l.toNat - 1) ≤ x)
theorem lenIs_up {x l : Int} (k : Nat) (h0 : 0 < x / 2 ^ k) (hx : 0 ≤ x) (h : LenIs (x / 2 ^ k) l) : LenIs x (k + l) := by
  obtain ⟨a, b, c⟩ := h
  obtain ⟨d, e⟩ := c h0
  have := len_up (k := k) (l := l.toNat) hx b (fun _ => e) h0 (by omega)
  refine ⟨by omega, ?_, fun _ => ⟨by omega, ?_⟩⟩
  · rw [show ((k : Int) + l).toNat = k + l.toNat by omega]; exact this.1
  · rw [show ((k : Int) + l).toNat - 1 = k + l.toNat - 1 by omega]; exact this.2
theorem lenT_is (x : Int) (h0 : 0 ≤ x) (h1 : x < 256) : LenIs x (lenT x) := by
  have a := lenT_bounds x
  have b := lenT_spec x h0 h1
  refine ⟨a.1, b.1, fun h => ⟨?_, b.2 h⟩⟩
  have hb := b.1
  by_cases hz : lenT x = 0
  · rw [hz] at hb
    have : (2 : Int) ^ (0 : Int).toNat = 1 := rfl
    omega
  · omega
theorem len16_is (x : Int) (h0 : 0 ≤ x) (h1 : x < 65536) : LenIs x (len16 x) := by
  unfold len16
  split
  · exact lenIs_up 8 (show 0 < x / 256 by omega) h0 (lenT_is (x / 256) (by omega) (by omega))
  · exact lenT_is x h0 (by omega)
theorem len32_is (x : Int) (h0 : 0 ≤ x) (h1 : x < 4294967296) : LenIs x (len32 x) := by
  unfold len32
  split
  · exact lenIs_up 16 (show 0 < x / 65536 by omega) h0 (len16_is (x / 65536) (by omega) (by omega))
  · exact len16_is x h0 (by omega)
theorem len64_is (x : Int) (h0 : 0 ≤ x) (h1 : x < 18446744073709551616) : LenIs x (len64 x) := by
  unfold len64
  split
  · exact lenIs_up 32 (show 0 < x / 4294967296 by omega) h0 (len32_is (x / 4294967296) (by omega) (by omega))
  · exact len32_is x h0 (by omega)
theorem lead_cv (x : Int) (h0 : 0 ≤ x) (h1 : x ≤ 18446744073709551615) (hl : 0 ≤ len64 x ∧ len64 x ≤ 64) (H : Heap) : callV (CL lore) 57 [.int .u64 x] H = some (.int .i64 (64 - len64 x), H) := by
  refine callV_ans (r := some _) ?_ (lore_shared 57) rfl H
  rw [call_start lore_ext57 Tryd.func57 rfl lore_okf57 (Nat.le_of_ble_eq_true rfl)]
  repeat' (first | (refine cond_by (F := ans) (fun _ => ?_) (fun _ => ?_)) | (refine wayK_by (F := ans) (fun _ hb_ => ?_) (fun _ hb_ => ?_) <;> simp only [hb_]) | (refine wayK_byN (F := ans) (fun _ hb_ => ?_) (fun _ hb_ => ?_) <;> simp only [hb_]) | (refine wayD_by (F := ans) (fun _ hb_ => ?_) (fun _ hb_ => ?_) <;> simp only [hb_]) | (refine wayD_byN (F := ans) (fun _ hb_ => ?_) (fun _ hb_ => ?_) <;> simp only [hb_]) | (refine rdK_by (F := ans) (fun _ => ?_) (fun _ => ?_)) | (refine effK_by (F := ans) (fun _ => ?_) (fun _ => ?_)) | (refine effK_by2 (F := ans) (fun _ => ?_) (fun _ => ?_)) | (refine rdD_by (F := ans) (fun _ => ?_) (fun _ => ?_)) | (refine effD_by (F := ans) (fun _ => ?_) (fun _ => ?_)) | (refine effD_by2 (F := ans) (fun _ => ?_) (fun _ => ?_)) | simp -implicitDefEqProofs (disch := first | omega | (simp only [List.length_append, List.length_cons, List.length_nil, List.length_drop, List.length_take]; omega)) only [evs, tys, lors, Nat.reduceAdd, Nat.reduceSub, Nat.reduceMul, Nat.reducePow, Nat.reduceBEq, Nat.reduceLT, Nat.reduceLeDiff, Nat.reduceEqDiff, Int.reduceLT, Int.reduceLE, Int.reduceEq, Int.reduceNe, Int.reduceToNat, Int.reduceAdd, Int.reduceSub, Int.reduceMul, Int.reducePow, Int.reduceDiv, Int.reduceMod, Int.reduceNeg, reduceCtorEq, codeKey, List.contains, List.elem, Ev.load, peek, pack, storeV, fieldAddr, field, cvB, len64_cv])

/-! Knuth's digit. -/
theorem dig_init {u n1 n0 : Int} (h1 : 2147483648 ≤ n1) (h0 : 0 ≤ n0) (h0' : n0 < 4294967296) (hu0 : 0 ≤ u) (hu : u < n1 * 4294967296 + n0) : 0 ≤ u / n1 ∧ u / n1 ≤ 4294967297 := by
  refine ⟨Int.ediv_nonneg hu0 (by omega), ?_⟩
  have : u / n1 < 4294967298 := (Int.ediv_lt_iff_lt_mul (by omega)).2 (by omega)
  omega
theorem dig_le {u v n1 n0 q r Q : Int} (hn : 0 < n1 * 4294967296 + n0) (hQ : Q = (u * 4294967296 + v) / (n1 * 4294967296 + n0)) (hj : q * n1 + r = u) (h : q * n0 ≤ 4294967296 * r + v) : q ≤ Q := by
  rw [hQ, Int.le_ediv_iff_mul_le hn]
  have e : q * (n1 * 4294967296 + n0) = q * n1 * 4294967296 + q * n0 := by rw [Int.mul_add, Int.mul_assoc]
  rw [e]
  omega
theorem dig_gt {u v n1 n0 q r Q : Int} (hn : 0 < n1 * 4294967296 + n0) (hQ : Q = (u * 4294967296 + v) / (n1 * 4294967296 + n0)) (hj : q * n1 + r = u) (h : 4294967296 * r + v < q * n0) : Q < q := by
  rw [hQ, Int.ediv_lt_iff_lt_mul hn]
  have e : q * (n1 * 4294967296 + n0) = q * n1 * 4294967296 + q * n0 := by rw [Int.mul_add, Int.mul_assoc]
  rw [e]
  omega
theorem dig_top {u v n1 n0 Q : Int} (h1 : 2147483648 ≤ n1) (h0 : 0 ≤ n0) (hv : 0 ≤ v) (hv' : v < 4294967296) (hu0 : 0 ≤ u) (hu : u < n1 * 4294967296 + n0) (hQ : Q = (u * 4294967296 + v) / (n1 * 4294967296 + n0)) : 0 ≤ Q ∧ Q < 4294967296 := by
  refine ⟨by rw [hQ]; exact Int.ediv_nonneg (by omega) (by omega), ?_⟩
  rw [hQ, Int.ediv_lt_iff_lt_mul (by omega)]
  omega
theorem dig_start {u v n1 n0 Q : Int} (h1 : 2147483648 ≤ n1) (h0 : 0 ≤ n0) (hv : 0 ≤ v) (hv' : v < 4294967296) (hu0 : 0 ≤ u) (hQ : Q = (u * 4294967296 + v) / (n1 * 4294967296 + n0)) : Q ≤ u / n1 := by
  rw [Int.le_ediv_iff_mul_le (by omega)]
  have hn : 0 < n1 * 4294967296 + n0 := by omega
  have hd := Int.mul_ediv_add_emod (u * 4294967296 + v) (n1 * 4294967296 + n0)
  have hm := Int.emod_nonneg (u * 4294967296 + v) (show n1 * 4294967296 + n0 ≠ 0 by omega)
  rw [← hQ] at hd
  have hQ0 : 0 ≤ Q := by rw [hQ]; exact Int.ediv_nonneg (by omega) (by omega)
  have e : (n1 * 4294967296 + n0) * Q = Q * n1 * 4294967296 + Q * n0 := by rw [Int.mul_comm, Int.mul_add, Int.mul_assoc]
  have h3 : 0 ≤ Q * n0 := Int.mul_nonneg hQ0 h0
  omega

theorem loop52_17 (K : Kont) (R : Option V) (a : Code) (ha : loopIn Tryd.prog 52 17 = some a) (y s n1 n0 u v Q w : Int) (h1 : 2147483648 ≤ n1) (h1' : n1 < 4294967296) (h0 : 0 ≤ n0) (h0' : n0 < 4294967296) (hv : 0 ≤ v) (hv' : v < 4294967296) (hu0 : 0 ≤ u) (hu : u < n1 * 4294967296 + n0) (hQ : Q = (u * 4294967296 + v) / (n1 * 4294967296 + n0))
    (hR : ∀ r H', ans (K (.exit 0) (Sl 135 .wild [(2, .int .u64 y), (8, .int .u64 s), (9, .int .u64 n1), (10, .int .u64 n0), (11, .int .u64 u), (13, .int .u64 v), (14, .int .u64 w), (15, .int .u64 Q), (16, .int .u64 r)]) H') = R) :
    ∀ (m : Nat) (q r : Int) (H : Heap), q.toNat = m → 0 ≤ q → q ≤ 4294967297 → q * n1 + r = u → Q ≤ q → 0 ≤ r → r < 4294967296 →
    ans (loopL lore 52 a (Sl 135 .wild [(2, .int .u64 y), (8, .int .u64 s), (9, .int .u64 n1), (10, .int .u64 n0), (11, .int .u64 u), (13, .int .u64 v), (14, .int .u64 w), (15, .int .u64 q), (16, .int .u64 r)]) H K) = R := by
  have hk := loop_key ha
  simp only [loopIn, Tryd.func52, Tryd.f52, loopAt, Option.bind_some, codeKey, if_true, Option.some.injEq, Nat.reduceEqDiff, if_false] at ha
  intro m
  induction m using Nat.strongRecOn with
  | _ m ih =>
  intro q r H hm hq0 hq1 hj hqQ hr0 hr1
  have hn : 0 < n1 * 4294967296 + n0 := by omega
  have stay := fun h => dig_le (v := v) (Q := Q) hn hQ hj h
  have go := fun h => dig_gt (v := v) (Q := Q) hn hQ hj h
  have top := dig_top h1 h0 hv hv' hu0 hu hQ
  have hqn0 : 0 ≤ q * n0 := Int.mul_nonneg hq0 h0
  have hqn1 : q * n0 ≤ 4294967297 * 4294967295 := Int.mul_le_mul (by omega) (by omega) h0 (by omega)
  have hstep : (q - 1) * n1 + (r + n1) = u := by rw [Int.sub_mul]; omega
  have brk : 1 ≤ q → 4294967296 ≤ r + n1 → q - 1 ≤ Q := fun hq h => dig_le (v := v) (Q := Q) hn hQ hstep (by
    have : (q - 1) * n0 ≤ 4294967296 * 4294967295 := Int.mul_le_mul (by omega) (by omega) h0 (by omega)
    omega)
  rw [loopL_step' ha]
  repeat' (first | (refine cond_by (F := ans) (fun _ => ?_) (fun _ => ?_)) | (refine wayK_by (F := ans) (fun _ hb_ => ?_) (fun _ hb_ => ?_) <;> simp only [hb_]) | (refine wayK_byN (F := ans) (fun _ hb_ => ?_) (fun _ hb_ => ?_) <;> simp only [hb_]) | (refine wayD_by (F := ans) (fun _ hb_ => ?_) (fun _ hb_ => ?_) <;> simp only [hb_]) | (refine wayD_byN (F := ans) (fun _ hb_ => ?_) (fun _ hb_ => ?_) <;> simp only [hb_]) | (refine rdK_by (F := ans) (fun _ => ?_) (fun _ => ?_)) | (refine effK_by (F := ans) (fun _ => ?_) (fun _ => ?_)) | (refine effK_by2 (F := ans) (fun _ => ?_) (fun _ => ?_)) | (refine rdD_by (F := ans) (fun _ => ?_) (fun _ => ?_)) | (refine effD_by (F := ans) (fun _ => ?_) (fun _ => ?_)) | (refine effD_by2 (F := ans) (fun _ => ?_) (fun _ => ?_)) | simp -implicitDefEqProofs (disch := first | omega | (simp only [List.length_append, List.length_cons, List.length_nil, List.length_drop, List.length_take]; omega)) only [evs, tys, lors, Nat.reduceAdd, Nat.reduceSub, Nat.reduceMul, Nat.reducePow, Nat.reduceBEq, Nat.reduceLT, Nat.reduceLeDiff, Nat.reduceEqDiff, Int.reduceLT, Int.reduceLE, Int.reduceEq, Int.reduceNe, Int.reduceToNat, Int.reduceAdd, Int.reduceSub, Int.reduceMul, Int.reducePow, Int.reduceDiv, Int.reduceMod, Int.reduceNeg, reduceCtorEq, codeKey, List.contains, List.elem, Ev.load, peek, pack, storeV, fieldAddr, field, cvB, hk])
  all_goals first
    | (exact ih _ (by omega) (q - 1) (r + n1) H rfl (by omega) (by omega) hstep (by omega) (by omega) (by omega))
    | (rw [show q - 1 = Q by omega]; exact hR _ _)
    | (rw [show q = Q by omega]; exact hR _ _)

theorem loop52_24 (K : Kont) (R : Option V) (a : Code) (ha : loopIn Tryd.prog 52 24 = some a) (y s n1 n0 u v Q w : Int) (h1 : 2147483648 ≤ n1) (h1' : n1 < 4294967296) (h0 : 0 ≤ n0) (h0' : n0 < 4294967296) (hv : 0 ≤ v) (hv' : v < 4294967296) (hu0 : 0 ≤ u) (hu : u < n1 * 4294967296 + n0) (hQ : Q = (u * 4294967296 + v) / (n1 * 4294967296 + n0))
    (hR : ∀ r H', ans (K (.exit 2) (Sl 135 .wild [(2, .int .u64 y), (8, .int .u64 s), (9, .int .u64 n1), (10, .int .u64 n0), (14, .int .u64 v), (15, .int .u64 w), (16, .int .u64 r), (17, .int .u64 u), (18, .int .u64 Q)]) H') = R) :
    ∀ (m : Nat) (q r : Int) (H : Heap), q.toNat = m → 0 ≤ q → q ≤ 4294967297 → q * n1 + r = u → Q ≤ q → 0 ≤ r → r < 4294967296 →
    ans (loopL lore 52 a (Sl 135 .wild [(2, .int .u64 y), (8, .int .u64 s), (9, .int .u64 n1), (10, .int .u64 n0), (14, .int .u64 v), (15, .int .u64 w), (16, .int .u64 r), (17, .int .u64 u), (18, .int .u64 q)]) H K) = R := by
  have hk := loop_key ha
  simp only [loopIn, Tryd.func52, Tryd.f52, loopAt, Option.bind_some, codeKey, if_true, Option.some.injEq, Nat.reduceEqDiff, if_false] at ha
  intro m
  induction m using Nat.strongRecOn with
  | _ m ih =>
  intro q r H hm hq0 hq1 hj hqQ hr0 hr1
  have hn : 0 < n1 * 4294967296 + n0 := by omega
  have stay := fun h => dig_le (v := v) (Q := Q) hn hQ hj h
  have go := fun h => dig_gt (v := v) (Q := Q) hn hQ hj h
  have top := dig_top h1 h0 hv hv' hu0 hu hQ
  have hqn0 : 0 ≤ q * n0 := Int.mul_nonneg hq0 h0
  have hqn1 : q * n0 ≤ 4294967297 * 4294967295 := Int.mul_le_mul (by omega) (by omega) h0 (by omega)
  have hstep : (q - 1) * n1 + (r + n1) = u := by rw [Int.sub_mul]; omega
  have brk : 1 ≤ q → 4294967296 ≤ r + n1 → q - 1 ≤ Q := fun hq h => dig_le (v := v) (Q := Q) hn hQ hstep (by
    have : (q - 1) * n0 ≤ 4294967296 * 4294967295 := Int.mul_le_mul (by omega) (by omega) h0 (by omega)
    omega)
  rw [loopL_step' ha]
  repeat' (first | (refine cond_by (F := ans) (fun _ => ?_) (fun _ => ?_)) | (refine wayK_by (F := ans) (fun _ hb_ => ?_) (fun _ hb_ => ?_) <;> simp only [hb_]) | (refine wayK_byN (F := ans) (fun _ hb_ => ?_) (fun _ hb_ => ?_) <;> simp only [hb_]) | (refine wayD_by (F := ans) (fun _ hb_ => ?_) (fun _ hb_ => ?_) <;> simp only [hb_]) | (refine wayD_byN (F := ans) (fun _ hb_ => ?_) (fun _ hb_ => ?_) <;> simp only [hb_]) | (refine rdK_by (F := ans) (fun _ => ?_) (fun _ => ?_)) | (refine effK_by (F := ans) (fun _ => ?_) (fun _ => ?_)) | (refine effK_by2 (F := ans) (fun _ => ?_) (fun _ => ?_)) | (refine rdD_by (F := ans) (fun _ => ?_) (fun _ => ?_)) | (refine effD_by (F := ans) (fun _ => ?_) (fun _ => ?_)) | (refine effD_by2 (F := ans) (fun _ => ?_) (fun _ => ?_)) | simp -implicitDefEqProofs (disch := first | omega | (simp only [List.length_append, List.length_cons, List.length_nil, List.length_drop, List.length_take]; omega)) only [evs, tys, lors, Nat.reduceAdd, Nat.reduceSub, Nat.reduceMul, Nat.reducePow, Nat.reduceBEq, Nat.reduceLT, Nat.reduceLeDiff, Nat.reduceEqDiff, Int.reduceLT, Int.reduceLE, Int.reduceEq, Int.reduceNe, Int.reduceToNat, Int.reduceAdd, Int.reduceSub, Int.reduceMul, Int.reducePow, Int.reduceDiv, Int.reduceMod, Int.reduceNeg, reduceCtorEq, codeKey, List.contains, List.elem, Ev.load, peek, pack, storeV, fieldAddr, field, cvB, hk])
  all_goals first
    | (exact ih _ (by omega) (q - 1) (r + n1) H rfl (by omega) (by omega) hstep (by omega) (by omega) (by omega))
    | (rw [show q - 1 = Q by omega]; exact hR _ _)
    | (rw [show q = Q by omega]; exact hR _ _)

theorem div_fin {N y p q W : Int} (hp : 0 < p) (hy : 0 < y) (h : N * p = q * (y * p) + W) (h0 : 0 ≤ W) (h1 : W < y * p) : N / y = q ∧ N % y = W / p := by
  have e : W = (N - q * y) * p := by rw [Int.sub_mul, Int.mul_assoc]; omega
  have h2 : 0 ≤ N - q * y := by
    rcases Int.lt_or_le (N - q * y) 0 with hh | hh
    · exfalso
      have := Int.mul_le_mul_of_nonneg_right (show N - q * y ≤ -1 by omega) (show 0 ≤ p by omega)
      rw [← e] at this
      omega
    · exact hh
  have h3 : N - q * y < y := by
    rw [e] at h1
    exact Int.lt_of_mul_lt_mul_right h1 (by omega)
  have h4 : W / p = N - q * y := by rw [e]; exact Int.mul_ediv_cancel _ (by omega)
  have h5 : N = (N - q * y) + q * y := by omega
  refine ⟨?_, ?_⟩
  · rw [h5, Int.add_mul_ediv_right _ _ (by omega), Int.ediv_eq_zero_of_lt h2 h3, Int.zero_add]
  · rw [h4]
    conv => lhs; rw [h5]
    rw [Int.add_mul_emod_self_right, Int.emod_eq_of_lt h2 h3]
/-- The dividend and the divisor, brought up. -/
theorem norm_up {hi lo y : Int} (h0 : 0 < hi) (h1 : hi < y) (h2 : y ≤ 2305843009213693952) (l0 : 0 ≤ lo) (l1 : lo < 18446744073709551616) : ∃ (s : Nat), s ≤ 64 ∧ (len64 y = 64 - (s : Int)) ∧ 0 < s ∧ s < 64 ∧ 9223372036854775808 ≤ y * 2 ^ s ∧ y * 2 ^ s < 18446744073709551616 ∧
    0 ≤ hi * 2 ^ s ∧ hi * 2 ^ s ≤ y * 2 ^ s ∧ orI .u64 (hi * 2 ^ s) (lo / 2 ^ (64 - s)) = hi * 2 ^ s + lo / 2 ^ (64 - s) ∧ 0 ≤ lo / 2 ^ (64 - s) ∧ hi * 2 ^ s + lo / 2 ^ (64 - s) < y * 2 ^ s ∧
    (hi * 18446744073709551616 + lo) * 2 ^ s = (hi * 2 ^ s + lo / 2 ^ (64 - s)) * 18446744073709551616 + lo * 2 ^ s % 18446744073709551616 := by
  obtain ⟨a, b, c⟩ := len64_is y (by omega) (by omega)
  obtain ⟨d, e⟩ := c (by omega)
  generalize hl : len64 y = l at *
  obtain ⟨k, rfl⟩ : ∃ k : Nat, l = (k : Int) := ⟨l.toNat, by omega⟩
  rw [Int.toNat_natCast] at b e
  have hk : k ≤ 62 := by
    rcases Nat.lt_or_ge 62 k with hh | hh
    · exfalso
      have : (2 : Int) ^ 62 ≤ 2 ^ (k - 1) := by
        have := Nat.pow_le_pow_right (show 0 < 2 by decide) (show 62 ≤ k - 1 by omega)
        exact_mod_cast this
      have h62 : (2 : Int) ^ 62 = 4611686018427387904 := by decide
      omega
    · exact hh
  have hp : (0 : Int) < 2 ^ (64 - k) := Int.pow_pos (by decide)
  have hq : (0 : Int) < 2 ^ k := Int.pow_pos (by decide)
  have e1 : (2 : Int) ^ (k - 1) * 2 ^ (64 - k) = 9223372036854775808 := by
    rw [← Int.pow_add, show k - 1 + (64 - k) = 63 by omega]; decide
  have e2 : (2 : Int) ^ k * 2 ^ (64 - k) = 18446744073709551616 := by
    rw [← Int.pow_add, show k + (64 - k) = 64 by omega]; decide
  have f1 := Int.mul_le_mul_of_nonneg_right e (show (0 : Int) ≤ 2 ^ (64 - k) by omega)
  have f2 := Int.mul_lt_mul_of_pos_right b hp
  have f3 := Int.mul_le_mul_of_nonneg_right (show hi + 1 ≤ y by omega) (show (0 : Int) ≤ 2 ^ (64 - k) by omega)
  rw [Int.add_mul, Int.one_mul] at f3
  have f4 : 0 ≤ hi * 2 ^ (64 - k) := Int.mul_nonneg (by omega) (by omega)
  have f5 : 0 ≤ lo / 2 ^ k := Int.ediv_nonneg l0 (by omega)
  have f6 : lo / 2 ^ k < 2 ^ (64 - k) := (Int.ediv_lt_iff_lt_mul hq).2 (by rw [Int.mul_comm, e2]; exact l1)
  have f7 : lo * 2 ^ (64 - k) / 18446744073709551616 = lo / 2 ^ k := by
    rw [← e2]; exact Int.mul_ediv_mul_of_pos_left _ _ hp
  have f8 := Int.mul_ediv_add_emod (lo * 2 ^ (64 - k)) 18446744073709551616
  refine ⟨64 - k, by omega, by omega, by omega, by omega, by omega, by omega, f4, by omega, ?_, ?_, ?_, ?_⟩
  · rw [show 64 - (64 - k) = k by omega]
    obtain ⟨h', rfl⟩ : ∃ h' : Nat, hi = (h' : Int) := ⟨hi.toNat, by omega⟩
    obtain ⟨o', rfl⟩ : ∃ o' : Nat, lo = (o' : Int) := ⟨lo.toNat, by omega⟩
    have g1 : (h' : Int) * 2 ^ (64 - k) = ((h' * 2 ^ (64 - k) : Nat) : Int) := by simp
    have g2 : (o' : Int) / 2 ^ k = ((o' / 2 ^ k : Nat) : Int) := by simp
    have g3 : (2 : Int) ^ (64 - k) = ((2 ^ (64 - k) : Nat) : Int) := by simp
    have b1 : h' * 2 ^ (64 - k) < 2 ^ 64 := by
      have : (h' : Int) * 2 ^ (64 - k) < 18446744073709551616 := by omega
      rw [g1] at this
      omega
    have b2 : o' / 2 ^ k < 2 ^ (64 - k) := by
      have := f6
      rw [g2, g3] at this
      exact Int.ofNat_lt.1 this
    have b3 : 2 ^ (64 - k) ≤ 2 ^ 64 := Nat.pow_le_pow_right (by decide) (by omega)
    rw [g1, g2, orI_natU b1 (Nat.lt_of_lt_of_le b2 b3), or_apart b2]
    rfl
  · rw [show 64 - (64 - k) = k by omega]; exact f5
  · rw [show 64 - (64 - k) = k by omega]; omega
  · rw [show 64 - (64 - k) = k by omega, Int.add_mul, Int.add_mul, ← f7]
    rw [show hi * 18446744073709551616 * 2 ^ (64 - k) = hi * 2 ^ (64 - k) * 18446744073709551616 by rw [Int.mul_assoc, Int.mul_comm 18446744073709551616, ← Int.mul_assoc]]
    omega

theorem dig_rest {u v n1 n0 Q : Int} (h1 : 2147483648 ≤ n1) (h0 : 0 ≤ n0) (hQ : Q = (u * 4294967296 + v) / (n1 * 4294967296 + n0)) : 0 ≤ u * 4294967296 + v - Q * (n1 * 4294967296 + n0) ∧ u * 4294967296 + v - Q * (n1 * 4294967296 + n0) < n1 * 4294967296 + n0 := by
  have hd := Int.mul_ediv_add_emod (u * 4294967296 + v) (n1 * 4294967296 + n0)
  have hm := Int.emod_nonneg (u * 4294967296 + v) (show n1 * 4294967296 + n0 ≠ 0 by omega)
  have hl := Int.emod_lt_of_pos (u * 4294967296 + v) (show 0 < n1 * 4294967296 + n0 by omega)
  rw [← hQ, Int.mul_comm] at hd
  omega
theorem wrap_rest {a b c W : Int} (h : a + b - c = W) (h0 : 0 ≤ W) (h1 : W < 18446744073709551616) : IntKind.u64.wrap (IntKind.u64.wrap (IntKind.u64.wrap a + b) - IntKind.u64.wrap c) = W := by
  rw [IntKind.wrap_u64, IntKind.wrap_u64, IntKind.wrap_u64, IntKind.wrap_u64]
  omega
theorem div64_cv (hi lo y : Int) (h0 : 0 < hi) (h1 : hi < y) (h2 : y ≤ 2305843009213693952) (l0 : 0 ≤ lo) (l1 : lo < 18446744073709551616) (H : Heap) :
    callV (CL lore) 52 [.int .u64 hi, .int .u64 lo, .int .u64 y] H = some (.tup [.int .u64 ((hi * 18446744073709551616 + lo) / y), .int .u64 ((hi * 18446744073709551616 + lo) % y)], H) := by
  refine callV_ans (r := some _) ?_ (lore_shared 52) rfl H
  rw [call_start lore_ext52 Tryd.func52 rfl lore_okf52 (Nat.le_of_ble_eq_true rfl)]
  obtain ⟨s, s64, hs, s0, s1, y0, y1, a0, a1, hor, o0, hu, hN⟩ := norm_up h0 h1 h2 l0 l1
  have hlead := fun H => lead_cv y (by omega) (by omega) (by omega) H
  rw [hs, show (64 : Int) - (64 - (s : Int)) = (s : Int) by omega] at hlead
  have hcs : (64 : Int) - (s : Int) = ((64 - s : Nat) : Int) := by omega
  have hp : (0 : Int) < 2 ^ s := Int.pow_pos (by decide)
  have hZ : IntKind.u64.wrap (lo * 2 ^ s) = lo * 2 ^ s % 18446744073709551616 := by rw [IntKind.wrap_u64]
  have hz0 := Int.emod_nonneg (lo * 2 ^ s) (show (18446744073709551616 : Int) ≠ 0 by decide)
  have hz1 := Int.emod_lt_of_pos (lo * 2 ^ s) (show (0 : Int) < 18446744073709551616 by decide)
  generalize lo * 2 ^ s % 18446744073709551616 = Z at *
  generalize hUe : hi * 2 ^ s + lo / 2 ^ (64 - s) = U at *
  generalize hYe : y * 2 ^ s = Y at *
  generalize hAe : hi * 2 ^ s = A at *
  have hU0 : 0 ≤ U := by omega
  have n1 : 2147483648 ≤ Y / 4294967296 := by omega
  have n1' : Y / 4294967296 < 4294967296 := by omega
  have e : Y = Y / 4294967296 * 4294967296 + Y % 4294967296 := by omega
  obtain ⟨Q1, hQ1⟩ : ∃ Q, Q = (U * 4294967296 + Z / 4294967296) / (Y / 4294967296 * 4294967296 + Y % 4294967296) := ⟨_, rfl⟩
  have r1 := dig_rest n1 (by omega) hQ1
  have t1 := dig_top n1 (by omega) (show 0 ≤ Z / 4294967296 by omega) (by omega) hU0 (by omega) hQ1
  have st1 := dig_start n1 (by omega) (show 0 ≤ Z / 4294967296 by omega) (by omega) hU0 hQ1
  have in1 := dig_init (u := U) n1 (show 0 ≤ Y % 4294967296 by omega) (by omega) hU0 (by omega)
  have dm1 := Int.mul_ediv_add_emod U (Y / 4294967296)
  have dn1 := Int.emod_nonneg U (show Y / 4294967296 ≠ 0 by omega)
  have dl1 := Int.emod_lt_of_pos U (show 0 < Y / 4294967296 by omega)
  rw [Int.mul_comm] at dm1
  have qm1 := Int.mul_nonneg in1.1 (show 0 ≤ Y / 4294967296 by omega)
  rw [← e] at r1
  obtain ⟨W1, hW1⟩ : ∃ W, W = U * 4294967296 + Z / 4294967296 - Q1 * Y := ⟨_, rfl⟩
  rw [← hW1] at r1
  have wr1 := wrap_rest hW1.symm r1.1 (by omega)
  obtain ⟨Q0, hQ0⟩ : ∃ Q, Q = (W1 * 4294967296 + Z % 4294967296) / (Y / 4294967296 * 4294967296 + Y % 4294967296) := ⟨_, rfl⟩
  have r0 := dig_rest n1 (by omega) hQ0
  have t0 := dig_top n1 (by omega) (show 0 ≤ Z % 4294967296 by omega) (by omega) r1.1 (by omega) hQ0
  have st0 := dig_start n1 (by omega) (show 0 ≤ Z % 4294967296 by omega) (by omega) r1.1 hQ0
  have in0 := dig_init (u := W1) n1 (show 0 ≤ Y % 4294967296 by omega) (by omega) r1.1 (by omega)
  have dm0 := Int.mul_ediv_add_emod W1 (Y / 4294967296)
  have dn0 := Int.emod_nonneg W1 (show Y / 4294967296 ≠ 0 by omega)
  have dl0 := Int.emod_lt_of_pos W1 (show 0 < Y / 4294967296 by omega)
  rw [Int.mul_comm] at dm0
  have qm0 := Int.mul_nonneg in0.1 (show 0 ≤ Y / 4294967296 by omega)
  rw [← e] at r0
  obtain ⟨W0, hW0⟩ : ∃ W, W = W1 * 4294967296 + Z % 4294967296 - Q0 * Y := ⟨_, rfl⟩
  rw [← hW0] at r0
  have wr0 := wrap_rest hW0.symm r0.1 (by omega)
  have fin := div_fin (N := hi * 18446744073709551616 + lo) (y := y) (q := Q1 * 4294967296 + Q0) (W := W0) hp (by omega) (by
    rw [hN, hYe, Int.add_mul, Int.mul_right_comm]
    omega) r0.1 (by omega)
  rw [fin.1, fin.2]
  repeat' (first | (refine cond_by (F := ans) (fun _ => ?_) (fun _ => ?_)) | (refine wayK_by (F := ans) (fun _ hb_ => ?_) (fun _ hb_ => ?_) <;> simp only [hb_]) | (refine wayK_byN (F := ans) (fun _ hb_ => ?_) (fun _ hb_ => ?_) <;> simp only [hb_]) | (refine wayD_by (F := ans) (fun _ hb_ => ?_) (fun _ hb_ => ?_) <;> simp only [hb_]) | (refine wayD_byN (F := ans) (fun _ hb_ => ?_) (fun _ hb_ => ?_) <;> simp only [hb_]) | (refine rdK_by (F := ans) (fun _ => ?_) (fun _ => ?_)) | (refine effK_by (F := ans) (fun _ => ?_) (fun _ => ?_)) | (refine effK_by2 (F := ans) (fun _ => ?_) (fun _ => ?_)) | (refine rdD_by (F := ans) (fun _ => ?_) (fun _ => ?_)) | (refine effD_by (F := ans) (fun _ => ?_) (fun _ => ?_)) | (refine effD_by2 (F := ans) (fun _ => ?_) (fun _ => ?_)) | simp -implicitDefEqProofs (disch := first | omega | (simp only [List.length_append, List.length_cons, List.length_nil, List.length_drop, List.length_take]; omega)) only [evs, tys, lors, Nat.reduceAdd, Nat.reduceSub, Nat.reduceMul, Nat.reducePow, Nat.reduceBEq, Nat.reduceLT, Nat.reduceLeDiff, Nat.reduceEqDiff, Int.reduceLT, Int.reduceLE, Int.reduceEq, Int.reduceNe, Int.reduceToNat, Int.reduceAdd, Int.reduceSub, Int.reduceMul, Int.reducePow, Int.reduceDiv, Int.reduceMod, Int.reduceNeg, reduceCtorEq, codeKey, List.contains, List.elem, Ev.load, peek, pack, storeV, fieldAddr, field, cvB, hlead, bits1, hcs, hYe, hAe, hZ, hor])
  any_goals (exfalso; omega)
  refine loop52_17 _ _ _ (by rfl) Y s _ _ U _ Q1 _ n1 n1' (by omega) (by omega) (by omega) (by omega) hU0 (by omega) hQ1 (fun r' H' => ?_) _ _ _ _ rfl in1.1 in1.2 (by omega) st1 (by omega) (by omega)
  repeat' (first | (refine cond_by (F := ans) (fun _ => ?_) (fun _ => ?_)) | (refine wayK_by (F := ans) (fun _ hb_ => ?_) (fun _ hb_ => ?_) <;> simp only [hb_]) | (refine wayK_byN (F := ans) (fun _ hb_ => ?_) (fun _ hb_ => ?_) <;> simp only [hb_]) | (refine wayD_by (F := ans) (fun _ hb_ => ?_) (fun _ hb_ => ?_) <;> simp only [hb_]) | (refine wayD_byN (F := ans) (fun _ hb_ => ?_) (fun _ hb_ => ?_) <;> simp only [hb_]) | (refine rdK_by (F := ans) (fun _ => ?_) (fun _ => ?_)) | (refine effK_by (F := ans) (fun _ => ?_) (fun _ => ?_)) | (refine effK_by2 (F := ans) (fun _ => ?_) (fun _ => ?_)) | (refine rdD_by (F := ans) (fun _ => ?_) (fun _ => ?_)) | (refine effD_by (F := ans) (fun _ => ?_) (fun _ => ?_)) | (refine effD_by2 (F := ans) (fun _ => ?_) (fun _ => ?_)) | simp -implicitDefEqProofs (disch := first | omega | (simp only [List.length_append, List.length_cons, List.length_nil, List.length_drop, List.length_take]; omega)) only [evs, tys, lors, Nat.reduceAdd, Nat.reduceSub, Nat.reduceMul, Nat.reducePow, Nat.reduceBEq, Nat.reduceLT, Nat.reduceLeDiff, Nat.reduceEqDiff, Int.reduceLT, Int.reduceLE, Int.reduceEq, Int.reduceNe, Int.reduceToNat, Int.reduceAdd, Int.reduceSub, Int.reduceMul, Int.reducePow, Int.reduceDiv, Int.reduceMod, Int.reduceNeg, reduceCtorEq, codeKey, List.contains, List.elem, Ev.load, peek, pack, storeV, fieldAddr, field, cvB, wr1])
  refine loop52_24 _ _ _ (by rfl) Y s _ _ W1 _ Q0 _ n1 n1' (by omega) (by omega) (by omega) (by omega) r1.1 (by omega) hQ0 (fun r' H' => ?_) _ _ _ _ rfl in0.1 in0.2 (by omega) st0 (by omega) (by omega)
  repeat' (first | (refine cond_by (F := ans) (fun _ => ?_) (fun _ => ?_)) | (refine wayK_by (F := ans) (fun _ hb_ => ?_) (fun _ hb_ => ?_) <;> simp only [hb_]) | (refine wayK_byN (F := ans) (fun _ hb_ => ?_) (fun _ hb_ => ?_) <;> simp only [hb_]) | (refine wayD_by (F := ans) (fun _ hb_ => ?_) (fun _ hb_ => ?_) <;> simp only [hb_]) | (refine wayD_byN (F := ans) (fun _ hb_ => ?_) (fun _ hb_ => ?_) <;> simp only [hb_]) | (refine rdK_by (F := ans) (fun _ => ?_) (fun _ => ?_)) | (refine effK_by (F := ans) (fun _ => ?_) (fun _ => ?_)) | (refine effK_by2 (F := ans) (fun _ => ?_) (fun _ => ?_)) | (refine rdD_by (F := ans) (fun _ => ?_) (fun _ => ?_)) | (refine effD_by (F := ans) (fun _ => ?_) (fun _ => ?_)) | (refine effD_by2 (F := ans) (fun _ => ?_) (fun _ => ?_)) | simp -implicitDefEqProofs (disch := first | omega | (simp only [List.length_append, List.length_cons, List.length_nil, List.length_drop, List.length_take]; omega)) only [evs, tys, lors, Nat.reduceAdd, Nat.reduceSub, Nat.reduceMul, Nat.reducePow, Nat.reduceBEq, Nat.reduceLT, Nat.reduceLeDiff, Nat.reduceEqDiff, Int.reduceLT, Int.reduceLE, Int.reduceEq, Int.reduceNe, Int.reduceToNat, Int.reduceAdd, Int.reduceSub, Int.reduceMul, Int.reducePow, Int.reduceDiv, Int.reduceMod, Int.reduceNeg, reduceCtorEq, codeKey, List.contains, List.elem, Ev.load, peek, pack, storeV, fieldAddr, field, cvB, wr0, bits1])
  all_goals trace_state
  all_goals sorry
end Go.Proofs.YtgoillhmgpokoaaDoor
