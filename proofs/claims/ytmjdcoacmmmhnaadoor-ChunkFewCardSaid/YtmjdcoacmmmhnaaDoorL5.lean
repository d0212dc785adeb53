/-
ChunkFew returns true.
-/
import Derived.Test.YtmjdcoacmmmhnaaDoorL1
namespace Go.Proofs.YtmjdcoacmmmhnaaDoor
open Go Ev
set_option linter.all false
set_option maxHeartbeats 4000000
set_option maxRecDepth 5000
attribute [local irreducible] codeL condL loopL callL callV evOps evDraw rdK effK wayK oneK wayD oneD rdD effD chks chkB res

def sq (a st : Int) (v : Nat) : Nat → Nat → List (Int × Nat)
  | _, 0 => []
  | k, m + 1 => (a + (k : Int) * st, v) :: sq a st v (k + 1) m
theorem sq_len (a st : Int) (v : Nat) : ∀ m k, (sq a st v k m).length = m
  | 0, k => rfl
  | m + 1, k => by rw [sq, List.length_cons, sq_len a st v m]
theorem sq_snoc (a st : Int) (v : Nat) : ∀ m k, sq a st v k (m + 1) = sq a st v k m ++ [(a + ((k + m : Nat) : Int) * st, v)]
  | 0, k => rfl
  | m + 1, k => by
    rw [sq, sq_snoc a st v m (k + 1), sq, List.cons_append, show k + 1 + m = k + (m + 1) by omega]
theorem sq_mem (a st : Int) (v : Nat) : ∀ (m k : Nat) (p : Int × Nat), p ∈ sq a st v k m → ∃ i : Nat, i < k + m ∧ p = (a + (i : Int) * st, v)
  | 0, k, p, h => by simp [sq] at h
  | m + 1, k, p, h => by
    rw [sq, List.mem_cons] at h
    rcases h with rfl | h
    · exact ⟨k, by omega, rfl⟩
    · obtain ⟨i, h1, h2⟩ := sq_mem a st v m (k + 1) p h
      exact ⟨i, by omega, h2⟩
theorem flt_sq (a st : Int) (v : Nat) (hst : 1 ≤ st) : ∀ (m k j : Nat) (x : Int), x < a + (k : Int) * st → flt x j (sq a st v k m) = none
  | 0, k, j, x, h => rfl
  | m + 1, k, j, x, h => by
    rw [sq, flt]
    have e : ¬ (a + (k : Int) * st) ≤ x := by omega
    rw [if_neg e]
    refine flt_sq a st v hst m (k + 1) _ _ ?_
    have : (((k + 1 : Nat) : Int)) * st = (k : Int) * st + st := by rw [Int.natCast_add, Int.add_mul]; simp
    omega
theorem encL_sq (a st : Int) (v : Nat) (hst : 1 ≤ st ∧ st < 18446744073709551616) : ∀ (m k : Nat) (s : ES), 2 ≤ s.i → s.at_ = a + (k : Int) * st → s.step = st → s.value = vbN v → (encL vbN s (sq a st v (k + 1) m)).length = 2 * m
  | 0, k, s, _, _, _, _ => rfl
  | m + 1, k, s, h1, h2, h3, h4 => by
    obtain ⟨i, at_, sst, val, f⟩ := s
    simp only at h1 h2 h3 h4
    subst h2 h3 h4
    obtain ⟨j, rfl⟩ : ∃ j, i = j + 2 := ⟨i - 2, by omega⟩
    have e1 : (((k + 1 : Nat) : Int)) * sst = (k : Int) * sst + sst := by rw [Int.natCast_add, Int.add_mul]; simp
    have e2 : (a + ((k + 1 : Nat) : Int) * sst - (a + (k : Int) * sst)) % 18446744073709551616 = sst := by rw [e1]; omega
    have ih := encL_sq a sst v hst m (k + 1) (encPt ⟨j + 2, a + (k : Int) * sst, sst, vbN v, f⟩ (a + ((k + 1 : Nat) : Int) * sst) (vbN v)).2 (by simp only [encPt]; omega) (by simp only [encPt]) (by simp only [encPt]; exact e2) (by simp only [encPt])
    rw [sq, encL, List.length_append, ih]
    have e3 : (encPt ⟨j + 2, a + (k : Int) * sst, sst, vbN v, f⟩ (a + ((k + 1 : Nat) : Int) * sst) (vbN v)).1.length = 2 := by
      simp only [encPt, e2, Nat.xor_self, Int.sub_self]
      rfl
    rw [e3]
    omega
theorem few (a st : Int) (v : Nat) (hst : 1 ≤ st ∧ st < 18446744073709551616) (m : Nat) : (encL vbN E0 (sq a st v 0 (m + 2))).length = (encL vbN E0 (sq a st v 0 2)).length + 2 * m := by
  have h := encL_sq a st v hst m 1 (encPt (encPt E0 (a + ((0 : Nat) : Int) * st) (vbN v)).2 (a + ((1 : Nat) : Int) * st) (vbN v)).2 (by simp only [encPt, E0]; omega) (by simp only [encPt, E0]) (by simp only [encPt, E0]; omega) (by simp only [encPt, E0])
  show (encL vbN E0 (_ :: _ :: sq a st v 2 m)).length = (encL vbN E0 (_ :: _ :: [])).length + 2 * m
  rw [encL, encL, encL, encL, List.length_append, List.length_append, List.length_append, List.length_append, h]
  simp only [encL, List.length_nil]
  omega
theorem loopFew (a st : Int) (v : Nat) (ha0 : -1125899906842624 ≤ a ∧ a ≤ 1125899906842624) (hst : 1 ≤ st ∧ st ≤ 1099511627776) (n : Nat) (hn : n ≤ 2000) (K : Kont) (R : Option V) (cd : Code) (ha : loopIn Tryd.prog 5 7 = some cd)
    (hR : ans (K (.exit 0) (Sl 80 .wild [(0, .int .i64 a), (1, .int .i64 st), (2, .fl .f64 v), (3, .int .i64 (n : Nat)), (9, .row 0 n), (10, .int .i64 (n : Nat))]) [⟨encD (sq a st v 0 n), 2, true, false⟩]) = R) :
    ∀ (m k : Nat), 0 < k → k + m = n → ans (loopL lore 5 cd (Sl 80 .wild [(0, .int .i64 a), (1, .int .i64 st), (2, .fl .f64 v), (3, .int .i64 (n : Nat)), (9, .row 0 k), (10, .int .i64 (k : Nat))]) [⟨encD (sq a st v 0 k), 2, true, false⟩] K) = R := by
  have hk := loop_key ha
  simp only [loopIn, Tryd.func5, Tryd.f5, loopAt, Option.bind_some, codeKey, if_true, Option.some.injEq, Nat.reduceEqDiff, if_false] at ha
  intro m
  induction m with
  | zero =>
    intro k h0 hk2
    obtain rfl : k = n := by omega
    have hlt : ¬ (k : Int) < (k : Int) := by omega
    rw [loopL_step' ha]
    repeat' (first | (refine cond_by (F := ans) (fun _ => ?_) (fun _ => ?_)) | (refine wayK_by (F := ans) (fun _ hb_ => ?_) (fun _ hb_ => ?_) <;> simp only [hb_]) | (refine wayK_byN (F := ans) (fun _ hb_ => ?_) (fun _ hb_ => ?_) <;> simp only [hb_]) | (refine wayD_by (F := ans) (fun _ hb_ => ?_) (fun _ hb_ => ?_) <;> simp only [hb_]) | (refine wayD_byN (F := ans) (fun _ hb_ => ?_) (fun _ hb_ => ?_) <;> simp only [hb_]) | (refine rdK_by (F := ans) (fun _ => ?_) (fun _ => ?_)) | (refine effK_by (F := ans) (fun _ => ?_) (fun _ => ?_)) | (refine effK_by2 (F := ans) (fun _ => ?_) (fun _ => ?_)) | (refine rdD_by (F := ans) (fun _ => ?_) (fun _ => ?_)) | (refine effD_by (F := ans) (fun _ => ?_) (fun _ => ?_)) | (refine effD_by2 (F := ans) (fun _ => ?_) (fun _ => ?_)) | simp -implicitDefEqProofs (disch := first | omega | (simp only [List.length_append, List.length_cons, List.length_nil, List.length_drop, List.length_take]; omega)) only [evs, tys, lors, Nat.reduceAdd, Nat.reduceSub, Nat.reduceMul, Nat.reducePow, Nat.reduceBEq, Nat.reduceLT, Nat.reduceLeDiff, Nat.reduceEqDiff, Int.reduceLT, Int.reduceLE, Int.reduceEq, Int.reduceNe, Int.reduceToNat, Int.reduceAdd, Int.reduceSub, Int.reduceMul, Int.reducePow, Int.reduceDiv, Int.reduceMod, Int.reduceNeg, reduceCtorEq, codeKey, List.contains, List.elem, Ev.load, peek, pack, storeV, fieldAddr, field, cvB, hk, hlt, decide_false])
    exact hR
  | succ m ih =>
    intro k h0 hk2
    have hlt : (k : Int) < (n : Int) := by omega
    have hnx := ih (k + 1) (by omega) (by omega)
    have hsn := sq_snoc a st v k 0
    rw [Nat.zero_add] at hsn
    rw [hsn] at hnx
    have hap := appD_row (H := [⟨encD (sq a st v 0 k), 2, true, false⟩]) (i := 0) (l := sq a st v 0 k) (p := (a + (k : Int) * st, v)) rfl (sq_len _ _ _ _ _) (by omega)
    simp only [List.set_cons_zero] at hap
    have m1 : 0 ≤ (k : Int) * st ∧ (k : Int) * st ≤ 2000 * 1099511627776 := ⟨Int.mul_nonneg (by omega) (by omega), Int.mul_le_mul (by omega) (by omega) (by omega) (by decide)⟩
    have hz : ((k + 1 : Nat) : Int) = (k : Int) + 1 := by omega
    rw [hz] at hnx
    generalize hq : (k : Int) * st = q at *
    rw [loopL_step' ha]
    repeat' (first | (refine cond_by (F := ans) (fun _ => ?_) (fun _ => ?_)) | (refine wayK_by (F := ans) (fun _ hb_ => ?_) (fun _ hb_ => ?_) <;> simp only [hb_]) | (refine wayK_byN (F := ans) (fun _ hb_ => ?_) (fun _ hb_ => ?_) <;> simp only [hb_]) | (refine wayD_by (F := ans) (fun _ hb_ => ?_) (fun _ hb_ => ?_) <;> simp only [hb_]) | (refine wayD_byN (F := ans) (fun _ hb_ => ?_) (fun _ hb_ => ?_) <;> simp only [hb_]) | (refine rdK_by (F := ans) (fun _ => ?_) (fun _ => ?_)) | (refine effK_by (F := ans) (fun _ => ?_) (fun _ => ?_)) | (refine effK_by2 (F := ans) (fun _ => ?_) (fun _ => ?_)) | (refine rdD_by (F := ans) (fun _ => ?_) (fun _ => ?_)) | (refine effD_by (F := ans) (fun _ => ?_) (fun _ => ?_)) | (refine effD_by2 (F := ans) (fun _ => ?_) (fun _ => ?_)) | simp -implicitDefEqProofs (disch := first | omega | (simp only [List.length_append, List.length_cons, List.length_nil, List.length_drop, List.length_take]; omega)) only [evs, tys, lors, Nat.reduceAdd, Nat.reduceSub, Nat.reduceMul, Nat.reducePow, Nat.reduceBEq, Nat.reduceLT, Nat.reduceLeDiff, Nat.reduceEqDiff, Int.reduceLT, Int.reduceLE, Int.reduceEq, Int.reduceNe, Int.reduceToNat, Int.reduceAdd, Int.reduceSub, Int.reduceMul, Int.reducePow, Int.reduceDiv, Int.reduceMod, Int.reduceNeg, reduceCtorEq, codeKey, List.contains, List.elem, Ev.load, peek, pack, storeV, fieldAddr, field, cvB, hk, hlt, hq, srcD_sl, hap, elem22, decide_true])
    all_goals first | exact hnx | trace_state
theorem chunkFew_ev (a st : Int) (v : Nat) (n : Int) (hv : v < 2 ^ 64) (ha0 : -9223372036854775808 ≤ a ∧ a ≤ 9223372036854775807) (hst0 : -9223372036854775808 ≤ st ∧ st ≤ 9223372036854775807) (hn0 : -9223372036854775808 ≤ n ∧ n ≤ 9223372036854775807) : ans (callL lore 5 [.int .i64 a, .int .i64 st, .fl .f64 v, .int .i64 n] []) = some (.bool true) := by
  have hlv := lives_cv []
  rw [call_start lore_ext5 Tryd.func5 rfl lore_okf5 (Nat.le_of_ble_eq_true rfl)]
  by_cases hg : n < 2 ∨ 2000 < n ∨ st < 1 ∨ 1099511627776 < st ∨ a < -1125899906842624 ∨ 1125899906842624 < a
  · repeat' (first | (refine cond_by (F := ans) (fun _ => ?_) (fun _ => ?_)) | (refine wayK_by (F := ans) (fun _ hb_ => ?_) (fun _ hb_ => ?_) <;> simp only [hb_]) | (refine wayK_byN (F := ans) (fun _ hb_ => ?_) (fun _ hb_ => ?_) <;> simp only [hb_]) | (refine wayD_by (F := ans) (fun _ hb_ => ?_) (fun _ hb_ => ?_) <;> simp only [hb_]) | (refine wayD_byN (F := ans) (fun _ hb_ => ?_) (fun _ hb_ => ?_) <;> simp only [hb_]) | (refine rdK_by (F := ans) (fun _ => ?_) (fun _ => ?_)) | (refine effK_by (F := ans) (fun _ => ?_) (fun _ => ?_)) | (refine effK_by2 (F := ans) (fun _ => ?_) (fun _ => ?_)) | (refine rdD_by (F := ans) (fun _ => ?_) (fun _ => ?_)) | (refine effD_by (F := ans) (fun _ => ?_) (fun _ => ?_)) | (refine effD_by2 (F := ans) (fun _ => ?_) (fun _ => ?_)) | simp -implicitDefEqProofs (disch := first | omega | (simp only [List.length_append, List.length_cons, List.length_nil, List.length_drop, List.length_take]; omega)) only [evs, tys, lors, Nat.reduceAdd, Nat.reduceSub, Nat.reduceMul, Nat.reducePow, Nat.reduceBEq, Nat.reduceLT, Nat.reduceLeDiff, Nat.reduceEqDiff, Int.reduceLT, Int.reduceLE, Int.reduceEq, Int.reduceNe, Int.reduceToNat, Int.reduceAdd, Int.reduceSub, Int.reduceMul, Int.reducePow, Int.reduceDiv, Int.reduceMod, Int.reduceNeg, reduceCtorEq, codeKey, List.contains, List.elem, Ev.load, peek, pack, storeV, fieldAddr, field, cvB, hlv])
    all_goals (exfalso; omega)
  · obtain ⟨N, rfl⟩ := Int.eq_ofNat_of_zero_le (show 0 ≤ n by omega)
    obtain ⟨m, rfl⟩ : ∃ m, N = m + 2 := ⟨N - 2, by omega⟩
    have c1 : ¬ ((m + 2 : Nat) : Int) < 2 := by omega
    have c2 : ¬ (2000 : Int) < ((m + 2 : Nat) : Int) := by omega
    have c3 : ¬ st < 1 := by omega
    have c4 : ¬ 1099511627776 < st := by omega
    have c5 : ¬ a < -1125899906842624 := by omega
    have c6 : ¬ 1125899906842624 < a := by omega
    have c7 : (0 : Int) < ((m + 2 : Nat) : Int) := by omega
    repeat' (first | (refine cond_by (F := ans) (fun _ => ?_) (fun _ => ?_)) | (refine wayK_by (F := ans) (fun _ hb_ => ?_) (fun _ hb_ => ?_) <;> simp only [hb_]) | (refine wayK_byN (F := ans) (fun _ hb_ => ?_) (fun _ hb_ => ?_) <;> simp only [hb_]) | (refine wayD_by (F := ans) (fun _ hb_ => ?_) (fun _ hb_ => ?_) <;> simp only [hb_]) | (refine wayD_byN (F := ans) (fun _ hb_ => ?_) (fun _ hb_ => ?_) <;> simp only [hb_]) | (refine rdK_by (F := ans) (fun _ => ?_) (fun _ => ?_)) | (refine effK_by (F := ans) (fun _ => ?_) (fun _ => ?_)) | (refine effK_by2 (F := ans) (fun _ => ?_) (fun _ => ?_)) | (refine rdD_by (F := ans) (fun _ => ?_) (fun _ => ?_)) | (refine effD_by (F := ans) (fun _ => ?_) (fun _ => ?_)) | (refine effD_by2 (F := ans) (fun _ => ?_) (fun _ => ?_)) | simp -implicitDefEqProofs (disch := first | omega | (simp only [List.length_append, List.length_cons, List.length_nil, List.length_drop, List.length_take]; omega)) only [evs, tys, lors, Nat.reduceAdd, Nat.reduceSub, Nat.reduceMul, Nat.reducePow, Nat.reduceBEq, Nat.reduceLT, Nat.reduceLeDiff, Nat.reduceEqDiff, Int.reduceLT, Int.reduceLE, Int.reduceEq, Int.reduceNe, Int.reduceToNat, Int.reduceAdd, Int.reduceSub, Int.reduceMul, Int.reducePow, Int.reduceDiv, Int.reduceMod, Int.reduceNeg, reduceCtorEq, codeKey, List.contains, List.elem, Ev.load, peek, pack, storeV, fieldAddr, field, cvB, hlv, c1, c2, c3, c4, c5, c6, decide_false])
    rw [loopL_step' rfl]
    have hap := appD_nils (H := []) (p := (a, v))
    simp only [List.length_nil, List.nil_append] at hap
    repeat' (first | (refine cond_by (F := ans) (fun _ => ?_) (fun _ => ?_)) | (refine wayK_by (F := ans) (fun _ hb_ => ?_) (fun _ hb_ => ?_) <;> simp only [hb_]) | (refine wayK_byN (F := ans) (fun _ hb_ => ?_) (fun _ hb_ => ?_) <;> simp only [hb_]) | (refine wayD_by (F := ans) (fun _ hb_ => ?_) (fun _ hb_ => ?_) <;> simp only [hb_]) | (refine wayD_byN (F := ans) (fun _ hb_ => ?_) (fun _ hb_ => ?_) <;> simp only [hb_]) | (refine rdK_by (F := ans) (fun _ => ?_) (fun _ => ?_)) | (refine effK_by (F := ans) (fun _ => ?_) (fun _ => ?_)) | (refine effK_by2 (F := ans) (fun _ => ?_) (fun _ => ?_)) | (refine rdD_by (F := ans) (fun _ => ?_) (fun _ => ?_)) | (refine effD_by (F := ans) (fun _ => ?_) (fun _ => ?_)) | (refine effD_by2 (F := ans) (fun _ => ?_) (fun _ => ?_)) | simp -implicitDefEqProofs (disch := first | omega | (simp only [List.length_append, List.length_cons, List.length_nil, List.length_drop, List.length_take]; omega)) only [evs, tys, lors, Nat.reduceAdd, Nat.reduceSub, Nat.reduceMul, Nat.reducePow, Nat.reduceBEq, Nat.reduceLT, Nat.reduceLeDiff, Nat.reduceEqDiff, Int.reduceLT, Int.reduceLE, Int.reduceEq, Int.reduceNe, Int.reduceToNat, Int.reduceAdd, Int.reduceSub, Int.reduceMul, Int.reducePow, Int.reduceDiv, Int.reduceMod, Int.reduceNeg, reduceCtorEq, codeKey, List.contains, List.elem, Ev.load, peek, pack, storeV, fieldAddr, field, cvB, c7, srcD_sl, hap, elem22, Int.zero_mul, Int.add_zero, decide_true])
    have hs1 : encD [(a, v)] = encD (sq a st v 0 1) := by
      show _ = encD [(a + ((0 : Nat) : Int) * st, v)]
      simp
    rw [hs1]
    refine loopFew a st v (by omega) (by omega) (m + 2) (by omega) _ _ _ (by rfl) ?_ (m + 1) 1 (by omega) (by omega)
    have hf := few a st v ⟨by omega, by omega⟩ m
    have hlen := sq_len a st v (m + 2) 0
    have hdots : ∀ n, n ≤ 2000 → DotsOk (sq a st v 0 n) := fun n hn p hp => by
      obtain ⟨i, h1, rfl⟩ := sq_mem a st v n 0 p hp
      have m1 : 0 ≤ (i : Int) * st ∧ (i : Int) * st ≤ 2000 * 1099511627776 := ⟨Int.mul_nonneg (by omega) (by omega), Int.mul_le_mul (by omega) (by omega) (by omega) (by decide)⟩
      exact ⟨by simp only; omega, hv⟩
    have hflt : ∀ n, fltL (sq a st v 0 n) = none := fun n => by
      cases n with
      | zero => rfl
      | succ n => exact flt_sq a st v (by omega) n 1 1 _ (by simp; omega)
    have hb : ∀ n, n ≤ 2000 → ∀ c H, callV (CL lore) 10 [.sl (encD (sq a st v 0 n)) 2 c] H = some (.tup [.int .i64 (encL vbN E0 (sq a st v 0 n)).length, .int .i64 0], H) := fun n hn c H => by
      rw [bitsN_cv _ c (hdots n hn) H, if_neg (by rw [sq_len]; omega), hflt]
    have hsl : sliceV Tryd.prog [⟨encD (sq a st v 0 (m + 2)), 2, true, false⟩] 22 (.row 0 (m + 2)) none (some (.int .i64 2)) none = some (.sl (encD (sq a st v 0 2)) 2 false, [⟨encD (sq a st v 0 (m + 2)), 2, true, true⟩]) := by
      have hl2 : (encD (sq a st v 0 (m + 2))).length = m + 2 := by rw [encD_len, sq_len]
      have ht : (encD (sq a st v 0 (m + 2))).take 2 = encD (sq a st v 0 2) := rfl
      simp only [sliceV, Tryd.underlying22, List.getElem?_cons_zero, sz39, bound]
      rw [if_pos ⟨by decide, hl2, trivial, trivial⟩]
      simp only [Option.bind_some]
      rw [if_pos ⟨by decide, by omega⟩]
      simp [ht]
    have hb2 : callV (CL lore) 10 [.row 0 (m + 2)] [⟨encD (sq a st v 0 (m + 2)), 2, true, true⟩] = some (.tup [.int .i64 (encL vbN E0 (sq a st v 0 (m + 2))).length, .int .i64 0], [⟨encD (sq a st v 0 (m + 2)), 2, true, true⟩]) := by
      refine callV_thaw (ws := [.sl (encD (sq a st v 0 (m + 2))) 2 false]) rfl ?_ rfl (hb (m + 2) (by omega) false)
      simp [fz2s, fz2, fz1, encD_len, sq_len]
    have hb1 := hb 2 (by omega) false
    rw [hf] at hb2
    have hle := encL_le vbN (sq a st v 0 2) E0
    rw [sq_len] at hle
    generalize (encL vbN E0 (sq a st v 0 2)).length = w at *
    have hw : ((w + 2 * m : Nat) : Int) = (w : Int) + 2 * (((m + 2 : Nat) : Int) - 2) := by omega
    rw [hw] at hb2
    generalize hM : ((m + 2 : Nat) : Int) = M at *
    repeat' (first | (refine cond_by (F := ans) (fun _ => ?_) (fun _ => ?_)) | (refine wayK_by (F := ans) (fun _ hb_ => ?_) (fun _ hb_ => ?_) <;> simp only [hb_]) | (refine wayK_byN (F := ans) (fun _ hb_ => ?_) (fun _ hb_ => ?_) <;> simp only [hb_]) | (refine wayD_by (F := ans) (fun _ hb_ => ?_) (fun _ hb_ => ?_) <;> simp only [hb_]) | (refine wayD_byN (F := ans) (fun _ hb_ => ?_) (fun _ hb_ => ?_) <;> simp only [hb_]) | (refine rdK_by (F := ans) (fun _ => ?_) (fun _ => ?_)) | (refine effK_by (F := ans) (fun _ => ?_) (fun _ => ?_)) | (refine effK_by2 (F := ans) (fun _ => ?_) (fun _ => ?_)) | (refine rdD_by (F := ans) (fun _ => ?_) (fun _ => ?_)) | (refine effD_by (F := ans) (fun _ => ?_) (fun _ => ?_)) | (refine effD_by2 (F := ans) (fun _ => ?_) (fun _ => ?_)) | simp -implicitDefEqProofs (disch := first | omega | (simp only [List.length_append, List.length_cons, List.length_nil, List.length_drop, List.length_take]; omega)) only [evs, tys, lors, Nat.reduceAdd, Nat.reduceSub, Nat.reduceMul, Nat.reducePow, Nat.reduceBEq, Nat.reduceLT, Nat.reduceLeDiff, Nat.reduceEqDiff, Int.reduceLT, Int.reduceLE, Int.reduceEq, Int.reduceNe, Int.reduceToNat, Int.reduceAdd, Int.reduceSub, Int.reduceMul, Int.reducePow, Int.reduceDiv, Int.reduceMod, Int.reduceNeg, reduceCtorEq, codeKey, List.contains, List.elem, Ev.load, peek, pack, storeV, fieldAddr, field, cvB, hsl, hb1, hb2, decide_true])
    all_goals trace_state
end Go.Proofs.YtmjdcoacmmmhnaaDoor
