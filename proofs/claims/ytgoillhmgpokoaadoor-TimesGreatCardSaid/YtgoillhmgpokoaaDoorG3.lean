/-
The document's digits and number; FormatInt; PrintSpan, both.
-/
import Derived.Test.YtgoillhmgpokoaaDoorG2
namespace Go.Proofs.YtgoillhmgpokoaaDoor
open Go Ev
set_option linter.all false
set_option maxHeartbeats 4000000
set_option maxRecDepth 5000
attribute [local irreducible] codeL condL loopL callL callV evOps evDraw rdK effK wayK oneK wayD oneD rdD effD chks chkB res

theorem itoa_cv (n : Int) (h1 : -9223372036854775808 ≤ n) (h2 : n ≤ 9223372036854775807) (H : Heap) : callV (CL lore) 34 [.int .i64 n, .int .i64 10] H = some (.str (bs (Lib.itoa n)), H) := by
  refine callV_ans (r := some _) ?_ (lore_shared 34) rfl H
  rw [callL_ext (k := itoaX) rfl]
  simp only [itoaX]
  rw [if_pos ⟨h1, h2⟩]
  rfl

theorem itoa_small {n : Nat} (h : n < 10) : Lib.itoa n = [UInt8.ofNat (48 + n)] := by
  unfold Lib.itoa; rw [if_neg (by omega), Int.toNat_natCast, Lib.decDigits_one h]
theorem itoa_big {n : Nat} (h : ¬ n < 10) : Lib.itoa n = Lib.itoa (n / 10 : Nat) ++ [UInt8.ofNat (48 + n % 10)] := by
  unfold Lib.itoa; rw [if_neg (by omega), if_neg (by omega), Int.toNat_natCast, Int.toNat_natCast, Lib.decDigits, dif_neg h]

set_option maxRecDepth 5000 in
theorem loop37 (K : Kont) (R : Option V) (a : Code) (ha : loopIn Tryd.prog 37 2 = some a) :
    ∀ (n : Nat) (z : Int) (acc : List UInt8) (H : Heap) (x2 : V), z = n → n ≤ 2305843009213693952 → n + acc.length < 4611686018427387904 →
    (∀ x y H', ans (K .ret (Sl 17 .wild [(0, x), (2, .str (bs (Lib.itoa n ++ acc))), (3, y)]) H') = R) →
    ans (loopL lore 37 a (Sl 17 .wild [(0, .int .i64 z), (2, x2), (3, .str (bs acc))]) H K) = R := by
  have hk := loop_key ha
  simp only [loopIn, Tryd.func37, Tryd.f37, loopAt, Option.bind_some, codeKey, if_true, Option.some.injEq, Nat.reduceEqDiff, if_false] at ha
  intro n
  induction n using Nat.strongRecOn with
  | _ n ih =>
  intro z acc H x2 hz hn hl h1
  subst hz
  rw [loopL_step' ha]
  have e1 : (48 : Int) + (n : Int) % 10 = ((48 + n % 10 : Nat) : Int) := by omega
  have e2 : (n : Int) / 10 = ((n / 10 : Nat) : Int) := by omega
  repeat' (first | (refine cond_by (F := ans) (fun _ => ?_) (fun _ => ?_)) | (refine wayK_by (F := ans) (fun _ hb => ?_) (fun _ hb => ?_) <;> simp only [hb]) | (refine wayK_byN (F := ans) (fun _ hb => ?_) (fun _ hb => ?_) <;> simp only [hb]) | (refine wayD_by (F := ans) (fun _ hb => ?_) (fun _ hb => ?_) <;> simp only [hb]) | (refine wayD_byN (F := ans) (fun _ hb => ?_) (fun _ hb => ?_) <;> simp only [hb]) | (refine rdK_by (F := ans) (fun _ => ?_) (fun _ => ?_)) | (refine effK_by (F := ans) (fun _ => ?_) (fun _ => ?_)) | (refine effK_by2 (F := ans) (fun _ => ?_) (fun _ => ?_)) | (refine rdD_by (F := ans) (fun _ => ?_) (fun _ => ?_)) | (refine effD_by (F := ans) (fun _ => ?_) (fun _ => ?_)) | (refine effD_by2 (F := ans) (fun _ => ?_) (fun _ => ?_)) | simp -implicitDefEqProofs (disch := first | omega | (simp only [List.length_append, List.length_cons, List.length_nil, List.length_drop, List.length_take]; omega)) only [evs, tys, lors, Nat.reduceAdd, Nat.reduceSub, Nat.reduceMul, Nat.reducePow, Nat.reduceBEq, Nat.reduceLT, Nat.reduceLeDiff, Nat.reduceEqDiff, Int.reduceLT, Int.reduceLE, Int.reduceEq, Int.reduceNe, Int.reduceToNat, reduceCtorEq, codeKey, List.contains, List.elem, Ev.load, peek, pack, storeV, fieldAddr, field, cvB, hk, e1, e2])
  · have hs : n < 10 := by omega
    rw [itoa_small hs] at h1
    rw [show n % 10 = n by omega]
    exact h1 _ _ _
  · have hs : ¬ n < 10 := by omega
    refine ih (n / 10) (by omega) _ _ _ _ rfl (by omega) (by simp only [List.length_cons]; omega) (fun x y H' => ?_)
    have := h1 x y H'
    rw [itoa_big hs, List.append_assoc] at this
    exact this
theorem digitsd_cv (n : Nat) (hn : n ≤ 2305843009213693952) (z : Int) (hz : z = n) (H : Heap) : callV (CL lore) 37 [.int .i64 z] H = some (.str (bs (Lib.itoa n)), H) := by
  subst hz
  refine callV_ans (r := some _) ?_ (lore_shared 37) rfl H
  rw [call_start lore_ext37 Tryd.func37 rfl lore_okf37 (Nat.le_of_ble_eq_true rfl)]
  repeat' (first | (refine cond_by (F := ans) (fun _ => ?_) (fun _ => ?_)) | (refine wayK_by (F := ans) (fun _ hb => ?_) (fun _ hb => ?_) <;> simp only [hb]) | (refine wayK_byN (F := ans) (fun _ hb => ?_) (fun _ hb => ?_) <;> simp only [hb]) | (refine wayD_by (F := ans) (fun _ hb => ?_) (fun _ hb => ?_) <;> simp only [hb]) | (refine wayD_byN (F := ans) (fun _ hb => ?_) (fun _ hb => ?_) <;> simp only [hb]) | (refine rdK_by (F := ans) (fun _ => ?_) (fun _ => ?_)) | (refine effK_by (F := ans) (fun _ => ?_) (fun _ => ?_)) | (refine effK_by2 (F := ans) (fun _ => ?_) (fun _ => ?_)) | (refine rdD_by (F := ans) (fun _ => ?_) (fun _ => ?_)) | (refine effD_by (F := ans) (fun _ => ?_) (fun _ => ?_)) | (refine effD_by2 (F := ans) (fun _ => ?_) (fun _ => ?_)) | simp -implicitDefEqProofs (disch := first | omega | (simp only [List.length_append, List.length_cons, List.length_nil, List.length_drop, List.length_take]; omega)) only [evs, tys, lors, Nat.reduceAdd, Nat.reduceSub, Nat.reduceMul, Nat.reducePow, Nat.reduceBEq, Nat.reduceLT, Nat.reduceLeDiff, Nat.reduceEqDiff, Int.reduceLT, Int.reduceLE, Int.reduceEq, Int.reduceNe, Int.reduceToNat, reduceCtorEq, codeKey, List.contains, List.elem, Ev.load, peek, pack, storeV, fieldAddr, field, cvB])
  refine loop37 _ _ _ (by rfl) n _ [] _ _ rfl hn (by simp only [List.length_nil]; omega) (fun x y H' => ?_)
  repeat' (first | (refine cond_by (F := ans) (fun _ => ?_) (fun _ => ?_)) | (refine wayK_by (F := ans) (fun _ hb => ?_) (fun _ hb => ?_) <;> simp only [hb]) | (refine wayK_byN (F := ans) (fun _ hb => ?_) (fun _ hb => ?_) <;> simp only [hb]) | (refine wayD_by (F := ans) (fun _ hb => ?_) (fun _ hb => ?_) <;> simp only [hb]) | (refine wayD_byN (F := ans) (fun _ hb => ?_) (fun _ hb => ?_) <;> simp only [hb]) | (refine rdK_by (F := ans) (fun _ => ?_) (fun _ => ?_)) | (refine effK_by (F := ans) (fun _ => ?_) (fun _ => ?_)) | (refine effK_by2 (F := ans) (fun _ => ?_) (fun _ => ?_)) | (refine rdD_by (F := ans) (fun _ => ?_) (fun _ => ?_)) | (refine effD_by (F := ans) (fun _ => ?_) (fun _ => ?_)) | (refine effD_by2 (F := ans) (fun _ => ?_) (fun _ => ?_)) | simp -implicitDefEqProofs (disch := first | omega | (simp only [List.length_append, List.length_cons, List.length_nil, List.length_drop, List.length_take]; omega)) only [evs, tys, lors, Nat.reduceAdd, Nat.reduceSub, Nat.reduceMul, Nat.reducePow, Nat.reduceBEq, Nat.reduceLT, Nat.reduceLeDiff, Nat.reduceEqDiff, Int.reduceLT, Int.reduceLE, Int.reduceEq, Int.reduceNe, Int.reduceToNat, reduceCtorEq, codeKey, List.contains, List.elem, Ev.load, peek, pack, storeV, fieldAddr, field, cvB])

/-! number -/
def valS (most : Int) (n : Int) : List UInt8 → Int
  | [] => n
  | b :: r => valS most (if (most - ((b.toNat : Int) - 48)) / 10 < n then most + 1 else 10 * n + ((b.toNat : Int) - 48)) r
theorem valS_sat (most : Int) (hm : 9 ≤ most) : ∀ (l : List UInt8), (∀ b ∈ l, isDig b) → valS most (most + 1) l = most + 1
  | [], _ => rfl
  | b :: r, hd => by
    have hb := hd b (by simp)
    unfold isDig at hb
    simp only [valS]
    rw [if_pos (by omega)]
    exact valS_sat most hm r fun x hx => hd x (by simp [hx])
theorem valS_eq (most : Int) (hm : 9 ≤ most) : ∀ (l : List UInt8) (n : Int), (∀ b ∈ l, isDig b) → valS most n l = (valO most n l).getD (most + 1)
  | [], _, _ => rfl
  | b :: r, n, hd => by
    simp only [valS, valO]
    split
    · rw [valS_sat most hm r fun x hx => hd x (by simp [hx])]; rfl
    · exact valS_eq most hm r _ fun x hx => hd x (by simp [hx])
def leadZ (t : List UInt8) : Prop := (t.getD 0 0).toNat = 48 ∧ 1 < digL t
instance (t : List UInt8) : Decidable (leadZ t) := by unfold leadZ; infer_instance

theorem loop41 (s : List UInt8) (p : Nat) (hp : p ≤ s.length) (hs : s.length < 4611686018427387904) (most : Int) (hm : 9 ≤ most) (hm' : most ≤ 4611686018427387904) (K : Kont) (R : Option V) (a : Code) (ha : loopIn Tryd.prog 41 5 = some a)
    (h2 : leadZ (s.drop p) → ∀ y z H', ans (K .ret (Sl 85 .wild [(0, .str (bs s)), (1, .int .i64 p), (2, .int .i64 most), (6, .int .i64 0), (7, .int .i64 ((p + 1 : Nat) : Int)), (8, .int .i64 ((p + 1 : Nat) : Int)), (9, y), (10, z)]) H') = R) :
    ∀ (n i : Nat) (z x : Int) (H : Heap), s.length - i = n → p ≤ i → i ≤ s.length → z = i → 0 ≤ x → x ≤ most + 1 → (i ≤ p + 1 ∨ ¬ leadZ (s.drop p)) → digL (s.drop p) = (i - p) + digL (s.drop i) →
    (¬ leadZ (s.drop p) → ∀ H', ans (K (.exit 0) (Sl 85 .wild [(0, .str (bs s)), (1, .int .i64 p), (2, .int .i64 most), (6, .int .i64 0), (7, .int .i64 0), (8, .int .i64 0), (9, .int .i64 (valS most x ((s.drop i).take (digL (s.drop i))))), (10, .int .i64 ((i + digL (s.drop i) : Nat) : Int))]) H') = R) →
    ans (loopL lore 41 a (Sl 85 .wild [(0, .str (bs s)), (1, .int .i64 p), (2, .int .i64 most), (6, .int .i64 0), (7, .int .i64 0), (8, .int .i64 0), (9, .int .i64 x), (10, .int .i64 z)]) H K) = R := by
  have hk := loop_key ha
  simp only [loopIn, Tryd.func41, Tryd.f41, loopAt, Option.bind_some, codeKey, if_true, Option.some.injEq, Nat.reduceEqDiff, if_false] at ha
  intro n
  induction n using Nat.strongRecOn with
  | _ n ih =>
  intro i z x H hn hpi hi hz hx0 hx1 hl hdg h1
  subst hz
  rw [loopL_step' ha]
  by_cases h : i < s.length
  · have hdr := drop_getD h
    have eg := getD_drop s p 0
    simp only [Nat.add_zero] at eg
    rw [hdr] at h1 hdg
    simp only [digL] at h1 hdg
    unfold leadZ at h1 h2 hl
    rw [eg] at h1 h2 hl
    by_cases hdig : isDig (s.getD i 0)
    · rw [if_pos hdig] at h1 hdg
      rw [List.take_succ_cons, show i + (digL (s.drop (i + 1)) + 1) = i + 1 + digL (s.drop (i + 1)) by omega] at h1
      simp only [valS] at h1
      unfold isDig at hdig
      repeat' (first | (refine cond_by (F := ans) (fun _ => ?_) (fun _ => ?_)) | (refine wayK_by (F := ans) (fun _ hb => ?_) (fun _ hb => ?_) <;> simp only [hb]) | (refine wayK_byN (F := ans) (fun _ hb => ?_) (fun _ hb => ?_) <;> simp only [hb]) | (refine wayD_by (F := ans) (fun _ hb => ?_) (fun _ hb => ?_) <;> simp only [hb]) | (refine wayD_byN (F := ans) (fun _ hb => ?_) (fun _ hb => ?_) <;> simp only [hb]) | (refine rdK_by (F := ans) (fun _ => ?_) (fun _ => ?_)) | (refine effK_by (F := ans) (fun _ => ?_) (fun _ => ?_)) | (refine effK_by2 (F := ans) (fun _ => ?_) (fun _ => ?_)) | (refine rdD_by (F := ans) (fun _ => ?_) (fun _ => ?_)) | (refine effD_by (F := ans) (fun _ => ?_) (fun _ => ?_)) | (refine effD_by2 (F := ans) (fun _ => ?_) (fun _ => ?_)) | simp -implicitDefEqProofs (disch := first | omega | (simp only [List.length_append, List.length_cons, List.length_nil, List.length_drop, List.length_take]; omega)) only [evs, tys, lors, Nat.reduceAdd, Nat.reduceSub, Nat.reduceMul, Nat.reducePow, Nat.reduceBEq, Nat.reduceLT, Nat.reduceLeDiff, Nat.reduceEqDiff, Int.reduceLT, Int.reduceLE, Int.reduceEq, Int.reduceNe, Int.reduceToNat, reduceCtorEq, codeKey, List.contains, List.elem, Ev.load, peek, pack, storeV, fieldAddr, field, cvB, hk, cast_succ])
      any_goals (exfalso; omega)
      · have e : i = p + 1 := by omega
        subst e
        exact h2 (by omega) _ _ _
      all_goals first
        | (rw [if_pos (by omega)] at h1; exact ih _ (by omega) (i + 1) _ _ _ rfl (by omega) (by omega) rfl (by omega) (by omega) (by unfold leadZ; rw [eg]; omega) (by omega) (by unfold leadZ; rw [eg]; exact h1))
        | (rw [if_neg (by omega)] at h1; exact ih _ (by omega) (i + 1) _ _ _ rfl (by omega) (by omega) rfl (by omega) (by omega) (by unfold leadZ; rw [eg]; omega) (by omega) (by unfold leadZ; rw [eg]; exact h1))
    · rw [if_neg hdig] at h1 hdg
      unfold isDig at hdig
      repeat' (first | (refine cond_by (F := ans) (fun _ => ?_) (fun _ => ?_)) | (refine wayK_by (F := ans) (fun _ hb => ?_) (fun _ hb => ?_) <;> simp only [hb]) | (refine wayK_byN (F := ans) (fun _ hb => ?_) (fun _ hb => ?_) <;> simp only [hb]) | (refine wayD_by (F := ans) (fun _ hb => ?_) (fun _ hb => ?_) <;> simp only [hb]) | (refine wayD_byN (F := ans) (fun _ hb => ?_) (fun _ hb => ?_) <;> simp only [hb]) | (refine rdK_by (F := ans) (fun _ => ?_) (fun _ => ?_)) | (refine effK_by (F := ans) (fun _ => ?_) (fun _ => ?_)) | (refine effK_by2 (F := ans) (fun _ => ?_) (fun _ => ?_)) | (refine rdD_by (F := ans) (fun _ => ?_) (fun _ => ?_)) | (refine effD_by (F := ans) (fun _ => ?_) (fun _ => ?_)) | (refine effD_by2 (F := ans) (fun _ => ?_) (fun _ => ?_)) | simp -implicitDefEqProofs (disch := first | omega | (simp only [List.length_append, List.length_cons, List.length_nil, List.length_drop, List.length_take]; omega)) only [evs, tys, lors, Nat.reduceAdd, Nat.reduceSub, Nat.reduceMul, Nat.reducePow, Nat.reduceBEq, Nat.reduceLT, Nat.reduceLeDiff, Nat.reduceEqDiff, Int.reduceLT, Int.reduceLE, Int.reduceEq, Int.reduceNe, Int.reduceToNat, reduceCtorEq, codeKey, List.contains, List.elem, Ev.load, peek, pack, storeV, fieldAddr, field, cvB, hk, cast_succ])
      any_goals (exfalso; omega)
      all_goals exact h1 (by omega) _
  · have hi' : i = s.length := by omega
    rw [List.drop_eq_nil_of_le (show s.length ≤ i by omega)] at h1 hdg
    simp only [digL] at h1 hdg
    unfold leadZ at h1 hl
    repeat' (first | (refine cond_by (F := ans) (fun _ => ?_) (fun _ => ?_)) | (refine wayK_by (F := ans) (fun _ hb => ?_) (fun _ hb => ?_) <;> simp only [hb]) | (refine wayK_byN (F := ans) (fun _ hb => ?_) (fun _ hb => ?_) <;> simp only [hb]) | (refine wayD_by (F := ans) (fun _ hb => ?_) (fun _ hb => ?_) <;> simp only [hb]) | (refine wayD_byN (F := ans) (fun _ hb => ?_) (fun _ hb => ?_) <;> simp only [hb]) | (refine rdK_by (F := ans) (fun _ => ?_) (fun _ => ?_)) | (refine effK_by (F := ans) (fun _ => ?_) (fun _ => ?_)) | (refine effK_by2 (F := ans) (fun _ => ?_) (fun _ => ?_)) | (refine rdD_by (F := ans) (fun _ => ?_) (fun _ => ?_)) | (refine effD_by (F := ans) (fun _ => ?_) (fun _ => ?_)) | (refine effD_by2 (F := ans) (fun _ => ?_) (fun _ => ?_)) | simp -implicitDefEqProofs (disch := first | omega | (simp only [List.length_append, List.length_cons, List.length_nil, List.length_drop, List.length_take]; omega)) only [evs, tys, lors, Nat.reduceAdd, Nat.reduceSub, Nat.reduceMul, Nat.reducePow, Nat.reduceBEq, Nat.reduceLT, Nat.reduceLeDiff, Nat.reduceEqDiff, Int.reduceLT, Int.reduceLE, Int.reduceEq, Int.reduceNe, Int.reduceToNat, reduceCtorEq, codeKey, List.contains, List.elem, Ev.load, peek, pack, storeV, fieldAddr, field, cvB, hk, cast_succ])
    any_goals (exfalso; omega)
    all_goals exact h1 (by omega) _
def numberV (most : Int) (p : Nat) (t : List UInt8) : V :=
  if digL t = 0 then .tup [.int .i64 0, .int .i64 (p : Int), .int .i64 (p : Int)]
  else if leadZ t then .tup [.int .i64 0, .int .i64 ((p + 1 : Nat) : Int), .int .i64 ((p + 1 : Nat) : Int)]
  else .tup [.int .i64 ((valO most 0 (t.take (digL t))).getD (most + 1)), .int .i64 ((p + digL t : Nat) : Int), .int .i64 (-1)]
theorem take_digL : ∀ (t : List UInt8), ∀ b ∈ t.take (digL t), isDig b
  | [], b, h => by simp at h
  | c :: r, b, h => by
    simp only [digL] at h
    split at h
    · rename_i hc
      rw [List.take_succ_cons] at h
      rcases List.mem_cons.1 h with rfl | h
      · exact hc
      · exact take_digL r b h
    · simp at h
theorem number_cv (s : List UInt8) (p : Nat) (hp : p ≤ s.length) (hs : s.length < 4611686018427387904) (most : Int) (hm : 9 ≤ most) (hm' : most ≤ 4611686018427387904) (H : Heap) :
    callV (CL lore) 41 [.str (bs s), .int .i64 (p : Int), .int .i64 most] H = some (numberV most p (s.drop p), H) := by
  refine callV_ans (r := some _) ?_ (lore_shared 41) rfl H
  rw [call_start lore_ext41 Tryd.func41 rfl lore_okf41 (Nat.le_of_ble_eq_true rfl)]
  have hdl : (s.drop p).length = s.length - p := List.length_drop
  have hdd := digL_le (s.drop p)
  have hd0 : digL (s.drop p) = 0 ↔ ¬ (p < s.length ∧ 48 ≤ (s.getD p 0).toNat ∧ (s.getD p 0).toNat ≤ 57) := by
    by_cases h : p < s.length
    · rw [drop_getD h]
      simp only [digL]
      by_cases hh : isDig (s.getD p 0)
      · rw [if_pos hh]; unfold isDig at hh; omega
      · rw [if_neg hh]; unfold isDig at hh; omega
    · omega
  unfold numberV
  repeat' (first | (refine cond_by (F := ans) (fun _ => ?_) (fun _ => ?_)) | (refine wayK_by (F := ans) (fun _ hb => ?_) (fun _ hb => ?_) <;> simp only [hb]) | (refine wayK_byN (F := ans) (fun _ hb => ?_) (fun _ hb => ?_) <;> simp only [hb]) | (refine wayD_by (F := ans) (fun _ hb => ?_) (fun _ hb => ?_) <;> simp only [hb]) | (refine wayD_byN (F := ans) (fun _ hb => ?_) (fun _ hb => ?_) <;> simp only [hb]) | (refine rdK_by (F := ans) (fun _ => ?_) (fun _ => ?_)) | (refine effK_by (F := ans) (fun _ => ?_) (fun _ => ?_)) | (refine effK_by2 (F := ans) (fun _ => ?_) (fun _ => ?_)) | (refine rdD_by (F := ans) (fun _ => ?_) (fun _ => ?_)) | (refine effD_by (F := ans) (fun _ => ?_) (fun _ => ?_)) | (refine effD_by2 (F := ans) (fun _ => ?_) (fun _ => ?_)) | simp -implicitDefEqProofs (disch := first | omega | (simp only [List.length_append, List.length_cons, List.length_nil, List.length_drop, List.length_take]; omega)) only [evs, tys, lors, Nat.reduceAdd, Nat.reduceSub, Nat.reduceMul, Nat.reducePow, Nat.reduceBEq, Nat.reduceLT, Nat.reduceLeDiff, Nat.reduceEqDiff, Int.reduceLT, Int.reduceLE, Int.reduceEq, Int.reduceNe, Int.reduceToNat, reduceCtorEq, codeKey, List.contains, List.elem, Ev.load, peek, pack, storeV, fieldAddr, field, cvB])
  any_goals (rw [if_pos (by omega)]; done)
  rw [if_neg (by omega)]
  refine loop41 s p hp hs most hm hm' _ _ _ (by rfl) (fun hz y z H' => ?_) _ p _ 0 _ rfl (by omega) hp rfl (by omega) (by omega) (by omega) (by omega) (fun hz H' => ?_)
  · repeat' (first | (refine cond_by (F := ans) (fun _ => ?_) (fun _ => ?_)) | (refine wayK_by (F := ans) (fun _ hb => ?_) (fun _ hb => ?_) <;> simp only [hb]) | (refine wayK_byN (F := ans) (fun _ hb => ?_) (fun _ hb => ?_) <;> simp only [hb]) | (refine wayD_by (F := ans) (fun _ hb => ?_) (fun _ hb => ?_) <;> simp only [hb]) | (refine wayD_byN (F := ans) (fun _ hb => ?_) (fun _ hb => ?_) <;> simp only [hb]) | (refine rdK_by (F := ans) (fun _ => ?_) (fun _ => ?_)) | (refine effK_by (F := ans) (fun _ => ?_) (fun _ => ?_)) | (refine effK_by2 (F := ans) (fun _ => ?_) (fun _ => ?_)) | (refine rdD_by (F := ans) (fun _ => ?_) (fun _ => ?_)) | (refine effD_by (F := ans) (fun _ => ?_) (fun _ => ?_)) | (refine effD_by2 (F := ans) (fun _ => ?_) (fun _ => ?_)) | simp -implicitDefEqProofs (disch := first | omega | (simp only [List.length_append, List.length_cons, List.length_nil, List.length_drop, List.length_take]; omega)) only [evs, tys, lors, Nat.reduceAdd, Nat.reduceSub, Nat.reduceMul, Nat.reducePow, Nat.reduceBEq, Nat.reduceLT, Nat.reduceLeDiff, Nat.reduceEqDiff, Int.reduceLT, Int.reduceLE, Int.reduceEq, Int.reduceNe, Int.reduceToNat, reduceCtorEq, codeKey, List.contains, List.elem, Ev.load, peek, pack, storeV, fieldAddr, field, cvB])
    rw [if_pos hz]
  · repeat' (first | (refine cond_by (F := ans) (fun _ => ?_) (fun _ => ?_)) | (refine wayK_by (F := ans) (fun _ hb => ?_) (fun _ hb => ?_) <;> simp only [hb]) | (refine wayK_byN (F := ans) (fun _ hb => ?_) (fun _ hb => ?_) <;> simp only [hb]) | (refine wayD_by (F := ans) (fun _ hb => ?_) (fun _ hb => ?_) <;> simp only [hb]) | (refine wayD_byN (F := ans) (fun _ hb => ?_) (fun _ hb => ?_) <;> simp only [hb]) | (refine rdK_by (F := ans) (fun _ => ?_) (fun _ => ?_)) | (refine effK_by (F := ans) (fun _ => ?_) (fun _ => ?_)) | (refine effK_by2 (F := ans) (fun _ => ?_) (fun _ => ?_)) | (refine rdD_by (F := ans) (fun _ => ?_) (fun _ => ?_)) | (refine effD_by (F := ans) (fun _ => ?_) (fun _ => ?_)) | (refine effD_by2 (F := ans) (fun _ => ?_) (fun _ => ?_)) | simp -implicitDefEqProofs (disch := first | omega | (simp only [List.length_append, List.length_cons, List.length_nil, List.length_drop, List.length_take]; omega)) only [evs, tys, lors, Nat.reduceAdd, Nat.reduceSub, Nat.reduceMul, Nat.reducePow, Nat.reduceBEq, Nat.reduceLT, Nat.reduceLeDiff, Nat.reduceEqDiff, Int.reduceLT, Int.reduceLE, Int.reduceEq, Int.reduceNe, Int.reduceToNat, reduceCtorEq, codeKey, List.contains, List.elem, Ev.load, peek, pack, storeV, fieldAddr, field, cvB])
    rw [if_neg hz, valS_eq most hm _ _ (take_digL _)]

/-! PrintSpan -/
def printL : List Nat → Int → List UInt8 → List UInt8
  | [], _, acc => acc
  | i :: r, d, acc => if 0 < d / nsOf i then printL r (d % nsOf i) (acc ++ (Lib.itoa (d / nsOf i) ++ nameOf i)) else printL r d acc
def printF (d : Int) : List UInt8 := printL (List.range' 0 6) d []
theorem itoa_len {n : Int} (h0 : 0 ≤ n) (h1 : n ≤ 2305843009213693952) : (Lib.itoa n).length ≤ 21 := Lib.itoa_length_le n (by omega) (by omega)

theorem emod_le {a : Int} (h : 0 ≤ a) (b : Int) : a % b ≤ a := by
  obtain ⟨n, rfl⟩ := Int.eq_ofNat_of_zero_le h
  by_cases hb : 0 ≤ b
  · obtain ⟨m, rfl⟩ := Int.eq_ofNat_of_zero_le hb
    have := Nat.mod_le n m
    omega
  · rw [← Int.emod_neg]
    obtain ⟨m, hm⟩ := Int.eq_ofNat_of_zero_le (show 0 ≤ -b by omega)
    rw [hm]
    have := Nat.mod_le n m
    omega

theorem loop10 (K : Kont) (R : Option V) (a : Code) (ha : loopIn Tryd.prog 10 7 = some a) :
    ∀ (n i : Nat) (z d : Int) (acc : List UInt8) (H : Heap), 6 - i = n → i ≤ 6 → z = i → 0 ≤ d → d ≤ 2305843009213693952 → acc.length ≤ 100 * i →
    (∀ x H', ans (K (.exit 0) (Sl 38 .wild [(0, x), (4, .str (bs (printL (List.range' i (6 - i)) d acc))), (13, unitsV), (14, .int .i64 6), (15, .int .i64 6)]) H') = R) →
    ans (loopL lore 10 a (Sl 38 .wild [(0, .int .i64 d), (4, .str (bs acc)), (13, unitsV), (14, .int .i64 6), (15, .int .i64 z)]) H K) = R := by
  have hk := loop_key ha
  simp only [loopIn, Tryd.func10, Tryd.f10, loopAt, Option.bind_some, codeKey, if_true, Option.some.injEq, Nat.reduceEqDiff, if_false] at ha
  intro n
  induction n using Nat.strongRecOn with
  | _ n ih =>
  intro i z d acc H hn hi hz hd0 hd1 hl h1
  subst hz
  rw [loopL_step' ha]
  by_cases h : i < 6
  · have hnl := nameOf_len i
    have hns := nsOf_pos h
    rw [range6 h] at h1
    simp only [printL] at h1
    have hq0 := Int.ediv_nonneg hd0 (show 0 ≤ nsOf i by omega)
    have hq1 := Int.ediv_le_self (nsOf i) hd0
    have hm0 := Int.emod_nonneg d (show nsOf i ≠ 0 by omega)
    have hm1 := emod_le hd0 (nsOf i)
    have hil := itoa_len hq0 (by omega)
    repeat' (first | (refine cond_by (F := ans) (fun _ => ?_) (fun _ => ?_)) | (refine wayK_by (F := ans) (fun _ hb => ?_) (fun _ hb => ?_) <;> simp only [hb]) | (refine wayK_byN (F := ans) (fun _ hb => ?_) (fun _ hb => ?_) <;> simp only [hb]) | (refine wayD_by (F := ans) (fun _ hb => ?_) (fun _ hb => ?_) <;> simp only [hb]) | (refine wayD_byN (F := ans) (fun _ hb => ?_) (fun _ hb => ?_) <;> simp only [hb]) | (refine rdK_by (F := ans) (fun _ => ?_) (fun _ => ?_)) | (refine effK_by (F := ans) (fun _ => ?_) (fun _ => ?_)) | (refine effK_by2 (F := ans) (fun _ => ?_) (fun _ => ?_)) | (refine rdD_by (F := ans) (fun _ => ?_) (fun _ => ?_)) | (refine effD_by (F := ans) (fun _ => ?_) (fun _ => ?_)) | (refine effD_by2 (F := ans) (fun _ => ?_) (fun _ => ?_)) | simp -implicitDefEqProofs (disch := first | omega | (simp only [List.length_append, List.length_cons, List.length_nil, List.length_drop, List.length_take]; omega)) only [evs, tys, lors, Nat.reduceAdd, Nat.reduceSub, Nat.reduceMul, Nat.reducePow, Nat.reduceBEq, Nat.reduceLT, Nat.reduceLeDiff, Nat.reduceEqDiff, Int.reduceLT, Int.reduceLE, Int.reduceEq, Int.reduceNe, Int.reduceToNat, reduceCtorEq, codeKey, List.contains, List.elem, Ev.load, peek, pack, storeV, fieldAddr, field, cvB, hk, cast_succ, units_at h, get_new0, itoa_cv])
    · rw [if_pos (by assumption)] at h1
      exact ih _ (by omega) (i + 1) _ _ _ _ rfl (by omega) rfl hm0 (by omega) (by simp only [List.length_append]; omega) h1
    · rw [if_neg (by assumption)] at h1
      exact ih _ (by omega) (i + 1) _ _ _ _ rfl (by omega) rfl hd0 hd1 (by omega) h1
    · exfalso; omega
  · have : i = 6 := by omega
    subst this
    repeat' (first | (refine cond_by (F := ans) (fun _ => ?_) (fun _ => ?_)) | (refine wayK_by (F := ans) (fun _ hb => ?_) (fun _ hb => ?_) <;> simp only [hb]) | (refine wayK_byN (F := ans) (fun _ hb => ?_) (fun _ hb => ?_) <;> simp only [hb]) | (refine wayD_by (F := ans) (fun _ hb => ?_) (fun _ hb => ?_) <;> simp only [hb]) | (refine wayD_byN (F := ans) (fun _ hb => ?_) (fun _ hb => ?_) <;> simp only [hb]) | (refine rdK_by (F := ans) (fun _ => ?_) (fun _ => ?_)) | (refine effK_by (F := ans) (fun _ => ?_) (fun _ => ?_)) | (refine effK_by2 (F := ans) (fun _ => ?_) (fun _ => ?_)) | (refine rdD_by (F := ans) (fun _ => ?_) (fun _ => ?_)) | (refine effD_by (F := ans) (fun _ => ?_) (fun _ => ?_)) | (refine effD_by2 (F := ans) (fun _ => ?_) (fun _ => ?_)) | simp -implicitDefEqProofs (disch := first | omega | (simp only [List.length_append, List.length_cons, List.length_nil, List.length_drop, List.length_take]; omega)) only [evs, tys, lors, Nat.reduceAdd, Nat.reduceSub, Nat.reduceMul, Nat.reducePow, Nat.reduceBEq, Nat.reduceLT, Nat.reduceLeDiff, Nat.reduceEqDiff, Int.reduceLT, Int.reduceLE, Int.reduceEq, Int.reduceNe, Int.reduceToNat, reduceCtorEq, codeKey, List.contains, List.elem, Ev.load, peek, pack, storeV, fieldAddr, field, cvB, hk, cast_succ])
    exact h1 _ H

def spanL (d : Int) : List UInt8 := if d = 0 then [48, 115] else printF d
theorem printSpan_cv (d : Int) (H : Heap) : callV (CL lore) 10 [.int .i64 d] H = if 0 ≤ d ∧ d ≤ 2305843009213693952 then some (.tup [.str (bs (spanL d)), .int .i64 0], H) else some (.tup [.str (bs []), .int .i64 2], H) := by
  rw [callV_ans (r := if 0 ≤ d ∧ d ≤ 2305843009213693952 then some (.tup [.str (bs (spanL d)), .int .i64 0]) else some (.tup [.str (bs []), .int .i64 2])) ?_ (lore_shared 10) rfl H]
  · split <;> rfl
  rw [call_start lore_ext10 Tryd.func10 rfl lore_okf10 (Nat.le_of_ble_eq_true rfl)]
  unfold spanL
  repeat' (first | (refine cond_by (F := ans) (fun _ => ?_) (fun _ => ?_)) | (refine wayK_by (F := ans) (fun _ hb => ?_) (fun _ hb => ?_) <;> simp only [hb]) | (refine wayK_byN (F := ans) (fun _ hb => ?_) (fun _ hb => ?_) <;> simp only [hb]) | (refine wayD_by (F := ans) (fun _ hb => ?_) (fun _ hb => ?_) <;> simp only [hb]) | (refine wayD_byN (F := ans) (fun _ hb => ?_) (fun _ hb => ?_) <;> simp only [hb]) | (refine rdK_by (F := ans) (fun _ => ?_) (fun _ => ?_)) | (refine effK_by (F := ans) (fun _ => ?_) (fun _ => ?_)) | (refine effK_by2 (F := ans) (fun _ => ?_) (fun _ => ?_)) | (refine rdD_by (F := ans) (fun _ => ?_) (fun _ => ?_)) | (refine effD_by (F := ans) (fun _ => ?_) (fun _ => ?_)) | (refine effD_by2 (F := ans) (fun _ => ?_) (fun _ => ?_)) | simp -implicitDefEqProofs (disch := first | omega | (simp only [List.length_append, List.length_cons, List.length_nil, List.length_drop, List.length_take]; omega)) only [evs, tys, lors, Nat.reduceAdd, Nat.reduceSub, Nat.reduceMul, Nat.reducePow, Nat.reduceBEq, Nat.reduceLT, Nat.reduceLeDiff, Nat.reduceEqDiff, Int.reduceLT, Int.reduceLE, Int.reduceEq, Int.reduceNe, Int.reduceToNat, reduceCtorEq, codeKey, List.contains, List.elem, Ev.load, peek, pack, storeV, fieldAddr, field, cvB, moment_cv, units_cv, units_len])
  · rw [if_neg (by omega)]
  · rw [if_pos (by omega), if_pos (by omega)]
  · rw [if_pos (by omega), if_neg (by omega)]
    refine loop10 _ _ _ (by rfl) _ 0 _ d [] _ rfl (by omega) rfl (by omega) (by omega) (by simp) (fun x H' => ?_)
    repeat' (first | (refine cond_by (F := ans) (fun _ => ?_) (fun _ => ?_)) | (refine wayK_by (F := ans) (fun _ hb => ?_) (fun _ hb => ?_) <;> simp only [hb]) | (refine wayK_byN (F := ans) (fun _ hb => ?_) (fun _ hb => ?_) <;> simp only [hb]) | (refine wayD_by (F := ans) (fun _ hb => ?_) (fun _ hb => ?_) <;> simp only [hb]) | (refine wayD_byN (F := ans) (fun _ hb => ?_) (fun _ hb => ?_) <;> simp only [hb]) | (refine rdK_by (F := ans) (fun _ => ?_) (fun _ => ?_)) | (refine effK_by (F := ans) (fun _ => ?_) (fun _ => ?_)) | (refine effK_by2 (F := ans) (fun _ => ?_) (fun _ => ?_)) | (refine rdD_by (F := ans) (fun _ => ?_) (fun _ => ?_)) | (refine effD_by (F := ans) (fun _ => ?_) (fun _ => ?_)) | (refine effD_by2 (F := ans) (fun _ => ?_) (fun _ => ?_)) | simp -implicitDefEqProofs (disch := first | omega | (simp only [List.length_append, List.length_cons, List.length_nil, List.length_drop, List.length_take]; omega)) only [evs, tys, lors, Nat.reduceAdd, Nat.reduceSub, Nat.reduceMul, Nat.reducePow, Nat.reduceBEq, Nat.reduceLT, Nat.reduceLeDiff, Nat.reduceEqDiff, Int.reduceLT, Int.reduceLE, Int.reduceEq, Int.reduceNe, Int.reduceToNat, reduceCtorEq, codeKey, List.contains, List.elem, Ev.load, peek, pack, storeV, fieldAddr, field, cvB])
    rfl

theorem loop11 (K : Kont) (R : Option V) (a : Code) (ha : loopIn Tryd.prog 11 8 = some a) :
    ∀ (n i : Nat) (z d : Int) (acc : List UInt8) (H : Heap), 6 - i = n → i ≤ 6 → z = i → 0 ≤ d → d ≤ 2305843009213693952 → acc.length ≤ 100 * i →
    (∀ x H', ans (K (.exit 0) (Sl 39 .wild [(0, x), (5, .str (bs (printL (List.range' i (6 - i)) d acc))), (6, .int .i64 6)]) H') = R) →
    ans (loopL lore 11 a (Sl 39 .wild [(0, .int .i64 d), (5, .str (bs acc)), (6, .int .i64 z)]) H K) = R := by
  have hk := loop_key ha
  simp only [loopIn, Tryd.func11, Tryd.f11, loopAt, Option.bind_some, codeKey, if_true, Option.some.injEq, Nat.reduceEqDiff, if_false] at ha
  intro n
  induction n using Nat.strongRecOn with
  | _ n ih =>
  intro i z d acc H hn hi hz hd0 hd1 hl h1
  subst hz
  rw [loopL_step' ha]
  by_cases h : i < 6
  · have hnl := nameOf_len i
    have hns := nsOf_pos h
    rw [range6 h] at h1
    simp only [printL] at h1
    have hq0 := Int.ediv_nonneg hd0 (show 0 ≤ nsOf i by omega)
    have hq1 := Int.ediv_le_self (nsOf i) hd0
    have hm0 := Int.emod_nonneg d (show nsOf i ≠ 0 by omega)
    have hm1 := emod_le hd0 (nsOf i)
    have hil := itoa_len hq0 (by omega)
    have he : ((d / nsOf i).toNat : Int) = d / nsOf i := by omega
    have hdc := fun H => digitsd_cv (d / nsOf i).toNat (by omega) (d / nsOf i) (by omega) H
    rw [he] at hdc
    have hge : nsOf i ≤ d ↔ 0 < d / nsOf i := by
      have := Int.le_ediv_iff_mul_le (a := 1) (b := d) (show 0 < nsOf i by omega)
      omega
    repeat' (first | (refine cond_by (F := ans) (fun _ => ?_) (fun _ => ?_)) | (refine wayK_by (F := ans) (fun _ hb => ?_) (fun _ hb => ?_) <;> simp only [hb]) | (refine wayK_byN (F := ans) (fun _ hb => ?_) (fun _ hb => ?_) <;> simp only [hb]) | (refine wayD_by (F := ans) (fun _ hb => ?_) (fun _ hb => ?_) <;> simp only [hb]) | (refine wayD_byN (F := ans) (fun _ hb => ?_) (fun _ hb => ?_) <;> simp only [hb]) | (refine rdK_by (F := ans) (fun _ => ?_) (fun _ => ?_)) | (refine effK_by (F := ans) (fun _ => ?_) (fun _ => ?_)) | (refine effK_by2 (F := ans) (fun _ => ?_) (fun _ => ?_)) | (refine rdD_by (F := ans) (fun _ => ?_) (fun _ => ?_)) | (refine effD_by (F := ans) (fun _ => ?_) (fun _ => ?_)) | (refine effD_by2 (F := ans) (fun _ => ?_) (fun _ => ?_)) | simp -implicitDefEqProofs (disch := first | omega | (simp only [List.length_append, List.length_cons, List.length_nil, List.length_drop, List.length_take]; omega)) only [evs, tys, lors, Nat.reduceAdd, Nat.reduceSub, Nat.reduceMul, Nat.reducePow, Nat.reduceBEq, Nat.reduceLT, Nat.reduceLeDiff, Nat.reduceEqDiff, Int.reduceLT, Int.reduceLE, Int.reduceEq, Int.reduceNe, Int.reduceToNat, reduceCtorEq, codeKey, List.contains, List.elem, Ev.load, peek, pack, storeV, fieldAddr, field, cvB, hk, cast_succ, unitd_cv h, hdc])
    · rw [if_pos (by omega)] at h1
      refine ih _ (by omega) (i + 1) _ _ _ _ rfl (by omega) rfl hm0 (by omega) (by simp only [List.length_append]; omega) (fun x H' => ?_)
      rw [List.append_assoc]
      exact h1 x H'
    · rw [if_neg (by omega)] at h1
      exact ih _ (by omega) (i + 1) _ _ _ _ rfl (by omega) rfl hd0 hd1 (by omega) h1
    · exfalso; omega
  · have : i = 6 := by omega
    subst this
    repeat' (first | (refine cond_by (F := ans) (fun _ => ?_) (fun _ => ?_)) | (refine wayK_by (F := ans) (fun _ hb => ?_) (fun _ hb => ?_) <;> simp only [hb]) | (refine wayK_byN (F := ans) (fun _ hb => ?_) (fun _ hb => ?_) <;> simp only [hb]) | (refine wayD_by (F := ans) (fun _ hb => ?_) (fun _ hb => ?_) <;> simp only [hb]) | (refine wayD_byN (F := ans) (fun _ hb => ?_) (fun _ hb => ?_) <;> simp only [hb]) | (refine rdK_by (F := ans) (fun _ => ?_) (fun _ => ?_)) | (refine effK_by (F := ans) (fun _ => ?_) (fun _ => ?_)) | (refine effK_by2 (F := ans) (fun _ => ?_) (fun _ => ?_)) | (refine rdD_by (F := ans) (fun _ => ?_) (fun _ => ?_)) | (refine effD_by (F := ans) (fun _ => ?_) (fun _ => ?_)) | (refine effD_by2 (F := ans) (fun _ => ?_) (fun _ => ?_)) | simp -implicitDefEqProofs (disch := first | omega | (simp only [List.length_append, List.length_cons, List.length_nil, List.length_drop, List.length_take]; omega)) only [evs, tys, lors, Nat.reduceAdd, Nat.reduceSub, Nat.reduceMul, Nat.reducePow, Nat.reduceBEq, Nat.reduceLT, Nat.reduceLeDiff, Nat.reduceEqDiff, Int.reduceLT, Int.reduceLE, Int.reduceEq, Int.reduceNe, Int.reduceToNat, reduceCtorEq, codeKey, List.contains, List.elem, Ev.load, peek, pack, storeV, fieldAddr, field, cvB, hk, cast_succ])
    exact h1 _ H
theorem printSpand_cv (d : Int) (H : Heap) : callV (CL lore) 11 [.int .i64 d] H = if 0 ≤ d ∧ d ≤ 2305843009213693952 then some (.tup [.str (bs (spanL d)), .int .i64 0], H) else some (.tup [.str (bs []), .int .i64 2], H) := by
  rw [callV_ans (r := if 0 ≤ d ∧ d ≤ 2305843009213693952 then some (.tup [.str (bs (spanL d)), .int .i64 0]) else some (.tup [.str (bs []), .int .i64 2])) ?_ (lore_shared 11) rfl H]
  · split <;> rfl
  rw [call_start lore_ext11 Tryd.func11 rfl lore_okf11 (Nat.le_of_ble_eq_true rfl)]
  unfold spanL
  repeat' (first | (refine cond_by (F := ans) (fun _ => ?_) (fun _ => ?_)) | (refine wayK_by (F := ans) (fun _ hb => ?_) (fun _ hb => ?_) <;> simp only [hb]) | (refine wayK_byN (F := ans) (fun _ hb => ?_) (fun _ hb => ?_) <;> simp only [hb]) | (refine wayD_by (F := ans) (fun _ hb => ?_) (fun _ hb => ?_) <;> simp only [hb]) | (refine wayD_byN (F := ans) (fun _ hb => ?_) (fun _ hb => ?_) <;> simp only [hb]) | (refine rdK_by (F := ans) (fun _ => ?_) (fun _ => ?_)) | (refine effK_by (F := ans) (fun _ => ?_) (fun _ => ?_)) | (refine effK_by2 (F := ans) (fun _ => ?_) (fun _ => ?_)) | (refine rdD_by (F := ans) (fun _ => ?_) (fun _ => ?_)) | (refine effD_by (F := ans) (fun _ => ?_) (fun _ => ?_)) | (refine effD_by2 (F := ans) (fun _ => ?_) (fun _ => ?_)) | simp -implicitDefEqProofs (disch := first | omega | (simp only [List.length_append, List.length_cons, List.length_nil, List.length_drop, List.length_take]; omega)) only [evs, tys, lors, Nat.reduceAdd, Nat.reduceSub, Nat.reduceMul, Nat.reducePow, Nat.reduceBEq, Nat.reduceLT, Nat.reduceLeDiff, Nat.reduceEqDiff, Int.reduceLT, Int.reduceLE, Int.reduceEq, Int.reduceNe, Int.reduceToNat, reduceCtorEq, codeKey, List.contains, List.elem, Ev.load, peek, pack, storeV, fieldAddr, field, cvB, span_cv])
  · rw [if_neg (by omega)]
  · rw [if_pos (by omega), if_pos (by omega)]
  · rw [if_pos (by omega), if_neg (by omega)]
    refine loop11 _ _ _ (by rfl) _ 0 _ d [] _ rfl (by omega) rfl (by omega) (by omega) (by simp) (fun x H' => ?_)
    repeat' (first | (refine cond_by (F := ans) (fun _ => ?_) (fun _ => ?_)) | (refine wayK_by (F := ans) (fun _ hb => ?_) (fun _ hb => ?_) <;> simp only [hb]) | (refine wayK_byN (F := ans) (fun _ hb => ?_) (fun _ hb => ?_) <;> simp only [hb]) | (refine wayD_by (F := ans) (fun _ hb => ?_) (fun _ hb => ?_) <;> simp only [hb]) | (refine wayD_byN (F := ans) (fun _ hb => ?_) (fun _ hb => ?_) <;> simp only [hb]) | (refine rdK_by (F := ans) (fun _ => ?_) (fun _ => ?_)) | (refine effK_by (F := ans) (fun _ => ?_) (fun _ => ?_)) | (refine effK_by2 (F := ans) (fun _ => ?_) (fun _ => ?_)) | (refine rdD_by (F := ans) (fun _ => ?_) (fun _ => ?_)) | (refine effD_by (F := ans) (fun _ => ?_) (fun _ => ?_)) | (refine effD_by2 (F := ans) (fun _ => ?_) (fun _ => ?_)) | simp -implicitDefEqProofs (disch := first | omega | (simp only [List.length_append, List.length_cons, List.length_nil, List.length_drop, List.length_take]; omega)) only [evs, tys, lors, Nat.reduceAdd, Nat.reduceSub, Nat.reduceMul, Nat.reducePow, Nat.reduceBEq, Nat.reduceLT, Nat.reduceLeDiff, Nat.reduceEqDiff, Int.reduceLT, Int.reduceLE, Int.reduceEq, Int.reduceNe, Int.reduceToNat, reduceCtorEq, codeKey, List.contains, List.elem, Ev.load, peek, pack, storeV, fieldAddr, field, cvB])
    rfl
end Go.Proofs.YtgoillhmgpokoaaDoor
