/-
ParseSpan, both.
-/
import Derived.Test.YtgoillhmgpokoaaDoorG3
namespace Go.Proofs.YtgoillhmgpokoaaDoor
open Go Ev
set_option linter.all false
set_option maxHeartbeats 4000000
set_option maxRecDepth 5000
attribute [local irreducible] codeL condL loopL callL callV evOps evDraw rdK effK wayK oneK wayD oneD rdD effD chks chkB res

theorem named_unit (s : List UInt8) (frm : Nat) (h : frm ≤ 6) : (namedF s frm).1 = unitF s frm ∧ (unitF s frm = none → (namedF s frm).2 = farF s frm) := by
  have hf : frm = 0 ∨ frm = 1 ∨ frm = 2 ∨ frm = 3 ∨ frm = 4 ∨ frm = 5 ∨ frm = 6 := by omega
  match s with
  | [] => rcases hf with rfl | rfl | rfl | rfl | rfl | rfl | rfl <;> decide
  | [a] =>
    by_cases h1 : a.toNat = 104
    · rcases hf with rfl | rfl | rfl | rfl | rfl | rfl | rfl <;> simp [namedF, namedL, unitF, bestL, stepU, stepD, cpl, farF, farL, farU, nameOf, unitTab, List.range', h1]
    by_cases h2 : a.toNat = 109
    · rcases hf with rfl | rfl | rfl | rfl | rfl | rfl | rfl <;> simp [namedF, namedL, unitF, bestL, stepU, stepD, cpl, farF, farL, farU, nameOf, unitTab, List.range', h2]
    by_cases h3 : a.toNat = 115
    · rcases hf with rfl | rfl | rfl | rfl | rfl | rfl | rfl <;> simp [namedF, namedL, unitF, bestL, stepU, stepD, cpl, farF, farL, farU, nameOf, unitTab, List.range', h3]
    by_cases h4 : a.toNat = 117
    · rcases hf with rfl | rfl | rfl | rfl | rfl | rfl | rfl <;> simp [namedF, namedL, unitF, bestL, stepU, stepD, cpl, farF, farL, farU, nameOf, unitTab, List.range', h4]
    by_cases h5 : a.toNat = 110
    · rcases hf with rfl | rfl | rfl | rfl | rfl | rfl | rfl <;> simp [namedF, namedL, unitF, bestL, stepU, stepD, cpl, farF, farL, farU, nameOf, unitTab, List.range', h5]
    · rcases hf with rfl | rfl | rfl | rfl | rfl | rfl | rfl <;> simp [namedF, namedL, unitF, bestL, stepU, stepD, cpl, farF, farL, farU, nameOf, unitTab, List.range', h1, h2, h3, h4, h5]
  | a :: b :: r =>
    by_cases hb : b.toNat = 115
    · by_cases h1 : a.toNat = 104
      · rcases hf with rfl | rfl | rfl | rfl | rfl | rfl | rfl <;> simp [namedF, namedL, unitF, bestL, stepU, stepD, cpl, farF, farL, farU, nameOf, unitTab, List.range', h1, hb]
      by_cases h2 : a.toNat = 109
      · rcases hf with rfl | rfl | rfl | rfl | rfl | rfl | rfl <;> simp [namedF, namedL, unitF, bestL, stepU, stepD, cpl, farF, farL, farU, nameOf, unitTab, List.range', h2, hb]
      by_cases h3 : a.toNat = 115
      · rcases hf with rfl | rfl | rfl | rfl | rfl | rfl | rfl <;> simp [namedF, namedL, unitF, bestL, stepU, stepD, cpl, farF, farL, farU, nameOf, unitTab, List.range', h3, hb]
      by_cases h4 : a.toNat = 117
      · rcases hf with rfl | rfl | rfl | rfl | rfl | rfl | rfl <;> simp [namedF, namedL, unitF, bestL, stepU, stepD, cpl, farF, farL, farU, nameOf, unitTab, List.range', h4, hb]
      by_cases h5 : a.toNat = 110
      · rcases hf with rfl | rfl | rfl | rfl | rfl | rfl | rfl <;> simp [namedF, namedL, unitF, bestL, stepU, stepD, cpl, farF, farL, farU, nameOf, unitTab, List.range', h5, hb]
      · rcases hf with rfl | rfl | rfl | rfl | rfl | rfl | rfl <;> simp [namedF, namedL, unitF, bestL, stepU, stepD, cpl, farF, farL, farU, nameOf, unitTab, List.range', h1, h2, h3, h4, h5, hb]
    · by_cases h1 : a.toNat = 104
      · rcases hf with rfl | rfl | rfl | rfl | rfl | rfl | rfl <;> simp [namedF, namedL, unitF, bestL, stepU, stepD, cpl, farF, farL, farU, nameOf, unitTab, List.range', h1, hb]
      by_cases h2 : a.toNat = 109
      · rcases hf with rfl | rfl | rfl | rfl | rfl | rfl | rfl <;> simp [namedF, namedL, unitF, bestL, stepU, stepD, cpl, farF, farL, farU, nameOf, unitTab, List.range', h2, hb]
      by_cases h3 : a.toNat = 115
      · rcases hf with rfl | rfl | rfl | rfl | rfl | rfl | rfl <;> simp [namedF, namedL, unitF, bestL, stepU, stepD, cpl, farF, farL, farU, nameOf, unitTab, List.range', h3, hb]
      by_cases h4 : a.toNat = 117
      · rcases hf with rfl | rfl | rfl | rfl | rfl | rfl | rfl <;> simp [namedF, namedL, unitF, bestL, stepU, stepD, cpl, farF, farL, farU, nameOf, unitTab, List.range', h4, hb]
      by_cases h5 : a.toNat = 110
      · rcases hf with rfl | rfl | rfl | rfl | rfl | rfl | rfl <;> simp [namedF, namedL, unitF, bestL, stepU, stepD, cpl, farF, farL, farU, nameOf, unitTab, List.range', h5, hb]
      · rcases hf with rfl | rfl | rfl | rfl | rfl | rfl | rfl <;> simp [namedF, namedL, unitF, bestL, stepU, stepD, cpl, farF, farL, farU, nameOf, unitTab, List.range', h1, h2, h3, h4, h5, hb]

theorem nameOf_pos {i : Nat} (h : i < 6) : 1 ≤ (nameOf i).length := by
  rcases lt6 h with rfl | rfl | rfl | rfl | rfl | rfl <;> simp [nameOf, unitTab]
/-- Behind a digit stands no unit. -/
theorem named_digit (b : UInt8) (r : List UInt8) (hb : isDig b) (frm : Nat) (h : frm ≤ 6) : namedF (b :: r) frm = (none, 0) := by
  unfold isDig at hb
  have h1 : ¬ b.toNat = 104 := by omega
  have h2 : ¬ b.toNat = 109 := by omega
  have h3 : ¬ b.toNat = 115 := by omega
  have h4 : ¬ b.toNat = 117 := by omega
  have h5 : ¬ b.toNat = 110 := by omega
  have hf : frm = 0 ∨ frm = 1 ∨ frm = 2 ∨ frm = 3 ∨ frm = 4 ∨ frm = 5 ∨ frm = 6 := by omega
  rcases hf with rfl | rfl | rfl | rfl | rfl | rfl | rfl <;> simp [namedF, namedL, stepU, cpl, nameOf, unitTab, List.range', h1, h2, h3, h4, h5]
theorem unitF_lt {s : List UInt8} {frm j : Nat} (h : unitF s frm = some j) : j < 6 :=
  bestL_lt _ _ _ (fun i hi => by have := List.mem_range'_1.1 hi; omega) (fun j hj => by cases hj) j h

/-- What a span's text says: the amount, the error's number, the place. -/
def parseL : Nat → List UInt8 → Nat → Int → Nat → Int × Int × Nat
  | 0, _, _, _, pos => (0, 20, pos)
  | k + 1, t, frm, sum, pos =>
    if digitsL t = 0 ∨ frm = 6 then (0, 20, pos) else
    match unitF (t.drop (digitsL t)) frm with
    | none => (0, 20, pos + digitsL t + (namedF (t.drop (digitsL t)) frm).2)
    | some j =>
      if (2305843009213693952 - sum) / nsOf j < (valO 2305843009213693952 0 (t.take (digitsL t))).getD (2305843009213693952 + 1) then (0, 2, pos)
      else if t.drop (digitsL t + (nameOf j).length) = [] then (sum + (valO 2305843009213693952 0 (t.take (digitsL t))).getD (2305843009213693952 + 1) * nsOf j, 0, 0)
      else parseL k (t.drop (digitsL t + (nameOf j).length)) (j + 1) (sum + (valO 2305843009213693952 0 (t.take (digitsL t))).getD (2305843009213693952 + 1) * nsOf j) (pos + digitsL t + (nameOf j).length)

theorem take_digitsL (t : List UInt8) : ∀ b ∈ t.take (digitsL t), isDig b := by
  intro b hb
  refine take_digL t b ?_
  unfold digitsL at hb
  split at hb
  · rename_i h
    rw [show digL t = 1 + (digL t - 1) by omega, List.take_add]
    exact List.mem_append_left _ hb
  · exact hb
theorem valO_range (l : List UInt8) (hd : ∀ b ∈ l, isDig b) (most : Int) (hm : 9 ≤ most) : 0 ≤ (valO most 0 l).getD (most + 1) ∧ (valO most 0 l).getD (most + 1) ≤ most + 1 := by
  cases h : valO most 0 l with
  | none => simp only [Option.getD_none]; omega
  | some v =>
    have := valO_bound hm l 0 v hd (by omega) (by omega) h
    simp only [Option.getD_some]; omega
theorem mul_room {x y s m : Int} (hx : 0 ≤ x) (hy : 1 ≤ y) (hs : s ≤ m) (h : ¬ (m - s) / y < x) : 0 ≤ x * y ∧ s + x * y ≤ m := by
  refine ⟨Int.mul_nonneg hx (by omega), ?_⟩
  have h1 : x ≤ (m - s) / y := by omega
  have h2 := Int.mul_le_mul_of_nonneg_right h1 (by omega : 0 ≤ y)
  have h3 := Int.ediv_mul_le (m - s) (show y ≠ 0 by omega)
  omega
theorem cast_addN (a b : Nat) : (a : Int) + (b : Int) = ((a + b : Nat) : Int) := rfl
theorem take_drop_add (s : List UInt8) (p n : Nat) : (s.take (p + n)).drop p = (s.drop p).take n := by
  rw [List.drop_take, show p + n - p = n by omega]
theorem drop_nil {s : List UInt8} {n : Nat} : s.drop n = [] ↔ s.length ≤ n := List.drop_eq_nil_iff

theorem bestL_pfx (s : List UInt8) : ∀ (l : List Nat) (a : Option Nat), (∀ j, a = some j → cpl (nameOf j) s = (nameOf j).length) → ∀ j, bestL s l a = some j → cpl (nameOf j) s = (nameOf j).length
  | [], a, ha => ha
  | i :: r, a, ha => by
    refine bestL_pfx s r _ (fun j hj => ?_)
    cases a with
    | none =>
      simp only [stepD] at hj
      split at hj
      · cases hj; assumption
      · cases hj
    | some q =>
      simp only [stepD] at hj
      split at hj
      · rename_i h; cases hj; exact h.1
      · cases hj; exact ha _ rfl
theorem unitF_pfx {s : List UInt8} {frm j : Nat} (h : unitF s frm = some j) : (nameOf j).length ≤ s.length := by
  have := bestL_pfx s _ none (fun j hj => by cases hj) j h
  have := cpl_le_right (nameOf j) s
  omega
theorem bestL_mem (s : List UInt8) : ∀ (l : List Nat) (a : Option Nat) (j : Nat), bestL s l a = some j → j ∈ l ∨ a = some j
  | [], a, j, h => .inr h
  | i :: r, a, j, h => by
    rcases bestL_mem s r _ j h with h | h
    · exact .inl (List.mem_cons_of_mem _ h)
    · cases a with
      | none =>
        simp only [stepD] at h
        split at h
        · cases h; exact .inl (by simp)
        · cases h
      | some q =>
        simp only [stepD] at h
        split at h
        · cases h; exact .inl (by simp)
        · exact .inr h
theorem unitF_ge {s : List UInt8} {frm j : Nat} (h : unitF s frm = some j) : frm ≤ j := by
  rcases bestL_mem s _ none j h with h | h
  · exact (List.mem_range'_1.1 h).1
  · cases h
theorem farL_le (s : List UInt8) : ∀ (l : List Nat) (a : Nat), a ≤ 1 → farL s l a ≤ 1
  | [], a, h => h
  | i :: r, a, h => by
    simp only [farL]
    refine farL_le s r _ ?_
    split <;> omega
theorem loop12_end (s : List UInt8) (hs : s.length < 4611686018427387904) (K : Kont) (R : Option V) (a : Code) (ha : loopIn Tryd.prog 12 4 = some a) (p : Nat) (hp : s.length ≤ p) (hp0 : 1 ≤ p) (v w : V) (H : Heap)
    (h1 : ans (K (.exit 0) (Sl 83 .wild [(0, .str (bs s)), (2, .int .i64 0), (3, .int .i64 0), (4, .int .i64 0), (5, v), (6, w), (7, .int .i64 (p : Int))]) H) = R) :
    ans (loopL lore 12 a (Sl 83 .wild [(0, .str (bs s)), (2, .int .i64 0), (3, .int .i64 0), (4, .int .i64 0), (5, v), (6, w), (7, .int .i64 (p : Int))]) H K) = R := by
  have hk := loop_key ha
  simp only [loopIn, Tryd.func12, Tryd.f12, loopAt, Option.bind_some, codeKey, if_true, Option.some.injEq, Nat.reduceEqDiff, if_false] at ha
  rw [loopL_step' ha]
  repeat' (first | (refine cond_by (F := ans) (fun _ => ?_) (fun _ => ?_)) | (refine wayK_by (F := ans) (fun _ hb => ?_) (fun _ hb => ?_) <;> simp only [hb]) | (refine wayK_byN (F := ans) (fun _ hb => ?_) (fun _ hb => ?_) <;> simp only [hb]) | (refine wayD_by (F := ans) (fun _ hb => ?_) (fun _ hb => ?_) <;> simp only [hb]) | (refine wayD_byN (F := ans) (fun _ hb => ?_) (fun _ hb => ?_) <;> simp only [hb]) | (refine rdK_by (F := ans) (fun _ => ?_) (fun _ => ?_)) | (refine effK_by (F := ans) (fun _ => ?_) (fun _ => ?_)) | (refine effK_by2 (F := ans) (fun _ => ?_) (fun _ => ?_)) | (refine rdD_by (F := ans) (fun _ => ?_) (fun _ => ?_)) | (refine effD_by (F := ans) (fun _ => ?_) (fun _ => ?_)) | (refine effD_by2 (F := ans) (fun _ => ?_) (fun _ => ?_)) | simp -implicitDefEqProofs (disch := first | omega | (simp only [List.length_append, List.length_cons, List.length_nil, List.length_drop, List.length_take]; omega)) only [evs, tys, lors, Nat.reduceAdd, Nat.reduceSub, Nat.reduceMul, Nat.reducePow, Nat.reduceBEq, Nat.reduceLT, Nat.reduceLeDiff, Nat.reduceEqDiff, Int.reduceLT, Int.reduceLE, Int.reduceEq, Int.reduceNe, Int.reduceToNat, reduceCtorEq, codeKey, List.contains, List.elem, Ev.load, peek, pack, storeV, fieldAddr, field, cvB, hk])
  all_goals first
    | (exfalso; omega)
    | exact h1

theorem loop12 (s : List UInt8) (hs : s.length < 4611686018427387904) (K : Kont) (R : Option V) (a : Code) (ha : loopIn Tryd.prog 12 4 = some a) :
    ∀ (k p frm : Nat) (z y : Int) (sum : Int) (H : Heap), 7 - frm ≤ k → p < s.length ∨ p = 0 → z = p → y = frm → frm ≤ 6 → 0 ≤ sum → sum ≤ 2305843009213693952 → p ≤ s.length →
    (∀ (e : Int) (pl : Nat) (u v w : V) (H' : Heap), parseL k (s.drop p) frm sum p = (0, e, pl) → ¬ e = 0 → ans (K .ret (Sl 83 .wild [(0, .str (bs s)), (2, .int .i64 0), (3, .int .i64 e), (4, .int .i64 (pl : Nat)), (5, u), (6, v), (7, w)]) H') = R) →
    (∀ (n : Int) (v w : V) (H' : Heap), parseL k (s.drop p) frm sum p = (n, 0, 0) → ans (K (.exit 0) (Sl 83 .wild [(0, .str (bs s)), (2, .int .i64 0), (3, .int .i64 0), (4, .int .i64 0), (5, .int .i64 n), (6, v), (7, w)]) H') = R) →
    ans (loopL lore 12 a (Sl 83 .wild [(0, .str (bs s)), (2, .int .i64 0), (3, .int .i64 0), (4, .int .i64 0), (5, .int .i64 sum), (6, .int .i64 y), (7, .int .i64 z)]) H K) = R := by
  have hend := loop12_end s hs K R a ha
  have hk := loop_key ha
  simp only [loopIn, Tryd.func12, Tryd.f12, loopAt, Option.bind_some, codeKey, if_true, Option.some.injEq, Nat.reduceEqDiff, if_false] at ha
  intro k
  induction k with
  | zero => intro p frm z y sum H h; omega
  | succ k ih =>
  intro p frm z y sum H hk' hp hz hy hf hs0 hs1 hps h2 h1
  subst hz
  subst hy
  rw [loopL_step' ha]
  have hdl : (s.drop p).length = s.length - p := List.length_drop
  have hn := digitsL_le (s.drop p)
  have hdig := take_digitsL (s.drop p)
  have hu := named_unit ((s.drop p).drop (digitsL (s.drop p))) frm hf
  simp only [parseL, List.drop_drop] at h1 h2
  rw [List.drop_drop] at hu
  by_cases hA : digitsL (s.drop p) = 0 ∨ frm = 6
  · rw [if_pos hA] at h1 h2
    repeat' (first | (refine cond_by (F := ans) (fun _ => ?_) (fun _ => ?_)) | (refine wayK_by (F := ans) (fun _ hb => ?_) (fun _ hb => ?_) <;> simp only [hb]) | (refine wayK_byN (F := ans) (fun _ hb => ?_) (fun _ hb => ?_) <;> simp only [hb]) | (refine wayD_by (F := ans) (fun _ hb => ?_) (fun _ hb => ?_) <;> simp only [hb]) | (refine wayD_byN (F := ans) (fun _ hb => ?_) (fun _ hb => ?_) <;> simp only [hb]) | (refine rdK_by (F := ans) (fun _ => ?_) (fun _ => ?_)) | (refine effK_by (F := ans) (fun _ => ?_) (fun _ => ?_)) | (refine effK_by2 (F := ans) (fun _ => ?_) (fun _ => ?_)) | (refine rdD_by (F := ans) (fun _ => ?_) (fun _ => ?_)) | (refine effD_by (F := ans) (fun _ => ?_) (fun _ => ?_)) | (refine effD_by2 (F := ans) (fun _ => ?_) (fun _ => ?_)) | simp -implicitDefEqProofs (disch := first | omega | (simp only [List.length_append, List.length_cons, List.length_nil, List.length_drop, List.length_take]; omega)) only [evs, tys, lors, Nat.reduceAdd, Nat.reduceSub, Nat.reduceMul, Nat.reducePow, Nat.reduceBEq, Nat.reduceLT, Nat.reduceLeDiff, Nat.reduceEqDiff, Int.reduceLT, Int.reduceLE, Int.reduceEq, Int.reduceNe, Int.reduceToNat, reduceCtorEq, codeKey, List.contains, List.elem, Ev.load, peek, pack, storeV, fieldAddr, field, cvB, hk, cast_succ, digits_cv, cast_addN, List.take_length, units_cv, units_len])
    all_goals first
      | (exfalso; omega)
      | exact h2 _ _ _ _ _ _ rfl (by decide)
  · rw [if_neg hA] at h1 h2
    cases hU : unitF (s.drop (p + digitsL (s.drop p))) frm with
    | none =>
      rw [hU] at h1 h2 hu
      have e1 : optI (namedF (s.drop (p + digitsL (s.drop p))) frm).1 = -1 := by rw [hu.1]; rfl
      have e2 : (namedF (s.drop (p + digitsL (s.drop p))) frm).2 ≤ 1 := by rw [hu.2 rfl]; exact farL_le _ _ _ (by omega)
      repeat' (first | (refine cond_by (F := ans) (fun _ => ?_) (fun _ => ?_)) | (refine wayK_by (F := ans) (fun _ hb => ?_) (fun _ hb => ?_) <;> simp only [hb]) | (refine wayK_byN (F := ans) (fun _ hb => ?_) (fun _ hb => ?_) <;> simp only [hb]) | (refine wayD_by (F := ans) (fun _ hb => ?_) (fun _ hb => ?_) <;> simp only [hb]) | (refine wayD_byN (F := ans) (fun _ hb => ?_) (fun _ hb => ?_) <;> simp only [hb]) | (refine rdK_by (F := ans) (fun _ => ?_) (fun _ => ?_)) | (refine effK_by (F := ans) (fun _ => ?_) (fun _ => ?_)) | (refine effK_by2 (F := ans) (fun _ => ?_) (fun _ => ?_)) | (refine rdD_by (F := ans) (fun _ => ?_) (fun _ => ?_)) | (refine effD_by (F := ans) (fun _ => ?_) (fun _ => ?_)) | (refine effD_by2 (F := ans) (fun _ => ?_) (fun _ => ?_)) | simp -implicitDefEqProofs (disch := first | omega | (simp only [List.length_append, List.length_cons, List.length_nil, List.length_drop, List.length_take]; omega)) only [evs, tys, lors, Nat.reduceAdd, Nat.reduceSub, Nat.reduceMul, Nat.reducePow, Nat.reduceBEq, Nat.reduceLT, Nat.reduceLeDiff, Nat.reduceEqDiff, Int.reduceLT, Int.reduceLE, Int.reduceEq, Int.reduceNe, Int.reduceToNat, reduceCtorEq, codeKey, List.contains, List.elem, Ev.load, peek, pack, storeV, fieldAddr, field, cvB, hk, cast_succ, digits_cv, cast_addN, List.take_length, named_cv, units_cv, units_len, e1])
      all_goals first
        | (exfalso; omega)
        | exact h2 _ _ _ _ _ _ rfl (by decide)
    | some j =>
      have hj := unitF_lt hU
      have hge := unitF_ge hU
      have hpf := unitF_pfx hU
      rw [List.length_drop] at hpf
      have hnl := nameOf_len j
      have hnp := nameOf_pos hj
      have hns := nsOf_pos hj
      rw [hU] at h1 h2 hu
      simp only at h1 h2
      have e1 : optI (namedF (s.drop (p + digitsL (s.drop p))) frm).1 = (j : Int) := by rw [hu.1]; rfl
      have hv := valO_range _ hdig 2305843009213693952 (by decide)
      have hval := fun H => value_cv _ (by rw [List.length_take]; omega) 2305843009213693952 (by decide) (by decide) hdig H
      generalize (valO 2305843009213693952 0 ((s.drop p).take (digitsL (s.drop p)))).getD (2305843009213693952 + 1) = x at *
      have hmr := mul_room (x := x) hv.1 hns.1 hs1
      repeat' (first | (refine cond_by (F := ans) (fun _ => ?_) (fun _ => ?_)) | (refine wayK_by (F := ans) (fun _ hb => ?_) (fun _ hb => ?_) <;> simp only [hb]) | (refine wayK_byN (F := ans) (fun _ hb => ?_) (fun _ hb => ?_) <;> simp only [hb]) | (refine wayD_by (F := ans) (fun _ hb => ?_) (fun _ hb => ?_) <;> simp only [hb]) | (refine wayD_byN (F := ans) (fun _ hb => ?_) (fun _ hb => ?_) <;> simp only [hb]) | (refine rdK_by (F := ans) (fun _ => ?_) (fun _ => ?_)) | (refine effK_by (F := ans) (fun _ => ?_) (fun _ => ?_)) | (refine effK_by2 (F := ans) (fun _ => ?_) (fun _ => ?_)) | (refine rdD_by (F := ans) (fun _ => ?_) (fun _ => ?_)) | (refine effD_by (F := ans) (fun _ => ?_) (fun _ => ?_)) | (refine effD_by2 (F := ans) (fun _ => ?_) (fun _ => ?_)) | simp -implicitDefEqProofs (disch := first | omega | (simp only [List.length_append, List.length_cons, List.length_nil, List.length_drop, List.length_take]; omega)) only [evs, tys, lors, Nat.reduceAdd, Nat.reduceSub, Nat.reduceMul, Nat.reducePow, Nat.reduceBEq, Nat.reduceLT, Nat.reduceLeDiff, Nat.reduceEqDiff, Int.reduceLT, Int.reduceLE, Int.reduceEq, Int.reduceNe, Int.reduceToNat, reduceCtorEq, codeKey, List.contains, List.elem, Ev.load, peek, pack, storeV, fieldAddr, field, cvB, hk, cast_succ, digits_cv, cast_addN, List.take_length, named_cv, units_cv, units_len, e1, units_at hj, get_new0, take_drop_add, hval])
      all_goals try (exfalso; omega)
      all_goals first
        | (rw [if_pos (by assumption)] at h2; exact h2 _ _ _ _ _ _ rfl (by decide))
        | skip
      all_goals
        rw [if_neg (by assumption)] at h1 h2
        by_cases hnil : s.drop (p + (digitsL (s.drop p) + (nameOf j).length)) = []
        · rw [if_pos hnil] at h1
          rw [drop_nil] at hnil
          exact hend _ (by omega) (by omega) _ _ _ (h1 _ _ _ _ rfl)
        · rw [if_neg hnil] at h1 h2
          rw [drop_nil] at hnil
          rw [← Nat.add_assoc] at h1 h2
          exact ih _ (j + 1) _ _ _ _ (by omega) (.inl (by omega)) rfl rfl (by omega) (by omega) (by omega) (by omega) h2 h1

theorem parseL_cases : ∀ (k : Nat) (t : List UInt8) (frm : Nat) (sum : Int) (pos : Nat), (∃ e pl, parseL k t frm sum pos = (0, e, pl) ∧ ¬ e = 0) ∨ ∃ n, parseL k t frm sum pos = (n, 0, 0)
  | 0, t, frm, sum, pos => .inl ⟨20, pos, rfl, by decide⟩
  | k + 1, t, frm, sum, pos => by
    simp only [parseL]
    split
    · exact .inl ⟨20, pos, rfl, by decide⟩
    · split
      · exact .inl ⟨20, _, rfl, by decide⟩
      · split
        · exact .inl ⟨2, pos, rfl, by decide⟩
        · split
          · exact .inr ⟨_, rfl⟩
          · exact parseL_cases k _ _ _ _
def parseF (s : List UInt8) : Int × Int × Nat := parseL 7 s 0 0 0
def parseV (s : List UInt8) : V := .tup [.int .i64 (parseF s).1, .int .i64 (parseF s).2.1, .int .i64 ((parseF s).2.2 : Nat)]
theorem parseSpan_cv (s : List UInt8) (hs : s.length < 4611686018427387904) (H : Heap) : callV (CL lore) 12 [.str (bs s)] H = some (parseV s, H) := by
  refine callV_ans (r := some _) ?_ (lore_shared 12) rfl H
  rw [call_start lore_ext12 Tryd.func12 rfl lore_okf12 (Nat.le_of_ble_eq_true rfl)]
  repeat' (first | (refine cond_by (F := ans) (fun _ => ?_) (fun _ => ?_)) | (refine wayK_by (F := ans) (fun _ hb => ?_) (fun _ hb => ?_) <;> simp only [hb]) | (refine wayK_byN (F := ans) (fun _ hb => ?_) (fun _ hb => ?_) <;> simp only [hb]) | (refine wayD_by (F := ans) (fun _ hb => ?_) (fun _ hb => ?_) <;> simp only [hb]) | (refine wayD_byN (F := ans) (fun _ hb => ?_) (fun _ hb => ?_) <;> simp only [hb]) | (refine rdK_by (F := ans) (fun _ => ?_) (fun _ => ?_)) | (refine effK_by (F := ans) (fun _ => ?_) (fun _ => ?_)) | (refine effK_by2 (F := ans) (fun _ => ?_) (fun _ => ?_)) | (refine rdD_by (F := ans) (fun _ => ?_) (fun _ => ?_)) | (refine effD_by (F := ans) (fun _ => ?_) (fun _ => ?_)) | (refine effD_by2 (F := ans) (fun _ => ?_) (fun _ => ?_)) | simp -implicitDefEqProofs (disch := first | omega | (simp only [List.length_append, List.length_cons, List.length_nil, List.length_drop, List.length_take]; omega)) only [evs, tys, lors, Nat.reduceAdd, Nat.reduceSub, Nat.reduceMul, Nat.reducePow, Nat.reduceBEq, Nat.reduceLT, Nat.reduceLeDiff, Nat.reduceEqDiff, Int.reduceLT, Int.reduceLE, Int.reduceEq, Int.reduceNe, Int.reduceToNat, reduceCtorEq, codeKey, List.contains, List.elem, Ev.load, peek, pack, storeV, fieldAddr, field, cvB])
  refine loop12 s hs _ _ _ (by rfl) 7 0 0 _ _ _ _ (by omega) (.inr rfl) rfl rfl (by omega) (by omega) (by omega) (by omega) (fun e pl u v w H' he h0 => ?_) (fun n v w H' he => ?_)
  · repeat' (first | (refine cond_by (F := ans) (fun _ => ?_) (fun _ => ?_)) | (refine wayK_by (F := ans) (fun _ hb => ?_) (fun _ hb => ?_) <;> simp only [hb]) | (refine wayK_byN (F := ans) (fun _ hb => ?_) (fun _ hb => ?_) <;> simp only [hb]) | (refine wayD_by (F := ans) (fun _ hb => ?_) (fun _ hb => ?_) <;> simp only [hb]) | (refine wayD_byN (F := ans) (fun _ hb => ?_) (fun _ hb => ?_) <;> simp only [hb]) | (refine rdK_by (F := ans) (fun _ => ?_) (fun _ => ?_)) | (refine effK_by (F := ans) (fun _ => ?_) (fun _ => ?_)) | (refine effK_by2 (F := ans) (fun _ => ?_) (fun _ => ?_)) | (refine rdD_by (F := ans) (fun _ => ?_) (fun _ => ?_)) | (refine effD_by (F := ans) (fun _ => ?_) (fun _ => ?_)) | (refine effD_by2 (F := ans) (fun _ => ?_) (fun _ => ?_)) | simp -implicitDefEqProofs (disch := first | omega | (simp only [List.length_append, List.length_cons, List.length_nil, List.length_drop, List.length_take]; omega)) only [evs, tys, lors, Nat.reduceAdd, Nat.reduceSub, Nat.reduceMul, Nat.reducePow, Nat.reduceBEq, Nat.reduceLT, Nat.reduceLeDiff, Nat.reduceEqDiff, Int.reduceLT, Int.reduceLE, Int.reduceEq, Int.reduceNe, Int.reduceToNat, reduceCtorEq, codeKey, List.contains, List.elem, Ev.load, peek, pack, storeV, fieldAddr, field, cvB])
    simp only [parseV, parseF, show parseL 7 s 0 0 0 = (0, e, pl) from he]
  · repeat' (first | (refine cond_by (F := ans) (fun _ => ?_) (fun _ => ?_)) | (refine wayK_by (F := ans) (fun _ hb => ?_) (fun _ hb => ?_) <;> simp only [hb]) | (refine wayK_byN (F := ans) (fun _ hb => ?_) (fun _ hb => ?_) <;> simp only [hb]) | (refine wayD_by (F := ans) (fun _ hb => ?_) (fun _ hb => ?_) <;> simp only [hb]) | (refine wayD_byN (F := ans) (fun _ hb => ?_) (fun _ hb => ?_) <;> simp only [hb]) | (refine rdK_by (F := ans) (fun _ => ?_) (fun _ => ?_)) | (refine effK_by (F := ans) (fun _ => ?_) (fun _ => ?_)) | (refine effK_by2 (F := ans) (fun _ => ?_) (fun _ => ?_)) | (refine rdD_by (F := ans) (fun _ => ?_) (fun _ => ?_)) | (refine effD_by (F := ans) (fun _ => ?_) (fun _ => ?_)) | (refine effD_by2 (F := ans) (fun _ => ?_) (fun _ => ?_)) | simp -implicitDefEqProofs (disch := first | omega | (simp only [List.length_append, List.length_cons, List.length_nil, List.length_drop, List.length_take]; omega)) only [evs, tys, lors, Nat.reduceAdd, Nat.reduceSub, Nat.reduceMul, Nat.reducePow, Nat.reduceBEq, Nat.reduceLT, Nat.reduceLeDiff, Nat.reduceEqDiff, Int.reduceLT, Int.reduceLE, Int.reduceEq, Int.reduceNe, Int.reduceToNat, reduceCtorEq, codeKey, List.contains, List.elem, Ev.load, peek, pack, storeV, fieldAddr, field, cvB])
    simp only [parseV, parseF, show parseL 7 s 0 0 0 = (n, 0, 0) from he]
    rfl

theorem digitsL_lead {t : List UInt8} (h : leadZ t) : digitsL t = 1 := by
  unfold leadZ at h; unfold digitsL; rw [if_pos ⟨h.2, h.1⟩]
theorem digitsL_nolead {t : List UInt8} (h : ¬ leadZ t) : digitsL t = digL t := by
  unfold leadZ at h; unfold digitsL; rw [if_neg (by omega)]
theorem digL_zero {t : List UInt8} : digitsL t = 0 ↔ digL t = 0 := by
  unfold digitsL; split <;> omega
theorem lead_next {t : List UInt8} (h : leadZ t) : ∃ b r, t.drop 1 = b :: r ∧ isDig b := by
  unfold leadZ at h
  match t, h with
  | [], ⟨_, h⟩ => simp [digL] at h
  | [a], ⟨_, h⟩ => simp [digL] at h; split at h <;> omega
  | a :: b :: r, ⟨_, h⟩ =>
    refine ⟨b, r, rfl, ?_⟩
    by_cases hb : isDig b
    · exact hb
    · simp only [digL, if_neg hb] at h; split at h <;> omega

theorem loop13 (s : List UInt8) (hs : s.length < 4611686018427387904) (K : Kont) (R : Option V) (a : Code) (ha : loopIn Tryd.prog 13 4 = some a) :
    ∀ (k p frm : Nat) (z y : Int) (sum : Int) (H : Heap), 7 - frm ≤ k → z = p → y = frm - 1 → frm ≤ 6 → 0 ≤ sum → sum ≤ 2305843009213693952 → p ≤ s.length →
    (∀ (n e : Int) (pl : Nat) (u v w : V) (H' : Heap), parseL k (s.drop p) frm sum p = (n, e, pl) → ans (K .ret (Sl 65 .wild [(0, .str (bs s)), (2, .int .i64 n), (3, .int .i64 e), (4, .int .i64 (pl : Nat)), (5, u), (6, v), (7, w)]) H') = R) →
    ans (loopL lore 13 a (Sl 65 .wild [(0, .str (bs s)), (2, .int .i64 0), (3, .int .i64 0), (4, .int .i64 0), (5, .int .i64 sum), (6, .int .i64 y), (7, .int .i64 z)]) H K) = R := by
  have hk := loop_key ha
  simp only [loopIn, Tryd.func13, Tryd.f13, loopAt, Option.bind_some, codeKey, if_true, Option.some.injEq, Nat.reduceEqDiff, if_false] at ha
  intro k
  induction k with
  | zero => intro p frm z y sum H h; omega
  | succ k ih =>
  intro p frm z y sum H hk' hz hy hf hs0 hs1 hps h2
  subst hz
  subst hy
  rw [loopL_step' ha]
  have hdl : (s.drop p).length = s.length - p := List.length_drop
  have hn := digitsL_le (s.drop p)
  have hdl2 := digL_le (s.drop p)
  simp only [parseL, List.drop_drop] at h2
  have hnum := fun H => number_cv s p hps hs 2305843009213693952 (by decide) (by decide) H
  by_cases h6 : frm = 6
  · rw [if_pos (.inr h6)] at h2
    repeat' (first | (refine cond_by (F := ans) (fun _ => ?_) (fun _ => ?_)) | (refine wayK_by (F := ans) (fun _ hb => ?_) (fun _ hb => ?_) <;> simp only [hb]) | (refine wayK_byN (F := ans) (fun _ hb => ?_) (fun _ hb => ?_) <;> simp only [hb]) | (refine wayD_by (F := ans) (fun _ hb => ?_) (fun _ hb => ?_) <;> simp only [hb]) | (refine wayD_byN (F := ans) (fun _ hb => ?_) (fun _ hb => ?_) <;> simp only [hb]) | (refine rdK_by (F := ans) (fun _ => ?_) (fun _ => ?_)) | (refine effK_by (F := ans) (fun _ => ?_) (fun _ => ?_)) | (refine effK_by2 (F := ans) (fun _ => ?_) (fun _ => ?_)) | (refine rdD_by (F := ans) (fun _ => ?_) (fun _ => ?_)) | (refine effD_by (F := ans) (fun _ => ?_) (fun _ => ?_)) | (refine effD_by2 (F := ans) (fun _ => ?_) (fun _ => ?_)) | simp -implicitDefEqProofs (disch := first | omega | (simp only [List.length_append, List.length_cons, List.length_nil, List.length_drop, List.length_take]; omega)) only [evs, tys, lors, Nat.reduceAdd, Nat.reduceSub, Nat.reduceMul, Nat.reducePow, Nat.reduceBEq, Nat.reduceLT, Nat.reduceLeDiff, Nat.reduceEqDiff, Int.reduceLT, Int.reduceLE, Int.reduceEq, Int.reduceNe, Int.reduceToNat, reduceCtorEq, codeKey, List.contains, List.elem, Ev.load, peek, pack, storeV, fieldAddr, field, cvB, hk])
    all_goals first
      | (exfalso; omega)
      | exact h2 _ _ _ _ _ _ _ rfl
  by_cases h0 : digL (s.drop p) = 0
  · rw [if_pos (.inl (digL_zero.2 h0))] at h2
    simp only [numberV] at hnum
    rw [if_pos h0] at hnum
    repeat' (first | (refine cond_by (F := ans) (fun _ => ?_) (fun _ => ?_)) | (refine wayK_by (F := ans) (fun _ hb => ?_) (fun _ hb => ?_) <;> simp only [hb]) | (refine wayK_byN (F := ans) (fun _ hb => ?_) (fun _ hb => ?_) <;> simp only [hb]) | (refine wayD_by (F := ans) (fun _ hb => ?_) (fun _ hb => ?_) <;> simp only [hb]) | (refine wayD_byN (F := ans) (fun _ hb => ?_) (fun _ hb => ?_) <;> simp only [hb]) | (refine rdK_by (F := ans) (fun _ => ?_) (fun _ => ?_)) | (refine effK_by (F := ans) (fun _ => ?_) (fun _ => ?_)) | (refine effK_by2 (F := ans) (fun _ => ?_) (fun _ => ?_)) | (refine rdD_by (F := ans) (fun _ => ?_) (fun _ => ?_)) | (refine effD_by (F := ans) (fun _ => ?_) (fun _ => ?_)) | (refine effD_by2 (F := ans) (fun _ => ?_) (fun _ => ?_)) | simp -implicitDefEqProofs (disch := first | omega | (simp only [List.length_append, List.length_cons, List.length_nil, List.length_drop, List.length_take]; omega)) only [evs, tys, lors, Nat.reduceAdd, Nat.reduceSub, Nat.reduceMul, Nat.reducePow, Nat.reduceBEq, Nat.reduceLT, Nat.reduceLeDiff, Nat.reduceEqDiff, Int.reduceLT, Int.reduceLE, Int.reduceEq, Int.reduceNe, Int.reduceToNat, reduceCtorEq, codeKey, List.contains, List.elem, Ev.load, peek, pack, storeV, fieldAddr, field, cvB, hk, hnum])
    all_goals first
      | (exfalso; omega)
      | exact h2 _ _ _ _ _ _ _ rfl
  rw [if_neg (by rw [digL_zero]; omega)] at h2
  by_cases hz : leadZ (s.drop p)
  · simp only [numberV] at hnum
    rw [if_neg h0, if_pos hz] at hnum
    rw [digitsL_lead hz] at h2 hn
    obtain ⟨b, r, e, hb⟩ := lead_next hz
    rw [List.drop_drop] at e
    have hnd := named_digit b r hb frm hf
    have hu := (named_unit (b :: r) frm hf).1
    rw [hnd] at hu
    rw [e, ← hu, hnd] at h2
    repeat' (first | (refine cond_by (F := ans) (fun _ => ?_) (fun _ => ?_)) | (refine wayK_by (F := ans) (fun _ hb => ?_) (fun _ hb => ?_) <;> simp only [hb]) | (refine wayK_byN (F := ans) (fun _ hb => ?_) (fun _ hb => ?_) <;> simp only [hb]) | (refine wayD_by (F := ans) (fun _ hb => ?_) (fun _ hb => ?_) <;> simp only [hb]) | (refine wayD_byN (F := ans) (fun _ hb => ?_) (fun _ hb => ?_) <;> simp only [hb]) | (refine rdK_by (F := ans) (fun _ => ?_) (fun _ => ?_)) | (refine effK_by (F := ans) (fun _ => ?_) (fun _ => ?_)) | (refine effK_by2 (F := ans) (fun _ => ?_) (fun _ => ?_)) | (refine rdD_by (F := ans) (fun _ => ?_) (fun _ => ?_)) | (refine effD_by (F := ans) (fun _ => ?_) (fun _ => ?_)) | (refine effD_by2 (F := ans) (fun _ => ?_) (fun _ => ?_)) | simp -implicitDefEqProofs (disch := first | omega | (simp only [List.length_append, List.length_cons, List.length_nil, List.length_drop, List.length_take]; omega)) only [evs, tys, lors, Nat.reduceAdd, Nat.reduceSub, Nat.reduceMul, Nat.reducePow, Nat.reduceBEq, Nat.reduceLT, Nat.reduceLeDiff, Nat.reduceEqDiff, Int.reduceLT, Int.reduceLE, Int.reduceEq, Int.reduceNe, Int.reduceToNat, reduceCtorEq, codeKey, List.contains, List.elem, Ev.load, peek, pack, storeV, fieldAddr, field, cvB, hk, hnum])
    all_goals first
      | (exfalso; omega)
      | exact h2 _ _ _ _ _ _ _ rfl
  simp only [numberV] at hnum
  rw [if_neg h0, if_neg hz] at hnum
  have hdig := take_digL (s.drop p)
  rw [digitsL_nolead hz] at h2 hn
  have hu := named_unit (s.drop (p + digL (s.drop p))) frm hf
  have hua := fun H => unitAt_cv s (p + digL (s.drop p)) frm (by omega) hs hf _ rfl H
  cases hU : unitF (s.drop (p + digL (s.drop p))) frm with
  | none =>
    simp only [unitA, hU] at hua
    rw [hU] at h2 hu
    have e2 : farF (s.drop (p + digL (s.drop p))) frm ≤ 1 := farL_le _ _ _ (by omega)
    simp only [hu.2 rfl] at h2
    repeat' (first | (refine cond_by (F := ans) (fun _ => ?_) (fun _ => ?_)) | (refine wayK_by (F := ans) (fun _ hb => ?_) (fun _ hb => ?_) <;> simp only [hb]) | (refine wayK_byN (F := ans) (fun _ hb => ?_) (fun _ hb => ?_) <;> simp only [hb]) | (refine wayD_by (F := ans) (fun _ hb => ?_) (fun _ hb => ?_) <;> simp only [hb]) | (refine wayD_byN (F := ans) (fun _ hb => ?_) (fun _ hb => ?_) <;> simp only [hb]) | (refine rdK_by (F := ans) (fun _ => ?_) (fun _ => ?_)) | (refine effK_by (F := ans) (fun _ => ?_) (fun _ => ?_)) | (refine effK_by2 (F := ans) (fun _ => ?_) (fun _ => ?_)) | (refine rdD_by (F := ans) (fun _ => ?_) (fun _ => ?_)) | (refine effD_by (F := ans) (fun _ => ?_) (fun _ => ?_)) | (refine effD_by2 (F := ans) (fun _ => ?_) (fun _ => ?_)) | simp -implicitDefEqProofs (disch := first | omega | (simp only [List.length_append, List.length_cons, List.length_nil, List.length_drop, List.length_take]; omega)) only [evs, tys, lors, Nat.reduceAdd, Nat.reduceSub, Nat.reduceMul, Nat.reducePow, Nat.reduceBEq, Nat.reduceLT, Nat.reduceLeDiff, Nat.reduceEqDiff, Int.reduceLT, Int.reduceLE, Int.reduceEq, Int.reduceNe, Int.reduceToNat, reduceCtorEq, codeKey, List.contains, List.elem, Ev.load, peek, pack, storeV, fieldAddr, field, cvB, hk, hnum, hua])
    all_goals first
      | (exfalso; omega)
      | exact h2 _ _ _ _ _ _ _ rfl
  | some j =>
    simp only [unitA, hU] at hua
    have hj := unitF_lt hU
    have hge := unitF_ge hU
    have hpf := unitF_pfx hU
    rw [List.length_drop] at hpf
    have hnl := nameOf_len j
    have hnp := nameOf_pos hj
    have hns := nsOf_pos hj
    rw [hU] at h2 hu
    simp only at h2
    have hv := valO_range _ hdig 2305843009213693952 (by decide)
    generalize (valO 2305843009213693952 0 ((s.drop p).take (digL (s.drop p)))).getD (2305843009213693952 + 1) = x at *
    have hmr := mul_room (x := x) hv.1 hns.1 hs1
    repeat' (first | (refine cond_by (F := ans) (fun _ => ?_) (fun _ => ?_)) | (refine wayK_by (F := ans) (fun _ hb => ?_) (fun _ hb => ?_) <;> simp only [hb]) | (refine wayK_byN (F := ans) (fun _ hb => ?_) (fun _ hb => ?_) <;> simp only [hb]) | (refine wayD_by (F := ans) (fun _ hb => ?_) (fun _ hb => ?_) <;> simp only [hb]) | (refine wayD_byN (F := ans) (fun _ hb => ?_) (fun _ hb => ?_) <;> simp only [hb]) | (refine rdK_by (F := ans) (fun _ => ?_) (fun _ => ?_)) | (refine effK_by (F := ans) (fun _ => ?_) (fun _ => ?_)) | (refine effK_by2 (F := ans) (fun _ => ?_) (fun _ => ?_)) | (refine rdD_by (F := ans) (fun _ => ?_) (fun _ => ?_)) | (refine effD_by (F := ans) (fun _ => ?_) (fun _ => ?_)) | (refine effD_by2 (F := ans) (fun _ => ?_) (fun _ => ?_)) | simp -implicitDefEqProofs (disch := first | omega | (simp only [List.length_append, List.length_cons, List.length_nil, List.length_drop, List.length_take]; omega)) only [evs, tys, lors, Nat.reduceAdd, Nat.reduceSub, Nat.reduceMul, Nat.reducePow, Nat.reduceBEq, Nat.reduceLT, Nat.reduceLeDiff, Nat.reduceEqDiff, Int.reduceLT, Int.reduceLE, Int.reduceEq, Int.reduceNe, Int.reduceToNat, reduceCtorEq, codeKey, List.contains, List.elem, Ev.load, peek, pack, storeV, fieldAddr, field, cvB, hk, hnum, hua, unitd_cv hj])
    all_goals try (exfalso; omega)
    · rw [if_pos (by assumption)] at h2
      exact h2 _ _ _ _ _ _ _ rfl
    · rw [if_neg (by assumption), if_pos (by rw [drop_nil]; omega)] at h2
      exact h2 _ _ _ _ _ _ _ rfl
    · rw [if_neg (by assumption), if_neg (by rw [drop_nil]; omega), ← Nat.add_assoc] at h2
      exact ih _ (j + 1) _ _ _ _ (by omega) rfl (by omega) (by omega) (by omega) (by omega) (by omega) h2
theorem parseSpand_cv (s : List UInt8) (hs : s.length < 4611686018427387904) (H : Heap) : callV (CL lore) 13 [.str (bs s)] H = some (parseV s, H) := by
  refine callV_ans (r := some _) ?_ (lore_shared 13) rfl H
  rw [call_start lore_ext13 Tryd.func13 rfl lore_okf13 (Nat.le_of_ble_eq_true rfl)]
  repeat' (first | (refine cond_by (F := ans) (fun _ => ?_) (fun _ => ?_)) | (refine wayK_by (F := ans) (fun _ hb => ?_) (fun _ hb => ?_) <;> simp only [hb]) | (refine wayK_byN (F := ans) (fun _ hb => ?_) (fun _ hb => ?_) <;> simp only [hb]) | (refine wayD_by (F := ans) (fun _ hb => ?_) (fun _ hb => ?_) <;> simp only [hb]) | (refine wayD_byN (F := ans) (fun _ hb => ?_) (fun _ hb => ?_) <;> simp only [hb]) | (refine rdK_by (F := ans) (fun _ => ?_) (fun _ => ?_)) | (refine effK_by (F := ans) (fun _ => ?_) (fun _ => ?_)) | (refine effK_by2 (F := ans) (fun _ => ?_) (fun _ => ?_)) | (refine rdD_by (F := ans) (fun _ => ?_) (fun _ => ?_)) | (refine effD_by (F := ans) (fun _ => ?_) (fun _ => ?_)) | (refine effD_by2 (F := ans) (fun _ => ?_) (fun _ => ?_)) | simp -implicitDefEqProofs (disch := first | omega | (simp only [List.length_append, List.length_cons, List.length_nil, List.length_drop, List.length_take]; omega)) only [evs, tys, lors, Nat.reduceAdd, Nat.reduceSub, Nat.reduceMul, Nat.reducePow, Nat.reduceBEq, Nat.reduceLT, Nat.reduceLeDiff, Nat.reduceEqDiff, Int.reduceLT, Int.reduceLE, Int.reduceEq, Int.reduceNe, Int.reduceToNat, reduceCtorEq, codeKey, List.contains, List.elem, Ev.load, peek, pack, storeV, fieldAddr, field, cvB])
  refine loop13 s hs _ _ _ (by rfl) 7 0 0 _ _ _ _ (by omega) rfl rfl (by omega) (by omega) (by omega) (by omega) (fun n e pl u v w H' he => ?_)
  repeat' (first | (refine cond_by (F := ans) (fun _ => ?_) (fun _ => ?_)) | (refine wayK_by (F := ans) (fun _ hb => ?_) (fun _ hb => ?_) <;> simp only [hb]) | (refine wayK_byN (F := ans) (fun _ hb => ?_) (fun _ hb => ?_) <;> simp only [hb]) | (refine wayD_by (F := ans) (fun _ hb => ?_) (fun _ hb => ?_) <;> simp only [hb]) | (refine wayD_byN (F := ans) (fun _ hb => ?_) (fun _ hb => ?_) <;> simp only [hb]) | (refine rdK_by (F := ans) (fun _ => ?_) (fun _ => ?_)) | (refine effK_by (F := ans) (fun _ => ?_) (fun _ => ?_)) | (refine effK_by2 (F := ans) (fun _ => ?_) (fun _ => ?_)) | (refine rdD_by (F := ans) (fun _ => ?_) (fun _ => ?_)) | (refine effD_by (F := ans) (fun _ => ?_) (fun _ => ?_)) | (refine effD_by2 (F := ans) (fun _ => ?_) (fun _ => ?_)) | simp -implicitDefEqProofs (disch := first | omega | (simp only [List.length_append, List.length_cons, List.length_nil, List.length_drop, List.length_take]; omega)) only [evs, tys, lors, Nat.reduceAdd, Nat.reduceSub, Nat.reduceMul, Nat.reducePow, Nat.reduceBEq, Nat.reduceLT, Nat.reduceLeDiff, Nat.reduceEqDiff, Int.reduceLT, Int.reduceLE, Int.reduceEq, Int.reduceNe, Int.reduceToNat, reduceCtorEq, codeKey, List.contains, List.elem, Ev.load, peek, pack, storeV, fieldAddr, field, cvB])
  simp only [parseV, parseF, show parseL 7 s 0 0 0 = (n, e, pl) from he]
end Go.Proofs.YtgoillhmgpokoaaDoor
