/-
scale: the buckets stand one behind another: plain facts.
-/
import Derived.Test.YtacnpljkcpomnaaS6
namespace Go.Proofs.Ytacnpljkcpomnaa
open Go Ev
set_option linter.all false
set_option maxHeartbeats 4000000
set_option maxRecDepth 5000
attribute [local irreducible] codeL condL loopL callL callV evOps evDraw rdK effK wayK oneK wayD oneD rdD effD chks chkB res

theorem st_lo {e : Nat} {i : Int} (h : i < 2 ^ e) : sbZ e i = i ∧ shN e i = 0 := by
  unfold sbZ shN
  rw [if_pos h, if_pos h]
  exact ⟨rfl, rfl⟩
theorem st_hi {e : Nat} {i : Int} (h : ¬ i < 2 ^ e) : sbZ e i = (i - 2 ^ e) % 2 ^ (e - 1) + 2 ^ (e - 1) ∧ shN e i = ((i - 2 ^ e) / 2 ^ (e - 1) + 1).toNat := by
  unfold sbZ shN
  rw [if_neg h, if_neg h]
  exact ⟨rfl, rfl⟩
theorem st_step (e : Nat) (he : Sub3 e) (i : Int) (h0 : 0 ≤ i) : sbZ e i * 2 ^ shN e i + 2 ^ shN e i = sbZ e (i + 1) * 2 ^ shN e (i + 1) := by
  by_cases h1 : i + 1 < 2 ^ e
  · obtain ⟨a1, a2⟩ := st_lo (show i < 2 ^ e by omega)
    obtain ⟨b1, b2⟩ := st_lo h1
    rw [a1, a2, b1, b2, Int.pow_zero]
    omega
  · obtain ⟨b1, b2⟩ := st_hi h1
    by_cases h2 : i < 2 ^ e
    · obtain ⟨a1, a2⟩ := st_lo h2
      have e1 : i = 2 ^ e - 1 := by omega
      have e2 : shN e (i + 1) = 1 := by
        rw [b2]
        rcases he with rfl | rfl | rfl
        all_goals
          simp only [Nat.reduceSub, Int.reducePow] at *
          omega
      rw [a1, a2, b1, e2, Int.pow_zero, e1]
      rcases he with rfl | rfl | rfl
      all_goals
        simp only [Nat.reduceSub, Int.reducePow] at *
        omega
    · obtain ⟨a1, a2⟩ := st_hi h2
      have hc : (shN e (i + 1) = shN e i ∧ sbZ e (i + 1) = sbZ e i + 1) ∨ (shN e (i + 1) = shN e i + 1 ∧ 2 * sbZ e (i + 1) = sbZ e i + 1) := by
        rw [a1, a2, b1, b2]
        rcases he with rfl | rfl | rfl
        all_goals
          simp only [Nat.reduceSub, Int.reducePow] at *
          omega
      rcases hc with ⟨c1, c2⟩ | ⟨c1, c2⟩
      · rw [c1, c2, Int.add_mul, Int.one_mul]
      · rw [c1, Int.pow_succ', ← Int.mul_assoc, Int.mul_comm _ 2, c2, Int.add_mul, Int.one_mul]
theorem idx_in (e : Nat) (he : Sub3 e) (x : Int) (h0 : 0 ≤ x) (h1 : x ≤ 2305843009213693952) : sbZ e (idxZ e x) * 2 ^ shN e (idxZ e x) ≤ x ∧ x < sbZ e (idxZ e x) * 2 ^ shN e (idxZ e x) + 2 ^ shN e (idxZ e x) := by
  have kf := k_facts e (by rcases he with rfl | rfl | rfl <;> decide) x h0 h1
  by_cases hx : x < 2 ^ e
  · have e0 : idxZ e x = x := by unfold idxZ; rw [if_pos hx]
    rw [e0]
    obtain ⟨a1, a2⟩ := st_lo hx
    rw [a1, a2, Int.pow_zero]
    omega
  · obtain ⟨k0, k1, k2⟩ := kf.2.2 hx
    have hk1 : 1 ≤ kOf e x := by
      have := kf.2.1
      unfold kOf
      omega
    have e0 : idxZ e x = 2 ^ e + ((kOf e x : Int) - 1) * 2 ^ (e - 1) + x / 2 ^ kOf e x - 2 ^ (e - 1) := by unfold idxZ; rw [if_neg hx]
    have hp : (0 : Int) < 2 ^ kOf e x := Int.pow_pos (by decide)
    have m1 := Int.mul_ediv_self_le (x := x) (k := 2 ^ kOf e x) (by omega)
    have m2 := Int.lt_mul_ediv_self_add (x := x) hp
    generalize idxZ e x = i at *
    generalize kOf e x = k at *
    have hi : ¬ i < 2 ^ e := by
      generalize x / 2 ^ k = r at *
      rcases he with rfl | rfl | rfl
      all_goals
        simp only [Nat.reduceSub, Int.reducePow] at *
        omega
    obtain ⟨a1, a2⟩ := st_hi hi
    have ha : sbZ e i = x / 2 ^ k ∧ shN e i = k := by
      rw [a1, a2]
      generalize x / 2 ^ k = r at *
      rcases he with rfl | rfl | rfl
      all_goals
        simp only [Nat.reduceSub, Int.reducePow] at *
        omega
    rw [ha.1, ha.2, Int.mul_comm]
    exact ⟨m1, m2⟩
theorem low_step {L D : Int} (hD : 1 ≤ D ∧ D ≤ 3) (i : Int) (h0 : 0 ≤ i) : lowZ L D i + widZ L D i = lowZ L D (i + 1) := by
  unfold lowZ widZ
  rw [← Int.add_mul, st_step _ (sub3 hD) i h0]
theorem wid_pos (L D i : Int) : 0 < widZ L D i := Int.mul_pos (Int.pow_pos (by decide)) (Int.pow_pos (by decide))
theorem low_zero (L : Int) {D : Int} (hD : 1 ≤ D ∧ D ≤ 3) : lowZ L D 0 = 0 := by
  unfold lowZ
  obtain ⟨a1, a2⟩ := st_lo (e := subE D) (i := 0) (Int.pow_pos (by decide))
  rw [a1, Int.zero_mul, Int.zero_mul]
theorem low_mono {L D : Int} (hD : 1 ≤ D ∧ D ≤ 3) (i : Int) (h0 : 0 ≤ i) : ∀ n : Nat, lowZ L D i ≤ lowZ L D (i + n) ∧ (0 < n → lowZ L D i + widZ L D i ≤ lowZ L D (i + n)) := by
  intro n
  induction n with
  | zero => simp
  | succ n ih =>
    have h1 := low_step (L := L) hD (i + n) (by omega)
    have h2 := wid_pos L D (i + n)
    have h3 := low_step (L := L) hD i h0
    have e : i + ((n + 1 : Nat) : Int) = i + n + 1 := by omega
    rw [e]
    refine ⟨by omega, fun _ => ?_⟩
    rcases Nat.eq_zero_or_pos n with rfl | hn
    · simp only [Int.natCast_zero, Int.add_zero] at *; omega
    · have := ih.2 hn; omega
theorem low_lt {L D : Int} (hD : 1 ≤ D ∧ D ≤ 3) (i j : Int) (h0 : 0 ≤ i) (hij : i < j) : lowZ L D i + widZ L D i ≤ lowZ L D j := by
  have := (low_mono (L := L) hD i h0 (j - i).toNat).2 (by omega)
  have e : i + ((j - i).toNat : Int) = j := by omega
  rw [e] at this
  exact this
theorem v_in {L M D : Int} (hr : RightS L M D) (v : Int) (h0 : 0 ≤ v) (h1 : v ≤ 2305843009213693952) : lowZ L D (idxZ (subE D) (v / 2 ^ uOf L)) ≤ v ∧ v < lowZ L D (idxZ (subE D) (v / 2 ^ uOf L)) + widZ L D (idxZ (subE D) (v / 2 ^ uOf L)) := by
  obtain ⟨f1, f2, f3, f4, f5, f6⟩ := x_facts hr h0 h1
  obtain ⟨g1, g2⟩ := idx_in _ f4 _ f2 f3
  have hp : (0 : Int) < 2 ^ uOf L := Int.pow_pos (by decide)
  unfold lowZ widZ
  generalize idxZ (subE D) (v / 2 ^ uOf L) = i at *
  rw [← Int.add_mul]
  exact ⟨(Int.le_ediv_iff_mul_le hp).1 g1, (Int.ediv_lt_iff_lt_mul hp).1 g2⟩
theorem idx_mono {L M D : Int} (hr : RightS L M D) (v w : Int) (h0 : 0 ≤ v) (hw : v ≤ w) (h1 : w ≤ 2305843009213693952) : idxZ (subE D) (v / 2 ^ uOf L) ≤ idxZ (subE D) (w / 2 ^ uOf L) := by
  have a := v_in hr v h0 (by omega)
  have b := v_in hr w (by omega) h1
  obtain ⟨f1, f2, f3, f4, f5, f6⟩ := x_facts hr (show 0 ≤ w by omega) h1
  rcases Int.lt_or_le (idxZ (subE D) (w / 2 ^ uOf L)) (idxZ (subE D) (v / 2 ^ uOf L)) with h | h
  · have := low_lt (L := L) hr.2.2 _ _ f5 h
    omega
  · exact h
end Go.Proofs.Ytacnpljkcpomnaa
