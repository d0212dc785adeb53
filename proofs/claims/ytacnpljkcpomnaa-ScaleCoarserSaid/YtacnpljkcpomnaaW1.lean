/-
Whole numbers by their words: the value of a list of words, a product's row, a difference, noughts cut off.
-/
import Derived.Test.YtacnpljkcpomnaaEvBits
namespace Go.Proofs.Ytacnpljkcpomnaa

def wv (B : Int) : List Int → Int
  | [] => 0
  | x :: r => x + B * wv B r
abbrev Us (B : Int) (l : List Int) : Prop := ∀ x ∈ l, 0 ≤ x ∧ x < B
theorem us_cons {B x : Int} {l : List Int} : Us B (x :: l) ↔ (0 ≤ x ∧ x < B) ∧ Us B l := by simp [Us]
theorem us_append {B : Int} {a b : List Int} : Us B (a ++ b) ↔ Us B a ∧ Us B b := by
  constructor
  · exact fun h => ⟨fun x hx => h x (List.mem_append_left _ hx), fun x hx => h x (List.mem_append_right _ hx)⟩
  · intro h x hx
    rcases List.mem_append.1 hx with hx | hx
    · exact h.1 x hx
    · exact h.2 x hx
theorem us_zeros {B : Int} (hB : 0 < B) (n : Nat) : Us B (List.replicate n 0) := by
  intro x hx
  have := (List.mem_replicate.1 hx).2
  omega
theorem wv_append (B : Int) : ∀ a b : List Int, wv B (a ++ b) = wv B a + B ^ a.length * wv B b
  | [], b => by simp [wv]
  | x :: a, b => by
    have h := wv_append B a b
    simp only [List.cons_append, wv, List.length_cons, Int.pow_succ', h]
    grind
theorem wv_zeros (B : Int) : ∀ n : Nat, wv B (List.replicate n 0) = 0
  | 0 => rfl
  | n + 1 => by simp [List.replicate_succ, wv, wv_zeros B n]
theorem wv_lt {B : Int} (hB : 0 < B) : ∀ l : List Int, Us B l → 0 ≤ wv B l ∧ wv B l < B ^ l.length
  | [], _ => by simp [wv]
  | x :: r, h => by
    obtain ⟨h1, h2⟩ := us_cons.1 h
    obtain ⟨a, b⟩ := wv_lt hB r h2
    simp only [wv, List.length_cons, Int.pow_succ']
    have c := Int.mul_nonneg (Int.le_of_lt hB) a
    have d := Int.mul_le_mul_of_nonneg_left (show wv B r + 1 ≤ B ^ r.length by omega) (Int.le_of_lt hB)
    rw [Int.mul_add, Int.mul_one] at d
    omega
/-- A row of a product: x times ys, added to os. -/
def mrow (B x : Int) : List Int → List Int → Int → List Int
  | [], os, _ => os
  | y :: ys, o :: os, c => ((x * y + c + o) % B) :: mrow B x ys os ((x * y + c + o) / B)
  | _ :: _, [], _ => []
def mcar (B x : Int) : List Int → List Int → Int → Int
  | [], _, c => c
  | y :: ys, o :: os, c => mcar B x ys os ((x * y + c + o) / B)
  | _ :: _, [], c => c
theorem mrow_len (B x : Int) : ∀ (ys os : List Int) (c : Int), (mrow B x ys os c).length = os.length
  | [], os, c => by rw [mrow]
  | y :: ys, [], c => by rw [mrow]
  | y :: ys, o :: os, c => by rw [mrow, List.length_cons, List.length_cons, mrow_len B x ys os]
theorem mrow_app (B x : Int) : ∀ (ys os z : List Int) (c : Int), ys.length = os.length → mrow B x ys (os ++ z) c = mrow B x ys os c ++ z ∧ mcar B x ys (os ++ z) c = mcar B x ys os c
  | [], [], z, c, _ => by simp [mrow, mcar]
  | y :: ys, o :: os, z, c, h => by
    have ih := mrow_app B x ys os z ((x * y + c + o) / B) (by simpa using h)
    simp [mrow, mcar, ih]
  | [], o :: os, z, c, h => by simp at h
  | y :: ys, [], z, c, h => by simp at h
theorem mrow_val {B : Int} (hB : 0 < B) (x : Int) : ∀ (ys os : List Int) (c : Int), ys.length ≤ os.length → wv B (mrow B x ys os c) + B ^ ys.length * mcar B x ys os c = x * wv B ys + wv B os + c
  | [], os, c, _ => by simp [mrow, mcar, wv]
  | y :: ys, [], c, h => by simp at h
  | y :: ys, o :: os, c, h => by
    have ih := mrow_val hB x ys os ((x * y + c + o) / B) (by simpa using h)
    have e := Int.mul_ediv_add_emod (x * y + c + o) B
    simp only [mrow, mcar, wv, List.length_cons, Int.pow_succ']
    generalize (x * y + c + o) % B = r at *
    generalize (x * y + c + o) / B = q at *
    generalize wv B (mrow B x ys os q) = W at *
    generalize mcar B x ys os q = M at *
    generalize B ^ ys.length = P at *
    grind
theorem step_bounds {B x y c o : Int} (hB : 0 < B) (hx : 0 ≤ x ∧ x < B) (hy : 0 ≤ y ∧ y < B) (hc : 0 ≤ c ∧ c < B) (ho : 0 ≤ o ∧ o < B) : 0 ≤ x * y ∧ 0 ≤ x * y + c + o ∧ x * y + c + o < B * B ∧ 0 ≤ (x * y + c + o) / B ∧ (x * y + c + o) / B < B ∧ 0 ≤ (x * y + c + o) % B ∧ (x * y + c + o) % B < B := by
  have h1 := Int.mul_nonneg hx.1 hy.1
  have h2 : x * y ≤ (B - 1) * (B - 1) := Int.mul_le_mul (by omega) (by omega) hy.1 (by omega)
  have h3 : (B - 1) * (B - 1) = B * B - 2 * B + 1 := by grind
  refine ⟨h1, by omega, by omega, Int.ediv_nonneg (by omega) (by omega), Int.ediv_lt_of_lt_mul hB (by omega), Int.emod_nonneg _ (by omega), Int.emod_lt_of_pos _ hB⟩
theorem mrow_us {B : Int} (hB : 0 < B) (x : Int) (hx : 0 ≤ x ∧ x < B) : ∀ (ys os : List Int) (c : Int), Us B ys → Us B os → (0 ≤ c ∧ c < B) → Us B (mrow B x ys os c) ∧ (0 ≤ mcar B x ys os c ∧ mcar B x ys os c < B)
  | [], os, c, _, h, hc => by simp only [mrow, mcar]; exact ⟨h, hc⟩
  | y :: ys, [], c, _, h, hc => by simp only [mrow, mcar]; exact ⟨h, hc⟩
  | y :: ys, o :: os, c, h1, h2, hc => by
    obtain ⟨a1, a2⟩ := us_cons.1 h1
    obtain ⟨b1, b2⟩ := us_cons.1 h2
    obtain ⟨s1, s2, s3, s4, s5, s6, s7⟩ := step_bounds hB hx a1 hc b1
    have ih := mrow_us hB x hx ys os _ a2 b2 ⟨s4, s5⟩
    simp only [mrow, mcar]
    exact ⟨us_cons.2 ⟨⟨s6, s7⟩, ih.1⟩, ih.2⟩
/-- A difference. -/
def lessW (B : Int) : List Int → List Int → Int → List Int
  | [], _, _ => []
  | a :: as, bs, r => ((a - bs.headD 0 - r) % B) :: lessW B as bs.tail (if a < bs.headD 0 + r then 1 else 0)
def lessR (B : Int) : List Int → List Int → Int → Int
  | [], _, r => r
  | a :: as, bs, r => lessR B as bs.tail (if a < bs.headD 0 + r then 1 else 0)
theorem lessW_len (B : Int) : ∀ (as bs : List Int) (r : Int), (lessW B as bs r).length = as.length
  | [], _, _ => rfl
  | a :: as, bs, r => by rw [lessW, List.length_cons, List.length_cons, lessW_len B as]
theorem headD_us {B : Int} (hB : 0 < B) {bs : List Int} (h : Us B bs) : 0 ≤ bs.headD 0 ∧ bs.headD 0 < B := by
  cases bs with
  | nil => exact ⟨Int.le_refl _, hB⟩
  | cons b bs => exact (us_cons.1 h).1
theorem tail_us {B : Int} {bs : List Int} (h : Us B bs) : Us B bs.tail := fun x hx => h x (List.mem_of_mem_tail hx)
theorem wv_split (B : Int) (bs : List Int) : wv B bs = bs.headD 0 + B * wv B bs.tail := by
  cases bs <;> simp [wv]
theorem lessW_val {B : Int} (hB : 0 < B) : ∀ (as bs : List Int) (r : Int), bs.length ≤ as.length → Us B as → Us B bs → (r = 0 ∨ r = 1) → Us B (lessW B as bs r) ∧ (lessR B as bs r = 0 ∨ lessR B as bs r = 1) ∧ wv B (lessW B as bs r) = wv B as - wv B bs - r + B ^ as.length * lessR B as bs r
  | [], bs, r, h, _, _, hr => by
    obtain rfl : bs = [] := by simpa using h
    simp only [lessW, lessR, wv, List.length_nil, Int.pow_zero, Int.one_mul]
    exact ⟨fun x hx => by simp at hx, hr, by omega⟩
  | a :: as, bs, r, h, ha, hb, hr => by
    obtain ⟨a1, a2⟩ := us_cons.1 ha
    have b1 := headD_us hB hb
    have ih := lessW_val hB as bs.tail (if a < bs.headD 0 + r then 1 else 0) (by simp at h ⊢; omega) a2 (tail_us hb) (by split <;> simp)
    have es := wv_split B bs
    have e1 : (a - bs.headD 0 - r) % B = a - bs.headD 0 - r + B * (if a < bs.headD 0 + r then 1 else 0) := by
      split
      · rw [← Int.add_emod_right, Int.emod_eq_of_lt (by omega) (by omega)]; omega
      · rw [Int.emod_eq_of_lt (by omega) (by omega)]; omega
    obtain ⟨i1, i2, i3⟩ := ih
    simp only [lessW, lessR, wv, List.length_cons, Int.pow_succ']
    refine ⟨us_cons.2 ⟨⟨Int.emod_nonneg _ (by omega), Int.emod_lt_of_pos _ hB⟩, i1⟩, i2, ?_⟩
    rw [i3, e1, es]
    generalize (if a < bs.headD 0 + r then (1 : Int) else 0) = q at *
    generalize lessR B as bs.tail q = M at *
    generalize B ^ as.length = P at *
    grind
/-- Noughts cut off at the end. -/
def trim : List Int → List Int
  | [] => []
  | x :: r => match trim r with
    | [] => if x = 0 then [] else [x]
    | y :: q => x :: y :: q
theorem trim_wv (B : Int) : ∀ l, wv B (trim l) = wv B l
  | [] => rfl
  | x :: r => by
    have ih := trim_wv B r
    unfold trim
    split
    · rename_i h
      rw [h] at ih
      split <;> simp_all [wv, ← ih]
    · rename_i h
      rw [h] at ih
      rw [wv, ih, wv]
theorem trim_us {B : Int} : ∀ l, Us B l → Us B (trim l)
  | [], _ => fun x hx => by simp [trim] at hx
  | x :: r, h => by
    obtain ⟨h1, h2⟩ := us_cons.1 h
    have ih := trim_us r h2
    unfold trim
    split
    · split
      · exact fun x hx => by simp at hx
      · exact us_cons.2 ⟨h1, fun x hx => by simp at hx⟩
    · rename_i hh
      rw [hh] at ih
      exact us_cons.2 ⟨h1, ih⟩
theorem trim_zeros : ∀ n, trim (List.replicate n 0) = []
  | 0 => rfl
  | n + 1 => by rw [List.replicate_succ, trim, trim_zeros n]; rfl
theorem trim_snoc0 : ∀ l, trim (l ++ [0]) = trim l
  | [] => rfl
  | x :: r => by rw [List.cons_append, trim, trim, trim_snoc0 r]
theorem trim_snoc : ∀ (l : List Int) (x : Int), x ≠ 0 → trim (l ++ [x]) = l ++ [x]
  | [], x, h => by simp [trim, h]
  | y :: r, x, h => by
    rw [List.cons_append, trim, trim_snoc r x h]
    cases r <;> rfl
theorem trim_ne {l : List Int} (h : trim l ≠ []) : ∃ a x, trim l = a ++ [x] ∧ x ≠ 0 := by
  induction l with
  | nil => exact absurd rfl h
  | cons y r ih =>
    unfold trim at h ⊢
    split
    · rename_i hr
      rw [hr] at h
      by_cases hy : y = 0
      · simp [hy] at h
      · exact ⟨[], y, by simp [hy], hy⟩
    · rename_i z q hr
      obtain ⟨a, x, e, hx⟩ := ih (by rw [hr]; simp)
      exact ⟨y :: a, x, by rw [← hr, e]; rfl, hx⟩
/-- The words of a number. -/
def wordsN (B : Nat) : Nat → Nat → List Int
  | 0, _ => []
  | k + 1, n => if n = 0 then [] else ((n % B : Nat) : Int) :: wordsN B k (n / B)
def words (n : Int) : List Int := wordsN (2 ^ 64) n.toNat n.toNat
theorem trim_words {B : Nat} (hB : 2 ≤ B) : ∀ (l : List Int) (k : Nat), Us (B : Int) l → wv B l ≤ k → trim l = wordsN B k (wv B l).toNat
  | [], k, _, _ => by cases k <;> simp [trim, wv, wordsN]
  | x :: r, k, h, hk => by
    obtain ⟨h1, h2⟩ := us_cons.1 h
    have hn := (wv_lt (show (0 : Int) < B by omega) r h2).1
    have hp : (0 : Int) ≤ (B : Int) * wv B r := Int.mul_nonneg (by omega) hn
    have hm : 2 * wv B r ≤ (B : Int) * wv B r := Int.mul_le_mul_of_nonneg_right (by omega) hn
    rw [wv] at hk ⊢
    cases k with
    | zero =>
      have e1 : x = 0 := by omega
      have e2 : wv B r = 0 := by omega
      have ih := trim_words hB r 0 h2 (by omega)
      rw [trim, ih]
      simp [wordsN, e1]
    | succ k =>
      have ih := trim_words hB r k h2 (by omega)
      obtain ⟨xn, rfl⟩ : ∃ xn : Nat, x = xn := ⟨x.toNat, by omega⟩
      obtain ⟨m, hm'⟩ : ∃ m : Nat, wv B r = m := ⟨(wv B r).toNat, by omega⟩
      rw [hm'] at ih ⊢
      have e : ((xn : Int) + (B : Int) * (m : Int)).toNat = xn + B * m := by
        have : ((xn : Int) + (B : Int) * (m : Int)) = ((xn + B * m : Nat) : Int) := by push_cast; rfl
        rw [this]; rfl
      have hx : xn < B := by omega
      have e1 : (xn + B * m) % B = xn := by rw [Nat.add_mul_mod_self_left, Nat.mod_eq_of_lt hx]
      have e2 : (xn + B * m) / B = m := by rw [Nat.add_mul_div_left _ _ (by omega), Nat.div_eq_of_lt hx, Nat.zero_add]
      rw [e, wordsN, e1, e2, trim, ih]
      by_cases hz : xn + B * m = 0
      · have hx0 : xn = 0 := by omega
        have hm0 : m = 0 := by
          rcases Nat.eq_zero_or_pos m with h | h
          · exact h
          · have := Nat.mul_pos (show 0 < B by omega) h; omega
        subst hx0 hm0
        rw [if_pos hz]
        cases k <;> simp [wordsN]
      · rw [if_neg hz]
        simp only [Int.toNat_natCast]
        cases hw : wordsN B k m with
        | cons y q => rfl
        | nil =>
          have hm0 : m = 0 := by
            cases k with
            | zero => omega
            | succ k => 
              rw [wordsN] at hw
              by_cases h : m = 0
              · exact h
              · rw [if_neg h] at hw; cases hw
          subst hm0
          have : xn ≠ 0 := by omega
          simp [this]
theorem trim_eq {l : List Int} (h : Us (2 ^ 64) l) : trim l = words (wv (2 ^ 64) l) := by
  have e : ((2 ^ 64 : Nat) : Int) = 2 ^ 64 := by decide
  have := trim_words (B := 2 ^ 64) (by decide) l (wv (2 ^ 64) l).toNat (by rw [e]; exact h) (by rw [e]; omega)
  rw [e] at this
  exact this
theorem wordsN_facts {B : Nat} (hB : 2 ≤ B) : ∀ (k n : Nat), n ≤ k → Us (B : Int) (wordsN B k n) ∧ wv B (wordsN B k n) = n
  | 0, n, h => by
    obtain rfl : n = 0 := by omega
    exact ⟨fun x hx => by simp [wordsN] at hx, rfl⟩
  | k + 1, n, h => by
    rw [wordsN]
    by_cases hn : n = 0
    · rw [if_pos hn, hn]
      exact ⟨fun x hx => by simp at hx, rfl⟩
    · rw [if_neg hn]
      have hd : n / B ≤ k := by
        have := Nat.div_lt_self (show 0 < n by omega) (show 1 < B by omega)
        omega
      obtain ⟨i1, i2⟩ := wordsN_facts hB k (n / B) hd
      have hm := Nat.mod_lt n (show 0 < B by omega)
      refine ⟨us_cons.2 ⟨by omega, i1⟩, ?_⟩
      rw [wv, i2]
      have := Nat.mod_add_div n B
      exact_mod_cast this
theorem words_us (n : Int) : Us (2 ^ 64) (words n) := (wordsN_facts (B := 2 ^ 64) (by decide) n.toNat n.toNat (Nat.le_refl _)).1
theorem words_wv {n : Int} (h : 0 ≤ n) : wv (2 ^ 64) (words n) = n := by
  have := (wordsN_facts (B := 2 ^ 64) (by decide) n.toNat n.toNat (Nat.le_refl _)).2
  unfold words
  rw [show ((2 ^ 64 : Nat) : Int) = 2 ^ 64 by decide] at this
  omega
theorem words_trim {n : Int} (h : 0 ≤ n) : trim (words n) = words n := by
  rw [trim_eq (words_us n), words_wv h]
theorem words_one {n : Int} (h0 : 0 < n) (h1 : n < 2 ^ 64) : words n = [n] := by
  have hu : Us (2 ^ 64) [n] := us_cons.2 ⟨⟨by omega, h1⟩, fun x hx => by simp at hx⟩
  have e := trim_eq hu
  have e2 : trim [n] = [n] := trim_snoc [] n (by omega)
  rw [e2] at e
  simp only [wv, Int.mul_zero, Int.add_zero] at e
  exact e.symm
/-- The last word of a number above nought isn't nought. -/
theorem words_last {n : Int} (h : 0 < n) : ∃ a x, words n = a ++ [x] ∧ 0 < x ∧ x < 2 ^ 64 ∧ n = wv (2 ^ 64) a + (2 ^ 64) ^ a.length * x ∧ 0 ≤ wv (2 ^ 64) a ∧ wv (2 ^ 64) a < (2 ^ 64) ^ a.length := by
  have ht := words_trim (show 0 ≤ n by omega)
  have hv := words_wv (show 0 ≤ n by omega)
  have hu := words_us n
  obtain ⟨a, x, e, hx⟩ := trim_ne (l := words n) (by
    rw [ht]
    intro h0
    rw [h0, wv] at hv
    omega)
  rw [ht] at e
  rw [e] at hv hu
  obtain ⟨u1, u2⟩ := us_append.1 hu
  obtain ⟨u3, _⟩ := us_cons.1 u2
  have := wv_lt (by decide) a u1
  rw [wv_append] at hv
  simp only [wv, Int.mul_zero, Int.add_zero] at hv
  exact ⟨a, x, e, by omega, u3.2, hv.symm, this.1, this.2⟩
end Go.Proofs.Ytacnpljkcpomnaa
