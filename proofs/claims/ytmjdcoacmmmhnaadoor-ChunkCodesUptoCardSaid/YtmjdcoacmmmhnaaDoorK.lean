/-
Chunks' bits: how numbers are written by bits and read again; plain facts.
-/
import Derived.Test.YtmjdcoacmmmhnaaDoorEvBits
namespace Go.Proofs.YtmjdcoacmmmhnaaDoor
set_option linter.all false

/-- The lowest n bits of a number, the highest first. -/
def numB (x : Int) : Nat → List Int
  | 0 => []
  | n + 1 => (x / 2 ^ n % 2) :: numB x n
/-- What bits say, behind a number. -/
def valB : List Int → Int → Int
  | [], a => a
  | b :: r, a => valB r (2 * a + b)
abbrev Bits01 (l : List Int) : Prop := ∀ b ∈ l, b = 0 ∨ b = 1
theorem numB_len (x : Int) : ∀ n, (numB x n).length = n
  | 0 => rfl
  | n + 1 => by rw [numB, List.length_cons, numB_len x n]
theorem numB_01 (x : Int) : ∀ n, Bits01 (numB x n)
  | 0 => fun b hb => by simp [numB] at hb
  | n + 1 => fun b hb => by
    rw [numB, List.mem_cons] at hb
    rcases hb with rfl | hb
    · omega
    · exact numB_01 x n b hb
theorem valB_app : ∀ (a b : List Int) (c : Int), valB (a ++ b) c = valB b (valB a c)
  | [], b, c => rfl
  | x :: a, b, c => by rw [List.cons_append, valB, valB, valB_app a b]
theorem p2_pos (n : Nat) : (0 : Int) < 2 ^ n := Int.pow_pos (by decide)
theorem valB_numB (x : Int) : ∀ (n : Nat) (a : Int), valB (numB x n) a = a * 2 ^ n + x % 2 ^ n
  | 0, a => by simp [numB, valB, Int.emod_one]
  | n + 1, a => by
    have h := valB_numB x n (2 * a + x / 2 ^ n % 2)
    rw [numB, valB, h]
    have hp := p2_pos n
    have e1 : x % 2 ^ (n + 1) = x / 2 ^ n % 2 * 2 ^ n + x % 2 ^ n := by
      have a1 := Int.mul_ediv_add_emod x (2 ^ n)
      have a2 := Int.mul_ediv_add_emod (x / 2 ^ n) 2
      have a3 := Int.emod_lt_of_pos x hp
      have a4 := Int.emod_nonneg x (show (2 : Int) ^ n ≠ 0 by omega)
      have e : x = (x / 2 ^ n % 2 * 2 ^ n + x % 2 ^ n) + 2 ^ (n + 1) * (x / 2 ^ n / 2) := by
        rw [Int.pow_succ]
        generalize x / 2 ^ n = q at *
        generalize x % 2 ^ n = r at *
        generalize (2 : Int) ^ n = P at *
        generalize q / 2 = u at *
        generalize q % 2 = v at *
        subst a2
        grind
      have b1 : 0 ≤ x / 2 ^ n % 2 ∧ x / 2 ^ n % 2 ≤ 1 := by omega
      have c1 := Int.mul_nonneg b1.1 (Int.le_of_lt hp)
      have c2 := Int.mul_le_mul_of_nonneg_right b1.2 (Int.le_of_lt hp)
      have e2 : (2 : Int) ^ (n + 1) = 2 * 2 ^ n := Int.pow_succ' ..
      conv => lhs; rw [e]
      rw [Int.add_mul_emod_self_left, Int.emod_eq_of_lt (by omega) (by omega)]
    rw [e1, Int.pow_succ]
    grind
theorem valB_lt : ∀ (l : List Int) (a : Int), Bits01 l → a * 2 ^ l.length ≤ valB l a ∧ valB l a < (a + 1) * 2 ^ l.length
  | [], a, _ => by simp [valB]; omega
  | b :: r, a, h => by
    have hb := h b (by simp)
    obtain ⟨h1, h2⟩ := valB_lt r (2 * a + b) (fun x hx => h x (by simp [hx]))
    have hp := p2_pos r.length
    rw [valB, List.length_cons, Int.pow_succ]
    generalize valB r (2 * a + b) = v at *
    generalize (2 : Int) ^ r.length = P at *
    rcases hb with rfl | rfl
    · constructor <;> grind
    · constructor <;> grind
theorem numB_valB : ∀ (l : List Int) (a : Int), Bits01 l → numB (valB l a) l.length = l
  | [], _, _ => rfl
  | b :: r, a, h => by
    have hb := h b (by simp)
    have hr : Bits01 r := fun x hx => h x (by simp [hx])
    obtain ⟨h1, h2⟩ := valB_lt r (2 * a + b) hr
    rw [valB, List.length_cons, numB, numB_valB r (2 * a + b) hr]
    have hp := p2_pos r.length
    have e : valB r (2 * a + b) / 2 ^ r.length = 2 * a + b := by
      refine Int.le_antisymm ?_ ?_
      · have := Int.ediv_lt_of_lt_mul hp h2
        omega
      · exact (Int.le_ediv_iff_mul_le hp).2 h1
    rw [e]
    have : (2 * a + b) % 2 = b := by rcases hb with rfl | rfl <;> omega
    rw [this]
/-- Bits as bytes, noughts behind. -/
def packF : Nat → List Int → List Int
  | 0, _ => []
  | k + 1, l => if l = [] then [] else valB (l.take 8 ++ List.replicate (8 - l.length) 0) 0 :: packF k (l.drop 8)
def packB (l : List Int) : List Int := packF l.length l
def unpack : List Int → List Int
  | [] => []
  | y :: r => numB y 8 ++ unpack r
theorem packF_nil (k : Nat) : packF k [] = [] := by cases k <;> simp [packF]
theorem packF_enough : ∀ (k j : Nat) (l : List Int), l.length ≤ k → l.length ≤ j → packF k l = packF j l
  | 0, j, l, h, _ => by
    obtain rfl : l = [] := List.length_eq_zero_iff.1 (by omega)
    rw [packF_nil, packF_nil]
  | k + 1, 0, l, _, h => by
    obtain rfl : l = [] := List.length_eq_zero_iff.1 (by omega)
    rw [packF_nil, packF_nil]
  | k + 1, j + 1, l, h1, h2 => by
    rw [packF, packF]
    by_cases hl : l = []
    · rw [if_pos hl, if_pos hl]
    · rw [if_neg hl, if_neg hl]
      have : 0 < l.length := List.length_pos_iff.2 hl
      rw [packF_enough k j (l.drop 8) (by rw [List.length_drop]; omega) (by rw [List.length_drop]; omega)]
theorem packB_cons {l : List Int} (h : l ≠ []) : packB l = valB (l.take 8 ++ List.replicate (8 - l.length) 0) 0 :: packB (l.drop 8) := by
  have hp : 0 < l.length := List.length_pos_iff.2 h
  unfold packB
  obtain ⟨k, hk⟩ : ∃ k, l.length = k + 1 := ⟨l.length - 1, by omega⟩
  rw [hk, packF, if_neg h, hk]
  rw [packF_enough k (l.drop 8).length (l.drop 8) (by rw [List.length_drop]; omega) (by omega)]
theorem packB_nil : packB [] = [] := rfl
theorem packB_len : ∀ (n : Nat) (l : List Int), l.length = n → (packB l).length = (n + 7) / 8 := by
  intro n
  induction n using Nat.strongRecOn with
  | ind n ih =>
    intro l hl
    by_cases h : l = []
    · subst h
      simp only [List.length_nil] at hl
      subst hl
      rfl
    · have hp : 0 < l.length := List.length_pos_iff.2 h
      rw [packB_cons h, List.length_cons, ih (n - 8) (by omega) (l.drop 8) (by rw [List.length_drop]; omega)]
      omega
theorem bits01_take {l : List Int} (h : Bits01 l) (n : Nat) : Bits01 (l.take n) := fun b hb => h b (List.mem_of_mem_take hb)
theorem bits01_drop {l : List Int} (h : Bits01 l) (n : Nat) : Bits01 (l.drop n) := fun b hb => h b (List.mem_of_mem_drop hb)
theorem bits01_zeros (n : Nat) : Bits01 (List.replicate n 0) := fun b hb => Or.inl (List.mem_replicate.1 hb).2
theorem bits01_app {a b : List Int} (ha : Bits01 a) (hb : Bits01 b) : Bits01 (a ++ b) := fun x hx => by
  rcases List.mem_append.1 hx with h | h
  · exact ha x h
  · exact hb x h
theorem unpack_packB : ∀ (n : Nat) (l : List Int), l.length = n → Bits01 l → ∃ z, unpack (packB l) = l ++ List.replicate z 0 := by
  intro n
  induction n using Nat.strongRecOn with
  | ind n ih =>
    intro l hl hb
    by_cases h : l = []
    · subst h
      exact ⟨0, rfl⟩
    · have hp : 0 < l.length := List.length_pos_iff.2 h
      rw [packB_cons h, unpack]
      have h8 : (l.take 8 ++ List.replicate (8 - l.length) 0).length = 8 := by
        rw [List.length_append, List.length_take, List.length_replicate]; omega
      have hn := numB_valB (l.take 8 ++ List.replicate (8 - l.length) 0) 0 (bits01_app (bits01_take hb 8) (bits01_zeros _))
      rw [h8] at hn
      rw [hn]
      obtain ⟨z, hz⟩ := ih (n - 8) (by omega) (l.drop 8) (by rw [List.length_drop]; omega) (bits01_drop hb 8)
      rw [hz]
      by_cases h9 : l.length < 8
      · have e1 : l.drop 8 = [] := List.drop_eq_nil_of_le (by omega)
        have e2 : l.take 8 = l := List.take_of_length_le (by omega)
        rw [e1, e2, List.nil_append, List.append_assoc, List.replicate_append_replicate]
        exact ⟨_, rfl⟩
      · have e3 : 8 - l.length = 0 := by omega
        rw [e3, List.replicate_zero, List.append_nil, ← List.append_assoc, List.take_append_drop]
        exact ⟨z, rfl⟩
theorem valB_zeros : ∀ (n : Nat) (a : Int), valB (List.replicate n 0) a = a * 2 ^ n
  | 0, a => by simp [valB]
  | n + 1, a => by
    rw [List.replicate_succ, valB, valB_zeros n, Int.pow_succ]
    grind
/-- A bit behind: in a new byte, or in the last one. -/
theorem packB_snoc : ∀ (n : Nat) (l : List Int) (b : Int), l.length = n → (n % 8 = 0 → packB (l ++ [b]) = packB l ++ [b * 128]) ∧ (n % 8 ≠ 0 → ∃ p y, packB l = p ++ [y] ∧ packB (l ++ [b]) = p ++ [y + b * 2 ^ (7 - n % 8)] ∧ (Bits01 l → 0 ≤ y ∧ y < 256 ∧ y % 2 ^ (8 - n % 8) = 0)) := by
  intro n
  induction n using Nat.strongRecOn with
  | ind n ih =>
    intro l b hl
    have hne : l ++ [b] ≠ [] := by simp
    rcases Nat.lt_or_ge n 8 with h8 | h8
    · have ed : (l ++ [b]).drop 8 = [] := List.drop_eq_nil_of_le (by simp; omega)
      have et : (l ++ [b]).take 8 = l ++ [b] := List.take_of_length_le (by simp; omega)
      constructor
      · intro h0
        obtain rfl : l = [] := List.length_eq_zero_iff.1 (by omega)
        rw [packB_cons hne, ed, et, packB_nil]
        simp only [List.nil_append, List.length_cons, List.length_nil, valB, List.cons_append]
        rw [valB_zeros]
        simp [packB_nil]
      · intro h0
        have hln : l ≠ [] := by
          intro h
          rw [h] at hl
          simp at hl
          omega
        have ed' : l.drop 8 = [] := List.drop_eq_nil_of_le (by omega)
        have et' : l.take 8 = l := List.take_of_length_le (by omega)
        refine ⟨[], valB (l ++ List.replicate (8 - l.length) 0) 0, ?_, ?_, ?_⟩
        · rw [packB_cons hln, ed', et', packB_nil]; rfl
        · rw [packB_cons hne, ed, et, packB_nil, List.nil_append, valB_app, valB_app, valB_app, valB_zeros, valB_zeros]
          simp only [valB, List.length_append, List.length_cons, List.length_nil]
          rw [hl, show 8 - (n + (0 + 1)) = 7 - n by omega, show n % 8 = n by omega, show 8 - n = (7 - n) + 1 by omega, Int.pow_succ]
          congr 1
          generalize valB l 0 = v
          generalize (2 : Int) ^ (7 - n) = P
          grind
        · intro hb
          have hall : Bits01 (l ++ List.replicate (8 - l.length) 0) := bits01_app hb (bits01_zeros _)
          obtain ⟨v1, v2⟩ := valB_lt _ 0 hall
          have hlen : (l ++ List.replicate (8 - l.length) 0).length = 8 := by simp; omega
          rw [hlen] at v1 v2
          have e8 : (2 : Int) ^ 8 = 256 := by decide
          refine ⟨by omega, by omega, ?_⟩
          rw [valB_app, valB_zeros, show n % 8 = n by omega, hl]
          exact Int.mul_emod_left ..
    · have hln : l ≠ [] := by
        intro h
        rw [h] at hl
        simp at hl
        omega
      have e1 : (l ++ [b]).drop 8 = l.drop 8 ++ [b] := List.drop_append_of_le_length (by omega)
      have e2 : (l ++ [b]).take 8 = l.take 8 := List.take_append_of_le_length (by omega)
      have e3 : 8 - (l ++ [b]).length = 0 := by simp; omega
      have e4 : 8 - l.length = 0 := by omega
      have hi := ih (n - 8) (by omega) (l.drop 8) b (by rw [List.length_drop]; omega)
      have hm : (n - 8) % 8 = n % 8 := by omega
      rw [hm] at hi
      rw [packB_cons hne, packB_cons hln, e1, e2, e3, e4]
      constructor
      · intro h0
        rw [hi.1 h0]
        rfl
      · intro h0
        obtain ⟨p, y, p1, p2, p3⟩ := hi.2 h0
        refine ⟨valB (l.take 8 ++ List.replicate 0 0) 0 :: p, y, by rw [p1]; rfl, by rw [p2]; rfl, fun hb => p3 (bits01_drop hb 8)⟩
/-! Reading bits: what is beyond the end is nought. -/
def rdv (R : List Int) (n : Nat) : Int := valB (R.take n ++ List.replicate (n - R.length) 0) 0
theorem rdv_numB (x : Int) (n : Nat) (rest : List Int) : rdv (numB x n ++ rest) n = x % 2 ^ n := by
  unfold rdv
  have hl := numB_len x n
  rw [List.take_append_of_le_length (by omega), List.take_of_length_le (by omega), List.length_append, hl, show n - (n + rest.length) = 0 by omega, List.replicate_zero, List.append_nil, valB_numB, Int.zero_mul, Int.zero_add]
theorem drop_numB (x : Int) (n : Nat) (rest : List Int) : (numB x n ++ rest).drop n = rest := by
  have hl := numB_len x n
  rw [List.drop_append_of_le_length (by omega), List.drop_of_length_le (by omega), List.nil_append]
theorem rdv_lt {R : List Int} (h : Bits01 R) (n : Nat) : 0 ≤ rdv R n ∧ rdv R n < 2 ^ n := by
  have hb : Bits01 (R.take n ++ List.replicate (n - R.length) 0) := bits01_app (bits01_take h n) (bits01_zeros _)
  obtain ⟨h1, h2⟩ := valB_lt _ 0 hb
  have hl : (R.take n ++ List.replicate (n - R.length) 0).length = n := by rw [List.length_append, List.length_take, List.length_replicate]; omega
  rw [hl] at h1 h2
  unfold rdv
  omega
theorem rdv_zero (R : List Int) : rdv R 0 = 0 := by simp [rdv, valB]
/-- One bit more. -/
theorem rdv_succ (R : List Int) (n : Nat) : rdv R (n + 1) = 2 * rdv R n + ((R.drop n).headD 0) := by
  unfold rdv
  rcases Nat.lt_or_ge n R.length with h | h
  · have e1 : R.take (n + 1) = R.take n ++ [R[n]] := by rw [List.take_add_one, List.getElem?_eq_getElem h]; rfl
    have e2 : (R.drop n).headD 0 = R[n] := by rw [List.drop_eq_getElem_cons h]; rfl
    rw [e1, e2, show n + 1 - R.length = 0 by omega, show n - R.length = 0 by omega, List.replicate_zero, List.append_nil, List.append_nil, valB_app]
    rfl
  · have e1 : R.drop n = [] := List.drop_eq_nil_of_le h
    rw [e1, List.take_of_length_le (show R.length ≤ n + 1 by omega), List.take_of_length_le h, show n + 1 - R.length = (n - R.length) + 1 by omega, List.replicate_succ', ← List.append_assoc, valB_app]
    simp [valB]
/-- The n bits from a place on. -/
def gp (L : List Int) (p n : Nat) : Int := rdv (L.drop p) n
theorem gp_lt {L : List Int} (h : Bits01 L) (p n : Nat) : 0 ≤ gp L p n ∧ gp L p n < 2 ^ n := rdv_lt (bits01_drop h p) n
theorem gp_at {L rest : List Int} {p : Nat} {x : Int} {n : Nat} (h : L.drop p = numB x n ++ rest) : gp L p n = x % 2 ^ n ∧ L.drop (p + n) = rest := by
  unfold gp
  rw [h, rdv_numB]
  refine ⟨rfl, ?_⟩
  rw [← List.drop_drop, h, drop_numB]
/-! Numbers by seven bits a byte. -/
def varF : Nat → Int → List Int
  | 0, _ => []
  | k + 1, x => if x < 128 then numB x 8 else numB (x % 128 + 128) 8 ++ varF k (x / 128)
def varP (L : List Int) : Nat → Nat → Int → Nat → Int × Nat × Bool
  | 0, _, a, p => (a, p, true)
  | f + 1, k, a, p => if gp L p 8 < 128 then (a + gp L p 8 % 128 * 2 ^ k % 2 ^ 64, p + 8, false) else varP L f (k + 7) (a + gp L p 8 % 128 * 2 ^ k % 2 ^ 64) (p + 8)
theorem varP_varF (L : List Int) : ∀ (f k : Nat) (a x : Int) (p : Nat) (rest : List Int), 0 ≤ x → x < 2 ^ (7 * f) → x * 2 ^ k < 2 ^ 64 → 0 < f → L.drop p = varF f x ++ rest → ∃ q, varP L f k a p = (a + x * 2 ^ k, q, false) ∧ L.drop q = rest ∧ q = p + (varF f x).length := by
  intro f
  induction f with
  | zero => intro k a x p rest _ _ _ h; omega
  | succ f ih =>
    intro k a x p rest h0 h1 h2 _ hL
    have hp := p2_pos k
    have e8 : (2 : Int) ^ 8 = 256 := by decide
    rw [varF] at hL ⊢
    by_cases hx : x < 128
    · rw [if_pos hx] at hL ⊢
      obtain ⟨e1, e2⟩ := gp_at hL
      rw [e8, Int.emod_eq_of_lt h0 (by omega)] at e1
      rw [varP, e1, if_pos hx]
      have e3 : x % 128 = x := by omega
      rw [e3, Int.emod_eq_of_lt (Int.mul_nonneg h0 (by omega)) h2]
      exact ⟨_, rfl, e2, by rw [numB_len]⟩
    · rw [if_neg hx] at hL ⊢
      rw [List.append_assoc] at hL
      obtain ⟨e1, e2⟩ := gp_at hL
      have e1' : (x % 128 + 128) % 256 = x % 128 + 128 := by omega
      rw [e8, e1'] at e1
      have hq := Int.mul_ediv_add_emod x 128
      have hf : 0 < f := by
        rcases Nat.eq_zero_or_pos f with h | h
        · subst h
          have e7 : (2 : Int) ^ (7 * (0 + 1)) = 128 := by decide
          omega
        · exact h
      have e7 : (2 : Int) ^ (k + 7) = 2 ^ k * 128 := by rw [Int.pow_add]; rfl
      have m1 : x / 128 * 2 ^ (k + 7) + x % 128 * 2 ^ k = x * 2 ^ k := by
        rw [e7]
        generalize x / 128 = q at *
        generalize x % 128 = r at *
        generalize (2 : Int) ^ k = P at *
        subst hq
        grind
      have m2 : 0 ≤ x / 128 * 2 ^ (k + 7) := Int.mul_nonneg (by omega) (Int.le_of_lt (p2_pos _))
      have m3 : 0 ≤ x % 128 * 2 ^ k := Int.mul_nonneg (by omega) (by omega)
      have h1' : x / 128 < 2 ^ (7 * f) := by
        rw [show 7 * (f + 1) = 7 * f + 7 by omega, Int.pow_add] at h1
        have e77 : (2 : Int) ^ 7 = 128 := by decide
        rw [e77] at h1
        exact Int.ediv_lt_of_lt_mul (by decide) h1
      obtain ⟨q, hr1, hr2, hr3⟩ := ih (k + 7) (a + (x % 128 + 128) % 128 * 2 ^ k % 2 ^ 64) (x / 128) (p + 8) rest (by omega) h1' (by omega) hf e2
      have e4 : (x % 128 + 128) % 128 = x % 128 := by omega
      rw [varP, e1, if_neg (by omega), hr1]
      refine ⟨q, ?_, hr2, ?_⟩
      · rw [e4, Int.emod_eq_of_lt m3 (by omega), Int.add_assoc, Int.add_comm (x % 128 * 2 ^ k), m1]
      · rw [hr3, List.length_append, numB_len]; omega
theorem varF_le (f : Nat) : ∀ x : Int, (varF f x).length ≤ 8 * f := by
  induction f with
  | zero => intro x; simp [varF]
  | succ f ih =>
    intro x
    rw [varF]
    split
    · rw [numB_len]; omega
    · rw [List.length_append, numB_len]
      have := ih (x / 128)
      omega
theorem varF_01 (f : Nat) : ∀ x : Int, Bits01 (varF f x) := by
  induction f with
  | zero => intro x b hb; simp [varF] at hb
  | succ f ih =>
    intro x
    rw [varF]
    split
    · exact numB_01 _ _
    · exact bits01_app (numB_01 _ _) (ih _)
/-! Differences of differences. -/
def difB (d : Int) : List Int :=
  if d = 0 then numB 0 1 else if -8192 < d ∧ d ≤ 8192 then numB 2 2 ++ numB d 14 else if -65536 < d ∧ d ≤ 65536 then numB 6 3 ++ numB d 17 else if -524288 < d ∧ d ≤ 524288 then numB 14 4 ++ numB d 20 else numB 15 4 ++ numB d 64
def ext (x : Int) (n : Nat) : Int := if 2 ^ (n - 1) < x then x - 2 ^ n else x
def difP (L : List Int) (p : Nat) : Int × Nat :=
  if gp L p 1 = 0 then (0, p + 1) else if gp L (p + 1) 1 = 0 then (ext (gp L (p + 2) 14) 14, p + 16) else if gp L (p + 2) 1 = 0 then (ext (gp L (p + 3) 17) 17, p + 20)
  else if gp L (p + 3) 1 = 0 then (ext (gp L (p + 4) 20) 20, p + 24) else ((gp L (p + 4) 64 + 9223372036854775808) % 18446744073709551616 - 9223372036854775808, p + 68)
theorem gp_one {L rest : List Int} {p : Nat} {b : Int} (hb : b = 0 ∨ b = 1) (h : L.drop p = b :: rest) : gp L p 1 = b ∧ L.drop (p + 1) = rest := by
  have e : numB b 1 = [b] := by rcases hb with rfl | rfl <;> decide
  have := gp_at (L := L) (p := p) (x := b) (n := 1) (rest := rest) (by rw [e]; exact h)
  refine ⟨?_, this.2⟩
  rw [this.1]
  rcases hb with rfl | rfl <;> decide
theorem difP_difB {L rest : List Int} {p : Nat} {d : Int} (h0 : -9223372036854775808 ≤ d ∧ d ≤ 9223372036854775807) (h : L.drop p = difB d ++ rest) : ∃ q, difP L p = (d, q) ∧ L.drop q = rest ∧ q = p + (difB d).length := by
  unfold difB at h ⊢
  unfold difP
  have n0 : numB 0 1 = [0] := by decide
  have n2 : numB 2 2 = [1, 0] := by decide
  have n6 : numB 6 3 = [1, 1, 0] := by decide
  have n14 : numB 14 4 = [1, 1, 1, 0] := by decide
  have n15 : numB 15 4 = [1, 1, 1, 1] := by decide
  have c0 : ¬ (1 : Int) = 0 := by decide
  by_cases hd : d = 0
  · rw [if_pos hd, n0] at h ⊢
    obtain ⟨a1, a2⟩ := gp_one (Or.inl rfl) h
    rw [a1, if_pos rfl, hd]
    exact ⟨_, rfl, a2, rfl⟩
  · rw [if_neg hd] at h ⊢
    by_cases h1 : -8192 < d ∧ d ≤ 8192
    · rw [if_pos h1, n2] at h ⊢
      obtain ⟨a1, a2⟩ := gp_one (Or.inr rfl) h
      obtain ⟨b1, b2⟩ := gp_one (Or.inl rfl) a2
      obtain ⟨g1, g2⟩ := gp_at b2
      have e : (2 : Int) ^ 14 = 16384 := by decide
      have e' : (2 : Int) ^ (14 - 1) = 8192 := by decide
      rw [a1, if_neg c0, b1, if_pos rfl, g1]
      refine ⟨_, ?_, g2, by rw [List.length_append, numB_len]; rfl⟩
      unfold ext
      rw [e, e']
      congr 1
      split <;> omega
    · rw [if_neg h1] at h ⊢
      by_cases h2 : -65536 < d ∧ d ≤ 65536
      · rw [if_pos h2, n6] at h ⊢
        obtain ⟨a1, a2⟩ := gp_one (Or.inr rfl) h
        obtain ⟨b1, b2⟩ := gp_one (Or.inr rfl) a2
        obtain ⟨d1, d2⟩ := gp_one (Or.inl rfl) b2
        obtain ⟨g1, g2⟩ := gp_at d2
        have e : (2 : Int) ^ 17 = 131072 := by decide
        have e' : (2 : Int) ^ (17 - 1) = 65536 := by decide
        rw [a1, if_neg c0, b1, if_neg c0, d1, if_pos rfl, g1]
        refine ⟨_, ?_, g2, by rw [List.length_append, numB_len]; rfl⟩
        unfold ext
        rw [e, e']
        congr 1
        split <;> omega
      · rw [if_neg h2] at h ⊢
        by_cases h3 : -524288 < d ∧ d ≤ 524288
        · rw [if_pos h3, n14] at h ⊢
          obtain ⟨a1, a2⟩ := gp_one (Or.inr rfl) h
          obtain ⟨b1, b2⟩ := gp_one (Or.inr rfl) a2
          obtain ⟨d1, d2⟩ := gp_one (Or.inr rfl) b2
          obtain ⟨f1, f2⟩ := gp_one (Or.inl rfl) d2
          obtain ⟨g1, g2⟩ := gp_at f2
          have e : (2 : Int) ^ 20 = 1048576 := by decide
          have e' : (2 : Int) ^ (20 - 1) = 524288 := by decide
          rw [a1, if_neg c0, b1, if_neg c0, d1, if_neg c0, f1, if_pos rfl, g1]
          refine ⟨_, ?_, g2, by rw [List.length_append, numB_len]; rfl⟩
          unfold ext
          rw [e, e']
          congr 1
          split <;> omega
        · rw [if_neg h3, n15] at h ⊢
          obtain ⟨a1, a2⟩ := gp_one (Or.inr rfl) h
          obtain ⟨b1, b2⟩ := gp_one (Or.inr rfl) a2
          obtain ⟨d1, d2⟩ := gp_one (Or.inr rfl) b2
          obtain ⟨f1, f2⟩ := gp_one (Or.inr rfl) d2
          obtain ⟨g1, g2⟩ := gp_at f2
          have e : (2 : Int) ^ 64 = 18446744073709551616 := by decide
          rw [a1, if_neg c0, b1, if_neg c0, d1, if_neg c0, f1, if_neg c0, g1, e]
          refine ⟨_, ?_, g2, by rw [List.length_append, numB_len]; rfl⟩
          congr 1
          omega
/-! What a value's bits differ in. -/
def tzF : Nat → Nat → Nat
  | 0, _ => 0
  | f + 1, x => if x % 2 = 1 then 0 else tzF f (x / 2) + 1
theorem tzF_facts : ∀ (f x : Nat), 0 < x → x < 2 ^ f → ∃ q, x = q * 2 ^ tzF f x ∧ q % 2 = 1 ∧ tzF f x < f := by
  intro f
  induction f with
  | zero => intro x h0 h1; simp at h1; omega
  | succ f ih =>
    intro x h0 h1
    rw [tzF]
    by_cases h : x % 2 = 1
    · rw [if_pos h]
      exact ⟨x, by simp, h, by omega⟩
    · rw [if_neg h]
      rw [Nat.pow_succ] at h1
      obtain ⟨q, e, hq, hl⟩ := ih (x / 2) (by omega) (by omega)
      refine ⟨q, ?_, hq, by omega⟩
      rw [Nat.pow_succ, ← Nat.mul_assoc, ← e]
      omega
/-- How many bits. -/
def blN (x : Nat) : Nat := if x = 0 then 0 else x.log2 + 1
theorem blN_facts {x : Nat} (h : 0 < x) : 1 ≤ blN x ∧ 2 ^ (blN x - 1) ≤ x ∧ x < 2 ^ blN x := by
  unfold blN
  rw [if_neg (by omega)]
  obtain ⟨a, b⟩ := (Nat.log2_eq_iff (show x ≠ 0 by omega)).1 rfl
  exact ⟨by omega, a, b⟩
theorem pow_lt2 {a b : Nat} (h : 2 ^ a < 2 ^ b) : a < b := (Nat.pow_lt_pow_iff_right (by decide)).1 h
def tz (x : Nat) : Nat := tzF 64 x
def lz (x : Nat) : Nat := min (64 - blN x) 31
theorem lt_facts {x : Nat} (h0 : 0 < x) (h1 : x < 2 ^ 64) : lz x ≤ 31 ∧ tz x ≤ 63 ∧ lz x + tz x ≤ 63 ∧ x < 2 ^ (64 - lz x) ∧ x / 2 ^ tz x * 2 ^ tz x = x ∧ (∀ t, t ≤ tz x → x / 2 ^ t * 2 ^ t = x) := by
  obtain ⟨q, e, hq, hl⟩ := tzF_facts 64 x h0 h1
  obtain ⟨b1, b2, b3⟩ := blN_facts h0
  have hb : blN x ≤ 64 := by
    have : 2 ^ (blN x - 1) < 2 ^ 64 := by omega
    have := pow_lt2 this
    omega
  have hq0 : 0 < q := by omega
  have hdvd : ∀ t, t ≤ tz x → x / 2 ^ t * 2 ^ t = x := fun t ht => by
    refine Nat.div_mul_cancel ?_
    rw [e]
    exact Nat.dvd_trans (Nat.pow_dvd_pow 2 ht) (Nat.dvd_mul_left _ _)
  have htb : tz x < blN x := by
    have : 2 ^ tz x ≤ q * 2 ^ tzF 64 x := Nat.le_mul_of_pos_left _ hq0
    rw [← e] at this
    have : 2 ^ tz x < 2 ^ blN x := by omega
    exact pow_lt2 this
  refine ⟨by unfold lz; omega, by unfold tz; omega, by unfold lz; omega, ?_, hdvd _ (Nat.le_refl _), hdvd⟩
  have : 2 ^ blN x ≤ 2 ^ (64 - lz x) := Nat.pow_le_pow_right (by decide) (by unfold lz; omega)
  omega
structure Fr where
  there : Bool
  l : Nat
  t : Int
def xorB (x : Nat) (f : Fr) : List Int × Fr :=
  if x = 0 then (numB 0 1, f)
  else if f.there = true ∧ f.l ≤ lz x ∧ f.t ≤ tz x then (numB 1 1 ++ numB 0 1 ++ numB (x / 2 ^ f.t.toNat : Nat) (64 - f.l - f.t.toNat), f)
  else (numB 1 1 ++ numB 1 1 ++ numB (lz x : Nat) 5 ++ numB ((64 - lz x - tz x) % 64 : Nat) 6 ++ numB (x / 2 ^ tz x : Nat) (64 - lz x - tz x), ⟨true, lz x, tz x⟩)
/-- What is read: the difference, the place behind it, the frame; true: no frame fits. -/
def xorP (L : List Int) (p : Nat) (f : Fr) : Int × Nat × Fr × Bool :=
  if gp L p 1 = 0 then (0, p + 1, f, false)
  else if gp L (p + 1) 1 = 1 then
    (let n := if gp L (p + 7) 6 = 0 then 64 else gp L (p + 7) 6
     let l := gp L (p + 2) 5
     let t := 64 - l - n
     if t < 0 then (0, p + 13, ⟨true, l.toNat, t⟩, true) else (gp L (p + 13) n.toNat * 2 ^ t.toNat, p + 13 + n.toNat, ⟨true, l.toNat, t⟩, false))
  else if f.there = false ∨ f.t < 0 then (0, p + 2, f, true)
  else (gp L (p + 2) (64 - f.l - f.t.toNat) * 2 ^ f.t.toNat, p + 2 + (64 - f.l - f.t.toNat), f, false)
abbrev FrOk (f : Fr) : Prop := f.there = true → 0 ≤ f.t ∧ (f.l : Int) + f.t ≤ 63 ∧ f.l ≤ 31
theorem xorB_ok {x : Nat} (h1 : x < 2 ^ 64) {f : Fr} (hf : FrOk f) : FrOk (xorB x f).2 := by
  unfold xorB
  split
  · exact hf
  · split
    · exact hf
    · rename_i h0 _
      obtain ⟨a, b, c, _⟩ := lt_facts (show 0 < x by omega) h1
      exact fun _ => ⟨by simp only; omega, by simp only; omega, a⟩
theorem xorP_xorB {L rest : List Int} {p : Nat} {x : Nat} (h1 : x < 2 ^ 64) {f : Fr} (hf : FrOk f) (h : L.drop p = (xorB x f).1 ++ rest) : ∃ q, xorP L p f = ((x : Int), q, (xorB x f).2, false) ∧ L.drop q = rest ∧ q = p + (xorB x f).1.length := by
  have n0 : numB 0 1 = [0] := by decide
  have n1 : numB 1 1 = [1] := by decide
  have c0 : ¬ (1 : Int) = 0 := by decide
  have c1 : ¬ (0 : Int) = 1 := by decide
  unfold xorB at h ⊢
  unfold xorP
  by_cases hx : x = 0
  · rw [if_pos hx] at h ⊢
    simp only [n0] at h ⊢
    obtain ⟨a1, a2⟩ := gp_one (Or.inl rfl) h
    rw [a1, if_pos rfl, hx]
    exact ⟨_, rfl, a2, rfl⟩
  · rw [if_neg hx] at h ⊢
    obtain ⟨l1, l2, l3, l4, l5, l6⟩ := lt_facts (show 0 < x by omega) h1
    by_cases hr : f.there = true ∧ f.l ≤ lz x ∧ f.t ≤ tz x
    · rw [if_pos hr] at h ⊢
      obtain ⟨t0, t1, t2⟩ := hf hr.1
      simp only [n0, n1, List.append_assoc] at h ⊢
      obtain ⟨a1, a2⟩ := gp_one (Or.inr rfl) h
      obtain ⟨b1, b2⟩ := gp_one (Or.inl rfl) a2
      obtain ⟨g1, g2⟩ := gp_at b2
      have hnf : ¬ (f.there = false ∨ f.t < 0) := by
        rintro (h | h)
        · rw [hr.1] at h; cases h
        · omega
      rw [a1, if_neg c0, b1, if_neg c1, if_neg hnf, g1]
      refine ⟨_, ?_, g2, ?_⟩
      · have hlt : x / 2 ^ f.t.toNat < 2 ^ (64 - f.l - f.t.toNat) := by
          rw [Nat.div_lt_iff_lt_mul (Nat.two_pow_pos _), ← Nat.pow_add, show 64 - f.l - f.t.toNat + f.t.toNat = 64 - f.l by omega]
          have : 2 ^ (64 - lz x) ≤ 2 ^ (64 - f.l) := Nat.pow_le_pow_right (by decide) (by omega)
          omega
        have e : (((x / 2 ^ f.t.toNat : Nat) : Int)) % 2 ^ (64 - f.l - f.t.toNat) = ((x / 2 ^ f.t.toNat : Nat) : Int) := Int.emod_eq_of_lt (Int.natCast_nonneg _) (by have := Int.ofNat_lt.2 hlt; rw [Int.natCast_pow] at this; exact this)
        rw [e]
        congr 1
        have h6 := congrArg (fun n : Nat => (n : Int)) (l6 f.t.toNat (by omega))
        simp only [Int.natCast_mul, Int.natCast_pow] at h6
        exact h6
      · simp only [List.length_append, List.length_cons, List.length_nil, numB_len]; omega
    · rw [if_neg hr] at h ⊢
      simp only [n1, List.append_assoc] at h ⊢
      obtain ⟨a1, a2⟩ := gp_one (Or.inr rfl) h
      obtain ⟨b1, b2⟩ := gp_one (Or.inr rfl) a2
      obtain ⟨g1, g2⟩ := gp_at b2
      obtain ⟨k1, k2⟩ := gp_at g2
      obtain ⟨v1, v2⟩ := gp_at k2
      have e5 : (2 : Int) ^ 5 = 32 := by decide
      have e6 : (2 : Int) ^ 6 = 64 := by decide
      rw [e5, Int.emod_eq_of_lt (by omega) (by omega)] at g1
      have e7 : (((64 - lz x - tz x) % 64 : Nat) : Int) % 64 = ((64 - lz x - tz x) % 64 : Nat) := by omega
      rw [e6, e7] at k1
      have hn : (if gp L (p + 7) 6 = 0 then (64 : Int) else gp L (p + 7) 6) = ((64 - lz x - tz x : Nat) : Int) := by
        have : p + 1 + 1 + 5 = p + 7 := by omega
        rw [this] at k1
        rw [k1]
        split <;> omega
      have hp2 : p + 1 + 1 = p + 2 := by omega
      rw [hp2] at g1
      rw [a1, if_neg c0, b1, if_pos rfl]
      simp only [hn, g1]
      have ht : (64 : Int) - (lz x : Nat) - ((64 - lz x - tz x : Nat) : Int) = (tz x : Int) := by omega
      rw [ht, if_neg (by omega), Int.toNat_natCast, Int.toNat_natCast, Int.toNat_natCast]
      have hp13 : p + 1 + 1 + 5 + 6 = p + 13 := by omega
      rw [hp13] at v1 v2
      rw [v1]
      refine ⟨_, ?_, v2, ?_⟩
      · have hlt : x / 2 ^ tz x < 2 ^ (64 - lz x - tz x) := by
          rw [Nat.div_lt_iff_lt_mul (Nat.two_pow_pos _), ← Nat.pow_add, show 64 - lz x - tz x + tz x = 64 - lz x by omega]
          exact l4
        have e : (((x / 2 ^ tz x : Nat) : Int)) % 2 ^ (64 - lz x - tz x) = ((x / 2 ^ tz x : Nat) : Int) := Int.emod_eq_of_lt (Int.natCast_nonneg _) (by have := Int.ofNat_lt.2 hlt; rw [Int.natCast_pow] at this; exact this)
        rw [e]
        congr 1
        have h6 := congrArg (fun n : Nat => (n : Int)) l5
        simp only [Int.natCast_mul, Int.natCast_pow] at h6
        exact h6
      · simp only [List.length_append, List.length_cons, List.length_nil, numB_len]; omega
theorem xorB_01 (x : Nat) (f : Fr) : Bits01 (xorB x f).1 := by
  unfold xorB
  split
  · exact numB_01 _ _
  · split
    · exact bits01_app (bits01_app (numB_01 _ _) (numB_01 _ _)) (numB_01 _ _)
    · exact bits01_app (bits01_app (bits01_app (bits01_app (numB_01 _ _) (numB_01 _ _)) (numB_01 _ _)) (numB_01 _ _)) (numB_01 _ _)
theorem difB_01 (d : Int) : Bits01 (difB d) := by
  unfold difB
  repeat' split
  all_goals first | exact numB_01 _ _ | exact bits01_app (numB_01 _ _) (numB_01 _ _)
/-! Points. -/
def NAN : Nat := 9221120237041090561
def wrapS (n : Int) : Int := (n + 9223372036854775808) % 18446744073709551616 - 9223372036854775808
def zig (a : Int) : Int := if 0 ≤ a then 2 * a else -2 * a - 1
def zag (x : Int) : Int := if x % 2 = 0 then x / 2 else -(x / 2) - 1
structure ES where
  i : Nat
  at_ : Int
  step : Int
  value : Nat
  fr : Fr
def E0 : ES := ⟨0, 0, 0, 0, ⟨false, 0, 0⟩⟩
def encPt (s : ES) (a : Int) (v : Nat) : List Int × ES :=
  let st := (a - s.at_) % 18446744073709551616
  match s.i with
  | 0 => (varF 10 (zig a) ++ numB v 64, ⟨1, a, st, v, s.fr⟩)
  | 1 => (varF 10 st ++ (xorB (v ^^^ s.value) s.fr).1, ⟨2, a, st, v, (xorB (v ^^^ s.value) s.fr).2⟩)
  | i + 2 => (difB (wrapS (st - s.step)) ++ (xorB (v ^^^ s.value) s.fr).1, ⟨i + 3, a, st, v, (xorB (v ^^^ s.value) s.fr).2⟩)
def encL (vb : Nat → Nat) : ES → List (Int × Nat) → List Int
  | _, [] => []
  | s, p :: r => (encPt s p.1 (vb p.2)).1 ++ encL vb (encPt s p.1 (vb p.2)).2 r
structure DS where
  i : Nat
  p : Nat
  at_ : Int
  step : Int
  value : Nat
  fr : Fr
  bad : Bool
def D0 : DS := ⟨0, 0, 0, 0, 0, ⟨false, 0, 0⟩, false⟩
def decPt (L : List Int) (d : DS) : DS :=
  match d.i with
  | 0 => (match varP L 10 0 0 d.p with
    | (x, p, o) => ⟨1, p + 64, zag x, d.step, (gp L p 64).toNat, d.fr, d.bad || o⟩)
  | 1 => (match varP L 10 0 0 d.p with
    | (st, p, o) => (match xorP L p d.fr with
      | (x, q, f, b) => ⟨2, q, wrapS (d.at_ + st), st, d.value ^^^ x.toNat, f, d.bad || o || b⟩))
  | i + 2 => (match difP L d.p with
    | (dd, p) => (match xorP L p d.fr with
      | (x, q, f, b) => ⟨i + 3, q, wrapS (d.at_ + (d.step + dd) % 18446744073709551616), (d.step + dd) % 18446744073709551616, d.value ^^^ x.toNat, f, d.bad || b⟩))
def DS.short (L : List Int) (d : DS) : Bool := d.bad || decide (L.length < d.p)
def decL (L : List Int) : Nat → DS → List (Int × Nat) × DS
  | 0, d => ([], d)
  | n + 1, d => if d.short L = true then ([], d) else
      match decL L n (decPt L d) with
      | (r, e) => (((decPt L d).at_, (decPt L d).value) :: r, e)
abbrev Same (s : ES) (d : DS) : Prop := d.i = s.i ∧ d.at_ = s.at_ ∧ (2 ≤ s.i → d.step = s.step) ∧ (1 ≤ s.i → d.value = s.value) ∧ d.fr = s.fr ∧ d.bad = false ∧ FrOk s.fr ∧ (s.i = 0 → s.at_ = 0)
abbrev ESOk (s : ES) : Prop := (-9223372036854775808 ≤ s.at_ ∧ s.at_ ≤ 9223372036854775807) ∧ (0 ≤ s.step ∧ s.step < 18446744073709551616) ∧ s.value < 2 ^ 64
theorem zig_facts {a : Int} (h : -9223372036854775808 ≤ a ∧ a ≤ 9223372036854775807) : 0 ≤ zig a ∧ zig a < 18446744073709551616 ∧ zag (zig a) = a := by
  unfold zig zag
  split <;> split <;> omega
theorem pt_inv {L rest : List Int} {s : ES} {d : DS} {a : Int} {v : Nat} (ha : -9223372036854775808 ≤ a ∧ a ≤ 9223372036854775807) (hv : v < 2 ^ 64) (hs : Same s d) (ho : ESOk s) (h : L.drop d.p = (encPt s a v).1 ++ rest) :
    Same (encPt s a v).2 (decPt L d) ∧ ESOk (encPt s a v).2 ∧ (decPt L d).at_ = a ∧ (decPt L d).value = v ∧ L.drop (decPt L d).p = rest ∧ (decPt L d).p = d.p + (encPt s a v).1.length := by
  obtain ⟨s1, s2, s3, s4, s5, s6, s7, s8⟩ := hs
  obtain ⟨o1, o2, o3⟩ := ho
  have e64 : (2 : Int) ^ 64 = 18446744073709551616 := by decide
  have e70 : (18446744073709551616 : Int) ≤ 2 ^ (7 * 10) := by decide
  obtain ⟨i, sat, sst, sv, sf⟩ := s
  obtain ⟨di, dp, dat, dst, dv, df, db⟩ := d
  simp only at s1 s2 s3 s4 s5 s6 s7 s8 o1 o2 o3 h
  subst s1 s2 s5 s6
  match di, h with
  | 0, h =>
    simp only [encPt, List.append_assoc] at h ⊢
    obtain ⟨z1, z2, z3⟩ := zig_facts ha
    obtain ⟨q, r1, r2, r3⟩ := varP_varF L 10 0 0 (zig a) dp _ z1 (by omega) (by rw [Int.pow_zero, e64]; omega) (by decide) h
    obtain ⟨g1, g2⟩ := gp_at r2
    have hvz : ((v : Nat) : Int) % 2 ^ 64 = v := by rw [e64]; omega
    rw [hvz] at g1
    simp only [decPt, r1, g1, Int.pow_zero, Int.mul_one, Int.zero_add, z3, Int.toNat_natCast]
    refine ⟨⟨rfl, rfl, fun h => by simp at h, fun _ => rfl, rfl, rfl, s7, fun h => by simp at h⟩, ⟨ha, by simp only; omega, hv⟩, trivial, trivial, g2, ?_⟩
    rw [List.length_append, numB_len]; omega
  | 1, h =>
    simp only [encPt, List.append_assoc] at h ⊢
    have hvv := s4 (by omega)
    subst hvv
    have hst : 0 ≤ (a - dat) % 18446744073709551616 ∧ (a - dat) % 18446744073709551616 < 18446744073709551616 := by omega
    have hw : wrapS (dat + (a - dat) % 18446744073709551616) = a := by unfold wrapS; omega
    generalize (a - dat) % 18446744073709551616 = st at *
    obtain ⟨q, r1, r2, r3⟩ := varP_varF L 10 0 0 st dp _ hst.1 (by omega) (by rw [Int.pow_zero, e64]; omega) (by decide) h
    have hx : v ^^^ dv < 2 ^ 64 := Nat.xor_lt_two_pow hv o3
    obtain ⟨u, x1, x2, x3⟩ := xorP_xorB hx s7 r2
    have hxx : dv ^^^ (v ^^^ dv) = v := by rw [Nat.xor_comm v, ← Nat.xor_assoc, Nat.xor_self, Nat.zero_xor]
    simp only [decPt, r1, x1, Int.pow_zero, Int.mul_one, Int.zero_add, hw, Int.toNat_natCast, hxx]
    refine ⟨⟨rfl, rfl, fun _ => rfl, fun _ => rfl, rfl, rfl, xorB_ok hx s7, fun h => by simp at h⟩, ⟨ha, hst, hv⟩, trivial, trivial, x2, ?_⟩
    rw [List.length_append]; omega
  | i + 2, h =>
    simp only [encPt, List.append_assoc] at h ⊢
    have hvv := s4 (by omega)
    have hss := s3 (by omega)
    subst hvv hss
    have hst : 0 ≤ (a - dat) % 18446744073709551616 ∧ (a - dat) % 18446744073709551616 < 18446744073709551616 := by omega
    have hw : wrapS (dat + (a - dat) % 18446744073709551616) = a := by unfold wrapS; omega
    generalize (a - dat) % 18446744073709551616 = st at *
    have hd : -9223372036854775808 ≤ wrapS (st - dst) ∧ wrapS (st - dst) ≤ 9223372036854775807 := by unfold wrapS; omega
    have hd2 : (dst + wrapS (st - dst)) % 18446744073709551616 = st := by unfold wrapS; omega
    obtain ⟨q, r1, r2, r3⟩ := difP_difB hd h
    have hx : v ^^^ dv < 2 ^ 64 := Nat.xor_lt_two_pow hv o3
    obtain ⟨u, x1, x2, x3⟩ := xorP_xorB hx s7 r2
    have hxx : dv ^^^ (v ^^^ dv) = v := by rw [Nat.xor_comm v, ← Nat.xor_assoc, Nat.xor_self, Nat.zero_xor]
    simp only [decPt, r1, x1, hd2, hw, Int.toNat_natCast, hxx]
    refine ⟨⟨rfl, rfl, fun _ => rfl, fun _ => rfl, rfl, rfl, xorB_ok hx s7, fun h => by simp at h⟩, ⟨ha, hst, hv⟩, trivial, trivial, x2, ?_⟩
    rw [List.length_append]; omega
theorem list_inv (vb : Nat → Nat) {L rest : List Int} : ∀ (l : List (Int × Nat)) (s : ES) (d : DS), (∀ p ∈ l, (-9223372036854775808 ≤ p.1 ∧ p.1 ≤ 9223372036854775807) ∧ vb p.2 < 2 ^ 64) → Same s d → ESOk s → L.drop d.p = encL vb s l ++ rest → d.p ≤ L.length →
    (decL L l.length d).1 = l.map (fun p => (p.1, vb p.2)) ∧ (decL L l.length d).2.short L = false := by
  intro l
  induction l with
  | nil =>
    intro s d _ hs _ h hp
    simp only [decL, List.length_nil, List.map_nil]
    refine ⟨trivial, ?_⟩
    unfold DS.short
    rw [hs.2.2.2.2.2.1, decide_eq_false (by omega)]
    rfl
  | cons p r ih =>
    intro s d hl hs ho h hp
    obtain ⟨hp1, hp2⟩ := hl p (by simp)
    have hsh : d.short L = false := by
      unfold DS.short
      rw [hs.2.2.2.2.2.1, decide_eq_false (by omega)]
      rfl
    rw [encL, List.append_assoc] at h
    obtain ⟨i1, i2, i3, i4, i5, i6⟩ := pt_inv hp1 hp2 hs ho h
    have hlen := congrArg List.length h
    rw [List.length_drop, List.length_append] at hlen
    obtain ⟨j1, j2⟩ := ih _ _ (fun p hp => hl p (by simp [hp])) i1 i2 i5 (by omega)
    have hnf : ¬ (d.short L = true) := by rw [hsh]; decide
    simp only [List.length_cons, decL, if_neg hnf]
    refine ⟨?_, j2⟩
    rw [List.map_cons, ← j1, i3, i4]
theorem encPt_01 (s : ES) (a : Int) (v : Nat) : Bits01 (encPt s a v).1 := by
  unfold encPt
  simp only
  split
  · exact bits01_app (varF_01 _ _) (numB_01 _ _)
  · exact bits01_app (varF_01 _ _) (xorB_01 _ _)
  · exact bits01_app (difB_01 _) (xorB_01 _ _)
theorem encL_01 (vb : Nat → Nat) : ∀ (l : List (Int × Nat)) (s : ES), Bits01 (encL vb s l)
  | [], _ => fun b hb => by simp [encL] at hb
  | p :: r, s => bits01_app (encPt_01 _ _ _) (encL_01 vb r _)
end Go.Proofs.YtmjdcoacmmmhnaaDoor
