/-
What is printed is read back.
-/
import Derived.Test.YtgoillhmgpokoaaDoorG8
namespace Go.Proofs.YtgoillhmgpokoaaDoor
open Go Ev
set_option linter.all false
set_option maxHeartbeats 4000000
set_option maxRecDepth 5000
attribute [local irreducible] codeL condL loopL callL callV evOps evDraw rdK effK wayK oneK wayD oneD rdD effD chks chkB res

theorem u8n (x : Nat) (h : x < 256) : (UInt8.ofNat x).toNat = x := UInt8.toNat_ofNat_of_lt' h
theorem itoa_dig (n : Nat) : ∀ b ∈ Lib.itoa (n : Int), isDig b := by
  induction n using Nat.strongRecOn with
  | _ n ih =>
  intro b hb
  by_cases h : n < 10
  · rw [itoa_small h, List.mem_singleton] at hb
    subst hb
    unfold isDig
    rw [u8n _ (by omega)]
    omega
  · rw [itoa_big h, List.mem_append, List.mem_singleton] at hb
    rcases hb with hb | hb
    · exact ih (n / 10) (by omega) b hb
    · subst hb
      unfold isDig
      rw [u8n _ (by omega)]
      omega
theorem itoa_ne (n : Nat) : 0 < (Lib.itoa (n : Int)).length := by
  by_cases h : n < 10
  · rw [itoa_small h]; simp
  · rw [itoa_big h]; simp
theorem itoa_head (n : Nat) (h0 : 0 < n) : ¬ ((Lib.itoa (n : Int)).getD 0 0).toNat = 48 := by
  induction n using Nat.strongRecOn with
  | _ n ih =>
  by_cases h : n < 10
  · rw [itoa_small h, List.getD_cons_zero, u8n _ (by omega)]
    omega
  · have := ih (n / 10) (by omega) (by omega)
    have hl := itoa_ne (n / 10)
    rw [itoa_big h]
    rw [List.getD_eq_getElem?_getD, List.getElem?_append_left hl, ← List.getD_eq_getElem?_getD]
    exact this
theorem valO_app (most : Int) (b : UInt8) : ∀ (l : List UInt8) (n v : Int), valO most n l = some v → ¬ (most - ((b.toNat : Int) - 48)) / 10 < v → valO most n (l ++ [b]) = some (10 * v + ((b.toNat : Int) - 48))
  | [], n, v, h, hb => by
    simp only [valO, Option.some.injEq] at h
    subst h
    simp only [List.nil_append, valO, if_neg hb]
  | c :: r, n, v, h, hb => by
    simp only [valO] at h
    split at h
    · cases h
    · rename_i hc
      simp only [List.cons_append, valO, if_neg hc]
      exact valO_app most b r _ v h hb
theorem itoa_val (most : Int) (hm : 9 ≤ most) (n : Nat) (hn : (n : Int) ≤ most) : valO most 0 (Lib.itoa (n : Int)) = some (n : Int) := by
  induction n using Nat.strongRecOn with
  | _ n ih =>
  by_cases h : n < 10
  · rw [itoa_small h]
    simp only [valO]
    rw [u8n _ (by omega), if_neg (by omega)]
    exact congrArg some (by omega)
  · rw [itoa_big h, valO_app most _ _ _ _ (ih (n / 10) (by omega) (by omega)) (by rw [u8n _ (by omega)]; omega)]
    rw [u8n _ (by omega)]
    exact congrArg some (by omega)
theorem digL_app (t : List UInt8) : ∀ (l : List UInt8), (∀ b ∈ l, isDig b) → digL (l ++ t) = l.length + digL t
  | [], _ => by simp
  | b :: r, h => by
    simp only [List.cons_append, digL, List.length_cons]
    rw [if_pos (h b (by simp)), digL_app t r fun b hb => h b (by simp [hb])]
    omega
theorem digitsL_itoa (n : Nat) (c : UInt8) (hc : ¬ isDig c) (r : List UInt8) : digitsL (Lib.itoa (n : Int) ++ c :: r) = (Lib.itoa (n : Int)).length := by
  have h1 : digL (Lib.itoa (n : Int) ++ c :: r) = (Lib.itoa (n : Int)).length := by
    rw [digL_app _ _ (itoa_dig n)]
    simp only [digL, if_neg hc, Nat.add_zero]
  unfold digitsL
  rw [h1]
  have hl := itoa_ne n
  rw [List.getD_eq_getElem?_getD, List.getElem?_append_left hl, ← List.getD_eq_getElem?_getD]
  by_cases h0 : 0 < n
  · rw [if_neg fun h => itoa_head n h0 h.2]
  · obtain rfl : n = 0 := by omega
    rw [itoa_small (by decide), if_neg (by simp)]

theorem cpl_names {i k : Nat} (hi : i < 6) (hk : k < 6) (rest : List UInt8) (hr : ∀ b r, rest = b :: r → isDig b) : cpl (nameOf k) (nameOf i ++ rest) = (nameOf k).length ↔ (k = i ∨ (k = 1 ∧ i = 3)) := by
  match rest, hr with
  | [], _ => rcases lt6 hi with rfl | rfl | rfl | rfl | rfl | rfl <;> rcases lt6 hk with rfl | rfl | rfl | rfl | rfl | rfl <;> decide
  | b :: r, hr =>
    have := hr b r rfl
    unfold isDig at this
    have h1 : ¬ b.toNat = 115 := by omega
    have h2 : ¬ b.toNat = 104 := by omega
    have h3 : ¬ b.toNat = 109 := by omega
    rcases lt6 hi with rfl | rfl | rfl | rfl | rfl | rfl <;> rcases lt6 hk with rfl | rfl | rfl | rfl | rfl | rfl <;> simp [nameOf, unitTab, cpl, h1, h2, h3]
theorem unitF_name {i frm : Nat} (hi : i < 6) (hf : frm ≤ i) (rest : List UInt8) (hr : ∀ b r, rest = b :: r → isDig b) : unitF (nameOf i ++ rest) frm = some i := by
  have key := fun k (hk : k < 6) => cpl_names hi hk rest hr
  have l2 : ∀ k, k < 6 → ((nameOf k).length = 2 ↔ 3 ≤ k) := fun k hk => by rcases lt6 hk with rfl | rfl | rfl | rfl | rfl | rfl <;> decide
  generalize nameOf i ++ rest = t at key
  have k0 := key 0 (by decide)
  have k1 := key 1 (by decide)
  have k2 := key 2 (by decide)
  have k3 := key 3 (by decide)
  have k4 := key 4 (by decide)
  have k5 := key 5 (by decide)
  have m0 := l2 0 (by decide)
  have m1 := l2 1 (by decide)
  have m2 := l2 2 (by decide)
  have m3 := l2 3 (by decide)
  have m4 := l2 4 (by decide)
  have m5 := l2 5 (by decide)
  unfold unitF
  have hfr : frm = 0 ∨ frm = 1 ∨ frm = 2 ∨ frm = 3 ∨ frm = 4 ∨ frm = 5 := by omega
  rcases lt6 hi with rfl | rfl | rfl | rfl | rfl | rfl <;> rcases hfr with rfl | rfl | rfl | rfl | rfl | rfl <;> first
    | (exfalso; omega)
    | simp [List.range', bestL, stepD, k0, k1, k2, k3, k4, k5, m0, m1, m2, m3, m4, m5]

theorem printL_acc : ∀ (l : List Nat) (d : Int) (acc : List UInt8), printL l d acc = acc ++ printL l d []
  | [], d, acc => by simp [printL]
  | i :: r, d, acc => by
    simp only [printL]
    split
    · rw [printL_acc r _ (acc ++ _), printL_acc r _ ([] ++ _)]
      simp
    · exact printL_acc r d acc
theorem printL_zero : ∀ (l : List Nat), printL l 0 [] = []
  | [] => rfl
  | i :: r => by
    simp only [printL, Int.zero_ediv]
    rw [if_neg (by omega)]
    exact printL_zero r
theorem printL_dig : ∀ (l : List Nat) (d : Int), (∀ i ∈ l, i < 6) → 0 ≤ d → ∀ b r, printL l d [] = b :: r → isDig b
  | [], d, _, _, b, r, h => by simp [printL] at h
  | i :: q, d, hl, h0, b, r, h => by
    have hns := nsOf_pos (hl i (by simp))
    simp only [printL] at h
    split at h
    · rw [printL_acc, List.nil_append] at h
      have hq0 := Int.ediv_nonneg h0 (show 0 ≤ nsOf i by omega)
      have hd := itoa_dig (d / nsOf i).toNat
      have hn := itoa_ne (d / nsOf i).toNat
      rw [Int.toNat_of_nonneg hq0] at hd hn
      match hi : Lib.itoa (d / nsOf i), hn with
      | c :: t, _ =>
        rw [hi, List.cons_append, List.cons_append] at h
        rw [hi] at hd
        have := (List.cons.inj h).1
        subst this
        exact hd c (by simp)
    · exact printL_dig q d (fun k hk => hl k (by simp [hk])) h0 b r h

theorem parse_print (d0 : Nat) : ∀ (n i k frm : Nat) (d sum : Int) (pos : Nat), 6 - i = n → i ≤ 6 → 6 - i ≤ k → frm ≤ i → 0 < d → (1 ≤ i → d < nsOf (i - 1)) → 0 ≤ sum → sum + d ≤ 2305843009213693952 →
    parseL k (printL (List.range' i (6 - i)) d []) frm sum pos = (sum + d, 0, 0) := by
  intro n
  induction n with
  | zero =>
    intro i k frm d sum pos hn hi hk hf hd hl
    have h6 : i = 6 := by omega
    subst h6
    have := hl (by omega)
    have h1 : nsOf (6 - 1) = 1 := rfl
    omega
  | succ n ih =>
    intro i k frm d sum pos hn hi hk hf hd hl h0 h1
    have hi6 : i < 6 := by omega
    have hns := nsOf_pos hi6
    rw [range6 hi6]
    simp only [printL]
    split
    · rename_i hq
      rw [printL_acc, List.nil_append]
      have hq0 : 0 ≤ d / nsOf i := by omega
      have hdm := Int.mul_ediv_add_emod d (nsOf i)
      have hm0 := Int.emod_nonneg d (show nsOf i ≠ 0 by omega)
      have hm1 := Int.emod_lt_of_pos d (show 0 < nsOf i by omega)
      rw [Int.mul_comm] at hdm
      have hqd : d / nsOf i ≤ d := Int.ediv_le_self (nsOf i) (by omega)
      have hqm : 0 ≤ d / nsOf i * nsOf i := Int.mul_nonneg hq0 (by omega)
      have hdig := printL_dig (List.range' (i + 1) (6 - (i + 1))) (d % nsOf i) (fun j hj => by have := List.mem_range'_1.1 hj; omega) hm0
      have hz : d % nsOf i = 0 → printL (List.range' (i + 1) (6 - (i + 1))) (d % nsOf i) [] = [] := fun h => by rw [h]; exact printL_zero _
      have hih := fun hp => ih (i + 1) (k - 1) (i + 1) (d % nsOf i) (sum + d / nsOf i * nsOf i) (pos + (Lib.itoa (d / nsOf i)).length + (nameOf i).length) (by omega) (by omega) (by omega) (by omega) hp (fun _ => by simpa using hm1) (by omega) (by omega)
      generalize hrest : printL (List.range' (i + 1) (6 - (i + 1))) (d % nsOf i) [] = rest at *
      have hu := unitF_name hi6 hf rest hdig
      obtain ⟨q, hqe⟩ : ∃ q : Nat, d / nsOf i = (q : Int) := ⟨(d / nsOf i).toNat, by omega⟩
      rw [hqe] at hq hq0 hdm hqd hih hqm ⊢
      obtain ⟨c, t, hc, hcd⟩ : ∃ c t, nameOf i = c :: t ∧ ¬ isDig c := by
        rcases lt6 hi6 with rfl | rfl | rfl | rfl | rfl | rfl
        all_goals exact ⟨_, _, rfl, by decide⟩
      have hdl : digitsL (Lib.itoa (q : Int) ++ (nameOf i ++ rest)) = (Lib.itoa (q : Int)).length := by
        rw [hc, List.cons_append]; exact digitsL_itoa q c hcd _
      have hval := itoa_val 2305843009213693952 (by decide) q (by omega)
      obtain ⟨k', rfl⟩ : ∃ k', k = k' + 1 := ⟨k - 1, by omega⟩
      have hne := itoa_ne q
      rw [List.append_assoc]
      simp only [parseL, hdl]
      rw [if_neg (by omega)]
      simp only [List.drop_left, List.take_left, hu, hval, Option.getD_some]
      have hle : q ≤ (2305843009213693952 - sum) / nsOf i := by
        rw [Int.le_ediv_iff_mul_le (by omega)]
        omega
      rw [if_neg (by omega)]
      rw [← List.drop_drop, List.drop_left, List.drop_left]
      by_cases hr : rest = []
      · rw [if_pos hr]
        by_cases hdz : d % nsOf i = 0
        · rw [show sum + (q : Int) * nsOf i = sum + d by omega]
        · have := hih (by omega)
          rw [hr] at this
          exfalso
          match k', this with
          | 0, this => simp [parseL] at this
          | k'' + 1, this => simp [parseL, digitsL, digL] at this
      · rw [if_neg hr]
        have := hih (by
          by_cases hdz : d % nsOf i = 0
          · exact absurd (hz hdz) hr
          · omega)
        simp only [Nat.add_sub_cancel] at this
        rw [this]
        rw [show sum + (q : Int) * nsOf i + d % nsOf i = sum + d by omega]
    · rename_i hq
      have hlt : d < nsOf i := by
        have hdm := Int.mul_ediv_add_emod d (nsOf i)
        have hq0 := Int.ediv_nonneg (show 0 ≤ d by omega) (show 0 ≤ nsOf i by omega)
        have hm1 := Int.emod_lt_of_pos d (show 0 < nsOf i by omega)
        rw [show d / nsOf i = 0 by omega] at hdm
        omega
      exact ih (i + 1) k frm d sum pos (by omega) (by omega) (by omega) (by omega) hd (fun _ => by simpa using hlt) h0 h1
theorem parseF_span {d : Int} (h0 : 0 ≤ d) (h1 : d ≤ 2305843009213693952) : parseF (spanL d) = (d, 0, 0) := by
  unfold spanL
  split
  · rename_i h
    subst h
    kernel_rfl
  · have := parse_print 0 6 0 7 0 d 0 0 rfl (by omega) (by omega) (by omega) (by omega) (by omega) (by omega) (by omega)
    rw [Int.zero_add] at this
    exact this
theorem parseF_cases (s : List UInt8) : (∃ e pl, parseF s = (0, e, pl) ∧ ¬ e = 0 ∧ pl ≤ s.length) ∨ ∃ n, parseF s = (n, 0, 0) ∧ 0 ≤ n ∧ n ≤ 2305843009213693952 := by
  rcases parseL_cases 7 s 0 0 0 with ⟨e, pl, h, he⟩ | ⟨n, h⟩
  · have := parseF_pl s
    unfold parseF at *
    rw [h] at this
    exact .inl ⟨e, pl, h, he, this⟩
  · exact .inr ⟨n, h, parseL_sum 7 s 0 0 0 n (by decide) (by decide) h⟩
theorem parseRV_rate {n p : Int} (h : RightR n p) : parseRV (rateL n p) = .tup [.agg [.int .i64 n, .int .i64 p], .int .i64 0, .int .i64 0] := by
  obtain ⟨q, hq⟩ : ∃ q : Nat, n = (q : Int) := ⟨n.toNat, by have := h.1; omega⟩
  subst hq
  have hd : digitsL (rateL q p) = (Lib.itoa (q : Int)).length := by
    unfold rateL
    rw [List.append_assoc]
    exact digitsL_itoa q 47 (by decide) _
  have hne := itoa_ne q
  have hval := itoa_val 1099511627776 (by decide) q h.1.2
  have hp := parseF_span (d := p) (by have := h.2; omega) (by have := h.2; omega)
  have ht : (rateL q p).take (Lib.itoa (q : Int)).length = Lib.itoa (q : Int) := by
    unfold rateL; rw [List.append_assoc, List.take_left]
  have hdr : (rateL q p).drop ((Lib.itoa (q : Int)).length + 1) = spanL p := by
    unfold rateL; rw [List.append_assoc, ← List.drop_drop, List.drop_left]; try rfl
  have hg : ((rateL q p).getD (Lib.itoa (q : Int)).length 0).toNat = 47 := by
    unfold rateL
    rw [List.append_assoc, List.getD_eq_getElem?_getD, List.getElem?_append_right (Nat.le_refl _), Nat.sub_self]
    rfl
  have hl : (Lib.itoa (q : Int)).length < (rateL q p).length := by unfold rateL; simp <;> omega
  unfold parseRV
  rw [hd, ht, hdr, hval, hp, hg]
  rw [if_neg (by omega), if_neg (by have := h.1; first | omega | (simp only [Option.getD_some]; omega)), if_neg (by omega), if_neg (by simp), if_neg (by have := h.2; first | omega | (simp only; omega))]
  rfl
theorem parseRV_cases (s : List UInt8) : (∃ e pl, parseRV s = .tup [.agg [.int .i64 0, .int .i64 0], .int .i64 e, .int .i64 pl] ∧ ¬ e = 0 ∧ 0 ≤ pl ∧ pl ≤ (s.length : Int)) ∨ ∃ n p, parseRV s = .tup [.agg [.int .i64 n, .int .i64 p], .int .i64 0, .int .i64 0] ∧ RightR n p := by
  have hdl := digitsL_le s
  have hv := valO_range _ (take_digitsL s) 1099511627776 (by decide)
  have hpl := parseF_pl (s.drop (digitsL s + 1))
  rw [List.length_drop] at hpl
  unfold parseRV
  split
  · exact .inl ⟨20, 0, rfl, by decide, by omega, by omega⟩
  split
  · exact .inl ⟨2, 0, rfl, by decide, by omega, by omega⟩
  split
  · exact .inl ⟨20, _, rfl, by decide, by omega, by omega⟩
  split
  · rename_i h47 he
    exact .inl ⟨_, _, rfl, he, by omega, by omega⟩
  split
  · exact .inl ⟨20, _, rfl, by decide, by omega, by omega⟩
  · rename_i hz hx h47 he hp0
    refine .inr ⟨_, _, rfl, ?_⟩
    rcases parseF_cases (s.drop (digitsL s + 1)) with ⟨e, pl, h, he', _⟩ | ⟨n, h, hn⟩
    · rw [h] at he; exact absurd he' he
    · rw [h] at hp0 ⊢
      simp only at hp0 ⊢
      unfold RightR
      omega
end Go.Proofs.YtgoillhmgpokoaaDoor
