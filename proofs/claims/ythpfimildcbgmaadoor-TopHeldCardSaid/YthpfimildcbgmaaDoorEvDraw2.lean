/-
Regions that draw their order: every order answers as the text's order.
-/
import Derived.Test.YthpfimildcbgmaaDoorEvDraw
namespace Go.Proofs.YthpfimildcbgmaaDoor
namespace Ev
set_option linter.all false
open Go

/-- A region's look: its edges, and what is ahead of what. -/
def drawOk (E : Env) (f : Nat) (ops : Array Oper) (bf : Array Nat) : Bool :=
  (List.range ops.size).all fun i => match ops[i]? with
    | none => true
    | some o => (o.after.toList.all fun e => !Region.binds .any e || decide (e.on < i)) && (List.range ops.size).all fun j => match ops[j]? with
      | none => true
      | some u =>
        (!bfT bf i j || (decide (j < i) && o.after.toList.any fun e => Region.binds .any e && (e.on == j || bfT bf e.on j))) &&
        (match u.dst with
          | some d => (!(o.looksAt ops).contains d || (bfT bf i j || bfT bf j i)) && (j == i || o.dst != some d)
          | none => true) &&
        (!(isEff E f o && isEff E f u && decide (j < i)) || bfT bf i j)

structure DrawOk (E : Env) (f : Nat) (ops : Array Oper) (bf : Array Nat) : Prop where
  edge : ∀ (i : Nat) (o : Oper), ops[i]? = some o → ∀ e ∈ o.after, Region.binds .any e = true → e.on < i
  lt : ∀ (i : Nat) (o : Oper) (j : Nat) (u : Oper), ops[i]? = some o → ops[j]? = some u → bfT bf i j = true → j < i
  via : ∀ (i : Nat) (o : Oper) (j : Nat) (u : Oper), ops[i]? = some o → ops[j]? = some u → bfT bf i j = true → ∃ e ∈ o.after, Region.binds .any e = true ∧ (e.on = j ∨ bfT bf e.on j = true)
  look : ∀ (i : Nat) (o : Oper) (j : Nat) (u : Oper) (d : Nat), ops[i]? = some o → ops[j]? = some u → u.dst = some d → d ∈ o.looksAt ops → bfT bf i j = true ∨ bfT bf j i = true
  dst : ∀ (i : Nat) (o : Oper) (j : Nat) (u : Oper) (d : Nat), ops[i]? = some o → ops[j]? = some u → u.dst = some d → o.dst = some d → j = i
  eff : ∀ (i : Nat) (o : Oper) (j : Nat) (u : Oper), ops[i]? = some o → ops[j]? = some u → isEff E f o = true → isEff E f u = true → j < i → bfT bf i j = true

theorem drawOk_spec {E : Env} {f : Nat} {ops : Array Oper} {bf : Array Nat} (h : drawOk E f ops bf = true) : DrawOk E f ops bf := by
  unfold drawOk at h
  rw [List.all_eq_true] at h
  have h1 : ∀ (i : Nat) (o : Oper), ops[i]? = some o → (o.after.toList.all fun e => !Region.binds .any e || decide (e.on < i)) = true ∧ ∀ (j : Nat) (u : Oper), ops[j]? = some u →
      ((!bfT bf i j || (decide (j < i) && o.after.toList.any fun e => Region.binds .any e && (e.on == j || bfT bf e.on j))) = true ∧
        (match u.dst with
          | some d => (!(o.looksAt ops).contains d || (bfT bf i j || bfT bf j i)) && (j == i || o.dst != some d)
          | none => true) = true ∧
        (!(isEff E f o && isEff E f u && decide (j < i)) || bfT bf i j) = true) := by
    intro i o ho
    have := h i (List.mem_range.2 (Array.getElem?_eq_some_iff.1 ho).1)
    rw [ho] at this
    simp only [Bool.and_eq_true] at this
    refine ⟨this.1, fun j u hu => ?_⟩
    have h2 := List.all_eq_true.1 this.2 j (List.mem_range.2 (Array.getElem?_eq_some_iff.1 hu).1)
    rw [hu] at h2
    simp only [Bool.and_eq_true] at h2
    exact ⟨h2.1.1, h2.1.2, h2.2⟩
  refine ⟨fun i o ho e he hb => ?_, fun i o j u ho hu hb => ?_, fun i o j u ho hu hb => ?_, fun i o j u d ho hu hd hl => ?_, fun i o j u d ho hu hd hl => ?_, fun i o j u ho hu he hf hl => ?_⟩
  · have := List.all_eq_true.1 (h1 i o ho).1 e (by simpa using he)
    simpa [hb] using this
  · have := ((h1 i o ho).2 j u hu).1
    rw [hb] at this
    simp only [Bool.not_true, Bool.false_or, Bool.and_eq_true, decide_eq_true_eq] at this
    exact this.1
  · have := ((h1 i o ho).2 j u hu).1
    rw [hb] at this
    simp only [Bool.not_true, Bool.false_or, Bool.and_eq_true, decide_eq_true_eq, List.any_eq_true] at this
    obtain ⟨_, e, he, h2, h3⟩ := this
    exact ⟨e, by simpa using he, h2, by simpa using h3⟩
  · have := ((h1 i o ho).2 j u hu).2.1
    rw [hd] at this
    simp only [Bool.and_eq_true, Bool.or_eq_true, Bool.not_eq_true'] at this
    rcases this.1 with h2 | h2
    · have h3 : (o.looksAt ops).contains d = true := List.contains_iff_mem.2 hl
      rw [h3] at h2; cases h2
    · exact h2
  · have := ((h1 i o ho).2 j u hu).2.1
    rw [hd] at this
    simp only [Bool.and_eq_true, Bool.or_eq_true, beq_iff_eq, bne_iff_ne] at this
    rcases this.2 with h2 | h2
    · exact h2
    · exact absurd hl h2
  · have := ((h1 i o ho).2 j u hu).2.2
    simpa [he, hf, hl] using this

theorem getD_putV_ne {t : List V} {d : Option Nat} {v : V} {s : Nat} (h : d ≠ some s) : (putV t d v).getD s .wild = t.getD s .wild := by
  cases d with
  | none => rfl
  | some i =>
    simp only [putV, List.getD_eq_getElem?_getD, List.getElem?_set]
    rw [if_neg (fun e => h (by rw [e]))]

theorem getD_putV_eq {t t' : List V} {v : V} {s : Nat} (h : t.length = t'.length) : (putV t (some s) v).getD s .wild = (putV t' (some s) v).getD s .wild := by
  simp only [putV, List.getD_eq_getElem?_getD, List.getElem?_set, if_pos, h]

theorem length_putV {t : List V} {d : Option Nat} {v : V} : (putV t d v).length = t.length := by cases d <;> simp [putV]

theorem firstOf (D : Nat → Prop) (a : Nat) : ∀ b, a ≤ b → (∀ j, a ≤ j → j < b → ¬ D j) ∨ ∃ k, a ≤ k ∧ k < b ∧ D k ∧ ∀ j, a ≤ j → j < k → ¬ D j := by
  intro b
  induction b with
  | zero => intro h; exact .inl fun j h1 h2 => absurd h2 (Nat.not_lt_zero _)
  | succ b ih =>
    intro h
    by_cases hab : a ≤ b
    · rcases ih hab with h1 | ⟨k, h1, h2, h3, h4⟩
      · by_cases hd : D b
        · exact .inr ⟨b, hab, Nat.lt_succ_self _, hd, fun j hj hjb => h1 j hj hjb⟩
        · refine .inl fun j hj hjb => ?_
          by_cases e : j = b
          · subst e; exact hd
          · exact h1 j hj (by omega)
      · exact .inr ⟨k, h1, by omega, h3, h4⟩
    · exact .inl fun j h1 h2 => by omega

theorem lastOf (D : Nat → Prop) (a : Nat) : ∀ b, (∀ j, a ≤ j → j < b → ¬ D j) ∨ ∃ k, a ≤ k ∧ k < b ∧ D k ∧ ∀ j, k < j → j < b → ¬ D j := by
  intro b
  induction b with
  | zero => exact .inl fun j h1 h2 => absurd h2 (Nat.not_lt_zero _)
  | succ b ih =>
    by_cases hd : a ≤ b ∧ D b
    · exact .inr ⟨b, hd.1, Nat.lt_succ_self _, hd.2, fun j hj hjb => by omega⟩
    · rcases ih with h1 | ⟨k, h1, h2, h3, h4⟩
      · refine .inl fun j hj hjb hD => ?_
        by_cases e : j = b
        · subst e; exact hd ⟨hj, hD⟩
        · exact h1 j hj (by omega) hD
      · refine .inr ⟨k, h1, by omega, h3, fun j hj hjb hD => ?_⟩
        by_cases e : j = b
        · subst e; exact hd ⟨by omega, hD⟩
        · exact h4 j hj (by omega) hD

section
variable {E : Env} {c : Calls_} {f : Nat} {ops : Array Oper} {bf : Array Nat} {T : Nat → Tr}

def Acts (E : Env) (f : Nat) (ops : Array Oper) (T : Nat → Tr) (j : Nat) : Prop := ∃ o, ops[j]? = some o ∧ isEff E f o = true ∧ (T j).want = true

theorem hp_const (tr : TraceOk E c f ops bf 0 [] [] T) {p : Nat} : ∀ q, p ≤ q → q ≤ ops.size → (∀ j, p ≤ j → j < q → ¬ Acts E f ops T j) → (T q).hp = (T p).hp := by
  intro q
  induction q with
  | zero => intro h _ _; rw [Nat.le_zero.1 h]
  | succ q ih =>
    intro h hn hD
    by_cases e : p = q + 1
    · rw [e]
    · have hq : q < ops.size := by omega
      have ho : ops[q]? = some ops[q] := Array.getElem?_eq_getElem hq
      have := ih (by omega) (by omega) fun j hj hjq => hD j hj (by omega)
      rw [← this]
      cases hw : (T q).want with
      | false => exact (tr.skip q _ (Nat.zero_le _) ho hw).2
      | true =>
        cases he : isEff E f ops[q] with
        | false => exact (tr.rd q _ (Nat.zero_le _) ho hw he).2
        | true => exact absurd ⟨_, ho, he, hw⟩ (hD q (by omega) (Nat.lt_succ_self _))

theorem tm_len (tr : TraceOk E c f ops bf 0 [] [] T) : ∀ q, q ≤ ops.size → (T q).tm.length = (T 0).tm.length := by
  intro q
  induction q with
  | zero => intro _; rfl
  | succ q ih =>
    intro hn
    rw [tr.next q _ (Nat.zero_le _) (Array.getElem?_eq_getElem (show q < ops.size by omega)), length_putV]
    exact ih (by omega)

/-- A slot that nobody puts between p and q. -/
theorem tm_keep (tr : TraceOk E c f ops bf 0 [] [] T) {s p : Nat} : ∀ q, p ≤ q → q ≤ ops.size → (∀ (j : Nat) (o : Oper), p ≤ j → j < q → ops[j]? = some o → o.dst ≠ some s) → (T q).tm.getD s .wild = (T p).tm.getD s .wild := by
  intro q
  induction q with
  | zero => intro h _ _; rw [Nat.le_zero.1 h]
  | succ q ih =>
    intro h hn hD
    by_cases e : p = q + 1
    · rw [e]
    · have ho : ops[q]? = some ops[q] := Array.getElem?_eq_getElem (show q < ops.size by omega)
      rw [tr.next q _ (Nat.zero_le _) ho, getD_putV_ne (hD q _ (by omega) (Nat.lt_succ_self _) ho)]
      exact ih (by omega) (by omega) fun j o hj hjq => hD j o hj (by omega)

/-- Where a run in some order stands. -/
structure Stand (E : Env) (f : Nat) (ops : Array Oper) (bf : Array Nat) (T : Nat → Tr) (C₀ : Ctx) (w₀ : World) (listed : Array Bool) (a : Act) (w : World) (C : Ctx) (p : Nat) (t : List V) : Prop where
  size : listed.size = ops.size
  closed : ∀ (i : Nat) (o : Oper) (j : Nat) (u : Oper), ops[i]? = some o → ops[j]? = some u → listed.getD i false = true → bfT bf i j = true → listed.getD j false = true
  le : p ≤ ops.size
  effs : ∀ (j : Nat) (o : Oper), ops[j]? = some o → isEff E f o = true → (listed.getD j false = true ↔ j < p)
  tm : TRel C t a.tmps
  put : ∀ (j : Nat) (o : Oper) (s : Nat), ops[j]? = some o → listed.getD j false = true → o.dst = some s → t.getD s .wild = (T (j + 1)).tm.getD s .wild
  old : ∀ s : Nat, (∀ (j : Nat) (o : Oper), ops[j]? = some o → o.dst = some s → listed.getD j false = false) → t.getD s .wild = (T 0).tm.getD s .wild
  len : t.length = (T 0).tm.length
  box : HRel C (T p).hp w
  step : Step C₀ w₀ C w
  defers : a.defers = []

theorem look_slot {C₀ : Ctx} {w₀ : World} {listed : Array Bool} {a : Act} {w : World} {C : Ctx} {p : Nat} {t : List V} (tr : TraceOk E c f ops bf 0 [] [] T) (ok : DrawOk E f ops bf) (st : Stand E f ops bf T C₀ w₀ listed a w C p t)
    {i : Nat} {o : Oper} (ho : ops[i]? = some o) (hl : ∀ (j : Nat) (u : Oper), ops[j]? = some u → bfT bf i j = true → listed.getD j false = true) (hun : listed.getD i false = false) {s : Nat} (hs : s ∈ o.looksAt ops) : t.getD s .wild = (T i).tm.getD s .wild := by
  have hi := (Array.getElem?_eq_some_iff.1 ho).1
  by_cases hd : ∃ (j : Nat) (u : Oper), ops[j]? = some u ∧ u.dst = some s
  · obtain ⟨j, u, hu, hd⟩ := hd
    rcases ok.look i o j u s ho hu hd hs with hb | hb
    · have hlt := ok.lt i o j u ho hu hb
      rw [st.put j u s hu (hl j u hu hb) hd]
      exact (tm_keep tr i (by omega) (by omega) fun k x hk hki hx hxs => by
        have := ok.dst j u k x s hu hx hxs hd
        omega).symm
    · have hlt := ok.lt j u i o hu ho hb
      rw [st.old s fun k x hx hxs => by
        have := ok.dst j u k x s hu hx hxs hd
        subst this
        cases hc : listed.getD k false with
        | false => rfl
        | true =>
          have := st.closed k u i o hu ho hc hb
          rw [hun] at this
          cases this]
      exact (tm_keep tr i (Nat.zero_le _) (by omega) fun k x hk hki hx hxs => by
        have := ok.dst j u k x s hu hx hxs hd
        omega).symm
  · have hno : ∀ (j : Nat) (u : Oper), ops[j]? = some u → u.dst ≠ some s := fun j u hu h => hd ⟨j, u, hu, h⟩
    rw [st.old s fun j u hu h => absurd h (hno j u hu)]
    exact (tm_keep tr i (Nat.zero_le _) (by omega) fun k x _ _ hx => hno k x hx).symm

theorem look_arg {t t' : List V} {o : Oper} (h : ∀ s ∈ o.looksAt ops, t.getD s .wild = t'.getD s .wild) : ∀ x ∈ o.op.operands, arg E t x = arg E t' x := by
  intro x hx
  cases x with
  | tmp s => exact h s (List.mem_append_left _ (List.mem_filterMap.2 ⟨.tmp s, by simpa using hx, rfl⟩))
  | _ => rfl

theorem look_guard {t t' : List V} {o : Oper} (h : ∀ s ∈ o.looksAt ops, t.getD s .wild = t'.getD s .wild) : guardB ops t o.guard = guardB ops t' o.guard := by
  refine guardB_congr fun j w d hg hd => h d ?_
  refine List.mem_append_right _ ?_
  rw [hg]
  simp [hd]

theorem getD_set_listed {listed : Array Bool} {i j : Nat} (hi : i < listed.size) : (listed.setIfInBounds i true).getD j false = (if i = j then true else listed.getD j false) := by
  by_cases h : i = j
  · subst h; simp [hi]
  · rw [if_neg h]; simp [Array.getElem?_setIfInBounds_ne h]

/-- The step that op i makes, whenever it is its turn. -/
theorem stand_put {C₀ : Ctx} {w₀ : World} {listed : Array Bool} {a : Act} {w w' : World} {C C' : Ctx} {p p' : Nat} {t : List V} (tr : TraceOk E c f ops bf 0 [] [] T) (ok : DrawOk E f ops bf) (st : Stand E f ops bf T C₀ w₀ listed a w C p t)
    {i : Nat} {o : Oper} (ho : ops[i]? = some o) (hl : ∀ (j : Nat) (u : Oper), ops[j]? = some u → bfT bf i j = true → listed.getD j false = true) {x : Value} (hx : Rel C' (T i).val x) (hb : HRel C' (T p').hp w') (hs : Step C w C' w') (hp : p' ≤ ops.size)
    (he : ∀ (j : Nat) (u : Oper), ops[j]? = some u → isEff E f u = true → ((listed.setIfInBounds i true).getD j false = true ↔ j < p')) :
    Stand E f ops bf T C₀ w₀ (listed.setIfInBounds i true) (a.put o.dst x) w' C' p' (putV t o.dst (T i).val) := by
  have hi := (Array.getElem?_eq_some_iff.1 ho).1
  have hi' : i < listed.size := by rw [st.size]; exact hi
  refine ⟨by simpa using st.size, fun k u j y hu hy hk hkj => ?_, hp, he, (st.tm.mono hs.ext).putV _ hx, fun j u s hu hj hd => ?_, fun s hno => ?_, by rw [length_putV]; exact st.len, hb, st.step.trans hs, by rw [put_defers_eq]; exact st.defers⟩
  · rw [getD_set_listed hi'] at hk ⊢
    split
    · rfl
    · by_cases hik : i = k
      · subst hik
        exact hl j y hy hkj
      · rw [if_neg hik] at hk
        exact st.closed k u j y hu hy hk hkj
  · rw [getD_set_listed hi'] at hj
    by_cases hij : i = j
    · subst hij
      rw [ho] at hu; cases hu
      rw [tr.next i o (Nat.zero_le _) ho, hd]
      exact getD_putV_eq (by rw [st.len, tm_len tr i (by omega)])
    · rw [if_neg hij] at hj
      rw [getD_putV_ne fun h => hij (ok.dst j u i o s hu ho h hd)]
      exact st.put j u s hu hj hd
  · have hds : o.dst ≠ some s := fun h => by
      have := hno i o ho h
      rw [getD_set_listed hi', if_pos rfl] at this
      cases this
    rw [getD_putV_ne hds]
    refine st.old s fun j u hu hd => ?_
    have := hno j u hu hd
    rw [getD_set_listed hi'] at this
    split at this
    · cases this
    · exact this

theorem count_set_listed : ∀ (l : List Bool) (i : Nat), l[i]? = some false → (l.set i true).count true = l.count true + 1
  | [], i, h => by simp at h
  | b :: l, 0, h => by
    simp at h
    subst h
    simp
  | b :: l, i + 1, h => by
    simp at h
    have := count_set_listed l i h
    cases b <;> simp [this]

theorem any_of_stand {W₀ : Array Obj} (hc : CallsOk W₀ E c) (tr : TraceOk E c f ops bf 0 [] [] T) (ok : DrawOk E f ops bf) {C₀ : Ctx} {w₀ : World} (hg : GRel E C₀) (hinv : Inv W₀ C₀ w₀) {K : List V → Heap → Res} {res : V × Heap} {Q : Exit → Act → World → Prop}
    (hK : K (T ops.size).tm (T ops.size).hp = some res) (hQ : ∀ a w, Led C₀ w₀ K res a w → Q .normal a w) :
    ∀ (fuel : Nat) (listed : Array Bool) (a : Act) (w : World) (C : Ctx) (p : Nat) (t : List V), Stand E f ops bf T C₀ w₀ listed a w C p t → fuel + listed.toList.count true = ops.size → wpAny E.P .any ops Q fuel listed a w := by
  intro fuel
  induction fuel with
  | zero =>
    intro listed a w C p t st hn
    have hall : ∀ j, j < ops.size → listed.getD j false = true := by
      intro j hj
      have h1 : listed.toList.count true = listed.toList.length := by rw [Array.length_toList, st.size]; omega
      have hj' : j < listed.size := by rw [st.size]; exact hj
      have h2 := List.count_eq_length.1 h1 listed[j] (by simp)
      simp [hj', ← h2]
    refine ⟨?_, ?_⟩
    · rw [List.eq_nil_iff_forall_not_mem]
      intro j hj
      obtain ⟨h1, o, ho, _⟩ := mem_ready.1 hj
      have hlt := (Array.getElem?_eq_some_iff.1 ho).1
      have hj' : j < listed.size := by rw [st.size]; exact hlt
      have := hall j hlt
      simp [hj'] at h1 this
      rw [h1] at this
      cases this
    · refine hQ a w ⟨C, (T ops.size).tm, (T ops.size).hp, hK, ?_, ?_, st.step, st.defers⟩
      · have : t = (T ops.size).tm := by
          apply List.ext_getElem?
          intro s
          have hlen : t.length = (T ops.size).tm.length := by rw [st.len, tm_len tr _ (Nat.le_refl _)]
          have hget : t.getD s .wild = (T ops.size).tm.getD s .wild := by
            by_cases hd : ∃ (j : Nat) (u : Oper), ops[j]? = some u ∧ u.dst = some s
            · obtain ⟨j, u, hu, hd⟩ := hd
              have hj := (Array.getElem?_eq_some_iff.1 hu).1
              rw [st.put j u s hu (hall j hj) hd]
              exact (tm_keep tr _ (by omega) (Nat.le_refl _) fun k x hk hki hx hxs => by
                have := ok.dst j u k x s hu hx hxs hd
                omega).symm
            · have hno : ∀ (j : Nat) (u : Oper), ops[j]? = some u → u.dst ≠ some s := fun j u hu h => hd ⟨j, u, hu, h⟩
              rw [st.old s fun j u hu h => absurd h (hno j u hu)]
              exact (tm_keep tr _ (Nat.zero_le _) (Nat.le_refl _) fun k x _ _ hx => hno k x hx).symm
          by_cases hs : s < t.length
          · have hs' : s < (T ops.size).tm.length := hlen ▸ hs
            rw [List.getD_eq_getElem?_getD, List.getD_eq_getElem?_getD, List.getElem?_eq_getElem hs, List.getElem?_eq_getElem hs'] at hget
            rw [List.getElem?_eq_getElem hs, List.getElem?_eq_getElem hs']
            simpa using hget
          · rw [List.getElem?_eq_none (by omega), List.getElem?_eq_none (by omega)]
        rw [← this]
        exact st.tm
      · have : (T ops.size).hp = (T p).hp := hp_const tr _ st.le (Nat.le_refl _) fun j hj hjn ⟨o, ho, he, _⟩ => by
          have := (st.effs j o ho he).1 (hall j hjn)
          omega
        rw [this]
        exact st.box
  | succ fuel ih =>
    intro listed a w C p t st hn
    refine ⟨fun hnil => ?_, fun i hi => ?_⟩
    · -- something is ready
      exfalso
      have hex : ∃ k, 0 ≤ k ∧ k < ops.size ∧ listed.getD k false = false ∧ ∀ j, 0 ≤ j → j < k → ¬ listed.getD j false = false := by
        rcases firstOf (fun j => listed.getD j false = false) 0 ops.size (Nat.zero_le _) with h | h
        · exfalso
          have : listed.toList.count true = listed.toList.length := List.count_eq_length.2 fun b hb => by
            obtain ⟨j, hj⟩ := List.mem_iff_getElem?.1 hb
            have hlt := (List.getElem?_eq_some_iff.1 hj).1
            simp [st.size] at hlt
            have := h j (Nat.zero_le _) hlt
            simp at hj
            simp [hj] at this
            exact this.symm
          rw [Array.length_toList, st.size] at this
          omega
        · exact h
      obtain ⟨k, _, hk, hk0, hmin⟩ := hex
      have ho : ops[k]? = some ops[k] := Array.getElem?_eq_getElem hk
      have hk' : k < listed.size := by rw [st.size]; exact hk
      have : k ∈ Region.ready .any ops listed := mem_ready.2 ⟨by simp [hk'] at hk0 ⊢; exact hk0, _, ho, fun e he hb => by
        have := hmin e.on (Nat.zero_le _) (ok.edge k _ ho e he hb)
        simpa using this⟩
      rw [hnil] at this
      cases this
    · obtain ⟨hun, o, ho, hedge⟩ := mem_ready.1 hi
      have hlt := (Array.getElem?_eq_some_iff.1 ho).1
      have hlt' : i < listed.size := by rw [st.size]; exact hlt
      have hun' : listed.getD i false = false := by simp [hlt'] at hun ⊢; exact hun
      have hl : ∀ (j : Nat) (u : Oper), ops[j]? = some u → bfT bf i j = true → listed.getD j false = true := by
        intro j u hu hb
        obtain ⟨e, he, h1, h2⟩ := ok.via i o j u ho hu hb
        have h3 := hedge e he h1
        rcases h2 with h2 | h2
        · rw [← h2]; exact h3
        · have h4 := ok.edge i o ho e he h1
          exact st.closed e.on _ j u (Array.getElem?_eq_getElem (show e.on < ops.size by omega)) hu h3 h2
      have hlook := fun s hs => look_slot tr ok st ho hl hun' (s := s) hs
      have hgB := tr.guard i o (Nat.zero_le _) ho
      rw [← look_guard hlook] at hgB
      have hwant := guardB_run st.tm hgB
      have hcount : (listed.setIfInBounds i true).toList.count true = listed.toList.count true + 1 := by
        rw [Array.toList_setIfInBounds]
        refine count_set_listed _ _ ?_
        simp [hlt'] at hun'
        simp [hlt', hun']
      have hfuel : fuel + (listed.setIfInBounds i true).toList.count true = ops.size := by omega
      -- the effects that are done, and those to come
      have hbefore : ∀ (j : Nat) (u : Oper), ops[j]? = some u → isEff E f u = true → p ≤ j → j < i → bfT bf i j = false := fun j u hu he hpj hji => by
        cases hb : bfT bf i j with
        | false => rfl
        | true =>
          have := (st.effs j u hu he).1 (hl j u hu hb)
          omega
      have hbehind : ∀ (j : Nat) (u : Oper), ops[j]? = some u → isEff E f u = true → i < j → j < p → bfT bf j i = false := fun j u hu he hij hjp => by
        cases hb : bfT bf j i with
        | false => rfl
        | true =>
          have := st.closed j u i o hu ho ((st.effs j u hu he).2 hjp) hb
          rw [hun'] at this
          cases this
      unfold wpOp
      rw [ho]
      simp only
      cases hw : (T i).want with
      | false =>
        rw [hw] at hwant
        rw [if_neg (by simp [hwant])]
        obtain ⟨hv, hh⟩ := tr.skip i o (Nat.zero_le _) ho hw
        by_cases he : isEff E f o = true
        · -- an effect that is passed over
          have hpi : p ≤ i := by
            have := (st.effs i o ho he)
            rw [hun'] at this
            simp at this
            exact this
          have hpp : (T i).hp = (T p).hp := hp_const tr i hpi (by omega) fun j hj hji ⟨u, hu, hue, _⟩ => by
            have h1 := hbefore j u hu hue hj hji
            rw [ok.eff i o j u ho hu he hue hji] at h1
            cases h1
          refine ih _ _ w C (i + 1) (putV t o.dst (T i).val) (stand_put tr ok st ho hl (by rw [hv]; simp only [Rel]) (by rw [hh, hpp]; exact st.box) (.refl C w) hlt fun j u hu hue => ?_) hfuel
          rw [getD_set_listed hlt']
          by_cases hij : i = j
          · subst hij; simp
          · rw [if_neg hij, st.effs j u hu hue]
            constructor
            · intro h; omega
            · intro h
              have hb := ok.eff i o j u ho hu he hue (by omega)
              exact (st.effs j u hu hue).1 (hl j u hu hb)
        · refine ih _ _ w C p (putV t o.dst (T i).val) (stand_put tr ok st ho hl (by rw [hv]; simp only [Rel]) st.box (.refl C w) st.le fun j u hu hue => ?_) hfuel
          rw [getD_set_listed hlt']
          by_cases hij : i = j
          · subst hij; rw [ho] at hu; cases hu; exact absurd hue he
          · rw [if_neg hij]; exact st.effs j u hu hue
      | true =>
        rw [hw] at hwant
        rw [if_pos hwant]
        refine .inl ?_
        cases he : isEff E f o with
        | true =>
          have hpi : p ≤ i := by
            have := (st.effs i o ho he)
            rw [hun'] at this
            simp at this
            exact this
          have hpp : (T i).hp = (T p).hp := hp_const tr i hpi (by omega) fun j hj hji ⟨u, hu, hue, _⟩ => by
            have h1 := hbefore j u hu hue hj hji
            rw [ok.eff i o j u ho hu he hue hji] at h1
            cases h1
          have hrun := tr.eff i o (Nat.zero_le _) ho hw he
          rw [← evEff_congr (look_arg hlook), hpp] at hrun
          refine (evEff_run hc st.box (hg.mono st.step.ext) (hinv.step st.step) st.tm hrun).wp fun x w' ⟨C', k1, k2, k3⟩ => ?_
          refine ih _ _ w' C' (i + 1) (putV t o.dst (T i).val) (stand_put tr ok st ho hl k1 k2 k3 hlt fun j u hu hue => ?_) hfuel
          rw [getD_set_listed hlt']
          by_cases hij : i = j
          · subst hij; simp
          · rw [if_neg hij, st.effs j u hu hue]
            constructor
            · intro h; omega
            · intro h
              have hb := ok.eff i o j u ho hu he hue (by omega)
              exact (st.effs j u hu hue).1 (hl j u hu hb)
        | false =>
          obtain ⟨hrd, _⟩ := tr.rd i o (Nat.zero_le _) ho hw he
          have hrun : evRdD E f (T i).tm o (T p).hp = some (T i).val := by
            rcases Nat.le_total p i with hpi | hpi
            · rcases firstOf (Acts E f ops T) p i hpi with h | ⟨k, h1, h2, ⟨u, hu, hue, huw⟩, h4⟩
              · rw [← hp_const tr i hpi (by omega) h]; exact hrd
              · rw [← hp_const tr k h1 (by omega) h4]
                exact tr.past' i o (Nat.zero_le _) ho hw he k u (Nat.zero_le _) h2 hu huw hue (hbefore k u hu hue h1 h2)
            · rcases lastOf (Acts E f ops T) i p with h | ⟨k, h1, h2, ⟨u, hu, hue, huw⟩, h4⟩
              · rw [hp_const tr p hpi st.le h]; exact hrd
              · have hik : i ≠ k := fun e => by subst e; rw [ho] at hu; cases hu; rw [he] at hue; cases hue
                have hkp : k + 1 ≤ p := h2
                rw [hp_const tr (p := k + 1) p hkp st.le fun j hj hjp => h4 j (by omega) hjp]
                exact tr.pend' k u (Nat.zero_le _) hu huw hue i o (Nat.zero_le _) (by omega) ho hw he (hbehind k u hu hue (by omega) h2)
          rw [← evRdD_congr (look_arg hlook)] at hrun
          obtain ⟨vv, hrun, hvv⟩ := evRdD_some hrun
          refine ((evRd_run st.box (hg.mono st.step.ext) st.tm hrun).out).wp fun x w' ⟨C', k1, k2, k3⟩ => ?_
          have k1 : Rel C' (T i).val x := by
            rcases hvv with e | e
            · rw [e]; exact k1
            · rw [e]; simp only [Rel]
          refine ih _ _ w' C' p (putV t o.dst (T i).val) (stand_put tr ok st ho hl k1 k2 k3 st.le fun j u hu hue => ?_) hfuel
          rw [getD_set_listed hlt']
          by_cases hij : i = j
          · subst hij; rw [ho] at hu; cases hu; rw [he] at hue; cases hue
          · rw [if_neg hij]; exact st.effs j u hu hue

theorem evDraw_run {W₀ : Array Obj} (hc : CallsOk W₀ E c) (ok : DrawOk E f ops bf) {C₀ : Ctx} {w₀ : World} (hg : GRel E C₀) (hinv : Inv W₀ C₀ w₀) {K : List V → Heap → Res} {res : V × Heap} {Q : Exit → Act → World → Prop} (hQ : ∀ a w, Led C₀ w₀ K res a w → Q .normal a w)
    {t : List V} {H : Heap} {C : Ctx} {a : Act} {w : World} (h : evDraw E c f ops bf 0 ops.toList [] [] t H K = some res) (ht : TRel C t a.tmps) (hh : HRel C H w) (hs : Step C₀ w₀ C w) (hd : a.defers = []) :
    wpAny E.P .any ops Q ops.size (Array.replicate ops.size false) a w := by
  obtain ⟨T, q1, q2, q3, q4⟩ := evDraw_trace (i := 0) ops.toList _ _ _ _ (by simp) h
  simp only [Nat.zero_add, Array.length_toList] at q3
  refine any_of_stand hc q4 ok hg hinv q3 hQ ops.size _ a w C 0 t ⟨by simp, fun i o j u ho hu hl => ?_, Nat.zero_le _, fun j o ho he => ?_, ht, fun j o s ho hl => ?_, fun s _ => by rw [q1], by rw [q1], by rw [q2]; exact hh, hs, hd⟩ (by simp [List.count_replicate])
  · have hi := (Array.getElem?_eq_some_iff.1 ho).1
    simp [hi] at hl
  · have hi := (Array.getElem?_eq_some_iff.1 ho).1
    simp [hi]
  · have hi := (Array.getElem?_eq_some_iff.1 ho).1
    simp [hi] at hl

end
end Ev
end Go.Proofs.YthpfimildcbgmaaDoor
