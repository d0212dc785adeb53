/-
The operations that leave the boxes alone: struct values, slice literals, parts of strings, bytes as strings.
-/
import Derived.Test.YthpfimildcbgmaaDoorEvOps4
namespace Go.Proofs.YthpfimildcbgmaaDoor
namespace Ev
set_option linter.all false
open Go

/-! ### Parts -/

/-- The same places, values that stand for one another. -/
def PRel (C : Ctx) : List (Nat × V) → List (Nat × Value) → Prop
  | [], ys => ys = []
  | (i, v) :: r, ys => ∃ y t, ys = (i, y) :: t ∧ Rel C v y ∧ PRel C r t

theorem PRel_map {E : Env} {C : Ctx} {t : List V} {a : Act} (hg : GRel E C) (ht : TRel C t a.tmps) : ∀ (l : List (Nat × Operand)), PRel C (l.map fun p => (p.1, arg E t p.2)) (l.map fun p => (p.1, a.eval p.2))
  | [] => by simp [PRel]
  | (i, x) :: r => by
    simp only [List.map_cons, PRel]
    exact ⟨_, _, rfl, arg_rel hg ht x, PRel_map hg ht r⟩

theorem val_cells (C : Ctx) (z : Value) : Rels C (val z).cells z.cells.toList := by
  have h := val_rel C z
  cases z
  case agg cs =>
    simp only [val, Rel] at h
    obtain ⟨ys, e, h⟩ := h
    cases e
    exact h
  case float k b =>
    simp only [val, val1] at h ⊢
    split
    · simp only [V.cells, Value.cells, Rels]; exact ⟨_, _, rfl, by rw [if_pos (by assumption)] at h; exact h, rfl⟩
    · simp only [V.cells, Value.cells, Rels]; exact ⟨_, _, rfl, by simp only [Rel], rfl⟩
  all_goals
    simp only [val, val1] at h ⊢
    (repeat' split) <;> simp only [V.cells, Value.cells, Rels] <;> exact ⟨_, _, rfl, by simp_all [Rel], rfl⟩

theorem fill_run {C : Ctx} (place : Nat → Option (Nat × Nat)) : ∀ (ps : List (Nat × V)) (rs : List (Nat × Value)) (cs cs' : List V) (zs : Array Value), PRel C ps rs → Rels C cs zs.toList → fillV place cs ps = some cs' →
    ∃ zs', Instr.fill place zs rs = some zs' ∧ Rels C cs' zs'.toList
  | [], rs, cs, cs', zs, hp, hz, h => by
    simp only [PRel] at hp
    subst hp
    simp only [fillV, Option.some.injEq] at h
    subst h
    exact ⟨zs, rfl, hz⟩
  | (i, v) :: ps, rs, cs, cs', zs, hp, hz, h => by
    simp only [PRel] at hp
    obtain ⟨y, t, rfl, h1, h2⟩ := hp
    simp only [fillV] at h
    cases hpl : place i with
    | none => rw [hpl] at h; cases h
    | some p =>
      obtain ⟨off, size⟩ := p
      rw [hpl] at h
      simp only at h
      split at h
      · rename_i hc
        obtain ⟨k1, _⟩ := h1.cells hc.2.2
        have e1 := Rels_length _ _ k1
        have e2 := Rels_length _ _ hz
        simp only [Array.length_toList] at e1 e2
        have hb : ((decide (y.cells.size ≠ size)) || decide (off + y.cells.size > zs.size)) = false := by
          simp; omega
        have hlay := foldl_lay y.cells.toList off zs (by simp; omega)
        obtain ⟨zs', q1, q2⟩ := fill_run place ps t _ cs' (y.cells.zipIdx.foldl (fun cs x => cs.setIfInBounds (off + x.2) x.1) zs) h2 (by
          have : (y.cells.zipIdx.foldl (fun cs x => cs.setIfInBounds (off + x.2) x.1) zs).toList = layR zs.toList off y.cells.toList := by
            rw [← hlay, ← Array.foldl_toList, Array.toList_zipIdx]
          rw [this]
          exact Rels_lay _ _ _ _ _ hz k1) h
        refine ⟨zs', ?_, q2⟩
        simp only [Instr.fill, hpl]
        have hb' : ¬ ((decide (y.cells.size ≠ size) || decide (off + y.cells.size > zs.size)) = true) := by rw [hb]; simp
        simp only [ne_eq, Bool.or_eq_true, decide_eq_true_eq] at hb' ⊢
        rw [if_neg hb']
        exact q1
      · cases h

theorem build_run {P : Program} {C : Ctx} {w : World} {t : TypeId} {ps : List (Nat × V)} {rs : Array (Nat × Value)} {r : V} (hp : PRel C ps rs.toList) (h : build P t ps = some r) :
    ∃ y, (Instr.build t rs).run P w = .ok y w ∧ Rel C r y := by
  unfold build at h
  split at h
  · rename_i fs hu
    obtain ⟨z, hz, h⟩ := Option.bind_eq_some_iff.1 h
    obtain ⟨places, hpl, h⟩ := Option.bind_eq_some_iff.1 h
    obtain ⟨cs, hf, rfl⟩ := Option.map_eq_some_iff.1 h
    unfold zeroV at hz
    obtain ⟨z0, hz0, rfl⟩ := Option.map_eq_some_iff.1 hz
    obtain ⟨it, hit, hz0⟩ := Option.bind_eq_some_iff.1 hz0
    obtain ⟨zs', q1, q2⟩ := fill_run _ ps rs.toList _ cs z0.cells hp (val_cells C z0) hf
    refine ⟨.agg zs', ?_, by simp only [Rel]; exact ⟨_, rfl, q2⟩⟩
    apply run_build
    simp only [Program.built, hit, hu, hz0, hpl]
    rw [← q1]
    congr 1
    funext i
    simp
  · rename_i n e hu
    obtain ⟨z, hz, h⟩ := Option.bind_eq_some_iff.1 h
    obtain ⟨ie, hie, h⟩ := Option.bind_eq_some_iff.1 h
    obtain ⟨cs, hf, rfl⟩ := Option.map_eq_some_iff.1 h
    unfold zeroV at hz
    obtain ⟨z0, hz0, rfl⟩ := Option.map_eq_some_iff.1 hz
    obtain ⟨it, hit, hz0⟩ := Option.bind_eq_some_iff.1 hz0
    obtain ⟨zs', q1, q2⟩ := fill_run _ ps rs.toList _ cs z0.cells hp (val_cells C z0) hf
    refine ⟨.agg zs', ?_, by simp only [Rel]; exact ⟨_, rfl, q2⟩⟩
    apply run_build
    simp only [Program.built, hit, hu, hz0, hie]
    exact q1
  · cases h

/-! ### Elements, one behind another -/

theorem Els_concat {C : Ctx} {S : Addr → Option Value} {sz b : Nat} : ∀ (es : List V) (ys : List Value) (o : Nat), Rels C es ys → (∀ v ∈ es, ones v.cells = true ∧ v.cells.length = sz) → CellsAt S b o (ys.flatMap fun y => y.cells.toList) → Els C S sz b es o
  | [], _, _, _, _, _ => by simp [Els]
  | v :: r, ys, o, h, ho, hc => by
    simp only [Rels] at h
    obtain ⟨y, t, rfl, h1, h2⟩ := h
    obtain ⟨k1, k2⟩ := ho v (by simp)
    obtain ⟨m1, m2⟩ := h1.cells k1
    have hl := Rels_length _ _ m1
    simp only [List.flatMap_cons] at hc
    have hsz : y.cells.toList.length = sz := by omega
    simp only [Els]
    refine ⟨⟨y, ?_, h1⟩, Els_concat r t (o + sz) h2 (fun v hv => ho v (by simp [hv])) fun j z hz => ?_⟩
    · have hcell : ∀ (i : Nat) (u : Value), y.cells[i]? = some u → S ⟨b, o + i, none⟩ = some u := by
        intro i u hu
        refine hc i u ?_
        have hi := (Array.getElem?_eq_some_iff.1 hu).1
        rw [List.getElem?_append_left (by simpa using hi)]
        simpa using hu
      by_cases hy : y.oneCell' = true
      · have hcs : y.cells = #[y] := by cases y <;> first | rfl | simp [Value.oneCell'] at hy
        refine .inr ⟨by rw [hcs] at hsz; simpa using hsz.symm, hy, ?_⟩
        have := hcell 0 y (by rw [hcs]; rfl)
        simpa using this
      · cases v
        case agg cs =>
          simp only [Rel] at h1
          obtain ⟨ws, rfl, _⟩ := h1
          exact .inl ⟨ws, rfl, by simpa [Value.cells] using hsz, fun i u hu => hcell i u hu⟩
        all_goals exact absurd (h1.oneCell (by simpa [V.cells, ones] using k1)) hy
    · have := hc (sz + j) z (by rw [List.getElem?_append_right (by omega), hsz, Nat.add_sub_cancel_left]; exact hz)
      rwa [show o + (sz + j) = o + sz + j by omega] at this

theorem flat_length {C : Ctx} {sz : Nat} : ∀ (es : List V) (ys : List Value), Rels C es ys → (∀ v ∈ es, ones v.cells = true ∧ v.cells.length = sz) → (ys.flatMap fun y => y.cells.toList).length = es.length * sz
  | [], ys, h, _ => by simp only [Rels] at h; subst h; simp
  | v :: r, ys, h, ho => by
    simp only [Rels] at h
    obtain ⟨y, t, rfl, h1, h2⟩ := h
    obtain ⟨k1, k2⟩ := ho v (by simp)
    obtain ⟨m1, _⟩ := h1.cells k1
    have hl := Rels_length _ _ m1
    have ih := flat_length r t h2 fun v hv => ho v (by simp [hv])
    simp only [List.flatMap_cons, List.length_append, ih, List.length_cons]
    rw [Nat.add_mul]
    omega

theorem flat_one {C : Ctx} {sz : Nat} : ∀ (es : List V) (ys : List Value), Rels C es ys → (∀ v ∈ es, ones v.cells = true ∧ v.cells.length = sz) → ∀ z ∈ (ys.flatMap fun y => y.cells.toList), z.oneCell' = true
  | [], ys, h, _ => by simp only [Rels] at h; subst h; simp
  | v :: r, ys, h, ho => by
    simp only [Rels] at h
    obtain ⟨y, t, rfl, h1, h2⟩ := h
    obtain ⟨k1, k2⟩ := ho v (by simp)
    obtain ⟨_, m2⟩ := h1.cells k1
    have ih := flat_one r t h2 fun v hv => ho v (by simp [hv])
    intro z hz
    simp only [List.flatMap_cons, List.mem_append] at hz
    rcases hz with hz | hz
    · obtain ⟨i, hi⟩ := List.mem_iff_getElem?.1 hz
      exact m2 i z (by simpa using hi)
    · exact ih z hz

/-- Elements out of memory, one behind another. -/
theorem Els_flat {C : Ctx} {S : Addr → Option Value} {sz b : Nat} : ∀ (es : List V) (o : Nat), Els C S sz b es o → okEs es = true → ∃ ys, Rels C es ys ∧ (∀ v ∈ es, ones v.cells = true ∧ v.cells.length = sz) ∧ CellsAt S b o (ys.flatMap fun y => y.cells.toList)
  | [], o, _, _ => ⟨[], by simp [Rels], by simp, fun j y h => by simp at h⟩
  | v :: r, o, h, ho => by
    simp only [Els] at h
    obtain ⟨⟨y, h1, h2⟩, h3⟩ := h
    simp only [okEs, Bool.and_eq_true] at ho
    obtain ⟨ys, k1, k2, k3⟩ := Els_flat r (o + sz) h3 ho.2
    obtain ⟨m1, m2, m3, m4⟩ := h1.cells h2 ho.1
    have hl := Rels_length _ _ m2
    refine ⟨y :: ys, by simp only [Rels]; exact ⟨y, ys, rfl, h2, k1⟩, ?_, fun j z hz => ?_⟩
    · intro u hu
      rcases List.mem_cons.1 hu with rfl | hu
      · exact ⟨ho.1, m1⟩
      · exact k2 u hu
    · simp only [List.flatMap_cons] at hz
      by_cases hj : j < y.cells.toList.length
      · rw [List.getElem?_append_left hj] at hz
        exact m3 j z hz
      · rw [List.getElem?_append_right (by omega)] at hz
        have := k3 _ z hz
        rwa [show o + sz + (j - y.cells.toList.length) = o + j by omega] at this

/-! ### New blocks that nobody writes -/

/-- A new block of cells, from now on stable. -/
theorem fresh_stable {C : Ctx} {H : Heap} {w : World} (hh : HRel C H w) (c : Array Value) (e : TypeId) :
    ∃ C', HRel C' H (w.alloc (.cells c e)) ∧ Step C w C' (w.alloc (.cells c e)) ∧ (∀ (j : Nat) (y : Value), c[j]? = some y → C'.S ⟨w.heap.size, j, none⟩ = some y) := by
  have h1 : HRel C H (w.alloc (.cells c e)) := hh.same fun b hb => heap_alloc_lt w _ hb
  have hb : ∀ h, h < C.n → (C.at_ h).adr ≠ some w.heap.size := fun h hn he => by have := hh.lt hn he; omega
  refine ⟨_, h1.freeze hb, (Step.same (fun b hb => heap_alloc_lt w _ hb) (by simp) rfl rfl rfl).more _ (fun a v hv => .inl (by by_cases ha : a.block = w.heap.size <;> simp [ha] at hv ⊢)), fun j y hy => ?_⟩
  simp only [Ctx.more]
  have hn : C.S ⟨w.heap.size, j, none⟩ = none := by
    cases hs : C.S ⟨w.heap.size, j, none⟩ with
    | none => rfl
    | some v =>
      have := block_lt_of_cell (hh.stable _ _ hs)
      simp at this
  rw [hn]
  simp [hy]

theorem lit_ones {P : Program} {e : TypeId} : ∀ (ps : List (Nat × V)) (i : Nat) (es : List V), litV P e i ps = some es → es = ps.map (·.2) ∧ (∀ k, k < ps.length → (ps.map (·.1))[k]? = some (i + k)) ∧ (∀ v ∈ es, ones v.cells = true ∧ v.cells.length = sizeT P e) ∧ plains es = true
  | [], i, es, h => by
    simp only [litV, Option.some.injEq] at h
    subst h
    simp [plains]
  | (j, v) :: r, i, es, h => by
    simp only [litV] at h
    split at h
    · rename_i hc
      obtain ⟨es', h', rfl⟩ := Option.map_eq_some_iff.1 h
      obtain ⟨k1, k2, k3, k4⟩ := lit_ones r (i + 1) es' h'
      refine ⟨by simp [k1], fun k hk => ?_, ?_, by simp [plains, hc.2.2.2, k4]⟩
      · cases k with
        | zero => simp [hc.1]
        | succ k => simpa [Nat.add_assoc, Nat.add_comm 1 k] using k2 k (by simpa using hk)
      · intro u hu
        rcases List.mem_cons.1 hu with rfl | hu
        · exact ⟨hc.2.2.1, hc.2.1⟩
        · exact k3 u hu
    · cases h

theorem okEs_of {es : List V} {sz : Nat} (h : ∀ v ∈ es, ones v.cells = true ∧ v.cells.length = sz) : okEs es = true :=
  (okEs_iff _).2 fun _ v hv => (h v (List.mem_of_getElem? hv)).1

end Ev
end Go.Proofs.YthpfimildcbgmaaDoor
