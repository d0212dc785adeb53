/-
An operation that writes, makes or calls: what the interpreter answers is what the model's machine gives.
-/
import Derived.Test.YthpfimildcbgmaaDoorEvEff2
namespace Go.Proofs.YthpfimildcbgmaaDoor
namespace Ev
set_option linter.all false
open Go

/-- What stands behind a step that answers v and leaves the boxes H'. -/
def Good (C : Ctx) (w : World) (v : V) (H' : Heap) (x : Value) (w' : World) : Prop := ∃ C', Rel C' v x ∧ HRel C' H' w' ∧ Step C w C' w'

theorem Good.trans {C C₁ : Ctx} {w w₁ w₂ : World} {v : V} {H' : Heap} {x : Value} (s : Step C w C₁ w₁) (h : Good C₁ w₁ v H' x w₂) : Good C w v H' x w₂ := by
  obtain ⟨C', h1, h2, h3⟩ := h
  exact ⟨C', h1, h2, s.trans h3⟩

/-- An ending that hands back a value. -/
def Back (R : Value → World → Prop) : Ending → World → Prop
  | .returned v, w' => R v w'
  | _, _ => False

def OutN (P : Program) (w : World) (s : Sem Next) (R : Value → World → Prop) : Prop :=
  (∃ x w', s.run P w = .ok (.value x) w' ∧ R x w') ∨ (∃ w', s.run P w = .ok .skip w' ∧ R undef w') ∨ (∃ g args, s.run P w = .ok (.enter g args) w ∧ Calls P g args w (Back R))

theorem OutN.mono {P : Program} {w : World} {s : Sem Next} {R R' : Value → World → Prop} (h : OutN P w s R) (hr : ∀ x w', R x w' → R' x w') : OutN P w s R' := by
  rcases h with ⟨x, w', h1, h2⟩ | ⟨w', h1, h2⟩ | ⟨g, args, h1, h2⟩
  · exact .inl ⟨x, w', h1, hr _ _ h2⟩
  · exact .inr (.inl ⟨w', h1, hr _ _ h2⟩)
  · refine .inr (.inr ⟨g, args, h1, h2.mono fun e w' he => ?_⟩)
    cases e <;> first | exact hr _ _ he | exact he

theorem OutN.wp {P : Program} {w : World} {o : Oper} {a : Act} {R : Value → World → Prop} {next : Act → World → Prop} {Q : Exit → Act → World → Prop} (h : OutN P w (execOp a.eval o) R) (hn : ∀ x w', R x w' → next (a.put o.dst x) w') : o.wp P a w next Q := by
  unfold Oper.wp
  rcases h with ⟨x, w', h1, h2⟩ | ⟨w', h1, h2⟩ | ⟨g, args, h1, h2⟩
  · rw [h1]; exact hn _ _ h2
  · rw [h1]; exact hn _ _ h2
  · rw [h1]
    refine h2.mono fun e w' he => ?_
    cases e <;> first | exact hn _ _ he | exact he.elim

theorem AnsN.out {C : Ctx} {P : Program} {w : World} {s : Sem Next} {v : V} {H' : Heap} (h : AnsN C P w s v H') : OutN P w s (Good C w v H') := by
  obtain ⟨x, w', C', h1, h2, h3, h4⟩ := h
  exact .inl ⟨x, w', h1, C', h2, h3, h4⟩

theorem out_of {C : Ctx} {P : Program} {w : World} {s : Sem Value} {v : V} {H' : Heap} (h : ∃ x w' C', s.run P w = .ok x w' ∧ Rel C' v x ∧ HRel C' H' w' ∧ Step C w C' w') : OutN P w (s >>= fun x => Pure.pure (Next.value x)) (Good C w v H') := by
  obtain ⟨x, w', C', h1, h2, h3, h4⟩ := h
  exact .inl ⟨x, w', by simp only [Sem.run_bind, h1, Result.andThen_ok, Sem.run_pure], C', h2, h3, h4⟩

/-! ### Calls -/

/-- A function's run, entered or read off a row. -/
def Invokes (P : Program) (g : Nat) (args : Array Value) (w : World) (R : Value → World → Prop) : Prop :=
  (∃ x w', (callFunc g args).run P w = .ok (.value x) w' ∧ R x w') ∨ ((callFunc g args).run P w = .ok (.enter g args) w ∧ Calls P g args w (Back R))

theorem Invokes.out {P : Program} {g : Nat} {args : Array Value} {w : World} {R R' : Value → World → Prop} {s : Sem Next} (h : Invokes P g args w R) (hs : s.run P w = (callFunc g args).run P w) (hr : ∀ x w', R x w' → R' x w') : OutN P w s R' := by
  rcases h with ⟨x, w', h1, h2⟩ | ⟨h1, h2⟩
  · exact .inl ⟨x, w', hs.trans h1, hr _ _ h2⟩
  · refine .inr (.inr ⟨g, args, hs.trans h1, h2.mono fun e w' he => ?_⟩)
    cases e <;> first | exact hr _ _ he | exact he

/-- The blocks of an elder memory are as they were, and no box lies in them. -/
def Inv (W₀ : Array Obj) (C : Ctx) (w : World) : Prop := (∀ b, b < W₀.size → w.heap[b]? = W₀[b]?) ∧ W₀.size ≤ w.heap.size ∧ ∀ h b, h < C.n → (C.at_ h).adr = some b → W₀.size ≤ b
theorem Inv.step {W₀ : Array Obj} {C C' : Ctx} {w w' : World} (h : Inv W₀ C w) (s : Step C w C' w') : Inv W₀ C' w' := by
  obtain ⟨h1, h2, h3⟩ := h
  refine ⟨fun b hb => ?_, Nat.le_trans h2 s.size, fun k b hk hb => ?_⟩
  · rw [s.block b (by omega) (fun k hk e => by have := h3 k b hk e; omega)]
    exact h1 b hb
  · by_cases hlt : b < w.heap.size
    · obtain ⟨k', hk', e⟩ := s.new k b hk hb hlt
      exact h3 k' b hk' e
    · omega

/-- What the interpreter's calls owe. -/
def CallsOk (W₀ : Array Obj) (E : Env) (c : Calls_) : Prop := ∀ (g : Nat) (as : List V) (H : Heap) (r : V) (H' : Heap), c.run g as H = some (r, H') → ∀ (C : Ctx) (w : World) (args : Array Value), GRel E C → Inv W₀ C w → HRel C H w → Rels C as args.toList → Invokes E.P g args w (Good C w r H')

/-- Of what bears no handle only the stable cells matter. -/
def Ctx.bare (C : Ctx) : Ctx := { C with n := 0 }

mutual
theorem Rel.plain_mono {C C' : Ctx} (hS : ∀ a v, C.S a = some v → C'.S a = some v) : ∀ (v : V) (x : Value), v.plain = true → Rel C v x → Rel C' v x
  | .undef, x, _ => by simp only [Rel]; exact id
  | .wild, x, _ => by simp only [Rel]; exact id
  | .bool b, x, _ => by simp only [Rel]; exact id
  | .int k n, x, _ => by simp only [Rel]; exact id
  | .fl k b, x, _ => by simp only [Rel]; exact id
  | .str s, x, _ => by simp only [Rel]; exact id
  | .nilp, x, _ => by simp only [Rel]; exact id
  | .nils, x, _ => by simp only [Rel]; exact id
  | .nilf, x, _ => by simp only [Rel]; exact id
  | .nili, x, _ => by simp only [Rel]; exact id
  | .ptr h off, x, hp => by simp [V.plain] at hp
  | .eptr h tot i off, x, hp => by simp [V.plain] at hp
  | .row h tot, x, hp => by simp [V.plain] at hp
  | .iptr cs, x, _ => by
    simp only [Rel]
    rintro ⟨h1, h2, b, o, rfl, h3⟩
    exact ⟨h1, h2, b, o, rfl, Els.plain_mono hS cs o h1 h3⟩
  | .sl es sz cap, x, _ => by
    simp only [Rel]
    rintro ⟨h1, h2, h3, a, c, rfl, h4, h5, h6⟩
    refine ⟨h1, h2, h3, a, c, rfl, h4, h5, ?_⟩
    rcases h6 with h6 | ⟨b, o, rfl, h6⟩
    · exact .inl h6
    · exact .inr ⟨b, o, rfl, Els.plain_mono hS es o h1 h6⟩
  | .agg cs, x, hp => by
    simp only [V.plain] at hp
    simp only [Rel]
    rintro ⟨ys, rfl, h⟩
    exact ⟨ys, rfl, Rels.plain_mono hS cs _ hp h⟩
  | .tup cs, x, hp => by
    simp only [V.plain] at hp
    simp only [Rel]
    rintro ⟨ys, rfl, h⟩
    exact ⟨ys, rfl, Rels.plain_mono hS cs _ hp h⟩
  | .fn f a b, x, hp => by
    simp only [V.plain, Bool.and_eq_true] at hp
    simp only [Rel]
    rintro ⟨p, q, rfl, h1, h2⟩
    exact ⟨p, q, rfl, Rels.plain_mono hS a _ hp.1 h1, Rels.plain_mono hS b _ hp.2 h2⟩
  | .ifc t v, x, hp => by
    simp only [V.plain] at hp
    simp only [Rel]
    rintro ⟨y, rfl, h⟩
    exact ⟨y, rfl, Rel.plain_mono hS v y hp h⟩
theorem Rels.plain_mono {C C' : Ctx} (hS : ∀ a v, C.S a = some v → C'.S a = some v) : ∀ (l : List V) (ys : List Value), plains l = true → Rels C l ys → Rels C' l ys
  | [], ys, _ => by simp only [Rels]; exact id
  | v :: r, ys, hp => by
    simp only [plains, Bool.and_eq_true] at hp
    simp only [Rels]
    rintro ⟨y, t, rfl, h1, h2⟩
    exact ⟨y, t, rfl, Rel.plain_mono hS v y hp.1 h1, Rels.plain_mono hS r t hp.2 h2⟩
theorem Els.plain_mono {C C' : Ctx} (hS : ∀ a v, C.S a = some v → C'.S a = some v) {sz b : Nat} : ∀ (l : List V) (o : Nat), plains l = true → Els C C.S sz b l o → Els C' C'.S sz b l o
  | [], _, _ => by simp only [Els]; exact id
  | v :: r, o, hp => by
    simp only [plains, Bool.and_eq_true] at hp
    simp only [Els]
    rintro ⟨⟨y, h1, h2⟩, h3⟩
    exact ⟨⟨y, h1.mono fun i v _ => hS _ _, Rel.plain_mono hS v y hp.1 h2⟩, Els.plain_mono hS r _ hp.2 h3⟩
end

theorem fz1_run {C : Ctx} {H H' : Heap} {w : World} (hh : HRel C H w) {v v' : V} {x : Value} (hx : Rel C v x) (h : fz1 H v = some (v', H')) :
    ∃ C', HRel C' H' w ∧ Step C w C' w ∧ Rel C' v' x ∧ v'.plain = true := by
  have pl : ∀ v : V, Rel C v x → (match v.plain with | true => some (v, H) | false => none) = some (v', H') → ∃ C', HRel C' H' w ∧ Step C w C' w ∧ Rel C' v' x ∧ v'.plain = true := by
    intro v hx h
    split at h
    · rename_i hp
      cases h
      exact ⟨C, hh, .refl C w, hx, hp⟩
    · cases h
  cases v
  case row i tot =>
    simp only [fz1] at h
    split at h
    · rename_i bx hbx
      split at h
      · rename_i hc
        cases h
        obtain ⟨C', c1, c2, c3⟩ := freeze_sl hh hbx hc.1 hc.2.1 hc.2.2 hx
        exact ⟨C', c1, c2, c3, rfl⟩
      · cases h
    · cases h
  all_goals exact pl _ hx h

theorem fz1s_run {w : World} : ∀ (l : List V) (ys : List Value) (H H' : Heap) (l' : List V) (C : Ctx), HRel C H w → Rels C l ys → fz1s H l = some (l', H') →
    ∃ C', HRel C' H' w ∧ Step C w C' w ∧ Rels C' l' ys ∧ plains l' = true
  | [], ys, H, H', l', C, hh, hl, h => by
    cases h
    exact ⟨C, hh, .refl C w, hl, rfl⟩
  | v :: r, ys, H, H', l', C, hh, hl, h => by
    simp only [fz1s] at h
    obtain ⟨⟨v1, H1⟩, h1, h⟩ := Option.bind_eq_some_iff.1 h
    obtain ⟨⟨l2, H2⟩, h2, h⟩ := Option.map_eq_some_iff.1 h
    cases h
    simp only [Rels] at hl
    obtain ⟨y, t, rfl, k1, k2⟩ := hl
    obtain ⟨C1, a1, a2, a3, a4⟩ := fz1_run hh k1 h1
    obtain ⟨C2, b1, b2, b3, b4⟩ := fz1s_run r t _ _ _ _ a1 (Rels.mono a2.ext _ _ k2) h2
    refine ⟨C2, b1, a2.trans b2, ?_, by simp [plains, a4, b4]⟩
    simp only [Rels]
    exact ⟨y, t, rfl, Rel.mono b2.ext _ _ a3, b3⟩

theorem fz2_run {C : Ctx} {H H' : Heap} {w : World} (hh : HRel C H w) {v v' : V} {x : Value} (hx : Rel C v x) (h : fz2 H v = some (v', H')) :
    ∃ C', HRel C' H' w ∧ Step C w C' w ∧ Rel C' v' x ∧ v'.plain = true := by
  cases v
  case agg cs =>
    simp only [fz2] at h
    obtain ⟨⟨l2, H2⟩, h2, h⟩ := Option.map_eq_some_iff.1 h
    cases h
    simp only [Rel] at hx
    obtain ⟨ys, rfl, hr⟩ := hx
    obtain ⟨C', a1, a2, a3, a4⟩ := fz1s_run cs _ _ _ _ _ hh hr h2
    refine ⟨C', a1, a2, ?_, by simpa [V.plain] using a4⟩
    simp only [Rel]
    exact ⟨ys, rfl, a3⟩
  all_goals exact fz1_run hh hx h

theorem fz2s_run {w : World} : ∀ (l : List V) (ys : List Value) (H H' : Heap) (l' : List V) (C : Ctx), HRel C H w → Rels C l ys → fz2s H l = some (l', H') →
    ∃ C', HRel C' H' w ∧ Step C w C' w ∧ Rels C' l' ys ∧ plains l' = true
  | [], ys, H, H', l', C, hh, hl, h => by
    cases h
    exact ⟨C, hh, .refl C w, hl, rfl⟩
  | v :: r, ys, H, H', l', C, hh, hl, h => by
    simp only [fz2s] at h
    obtain ⟨⟨v1, H1⟩, h1, h⟩ := Option.bind_eq_some_iff.1 h
    obtain ⟨⟨l2, H2⟩, h2, h⟩ := Option.map_eq_some_iff.1 h
    cases h
    simp only [Rels] at hl
    obtain ⟨y, t, rfl, k1, k2⟩ := hl
    obtain ⟨C1, a1, a2, a3, a4⟩ := fz2_run hh k1 h1
    obtain ⟨C2, b1, b2, b3, b4⟩ := fz2s_run r t _ _ _ _ a1 (Rels.mono a2.ext _ _ k2) h2
    refine ⟨C2, b1, a2.trans b2, ?_, by simp [plains, a4, b4]⟩
    simp only [Rels]
    exact ⟨y, t, rfl, Rel.mono b2.ext _ _ a3, b3⟩

theorem give_run {C : Ctx} {H : Heap} {w : World} (hh : HRel C H w) {v v' : V} {x : Value} (hx : Rel C v x) (h : give H v = some v') :
    ∃ C' H', HRel C' H' w ∧ Step C w C' w ∧ Rel C' v' x ∧ v'.plain = true := by
  cases v
  case tup cs =>
    simp only [give] at h
    obtain ⟨⟨l2, H2⟩, h2, rfl⟩ := Option.map_eq_some_iff.1 h
    simp only [Rel] at hx
    obtain ⟨ys, rfl, hr⟩ := hx
    obtain ⟨C', a1, a2, a3, a4⟩ := fz2s_run cs _ _ _ _ _ hh hr h2
    refine ⟨C', H2, a1, a2, ?_, by simpa [V.plain] using a4⟩
    simp only [Rel]
    exact ⟨ys, rfl, a3⟩
  all_goals
    simp only [give] at h
    obtain ⟨⟨v2, H2⟩, h2, rfl⟩ := Option.map_eq_some_iff.1 h
    obtain ⟨C', a1, a2, a3, a4⟩ := fz2_run hh hx h2
    exact ⟨C', H2, a1, a2, a3, a4⟩

theorem callV_run {W₀ : Array Obj} {E : Env} {c : Calls_} (hc : CallsOk W₀ E c) {C : Ctx} {H H' : Heap} {w : World} (hh : HRel C H w) (hg : GRel E C) (hi : Inv W₀ C w) {g : Nat} {as : List V} {args : Array Value} {r : V} (ha : Rels C as args.toList) (h : callV c g as H = some (r, H')) :
    Invokes E.P g args w (Good C w r H') := by
  unfold callV at h
  split at h
  · exact hc g as H r H' h C w args hg hi hh ha
  · obtain ⟨⟨as1, H1⟩, h1, h⟩ := Option.bind_eq_some_iff.1 h
    obtain ⟨⟨v, H2⟩, h2, h⟩ := Option.bind_eq_some_iff.1 h
    obtain ⟨v', h3, h⟩ := Option.map_eq_some_iff.1 h
    cases h
    obtain ⟨C1, a1, a2, a3, a4⟩ := fz2s_run as _ _ _ _ _ hh ha h1
    have hb : HRel C1.bare [] w := ⟨rfl, fun h bx hx => by simp at hx, fun h h' b hn => absurd hn (Nat.not_lt_zero _), a1.stable, fun h bx b a v hx => by simp at hx⟩
    have hgb : GRel E C1.bare := fun q cs hq => by
      obtain ⟨p1, p2, p3⟩ := hg.mono a2.ext q cs hq
      exact ⟨p1, p2, Els.plain_mono (C := C1) (C' := C1.bare) (fun _ _ h => h) _ _ p1 p3⟩
    have key := hc g as1 [] v H2 h2 C1.bare w args hgb ⟨hi.1, hi.2.1, fun k b hn => absurd hn (Nat.not_lt_zero _)⟩ hb (Rels.plain_mono (C := C1) (C' := C1.bare) (fun _ _ h => h) _ _ a4 a3)
    have up : ∀ x w', Good C1.bare w v H2 x w' → Good C w r H1 x w' := by
      rintro x w' ⟨C2, b1, b2, b3⟩
      obtain ⟨C3, H3, d1, d2, d3, d4⟩ := give_run b2 b1 h3
      have st := b3.trans d2
      have hold : ∀ b, b < w.heap.size → w'.heap[b]? = w.heap[b]? := fun b hb => st.block b hb fun h hn => absurd hn (Nat.not_lt_zero _)
      have hS : ∀ a u, C1.S a = some u → C3.S a = some u := fun a u hu => st.ext.S a u hu
      have hext : Ext C1 { C1 with S := C3.S } := ⟨Nat.le_refl _, hS, fun _ _ => rfl, fun _ _ => Nat.le_refl _, fun _ _ _ => rfl⟩
      have hnew : ∀ a u, C3.S a = some u → C1.S a = none → w.heap.size ≤ a.block := fun a u hu h1 => by
        rcases st.put a u hu h1 with h | ⟨q, hq, _⟩
        · exact h
        · exact absurd hq (Nat.not_lt_zero _)
      have a1' := a1.same hold
      refine ⟨{ C1 with S := C3.S }, Rel.plain_mono (C := C3) (C' := { C1 with S := C3.S }) (fun _ _ h => h) _ _ d4 d3, ⟨a1'.n, fun h bx hx => (a1'.box h bx hx).ext hext rfl rfl rfl, a1'.apart, d1.stable, fun h bx b a u hx hadr hu hab => ?_⟩,
        a2.trans ⟨hext, st.os, st.tape, st.output, st.size, fun b hb _ => hold b hb, fun h b hn hadr _ => ⟨h, hn, hadr⟩, fun a u hu h1 => .inl (hnew a u hu h1)⟩⟩
      cases hs : C1.S a with
      | some u' => exact a1.away h bx b a u' hx hadr hs hab
      | none =>
        have h1 := hnew a u hu hs
        have h2 := a1.lt (by have := (List.getElem?_eq_some_iff.1 hx).1; have := a1.n; omega) hadr
        omega
    rcases key with ⟨x, w', q1, q2⟩ | ⟨q1, q2⟩
    · exact .inl ⟨x, w', q1, up x w' q2⟩
    · refine .inr ⟨q1, q2.mono fun e w' he => ?_⟩
      cases e <;> first | exact up _ _ he | exact he

set_option maxHeartbeats 1000000 in
theorem evEff_run {W₀ : Array Obj} {E : Env} {c : Calls_} (hc : CallsOk W₀ E c) {C : Ctx} {H H' : Heap} {w : World} {f : Nat} {t : List V} {a : Act} {o : Oper} {v : V} (hh : HRel C H w) (hg : GRel E C) (hi : Inv W₀ C w) (ht : TRel C t a.tmps) (h : evEff E c f t o H = some (v, H')) :
    OutN E.P w (execOp a.eval o) (Good C w v H') := by
  obtain ⟨dst, op, ty, pos, after, guard⟩ := o
  unfold evEff at h
  unfold execOp
  cases op <;> simp only [reduceCtorEq] at h ⊢
  case alloc T =>
    obtain ⟨z, hz, h⟩ := Option.bind_eq_some_iff.1 h
    split at h
    · rename_i hk
      cases h
      exact out_of (alloc_run hh hz hk.2.2)
    · cases h
  case box T x =>
    split at h
    · rename_i hk
      cases h
      exact out_of (box_run hh (arg_rel hg ht x) hk.2.2)
    · cases h
  case store T x y =>
    obtain ⟨H1, h1, h⟩ := Option.map_eq_some_iff.1 h
    cases h
    obtain ⟨w', C', q1, q2, q3⟩ := storeV_run hh (arg_rel hg ht x) (arg_rel hg ht y) h1
    exact .inr (.inl ⟨w', by simp only [Sem.run_bind, q1, Result.andThen_ok, Sem.run_pure], C', by simp only [Rel], q2, q3⟩)
  case makeSlice T l k =>
    have hl := arg_rel hg ht l
    have hk := arg_rel hg ht k
    split at h
    · rename_i e kl n kc m hu e1 e2
      rw [e1] at hl
      rw [e2] at hk
      simp only [Rel] at hl hk
      obtain ⟨z, hz, h⟩ := Option.bind_eq_some_iff.1 h
      split at h
      · rename_i hq
        cases h
        rw [hl, hk]
        obtain ⟨q1, q2, q3, q4, q5, q6, q7, q8⟩ := hq
        exact out_of (makeSlice_run hh hu hz q1 q2 q3 q4 q5 q6 q7 q8)
      · cases h
    · cases h
  case slice T x lo hi mx =>
    split at h
    · cases h
    · rename_i hm
      have hmx : mx.isSome = true → hi.isSome = true := fun h => by
        cases hi <;> simp_all
      by_cases hs : E.P.underlying T = some .string
      · have h' : evRd E f t ⟨dst, .slice T x lo hi mx, ty, pos, after, guard⟩ H = some v ∧ H' = H := by
          unfold evRd
          simp only
          rw [hs]
          simp only
          unfold sliceV at h ⊢
          rw [hs] at h ⊢
          generalize arg E t x = xv at h ⊢
          cases xv <;> simp only [reduceCtorEq] at h ⊢
          cases mx with
          | some m => simp at h
          | none =>
            simp only [Option.map_none] at h ⊢
            obtain ⟨b, hb, h⟩ := Option.bind_eq_some_iff.1 h
            obtain ⟨l, hl, h⟩ := Option.bind_eq_some_iff.1 h
            cases h
            rw [hb]
            simp [hl]
        obtain ⟨h1, rfl⟩ := h'
        have := (evRd_run (a := a) hh hg ht h1).out
        simpa [execOp] using this
      · obtain ⟨z, C', q1, q2, q3, q4⟩ := sliceV_run hh hg ht lo hi mx (arg_rel hg ht x) hmx hs h
        exact out_of ⟨z, w, C', q1, q2, q3, q4⟩
  case call q =>
    obtain ⟨callee, cargs, ctys⟩ := q
    cases callee with
    | invoke r m => simp at h
    | builtin b =>
      cases b <;> simp only [reduceCtorEq] at h
      case append =>
        split at h
        · rename_i T T' x y hT hx
          obtain ⟨p, q, rfl, rfl, rfl⟩ := args_two hx
          obtain ⟨ys, hs, h⟩ := Option.bind_eq_some_iff.1 h
          obtain ⟨ctys⟩ := ctys
          simp only at hT
          subst hT
          simp only [resolve, pure_bind, invoke, builtin]
          have e : Array.map a.eval #[p, q] = #[a.eval p, a.eval q] := by simp
          rw [e]
          exact out_of (appendV_run (ty := ty) hh (arg_rel hg ht p) (arg_rel hg ht q) hs h)
        · cases h
    | value g =>
      simp only at h
      have hgv := arg_rel hg ht g
      split at h
      · rename_i g' first cap e
        rw [e] at hgv
        simp only [Rel] at hgv
        obtain ⟨p, q, e2, r1, r2⟩ := hgv
        have hargs : Rels C (first ++ args E t cargs ++ cap) (p ++ cargs.map a.eval ++ q).toList := by
          simp only [Array.toList_append]
          exact Rels_append (Rels_append r1 (args_rel hg ht cargs)) r2
        refine (callV_run hc hh hg hi hargs h).out ?_ fun _ _ h => h
        simp only [resolve, e2, Deferred.ofValue]
        simp [invoke]
      · cases h

end Ev
end Go.Proofs.YthpfimildcbgmaaDoor
