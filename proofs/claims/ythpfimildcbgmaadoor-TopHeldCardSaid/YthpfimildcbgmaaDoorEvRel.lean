/-
How the interpreter's values and boxes stand to the model's values and memory ('Rel', 'HRel'), and what stays of that from step to step ('Step').
-/
import Derived.Test.YthpfimildcbgmaaDoorEv
import Derived.Laws.Sem
import Derived.RowKit3
namespace Go.Proofs.YthpfimildcbgmaaDoor
namespace Ev
set_option linter.all false
open Go

/-- Where a box lies: its block, how many elements have room, how many cells an element has. -/
structure Place where
  adr : Option Nat
  cap : Nat
  sz : Nat

structure Ctx where
  n : Nat
  at_ : Nat → Place
  vr : Nat → Bool
  ln : Nat → Nat
  S : Addr → Option Value

/-- The element y of sz cells lies at o in block b. -/
def ElemAt (S : Addr → Option Value) (sz b o : Nat) (y : Value) : Prop :=
  (∃ ys : Array Value, y = .agg ys ∧ ys.size = sz ∧ ∀ (i : Nat) (v : Value), ys[i]? = some v → S ⟨b, o + i, none⟩ = some v) ∨ (sz = 1 ∧ y.oneCell' = true ∧ S ⟨b, o, none⟩ = some y)

def adrV (p : Option Nat) : Option Addr := p.map fun b => ⟨b, 0, none⟩

def okEs : List V → Bool
  | [] => true
  | v :: r => ones v.cells && okEs r

mutual
def Rel (C : Ctx) : V → Value → Prop
  | .undef, x => x = Go.undef
  | .wild, _ => True
  | .bool b, x => x = .bool b
  | .int k n, x => x = .int k n
  | .fl k b, x => (b < 2 ^ k.format.width ∧ x = .float k b) ∨ (2 ^ k.format.width ≤ b ∧ (k.decode b).isNaN = true ∧ ∃ b', b' < 2 ^ k.format.width ∧ x = .float k b' ∧ (k.decode b').isNaN = true)
  | .str s, x => x = .string s
  | .nilp, x => x = .pointer none
  | .ptr h off, x => h < C.n ∧ C.vr h = true ∧ ∃ b, (C.at_ h).adr = some b ∧ x = .pointer (some ⟨b, off, none⟩)
  | .eptr h tot i off, x => h < C.n ∧ C.vr h = false ∧ tot ≤ C.ln h ∧ (∃ a, x = .pointer (some a)) ∧ (tot = C.ln h → ∃ b, (C.at_ h).adr = some b ∧ x = .pointer (some ⟨b, i * (C.at_ h).sz + off, none⟩))
  | .iptr cs, x => plains cs = true ∧ ones cs = true ∧ ∃ b o, x = .pointer (some ⟨b, o, none⟩) ∧ Els C C.S 1 b cs o
  | .nils, x => x = .slice none 0 0
  | .row h tot, x => h < C.n ∧ C.vr h = false ∧ tot ≤ C.ln h ∧ (∃ a n c, x = .slice a n c) ∧ (tot = C.ln h → x = .slice (adrV (C.at_ h).adr) tot (C.at_ h).cap)
  | .sl es sz cap, x => plains es = true ∧ okEs es = true ∧ 0 < sz ∧ ∃ a c, x = .slice a es.length c ∧ es.length ≤ c ∧ (cap = true → c = es.length) ∧ ((a = none ∧ c = 0) ∨ ∃ b o, a = some ⟨b, o, none⟩ ∧ Els C C.S sz b es o)
  | .agg cs, x => ∃ ys : Array Value, x = .agg ys ∧ Rels C cs ys.toList
  | .tup vs, x => ∃ ys : Array Value, x = .tuple ys ∧ Rels C vs ys.toList
  | .fn f a b, x => ∃ p q : Array Value, x = .func (.func f) p q ∧ Rels C a p.toList ∧ Rels C b q.toList
  | .nilf, x => x = .nilFunc
  | .ifc t v, x => ∃ y, x = .iface t y ∧ Rel C v y
  | .nili, x => x = .nilIface
def Rels (C : Ctx) : List V → List Value → Prop
  | [], ys => ys = []
  | v :: r, ys => ∃ y t, ys = y :: t ∧ Rel C v y ∧ Rels C r t
def Els (C : Ctx) (S : Addr → Option Value) (sz b : Nat) : List V → Nat → Prop
  | [], _ => True
  | v :: r, o => (∃ y, ElemAt S sz b o y ∧ Rel C v y) ∧ Els C S sz b r (o + sz)
end

/-- A box lies in the world where the context says. -/
def BoxOk (C : Ctx) (w : World) (h : Nat) (bx : Box) : Prop :=
  bx.cs.length = C.ln h ∧ C.vr h = decide (bx.sz = 0) ∧ (bx.pl = true → plains bx.cs = true) ∧ okEs bx.cs = true ∧ (bx.sz = 0 → ones bx.cs = true) ∧
  (C.at_ h).sz = (if bx.sz = 0 then 1 else bx.sz) ∧
  match (C.at_ h).adr with
  | none => bx.cs = [] ∧ 0 < bx.sz ∧ (C.at_ h).cap = 0
  | some b => Els C w.cell? (C.at_ h).sz b bx.cs 0 ∧ bx.cs.length ≤ (C.at_ h).cap ∧
      (∃ c e fz, w.heap[b]? = some (.cells c e fz) ∧ (C.at_ h).cap * (C.at_ h).sz ≤ c.size) ∧
      (∀ i, i < (C.at_ h).cap * (C.at_ h).sz → w.frozen? ⟨b, i, none⟩ = false) ∧
      (bx.sz = 0 → (C.at_ h).cap = bx.cs.length)

structure HRel (C : Ctx) (H : Heap) (w : World) : Prop where
  n : C.n = H.length
  box : ∀ h bx, H[h]? = some bx → BoxOk C w h bx
  apart : ∀ h h' b, h < C.n → h' < C.n → (C.at_ h).adr = some b → (C.at_ h').adr = some b → h = h'
  stable : ∀ a v, C.S a = some v → w.cell? a = some v
  away : ∀ h bx b a v, H[h]? = some bx → (C.at_ h).adr = some b → C.S a = some v → a.block = b → bx.fz = true ∧ a.off < bx.cs.length * (C.at_ h).sz

/-- What stays of a context. -/
structure Ext (C C' : Ctx) : Prop where
  n : C.n ≤ C'.n
  S : ∀ a v, C.S a = some v → C'.S a = some v
  vr : ∀ h, h < C.n → C'.vr h = C.vr h
  ln : ∀ h, h < C.n → C.ln h ≤ C'.ln h
  at_ : ∀ h, h < C.n → (C.vr h = true ∨ C'.ln h = C.ln h) → C'.at_ h = C.at_ h

theorem Ext.refl (C : Ctx) : Ext C C := ⟨Nat.le_refl _, fun _ _ h => h, fun _ _ => rfl, fun _ _ => Nat.le_refl _, fun _ _ _ => rfl⟩

theorem Ext.trans {A B C : Ctx} (h : Ext A B) (k : Ext B C) : Ext A C where
  n := Nat.le_trans h.n k.n
  S a v hv := k.S a v (h.S a v hv)
  vr i hi := (k.vr i (Nat.lt_of_lt_of_le hi h.n)).trans (h.vr i hi)
  ln i hi := Nat.le_trans (h.ln i hi) (k.ln i (Nat.lt_of_lt_of_le hi h.n))
  at_ i hi hv := by
    have hi' := Nat.lt_of_lt_of_le hi h.n
    have l1 := h.ln i hi
    have l2 := k.ln i hi'
    rcases hv with hv | hv
    · rw [k.at_ i hi' (.inl ((h.vr i hi).trans hv)), h.at_ i hi (.inl hv)]
    · rw [k.at_ i hi' (.inr (by omega)), h.at_ i hi (.inr (by omega))]

theorem ElemAt.mono {S S' : Addr → Option Value} {sz b o : Nat} {y : Value} (h : ElemAt S sz b o y) (hs : ∀ i v, i < sz → S ⟨b, o + i, none⟩ = some v → S' ⟨b, o + i, none⟩ = some v) : ElemAt S' sz b o y := by
  rcases h with ⟨ys, rfl, hz, hi⟩ | ⟨rfl, ho, h1⟩
  · refine .inl ⟨ys, rfl, hz, fun i v hv => hs i v ?_ (hi i v hv)⟩
    have := (Array.getElem?_eq_some_iff.1 hv).1
    omega
  · exact .inr ⟨rfl, ho, hs 0 y (by omega) h1⟩

mutual
theorem Rel.mono {C C' : Ctx} (e : Ext C C') : ∀ (v : V) (x : Value), Rel C v x → Rel C' v x
  | .undef, x => by simp only [Rel]; exact id
  | .wild, x => by simp only [Rel]; exact id
  | .bool b, x => by simp only [Rel]; exact id
  | .int k n, x => by simp only [Rel]; exact id
  | .fl k b, x => by simp only [Rel]; exact id
  | .str s, x => by simp only [Rel]; exact id
  | .nilp, x => by simp only [Rel]; exact id
  | .nils, x => by simp only [Rel]; exact id
  | .nilf, x => by simp only [Rel]; exact id
  | .nili, x => by simp only [Rel]; exact id
  | .ptr h off, x => by
    simp only [Rel]
    rintro ⟨h1, h2, b, h3, rfl⟩
    exact ⟨Nat.lt_of_lt_of_le h1 e.n, (e.vr h h1).trans h2, b, by rw [e.at_ h h1 (.inl h2)]; exact h3, rfl⟩
  | .eptr h tot i off, x => by
    simp only [Rel]
    rintro ⟨h1, h2, h3, h4, h5⟩
    refine ⟨Nat.lt_of_lt_of_le h1 e.n, (e.vr h h1).trans h2, Nat.le_trans h3 (e.ln h h1), h4, fun ht => ?_⟩
    have := e.ln h h1
    have hl : C'.ln h = C.ln h := by omega
    rw [e.at_ h h1 (.inr hl)]
    exact h5 (by omega)
  | .iptr cs, x => by
    simp only [Rel]
    rintro ⟨h1, h2, b, o, rfl, h3⟩
    exact ⟨h1, h2, b, o, rfl, Els.mono e (fun i v _ => e.S _ _) cs o h3⟩
  | .row h tot, x => by
    simp only [Rel]
    rintro ⟨h1, h2, h3, h4, h5⟩
    refine ⟨Nat.lt_of_lt_of_le h1 e.n, (e.vr h h1).trans h2, Nat.le_trans h3 (e.ln h h1), h4, fun ht => ?_⟩
    have := e.ln h h1
    have hl : C'.ln h = C.ln h := by omega
    rw [e.at_ h h1 (.inr hl)]
    exact h5 (by omega)
  | .sl es sz cap, x => by
    simp only [Rel]
    rintro ⟨h1, h2, h3, a, c, rfl, h4, h5, h6⟩
    refine ⟨h1, h2, h3, a, c, rfl, h4, h5, ?_⟩
    rcases h6 with h6 | ⟨b, o, rfl, h6⟩
    · exact .inl h6
    · exact .inr ⟨b, o, rfl, Els.mono e (fun i v _ => e.S _ _) es o h6⟩
  | .agg cs, x => by
    simp only [Rel]
    rintro ⟨ys, rfl, h⟩
    exact ⟨ys, rfl, Rels.mono e cs _ h⟩
  | .tup cs, x => by
    simp only [Rel]
    rintro ⟨ys, rfl, h⟩
    exact ⟨ys, rfl, Rels.mono e cs _ h⟩
  | .fn f a b, x => by
    simp only [Rel]
    rintro ⟨p, q, rfl, h1, h2⟩
    exact ⟨p, q, rfl, Rels.mono e a _ h1, Rels.mono e b _ h2⟩
  | .ifc t v, x => by
    simp only [Rel]
    rintro ⟨y, rfl, h⟩
    exact ⟨y, rfl, Rel.mono e v y h⟩
theorem Rels.mono {C C' : Ctx} (e : Ext C C') : ∀ (l : List V) (ys : List Value), Rels C l ys → Rels C' l ys
  | [], ys => by simp only [Rels]; exact id
  | v :: r, ys => by
    simp only [Rels]
    rintro ⟨y, t, rfl, h1, h2⟩
    exact ⟨y, t, rfl, Rel.mono e v y h1, Rels.mono e r t h2⟩
theorem Els.mono {C C' : Ctx} (e : Ext C C') {S S' : Addr → Option Value} {sz b : Nat} (hs : ∀ i v, True → S ⟨b, i, none⟩ = some v → S' ⟨b, i, none⟩ = some v) : ∀ (l : List V) (o : Nat), Els C S sz b l o → Els C' S' sz b l o
  | [], _ => by simp only [Els]; exact id
  | v :: r, o => by
    simp only [Els]
    rintro ⟨⟨y, h1, h2⟩, h3⟩
    exact ⟨⟨y, h1.mono fun i v _ => hs (o + i) v trivial, Rel.mono e v y h2⟩, Els.mono e hs r _ h3⟩
end

theorem Els_iff {C : Ctx} {S : Addr → Option Value} {sz b : Nat} : ∀ (l : List V) (o : Nat), Els C S sz b l o ↔ ∀ (k : Nat) (v : V), l[k]? = some v → ∃ y, ElemAt S sz b (o + k * sz) y ∧ Rel C v y
  | [], o => by simp [Els]
  | v :: r, o => by
    simp only [Els, Els_iff r]
    constructor
    · rintro ⟨h, hr⟩ k u hk
      cases k with
      | zero => simp at hk; subst hk; simpa using h
      | succ k =>
        simp at hk
        have := hr k u hk
        rw [show o + (k + 1) * sz = o + sz + k * sz by rw [Nat.add_mul]; omega]
        exact this
    · intro h
      refine ⟨by simpa using h 0 v rfl, fun k u hk => ?_⟩
      have := h (k + 1) u (by simpa using hk)
      rw [show o + (k + 1) * sz = o + sz + k * sz by rw [Nat.add_mul]; omega] at this
      exact this

theorem Rels_length {C : Ctx} : ∀ (l : List V) (ys : List Value), Rels C l ys → l.length = ys.length
  | [], ys => by simp only [Rels]; rintro rfl; rfl
  | v :: r, ys => by
    simp only [Rels]
    rintro ⟨y, t, rfl, _, h⟩
    simp [Rels_length r t h]

theorem Rels_get {C : Ctx} : ∀ (l : List V) (ys : List Value), Rels C l ys → ∀ (k : Nat) (v : V), l[k]? = some v → ∃ y, ys[k]? = some y ∧ Rel C v y
  | [], ys => by intro _ k v h; simp at h
  | v :: r, ys => by
    simp only [Rels]
    rintro ⟨y, t, rfl, h1, h2⟩ k u hk
    cases k with
    | zero => simp at hk; subst hk; exact ⟨y, rfl, h1⟩
    | succ k => simp at hk; simpa using Rels_get r t h2 k u hk

theorem Rels_mk {C : Ctx} : ∀ (l : List V) (ys : List Value), l.length = ys.length → (∀ (k : Nat) (v : V) (y : Value), l[k]? = some v → ys[k]? = some y → Rel C v y) → Rels C l ys
  | [], ys => by intro h _; simp only [Rels]; exact List.length_eq_zero_iff.1 h.symm
  | v :: r, [] => by intro h; simp at h
  | v :: r, y :: t => by
    intro h hh
    simp only [Rels]
    exact ⟨y, t, rfl, hh 0 v y rfl rfl, Rels_mk r t (by simpa using h) fun k u z hu hz => hh (k + 1) u z (by simpa using hu) (by simpa using hz)⟩

theorem Rels_append {C : Ctx} {a b : List V} {x y : List Value} (h : Rels C a x) (k : Rels C b y) : Rels C (a ++ b) (x ++ y) := by
  induction a generalizing x with
  | nil => simp only [Rels] at h; subst h; exact k
  | cons v r ih =>
    simp only [Rels] at h
    obtain ⟨z, t, rfl, h1, h2⟩ := h
    simp only [List.cons_append, Rels]
    exact ⟨z, t ++ y, rfl, h1, ih h2⟩

theorem plains_iff : ∀ (l : List V), plains l = true ↔ ∀ (k : Nat) (v : V), l[k]? = some v → v.plain = true
  | [] => by simp [plains]
  | v :: r => by
    simp only [plains, Bool.and_eq_true, plains_iff r]
    constructor
    · rintro ⟨h, hr⟩ k u hk
      cases k with
      | zero => simp at hk; subst hk; exact h
      | succ k => simp at hk; exact hr k u hk
    · intro h
      exact ⟨h 0 v rfl, fun k u hk => h (k + 1) u (by simpa using hk)⟩

theorem ones_iff : ∀ (l : List V), ones l = true ↔ ∀ (k : Nat) (v : V), l[k]? = some v → v.one = true
  | [] => by simp [ones]
  | v :: r => by
    simp only [ones, Bool.and_eq_true, ones_iff r]
    constructor
    · rintro ⟨h, hr⟩ k u hk
      cases k with
      | zero => simp at hk; subst hk; exact h
      | succ k => simp at hk; exact hr k u hk
    · intro h
      exact ⟨h 0 v rfl, fun k u hk => h (k + 1) u (by simpa using hk)⟩

theorem okEs_iff : ∀ (l : List V), okEs l = true ↔ ∀ (k : Nat) (v : V), l[k]? = some v → ones v.cells = true
  | [] => by simp [okEs]
  | v :: r => by
    simp only [okEs, Bool.and_eq_true, okEs_iff r]
    constructor
    · rintro ⟨h, hr⟩ k u hk
      cases k with
      | zero => simp at hk; subst hk; exact h
      | succ k => simp at hk; exact hr k u hk
    · intro h
      exact ⟨h 0 v rfl, fun k u hk => h (k + 1) u (by simpa using hk)⟩

/-- What is one cell's value is one cell's value in the model. -/
theorem Rel.oneCell {C : Ctx} {v : V} {x : Value} (h : Rel C v x) (ho : v.one = true) : x.oneCell' = true := by
  cases v <;> simp only [V.one, Bool.false_eq_true] at ho <;> simp only [Rel] at h
  case bool => subst h; rfl
  case int => subst h; rfl
  case fl =>
    rcases h with ⟨_, rfl⟩ | ⟨_, _, b', _, rfl, _⟩ <;> rfl
  case str => subst h; rfl
  case nilp => subst h; rfl
  case ptr => obtain ⟨_, _, b, _, rfl⟩ := h; rfl
  case eptr => obtain ⟨_, _, _, ⟨a, rfl⟩, _⟩ := h; rfl
  case iptr => obtain ⟨_, _, b, o, rfl, _⟩ := h; rfl
  case nils => subst h; rfl
  case row => obtain ⟨_, _, _, ⟨a, n, c, rfl⟩, _⟩ := h; rfl
  case sl => obtain ⟨_, _, _, a, c, rfl, _⟩ := h; rfl
  case fn => obtain ⟨p, q, rfl, _⟩ := h; rfl
  case nilf => subst h; rfl
  case ifc => obtain ⟨y, rfl, _⟩ := h; rfl
  case nili => subst h; rfl

/-- A value's cells. -/
theorem Rel.cells {C : Ctx} {v : V} {x : Value} (h : Rel C v x) (ho : ones v.cells = true) : Rels C v.cells x.cells.toList ∧ (∀ (i : Nat) (y : Value), x.cells[i]? = some y → y.oneCell' = true) := by
  have key : ∀ v : V, v.one = true → Rel C v x → Rels C [v] x.cells.toList ∧ (∀ (i : Nat) (y : Value), x.cells[i]? = some y → y.oneCell' = true) := by
    intro v ho h
    have hx := h.oneCell ho
    have hc : x.cells = #[x] := by cases x <;> first | rfl | simp [Value.oneCell'] at hx
    rw [hc]
    refine ⟨by simp only [Rels]; exact ⟨x, [], rfl, h, rfl⟩, fun i y hy => ?_⟩
    cases i with
    | zero => simp at hy; subst hy; exact hx
    | succ i => simp at hy
  cases v
  case agg cs =>
    simp only [Rel] at h
    obtain ⟨ys, rfl, h⟩ := h
    refine ⟨h, fun i y hy => ?_⟩
    have hl := Rels_length _ _ h
    have hi := (Array.getElem?_eq_some_iff.1 hy).1
    obtain ⟨v, hv⟩ : ∃ v, cs[i]? = some v := ⟨cs[i]'(by simp [Value.cells] at hi; simp at hl; omega), List.getElem?_eq_getElem _⟩
    obtain ⟨z, hz, hr⟩ := Rels_get _ _ h i v hv
    simp [Value.cells] at hy hz
    rw [hy] at hz
    cases hz
    exact hr.oneCell ((ones_iff _).1 ho i v hv)
  all_goals exact key _ (by simpa [V.cells, ones] using ho) h

end Ev
end Go.Proofs.YthpfimildcbgmaaDoor
