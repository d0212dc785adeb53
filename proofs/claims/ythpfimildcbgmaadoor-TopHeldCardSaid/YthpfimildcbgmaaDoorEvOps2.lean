/-
The operations that leave the boxes alone, continued.
-/
import Derived.Test.YthpfimildcbgmaaDoorEvOps
import Derived.Laws.Tables
import Derived.Deep.MidRow
namespace Go.Proofs.YthpfimildcbgmaaDoor
namespace Ev
set_option linter.all false
open Go

/-! ### Lists of cells -/

theorem Rels_drop {C : Ctx} : ∀ (n : Nat) (l : List V) (ys : List Value), Rels C l ys → Rels C (l.drop n) (ys.drop n)
  | 0, _, _, h => h
  | n + 1, [], ys, h => by simp only [Rels] at h; subst h; simp [Rels]
  | n + 1, v :: r, ys, h => by
    simp only [Rels] at h
    obtain ⟨y, t, rfl, _, h2⟩ := h
    simpa using Rels_drop n r t h2

theorem Rels_take {C : Ctx} : ∀ (n : Nat) (l : List V) (ys : List Value), Rels C l ys → Rels C (l.take n) (ys.take n)
  | 0, _, _, _ => by simp [Rels]
  | n + 1, [], ys, h => by simp only [Rels] at h; subst h; simp [Rels]
  | n + 1, v :: r, ys, h => by
    simp only [Rels] at h
    obtain ⟨y, t, rfl, h1, h2⟩ := h
    simp only [List.take_succ_cons, Rels]
    exact ⟨y, t.take n, rfl, h1, Rels_take n r t h2⟩

/-- Cells laid over others, in the model's lists. -/
def layR : List Value → Nat → List Value → List Value
  | _ :: r, 0, v :: vs => v :: layR r 0 vs
  | c :: r, n + 1, vs => c :: layR r n vs
  | cs, _, _ => cs

theorem Rels_lay {C : Ctx} : ∀ (l : List V) (ys : List Value) (n : Nat) (vs : List V) (xs : List Value), Rels C l ys → Rels C vs xs → Rels C (lay l n vs) (layR ys n xs)
  | [], ys, n, vs, xs, h, _ => by
    simp only [Rels] at h; subst h
    cases n <;> simp [lay, layR, Rels]
  | c :: r, ys, 0, [], xs, h, k => by
    simp only [Rels] at k; subst k
    have h' := h
    simp only [Rels] at h'
    obtain ⟨y, t, rfl, _, _⟩ := h'
    simpa [lay, layR] using h
  | c :: r, ys, 0, v :: vs, xs, h, k => by
    simp only [Rels] at h k
    obtain ⟨y, t, rfl, _, h2⟩ := h
    obtain ⟨x, s, rfl, k1, k2⟩ := k
    simp only [lay, layR, Rels]
    exact ⟨x, _, rfl, k1, Rels_lay r t 0 vs s h2 k2⟩
  | c :: r, ys, n + 1, vs, xs, h, k => by
    simp only [Rels] at h
    obtain ⟨y, t, rfl, h1, h2⟩ := h
    simp only [lay, layR, Rels]
    exact ⟨y, _, rfl, h1, Rels_lay r t n vs xs h2 k⟩

theorem length_lay : ∀ (l : List V) (n : Nat) (vs : List V), (lay l n vs).length = l.length
  | [], n, vs => by cases n <;> simp [lay]
  | c :: r, 0, [] => by simp [lay]
  | c :: r, 0, v :: vs => by simp [lay, length_lay r 0 vs]
  | c :: r, n + 1, vs => by simp [lay, length_lay r n vs]

theorem get_lay : ∀ (l : List V) (n : Nat) (vs : List V) (k : Nat), n + vs.length ≤ l.length → (lay l n vs)[k]? = if n ≤ k ∧ k < n + vs.length then vs[k - n]? else l[k]?
  | [], n, vs, k, h => by
    have : vs = [] := by cases vs <;> simp at h ⊢
    subst this
    cases n <;> simp [lay] <;> omega
  | c :: r, 0, [], k, h => by
    simp [lay]
  | c :: r, 0, v :: vs, k, h => by
    have ih := get_lay r 0 vs
    cases k with
    | zero => simp [lay]
    | succ k =>
      have := ih k (by simp at h ⊢; omega)
      simp only [lay, List.getElem?_cons_succ, this, Nat.zero_le, true_and, Nat.zero_add, Nat.sub_zero, List.length_cons]
      split <;> rename_i hk
      · rw [if_pos (by omega)]
      · rw [if_neg (by omega)]
  | c :: r, n + 1, vs, k, h => by
    have ih := get_lay r n vs
    cases k with
    | zero => simp [lay]
    | succ k =>
      have := ih k (by simp at h; omega)
      simp only [lay, List.getElem?_cons_succ, this]
      split <;> rename_i hk
      · rw [if_pos (by omega), show k + 1 - (n + 1) = k - n by omega]
      · rw [if_neg (by omega)]

theorem get_layR : ∀ (l : List Value) (n : Nat) (vs : List Value) (k : Nat), n + vs.length ≤ l.length → (layR l n vs)[k]? = if n ≤ k ∧ k < n + vs.length then vs[k - n]? else l[k]?
  | [], n, vs, k, h => by
    have : vs = [] := by cases vs <;> simp at h ⊢
    subst this
    cases n <;> simp [layR] <;> omega
  | c :: r, 0, [], k, h => by
    simp [layR]
  | c :: r, 0, v :: vs, k, h => by
    have ih := get_layR r 0 vs
    cases k with
    | zero => simp [layR]
    | succ k =>
      have := ih k (by simp at h ⊢; omega)
      simp only [layR, List.getElem?_cons_succ, this, Nat.zero_le, true_and, Nat.zero_add, Nat.sub_zero, List.length_cons]
      split <;> rename_i hk
      · rw [if_pos (by omega)]
      · rw [if_neg (by omega)]
  | c :: r, n + 1, vs, k, h => by
    have ih := get_layR r n vs
    cases k with
    | zero => simp [layR]
    | succ k =>
      have := ih k (by simp at h; omega)
      simp only [layR, List.getElem?_cons_succ, this]
      split <;> rename_i hk
      · rw [if_pos (by omega), show k + 1 - (n + 1) = k - n by omega]
      · rw [if_neg (by omega)]

theorem ones_lay (l : List V) (n : Nat) (vs : List V) (h : ones l = true) (k : ones vs = true) (hl : n + vs.length ≤ l.length) : ones (lay l n vs) = true := by
  rw [ones_iff] at *
  intro i v hv
  rw [get_lay _ _ _ _ hl] at hv
  split at hv
  · exact k _ _ hv
  · exact h _ _ hv

theorem plains_lay (l : List V) (n : Nat) (vs : List V) (h : plains l = true) (k : plains vs = true) (hl : n + vs.length ≤ l.length) : plains (lay l n vs) = true := by
  rw [plains_iff] at *
  intro i v hv
  rw [get_lay _ _ _ _ hl] at hv
  split at hv
  · exact k _ _ hv
  · exact h _ _ hv

/-- The model's way to lay cells. -/
theorem foldl_set : ∀ (l : List Value) (s off : Nat) (cs : Array Value) (k : Nat), off + s + l.length ≤ cs.size →
    ((l.zipIdx s).foldl (fun cs p => cs.setIfInBounds (off + p.2) p.1) cs)[k]? = if off + s ≤ k ∧ k < off + s + l.length then l[k - off - s]? else cs[k]?
  | [], s, off, cs, k, h => by simp; omega
  | v :: r, s, off, cs, k, h => by
    simp only [List.zipIdx_cons, List.foldl_cons]
    rw [foldl_set r (s + 1) off _ k (by simp at h ⊢; omega)]
    simp only [List.length_cons] at h ⊢
    by_cases h1 : off + (s + 1) ≤ k ∧ k < off + (s + 1) + r.length
    · rw [if_pos h1, if_pos (by omega), show k - off - s = (k - off - (s + 1)) + 1 by omega]
      rfl
    · rw [if_neg h1, Array.getElem?_setIfInBounds]
      by_cases h2 : off + s = k
      · rw [if_pos h2, if_pos (by omega), if_pos (by omega), show k - off - s = 0 by omega]
        rfl
      · rw [if_neg h2, if_neg (by omega)]

theorem foldl_lay (l : List Value) (off : Nat) (cs : Array Value) (h : off + l.length ≤ cs.size) :
    ((l.zipIdx 0).foldl (fun cs p => cs.setIfInBounds (off + p.2) p.1) cs).toList = layR cs.toList off l := by
  apply List.ext_getElem?
  intro k
  have := foldl_set l 0 off cs k (by omega)
  rw [get_layR _ _ _ _ (by simpa using h)]
  simp only [Array.getElem?_toList, Nat.add_zero, Nat.sub_zero] at this ⊢
  exact this

/-! ### Cells that lie in memory -/

/-- Cells ys lie at o in block b. -/
def CellsAt (S : Addr → Option Value) (b o : Nat) (ys : List Value) : Prop := ∀ (j : Nat) (y : Value), ys[j]? = some y → S ⟨b, o + j, none⟩ = some y

theorem Els_cells {C : Ctx} {S : Addr → Option Value} {b : Nat} : ∀ (l : List V) (o : Nat), Els C S 1 b l o → ones l = true → ∃ ys : List Value, Rels C l ys ∧ CellsAt S b o ys ∧ ∀ y ∈ ys, y.oneCell' = true
  | [], o, _, _ => ⟨[], by simp [Rels], fun j y h => by simp at h, by simp⟩
  | v :: r, o, h, h1 => by
    simp only [Els] at h
    obtain ⟨⟨y, he, hr⟩, h2⟩ := h
    simp only [ones, Bool.and_eq_true] at h1
    obtain ⟨ys, a1, a2, a3⟩ := Els_cells r (o + 1) h2 h1.2
    have ho := hr.oneCell h1.1
    rcases he with ⟨zs, rfl, _⟩ | ⟨_, _, hS⟩
    · simp [Value.oneCell'] at ho
    · refine ⟨y :: ys, by simp only [Rels]; exact ⟨y, ys, rfl, hr, a1⟩, fun j z hz => ?_, ?_⟩
      · cases j with
        | zero => simp at hz; subst hz; exact hS
        | succ j =>
          have := a2 j z (by simpa using hz)
          rwa [show o + 1 + j = o + (j + 1) by omega] at this
      · intro z hz
        rcases List.mem_cons.1 hz with rfl | hz
        · exact ho
        · exact a3 z hz

theorem cells_Els {C : Ctx} {S : Addr → Option Value} {b : Nat} : ∀ (l : List V) (ys : List Value) (o : Nat), Rels C l ys → CellsAt S b o ys → (∀ y ∈ ys, y.oneCell' = true) → Els C S 1 b l o
  | [], _, _, _, _, _ => by simp [Els]
  | v :: r, ys, o, h, hc, h1 => by
    simp only [Rels] at h
    obtain ⟨y, t, rfl, h2, h3⟩ := h
    simp only [Els]
    refine ⟨⟨y, .inr ⟨rfl, h1 y (by simp), by simpa using hc 0 y rfl⟩, h2⟩, cells_Els r t (o + 1) h3 (fun j z hz => ?_) fun z hz => h1 z (by simp [hz])⟩
    have := hc (j + 1) z (by simpa using hz)
    rwa [show o + (j + 1) = o + 1 + j by omega] at this

/-- An element, as its cells. -/
theorem ElemAt.cells {C : Ctx} {S : Addr → Option Value} {sz b o : Nat} {v : V} {y : Value} (h : ElemAt S sz b o y) (hr : Rel C v y) (ho : ones v.cells = true) :
    v.cells.length = sz ∧ Rels C v.cells y.cells.toList ∧ CellsAt S b o y.cells.toList ∧ ∀ z ∈ y.cells.toList, z.oneCell' = true := by
  obtain ⟨a1, a2⟩ := hr.cells ho
  have hl := Rels_length _ _ a1
  have a3 : ∀ z ∈ y.cells.toList, z.oneCell' = true := fun z hz => by
    obtain ⟨i, hi⟩ := List.mem_iff_getElem?.1 hz
    exact a2 i z (by simpa using hi)
  rcases h with ⟨ys, rfl, hz, hi⟩ | ⟨rfl, h1, hS⟩
  · refine ⟨by simpa [Value.cells, hz] using hl, a1, fun j z hj => hi j z (by simpa [Value.cells] using hj), a3⟩
  · have hc : y.cells = #[y] := by cases y <;> first | rfl | simp [Value.oneCell'] at h1
    rw [hc] at hl a1 a3 ⊢
    refine ⟨by simpa using hl, a1, fun j z hj => ?_, a3⟩
    cases j with
    | zero => simp at hj; subst hj; exact hS
    | succ j => simp at hj

theorem CellsAt.sub {S : Addr → Option Value} {b o : Nat} {ys : List Value} (h : CellsAt S b o ys) (off n : Nat) : CellsAt S b (o + off) ((ys.drop off).take n) := by
  intro j y hy
  rw [List.getElem?_take] at hy
  split at hy
  · rw [List.getElem?_drop] at hy
    have := h (off + j) y hy
    rwa [show o + (off + j) = o + off + j by omega] at this
  · cases hy

theorem ones_sub {l : List V} (h : ones l = true) (off n : Nat) : ones ((l.drop off).take n) = true := by
  rw [ones_iff] at *
  intro k v hv
  rw [List.getElem?_take] at hv
  split at hv
  · rw [List.getElem?_drop] at hv; exact h _ _ hv
  · cases hv

theorem plains_sub {l : List V} (h : plains l = true) (off n : Nat) : plains ((l.drop off).take n) = true := by
  rw [plains_iff] at *
  intro k v hv
  rw [List.getElem?_take] at hv
  split at hv
  · rw [List.getElem?_drop] at hv; exact h _ _ hv
  · cases hv

/-- What 'peek' tells lies in the world. -/
theorem peek_rel {C : Ctx} {H : Heap} {w : World} {n : Nat} {v : V} {x : Value} {cs : List V} (hh : HRel C H w) (hx : Rel C v x) (h : peek H n v = some cs) :
    cs.length = n ∧ ones cs = true ∧ ∃ b o ys, x = .pointer (some ⟨b, o, none⟩) ∧ Rels C cs ys ∧ w.rangeAt b o ys ∧ ∀ y ∈ ys, y.oneCell' = true := by
  cases v <;> simp only [peek, reduceCtorEq] at h
  case ptr i off =>
    simp only [Rel] at hx
    obtain ⟨h1, h2, b, h3, rfl⟩ := hx
    obtain ⟨bx, hb, k⟩ := hh.get h1
    rw [hb] at h
    simp only at h
    split at h
    · rename_i hc
      cases h
      obtain ⟨k1, k2, k3, k4, k5, k6, k7⟩ := k
      rw [h3] at k7
      obtain ⟨m1, m2, m3, m4, m5⟩ := k7
      rw [k6, if_pos hc.1] at m1
      obtain ⟨ys, a1, a2, a3⟩ := Els_cells _ _ m1 (k5 hc.1)
      refine ⟨by simp; omega, ones_sub (k5 hc.1) _ _, b, off, (ys.drop off).take n, rfl, Rels_take _ _ _ (Rels_drop _ _ _ a1), ?_, fun y hy => a3 y (List.mem_of_mem_drop (List.mem_of_mem_take hy))⟩
      have := a2.sub off n
      rw [Nat.zero_add] at this
      exact this
    · cases h
  case eptr i tot k off =>
    simp only [Rel] at hx
    obtain ⟨h1, h2, h3, h4, h5⟩ := hx
    obtain ⟨bx, hb, kk⟩ := hh.get h1
    rw [hb] at h
    simp only at h
    split at h
    · rename_i hc
      obtain ⟨k1, k2, k3, k4, k5, k6, k7⟩ := kk
      obtain ⟨b, hb2, rfl⟩ := h5 (by omega)
      rw [hb2] at k7
      obtain ⟨m1, m2, m3, m4, m5⟩ := k7
      cases he : bx.cs[k]? with
      | none => rw [he] at h; simp at h
      | some e =>
        rw [he] at h
        simp only at h
        split at h
        · rename_i hl
          cases h
          obtain ⟨y, hy, hr⟩ := (Els_iff _ _).1 m1 k e he
          have ho := (okEs_iff _).1 k4 k e he
          obtain ⟨a1, a2, a3, a4⟩ := hy.cells hr ho
          refine ⟨by simp; omega, ones_sub ho _ _, b, _, (y.cells.toList.drop off).take n, rfl, Rels_take _ _ _ (Rels_drop _ _ _ a2), ?_, fun z hz => a4 z (List.mem_of_mem_drop (List.mem_of_mem_take hz))⟩
          have := a3.sub off n
          rw [Nat.zero_add] at this
          exact this
        · cases h
    · cases h
  case iptr cs' =>
    simp only [Rel] at hx
    obtain ⟨h1, h2, b, o, rfl, h3⟩ := hx
    split at h
    · rename_i hl
      cases h
      obtain ⟨ys, a1, a2, a3⟩ := Els_cells _ _ h3 h2
      have := a2.sub 0 n
      simp only [Nat.add_zero, List.drop_zero] at this
      refine ⟨by simp; omega, by simpa using ones_sub h2 0 n, b, o, ys.take n, rfl, Rels_take _ _ _ a1, fun j y hy => hh.stable _ _ (this j y hy), fun y hy => a3 y (List.mem_of_mem_take hy)⟩
    · cases h

theorem pack_load {P : Program} {C : Ctx} {w : World} {t : TypeId} {cs : List V} {v : V} {b o : Nat} {ys : List Value} (h : pack P t cs = some v) (hl : cs.length = sizeT P t) (h0 : 0 < sizeT P t)
    (hr : Rels C cs ys) (hc : w.rangeAt b o ys) : ∃ y, (Instr.loadAt t (.pointer (some ⟨b, o, none⟩))).run P w = .ok y w ∧ Rel C v y := by
  unfold pack at h
  have hys := Rels_length _ _ hr
  split at h
  · rename_i ha
    rw [if_pos hl] at h
    cases h
    refine ⟨.agg ys.toArray, ?_, by simp only [Rel]; exact ⟨_, rfl, hr⟩⟩
    have hcl := run_loadCells_list (P := P) w ⟨b, o, none⟩ ys (fun j v hv => by rw [Addr.add_mid]; exact hc j v hv)
    simp [Instr.loadAt, Instr.sureAddr, loadVar, run_aggT ha, run_sizeT h0, ← hl, hys, hcl]
  · rename_i ha
    split at h
    · cases h
      rename_i v r
      simp only [Rels] at hr
      obtain ⟨y, t', rfl, h1, _⟩ := hr
      refine ⟨y, ?_, h1⟩
      have := hc 0 y rfl
      rw [Nat.add_zero] at this
      simp [Instr.loadAt, Instr.sureAddr, loadVar, run_aggT ha, this]
    · cases h
  · cases h

theorem load_run {P : Program} {C : Ctx} {H : Heap} {w : World} {t : TypeId} {v r : V} {x : Value} (hh : HRel C H w) (hx : Rel C v x) (h : load P H t v = some r) :
    ∃ y, (Instr.loadAt t x).run P w = .ok y w ∧ Rel C r y := by
  unfold load at h
  split at h
  · rename_i h0
    obtain ⟨cs, h1, h2⟩ := Option.bind_eq_some_iff.1 h
    obtain ⟨a1, _, b, o, ys, rfl, a2, a3, _⟩ := peek_rel hh hx h1
    exact pack_load h2 a1 h0 a2 a3
  · cases h

end Ev
end Go.Proofs.YthpfimildcbgmaaDoor
