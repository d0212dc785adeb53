/-
What stays from step to step ('Step'), and how the interpreter's boxes follow the model's memory.
-/
import Derived.Test.YthpfimildcbgmaaDoorEvRel
import Derived.Laws.World
import Derived.Laws.Rows
import Derived.Laws.Cells
namespace Go.Proofs.YthpfimildcbgmaaDoor
namespace Ev
set_option linter.all false
open Go

/-- From world w and context C to world w' and context C'. -/
structure Step (C : Ctx) (w : World) (C' : Ctx) (w' : World) : Prop where
  ext : Ext C C'
  os : w'.os = w.os
  tape : w'.tape = w.tape
  output : w'.output = w.output
  size : w.heap.size ≤ w'.heap.size
  block : ∀ b, b < w.heap.size → (∀ h, h < C.n → (C.at_ h).adr ≠ some b) → w'.heap[b]? = w.heap[b]?
  new : ∀ h b, h < C'.n → (C'.at_ h).adr = some b → b < w.heap.size → ∃ h', h' < C.n ∧ (C.at_ h').adr = some b
  put : ∀ a v, C'.S a = some v → C.S a = none → w.heap.size ≤ a.block ∨ ∃ h, h < C.n ∧ (C.at_ h).adr = some a.block

theorem Step.refl (C : Ctx) (w : World) : Step C w C w := ⟨.refl C, rfl, rfl, rfl, Nat.le_refl _, fun _ _ _ => rfl, fun h _ hh hb _ => ⟨h, hh, hb⟩, fun a v h k => by rw [k] at h; cases h⟩

theorem Step.trans {C₁ C₂ C₃ : Ctx} {w₁ w₂ w₃ : World} (h : Step C₁ w₁ C₂ w₂) (k : Step C₂ w₂ C₃ w₃) : Step C₁ w₁ C₃ w₃ where
  ext := h.ext.trans k.ext
  os := k.os.trans h.os
  tape := k.tape.trans h.tape
  output := k.output.trans h.output
  size := Nat.le_trans h.size k.size
  block b hb hn := by
    rw [k.block b (Nat.lt_of_lt_of_le hb h.size) fun i hi hx => ?_, h.block b hb hn]
    obtain ⟨j, hj, hx'⟩ := h.new i b hi hx hb
    exact hn j hj hx'
  new i b hi hx hb := by
    obtain ⟨j, hj, hx'⟩ := k.new i b hi hx (Nat.lt_of_lt_of_le hb h.size)
    exact h.new j b hj hx' hb
  put a v h3 h1 := by
    cases h2 : C₂.S a with
    | some u => exact h.put a u h2 h1
    | none =>
      rcases k.put a v h3 h2 with hk | ⟨i, hi, hx⟩
      · exact .inl (Nat.le_trans h.size hk)
      · by_cases hb : a.block < w₁.heap.size
        · exact .inr (h.new i a.block hi hx hb)
        · exact .inl (by omega)

theorem cell_of_heap {w w' : World} {a : Addr} (h : w'.heap[a.block]? = w.heap[a.block]?) : w'.cell? a = w.cell? a := by simp [World.cell?, h]
theorem frozen_of_heap {w w' : World} {a : Addr} (h : w'.heap[a.block]? = w.heap[a.block]?) : w'.frozen? a = w.frozen? a := by simp [World.frozen?, h]

/-- What a box asks of the world lies in its block. -/
theorem BoxOk.world {C : Ctx} {w w' : World} {h : Nat} {bx : Box} (k : BoxOk C w h bx) (hb : ∀ b, (C.at_ h).adr = some b → w'.heap[b]? = w.heap[b]?) : BoxOk C w' h bx := by
  obtain ⟨h1, h2, h3, h4, h5, h6, h7⟩ := k
  refine ⟨h1, h2, h3, h4, h5, h6, ?_⟩
  cases hx : (C.at_ h).adr with
  | none => rw [hx] at h7; exact h7
  | some b =>
    rw [hx] at h7
    have e := hb b hx
    obtain ⟨a1, a2, a3, a4, a5⟩ := h7
    refine ⟨Els.mono (.refl C) (fun i v _ hv => ?_) _ _ a1, a2, by rw [e]; exact a3, fun i hi => ?_, a5⟩
    · rw [cell_of_heap (w := w) (by exact e)]; exact hv
    · rw [frozen_of_heap (w := w) (by exact e)]; exact a4 i hi

theorem BoxOk.lt {C : Ctx} {w : World} {h : Nat} {bx : Box} (k : BoxOk C w h bx) {b : Nat} (hb : (C.at_ h).adr = some b) : b < w.heap.size := by
  obtain ⟨_, _, _, _, _, _, h7⟩ := k
  rw [hb] at h7
  obtain ⟨_, _, ⟨c, e, fz, hc, _⟩, _⟩ := h7
  exact (Array.getElem?_eq_some_iff.1 hc).1

theorem HRel.get {C : Ctx} {H : Heap} {w : World} (hr : HRel C H w) {h : Nat} (hh : h < C.n) : ∃ bx, H[h]? = some bx ∧ BoxOk C w h bx := by
  have : h < H.length := hr.n ▸ hh
  exact ⟨H[h], List.getElem?_eq_getElem this, hr.box h _ (List.getElem?_eq_getElem this)⟩

theorem HRel.lt {C : Ctx} {H : Heap} {w : World} (hr : HRel C H w) {h b : Nat} (hh : h < C.n) (hb : (C.at_ h).adr = some b) : b < w.heap.size := by
  obtain ⟨bx, _, k⟩ := hr.get hh
  exact k.lt hb

/-- All that lay stands as it stood (new blocks, draws). -/
theorem HRel.same {C : Ctx} {H : Heap} {w w' : World} (hr : HRel C H w) (he : ∀ b, b < w.heap.size → w'.heap[b]? = w.heap[b]?) : HRel C H w' where
  n := hr.n
  box h bx hx := (hr.box h bx hx).world fun b hb => he b ((hr.box h bx hx).lt hb)
  apart := hr.apart
  stable a v hv := by
    have h1 := hr.stable a v hv
    rw [cell_of_heap (w := w) (he _ (block_lt_of_cell h1))]
    exact h1
  away := hr.away

theorem Step.same {C : Ctx} {w w' : World} (he : ∀ b, b < w.heap.size → w'.heap[b]? = w.heap[b]?) (hs : w.heap.size ≤ w'.heap.size) (h1 : w'.os = w.os) (h2 : w'.tape = w.tape) (h3 : w'.output = w.output) : Step C w C w' :=
  ⟨.refl C, h1, h2, h3, hs, fun b hb _ => he b hb, fun h _ hh hb _ => ⟨h, hh, hb⟩, fun a v h k => by rw [k] at h; cases h⟩

theorem HRel.drew {C : Ctx} {H : Heap} {w : World} (hr : HRel C H w) : HRel C H w.drew := hr.same fun _ _ => rfl
theorem Step.drew (C : Ctx) (w : World) : Step C w C w.drew := .same (fun _ _ => rfl) (Nat.le_refl _) rfl rfl rfl

theorem heap_alloc_lt (w : World) (o : Obj) {b : Nat} (h : b < w.heap.size) : (w.alloc o).heap[b]? = w.heap[b]? := by
  show (w.heap.push o)[b]? = _
  rw [Array.getElem?_push, if_neg (by omega)]

/-- A context that holds more to be stable. -/
def Ctx.more (C : Ctx) (T : Addr → Option Value) : Ctx := { C with S := fun a => (C.S a).orElse fun _ => T a }

theorem Ctx.more_ext (C : Ctx) (T : Addr → Option Value) : Ext C (C.more T) where
  n := Nat.le_refl _
  S a v h := by simp [Ctx.more, h]
  vr _ _ := rfl
  ln _ _ := Nat.le_refl _
  at_ _ _ _ := rfl

theorem BoxOk.more {C : Ctx} {w : World} {h : Nat} {bx : Box} (k : BoxOk C w h bx) (T : Addr → Option Value) : BoxOk (C.more T) w h bx := by
  obtain ⟨h1, h2, h3, h4, h5, h6, h7⟩ := k
  refine ⟨h1, h2, h3, h4, h5, h6, ?_⟩
  show (match (C.at_ h).adr with | none => _ | some b => _)
  cases hx : (C.at_ h).adr with
  | none => rw [hx] at h7; exact h7
  | some b =>
    rw [hx] at h7
    obtain ⟨a1, a2, a3, a4, a5⟩ := h7
    exact ⟨Els.mono (C.more_ext T) (fun i v _ hv => hv) _ _ a1, a2, a3, a4, a5⟩

/-- A block that nobody writes: its cells are stable from now on. -/
theorem HRel.freeze {C : Ctx} {H : Heap} {w : World} (hr : HRel C H w) {b : Nat} (hb : ∀ h, h < C.n → (C.at_ h).adr ≠ some b) :
    HRel (C.more fun a => if a.block = b then w.cell? a else none) H w where
  n := hr.n
  box h bx hx := (hr.box h bx hx).more _
  apart := hr.apart
  stable a v hv := by
    simp only [Ctx.more] at hv
    cases hs : C.S a with
    | some u => rw [hs] at hv; simp at hv; subst hv; exact hr.stable a u hs
    | none =>
      rw [hs] at hv
      simp at hv
      exact hv.2
  away h bx b' a v hx hb' hv ha := by
    simp only [Ctx.more] at hv
    cases hs : C.S a with
    | some u => exact hr.away h bx b' a u hx hb' hs ha
    | none =>
      rw [hs] at hv
      simp at hv
      have hh : h < C.n := by have := (List.getElem?_eq_some_iff.1 hx).1; have := hr.n; omega
      exact absurd hb' (by rw [← ha, hv.1]; exact hb h hh)

theorem Step.more {C : Ctx} {w w' : World} (k : Step C w C w') (T : Addr → Option Value) (hT : ∀ a v, T a = some v → w.heap.size ≤ a.block ∨ ∃ h, h < C.n ∧ (C.at_ h).adr = some a.block) : Step C w (C.more T) w' where
  ext := C.more_ext T
  os := k.os
  tape := k.tape
  output := k.output
  size := k.size
  block := k.block
  new := k.new
  put a v h h0 := by
    simp only [Ctx.more, h0] at h
    exact hT a v (by simpa using h)

end Ev
end Go.Proofs.YthpfimildcbgmaaDoor
