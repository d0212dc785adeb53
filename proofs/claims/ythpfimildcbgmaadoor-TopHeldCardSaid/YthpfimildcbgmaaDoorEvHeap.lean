/-
How the boxes follow the model's memory where it is written or made.
-/
import Derived.Test.YthpfimildcbgmaaDoorEvRd
import Derived.Laws.Append
import Derived.Laws.AppendOwn
import Derived.Laws.IdiomCopy
import Derived.Laws.MakeOwn
namespace Go.Proofs.YthpfimildcbgmaaDoor
namespace Ev
set_option linter.all false
open Go

/-- A box of which the context tells the same. -/
theorem BoxOk.ext {C C' : Ctx} {w : World} {h : Nat} {bx : Box} (k : BoxOk C w h bx) (e : Ext C C') (h1 : C'.at_ h = C.at_ h) (h2 : C'.ln h = C.ln h) (h3 : C'.vr h = C.vr h) : BoxOk C' w h bx := by
  obtain ⟨k1, k2, k3, k4, k5, k6, k7⟩ := k
  refine ⟨by rw [h2]; exact k1, by rw [h3]; exact k2, k3, k4, k5, by rw [h1]; exact k6, ?_⟩
  rw [h1]
  cases hx : (C.at_ h).adr with
  | none => rw [hx] at k7; exact k7
  | some b =>
    rw [hx] at k7
    obtain ⟨a1, a2, a3, a4, a5⟩ := k7
    exact ⟨Els.mono e (fun _ _ _ hv => hv) _ _ a1, a2, a3, a4, a5⟩

/-- One box more. -/
def Ctx.push (C : Ctx) (p : Place) (vr : Bool) (l : Nat) : Ctx :=
  { n := C.n + 1, at_ := fun i => if i = C.n then p else C.at_ i, vr := fun i => if i = C.n then vr else C.vr i, ln := fun i => if i = C.n then l else C.ln i, S := C.S }

theorem Ctx.push_ext (C : Ctx) (p : Place) (vr : Bool) (l : Nat) : Ext C (C.push p vr l) where
  n := by simp [Ctx.push]
  S _ _ h := h
  vr i hi := by simp [Ctx.push]; omega
  ln i hi := by simp only [Ctx.push]; rw [if_neg (by omega)]; exact Nat.le_refl _
  at_ i hi _ := by simp only [Ctx.push]; rw [if_neg (by omega)]

theorem HRel.push {C : Ctx} {H : Heap} {w w' : World} (hh : HRel C H w) {p : Place} {bx : Box} (hs : ∀ b, b < w.heap.size → w'.heap[b]? = w.heap[b]?) (hl : w.heap.size ≤ w'.heap.size) (h1 : w'.os = w.os) (h2 : w'.tape = w.tape) (h3 : w'.output = w.output)
    (hp : ∀ b, p.adr = some b → w.heap.size ≤ b) (hb : BoxOk (C.push p (decide (bx.sz = 0)) bx.cs.length) w' C.n bx) :
    HRel (C.push p (decide (bx.sz = 0)) bx.cs.length) (H ++ [bx]) w' ∧ Step C w (C.push p (decide (bx.sz = 0)) bx.cs.length) w' := by
  have hh' := hh.same hs
  have e := C.push_ext p (decide (bx.sz = 0)) bx.cs.length
  have hat : ∀ i, i < C.n → (C.push p (decide (bx.sz = 0)) bx.cs.length).at_ i = C.at_ i := fun i hi => by simp only [Ctx.push]; rw [if_neg (by omega)]
  have hnew : (C.push p (decide (bx.sz = 0)) bx.cs.length).at_ C.n = p := by simp [Ctx.push]
  have hn : C.n = H.length := hh.n
  refine ⟨⟨by simp [Ctx.push, hn], fun i b hi => ?_, fun i j b hi hj ei ej => ?_, hh'.stable, fun i b' b a v hi ei hS ha => ?_⟩, ⟨e, h1, h2, h3, hl, fun b hb _ => hs b hb, fun i b hi ei hb => ?_, fun a v h k => by rw [show C.S a = some v from h] at k; cases k⟩⟩
  · by_cases hlt : i < H.length
    · rw [List.getElem?_append_left hlt] at hi
      refine (hh'.box i b hi).ext e (hat i (by omega)) ?_ ?_
      · simp only [Ctx.push]; rw [if_neg (by omega)]
      · simp only [Ctx.push]; rw [if_neg (by omega)]
    · rw [List.getElem?_append_right (by omega)] at hi
      have : i = C.n := by
        have := (List.getElem?_eq_some_iff.1 hi).1
        simp at this; omega
      subst this
      simp [hn] at hi
      subst hi
      exact hb
  · simp only [Ctx.push] at hi hj
    by_cases h1 : i = C.n
    · by_cases h2 : j = C.n
      · omega
      · subst h1
        rw [hnew] at ei
        rw [hat j (by omega)] at ej
        have := hh.lt (by omega) ej
        have := hp _ ei
        omega
    · by_cases h2 : j = C.n
      · subst h2
        rw [hnew] at ej
        rw [hat i (by omega)] at ei
        have := hh.lt (by omega) ei
        have := hp _ ej
        omega
      · rw [hat i (by omega)] at ei
        rw [hat j (by omega)] at ej
        exact hh.apart i j b (by omega) (by omega) ei ej
  · by_cases hlt : i < H.length
    · rw [List.getElem?_append_left hlt] at hi
      rw [hat i (by omega)] at ei ⊢
      exact hh.away i b' b a v hi ei hS ha
    · have : i = C.n := by
        rw [List.getElem?_append_right (by omega)] at hi
        have := (List.getElem?_eq_some_iff.1 hi).1
        simp at this; omega
      subst this
      rw [hnew] at ei
      have := hp _ ei
      have := block_lt_of_cell (hh.stable a v hS)
      omega
  · by_cases h1 : i = C.n
    · subst h1
      rw [hnew] at ei
      have := hp _ ei
      omega
    · simp only [Ctx.push] at hi
      rw [hat i (by omega)] at ei
      exact ⟨i, by omega, ei⟩

/-- One box at another place, or longer. -/
def Ctx.upd (C : Ctx) (h : Nat) (p : Place) (l : Nat) : Ctx :=
  { C with at_ := fun i => if i = h then p else C.at_ i, ln := fun i => if i = h then l else C.ln i }

theorem Ctx.upd_ext (C : Ctx) (h : Nat) (p : Place) (l : Nat) (hl : C.ln h ≤ l) (hp : (C.vr h = true ∨ l = C.ln h) → p = C.at_ h) : Ext C (C.upd h p l) where
  n := Nat.le_refl _
  S _ _ h := h
  vr _ _ := rfl
  ln i _ := by
    simp only [Ctx.upd]
    split
    · rename_i e; subst e; exact hl
    · exact Nat.le_refl _
  at_ i _ hc := by
    simp only [Ctx.upd] at hc ⊢
    split
    · rename_i e
      subst e
      simp at hc
      exact hp hc
    · rfl

theorem HRel.set {C : Ctx} {H : Heap} {w w' : World} (hh : HRel C H w) {h : Nat} {bx bx' : Box} {p : Place} (hx : H[h]? = some bx)
    (hs : ∀ b, b < w.heap.size → (C.at_ h).adr ≠ some b → w'.heap[b]? = w.heap[b]?) (hsz : w.heap.size ≤ w'.heap.size) (h1 : w'.os = w.os) (h2 : w'.tape = w.tape) (h3 : w'.output = w.output)
    (hl : bx.cs.length ≤ bx'.cs.length) (hz : decide (bx'.sz = 0) = decide (bx.sz = 0)) (hp : (bx.sz = 0 ∨ bx'.cs.length = bx.cs.length) → p = C.at_ h)
    (hadr : p.adr = (C.at_ h).adr ∨ ∃ b, p.adr = some b ∧ w.heap.size ≤ b) (hst : ∀ a v, C.S a = some v → w'.cell? a = some v)
    (haw : p.adr = (C.at_ h).adr → bx'.fz = bx.fz ∧ p.sz = (C.at_ h).sz) (hb : BoxOk (C.upd h p bx'.cs.length) w' h bx') :
    HRel (C.upd h p bx'.cs.length) (H.set h bx') w' ∧ Step C w (C.upd h p bx'.cs.length) w' := by
  have hn : C.n = H.length := hh.n
  have hlt := (List.getElem?_eq_some_iff.1 hx).1
  have hk := hh.box h bx hx
  have hln : C.ln h = bx.cs.length := hk.1.symm
  have hvr : C.vr h = decide (bx.sz = 0) := hk.2.1
  have e : Ext C (C.upd h p bx'.cs.length) := C.upd_ext h p _ (by omega) fun hc => hp (by rw [hvr, hln] at hc; simpa using hc)
  have hat : ∀ i, i ≠ h → (C.upd h p bx'.cs.length).at_ i = C.at_ i := fun i hi => by simp only [Ctx.upd]; rw [if_neg hi]
  have hath : (C.upd h p bx'.cs.length).at_ h = p := by simp [Ctx.upd]
  refine ⟨⟨by simp [Ctx.upd, hn], fun i b hi => ?_, fun i j b hi hj ei ej => ?_, hst, fun i b' b a v hi ei hS ha => ?_⟩, ⟨e, h1, h2, h3, hsz, fun b hb hne => hs b hb (hne h (by omega)), fun i b hi ei hb => ?_, fun a v h k => by rw [show C.S a = some v from h] at k; cases k⟩⟩
  · rw [List.getElem?_set] at hi
    by_cases hc : h = i
    · subst hc
      rw [if_pos rfl, if_pos hlt] at hi
      cases hi
      exact hb
    · rw [if_neg hc] at hi
      refine BoxOk.ext ((hh.box i b hi).world fun b' hb' => hs b' ((hh.box i b hi).lt hb') fun hne => hc (hh.apart h i b' (by omega) ?_ hne hb')) e (hat i fun q => hc q.symm) ?_ rfl
      · have := (List.getElem?_eq_some_iff.1 hi).1; omega
      · simp only [Ctx.upd]; rw [if_neg fun q => hc q.symm]
  · have hi' : i < C.n := hi
    have hj' : j < C.n := hj
    by_cases c1 : i = h
    · by_cases c2 : j = h
      · omega
      · subst c1
        rw [hath] at ei
        rw [hat j c2] at ej
        rcases hadr with hq | ⟨b', hq, hge⟩
        · exact hh.apart i j b hi' hj' (hq ▸ ei) ej
        · rw [hq] at ei; cases ei
          have := hh.lt hj' ej; omega
    · by_cases c2 : j = h
      · subst c2
        rw [hath] at ej
        rw [hat i c1] at ei
        rcases hadr with hq | ⟨b', hq, hge⟩
        · exact hh.apart i j b hi' hj' ei (hq ▸ ej)
        · rw [hq] at ej; cases ej
          have := hh.lt hi' ei; omega
      · rw [hat i c1] at ei
        rw [hat j c2] at ej
        exact hh.apart i j b hi' hj' ei ej
  · rw [List.getElem?_set] at hi
    by_cases hc : h = i
    · subst hc
      rw [if_pos rfl, if_pos hlt] at hi
      cases hi
      rw [hath] at ei ⊢
      rcases hadr with hq | ⟨b'', hq, hge⟩
      · obtain ⟨q1, q2⟩ := hh.away h bx b a v hx (hq ▸ ei) hS ha
        obtain ⟨q3, q4⟩ := haw hq
        refine ⟨by rw [q3]; exact q1, Nat.lt_of_lt_of_le q2 ?_⟩
        rw [q4]
        exact Nat.mul_le_mul_right _ hl
      · rw [hq] at ei; cases ei
        have := block_lt_of_cell (hh.stable a v hS); omega
    · rw [if_neg hc] at hi
      rw [hat i fun q => hc q.symm] at ei ⊢
      exact hh.away i b' b a v hi ei hS ha
  · have hi' : i < C.n := hi
    by_cases c1 : i = h
    · subst c1
      rw [hath] at ei
      rcases hadr with hq | ⟨b', hq, hge⟩
      · exact ⟨i, hi', hq ▸ ei⟩
      · rw [hq] at ei; cases ei; omega
    · rw [hat i c1] at ei
      exact ⟨i, hi', ei⟩

end Ev
end Go.Proofs.YthpfimildcbgmaaDoor
