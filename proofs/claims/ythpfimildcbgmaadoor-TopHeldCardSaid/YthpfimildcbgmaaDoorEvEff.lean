/-
The operations that write or make memory.
-/
import Derived.Test.YthpfimildcbgmaaDoorEvHeap
namespace Go.Proofs.YthpfimildcbgmaaDoor
namespace Ev
set_option linter.all false
open Go

theorem cells_val (z : Value) : (val z).cells.length = z.cells.size := by
  have := Rels_length _ _ (val_cells ⟨0, fun _ => ⟨none, 0, 0⟩, fun _ => false, fun _ => 0, fun _ => none⟩ z)
  simpa using this

theorem elOk_run {P : Program} {e : TypeId} (h : elOk P e = true) : ∃ i z, P.info? e = some i ∧ i.zero = some z ∧ 0 < sizeT P e ∧ i.size = sizeT P e ∧ i.bytes = bytesT P e ∧ z.cells.size = sizeT P e := by
  unfold elOk at h
  cases hz : zeroV P e with
  | none => rw [hz] at h; cases h
  | some z =>
    rw [hz] at h
    simp only [Bool.and_eq_true, decide_eq_true_eq, beq_iff_eq] at h
    unfold zeroV at hz
    obtain ⟨z0, hz0, rfl⟩ := Option.map_eq_some_iff.1 hz
    obtain ⟨i, hi, hz0⟩ := Option.bind_eq_some_iff.1 hz0
    rw [cells_val] at h
    exact ⟨i, z0, hi, hz0, h.1, by simp [sizeT, hi], by simp [bytesT, hi], h.2⟩

theorem heap_setCells (b : Nat) : ∀ (vs : List Value) (o : Nat) (w : World), (w.setCells b o vs).os = w.os ∧ (w.setCells b o vs).tape = w.tape ∧ (w.setCells b o vs).output = w.output ∧ (w.setCells b o vs).heap.size = w.heap.size ∧ (∀ k, k ≠ b → (w.setCells b o vs).heap[k]? = w.heap[k]?) ∧
    (∀ c e fz, w.heap[b]? = some (.cells c e fz) → ∃ c', (w.setCells b o vs).heap[b]? = some (.cells c' e fz) ∧ c'.size = c.size)
  | [], o, w => ⟨rfl, rfl, rfl, rfl, fun _ _ => rfl, fun c e fz h => ⟨c, h, rfl⟩⟩
  | v :: r, o, w => by
    obtain ⟨h1, h2, h3, h4, h5, h6⟩ := heap_setCells b r (o + 1) (w.setCell ⟨b, o, none⟩ v)
    refine ⟨h1.trans rfl, h2.trans rfl, h3.trans rfl, h4.trans (by simp), fun k hk => (h5 k hk).trans (heap_setCell_other w _ k v (by simpa using hk)), fun c e fz hc => ?_⟩
    obtain ⟨c', q1, q2⟩ := h6 (c.setIfInBounds o v) e fz (by simp [World.setCell, Array.getElem?_modify, hc])
    exact ⟨c', q1, by simpa using q2⟩

/-- A variable of one's own, in a new block. -/
theorem newVars {C : Ctx} {H : Heap} {w : World} (hh : HRel C H w) {cs : List V} {ys : Array Value} (e : TypeId) (hr : Rels C cs ys.toList) (h1 : ones cs = true) (ho : ∀ y ∈ ys.toList, y.oneCell' = true) :
    ∃ C', Rel C' (.ptr H.length 0) (.pointer (some ⟨w.heap.size, 0, none⟩)) ∧ HRel C' (H ++ [⟨cs, 0, false, false⟩]) (w.alloc (.cells ys e)) ∧ Step C w C' (w.alloc (.cells ys e)) := by
  have hl := Rels_length _ _ hr
  have hok : okEs cs = true := (okEs_iff _).2 fun k v hv => by
    have := (ones_iff _).1 h1 k v hv
    cases v <;> simp_all [V.cells, ones, V.one]
  have key := hh.push (p := ⟨some w.heap.size, cs.length, 1⟩) (bx := ⟨cs, 0, false, false⟩) (w' := w.alloc (.cells ys e)) (fun b hb => heap_alloc_lt w _ hb) (by simp) rfl rfl rfl (fun b hb => by cases hb; exact Nat.le_refl _) (by
    have hext := C.push_ext ⟨some w.heap.size, cs.length, 1⟩ true cs.length
    refine ⟨by simp [Ctx.push], by simp [Ctx.push], by simp, hok, fun _ => h1, by simp [Ctx.push], ?_⟩
    simp only [Ctx.push, if_true]
    refine ⟨cells_Els _ _ _ (Rels.mono hext _ _ hr) (fun j y hy => by rw [Nat.zero_add]; simpa using hy) ho, Nat.le_refl _, ⟨ys, e, (0, 0), by simpa using heap_alloc_new w _, by simp at hl ⊢; omega⟩, fun i _ => by simp, by simp⟩)
  refine ⟨_, ?_, key.1, key.2⟩
  simp only [Rel]
  have hn := hh.n
  refine ⟨by simp [Ctx.push, hn], by simp [Ctx.push, hn], w.heap.size, by simp [Ctx.push, hn], rfl⟩

/-- A row of one's own, in a new block. -/
theorem newRows {C : Ctx} {H : Heap} {w : World} (hh : HRel C H w) {es : List V} {ys : List Value} {A : Array Value} (e : TypeId) {sz cap : Nat} {pl : Bool} (h0 : 0 < sz) (hr : Rels C es ys) (ho : ∀ v ∈ es, ones v.cells = true ∧ v.cells.length = sz) (hpl : pl = true → plains es = true)
    (hA : ∀ (j : Nat) (y : Value), (ys.flatMap fun y => y.cells.toList)[j]? = some y → A[j]? = some y) (hc : es.length ≤ cap) (hs : cap * sz ≤ A.size) :
    ∃ C', Rel C' (.row H.length es.length) (.slice (some ⟨w.heap.size, 0, none⟩) es.length cap) ∧ HRel C' (H ++ [⟨es, sz, pl, false⟩]) (w.alloc (.cells A e)) ∧ Step C w C' (w.alloc (.cells A e)) := by
  have hd : decide (sz = 0) = false := by simp; omega
  have key := hh.push (p := ⟨some w.heap.size, cap, sz⟩) (bx := ⟨es, sz, pl, false⟩) (w' := w.alloc (.cells A e)) (fun b hb => heap_alloc_lt w _ hb) (by simp) rfl rfl rfl (fun b hb => by cases hb; exact Nat.le_refl _) (by
    have hext := C.push_ext ⟨some w.heap.size, cap, sz⟩ (decide (sz = 0)) es.length
    refine ⟨by simp [Ctx.push], by simp [Ctx.push], hpl, okEs_of ho, fun h => absurd h (by show ¬ sz = 0; omega), by simp only [Ctx.push, if_true]; rw [if_neg (by omega)], ?_⟩
    simp only [Ctx.push, if_true]
    refine ⟨Els_concat _ _ _ (Rels.mono hext _ _ hr) ho (fun j y hy => ?_), hc, ⟨A, e, (0, 0), by simpa using heap_alloc_new w _, hs⟩, fun i _ => by simp, fun h => absurd h (by show ¬ sz = 0; omega)⟩
    rw [Nat.zero_add]
    simpa using hA j y hy)
  refine ⟨_, ?_, key.1, key.2⟩
  simp only [Rel]
  have hn := hh.n
  refine ⟨by simp [Ctx.push, hn], by simp [Ctx.push, hn, hd], by simp [Ctx.push, hn], ⟨_, _, _, rfl⟩, fun _ => by simp [Ctx.push, hn, adrV]⟩

/-- A row that is nil yet. -/
theorem nilRow {C : Ctx} {H : Heap} {w : World} (hh : HRel C H w) {sz : Nat} {pl : Bool} (h0 : 0 < sz) :
    ∃ C', Rel C' (.row H.length 0) (.slice none 0 0) ∧ HRel C' (H ++ [⟨[], sz, pl, false⟩]) w ∧ Step C w C' w := by
  have hd : decide (sz = 0) = false := by simp; omega
  have key := hh.push (p := ⟨none, 0, sz⟩) (bx := ⟨[], sz, pl, false⟩) (w' := w) (fun _ _ => rfl) (Nat.le_refl _) rfl rfl rfl (fun b hb => by cases hb) (by
    refine ⟨by simp [Ctx.push], by simp [Ctx.push], fun _ => rfl, rfl, fun _ => rfl, by simp only [Ctx.push, if_true]; rw [if_neg (by omega)], ?_⟩
    simp only [Ctx.push, if_true]
    exact ⟨trivial, h0, trivial⟩)
  refine ⟨_, ?_, key.1, key.2⟩
  simp only [Rel]
  have hn := hh.n
  refine ⟨by simp [Ctx.push, hn], by simp [Ctx.push, hn, hd], by simp [Ctx.push, hn], ⟨_, _, _, rfl⟩, fun _ => by simp [Ctx.push, hn, adrV]⟩

/-! ### append -/

section append
variable {P : Program}

/-- What is appended: a slice's elements, a string's bytes. -/
structure Src (P : Program) (w : World) (size n : Nat) (t' : TypeId) (x : Value) (news : List Value) : Prop where
  ty : P.underlying t' = some .string ∨ ∃ e', P.underlying t' = some (.slice e')
  len : (Builtin.lenOf x).run P w = .ok n w
  cells : ∀ w', w'.heap = w.heap → (Builtin.firstCells size n x).run P w' = .ok news.toArray w'
  length : news.length = n * size
  one : ∀ v ∈ news, v.oneCell' = true

theorem run_append_in {w : World} {t t' ty e : TypeId} {i : TypeInfo} (ht : P.underlying t = some (.slice e)) (hi : P.info? e = some i) {b sLen sCap n : Nat} {x : Value} {news : List Value} (hs : Src P w i.size n t' x news)
    (hroom : sLen + n ≤ sCap) (hc : ∀ j, j < n * i.size → (w.cell? ⟨b, sLen * i.size + j, none⟩).isSome = true) (hf : ∀ j, j < n * i.size → w.frozen? ⟨b, sLen * i.size + j, none⟩ = false) :
    (Builtin.append_ #[t, t'] ty #[.slice (some ⟨b, 0, none⟩) sLen sCap, x]).run P w = .ok (.slice (some ⟨b, 0, none⟩) (sLen + n) sCap) (w.setCells b (sLen * i.size) news) := by
  have hst := run_storeCells_cells (P := P) b (sLen * i.size) news 0 w (fun j hj => by rw [Nat.add_zero]; exact hc j (by rw [← hs.length]; exact hj)) (fun j hj => by rw [Nat.add_zero]; exact hf j (by rw [← hs.length]; exact hj)) hs.one
  simp only [Nat.add_zero] at hst
  have hsz : (sizeOf e).run P w = .ok i.size w := by simp [sizeOf, typeInfo, hi]
  rcases hs.ty with hd | ⟨e', hd⟩
  · simp [Builtin.append_, run_underlying ht, run_underlying hd, hsz, hs.len, hroom, hs.cells w rfl, Addr.add_mid, hst]
  · simp [Builtin.append_, run_underlying ht, run_underlying hd, hsz, hs.len, hroom, hs.cells w rfl, Addr.add_mid, hst]

theorem run_append_none {w : World} {t t' ty e : TypeId} {i : TypeInfo} (ht : P.underlying t = some (.slice e)) (hi : P.info? e = some i) {x : Value} {news : List Value} (hs : Src P w i.size 0 t' x news) :
    (Builtin.append_ #[t, t'] ty #[.slice none 0 0, x]).run P w = .ok (.slice none 0 0) w := by
  have hsz : (sizeOf e).run P w = .ok i.size w := by simp [sizeOf, typeInfo, hi]
  rcases hs.ty with hd | ⟨e', hd⟩
  · simp [Builtin.append_, run_underlying ht, run_underlying hd, hsz, hs.len, hs.cells w rfl]
  · simp [Builtin.append_, run_underlying ht, run_underlying hd, hsz, hs.len, hs.cells w rfl]

theorem run_append_new {w : World} {t t' ty e : TypeId} {i : TypeInfo} {z : Value} (ht : P.underlying t = some (.slice e)) (hi : P.info? e = some i) (hz : i.zero = some z) {base : Option Addr} {sLen sCap n : Nat} {x : Value} {olds news : List Value} (hs : Src P w i.size n t' x news)
    (hold : ∀ w', w'.heap = w.heap → (Builtin.firstCells i.size sLen (.slice base sLen sCap)).run P w' = .ok olds.toArray w') (hg : sCap < sLen + n) (hb : (sLen + n) * i.bytes ≤ 140737488355328) (h63 : sLen + n ≤ 140737488355328) :
    (Builtin.append_ #[t, t'] ty #[.slice base sLen sCap, x]).run P w = .ok (.slice (some ⟨w.heap.size, 0, none⟩) (sLen + n) (grownCap w (sLen + n) sCap e))
      (w.drew.alloc (.cells (olds.toArray ++ (news.toArray ++ Builtin.zeroCells z.cells (grownCap w (sLen + n) sCap e - (sLen + n)))) e)) := by
  have hsz : (sizeOf e).run P w = .ok i.size w := by simp [sizeOf, typeInfo, hi]
  have hn : ¬ (sLen + n ≤ sCap) := by omega
  have h63' : ¬ (9223372036854775807 < ((sLen : Int) + (n : Int))) := by omega
  have hfit := growslice_fits hg hb
  have h48' : ¬ (281474976710656 < Builtin.nextslicecap (sLen + n) sCap * i.bytes) := by omega
  rcases hs.ty with hd | ⟨e', hd⟩
  · simp [Builtin.append_, run_underlying ht, run_underlying hd, hsz, hs.len, hn, h63', h48', typeInfo, zeroValue, hi, hz, Question.forced, hs.cells w.drew rfl, hold w.drew rfl, newRow, grownCap]
  · simp [Builtin.append_, run_underlying ht, run_underlying hd, hsz, hs.len, hn, h63', h48', typeInfo, zeroValue, hi, hz, Question.forced, hs.cells w.drew rfl, hold w.drew rfl, newRow, grownCap]

theorem cell_heap {w w' : World} (h : w'.heap = w.heap) (a : Addr) : w'.cell? a = w.cell? a := by simp [World.cell?, h]

theorem firstCells_at {w : World} {size n : Nat} {b o c len : Nat} {news : List Value} (hc : CellsAt w.cell? b o news) (hl : news.length = n * size) :
    ∀ w', w'.heap = w.heap → (Builtin.firstCells size n (.slice (some ⟨b, o, none⟩) len c)).run P w' = .ok news.toArray w' := by
  intro w' hw
  exact run_firstCells_some w' size n ⟨b, o, none⟩ len c news hl fun j v hv => by rw [Addr.add_mid, cell_heap hw]; exact hc j v hv

theorem strCells (s : ByteArray) : (s.data.map fun b => Value.int .u8 b.toNat) = (s.data.toList.map fun b => Value.int .u8 (b.toNat : Int)).toArray := by
  apply Array.ext'
  simp

theorem rels_bytes (C : Ctx) : ∀ l : List UInt8, Rels C (l.map byteV) (l.map fun b => Value.int .u8 (b.toNat : Int))
  | [] => by simp [Rels]
  | b :: r => by simp only [List.map_cons, Rels]; exact ⟨_, _, rfl, by simp only [byteV, Rel], rels_bytes C r⟩

theorem flat_map_ints (l : List UInt8) : ((l.map fun b => Value.int .u8 (b.toNat : Int)).flatMap fun y => y.cells.toList) = l.map fun b => Value.int .u8 (b.toNat : Int) := by
  induction l with
  | nil => rfl
  | cons b r ih => rw [List.map_cons, List.flatMap_cons, ih]; rfl

theorem src_run {C : Ctx} {H : Heap} {w : World} (hh : HRel C H w) {n : Nat} {t' : TypeId} {y : V} {ay : Value} {ys : List V} (hy : Rel C y ay) (h : srcV P H n t' y = some ys) :
    ∃ rs : List Value, Rels C ys rs ∧ (∀ v ∈ ys, ones v.cells = true ∧ v.cells.length = n) ∧ Src P w n ys.length t' ay (rs.flatMap fun y => y.cells.toList) := by
  unfold srcV at h
  split at h
  · rename_i s hd
    split at h
    · rename_i hn
      subst hn
      cases h
      simp only [Rel] at hy
      subst hy
      refine ⟨_, rels_bytes C s.data.toList, ?_, ⟨.inl hd, by simp [Builtin.lenOf], fun w' _ => ?_, ?_, ?_⟩⟩
      · intro v hv
        obtain ⟨b, _, rfl⟩ := List.mem_map.1 hv
        exact ⟨rfl, rfl⟩
      · rw [flat_map_ints, ← strCells]
        have : s.extract 0 (s.data.toList.map byteV).length = s := by
          simp
        simp only [Builtin.firstCells, this, Sem.run_pure]
      · rw [flat_map_ints]; simp
      · rw [flat_map_ints]
        intro v hv
        obtain ⟨b, _, rfl⟩ := List.mem_map.1 hv
        rfl
    · cases h
  · rename_i e hd
    split at h
    · rename_i hs
      obtain ⟨r1, a, c, rfl, r3, r4⟩ := els_rel hh hy h
      rcases r4 with ⟨rfl, rfl⟩ | ⟨b, o, sz, rfl, r5, r6, r7⟩
      · exact ⟨[], by simp [Rels], by simp, ⟨.inr ⟨_, hd⟩, by simp [Builtin.lenOf], fun w' _ => by simp [Builtin.firstCells], by simp, by simp⟩⟩
      · have := r7 n hs
        subst this
        obtain ⟨rs, q1, q2, q3⟩ := Els_flat ys o r6 r1
        exact ⟨rs, q1, q2, ⟨.inr ⟨_, hd⟩, by simp [Builtin.lenOf], firstCells_at q3 (flat_length ys rs q1 q2), flat_length ys rs q1 q2, flat_one ys rs q1 q2⟩⟩
    · cases h
  · cases h

end append
end Ev
end Go.Proofs.YthpfimildcbgmaaDoor
