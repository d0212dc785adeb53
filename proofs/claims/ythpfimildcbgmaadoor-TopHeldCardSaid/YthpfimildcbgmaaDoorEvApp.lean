/-
append, as the interpreter tells it.
-/
import Derived.Test.YthpfimildcbgmaaDoorEvWrite
namespace Go.Proofs.YthpfimildcbgmaaDoor
namespace Ev
set_option linter.all false
open Go

theorem Rels_flat_append {C : Ctx} {es ys : List V} {os rs : List Value} {n : Nat} (h1 : Rels C es os) (h2 : Rels C ys rs) (k1 : ∀ v ∈ es, ones v.cells = true ∧ v.cells.length = n) (k2 : ∀ v ∈ ys, ones v.cells = true ∧ v.cells.length = n) :
    Rels C (es ++ ys) (os ++ rs) ∧ (∀ v ∈ es ++ ys, ones v.cells = true ∧ v.cells.length = n) := by
  refine ⟨Rels_append h1 h2, fun v hv => ?_⟩
  rcases List.mem_append.1 hv with h | h
  · exact k1 v h
  · exact k2 v h

theorem plains_append {a b : List V} (h : plains a = true) (k : plains b = true) : plains (a ++ b) = true := by
  rw [plains_iff] at *
  intro i v hv
  rw [List.getElem?_append] at hv
  split at hv
  · exact h _ _ hv
  · exact k _ _ hv

theorem grown_size {w : World} {need old : Nat} {e : TypeId} {z : Value} {olds news : List Value} {n : Nat} (hl : olds.length + news.length = need * n) (hz : z.cells.size = n) :
    (grownCap w need old e) * n ≤ (olds.toArray ++ (news.toArray ++ Builtin.zeroCells z.cells (grownCap w need old e - need))).size := by
  simp only [Array.size_append, List.size_toArray, size_zeroCells, hz]
  have := grownCap_ge w need old e
  rw [Nat.sub_mul]
  have := Nat.mul_le_mul_right n this
  omega

/-- A row that moves to a new block, grown. -/
theorem regrow {C : Ctx} {H : Heap} {w : World} (hh : HRel C H w) {i : Nat} {bx : Box} (hx : H[i]? = some bx) (h0 : 0 < bx.sz) {es : List V} {ys : List Value} {A : Array Value} (e : TypeId) {cap : Nat} (hlen : bx.cs.length < es.length)
    (hr : Rels C es ys) (ho : ∀ v ∈ es, ones v.cells = true ∧ v.cells.length = bx.sz) (hpl : bx.pl = true → plains es = true)
    (hA : ∀ (j : Nat) (y : Value), (ys.flatMap fun y => y.cells.toList)[j]? = some y → A[j]? = some y) (hc : es.length ≤ cap) (hs : cap * bx.sz ≤ A.size) :
    ∃ C', Rel C' (.row i es.length) (.slice (some ⟨w.heap.size, 0, none⟩) es.length cap) ∧ HRel C' (H.set i { bx with cs := es }) (w.alloc (.cells A e)) ∧ Step C w C' (w.alloc (.cells A e)) := by
  have hk := hh.box i bx hx
  have hlt : i < C.n := by have := (List.getElem?_eq_some_iff.1 hx).1; have := hh.n; omega
  have hvr : C.vr i = false := by rw [hk.2.1]; simp; omega
  have hadr : ∀ b, (C.at_ i).adr = some b → b < w.heap.size := fun b hb => hh.lt hlt hb
  have hne : (some w.heap.size) ≠ (C.at_ i).adr := fun h => by have := hadr _ h.symm; omega
  have hext : Ext C (C.upd i ⟨some w.heap.size, cap, bx.sz⟩ es.length) := C.upd_ext i _ _ (by rw [← hk.1]; omega) (by rw [hvr, ← hk.1]; intro h; simp at h; omega)
  have key := hh.set (w' := w.alloc (.cells A e)) (bx' := { bx with cs := es }) (p := ⟨some w.heap.size, cap, bx.sz⟩) hx (fun b hb _ => heap_alloc_lt w _ hb) (by simp) rfl rfl rfl (by simp; omega) rfl
    (by simp; omega) (.inr ⟨_, rfl, Nat.le_refl _⟩) (fun a v hv => by rw [cell_of_heap (w := w) (heap_alloc_lt w _ (block_lt_of_cell (hh.stable a v hv)))]; exact hh.stable a v hv) (fun h => absurd h hne) (by
      refine ⟨by simp [Ctx.upd], by simp [Ctx.upd, hvr]; omega, hpl, okEs_of ho, fun h => absurd h (by show ¬ bx.sz = 0; omega), by simp only [Ctx.upd, if_true]; rw [if_neg (by omega)], ?_⟩
      simp only [Ctx.upd, if_true]
      refine ⟨Els_concat _ _ _ (Rels.mono hext _ _ hr) ho (fun j y hy => ?_), hc, ⟨A, e, (0, 0), by simpa using heap_alloc_new w _, hs⟩, fun i _ => by simp, fun h => absurd h (by show ¬ bx.sz = 0; omega)⟩
      rw [Nat.zero_add]
      simpa using hA j y hy)
  refine ⟨_, ?_, key.1, key.2⟩
  simp only [Rel]
  refine ⟨by simpa [Ctx.upd] using hlt, by simp [Ctx.upd, hvr], by simp [Ctx.upd], ⟨_, _, _, rfl⟩, fun _ => by simp [Ctx.upd, adrV]⟩

theorem set_self {H : Heap} {i : Nat} {bx : Box} (hx : H[i]? = some bx) : H.set i bx = H := by
  apply List.ext_getElem?
  intro j
  rw [List.getElem?_set]
  split
  · rename_i h
    subst h
    have := (List.getElem?_eq_some_iff.1 hx).1
    rw [if_pos this, hx]
  · rfl

theorem appendV_run {P : Program} {C : Ctx} {H H' : Heap} {w : World} (hh : HRel C H w) {t t' ty : TypeId} {x y r : V} {ax ay : Value} {ys : List V} (hx : Rel C x ax) (hy : Rel C y ay)
    (hs : srcV P H (elemT P t) t' y = some ys) (h : appendV P H t x ys = some (r, H')) :
    ∃ z w' C', (Builtin.append_ #[t, t'] ty #[ax, ay]).run P w = .ok z w' ∧ Rel C' r z ∧ HRel C' H' w' ∧ Step C w C' w' := by
  unfold appendV at h
  split at h
  · rename_i e ht
    have hel : elemT P t = sizeT P e := by simp [elemT, ht]
    rw [hel] at hs
    obtain ⟨rs, q1, q2, q3⟩ := src_run hh hy hs
    split at h
    · rename_i hok
      obtain ⟨i_1, z, hi, hz, h0, hsz, hby, hzs⟩ := elOk_run hok
      rw [← hsz] at q3
      have hflat := flat_length ys rs q1 q2
      split at h
      · -- nil
        simp only [Rel] at hx
        subst hx
        split at h
        · rename_i hc
          cases h
          by_cases h00 : ys = []
          · subst h00
            obtain ⟨C', c1, c2, c3⟩ := nilRow (pl := plains []) hh h0
            exact ⟨_, _, C', run_append_none ht hi q3, c1, c2, c3⟩
          · have hpos : 0 < ys.length := List.length_pos_iff.2 h00
            have hrun := run_append_new (ty := ty) ht hi hz (olds := []) (base := none) (sLen := 0) (sCap := 0) q3 (fun w' _ => by simp [Builtin.firstCells]) (by omega) (by rw [Nat.zero_add, hby]; exact hc.1) (by have := hc.2; unfold maxLen47 at this; omega)
            rw [Nat.zero_add] at hrun
            obtain ⟨C', c1, c2, c3⟩ := newRows (cap := grownCap w ys.length 0 e) (pl := plains ys) (A := (#[] : Array Value) ++ ((rs.flatMap fun y => y.cells.toList).toArray ++ Builtin.zeroCells z.cells (grownCap w ys.length 0 e - ys.length))) hh.drew e h0 q1 q2 id
              (fun j y hy => by
                have hj := (List.getElem?_eq_some_iff.1 hy).1
                simp only [Array.empty_append]
                rw [Array.getElem?_append_left (by simpa using hj)]
                simpa using hy) (grownCap_ge w _ _ _) (by
                  have := grown_size (w := w) (need := ys.length) (old := 0) (e := e) (z := z) (olds := []) (news := rs.flatMap fun y => y.cells.toList) (n := sizeT P e) (by simpa using hflat) hzs
                  simpa using this)
            exact ⟨_, _, C', hrun, c1, c2, (Step.drew C w).trans c3⟩
        · cases h
      · -- a slice without room
        rename_i es sz
        split at h
        · rename_i hys
          cases h
          have hx' := hx
          simp only [Rel] at hx
          obtain ⟨g1, g2, g3, a, c, rfl, g4, g5, g6⟩ := hx
          refine ⟨_, w, C, ?_, hx', hh, .refl C w⟩
          have hce : c = es.length := g5 trivial
          rcases g6 with ⟨rfl, g6⟩ | ⟨b, o, rfl, g6⟩
          · have : es.length = 0 := by omega
            rw [this, g6]
            exact run_append_none ht hi (by simpa [List.flatMap_nil] using q3)
          · have hnews : rs = [] := by simpa [Rels] using q1
            subst hnews
            have hsz' : (sizeOf e).run P w = .ok i_1.size w := by simp [sizeOf, typeInfo, hi]
            have hc1 := q3.cells w rfl
            have hl1 := q3.len
            simp only [List.flatMap_nil, List.length_nil] at hc1 hl1
            rcases q3.ty with hd | ⟨e', hd⟩
            · simp [Builtin.append_, run_underlying ht, run_underlying hd, hsz', hl1, g4, hc1, storeCells]
            · simp [Builtin.append_, run_underlying ht, run_underlying hd, hsz', hl1, g4, hc1, storeCells]
        · rename_i v0 vr
          split at h
          · rename_i hc
            cases h
            simp only [Rel] at hx
            obtain ⟨g1, g2, g3, a, c, rfl, g4, g5, g6⟩ := hx
            have hce : c = es.length := g5 trivial
            obtain ⟨os, o1, o2, hold⟩ : ∃ os : List Value, Rels C es os ∧ (∀ v ∈ es, ones v.cells = true ∧ v.cells.length = sizeT P e) ∧ ∀ w', w'.heap = w.heap → (Builtin.firstCells i_1.size es.length (.slice a es.length c)).run P w' = .ok (os.flatMap fun y => y.cells.toList).toArray w' := by
              rcases g6 with ⟨rfl, g6⟩ | ⟨b, o, rfl, g6⟩
              · have : es = [] := List.length_eq_zero_iff.1 (by omega)
                subst this
                exact ⟨[], by simp [Rels], by simp, fun w' _ => by simp [Builtin.firstCells]⟩
              · rw [hc.1] at g6
                obtain ⟨os, k1, k2, k3⟩ := Els_flat es o g6 g2
                refine ⟨os, k1, k2, firstCells_at (fun j y hy => hh.stable _ _ (k3 j y hy)) ?_⟩
                rw [flat_length es os k1 k2, hsz]
            obtain ⟨m1, m2⟩ := Rels_flat_append o1 q1 o2 q2
            have hol := flat_length es os o1 o2
            have hrun := run_append_new (ty := ty) ht hi hz q3 hold (by simp; omega) (by rw [hby]; exact hc.2.1) (by have := hc.2.2; unfold maxLen47 at this; omega)
            obtain ⟨C', c1, c2, c3⟩ := newRows (cap := grownCap w (es.length + (v0 :: vr).length) c e) (pl := plains (v0 :: vr)) (A := (os.flatMap fun y => y.cells.toList).toArray ++ ((rs.flatMap fun y => y.cells.toList).toArray ++ Builtin.zeroCells z.cells (grownCap w (es.length + (v0 :: vr).length) c e - (es.length + (v0 :: vr).length)))) hh.drew e h0 m1 m2 (fun hp => plains_append g1 hp)
              (fun j y hy => by
                rw [List.flatMap_append] at hy
                have hj := (List.getElem?_eq_some_iff.1 hy).1
                rw [← Array.append_assoc, Array.getElem?_append_left (by simpa using hj)]
                simpa using hy) (by have := grownCap_ge w (es.length + (v0 :: vr).length) c e; simpa using this) (grown_size (by rw [hol, hflat, Nat.add_mul]) hzs)
            rw [List.length_append] at c1
            exact ⟨_, _, C', hrun, c1, c2, (Step.drew C w).trans c3⟩
          · cases h
      · -- a row of one's own
        rename_i i tot
        split at h
        · rename_i bx hbx
          split at h
          · rename_i hc
            cases h
            obtain ⟨c1, rfl, c3, c4, c5⟩ := hc
            have hk := hh.box i bx hbx
            obtain ⟨k1, k2, k3, k4, k5, k6, k7⟩ := hk
            have h0' : 0 < bx.sz := by omega
            have hx' := hx
            simp only [Rel] at hx
            obtain ⟨g1, g2, g3, g4, g5⟩ := hx
            have hax := g5 k1
            rw [if_neg (by omega)] at k6
            have hisz : i_1.size = bx.sz := by omega
            -- what lay there
            have hold : ∃ os : List Value, Rels C bx.cs os ∧ (∀ v ∈ bx.cs, ones v.cells = true ∧ v.cells.length = bx.sz) ∧ ∀ w', w'.heap = w.heap → (Builtin.firstCells i_1.size bx.cs.length (.slice (adrV (C.at_ i).adr) bx.cs.length (C.at_ i).cap)).run P w' = .ok (os.flatMap fun y => y.cells.toList).toArray w' := by
              cases ha : (C.at_ i).adr with
              | none =>
                rw [ha] at k7
                rw [k7.1]
                exact ⟨[], by simp [Rels], by simp, fun w' _ => by simp [Builtin.firstCells, adrV]⟩
              | some b =>
                rw [ha] at k7
                obtain ⟨a1, a2, _⟩ := k7
                rw [k6] at a1
                obtain ⟨os, m1, m2, m3⟩ := Els_flat bx.cs 0 a1 k4
                refine ⟨os, m1, m2, ?_⟩
                refine firstCells_at m3 ?_
                rw [flat_length bx.cs os m1 m2, hisz]
            obtain ⟨os, o1, o2, o3⟩ := hold
            rw [← c1] at q2
            obtain ⟨m1, m2⟩ := Rels_flat_append o1 q1 o2 q2
            have hflat' : (rs.flatMap fun y => y.cells.toList).length = ys.length * bx.sz := flat_length ys rs q1 q2
            have hol := flat_length bx.cs os o1 o2
            by_cases hfit : bx.cs.length + ys.length ≤ (C.at_ i).cap
            · -- there is room
              cases ha : (C.at_ i).adr with
              | none =>
                rw [ha] at k7 hax
                obtain ⟨a1, _, a3⟩ := k7
                rw [a1, a3] at hfit
                have : ys = [] := by simpa using hfit
                subst this
                rw [hax, a1, a3]
                refine ⟨_, w, C, run_append_none ht hi q3, ?_, ?_, .refl C w⟩
                · rw [hax, a1, a3] at hx'
                  simpa [adrV] using hx'
                · rw [List.append_nil, ← a1, set_self hbx]
                  exact hh
              | some b =>
                rw [ha] at k7 hax
                obtain ⟨a1, a2, ⟨cc, ce, cf, a3, a3'⟩, a4, a5⟩ := k7
                rw [k6] at a3' a4
                have hmul : (bx.cs.length + ys.length) * bx.sz ≤ (C.at_ i).cap * bx.sz := Nat.mul_le_mul_right _ hfit
                rw [Nat.add_mul] at hmul
                have hrun := run_append_in (ty := ty) (b := b) ht hi q3 hfit (fun j hj => by rw [hisz] at hj ⊢; exact cell_isSome a3 (by omega)) (fun j hj => by rw [hisz] at hj ⊢; exact a4 _ (by omega))
                rw [hisz] at hrun
                have hext : Ext C (C.upd i (C.at_ i) (bx.cs ++ ys).length) := C.upd_ext i _ _ (by rw [← k1]; simp) fun _ => rfl
                have key := hh.write (off := bx.cs.length * bx.sz) (bx' := { bx with cs := bx.cs ++ ys }) (vs := rs.flatMap fun y => y.cells.toList) hbx ha (fun _ => by rw [k6]; exact Nat.le_refl _) (by rw [hflat', k6]; exact hmul) rfl rfl (by simp) (by simpa using hfit) (fun h => by omega)
                  (fun hp => plains_append (k3 hp) (c3 hp)) (okEs_of m2) (fun h => by omega) (by
                    rw [k6]
                    refine Els_append (Els_range (.refl C) (by rw [k6] at a1; exact a1) fun j v _ hj hv => ?_) ?_
                    · rw [World.cell?_setCells_out _ _ _ _ _ (fun _ _ => .inl (by simpa using hj))]
                      exact hv
                    · refine Els_concat ys rs _ q1 q2 fun j y hy => ?_
                      have hj := (List.getElem?_eq_some_iff.1 hy).1
                      rw [Nat.zero_add, World.cell?_setCells_in _ _ _ _ (fun k hk => cell_isSome a3 (by omega)) j hj]
                      exact congrArg some (List.getElem?_eq_some_iff.1 hy).2)
                refine ⟨.slice (some ⟨b, 0, none⟩) (bx.cs.length + ys.length) (C.at_ i).cap, _, _, ?_, ?_, key.1, key.2⟩
                · rw [hax]
                  exact hrun
                · simp only [Rel]
                  refine ⟨by simpa [Ctx.upd] using g1, by simpa [Ctx.upd] using g2, by simp [Ctx.upd], ⟨_, _, _, rfl⟩, fun _ => by simp [Ctx.upd, adrV, ha]⟩
            · -- it moves
              have hcap : bx.cs.length ≤ (C.at_ i).cap := by
                cases ha : (C.at_ i).adr with
                | none => rw [ha] at k7; rw [k7.1]; exact Nat.zero_le _
                | some b => rw [ha] at k7; exact k7.2.1
              have hys : 0 < ys.length := by omega
              have hrun := run_append_new (ty := ty) ht hi hz q3 o3 (by omega) (by rw [hby]; exact c4) (by have := c5; unfold maxLen47 at this; omega)
              rw [← hax] at hrun
              obtain ⟨C', d1, d2, d3⟩ := regrow (A := (os.flatMap fun y => y.cells.toList).toArray ++ ((rs.flatMap fun y => y.cells.toList).toArray ++ Builtin.zeroCells z.cells (grownCap w (bx.cs.length + ys.length) (C.at_ i).cap e - (bx.cs.length + ys.length)))) (cap := grownCap w (bx.cs.length + ys.length) (C.at_ i).cap e) hh.drew hbx h0' e (by simp; omega) m1 m2 (fun hp => plains_append (k3 hp) (c3 hp)) (fun j y hy => by
                rw [List.flatMap_append] at hy
                have hj := (List.getElem?_eq_some_iff.1 hy).1
                rw [← Array.append_assoc, Array.getElem?_append_left (by simpa using hj)]
                simpa using hy) (by have := grownCap_ge w (bx.cs.length + ys.length) (C.at_ i).cap e; simpa using this) (by rw [c1]; exact grown_size (by rw [hol, hflat', Nat.add_mul, c1]) hzs)
              rw [List.length_append] at d1
              exact ⟨_, _, C', hrun, d1, d2, (Step.drew C w).trans d3⟩
          · cases h
        · cases h
      · cases h
    · cases h
  · cases h

end Ev
end Go.Proofs.YthpfimildcbgmaaDoor
