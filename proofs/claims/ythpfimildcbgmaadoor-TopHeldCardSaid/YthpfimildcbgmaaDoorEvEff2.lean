/-
store, alloc, box, makeSlice, slice.
-/
import Derived.Test.YthpfimildcbgmaaDoorEvApp
namespace Go.Proofs.YthpfimildcbgmaaDoor
namespace Ev
set_option linter.all false
open Go

theorem lengthR_lay : ∀ (l : List Value) (n : Nat) (vs : List Value), (layR l n vs).length = l.length := by
  intro l
  induction l with
  | nil => intro n vs; cases n <;> simp [layR]
  | cons c r ih => intro n vs; cases n <;> cases vs <;> simp [layR, ih]

/-- A written place: the cells that lie there then. -/
theorem CellsAt.write {w : World} {b o off : Nat} {ys xs : List Value} {c : Array Value} {e : TypeId} {fz : Nat × Nat} (h : CellsAt w.cell? b o ys) (hc : w.heap[b]? = some (.cells c e fz)) (hl : off + xs.length ≤ ys.length) (hs : o + off + xs.length ≤ c.size) :
    CellsAt (w.setCells b (o + off) xs).cell? b o (layR ys off xs) := by
  intro j y hj
  rw [get_layR _ _ _ _ hl] at hj
  by_cases h1 : off ≤ j ∧ j < off + xs.length
  · rw [if_pos h1] at hj
    have hlt := (List.getElem?_eq_some_iff.1 hj).1
    have hv := (List.getElem?_eq_some_iff.1 hj).2
    have := World.cell?_setCells_in b xs (o + off) w (fun k hk => cell_isSome hc (by omega)) (j - off) hlt
    rw [show o + off + (j - off) = o + j by omega] at this
    rw [this]
    exact congrArg some hv
  · rw [if_neg h1] at hj
    have hlt := (List.getElem?_eq_some_iff.1 hj).1
    rw [World.cell?_setCells_out _ _ _ _ _ (fun _ _ => by simp only; omega)]
    exact h j y hj

theorem layR_one {ys xs : List Value} {off : Nat} (h : ∀ y ∈ ys, y.oneCell' = true) (k : ∀ y ∈ xs, y.oneCell' = true) (hl : off + xs.length ≤ ys.length) : ∀ y ∈ layR ys off xs, y.oneCell' = true := by
  intro y hy
  obtain ⟨j, hj⟩ := List.mem_iff_getElem?.1 hy
  rw [get_layR _ _ _ _ hl] at hj
  split at hj
  · exact k y (List.mem_of_getElem? hj)
  · exact h y (List.mem_of_getElem? hj)

theorem ElemAt.of_cells {C : Ctx} {S : Addr → Option Value} {b o : Nat} {v : V} {zs : List Value} (hr : Rels C v.cells zs) (hc : CellsAt S b o zs) (h1 : ones v.cells = true) : ∃ y, ElemAt S v.cells.length b o y ∧ Rel C v y := by
  have hl := Rels_length _ _ hr
  cases v
  case agg cs =>
    refine ⟨.agg zs.toArray, .inl ⟨zs.toArray, rfl, by simpa [V.cells] using hl.symm, fun i u hu => hc i u (by simpa using hu)⟩, ?_⟩
    simp only [Rel]
    exact ⟨_, rfl, hr⟩
  all_goals
    simp only [V.cells, Rels] at hr
    obtain ⟨y, t, rfl, h2, rfl⟩ := hr
    exact ⟨y, .inr ⟨rfl, h2.oneCell (by simpa [ones, V.cells] using h1), by simpa using hc 0 y rfl⟩, h2⟩

theorem onElem_cells {e : V} {off : Nat} {cs : List V} (h1 : ones e.cells = true) (h2 : ones cs = true) (hl : off + cs.length ≤ e.cells.length) (h0 : 0 < cs.length) : (onElem e off cs).cells = lay e.cells off cs := by
  have one : ∀ x : V, ones [x] = true → x.cells = [x] := by
    intro x hx
    cases x <;> simp_all [V.cells, ones, V.one]
  cases e
  case agg xs => rfl
  all_goals
    simp only [V.cells, List.length_singleton] at hl
    obtain ⟨x, hx⟩ : ∃ x, cs = [x] := by
      match cs, h0, hl with
      | [x], _, _ => exact ⟨x, rfl⟩
      | _ :: _ :: _, _, hl => simp at hl; omega
    subst hx
    have : off = 0 := by simp at hl; omega
    subst this
    have hx := one _ h2
    rw [show lay _ 0 [x] = [x] from rfl]
    exact hx

theorem plain_cells {v : V} (h : plains v.cells = true) (h1 : ones v.cells = true) : v.plain = true := by
  cases v <;> simp_all [V.cells, plains, V.plain, ones, V.one]

theorem Els_set {C C' : Ctx} (e : Ext C C') {S S' : Addr → Option Value} {sz b k : Nat} {l : List V} {o : Nat} {v : V} (h : Els C S sz b l o) (hk : k < l.length) (hv : ∃ y, ElemAt S' sz b (o + k * sz) y ∧ Rel C' v y)
    (hs : ∀ i u, (i < o + k * sz ∨ o + k * sz + sz ≤ i) → S ⟨b, i, none⟩ = some u → S' ⟨b, i, none⟩ = some u) : Els C' S' sz b (l.set k v) o := by
  rw [Els_iff] at *
  intro j u hj
  rw [List.getElem?_set] at hj
  by_cases hjk : k = j
  · subst hjk
    rw [if_pos rfl, if_pos hk] at hj
    cases hj
    exact hv
  · rw [if_neg hjk] at hj
    obtain ⟨y, h1, h2⟩ := h j u hj
    refine ⟨y, h1.mono fun i z hi hz => hs _ z ?_ hz, Rel.mono e u y h2⟩
    rcases Nat.lt_or_ge j k with hlt | hge
    · have := Nat.mul_le_mul_right sz (show j + 1 ≤ k by omega)
      rw [Nat.add_mul] at this
      exact .inl (by omega)
    · have := Nat.mul_le_mul_right sz (show k + 1 ≤ j by omega)
      rw [Nat.add_mul] at this
      exact .inr (by omega)

theorem plains_set {l : List V} {k : Nat} {v : V} (h : plains l = true) (hv : v.plain = true) : plains (l.set k v) = true := by
  rw [plains_iff] at *
  intro j u hj
  rw [List.getElem?_set] at hj
  split at hj
  · split at hj
    · cases hj; exact hv
    · cases hj
  · exact h _ _ hj

theorem okEs_set {l : List V} {k : Nat} {v : V} (h : okEs l = true) (hv : ones v.cells = true) : okEs (l.set k v) = true := by
  rw [okEs_iff] at *
  intro j u hj
  rw [List.getElem?_set] at hj
  split at hj
  · split at hj
    · cases hj; exact hv
    · cases hj
  · exact h _ _ hj

theorem ones_okEs {l : List V} (h : ones l = true) : okEs l = true := (okEs_iff _).2 fun k v hv => by
  have := (ones_iff _).1 h k v hv
  cases v <;> simp_all [V.cells, ones, V.one]

theorem upd_self {C : Ctx} {h l : Nat} (hl : l = C.ln h) : C.upd h (C.at_ h) l = C := by
  unfold Ctx.upd
  cases C
  congr 1
  · funext i; simp only; split
    · rename_i e; subst e; rfl
    · rfl
  · funext i; simp only; split
    · rename_i e; subst e; exact hl
    · rfl

theorem storeV_at {P : Program} {C : Ctx} {H H' : Heap} {w : World} (hh : HRel C H w) {t : TypeId} {a v : V} {xa xv : Value} (ha : Rel C a xa) (hv : Rel C v xv) (h : storeV P H t a v = some H') :
    ∃ b o C', xa = .pointer (some ⟨b, o, none⟩) ∧ xv.cells.size = sizeT P t ∧ 0 < sizeT P t ∧ (∀ j, j < sizeT P t → (w.cell? ⟨b, o + j, none⟩).isSome = true) ∧ (∀ j, j < sizeT P t → w.frozen? ⟨b, o + j, none⟩ = false) ∧
      (Instr.storeAt t xa xv).run P w = .ok () (w.setCells b o xv.cells.toList) ∧ HRel C' H' (w.setCells b o xv.cells.toList) ∧ Step C w C' (w.setCells b o xv.cells.toList) := by
  unfold storeV at h
  split at h
  · rename_i hc
    obtain ⟨h0, hn, h1⟩ := hc
    obtain ⟨r1, r2⟩ := hv.cells h1
    have hln := Rels_length _ _ r1
    have r3 : ∀ z ∈ xv.cells.toList, z.oneCell' = true := fun z hz => by
      obtain ⟨i, hi⟩ := List.mem_iff_getElem?.1 hz
      exact r2 i z (by simpa using hi)
    have hsize : xv.cells.size = sizeT P t := by rw [← hn, hln]; simp
    have hrun : ∀ (b o : Nat), (∀ j, j < sizeT P t → (w.cell? ⟨b, o + j, none⟩).isSome = true) → (∀ j, j < sizeT P t → w.frozen? ⟨b, o + j, none⟩ = false) →
        (Instr.storeAt t (.pointer (some ⟨b, o, none⟩)) xv).run P w = .ok () (w.setCells b o xv.cells.toList) := by
      intro b o hc hf
      have hst := run_storeCells_cells (P := P) b o xv.cells.toList 0 w (fun j hj => by rw [Nat.add_zero]; exact hc j (by simpa [hsize] using hj)) (fun j hj => by rw [Nat.add_zero]; exact hf j (by simpa [hsize] using hj)) r3
      simp only [Nat.add_zero] at hst
      simp [Instr.storeAt, Instr.sureAddr, storeVar, run_sizeT h0, hsize, hst]
    split at h
    · -- a variable
      rename_i i off
      split at h
      · rename_i bx hbx
        split at h
        · rename_i hc
          cases h
          obtain ⟨z0, zf, zl⟩ := hc
          have hk := hh.box i bx hbx
          obtain ⟨k1, k2, k3, k4, k5, k6, k7⟩ := hk
          simp only [Rel] at ha
          obtain ⟨g1, g2, b, g3, rfl⟩ := ha
          rw [g3] at k7
          obtain ⟨a1, a2, ⟨c, e, fz, a3, a3'⟩, a4, a5⟩ := k7
          rw [if_pos z0] at k6
          rw [k6, Nat.mul_one] at a3'
          rw [k6] at a1 a4
          rw [a5 z0] at a3' a4
          have hq1 : ∀ j, j < sizeT P t → (w.cell? ⟨b, off + j, none⟩).isSome = true := fun j hj => cell_isSome a3 (by omega)
          have hq2 : ∀ j, j < sizeT P t → w.frozen? ⟨b, off + j, none⟩ = false := fun j hj => a4 _ (by omega)
          have hrun := hrun b off hq1 hq2
          obtain ⟨ys, y1, y2, y3⟩ := Els_cells bx.cs 0 a1 (k5 z0)
          have hyl := Rels_length _ _ y1
          have hxl : xv.cells.toList.length = sizeT P t := by simpa using hsize
          have hw := y2.write (off := off) (xs := xv.cells.toList) a3 (by rw [hxl]; omega) (by rw [hxl]; omega)
          rw [Nat.zero_add] at hw
          have h1' : ones (lay bx.cs off v.cells) = true := ones_lay _ _ _ (k5 z0) h1 (by omega)
          have key := hh.write (off := off) (bx' := ⟨lay bx.cs off v.cells, 0, false, false⟩) (vs := xv.cells.toList) hbx g3 (fun h => by rw [zf] at h; cases h) (by rw [hxl, k6, a5 z0]; omega) z0.symm zf.symm (by simp [length_lay]) (by simp [length_lay, a5 z0])
            (fun _ => by simp [length_lay]) (fun hp => by cases hp) (ones_okEs h1') (fun _ => h1') (by rw [k6]; exact cells_Els _ _ _ (Rels_lay _ _ _ _ _ y1 r1) hw (layR_one y3 r3 (by rw [hxl]; omega)))
          exact ⟨_, _, _, rfl, hsize, h0, hq1, hq2, hrun, key.1, key.2⟩
        · cases h
      · cases h
    · -- an element of a row
      rename_i i tot k off
      split at h
      · rename_i bx hbx
        split at h
        · rename_i hc
          obtain ⟨z0, rfl, zf, zp⟩ := hc
          split at h
          · rename_i el hel
            split at h
            · rename_i hfit
              cases h
              have hk := hh.box i bx hbx
              obtain ⟨k1, k2, k3, k4, k5, k6, k7⟩ := hk
              simp only [Rel] at ha
              obtain ⟨g1, g2, g3, g4, g5⟩ := ha
              obtain ⟨b, gb, rfl⟩ := g5 k1
              rw [gb] at k7
              obtain ⟨a1, a2, ⟨c, e, fz, a3, a3'⟩, a4, a5⟩ := k7
              rw [if_neg (by omega)] at k6
              rw [k6] at a1 a3' a4 ⊢
              have hkl := (List.getElem?_eq_some_iff.1 hel).1
              have hel1 : ones el.cells = true := (okEs_iff _).1 k4 k el hel
              obtain ⟨y, y1, y2⟩ := (Els_iff _ _).1 a1 k el hel
              rw [Nat.zero_add] at y1
              obtain ⟨m1, m2, m3, m4⟩ := y1.cells y2 hel1
              have hml := Rels_length _ _ m2
              have hxl : xv.cells.toList.length = sizeT P t := by simpa using hsize
              have hcap : (k + 1) * bx.sz ≤ (C.at_ i).cap * bx.sz := Nat.mul_le_mul_right _ (by omega)
              rw [Nat.add_mul] at hcap
              have hq1 : ∀ j, j < sizeT P t → (w.cell? ⟨b, k * bx.sz + off + j, none⟩).isSome = true := fun j hj => cell_isSome a3 (by omega)
              have hq2 : ∀ j, j < sizeT P t → w.frozen? ⟨b, k * bx.sz + off + j, none⟩ = false := fun j hj => a4 _ (by omega)
              have hrun := hrun b (k * bx.sz + off) hq1 hq2
              have hw := m3.write (off := off) (xs := xv.cells.toList) a3 (by rw [hxl]; omega) (by rw [hxl]; omega)
              have hoc := onElem_cells (off := off) hel1 h1 (by omega) (by omega)
              have h1' : ones (onElem el off v.cells).cells = true := by rw [hoc]; exact ones_lay _ _ _ hel1 h1 (by omega)
              obtain ⟨y', q1, q2⟩ := ElemAt.of_cells (v := onElem el off v.cells) (zs := layR y.cells.toList off xv.cells.toList) (by rw [hoc]; exact Rels_lay _ _ _ _ _ m2 r1) hw h1'
              rw [hoc, length_lay, m1] at q1
              have key := hh.write (off := k * bx.sz + off) (bx' := { bx with cs := bx.cs.set k (onElem el off v.cells) }) (vs := xv.cells.toList) hbx gb (fun h => by rw [zf] at h; cases h) (by rw [hxl, k6]; omega) rfl rfl (by simp) (by simpa using a2)
                (fun h => by omega) (fun hp => plains_set (k3 hp) (plain_cells (by rw [hoc]; exact plains_lay _ _ _ (plains_cells ((plains_iff _).1 (k3 hp) k el hel)) (zp hp) (by omega)) h1')) (okEs_set k4 h1') (fun h => by omega)
                (by
                  rw [k6]
                  refine Els_set (.refl C) a1 hkl ⟨y', by rw [Nat.zero_add]; exact q1, q2⟩ fun j u hj hu => ?_
                  rw [World.cell?_setCells_out _ _ _ _ _ (fun _ _ => by simp only [Nat.zero_add] at hj ⊢; omega)]
                  exact hu)
              exact ⟨_, _, _, rfl, hsize, h0, hq1, hq2, hrun, key.1, key.2⟩
            · cases h
          · cases h
        · cases h
      · cases h
    · cases h
  · cases h

theorem storeV_run {P : Program} {C : Ctx} {H H' : Heap} {w : World} (hh : HRel C H w) {t : TypeId} {a v : V} {xa xv : Value} (ha : Rel C a xa) (hv : Rel C v xv) (h : storeV P H t a v = some H') :
    ∃ w' C', (Instr.storeAt t xa xv).run P w = .ok () w' ∧ HRel C' H' w' ∧ Step C w C' w' := by
  obtain ⟨b, o, C', _, _, _, _, _, h1, h2, h3⟩ := storeV_at hh ha hv h
  exact ⟨_, C', h1, h2, h3⟩

theorem made_get {z : Value} {n : Nat} (k : Nat) (j : Nat) (y : Value) (hn : k * z.cells.size ≤ n) (h : ((List.replicate k z).flatMap fun y => y.cells.toList)[j]? = some y) : (madeCells z.cells n)[j]? = some y := by
  have key : ∀ (k j : Nat) (y : Value), ((List.replicate k z).flatMap fun y => y.cells.toList)[j]? = some y → j < k * z.cells.size ∧ z.cells[j % z.cells.size]! = y := by
    intro k
    induction k with
    | zero => intro j y h; simp at h
    | succ k ih =>
      intro j y h
      rw [List.replicate_succ, List.flatMap_cons] at h
      rw [Nat.add_mul, Nat.one_mul]
      have hz : z.cells.toList.length = z.cells.size := by simp
      by_cases hj : j < z.cells.size
      · rw [List.getElem?_append_left (by omega)] at h
        rw [Nat.mod_eq_of_lt hj]
        refine ⟨by omega, ?_⟩
        simp only [Array.getElem?_toList] at h
        simp [getElem!_def, h]
      · rw [List.getElem?_append_right (by omega), hz] at h
        obtain ⟨h1, h2⟩ := ih _ _ h
        have : j % z.cells.size = (j - z.cells.size) % z.cells.size := by
          rw [Nat.mod_eq_sub_mod (by omega)]
        exact ⟨by omega, by rw [this]; exact h2⟩
  obtain ⟨h1, h2⟩ := key k j y h
  have hj : j < n := by omega
  simp [madeCells, hj, h2]

theorem Rels_replicate {C : Ctx} {v : V} {x : Value} (h : Rel C v x) : ∀ n : Nat, Rels C (List.replicate n v) (List.replicate n x)
  | 0 => by simp [Rels]
  | n + 1 => by
    simp only [List.replicate_succ, Rels]
    exact ⟨_, _, rfl, h, Rels_replicate h n⟩

theorem plains_replicate {v : V} (h : v.plain = true) (n : Nat) : plains (List.replicate n v) = true := by
  rw [plains_iff]
  intro k u hk
  rw [List.getElem?_replicate] at hk
  split at hk <;> cases hk
  exact h

theorem makeSlice_run {P : Program} {C : Ctx} {H : Heap} {w : World} (hh : HRel C H w) {ty e : TypeId} {kl kc : IntKind} {n m : Int} {z : V} (ht : P.underlying ty = some (.slice e)) (hz : zeroV P e = some z)
    (h0 : 0 ≤ n) (hnm : n ≤ m) (hb : m * bytesT P e ≤ maxLen47) (hm : m ≤ maxLen47) (hs : 0 < sizeT P e) (hl : z.cells.length = sizeT P e) (h1 : ones z.cells = true) (hp : z.plain = true) :
    ∃ x w' C', (Instr.makeSlice ty (.int kl n) (.int kc m)).run P w = .ok x w' ∧ Rel C' (.row H.length n.toNat) x ∧ HRel C' (H ++ [⟨List.replicate n.toNat z, sizeT P e, true, false⟩]) w' ∧ Step C w C' w' := by
  unfold zeroV at hz
  obtain ⟨z0, hz0, rfl⟩ := Option.map_eq_some_iff.1 hz
  obtain ⟨i, hi, hz0⟩ := Option.bind_eq_some_iff.1 hz0
  have hsz : i.size = sizeT P e := by simp [sizeT, hi]
  have hby : i.bytes = bytesT P e := by simp [bytesT, hi]
  unfold maxLen47 at hb hm
  have hrun := run_make (P := P) w ty e i z0 ht hi hz0 kl kc n m h0 hnm (by rw [hby, Int.mul_comm]; omega) (by omega)
  rw [cells_val] at hl
  obtain ⟨C', c1, c2, c3⟩ := newRows (es := List.replicate n.toNat (val z0)) (ys := List.replicate n.toNat z0) (A := madeCells z0.cells (m.toNat * i.size)) (cap := m.toNat) (pl := true) hh e hs (Rels_replicate (val_rel C z0) _)
    (fun v hv => by rw [List.eq_of_mem_replicate hv]; exact ⟨h1, by rw [cells_val]; exact hl⟩) (fun _ => plains_replicate hp _) (fun j y hy => made_get _ j y (by rw [hl, hsz]; exact Nat.mul_le_mul_right _ (by omega)) hy) (by simp; omega) (by rw [size_madeCells, hsz]; exact Nat.le_refl _)
  rw [List.length_replicate] at c1
  exact ⟨_, _, C', hrun, c1, c2, c3⟩

theorem alloc_run {P : Program} {C : Ctx} {H : Heap} {w : World} (hh : HRel C H w) {ty : TypeId} {z : V} (hz : zeroV P ty = some z) (h1 : ones z.cells = true) :
    ∃ x w' C', (Instr.alloc ty true (.tuple #[])).run P w = .ok x w' ∧ Rel C' (.ptr H.length 0) x ∧ HRel C' (H ++ [⟨z.cells, 0, false, false⟩]) w' ∧ Step C w C' w' := by
  obtain ⟨z0, hz0, rfl⟩ := run_zeroV hz w
  obtain ⟨r1, r2⟩ := (val_rel C z0).cells h1
  obtain ⟨C', c1, c2, c3⟩ := newVars hh ty r1 h1 fun y hy => by
    obtain ⟨i, hi⟩ := List.mem_iff_getElem?.1 hy
    exact r2 i y (by simpa using hi)
  exact ⟨_, _, C', by simp [Instr.alloc, hz0, newVar, newRow], c1, c2, c3⟩

theorem box_run {P : Program} {C : Ctx} {H : Heap} {w : World} (hh : HRel C H w) {ty : TypeId} {v : V} {xv : Value} (hv : Rel C v xv) (h1 : ones v.cells = true) :
    ∃ x w' C', (Instr.box ty xv).run P w = .ok x w' ∧ Rel C' (.ptr H.length 0) x ∧ HRel C' (H ++ [⟨v.cells, 0, false, false⟩]) w' ∧ Step C w C' w' := by
  obtain ⟨r1, r2⟩ := hv.cells h1
  obtain ⟨C', c1, c2, c3⟩ := newVars hh ty r1 h1 fun y hy => by
    obtain ⟨i, hi⟩ := List.mem_iff_getElem?.1 hy
    exact r2 i y (by simpa using hi)
  exact ⟨_, _, C', by simp [Instr.box, newVar, newRow], c1, c2, c3⟩

def rowCells (w : World) (adr : Option Nat) (n : Nat) : Addr → Option Value := fun a => if adr = some a.block ∧ a.off < n then w.cell? a else none

theorem rowCells_some {w : World} {adr : Option Nat} {n : Nat} {a : Addr} {v : Value} (h : rowCells w adr n a = some v) : adr = some a.block ∧ a.off < n ∧ w.cell? a = some v := by
  unfold rowCells at h
  split at h
  · rename_i hc
    exact ⟨hc.1, hc.2, h⟩
  · cases h

/-- A row of one's own is told by its elements from now on. -/
theorem freezeRow {C : Ctx} {H : Heap} {w : World} (hh : HRel C H w) {i tot : Nat} {bx : Box} {x : Value} (hbx : H[i]? = some bx) (h0 : 0 < bx.sz) (hl : bx.cs.length = tot) (hx : Rel C (.row i tot) x) :
    ∃ C', HRel C' (H.set i { bx with fz := true }) w ∧ Step C w C' w ∧
      ((∃ b c, x = .slice (some ⟨b, 0, none⟩) tot c ∧ tot ≤ c ∧ Els C' C'.S bx.sz b bx.cs 0) ∨ (x = .slice none 0 0 ∧ bx.cs = [])) := by
  have hk := hh.box i bx hbx
  have hk' := hk
  obtain ⟨k1, k2, k3, k4, k5, k6, k7⟩ := hk
  simp only [Rel] at hx
  obtain ⟨g1, g2, g3, g4, g5⟩ := hx
  have hax := g5 (by omega)
  rw [if_neg (by omega)] at k6
  have hn := hh.n
  refine ⟨C.more (rowCells w (C.at_ i).adr (bx.cs.length * bx.sz)), ⟨by simp [Ctx.more, hn], fun j b hj => ?_, hh.apart, fun a v hv => ?_, fun j b' b a v hj ej hv ha => ?_⟩, (Step.refl C w).more _ (fun a v hv => .inr ⟨i, g1, (rowCells_some hv).1⟩), ?_⟩
  · rw [List.getElem?_set] at hj
    split at hj
    · rename_i e
      subst e
      split at hj
      · cases hj
        exact hk'.more _
      · cases hj
    · exact (hh.box j b hj).more _
  · simp only [Ctx.more] at hv
    cases hs : C.S a with
    | some u => rw [hs] at hv; simp at hv; subst hv; exact hh.stable a u hs
    | none =>
      rw [hs] at hv
      exact (rowCells_some (by simpa using hv)).2.2
  · have ej' : (C.at_ j).adr = some b := ej
    have hat : ∀ q, (C.more (rowCells w (C.at_ i).adr (bx.cs.length * bx.sz))).at_ q = C.at_ q := fun _ => rfl
    rw [hat]
    have hjl : j < H.length := by have := (List.getElem?_eq_some_iff.1 hj).1; simpa using this
    simp only [Ctx.more] at hv
    cases hs : C.S a with
    | some u =>
      rw [List.getElem?_set] at hj
      split at hj
      · rename_i e
        subst e
        split at hj
        · cases hj
          have := hh.away i bx b a u hbx ej' hs ha
          exact ⟨rfl, this.2⟩
        · exact absurd hjl (by assumption)
      · exact hh.away j b' b a u hj ej' hs ha
    | none =>
      rw [hs] at hv
      obtain ⟨q1, q2, q3⟩ := rowCells_some (show rowCells _ _ _ a = some v by simpa using hv)
      have : j = i := hh.apart j i b (by omega) g1 ej' (by rw [q1, ha])
      subst this
      rw [List.getElem?_set, if_pos rfl, if_pos hjl] at hj
      cases hj
      exact ⟨rfl, by rw [k6]; exact q2⟩
  · cases ha : (C.at_ i).adr with
    | none =>
      rw [ha] at k7 hax
      rw [k7.2.2] at hax
      have : tot = 0 := by rw [← hl, k7.1]; rfl
      subst this
      exact .inr ⟨hax, k7.1⟩
    | some b =>
      rw [ha] at k7 hax
      refine .inl ⟨b, _, hax, by rw [← hl]; exact k7.2.1, ?_⟩
      have a1 := k7.1
      rw [k6] at a1
      refine Els_range (C.more_ext _) a1 fun j v _ hj hv => ?_
      simp only [Ctx.more]
      cases hs : C.S ⟨b, j, none⟩ with
      | some u =>
        rw [hh.stable _ u hs] at hv
        simpa using hv
      | none =>
        simp only [Option.orElse_none, rowCells]
        rw [if_pos ⟨by trivial, by simpa using hj⟩]
        exact hv

theorem freeze_sl {C : Ctx} {H : Heap} {w : World} (hh : HRel C H w) {i tot : Nat} {bx : Box} {x : Value} (hbx : H[i]? = some bx) (h0 : 0 < bx.sz) (hl : bx.cs.length = tot) (hp : bx.pl = true) (hx : Rel C (.row i tot) x) :
    ∃ C', HRel C' (H.set i { bx with fz := true }) w ∧ Step C w C' w ∧ Rel C' (.sl bx.cs bx.sz false) x := by
  obtain ⟨C', c1, c2, c3⟩ := freezeRow hh hbx h0 hl hx
  obtain ⟨k1, k2, k3, k4, k5, k6, k7⟩ := hh.box i bx hbx
  refine ⟨C', c1, c2, ?_⟩
  simp only [Rel]
  refine ⟨k3 hp, k4, h0, ?_⟩
  rcases c3 with ⟨b, c, rfl, h1, h2⟩ | ⟨rfl, h1⟩
  · exact ⟨_, c, by rw [hl], by rw [hl]; exact h1, by simp, .inr ⟨b, 0, rfl, h2⟩⟩
  · rw [h1]
    exact ⟨none, 0, rfl, Nat.le_refl _, by simp, .inl ⟨rfl, rfl⟩⟩

theorem Els_take {C : Ctx} {S : Addr → Option Value} {sz b : Nat} : ∀ (n : Nat) (l : List V) (o : Nat), Els C S sz b l o → Els C S sz b (l.take n) o
  | 0, l, o, _ => by simp [Els]
  | n + 1, [], o, _ => by simp [Els]
  | n + 1, v :: l, o, h => by
    simp only [Els] at h
    simp only [List.take_succ_cons, Els]
    exact ⟨h.1, Els_take n l _ h.2⟩

theorem okEs_sub {l : List V} (h : okEs l = true) (off n : Nat) : okEs ((l.take n).drop off) = true := by
  rw [okEs_iff] at *
  intro k v hk
  rw [List.getElem?_drop, List.getElem?_take] at hk
  split at hk
  · exact h _ _ hk
  · cases hk

theorem plains_cut {l : List V} (h : plains l = true) (off n : Nat) : plains ((l.take n).drop off) = true := by
  rw [plains_iff] at *
  intro k v hk
  rw [List.getElem?_drop, List.getElem?_take] at hk
  split at hk
  · exact h _ _ hk
  · cases hk

theorem bound_le {x : Option V} {d hi n : Nat} (h : bound x d hi = some n) (hd : d ≤ hi) : n ≤ hi := by
  unfold bound at h
  split at h
  · cases h; exact hd
  · split at h
    · rename_i hc
      cases h
      omega
    · cases h
  · cases h

theorem bound_mono {x : Option V} {d hi hi' n : Nat} (h : bound x d hi = some n) (hx : x ≠ none) (hh : hi ≤ hi') : bound x d hi' = some n := by
  cases x with
  | none => exact absurd rfl hx
  | some v =>
    cases v <;> simp only [bound, reduceCtorEq] at h ⊢
    split at h
    · rename_i hc
      rw [if_pos ⟨hc.1, by omega⟩]
      exact h
    · cases h

theorem slice_sl {P : Program} {E : Env} {C : Ctx} {w : World} {t : List V} {a : Act} (hg : GRel E C) (ht : TRel C t a.tmps) {ty e : TypeId} (hu : P.underlying ty = some (.slice e)) (lo hi mx : Option Operand)
    {es : List V} {ad : Option Addr} {c m b l : Nat} {c0 : Bool} (h0 : 0 < sizeT P e) (hp : plains es = true) (hok : okEs es = true) (hc : es.length ≤ c) (hc0 : c0 = true → c = es.length)
    (hels : (ad = none ∧ c = 0) ∨ ∃ b' o, ad = some ⟨b', o, none⟩ ∧ Els C C.S (sizeT P e) b' es o)
    (hm : bound (mx.map (arg E t)) es.length es.length = some m) (hb : bound (hi.map (arg E t)) es.length m = some b) (hl : bound (lo.map (arg E t)) 0 b = some l) (hmx : mx.isSome = true → hi.isSome = true) :
    ∃ x, (Instr.sliceAt ty (.slice ad es.length c) (lo.map a.eval) (hi.map a.eval) (mx.map a.eval)).run P w = .ok x w ∧
      Rel C (.sl ((es.take b).drop l) (sizeT P e) (match mx.map (arg E t), hi.map (arg E t) with | some _, _ => m == b | none, none => c0 | none, some _ => false)) x := by
  have hml : m ≤ es.length := bound_le hm (Nat.le_refl _)
  obtain ⟨m', hm', hmm, hflag⟩ : ∃ m', bound (mx.map (arg E t)) c c = some m' ∧ bound (hi.map (arg E t)) es.length m' = some b ∧
      ((match mx.map (arg E t), hi.map (arg E t) with | some _, _ => m == b | none, none => c0 | none, some _ => false) = true → m' = b) := by
    cases mx with
    | none =>
      simp only [Option.map_none, bound, Option.some.injEq] at hm
      subst hm
      refine ⟨c, rfl, ?_, ?_⟩
      · cases hi with
        | none => exact hb
        | some x => exact bound_mono hb (by simp) hc
      · cases hi with
        | none =>
          simp only [Option.map_none, bound, Option.some.injEq] at hb
          subst hb
          exact hc0
        | some x => simp
    | some x =>
      refine ⟨m, ?_, hb, ?_⟩
      · have := bound_mono (hi' := c) hm (by simp) hc
        rw [← this]
        simp only [Option.map_some]
        cases arg E t x <;> rfl
      · simp
  have hbl : b ≤ es.length := by
    cases hi with
    | none =>
      simp only [Option.map_none, bound, Option.some.injEq] at hb
      omega
    | some x =>
      have : b ≤ m := by
        simp only [Option.map_some] at hb
        cases hv : arg E t x <;> rw [hv] at hb <;> simp only [bound, reduceCtorEq] at hb
        split at hb
        · cases hb; omega
        · cases hb
      omega
  have hlb : l ≤ b := bound_le hl (Nat.zero_le _)
  have hbm : b ≤ m' := by
    cases hi with
    | none =>
      have hmx0 : mx = none := by
        cases mx with
        | none => rfl
        | some y => simp at hmx
      subst hmx0
      simp only [Option.map_none, bound, Option.some.injEq] at hm' hb
      omega
    | some x =>
      simp only [Option.map_some] at hmm
      cases hv : arg E t x <;> rw [hv] at hmm <;> simp only [bound, reduceCtorEq] at hmm
      split at hmm
      · cases hmm; omega
      · cases hmm
  have hbd := bounds_run (P := P) (w := w) hg ht lo hi mx true es.length c m' b l hm' hmm hl hmx
  refine ⟨.slice (if m' = l then ad else ad.map (·.add (l * sizeT P e))) (b - l) (m' - l), ?_, ?_⟩
  · simp only [Instr.sliceAt, Instr.slice, Sem.run_bind, run_underlying hu, Result.andThen_ok, hbd, run_sizeT h0, Sem.run_pure]
  · simp only [Rel]
    have hlen : ((es.take b).drop l).length = b - l := by simp; omega
    refine ⟨plains_cut hp _ _, okEs_sub hok _ _, h0, _, m' - l, by rw [hlen], by rw [hlen]; omega, fun h => by rw [hlen, hflag h], ?_⟩
    rcases hels with ⟨rfl, rfl⟩ | ⟨b', o, rfl, h⟩
    · left
      have : m' = 0 := by
        have := bound_le hm' (Nat.le_refl _)
        omega
      subst this
      exact ⟨by split <;> rfl, by omega⟩
    · right
      by_cases hq : m' = l
      · rw [if_pos hq]
        have : (es.take b).drop l = [] := List.length_eq_zero_iff.1 (by rw [hlen]; omega)
        exact ⟨b', o, rfl, by rw [this]; simp [Els]⟩
      · rw [if_neg hq]
        exact ⟨b', o + l * sizeT P e, by simp [Addr.add_mid], Els_drop l _ _ (Els_take b _ _ h)⟩

theorem sliceV_run {P : Program} {E : Env} {C : Ctx} {H H' : Heap} {w : World} (hh : HRel C H w) {t : List V} {a : Act} (hg : GRel E C) (ht : TRel C t a.tmps) {ty : TypeId} {x r : V} {ax : Value} (lo hi mx : Option Operand) (hx : Rel C x ax) (hmx : mx.isSome = true → hi.isSome = true)
    (hns : P.underlying ty ≠ some .string) (h : sliceV P H ty x (lo.map (arg E t)) (hi.map (arg E t)) (mx.map (arg E t)) = some (r, H')) :
    ∃ z C', (Instr.sliceAt ty ax (lo.map a.eval) (hi.map a.eval) (mx.map a.eval)).run P w = .ok z w ∧ Rel C' r z ∧ HRel C' H' w ∧ Step C w C' w := by
  unfold sliceV at h
  split at h
  · rename_i hu
    exact absurd hu hns
  · rename_i e hu
    split at h
    case isFalse => cases h
    rename_i h0
    obtain ⟨m, hm, h⟩ := Option.bind_eq_some_iff.1 h
    obtain ⟨b, hb, h⟩ := Option.bind_eq_some_iff.1 h
    obtain ⟨l, hl, h⟩ := Option.bind_eq_some_iff.1 h
    cases h
    simp only [Rel] at hx
    subst hx
    have h1 := bound_le hm (Nat.le_refl _)
    have hm0 : m = 0 := by omega
    subst hm0
    have h2 := bound_le hb (Nat.le_refl _)
    have hb0 : b = 0 := by omega
    subst hb0
    have h3 := bound_le hl (Nat.le_refl _)
    have hl0 : l = 0 := by omega
    subst hl0
    have hbd := bounds_run (P := P) (w := w) hg ht lo hi mx true 0 0 0 0 0 hm hb hl hmx
    refine ⟨.slice none 0 0, C, ?_, by simp only [Rel], hh, .refl C w⟩
    simp only [Instr.sliceAt, Instr.slice, Sem.run_bind, run_underlying hu, Result.andThen_ok, hbd, run_sizeT h0, Sem.run_pure]
    simp
  · rename_i e es sz c hu
    split at h
    · rename_i hsz
      subst hsz
      obtain ⟨m, hm, h⟩ := Option.bind_eq_some_iff.1 h
      obtain ⟨b, hb, h⟩ := Option.bind_eq_some_iff.1 h
      obtain ⟨l, hl, h⟩ := Option.bind_eq_some_iff.1 h
      cases h
      simp only [Rel] at hx
      obtain ⟨g1, g2, g3, ad, c', rfl, g4, g5, g6⟩ := hx
      obtain ⟨z, z1, z2⟩ := slice_sl (w := w) hg ht hu lo hi mx g3 g1 g2 g4 g5 g6 hm hb hl hmx
      exact ⟨z, C, z1, z2, hh, .refl C w⟩
    · cases h
  · rename_i e i tot hu
    split at h
    · rename_i bx hbx
      split at h
      · rename_i hc
        obtain ⟨h0, rfl, hp, hsz⟩ := hc
        obtain ⟨m, hm, h⟩ := Option.bind_eq_some_iff.1 h
        obtain ⟨b, hb, h⟩ := Option.bind_eq_some_iff.1 h
        obtain ⟨l, hl, h⟩ := Option.bind_eq_some_iff.1 h
        cases h
        obtain ⟨C', c1, c2, c3⟩ := freeze_sl hh hbx h0 rfl hp hx
        simp only [Rel] at c3
        obtain ⟨g1, g2, g3, ad, c', rfl, g4, g5, g6⟩ := c3
        rw [hsz] at g6
        obtain ⟨z, z1, z2⟩ := slice_sl (w := w) (c0 := false) (hg.mono c2.ext) (ht.mono c2.ext) hu lo hi mx (by rw [← hsz]; exact h0) g1 g2 g4 (fun h => by cases h) g6 hm hb hl hmx
        refine ⟨z, C', z1, ?_, c1, c2⟩
        rw [hsz]
        refine cast ?_ z2
        congr 2
        cases mx <;> cases hi <;> simp
      · cases h
    · cases h
  · cases h

end Ev
end Go.Proofs.YthpfimildcbgmaaDoor
