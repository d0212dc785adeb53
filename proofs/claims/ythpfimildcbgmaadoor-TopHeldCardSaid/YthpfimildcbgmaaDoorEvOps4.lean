/-
The operations that leave the boxes alone: indexes, lengths, choices, literals.
-/
import Derived.Test.YthpfimildcbgmaaDoorEvOps3
namespace Go.Proofs.YthpfimildcbgmaaDoor
namespace Ev
set_option linter.all false
open Go

theorem pack_part {P : Program} {C : Ctx} {w : World} {t : TypeId} {cs : List V} {v : V} {ys : Array Value} {off : Nat} (h : pack P t ((cs.drop off).take (sizeT P t)) = some v) (h0 : 0 < sizeT P t) (hl : off + sizeT P t ≤ cs.length)
    (hr : Rels C cs ys.toList) : ∃ y, (part t ys off).run P w = .ok y w ∧ Rel C v y := by
  have hsub := Rels_take (sizeT P t) _ _ (Rels_drop off _ _ hr)
  have hlen : ((cs.drop off).take (sizeT P t)).length = sizeT P t := by simp; omega
  unfold pack at h
  split at h
  · rename_i ha
    rw [if_pos hlen] at h
    cases h
    refine ⟨.agg (ys.extract off (off + sizeT P t)), by simp [part, run_aggT ha, run_sizeT h0], ?_⟩
    simp only [Rel]
    refine ⟨_, rfl, ?_⟩
    rw [Array.toList_extract]
    simp only [List.extract_eq_take_drop, Nat.add_sub_cancel_left]
    exact hsub
  · rename_i ha
    split at h
    · rename_i v l hv
      cases h
      rw [hv] at hsub
      simp only [Rels] at hsub
      obtain ⟨y, t', e, hy, _⟩ := hsub
      have : ys[off]? = some y := by
        have : ((ys.toList.drop off).take (sizeT P t))[0]? = some y := by rw [e]; rfl
        rw [List.getElem?_take, if_pos h0, List.getElem?_drop] at this
        simpa using this
      exact ⟨y, by simp [part, run_aggT ha, this], hy⟩
    · cases h
  · cases h

theorem index_run {P : Program} {C : Ctx} {w : World} {t : TypeId} {x r : V} {ax : Value} {k : IntKind} {i : Int} (hx : Rel C x ax) (h : index P t x i = some r) :
    ∃ y, (Instr.index t ax (.int k i)).run P w = .ok y w ∧ Rel C r y := by
  unfold index at h
  split at h
  · rename_i s hu
    split at h
    · rename_i hc
      cases h
      simp only [Rel] at hx ⊢
      subst hx
      have hi : i.toNat < s.size := by omega
      have hg : s[i.toNat]? = some s[i.toNat] := getElem?_pos s i.toNat hi
      refine ⟨_, ?_, rfl⟩
      simp [Instr.index, asIntOf, run_underlying hu, hc.1, hg]
      have : s.data[i.toNat]? = some s[i.toNat] := by
        rw [Array.getElem?_eq_getElem (by simpa using hi)]; rfl
      simp [this]
    · cases h
  · rename_i n e cs hu
    split at h
    · rename_i hc
      simp only [Rel] at hx
      obtain ⟨ys, rfl, hx⟩ := hx
      have hi : i.toNat + 1 ≤ n := by omega
      have := Nat.mul_le_mul_right (sizeT P e) hi
      rw [Nat.add_mul, Nat.one_mul] at this
      obtain ⟨y, e1, e2⟩ := pack_part (w := w) h hc.2.2.1 (by omega) hx
      exact ⟨y, by simp [Instr.index, asIntOf, run_underlying hu, hc.1, hc.2.1, run_sizeT hc.2.2.1, e1], e2⟩
    · cases h
  · cases h

/-- A slice's elements, in the world. -/
theorem els_rel {C : Ctx} {H : Heap} {w : World} {x : V} {ax : Value} {es : List V} (hh : HRel C H w) (hx : Rel C x ax) (h : els H x = some es) :
    okEs es = true ∧ ∃ a c, ax = .slice a es.length c ∧ es.length ≤ c ∧ ((a = none ∧ es = []) ∨ ∃ b o sz, a = some ⟨b, o, none⟩ ∧ 0 < sz ∧ Els C w.cell? sz b es o ∧ (∀ n, szOk H n x = true → sz = n)) := by
  cases x <;> simp only [els, reduceCtorEq] at h
  case nils =>
    cases h
    simp only [Rel] at hx
    subst hx
    exact ⟨rfl, none, 0, rfl, Nat.le_refl _, .inl ⟨rfl, rfl⟩⟩
  case sl es' sz cap =>
    cases h
    simp only [Rel] at hx
    obtain ⟨h1, h2, h3, a, c, rfl, h4, h5, h6⟩ := hx
    refine ⟨h2, a, c, rfl, h4, ?_⟩
    rcases h6 with ⟨rfl, h6⟩ | ⟨b, o, rfl, h6⟩
    · exact .inl ⟨rfl, List.length_eq_zero_iff.1 (by omega)⟩
    · exact .inr ⟨b, o, sz, rfl, h3, Els.mono (.refl C) (fun i v _ hv => hh.stable _ _ hv) _ _ h6, fun n hn => by simpa [szOk] using hn⟩
  case row i tot =>
    simp only [Rel] at hx
    obtain ⟨h1, h2, h3, h4, h5⟩ := hx
    obtain ⟨bx, hb, k⟩ := hh.get h1
    rw [hb] at h
    simp only at h
    split at h
    · rename_i hc
      cases h
      obtain ⟨k1, k2, k3, k4, k5, k6, k7⟩ := k
      have e := h5 (by omega)
      subst e
      refine ⟨k4, _, _, by rw [hc.2], ?_⟩
      cases ha : (C.at_ i).adr with
      | none =>
        rw [ha] at k7
        refine ⟨by rw [k7.1]; simp, .inl ⟨rfl, k7.1⟩⟩
      | some b =>
        rw [ha] at k7
        obtain ⟨m1, m2, m3, m4, m5⟩ := k7
        rw [if_neg (by omega)] at k6
        refine ⟨m2, .inr ⟨b, 0, bx.sz, rfl, hc.1, by rw [← k6]; exact m1, fun n hn => by simpa [szOk, hb] using hn⟩⟩
    · cases h

theorem plain_get {C : Ctx} {es : List V} {sz : Nat} {cap : Bool} {ax : Value} (hx : Rel C (.sl es sz cap) ax) : plains es = true := by
  simp only [Rel] at hx
  exact hx.1

theorem plains_cells {v : V} (h : v.plain = true) : plains v.cells = true := by
  cases v <;> simp_all [V.cells, V.plain, plains]

theorem indexAddr_run {P : Program} {C : Ctx} {H : Heap} {w : World} {t : TypeId} {x r : V} {ax : Value} {k : IntKind} {i : Int} (hh : HRel C H w) (hx : Rel C x ax) (h : indexAddr P H t x i = some r) :
    ∃ y, (Instr.indexAt t ax (.int k i)).run P w = .ok y w ∧ Rel C r y := by
  unfold indexAddr at h
  split at h
  · rename_i e hu
    obtain ⟨es, he, h⟩ := Option.bind_eq_some_iff.1 h
    split at h
    · rename_i hc
      obtain ⟨r1, a, c, rfl, r3, r4⟩ := els_rel hh hx he
      rcases r4 with ⟨rfl, rfl⟩ | ⟨b, o, sz, rfl, r5, r6, r7⟩
      · simp at hc; omega
      have hs := r7 _ hc.2.2
      have h0 : 0 < sizeT P e := by omega
      have hrun : (Instr.indexAt t (.slice (some ⟨b, o, none⟩) es.length c) (.int k i)).run P w = .ok (.pointer (some ⟨b, o + i.toNat * sizeT P e, none⟩)) w := by
        simp [Instr.indexAt, asIntOf, run_underlying hu, hc.1, hc.2.1, run_sizeT h0, Addr.add_mid]
      refine ⟨_, hrun, ?_⟩
      split at h
      · rename_i kk tot hq
        cases h
        have hx' := hx
        simp only [Rel] at hx ⊢
        obtain ⟨h1, h2, h3, h4, h5⟩ := hx
        refine ⟨h1, h2, h3, ⟨_, rfl⟩, fun ht => ?_⟩
        have e1 := h5 ht
        obtain ⟨bx, hb, kx⟩ := hh.get h1
        obtain ⟨k1, k2, k3, k4, k5, k6, k7⟩ := kx
        cases ha : (C.at_ kk).adr with
        | none => rw [ha] at e1; simp [adrV] at e1
        | some b' =>
          rw [ha] at e1
          simp only [adrV, Option.map_some, Value.slice.injEq, Option.some.injEq, Addr.mk.injEq, and_true] at e1
          obtain ⟨⟨rfl, rfl⟩, _, _⟩ := e1
          refine ⟨b, rfl, ?_⟩
          have : (C.at_ kk).sz = sizeT P e := by
            have hsz := hc.2.2
            simp only [szOk, hb, beq_iff_eq] at hsz
            rw [k6, if_neg (by omega), hsz]
          rw [this, Nat.add_zero, Nat.zero_add]
      · obtain ⟨v, hv, rfl⟩ := Option.map_eq_some_iff.1 h
        obtain ⟨y, y1, y2⟩ := (Els_iff _ _).1 r6 _ _ hv
        have ho := (okEs_iff _).1 r1 _ _ hv
        rename_i hnr hq
        cases x <;> simp only [els, reduceCtorEq] at he
        case nils => cases he; simp at hv
        case row => exact absurd rfl (hnr _ _)
        case sl es' sz' cap =>
          cases he
          simp only [Rel] at hx ⊢
          obtain ⟨q1, q2, q3, a', c', e1, q4, q5, q6⟩ := hx
          rcases q6 with ⟨rfl, _⟩ | ⟨b', o', rfl, q6⟩
          · simp at e1
          · simp only [Value.slice.injEq, Option.some.injEq, Addr.mk.injEq, and_true, true_and] at e1
            obtain ⟨⟨rfl, rfl⟩, _⟩ := e1
            have hs' : sz' = sizeT P e := by simpa [szOk] using hc.2.2
            obtain ⟨y, y1, y2⟩ := (Els_iff _ _).1 q6 _ _ hv
            obtain ⟨z1, z2, z3, z4⟩ := y1.cells y2 ho
            exact ⟨plains_cells ((plains_iff _).1 q1 _ _ hv), ho, b, _, rfl, by rw [← hs']; exact cells_Els _ _ _ z2 z3 z4⟩
    · cases h
  · rename_i n e hu
    split at h
    · rename_i hc
      have hrun : ∀ a, (Instr.indexAt t (.pointer (some a)) (.int k i)).run P w = .ok (.pointer (some (a.add (i.toNat * sizeT P e)))) w := by
        intro a
        simp [Instr.indexAt, asIntOf, run_underlying hu, Instr.sureAddr, hc.1, hc.2.1, run_sizeT hc.2.2]
      split at h
      · cases h
        simp only [Rel] at hx ⊢
        obtain ⟨h1, h2, b, h3, rfl⟩ := hx
        exact ⟨_, hrun _, h1, h2, b, h3, by rw [Addr.add_mid]⟩
      · cases h
        simp only [Rel] at hx ⊢
        obtain ⟨h1, h2, h3, ⟨a, rfl⟩, h5⟩ := hx
        refine ⟨_, hrun _, h1, h2, h3, ⟨_, rfl⟩, fun ht => ?_⟩
        obtain ⟨b, hb, e⟩ := h5 ht
        cases e
        exact ⟨b, hb, by rw [Addr.add_mid, Nat.add_assoc]⟩
      · cases h
        simp only [Rel] at hx ⊢
        obtain ⟨h1, h2, b, o, rfl, h3⟩ := hx
        refine ⟨_, hrun _, plains_drop h1 _, ones_drop h2 _, b, _, by rw [Addr.add_mid], ?_⟩
        have := Els_drop (i.toNat * sizeT P e) _ _ h3
        rwa [Nat.mul_one] at this
      · cases h
    · cases h
  · cases h

theorem lenV_run {P : Program} {C : Ctx} {H : Heap} {w : World} {t ty : TypeId} {ts : Array TypeId} {x r : V} {ax : Value} (hh : HRel C H w) (hx : Rel C x ax) (ht : ts[0]? = some t) (h : lenV P H t x = some r) :
    ∃ y, (Builtin.len_ ts ty #[ax]).run P w = .ok y w ∧ Rel C r y := by
  unfold lenV at h
  split at h
  · rename_i s hu
    cases h
    simp only [Rel] at hx ⊢
    subst hx
    exact ⟨_, by simp [Builtin.len_, ht, run_underlying hu, goInt], rfl⟩
  · rename_i n e hu
    cases h
    simp only [Rel]
    exact ⟨_, by simp [Builtin.len_, ht, run_underlying hu, goInt], rfl⟩
  · rename_i e hu
    obtain ⟨es, he, rfl⟩ := Option.map_eq_some_iff.1 h
    obtain ⟨_, a, c, rfl, _⟩ := els_rel hh hx he
    simp only [Rel]
    exact ⟨_, by simp [Builtin.len_, ht, run_underlying hu, goInt], rfl⟩
  · cases h

theorem pick_rel {C : Ctx} {c : Bool} {x y : V} {ax ay : Value} (hx : Rel C x ax) (hy : Rel C y ay) : Rel C (pickV c x y) (if c then ax else ay) := by
  unfold pickV
  split
  · simp only [Rel] at hx hy ⊢
    subst hx hy
    cases c <;> rfl
  · cases c <;> simpa

theorem minmax_run {P : Program} {C : Ctx} {w : World} {f : V → V → Option V} {g : Value → Value → Sem Value}
    (hf : ∀ x y r ax ay, f x y = some r → Rel C x ax → Rel C y ay → ∃ z, (g ax ay).run P w = .ok z w ∧ Rel C r z) : ∀ (l : List V) (ys : List Value) (x r : V) (ax : Value), Rel C x ax → Rels C l ys → foldV f x l = some r →
      ∃ z, (ys.foldlM g ax).run P w = .ok z w ∧ Rel C r z
  | [], ys, x, r, ax, hx, hl, h => by
    simp only [Rels] at hl
    subst hl
    simp only [foldV, Option.some.injEq] at h
    subst h
    exact ⟨ax, rfl, hx⟩
  | v :: l, ys, x, r, ax, hx, hl, h => by
    simp only [Rels] at hl
    obtain ⟨y, t, rfl, h1, h2⟩ := hl
    simp only [foldV] at h
    obtain ⟨z, hz, h⟩ := Option.bind_eq_some_iff.1 h
    obtain ⟨u, e1, e2⟩ := hf _ _ _ _ _ hz hx h1
    obtain ⟨q, e3, e4⟩ := minmax_run hf l t z r u e2 h2 h
    exact ⟨q, by simp [List.foldlM_cons, e1, e3], e4⟩

theorem folds_run {P : Program} {C : Ctx} {w : World} {f : V → V → Option V} {g : Value → Value → Sem Value}
    (hf : ∀ x y r ax ay, f x y = some r → Rel C x ax → Rel C y ay → ∃ z, (g ax ay).run P w = .ok z w ∧ Rel C r z) (l : List V) (ys : Array Value) (r : V) (hl : Rels C l ys.toList) (h : foldsV f l = some r) :
      ∃ z, (match ys.toList with | [] => stuck "min: at least one argument expected" | x :: rest => rest.foldlM g x : Sem Value).run P w = .ok z w ∧ Rel C r z := by
  unfold foldsV at h
  split at h
  · simp only [Rels] at hl
    obtain ⟨y, t, e, h1, h2⟩ := hl
    rw [e]
    exact minmax_run hf _ _ _ _ _ (by simp only [Rel]; exact h1) h2 h
  · cases h

theorem min_run {P : Program} {C : Ctx} {w : World} (ts : Array TypeId) (ty : TypeId) (l : List V) (ys : Array Value) (r : V) (hl : Rels C l ys.toList) (h : foldsV minV l = some r) : ∃ z, (Builtin.min_ ts ty ys).run P w = .ok z w ∧ Rel C r z := by
  obtain ⟨z, e1, e2⟩ := folds_run (P := P) (w := w) (g := Builtin.min2) (fun x y r ax ay h hx hy => by
    unfold minV at h
    split at h
    · cases h
      simp only [Rel] at hx hy ⊢
      subst hx hy
      exact ⟨_, rfl, rfl⟩
    · cases h) l ys r hl h
  refine ⟨z, ?_, e2⟩
  rw [← e1]
  unfold Builtin.min_
  cases ys.toList <;> rfl

theorem max_run {P : Program} {C : Ctx} {w : World} (ts : Array TypeId) (ty : TypeId) (l : List V) (ys : Array Value) (r : V) (hl : Rels C l ys.toList) (h : foldsV maxV l = some r) : ∃ z, (Builtin.max_ ts ty ys).run P w = .ok z w ∧ Rel C r z := by
  obtain ⟨z, e1, e2⟩ := folds_run (P := P) (w := w) (g := Builtin.max2) (fun x y r ax ay h hx hy => by
    unfold maxV at h
    split at h
    · cases h
      simp only [Rel] at hx hy ⊢
      subst hx hy
      exact ⟨_, rfl, rfl⟩
    · cases h) l ys r hl h
  have : ys.toList ≠ [] := by
    intro e
    rw [e] at hl
    cases l <;> simp [Rels] at hl
    simp [foldsV] at h
  refine ⟨z, ?_, e2⟩
  rw [← e1]
  unfold Builtin.max_
  cases hy : ys.toList with
  | nil => exact absurd hy this
  | cons a b => rfl

end Ev
end Go.Proofs.YthpfimildcbgmaaDoor
