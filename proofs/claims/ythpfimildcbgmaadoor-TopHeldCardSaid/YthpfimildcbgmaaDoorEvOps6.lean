/-
The operations that leave the boxes alone, all together.
-/
import Derived.Test.YthpfimildcbgmaaDoorEvOps5
namespace Go.Proofs.YthpfimildcbgmaaDoor
namespace Ev
set_option linter.all false
open Go

theorem lit_fill {C : Ctx} {sz : Nat} : ∀ (ps : List (Nat × V)) (rs : List (Nat × Value)) (i : Nat) (A : Array Value), PRel C ps rs → (∀ k, k < ps.length → (ps.map (·.1))[k]? = some (i + k)) → (∀ v ∈ ps.map (·.2), ones v.cells = true ∧ v.cells.length = sz) →
    A.size = (i + ps.length) * sz → ∃ A', Instr.fill (fun i => some (i * sz, sz)) A rs = some A' ∧ A'.toList = A.toList.take (i * sz) ++ (rs.map (·.2)).flatMap fun y => y.cells.toList
  | [], rs, i, A, hp, _, _, hA => by
    simp only [PRel] at hp
    subst hp
    exact ⟨A, rfl, by rw [List.take_of_length_le (by simp at hA ⊢; omega)]; simp⟩
  | (j, v) :: ps, rs, i, A, hp, hi, ho, hA => by
    simp only [PRel] at hp
    obtain ⟨y, t, rfl, h1, h2⟩ := hp
    have hj : j = i := by simpa using hi 0 (by simp)
    subst hj
    obtain ⟨k1, k2⟩ := ho v (by simp)
    obtain ⟨m1, _⟩ := h1.cells k1
    have hl := Rels_length _ _ m1
    simp only [Array.length_toList] at hl
    have hmul : (j + (ps.length + 1)) * sz = j * sz + sz + ps.length * sz := by rw [Nat.add_mul, Nat.add_mul]; omega
    simp only [List.length_cons, hmul] at hA
    have hlay := foldl_lay y.cells.toList (j * sz) A (by simp; omega)
    have hA' : (y.cells.zipIdx.foldl (fun cs x => cs.setIfInBounds (j * sz + x.2) x.1) A).toList = layR A.toList (j * sz) y.cells.toList := by
      rw [← hlay, ← Array.foldl_toList, Array.toList_zipIdx]
    have hsz : (layR A.toList (j * sz) y.cells.toList).length = A.size := by
      have : ∀ (l : List Value) (n : Nat) (vs : List Value), (layR l n vs).length = l.length := by
        intro l
        induction l with
        | nil => intro n vs; cases n <;> simp [layR]
        | cons c r ih => intro n vs; cases n <;> cases vs <;> simp [layR, ih]
      rw [this]; simp
    obtain ⟨A', q1, q2⟩ := lit_fill ps t (j + 1) (y.cells.zipIdx.foldl (fun cs x => cs.setIfInBounds (j * sz + x.2) x.1) A) h2
      (fun k hk => by have := hi (k + 1) (by simp; omega); simpa [Nat.add_assoc, Nat.add_comm 1 k] using this) (fun u hu => ho u (by simp at hu ⊢; exact .inr hu))
      (by rw [← Array.length_toList, hA', hsz, hA, Nat.add_mul, Nat.add_mul]; omega)
    refine ⟨A', ?_, ?_⟩
    · simp only [Instr.fill]
      rw [if_neg (by simp; omega)]
      exact q1
    · rw [q2, hA']
      simp only [List.map_cons, List.flatMap_cons, ← List.append_assoc]
      congr 1
      apply List.ext_getElem?
      intro k
      have hy : y.cells.toList.length = sz := by simp; omega
      have hAl : A.toList.length = A.size := by simp
      rw [List.getElem?_take, List.getElem?_append]
      simp only [List.length_take, hAl]
      have e1 : min (j * sz) A.size = j * sz := by omega
      rw [e1, show (j + 1) * sz = j * sz + sz by rw [Nat.add_mul]; omega]
      by_cases hk : k < j * sz + sz
      · rw [if_pos hk, get_layR _ _ _ _ (by omega), hy]
        by_cases hk2 : j * sz ≤ k
        · rw [if_pos ⟨hk2, hk⟩, if_neg (by omega)]
        · rw [if_neg (by omega), if_pos (by omega), List.getElem?_take, if_pos (by omega)]
      · rw [if_neg hk, if_neg (by omega), List.getElem?_eq_none (by omega)]

theorem PRel_snd {C : Ctx} : ∀ (ps : List (Nat × V)) (rs : List (Nat × Value)), PRel C ps rs → Rels C (ps.map (·.2)) (rs.map (·.2))
  | [], rs, h => by simp only [PRel] at h; subst h; simp [Rels]
  | (i, v) :: r, rs, h => by
    simp only [PRel] at h
    obtain ⟨y, t, rfl, h1, h2⟩ := h
    simp only [List.map_cons, Rels]
    exact ⟨y, _, rfl, h1, PRel_snd r t h2⟩

theorem run_zeroV {P : Program} {t : TypeId} {z : V} (h : zeroV P t = some z) (w : World) : ∃ z0, (zeroValue t).run P w = .ok z0 w ∧ z = val z0 := by
  unfold zeroV at h
  obtain ⟨z0, hz, rfl⟩ := Option.map_eq_some_iff.1 h
  obtain ⟨i, hi, hz⟩ := Option.bind_eq_some_iff.1 hz
  exact ⟨z0, by simp [zeroValue, typeInfo, hi, hz], rfl⟩

theorem buildSlice_run {P : Program} {C : Ctx} {H : Heap} {w : World} (hh : HRel C H w) {ty e : TypeId} {n : Nat} {ps : List (Nat × V)} {rs : Array (Nat × Value)} {es : List V} {z : V} (hp : PRel C ps rs.toList) (hu : P.underlying ty = some (.slice e))
    (h0 : 0 < sizeT P e) (hn : n * sizeT P e ≤ 2 ^ 24) (hz : zeroV P e = some z) (h : litV P e 0 ps = some es) (hl : es.length = n) :
    Ans C H P w (Instr.buildSlice ty n rs) (.sl es (sizeT P e) true) := by
  obtain ⟨k1, k2, k3, k4⟩ := lit_ones ps 0 es h
  have hps : ps.length = n := by rw [← hl, k1]; simp
  obtain ⟨z0, hz0, rfl⟩ := run_zeroV hz w
  have hsize : ∀ A : Array Value, A.size = n * sizeT P e → ∃ A', Instr.fill (fun i => some (i * sizeT P e, sizeT P e)) A rs.toList = some A' ∧ A'.toList = (rs.toList.map (·.2)).flatMap fun y => y.cells.toList := by
    intro A hA
    obtain ⟨A', q1, q2⟩ := lit_fill ps rs.toList 0 A hp k2 (by rw [← k1]; exact k3) (by rw [hA, Nat.zero_add, hps])
    exact ⟨A', q1, by simpa using q2⟩
  have hrels := PRel_snd _ _ hp
  rw [← k1] at hrels
  have hfl := flat_length es _ hrels k3
  have hrun : ∃ A' : Array Value, (Instr.buildSlice ty n rs).run P w = .ok (.slice (some ⟨w.heap.size, 0, none⟩) n n) (w.alloc (.cells A' e)) ∧ A'.toList = (rs.toList.map (·.2)).flatMap fun y => y.cells.toList := by
    have hn' : ¬ (n * sizeT P e > 16777216) := by omega
    by_cases h00 : n * sizeT P e = 0
    · have hn0 : n = 0 := by
        rcases Nat.mul_eq_zero.1 h00 with h | h
        · exact h
        · omega
      subst hn0
      have hps0 : ps = [] := List.length_eq_zero_iff.1 hps
      subst hps0
      simp only [PRel] at hp
      obtain ⟨rs⟩ := rs
      simp only at hp
      subst hp
      exact ⟨(Array.range 0).map fun _ => default, by simp [Instr.buildSlice, run_underlying hu, run_sizeT h0, Instr.fill, newRow], by simp⟩
    · obtain ⟨A', q1, q2⟩ := hsize ((Array.range (n * sizeT P e)).map (fun i => z0.cells[i % z0.cells.size]!)) (by simp)
      refine ⟨A', ?_, q2⟩
      simp only [Instr.buildSlice, Sem.run_bind, run_underlying hu, Result.andThen_ok, run_sizeT h0, h00, if_false, Sem.run_ite, hz0, Sem.run_pure]
      rw [if_neg (by omega)]
      rw [q1]
      simp [newRow]
  obtain ⟨A', hrun, hA⟩ := hrun
  obtain ⟨C', c1, c2, c3⟩ := fresh_stable hh A' e
  refine ⟨_, _, C', hrun, ?_, c1, c2⟩
  simp only [Rel]
  refine ⟨k4, okEs_of k3, h0, some ⟨w.heap.size, 0, none⟩, n, by rw [hl], by omega, fun _ => hl.symm, .inr ⟨w.heap.size, 0, rfl, ?_⟩⟩
  refine Els_concat es _ 0 (Rels.mono c2.ext _ _ hrels) k3 fun j y hy => ?_
  rw [Nat.zero_add]
  exact c3 j y (by rw [← hA] at hy; simpa using hy)

theorem immBox_run {P : Program} {C : Ctx} {H : Heap} {w : World} (hh : HRel C H w) {ty : TypeId} {v : V} {x : Value} (hx : Rel C v x) (h1 : ones v.cells = true) (h2 : plains v.cells = true) :
    Ans C H P w (Instr.box ty x) (.iptr v.cells) := by
  obtain ⟨k1, k2⟩ := hx.cells h1
  obtain ⟨C', c1, c2, c3⟩ := fresh_stable hh x.cells ty
  refine ⟨.pointer (some ⟨w.heap.size, 0, none⟩), _, C', by simp [Instr.box, newVar, newRow], ?_, c1, c2⟩
  simp only [Rel]
  refine ⟨h2, h1, w.heap.size, 0, rfl, cells_Els _ _ _ (Rels.mono c2.ext _ _ k1) (fun j y hy => by rw [Nat.zero_add]; exact c3 j y (by simpa using hy)) fun y hy => ?_⟩
  obtain ⟨i, hi⟩ := List.mem_iff_getElem?.1 hy
  exact k2 i y (by simpa using hi)

theorem bound_run {P : Program} {C : Ctx} {w : World} {v : V} {x : Value} {d hi n : Nat} (code : BoundsCode) (hx : Rel C v x) (h : bound (some v) d hi = some n) : (Instr.sliceBound x hi code).run P w = .ok n w := by
  cases v <;> simp only [bound, reduceCtorEq] at h
  split at h
  · rename_i hc
    cases h
    simp only [Rel] at hx
    subst hx
    simp [Instr.sliceBound, asIntOf, hc]
  · cases h

/-- A slice expression's bounds. -/
theorem bounds_run {P : Program} {C : Ctx} {w : World} {E : Env} {t : List V} {a : Act} (hg : GRel E C) (ht : TRel C t a.tmps) (lo hi mx : Option Operand) (isS : Bool) (len cap m b l : Nat)
    (hm : bound (mx.map (arg E t)) cap cap = some m) (hb : bound (hi.map (arg E t)) len m = some b) (hl : bound (lo.map (arg E t)) 0 b = some l) (hmx : mx.isSome = true → hi.isSome = true) :
    (Instr.sliceBounds isS len cap (lo.map a.eval) (hi.map a.eval) (mx.map a.eval)).run P w = .ok (l, b, m) w := by
  have low : ∀ (code : BoundsCode) (m : Nat), (match (lo.map a.eval) with | some v => (do let l ← Instr.sliceBound v b code; pure (l, b, m)) | none => (do let l ← pure 0; pure (l, b, m)) : Sem (Nat × Nat × Nat)).run P w = .ok (l, b, m) w := by
    intro code m
    cases lo with
    | none => simp only [Option.map_none, bound, Option.some.injEq] at hl; subst hl; rfl
    | some x => simp only [Option.map_some, Sem.run_bind, bound_run code (arg_rel hg ht x) hl, Result.andThen_ok, Sem.run_pure]
  unfold Instr.sliceBounds
  cases mx with
  | none =>
    simp only [Option.map_none, bound, Option.some.injEq] at hm
    subst hm
    cases hi with
    | none =>
      simp only [Option.map_none, bound, Option.some.injEq] at hb
      subst hb
      simp only [Option.map_none, Sem.run_bind, Sem.run_pure, Result.andThen_ok, Option.isSome_none, Bool.false_eq_true, if_false]
      exact low _ _
    | some x =>
      have := bound_run (P := P) (w := w) (if isS then .sliceAcap else .sliceAlen) (arg_rel hg ht x) hb
      simp only [Option.map_none, Option.map_some, Sem.run_bind, Sem.run_pure, Result.andThen_ok, this, Option.isSome_none, Bool.false_eq_true, if_false]
      exact low _ _
  | some y =>
    have hy := bound_run (P := P) (w := w) (if isS then .slice3Acap else .slice3Alen) (arg_rel hg ht y) hm
    cases hi with
    | none => simp at hmx
    | some x =>
      have := bound_run (P := P) (w := w) .slice3B (arg_rel hg ht x) hb
      simp only [Option.map_some, Sem.run_bind, Result.andThen_ok, hy, this, Option.isSome_some, if_true]
      exact low _ _

theorem bytesV_rel {C : Ctx} : ∀ (es : List V) (ys : List Value) (l : List UInt8), Rels C es ys → bytesV es = some l → ∃ ns : List Int, ys = ns.map (.int .u8) ∧ l = ns.map fun n => UInt8.ofNat n.toNat
  | [], ys, l, h, hb => by
    simp only [Rels] at h
    simp only [bytesV, Option.some.injEq] at hb
    exact ⟨[], by simp [h], by simp [hb]⟩
  | v :: r, ys, l, h, hb => by
    simp only [Rels] at h
    obtain ⟨y, t, rfl, h1, h2⟩ := h
    rw [bytesV.eq_def] at hb
    split at hb
    · rename_i e; cases e
    · rename_i n r' e
      cases e
      obtain ⟨l', hl', rfl⟩ := Option.map_eq_some_iff.1 hb
      obtain ⟨ns, e1, e2⟩ := bytesV_rel r t l' h2 hl'
      simp only [Rel] at h1
      exact ⟨n :: ns, by simp [h1, e1], by simp [e2]⟩
    · cases hb

theorem flat_ints (k : IntKind) : ∀ ns : List Int, ((ns.map (Value.int k)).flatMap fun y => y.cells.toList) = ns.map (Value.int k)
  | [] => rfl
  | n :: ns => by rw [List.map_cons, List.flatMap_cons, flat_ints k ns]; rfl

theorem convStr_run {P : Program} {C : Ctx} {H : Heap} {w : World} (hh : HRel C H w) {src dst : TypeId} {x r : V} {ax : Value} (hx : Rel C x ax) (h : convStr P H src dst x = some r) :
    ∃ y, (convert src dst ax).run P w = .ok y w ∧ Rel C r y := by
  unfold convStr at h
  split at h
  · rename_i e hs hd
    split at h
    · rename_i he
      obtain ⟨l, hl, rfl⟩ := Option.map_eq_some_iff.1 h
      obtain ⟨es, he', hl⟩ := Option.bind_eq_some_iff.1 hl
      obtain ⟨r1, a, c, rfl, r3, r4⟩ := els_rel hh hx he'
      rw [run_convert_bytes_string w src dst e _ _ _ hs he hd]
      rcases r4 with ⟨rfl, rfl⟩ | ⟨b, o, sz, rfl, r5, r6, _⟩
      · simp only [bytesV, Option.some.injEq] at hl
        subst hl
        exact ⟨.string .empty, by simp [Conv.bytesToString], by simp only [Rel]; rfl⟩
      · obtain ⟨ys, q1, q2, q3⟩ := Els_flat es o r6 r1
        obtain ⟨ns, rfl, rfl⟩ := bytesV_rel es ys l q1 hl
        have hlen := Rels_length _ _ q1
        rw [flat_ints] at q3
        have hload := run_loadCells_list (P := P) w ⟨b, o, none⟩ (ns.map (Value.int .u8)) (fun j v hv => by rw [Addr.add_mid]; exact q3 j v hv)
        rw [← hlen] at hload
        refine ⟨_, run_bytesToString w _ es.length c ns hload, ?_⟩
        simp only [Rel]
        rw [foldl_push_bytes]
        simp [ByteArray.empty, ByteArray.emptyWithCapacity]
        rfl
    · cases h
  · cases h

end Ev
end Go.Proofs.YthpfimildcbgmaaDoor
