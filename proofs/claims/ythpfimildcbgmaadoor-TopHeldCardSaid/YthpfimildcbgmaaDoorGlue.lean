/-
The told functions' contracts; the laid variable; how an argument that is a slice of whole numbers opens.
-/
import Derived.Test.YthpfimildcbgmaaDoorLore
import Derived.Test.YthpfimildcbgmaaDoorEvGlue
import Derived.Test.YthpfimildcbgmaaDoorEvAtom
import Derived.Test.YthpfimildcbgmaaDoorShelf
import Derived.Test.YthpfimildcbgmaaDoorRows
import Derived.Test.YthpfimildcbgmaaDoorCards
import Derived.Test.YthpfimildcbgmaaDoorTie
import Derived.LaidMore
import Derived.Stop.Joined
import Derived.Stop.LaidErr
import Derived.SevenTiedAt
import Derived.Lib.LaidTab
import Derived.ChangeArms
namespace Go.Proofs.YthpfimildcbgmaaDoor
open Go Ev
set_option linter.all false
set_option maxHeartbeats 4000000
set_option maxRecDepth 5000
attribute [local irreducible] codeL condL loopL callL callV evOps evDraw rdK effK wayK oneK wayD oneD rdD effD chks chkB res

open Go Ev Go.RowKit Go.ChangeShapes Go.WideShapes
set_option linter.all false

theorem own : ownKnob Tryd.prog.godebug = none := by kernel_rfl
theorem laidOut : laidOutB Tryd.prog = true := by kernel_rfl
theorem gUse : Tryd.prog.globalNamed "abacus/cells.uses" = some 0 := by kernel_rfl
section
variable {H : Type} {enc : TypeId × Value → H} {P : Program} {w : World} {base : Nat} {sp : Nat → Bool} {held : Bool}
theorem cell_bool {t : TypeId} {fuel : Nat} {cs : List Value} {o : Nat} {z : Bool} {q : List MemPlace} (ht : P.underlying t = some .bool) (h : DataW.trod enc P w base sp held fuel t ((cs.drop o).take 1) = some (.lit (.bool z), q)) : cs[o]? = some (.bool z) := by
  obtain ⟨n, hc, hx⟩ := DataW.trod_bool ht h
  simp only [Prod.mk.injEq, DataW.lit.injEq, Lit.bool.injEq] at hx
  obtain ⟨rfl, _⟩ := hx
  have := congrArg (·[0]?) hc
  simpa [List.getElem?_take, List.getElem?_drop] using this
theorem arr_at {fuel : Nat} {t e : TypeId} {n : Nat} {cs : List Value} {ds : List (DataW H)} {p : List MemPlace} (ht : P.underlying t = some (.array n e))
    (h : DataW.trod enc P w base sp held fuel t cs = some (.agg ds, p)) (i : Nat) (hi : i < n) :
    ∃ fuel' d q, ds[i]? = some d ∧ DataW.trod enc P w base sp held fuel' e ((cs.drop (i * P.cellsOf e)).take (P.cellsOf e)) = some (d, q) := by
  cases fuel with
  | zero => simp [DataW.trod] at h
  | succ fuel =>
    simp only [DataW.trod, ht] at h
    split at h
    · obtain ⟨xs, hm, hx⟩ := Option.map_eq_some_iff.1 h
      obtain ⟨b, hb, hf⟩ := Lib.mapM_at hm i i (by simp [hi])
      have hds : xs.map (·.1) = ds := by
        have := congrArg Prod.fst hx
        simpa using this
      exact ⟨fuel, b.1, b.2, by rw [← hds]; simp [hb], hf⟩
    · cases h
end
theorem grel4 {W : World} (h : laidMetH Tryd.prog [("math/bits.deBruijn32tab", Rows.laid_math_bits_deBruijn32tab), ("math/bits.deBruijn64tab", Rows.laid_math_bits_deBruijn64tab), ("internal/strconv.uint64pow10", Rows.laid_internal_strconv_uint64pow10), ("abacus/cells.uses", Rows.laid_abacus_cells_uses)] W) : GRel lore.toEnv (C0 W) := by
  rw [MakeChecks.laidMetH_plain _ _ _ (by kernel_rfl)] at h
  have h2 := h.tail.tail.tail
  obtain ⟨ps, ⟨g', t', cs, fuel, p, q, hg', ht', hvar, hd, _, _⟩, _⟩ := h2
  obtain rfl := Option.some.inj (gUse.symm.trans hg')
  obtain rfl := Option.some.inj ((show (Tryd.prog.globals[0]?).map (·.type) = some 216 by kernel_rfl).symm.trans ht')
  have c215 : Tryd.prog.cellsOf 215 = 2 := by kernel_rfl
  have c4 : Tryd.prog.cellsOf 4 = 1 := by kernel_rfl
  have key : ∀ i z1 z2, i < 6 → ([.agg [.lit (.bool false), .lit (.bool false)], .agg [.lit (.bool false), .lit (.bool false)], .agg [.lit (.bool false), .lit (.bool true)], .agg [.lit (.bool false), .lit (.bool true)], .agg [.lit (.bool false), .lit (.bool true)], .agg [.lit (.bool true), .lit (.bool true)]] : List (DataW Unit))[i]? = some (.agg [.lit (.bool z1), .lit (.bool z2)]) →
      W.cell? ⟨0, i * 2, none⟩ = some (.bool z1) ∧ W.cell? ⟨0, i * 2 + 1, none⟩ = some (.bool z2) := by
    intro i z1 z2 hi hz
    obtain ⟨f', d, q', hdi, he⟩ := arr_at Tryd.underlying216 hd i hi
    rw [hz] at hdi
    cases hdi
    rw [c215] at he
    obtain ⟨f1, d1, q1, e1, k1⟩ := arr_at Tryd.underlying215 he 0 (by decide)
    obtain ⟨f2, d2, q2, e2, k2⟩ := arr_at Tryd.underlying215 he 1 (by decide)
    cases e1
    cases e2
    rw [c4] at k1 k2
    have k1 := cell_bool Tryd.underlying4 k1
    have k2 := cell_bool Tryd.underlying4 k2
    simp only [List.getElem?_take, List.getElem?_drop] at k1 k2
    refine ⟨?_, ?_⟩
    · rw [World.var?_cell hg' hvar (i * 2), ← Array.getElem?_toList]; simpa using k1
    · rw [World.var?_cell hg' hvar (i * 2 + 1), ← Array.getElem?_toList]; simpa using k2
  obtain ⟨a0, a1⟩ := key 0 false false (by decide) rfl
  obtain ⟨b0, b1⟩ := key 1 false false (by decide) rfl
  obtain ⟨c0, c1⟩ := key 2 false true (by decide) rfl
  obtain ⟨d0, d1⟩ := key 3 false true (by decide) rfl
  obtain ⟨e0, e1⟩ := key 4 false true (by decide) rfl
  obtain ⟨f0, f1⟩ := key 5 true true (by decide) rfl
  intro g gs hg
  have hgg : g = 0 ∧ gs = [.bool false, .bool false, .bool false, .bool false, .bool false, .bool true, .bool false, .bool true, .bool false, .bool true, .bool true, .bool true] := by
    simp only [lore, globOf] at hg
    split at hg
    · exact ⟨rfl, (Option.some.inj hg).symm⟩
    · cases hg
  obtain ⟨rfl, rfl⟩ := hgg
  refine ⟨rfl, rfl, ?_⟩
  have one : ∀ (z : Bool) (o : Nat), W.cell? ⟨0, o, none⟩ = some (.bool z) → ∃ y, ElemAt (C0 W).S 1 0 o y ∧ Rel (C0 W) (V.bool z) y := fun z o h => ⟨.bool z, .inr ⟨rfl, rfl, h⟩, by simp only [Rel]⟩
  simp only [Els]
  exact ⟨one _ _ a0, one _ _ a1, one _ _ b0, one _ _ b1, one _ _ c0, one _ _ c1, one _ _ d0, one _ _ d1, one _ _ e0, one _ _ e1, one _ _ f0, one _ _ f1, trivial⟩
theorem lore_ok (W : World) : LoreOk lore W.heap where
  mixed := follows_mixed
  fns := okf_fns
  ext := fun g k hk l v C H H' w args hv _ hi hh ha => by
    have hg : (g = 87 ∧ k = pureX len64X) ∨ (∃ a : Atom, k = atomX Tryd.prog 37 a ∧ AtomAt Tryd.prog g a) := by
      simp only [lore, extOf] at hk
      split at hk
      · exact .inl ⟨rfl, (Option.some.inj hk).symm⟩
      · exact .inr ⟨.add, (Option.some.inj hk).symm, ⟨_, Tryd.func110, by kernel_rfl, by kernel_rfl, by kernel_rfl, by rfl⟩⟩
      · exact .inr ⟨.load, (Option.some.inj hk).symm, ⟨_, Tryd.func111, by kernel_rfl, by kernel_rfl, by kernel_rfl, by rfl⟩⟩
      · exact .inr ⟨.store, (Option.some.inj hk).symm, ⟨_, Tryd.func112, by kernel_rfl, by kernel_rfl, by kernel_rfl, by rfl⟩⟩
      · exact .inr ⟨.swap, (Option.some.inj hk).symm, ⟨_, Tryd.func149, by kernel_rfl, by kernel_rfl, by kernel_rfl, by rfl⟩⟩
      · exact .inr ⟨.cas, (Option.some.inj hk).symm, ⟨_, Tryd.func150, by kernel_rfl, by kernel_rfl, by kernel_rfl, by rfl⟩⟩
      · cases hk
    rcases hg with ⟨rfl, rfl⟩ | ⟨a, rfl, hA⟩
    · obtain ⟨args⟩ := args
      obtain ⟨v', hv1, e⟩ := Option.map_eq_some_iff.1 (show (len64X l).map (fun v => (v, H)) = some (v, H') from hv)
      cases e
      unfold len64X at hv1
      split at hv1
      · rename_i x
        split at hv1
        · rename_i hn
          cases hv1
          simp only [Rels, Rel] at ha
          obtain ⟨y, t, rfl, rfl, rfl⟩ := ha
          refine .inr ⟨?_, (Tryd.bits_Len64 x w hn.1 hn.2).mono ?_⟩
          · show (callFunc 87 _).run Tryd.prog w = _
            simp [callFunc, Tryd.func87, Tryd.f87]
          · rintro e w' ⟨rfl, rfl⟩
            exact ⟨C, by simp only [Rel], hh, .refl C w'⟩
        · cases hv1
      · cases hv1
    · exact atom_run hA (by rfl) (by rfl) hh ha hv
section
variable {H : Type} {enc : TypeId × Value → H} {W : World} {base : Nat}
theorem okEs_ints : ∀ l : List Int, okEs (l.map (V.int .i64)) = true
  | [] => rfl
  | x :: r => by
    show okEs (.int .i64 x :: r.map (V.int .i64)) = true
    rw [okEs, okEs_ints r]; rfl
theorem plains_i64 : ∀ l : List Int, plains (l.map (V.int .i64)) = true
  | [] => rfl
  | x :: r => by
    show plains (.int .i64 x :: r.map (V.int .i64)) = true
    rw [plains, plains_i64 r]; rfl
theorem slice_ok {t e : TypeId} {P : Program} {r : Reach} {a : Addr} {len cap : Nat} (ht : P.underlying t = some (.slice e)) (h : Value.okWide P W r base t (.slice (some a) len cap)) : a.spot = none ∧ len ≤ cap := by
  simp only [Value.okWide, ht, Cell.okWide, Cell.ok] at h
  exact ⟨h.2.2.2.1, h.1⟩
theorem cells_slice {a : Option Addr} {len cap : Nat} : (Value.slice a len cap).cells.toList = [.slice a len cap] := rfl
theorem open_is {t e : TypeId} (ht : Tryd.prog.underlying t = some (.slice e)) (he : Tryd.prog.underlying e = some (.int .i64)) (hc : Tryd.prog.cellsOf e = 1) {v : Value} {d : DataW H} {p : List MemPlace} (hval : Value.okWide Tryd.prog W .any base t v) (h : DataW.Trod enc Tryd.prog W 0 (fun _ => true) true t v d p) :
    ∃ l : List Int, (∀ x ∈ l, -9223372036854775808 ≤ x ∧ x ≤ 9223372036854775807) ∧ Rel (C0 W) (.sl (l.map (V.int .i64)) 1 false) v ∧ (d = .nil ∧ l = [] ∨ ∃ sp, d = .slice (l.map fun z => .lit (.int .i64 z)) sp) := by
  obtain ⟨a1, len, cap, rfl⟩ := okWide_slice ht hval
  obtain ⟨fuel, hf⟩ := h
  rcases open_ints ht he hc hf with ⟨hcs, hx⟩ | ⟨a, len', cap', zs, hcs, _, hl, hm, hz, hx, hcell, hwz⟩
  · rw [cells_slice] at hcs
    simp only [List.cons.injEq, Value.slice.injEq, and_true] at hcs
    obtain ⟨rfl, rfl, rfl⟩ := hcs
    simp only [Prod.mk.injEq] at hx
    obtain ⟨rfl, rfl⟩ := hx
    refine ⟨[], fun x hx => by simp at hx, ?_, Or.inl ⟨rfl, rfl⟩⟩
    simp only [List.map_nil, Rel]
    exact ⟨rfl, rfl, by decide, none, 0, rfl, Nat.le_refl _, (fun h => by cases h), Or.inl ⟨rfl, rfl⟩⟩
  · rw [cells_slice] at hcs
    simp only [List.cons.injEq, Value.slice.injEq, and_true] at hcs
    obtain ⟨rfl, rfl, rfl⟩ := hcs
    simp only [Prod.mk.injEq] at hx
    obtain ⟨rfl, rfl⟩ := hx
    simp only [if_true] at hz
    obtain ⟨ab, ao, spot⟩ := a
    obtain ⟨hsp, _⟩ := slice_ok ht hval
    simp only at hsp
    subst hsp
    have hlen : (zs.take len).length = len := by simp; omega
    refine ⟨zs.take len, fun x hx => ?_, ?_, Or.inr ⟨_, rfl⟩⟩
    · have := hwz x (List.mem_of_mem_take hx)
      simp only [Lit.wf, Bool.and_eq_true, decide_eq_true_eq] at this
      have e1 : IntKind.i64.min = -9223372036854775808 := rfl
      have e2 : IntKind.i64.max = 9223372036854775807 := rfl
      rw [e1, e2] at this
      omega
    · simp only [Rel]
      refine ⟨plains_i64 _, okEs_ints _, by decide, some ⟨ab, ao, none⟩, cap, by rw [List.length_map, hlen], by rw [List.length_map, hlen]; exact hl, (fun h => by cases h), Or.inr ⟨ab, ao, rfl, ?_⟩⟩
      rw [Els_iff]
      intro k v hv
      rw [List.getElem?_map] at hv
      obtain ⟨z, hz2, rfl⟩ := Option.map_eq_some_iff.1 hv
      obtain ⟨hk, hz3⟩ := List.getElem?_eq_some_iff.1 hz2
      have hk2 : k < len := by rw [hlen] at hk; exact hk
      have hc := hcell k (by omega)
      rw [Addr.add_lit] at hc
      refine ⟨.int .i64 z, .inr ⟨rfl, rfl, ?_⟩, by simp only [Rel]⟩
      have e : zs.getD k 0 = z := by
        rw [← hz3, List.getElem_take]
        simp [List.getD, List.getElem?_eq_getElem (show k < zs.length by omega)]
      rw [Nat.mul_one, ← e]
      exact hc
end
end Go.Proofs.YthpfimildcbgmaaDoor
