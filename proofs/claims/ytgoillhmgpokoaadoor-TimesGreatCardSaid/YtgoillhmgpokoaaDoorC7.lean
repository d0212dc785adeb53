/-
TimesGreat: Compare orders the rates, Lowest keeps them, and Accrued follows the order: proved for every input, the package-level tables being as the program's text lays them.
-/
import Derived.Test.YtgoillhmgpokoaaDoorGlue
import Derived.Test.YtgoillhmgpokoaaDoorL7
import Derived.Lib.SmallJoins
namespace Go.Proofs.YtgoillhmgpokoaaDoor
open Go Ev Go.RowKit Go.ChangeShapes Go.WideShapes Go.ChangeAt
set_option linter.all false

theorem timesGreat_tab {W : World} (h : laidMetH Tryd.prog Rows.timesGreatRow.laid W) : Tab W := laid_tab h
theorem timesGreat_met (os : Os) (args : Array Value) : laidMetH Tryd.prog Rows.timesGreatRow.laid ((World.doorLaid Tryd.prog 400 os).forCall (fun _ _ => 0) ⟨#[], args, []⟩).memory :=
  laidMetH_of_parts3 (fuel := 8) (laidMet_of_run' 8 (by kernel_rfl) (by kernel_rfl)) (by kernel_rfl) (by kernel_rfl)
set_option maxRecDepth 100000 in
theorem timesGreat_lifted (os : Os) (started : os.Started) (H : Type) (enc : TypeId × Value → H) :
    ReturnsInHanded {} Tryd.checked os 7 .any (fun w args => (Rows.timesGreatSpec.pre enc Tryd.prog Tryd.f7 [] false w args ∧ laidMetH Tryd.prog Rows.timesGreatRow.laid w) ∧ sizedMet enc Tryd.prog Tryd.f7 (OpenSpec.ofChange Rows.timesGreatSpec) false w args)
      (Rows.timesGreatSpec.post enc Tryd.prog Tryd.f7 false true false false) := by
  refine returnsInHanded_of_change_and (C := Tryd.checked) (X := fun w _ => laidMetH Tryd.prog Rows.timesGreatRow.laid w) (fun _ _ _ hh h => h.of_heap hh) own started (by kernel_rfl) Tryd.func7
    (ChangeSpec.witness_shaped (enc := enc) (C := Tryd.checked) (os := os) (X := fun w _ => laidMetH Tryd.prog Rows.timesGreatRow.laid w) false (World.doorLaid Tryd.prog 400 os) #[.agg #[.int .i64 0, .int .i64 0], .agg #[.int .i64 0, .int .i64 0], .agg #[.int .i64 0, .int .i64 0], .int .i64 0] 8 rfl (World.shaped_of_RefB (by kernel_rfl) (by kernel_rfl)) (by kernel_rfl) (by kernel_rfl) (by kernel_rfl) (timesGreat_met os _)) ?_
  intro W base args ds gs before hval0 hW _ hsz hL _
  have hval : ∀ (j : Nat) t v, Tryd.f7.params[j]? = some t → args[j]? = some v → Value.okWide Tryd.prog W .any base t v := hval0
  have hW' := hW
  obtain ⟨p, q, hA0, hV, rfl, hfz, hnd⟩ := hW
  have hA : DataW.TrodAll enc Tryd.prog W 0 (fun _ => true) true Tryd.f7.params.toList args.toList ds p := hA0
  rw [Tryd.params7] at hA hval
  obtain ⟨v0, vs0, d0, ds0, p0, q0, ea0, ed0, ep0, h0, hA1⟩ := trodAll_cons hA
  obtain ⟨v1, vs1, d1, ds1, p1, q1, ea1, ed1, ep1, h1, hA2⟩ := trodAll_cons hA1
  obtain ⟨v2, vs2, d2, ds2, p2, q2, ea2, ed2, ep2, h2, hA3⟩ := trodAll_cons hA2
  obtain ⟨v3, vs3, d3, ds3, p3, q3, ea3, ed3, ep3, h3, hA4⟩ := trodAll_cons hA3
  obtain ⟨en, edn, epn⟩ := trodAll_nil hA4
  obtain ⟨rfl, rfl⟩ := trodVars_none hV
  have hargs : args.toList = [v0, v1, v2, v3] := by rw [ea0, ea1, ea2, ea3, en]
  have hds : ds = [d0, d1, d2, d3] := by rw [ed0, ed1, ed2, ed3, edn]
  have hat : ∀ (j : Nat) (v : Value), [v0, v1, v2, v3][j]? = some v → args[j]? = some v := fun j v h => by rw [← hargs] at h; simpa using h
  obtain ⟨c0a, c0b, y0a, y0b, m0, rfl, rfl, _, hy0a, hy0b⟩ := Go.Joins.open_agg2 Tryd.underlying29 (by kernel_rfl) (by kernel_rfl) (hval 0 29 v0 (by rfl) (hat 0 _ rfl)) h0
  obtain ⟨x0a, e0a, g0a, _⟩ := DataW.trod_int Tryd.underlying2 hy0a
  obtain rfl : c0a = .int .i64 x0a := by simpa using e0a
  obtain ⟨x0b, e0b, g0b, _⟩ := DataW.trod_int Tryd.underlying2 hy0b
  obtain rfl : c0b = .int .i64 x0b := by simpa using e0b
  obtain ⟨c1a, c1b, y1a, y1b, m1, rfl, rfl, _, hy1a, hy1b⟩ := Go.Joins.open_agg2 Tryd.underlying29 (by kernel_rfl) (by kernel_rfl) (hval 1 29 v1 (by rfl) (hat 1 _ rfl)) h1
  obtain ⟨x1a, e1a, g1a, _⟩ := DataW.trod_int Tryd.underlying2 hy1a
  obtain rfl : c1a = .int .i64 x1a := by simpa using e1a
  obtain ⟨x1b, e1b, g1b, _⟩ := DataW.trod_int Tryd.underlying2 hy1b
  obtain rfl : c1b = .int .i64 x1b := by simpa using e1b
  obtain ⟨c2a, c2b, y2a, y2b, m2, rfl, rfl, _, hy2a, hy2b⟩ := Go.Joins.open_agg2 Tryd.underlying29 (by kernel_rfl) (by kernel_rfl) (hval 2 29 v2 (by rfl) (hat 2 _ rfl)) h2
  obtain ⟨x2a, e2a, g2a, _⟩ := DataW.trod_int Tryd.underlying2 hy2a
  obtain rfl : c2a = .int .i64 x2a := by simpa using e2a
  obtain ⟨x2b, e2b, g2b, _⟩ := DataW.trod_int Tryd.underlying2 hy2b
  obtain rfl : c2b = .int .i64 x2b := by simpa using e2b
  obtain ⟨x3, rfl, rfl, _, w3⟩ := open_int Tryd.underlying2 (hval 3 2 v3 (by rfl) (hat 3 _ rfl)) h3
  subst hds
  refine (law_calls (lore_ok (timesGreat_tab hL)) Tryd.func7 rfl lore_ext7 (timesGreat_ev x0a x0b x1a x1b x2a x2b x3 ) (fun g cs h => by cases h) ?_).mono fun e W' ⟨he, hw⟩ => ?_
  · rw [hargs]
    simp only [Rels, Rel, bs_of]
    exact ⟨_, _, rfl, ⟨_, rfl, _, _, rfl, rfl, _, _, rfl, rfl, rfl⟩, ⟨_, _, rfl, ⟨_, rfl, _, _, rfl, rfl, _, _, rfl, rfl, rfl⟩, ⟨_, _, rfl, ⟨_, rfl, _, _, rfl, rfl, _, _, rfl, rfl, rfl⟩, ⟨_, _, rfl, rfl, rfl⟩⟩⟩⟩
  · subst he
    refine ⟨_, rfl, law_post laidOut ?_ rfl hW' hw (tb := 4) (by rfl) Tryd.underlying4 (by rfl) (by rfl)⟩
    intro t ht
    rw [Tryd.params7] at ht
    have hall : ([29, 29, 29, 2].all fun t => Tryd.prog.readableRec t && decide (t < Tryd.prog.types.size)) = true := by kernel_rfl
    have := List.all_eq_true.1 hall t (by simpa using ht)
    simpa using this
theorem timesGreat_holds : Rows.TimesGreatSaid :=
  OpenClaim.holds_of_wide 7 Tryd.f7 rfl rfl rfl rfl rfl rfl rfl ⟨rfl, rfl, rfl, rfl, rfl⟩ rfl rfl rfl rfl rfl (by kernel_rfl) Tryd.func7 (by kernel_rfl)
    (of_decide_eq_true (by kernel_rfl)) (by unfold Func.isWrapper; first | (rw [if_pos (by decide +kernel)]; kernel_rfl) | (rw [if_neg (by decide +kernel)]; exact ⟨rfl, rfl⟩))
    (fun os started H enc _ => timesGreat_lifted os started H enc)
theorem timesGreat_card : Rows.TimesGreatCardSaid :=
  Claim7.holds_tied_plain_at .later [] [.data, .data, .data] true (true, "d717956763806ffbd07078a7a02eb07c969bd21e3d6ccaf0bff4edb8a4ca8c60") false
    timesGreat_holds (fun _ h => by cases h) (by kernel_rfl) (fun _ h => by cases h) timesGreat_row_tie rfl ⟨rfl, rfl⟩ (by kernel_rfl) rfl
    (fun f fn hf hfn => by
      obtain rfl : f = 7 := Option.some.inj ((show Tryd.prog.funcNamed "abacus/abacuslaw02.TimesGreat" = some 7 by kernel_rfl).symm.trans hf) |>.symm
      obtain rfl : fn = Tryd.f7 := (Option.some.inj (Tryd.func7.symm.trans hfn)).symm
      exact ⟨by kernel_rfl, fun j t ht => by
        rw [Tryd.params7] at ht
        have hm : t ∈ [29, 29, 29, 2] := by simpa using Array.mem_of_getElem? ht
        have hall : ([29, 29, 29, 2].all fun u => !Tryd.prog.wantsStandIn u) = true := by kernel_rfl
        exact (show Tryd.prog.wantsStandIn t = false by simpa using List.all_eq_true.1 hall t hm)⟩)
    (by kernel_rfl)
#print axioms timesGreat_card
end Go.Proofs.YtgoillhmgpokoaaDoor
