/-
TimesRates: the program's Lowest, Compare, PrintRate and ParseRate answer as the document's do: proved for every input, the package-level tables being as the program's text lays them.
-/
import Derived.Test.YtgoillhmgpokoaaDoorGlue
import Derived.Test.YtgoillhmgpokoaaDoorL9
import Derived.Lib.SmallJoins
namespace Go.Proofs.YtgoillhmgpokoaaDoor
open Go Ev Go.RowKit Go.ChangeShapes Go.WideShapes Go.ChangeAt
set_option linter.all false

theorem timesRates_tab {W : World} (h : laidMetH Tryd.prog Rows.timesRatesRow.laid W) : Tab W := laid_tab h
theorem timesRates_met (os : Os) (args : Array Value) : laidMetH Tryd.prog Rows.timesRatesRow.laid ((World.doorLaid Tryd.prog 400 os).forCall (fun _ _ => 0) ⟨#[], args, []⟩).memory :=
  laidMetH_of_parts3 (fuel := 8) (laidMet_of_run' 8 (by kernel_rfl) (by kernel_rfl)) (by kernel_rfl) (by kernel_rfl)
set_option maxRecDepth 100000 in
theorem timesRates_lifted (os : Os) (started : os.Started) (H : Type) (enc : TypeId × Value → H) :
    ReturnsInHanded {} Tryd.checked os 9 .any (fun w args => (Rows.timesRatesSpec.pre enc Tryd.prog Tryd.f9 [] false w args ∧ laidMetH Tryd.prog Rows.timesRatesRow.laid w) ∧ sizedMet enc Tryd.prog Tryd.f9 (OpenSpec.ofChange Rows.timesRatesSpec) false w args)
      (Rows.timesRatesSpec.post enc Tryd.prog Tryd.f9 false true false false) := by
  refine returnsInHanded_of_change_and (C := Tryd.checked) (X := fun w _ => laidMetH Tryd.prog Rows.timesRatesRow.laid w) (fun _ _ _ hh h => h.of_heap hh) own started (by kernel_rfl) Tryd.func9
    (ChangeSpec.witness_shaped (enc := enc) (C := Tryd.checked) (os := os) (X := fun w _ => laidMetH Tryd.prog Rows.timesRatesRow.laid w) false (World.doorLaid Tryd.prog 400 os) #[.agg #[.int .i64 0, .int .i64 0], .agg #[.int .i64 0, .int .i64 0], .string ⟨#[]⟩] 8 rfl (World.shaped_of_RefB (by kernel_rfl) (by kernel_rfl)) (by kernel_rfl) (by kernel_rfl) (by kernel_rfl) (timesRates_met os _)) ?_
  intro W base args ds gs before hval0 hW _ hsz hL _
  have hval : ∀ (j : Nat) t v, Tryd.f9.params[j]? = some t → args[j]? = some v → Value.okWide Tryd.prog W .any base t v := hval0
  have hW' := hW
  obtain ⟨p, q, hA0, hV, rfl, hfz, hnd⟩ := hW
  have hA : DataW.TrodAll enc Tryd.prog W 0 (fun _ => true) true Tryd.f9.params.toList args.toList ds p := hA0
  rw [Tryd.params9] at hA hval
  obtain ⟨v0, vs0, d0, ds0, p0, q0, ea0, ed0, ep0, h0, hA1⟩ := trodAll_cons hA
  obtain ⟨v1, vs1, d1, ds1, p1, q1, ea1, ed1, ep1, h1, hA2⟩ := trodAll_cons hA1
  obtain ⟨v2, vs2, d2, ds2, p2, q2, ea2, ed2, ep2, h2, hA3⟩ := trodAll_cons hA2
  obtain ⟨en, edn, epn⟩ := trodAll_nil hA3
  obtain ⟨rfl, rfl⟩ := trodVars_none hV
  have hargs : args.toList = [v0, v1, v2] := by rw [ea0, ea1, ea2, en]
  have hds : ds = [d0, d1, d2] := by rw [ed0, ed1, ed2, edn]
  have hat : ∀ (j : Nat) (v : Value), [v0, v1, v2][j]? = some v → args[j]? = some v := fun j v h => by rw [← hargs] at h; simpa using h
  obtain ⟨c0a, c0b, y0a, y0b, m0, rfl, rfl, _, hy0a, hy0b⟩ := Go.Joins.open_agg2 Tryd.underlying29 (by kernel_rfl) (by kernel_rfl) (hval 0 29 v0 (by rfl) (hat 0 _ rfl)) h0
  obtain ⟨x0a, e0a, g0a, _⟩ := DataW.trod_int Tryd.underlying2 hy0a
  obtain rfl : c0a = .int .i64 x0a := by simpa using e0a
  obtain ⟨x0b, e0b, g0b, _⟩ := DataW.trod_int Tryd.underlying2 hy0b
  obtain rfl : c0b = .int .i64 x0b := by simpa using e0b
  obtain ⟨c1a, c1b, y1a, y1b, m1, rfl, rfl, _, hy1a, hy1b⟩ := Go.Joins.open_agg2 Tryd.underlying29 (by kernel_rfl) (by kernel_rfl) (hval 1 29 v1 (by rfl) (hat 1 _ rfl)) h1
  obtain ⟨x1a, e1a, g1a, _⟩ := DataW.trod_int Tryd.underlying2 hy1a
  obtain rfl : c1a = .int .i64 x1a := by simpa using e1a
  obtain ⟨x1b, e1b, g1b, _⟩ := DataW.trod_int Tryd.underlying2 hy1b
  obtain rfl : c1b = .int .i64 x1b := by simpa using e1b
  obtain ⟨x2, rfl, rfl, _, w2⟩ := ChangeMaps.open_string Tryd.underlying9 (hval 2 9 v2 (by rfl) (hat 2 _ rfl)) h2
  subst hds
  refine (law_calls (lore_ok (timesRates_tab hL)) Tryd.func9 rfl lore_ext9 (timesRates_ev x0a x0b x1a x1b x2.data.toList ?_) (fun g cs h => by cases h) ?_).mono fun e W' ⟨he, hw⟩ => ?_
  · have hz : (DataW.weightsEach Tryd.prog [29, 29, 9] [DataW.agg [y0a.1, y0b.1], DataW.agg [y1a.1, y1b.1], DataW.lit (.string x2.data.toList)]).all (fun n => decide (n ≤ reachBytes)) = true := hsz
    simp only [DataW.weightsEach, DataW.weights, List.all_append, List.all_cons, List.all_nil, Bool.and_true, Bool.and_eq_true, decide_eq_true_eq] at hz
    have hr : reachBytes < 4611686018427387904 := by decide
    omega
  · rw [hargs]
    simp only [Rels, Rel, bs_of]
    exact ⟨_, _, rfl, ⟨_, rfl, _, _, rfl, rfl, _, _, rfl, rfl, rfl⟩, ⟨_, _, rfl, ⟨_, rfl, _, _, rfl, rfl, _, _, rfl, rfl, rfl⟩, ⟨_, _, rfl, rfl, rfl⟩⟩⟩
  · subst he
    refine ⟨_, rfl, law_post laidOut ?_ rfl hW' hw (tb := 4) (by rfl) Tryd.underlying4 (by rfl) (by rfl)⟩
    intro t ht
    rw [Tryd.params9] at ht
    have hall : ([29, 29, 9].all fun t => Tryd.prog.readableRec t && decide (t < Tryd.prog.types.size)) = true := by kernel_rfl
    have := List.all_eq_true.1 hall t (by simpa using ht)
    simpa using this
theorem timesRates_holds : Rows.TimesRatesSaid :=
  OpenClaim.holds_of_wide 9 Tryd.f9 rfl rfl rfl rfl rfl rfl rfl ⟨rfl, rfl, rfl, rfl, rfl⟩ rfl rfl rfl rfl rfl (by kernel_rfl) Tryd.func9 (by kernel_rfl)
    (of_decide_eq_true (by kernel_rfl)) (by unfold Func.isWrapper; first | (rw [if_pos (by decide +kernel)]; kernel_rfl) | (rw [if_neg (by decide +kernel)]; exact ⟨rfl, rfl⟩))
    (fun os started H enc _ => timesRates_lifted os started H enc)
theorem timesRates_card : Rows.TimesRatesCardSaid :=
  Claim7.holds_tied_plain_at .later [] [.data, .data, .data] true (true, "d717956763806ffbd07078a7a02eb07c969bd21e3d6ccaf0bff4edb8a4ca8c60") false
    timesRates_holds (fun _ h => by cases h) (by kernel_rfl) (fun _ h => by cases h) timesRates_row_tie rfl ⟨rfl, rfl⟩ (by kernel_rfl) rfl
    (fun f fn hf hfn => by
      obtain rfl : f = 9 := Option.some.inj ((show Tryd.prog.funcNamed "abacus/abacuslaw02.TimesRates" = some 9 by kernel_rfl).symm.trans hf) |>.symm
      obtain rfl : fn = Tryd.f9 := (Option.some.inj (Tryd.func9.symm.trans hfn)).symm
      exact ⟨by kernel_rfl, fun j t ht => by
        rw [Tryd.params9] at ht
        have hm : t ∈ [29, 29, 9] := by simpa using Array.mem_of_getElem? ht
        have hall : ([29, 29, 9].all fun u => !Tryd.prog.wantsStandIn u) = true := by kernel_rfl
        exact (show Tryd.prog.wantsStandIn t = false by simpa using List.all_eq_true.1 hall t hm)⟩)
    (by kernel_rfl)
#print axioms timesRates_card
end Go.Proofs.YtgoillhmgpokoaaDoor
