/-
TimesSpans: every PrintSpan and ParseSpan of the program answers as the document does: proved for every input, the package-level tables being as the program's text lays them.
-/
import Derived.Test.YtgoillhmgpokoaaDoorGlue
import Derived.Test.YtgoillhmgpokoaaDoorL3
namespace Go.Proofs.YtgoillhmgpokoaaDoor
open Go Ev Go.RowKit Go.ChangeShapes Go.WideShapes Go.ChangeAt

theorem laid_tab {W : World} (h : laidMetH Tryd.prog Rows.timesSpansRow.laid W) : Tab W := by
  rw [MakeChecks.laidMetH_plain _ _ _ (by kernel_rfl)] at h
  have h2 := h.tail.tail
  exact Lib.tabIs_of_head (t := 95) (e := 69) (n := 20) gTab (by kernel_rfl) (by kernel_rfl) (by kernel_rfl) (by kernel_rfl) (by kernel_rfl) h2

theorem door_met (os : Os) (args : Array Value) : laidMetH Tryd.prog Rows.timesSpansRow.laid ((World.doorLaid Tryd.prog 400 os).forCall (fun _ _ => 0) ⟨#[], args, []⟩).memory :=
  laidMetH_of_parts3 (fuel := 8) (laidMet_of_run' 8 (by kernel_rfl) (by kernel_rfl)) (by kernel_rfl) (by kernel_rfl)
set_option maxRecDepth 100000 in
theorem timesSpans_lifted (os : Os) (started : os.Started) (H : Type) (enc : TypeId × Value → H) :
    ReturnsInHanded {} Tryd.checked os 3 .any (fun w args => (Rows.timesSpansSpec.pre enc Tryd.prog Tryd.f3 [] false w args ∧ laidMetH Tryd.prog Rows.timesSpansRow.laid w) ∧ sizedMet enc Tryd.prog Tryd.f3 (OpenSpec.ofChange Rows.timesSpansSpec) false w args)
      (Rows.timesSpansSpec.post enc Tryd.prog Tryd.f3 false true false false) := by
  refine returnsInHanded_of_change_and (C := Tryd.checked) (X := fun w _ => laidMetH Tryd.prog Rows.timesSpansRow.laid w) (fun _ _ _ hh h => h.of_heap hh) own started (by kernel_rfl) Tryd.func3
    (ChangeSpec.witness_shaped (enc := enc) (C := Tryd.checked) (os := os) (X := fun w _ => laidMetH Tryd.prog Rows.timesSpansRow.laid w) false (World.doorLaid Tryd.prog 400 os) #[.int .i64 0, .string ⟨#[]⟩] 8 rfl (World.shaped_of_RefB (by kernel_rfl) (by kernel_rfl)) (by kernel_rfl) (by kernel_rfl) (by kernel_rfl) (door_met os _)) ?_
  intro W base args ds gs before hval0 hW _ hsz hL _
  have hval : ∀ (j : Nat) t v, Tryd.f3.params[j]? = some t → args[j]? = some v → Value.okWide Tryd.prog W .any base t v := hval0
  have hW' := hW
  obtain ⟨p, q, hA0, hV, rfl, hfz, hnd⟩ := hW
  have hA : DataW.TrodAll enc Tryd.prog W 0 (fun _ => true) true Tryd.f3.params.toList args.toList ds p := hA0
  rw [Tryd.params3] at hA hval
  obtain ⟨v0, v1, d0, d1, p0, p1, hargs, hds, rfl, h0, h1⟩ := trodAll_two hA
  obtain ⟨rfl, rfl⟩ := trodVars_none hV
  obtain ⟨d, rfl, rfl, rfl, wd⟩ := open_int Tryd.underlying2 (hval 0 2 v0 (by rfl) (by rw [hargs]; rfl)) h0
  obtain ⟨s, rfl, rfl, rfl, hs⟩ := ChangeMaps.open_string Tryd.underlying9 (hval 1 9 v1 (by rfl) (by rw [hargs]; rfl)) h1
  subst hds
  refine (law_calls (lore_ok (laid_tab hL)) Tryd.func3 rfl lore_ext3 (timesSpans_ev d s.data.toList ?_) (fun g cs h => by cases h) ?_).mono fun e W' ⟨he, hw⟩ => ?_
  · have hz : (DataW.weightsEach Tryd.prog [2, 9] [DataW.lit (.int .i64 d), DataW.lit (.string s.data.toList)]).all (fun n => decide (n ≤ reachBytes)) = true := hsz
    simp only [DataW.weightsEach, DataW.weights, List.all_append, List.all_cons, List.all_nil, Bool.and_true, Bool.and_eq_true, decide_eq_true_eq] at hz
    have hr : reachBytes < 4611686018427387904 := by decide
    omega
  · rw [hargs]
    simp only [Rels, Rel, bs_of]
    exact ⟨_, _, rfl, rfl, _, _, rfl, rfl, rfl⟩
  · subst he
    refine ⟨_, rfl, law_post laidOut ?_ rfl hW' hw (tb := 4) (by rfl) Tryd.underlying4 (by rfl) (by rfl)⟩
    intro t ht
    rw [Tryd.params3] at ht
    have hall : ([2, 9].all fun t => Tryd.prog.readableRec t && decide (t < Tryd.prog.types.size)) = true := by kernel_rfl
    have := List.all_eq_true.1 hall t (by simpa using ht)
    simpa using this

theorem timesSpans_holds : Rows.TimesSpansSaid :=
  OpenClaim.holds_of_wide 3 Tryd.f3 rfl rfl rfl rfl rfl rfl rfl ⟨rfl, rfl, rfl, rfl, rfl⟩ rfl rfl rfl rfl rfl (by kernel_rfl) Tryd.func3 (by kernel_rfl)
    (of_decide_eq_true (by kernel_rfl)) (by unfold Func.isWrapper; first | (rw [if_pos (by decide +kernel)]; kernel_rfl) | (rw [if_neg (by decide +kernel)]; exact ⟨rfl, rfl⟩))
    (fun os started H enc _ => timesSpans_lifted os started H enc)

theorem timesSpans_card : Rows.TimesSpansCardSaid :=
  Claim7.holds_tied_plain_at .later [] [.data, .data, .data] true (true, "d717956763806ffbd07078a7a02eb07c969bd21e3d6ccaf0bff4edb8a4ca8c60") false
    timesSpans_holds (fun _ h => by cases h) (by kernel_rfl) (fun _ h => by cases h) timesSpans_row_tie rfl ⟨rfl, rfl⟩ (by kernel_rfl) rfl
    (fun f fn hf hfn => by
      obtain rfl : f = 3 := Option.some.inj ((show Tryd.prog.funcNamed "abacus/abacuslaw02.TimesSpans" = some 3 by kernel_rfl).symm.trans hf) |>.symm
      obtain rfl : fn = Tryd.f3 := (Option.some.inj (Tryd.func3.symm.trans hfn)).symm
      exact ⟨by kernel_rfl, fun j t ht => by
        rw [Tryd.params3] at ht
        have hm : t ∈ [2, 9] := by simpa using Array.mem_of_getElem? ht
        have hall : ([2, 9].all fun u => !Tryd.prog.wantsStandIn u) = true := by kernel_rfl
        exact (show Tryd.prog.wantsStandIn t = false by simpa using List.all_eq_true.1 hall t hm)⟩)
    (by kernel_rfl)
#print axioms timesSpans_card
end Go.Proofs.YtgoillhmgpokoaaDoor
