/-
TimesParts: what accrues over two spans stands to what accrues over their sum as the document says: proved for every input, the package-level tables being as the program's text lays them.
-/
import Derived.Test.YtgoillhmgpokoaaDoorGlue
import Derived.Test.YtgoillhmgpokoaaDoorL4
import Derived.Lib.SmallJoins
namespace Go.Proofs.YtgoillhmgpokoaaDoor
open Go Ev Go.RowKit Go.ChangeShapes Go.WideShapes Go.ChangeAt
set_option linter.all false

theorem timesParts_tab {W : World} (h : laidMetH Tryd.prog Rows.timesPartsRow.laid W) : Tab W := laid_tab h
theorem timesParts_met (os : Os) (args : Array Value) : laidMetH Tryd.prog Rows.timesPartsRow.laid ((World.doorLaid Tryd.prog 400 os).forCall (fun _ _ => 0) ⟨#[], args, []⟩).memory :=
  laidMetH_of_parts3 (fuel := 8) (laidMet_of_run' 8 (by kernel_rfl) (by kernel_rfl)) (by kernel_rfl) (by kernel_rfl)
set_option maxRecDepth 100000 in
theorem timesParts_lifted (os : Os) (started : os.Started) (H : Type) (enc : TypeId × Value → H) :
    ReturnsInHanded {} Tryd.checked os 4 .any (fun w args => (Rows.timesPartsSpec.pre enc Tryd.prog Tryd.f4 [] false w args ∧ laidMetH Tryd.prog Rows.timesPartsRow.laid w) ∧ sizedMet enc Tryd.prog Tryd.f4 (OpenSpec.ofChange Rows.timesPartsSpec) false w args)
      (Rows.timesPartsSpec.post enc Tryd.prog Tryd.f4 false true false false) := by
  refine returnsInHanded_of_change_and (C := Tryd.checked) (X := fun w _ => laidMetH Tryd.prog Rows.timesPartsRow.laid w) (fun _ _ _ hh h => h.of_heap hh) own started (by kernel_rfl) Tryd.func4
    (ChangeSpec.witness_shaped (enc := enc) (C := Tryd.checked) (os := os) (X := fun w _ => laidMetH Tryd.prog Rows.timesPartsRow.laid w) false (World.doorLaid Tryd.prog 400 os) #[.agg #[.int .i64 0, .int .i64 0], .int .i64 0, .int .i64 0] 8 rfl (World.shaped_of_RefB (by kernel_rfl) (by kernel_rfl)) (by kernel_rfl) (by kernel_rfl) (by kernel_rfl) (timesParts_met os _)) ?_
  intro W base args ds gs before hval0 hW _ hsz hL _
  have hval : ∀ (j : Nat) t v, Tryd.f4.params[j]? = some t → args[j]? = some v → Value.okWide Tryd.prog W .any base t v := hval0
  have hW' := hW
  obtain ⟨p, q, hA0, hV, rfl, hfz, hnd⟩ := hW
  have hA : DataW.TrodAll enc Tryd.prog W 0 (fun _ => true) true Tryd.f4.params.toList args.toList ds p := hA0
  rw [Tryd.params4] at hA hval
  obtain ⟨v0, vs0, d0, ds0, p0, q0, ea0, ed0, ep0, h0, hA1⟩ := trodAll_cons hA
  obtain ⟨v1, vs1, d1, ds1, p1, q1, ea1, ed1, ep1, h1, hA2⟩ := trodAll_cons hA1
  obtain ⟨v2, vs2, d2, ds2, p2, q2, ea2, ed2, ep2, h2, hA3⟩ := trodAll_cons hA2
  obtain ⟨en, edn, epn⟩ := trodAll_nil hA3
  obtain ⟨rfl, rfl⟩ := trodVars_none hV
  have hargs : args.toList = [v0, v1, v2] := by rw [ea0, ea1, ea2, en]
  have hds : ds = [d0, d1, d2] := by rw [ed0, ed1, ed2, edn]
  have hat : ∀ (j : Nat) (v : Value), [v0, v1, v2][j]? = some v → args[j]? = some v := fun j v h => by rw [← hargs] at h; simpa using h
  obtain ⟨c0a, c0b, y0a, y0b, m0, rfl, rfl, _, hy0a, hy0b⟩ := Go.Joins.open_agg2 Tryd.underlying29 (by kernel_rfl) (by kernel_rfl) (hval 0 29 v0 (by rfl) (hat 0 _ rfl)) h0
  obtain ⟨x0a, e0a, g0a, _⟩ := DataW.trod_int Tryd.underlying2 hy0a
  obtain rfl : c0a = .int .i64 x0a := by simpa using e0a
  obtain ⟨x0b, e0b, g0b, _⟩ := DataW.trod_int Tryd.underlying2 hy0b
  obtain rfl : c0b = .int .i64 x0b := by simpa using e0b
  obtain ⟨x1, rfl, rfl, _, w1⟩ := open_int Tryd.underlying2 (hval 1 2 v1 (by rfl) (hat 1 _ rfl)) h1
  obtain ⟨x2, rfl, rfl, _, w2⟩ := open_int Tryd.underlying2 (hval 2 2 v2 (by rfl) (hat 2 _ rfl)) h2
  subst hds
  refine (law_calls (lore_ok (timesParts_tab hL)) Tryd.func4 rfl lore_ext4 (timesParts_ev x0a x0b x1 x2 ) (fun g cs h => by cases h) ?_).mono fun e W' ⟨he, hw⟩ => ?_
  · rw [hargs]
    simp only [Rels, Rel, bs_of]
    exact ⟨_, _, rfl, ⟨_, rfl, _, _, rfl, rfl, _, _, rfl, rfl, rfl⟩, ⟨_, _, rfl, rfl, ⟨_, _, rfl, rfl, rfl⟩⟩⟩
  · subst he
    refine ⟨_, rfl, law_post laidOut ?_ rfl hW' hw (tb := 4) (by rfl) Tryd.underlying4 (by rfl) (by rfl)⟩
    intro t ht
    rw [Tryd.params4] at ht
    have hall : ([29, 2, 2].all fun t => Tryd.prog.readableRec t && decide (t < Tryd.prog.types.size)) = true := by kernel_rfl
    have := List.all_eq_true.1 hall t (by simpa using ht)
    simpa using this
theorem timesParts_holds : Rows.TimesPartsSaid :=
  OpenClaim.holds_of_wide 4 Tryd.f4 rfl rfl rfl rfl rfl rfl rfl ⟨rfl, rfl, rfl, rfl, rfl⟩ rfl rfl rfl rfl rfl (by kernel_rfl) Tryd.func4 (by kernel_rfl)
    (of_decide_eq_true (by kernel_rfl)) (by unfold Func.isWrapper; first | (rw [if_pos (by decide +kernel)]; kernel_rfl) | (rw [if_neg (by decide +kernel)]; exact ⟨rfl, rfl⟩))
    (fun os started H enc _ => timesParts_lifted os started H enc)
theorem timesParts_card : Rows.TimesPartsCardSaid :=
  Claim7.holds_tied_plain_at .later [] [.data, .data, .data] true (true, "d717956763806ffbd07078a7a02eb07c969bd21e3d6ccaf0bff4edb8a4ca8c60") false
    timesParts_holds (fun _ h => by cases h) (by kernel_rfl) (fun _ h => by cases h) timesParts_row_tie rfl ⟨rfl, rfl⟩ (by kernel_rfl) rfl
    (fun f fn hf hfn => by
      obtain rfl : f = 4 := Option.some.inj ((show Tryd.prog.funcNamed "abacus/abacuslaw02.TimesParts" = some 4 by kernel_rfl).symm.trans hf) |>.symm
      obtain rfl : fn = Tryd.f4 := (Option.some.inj (Tryd.func4.symm.trans hfn)).symm
      exact ⟨by kernel_rfl, fun j t ht => by
        rw [Tryd.params4] at ht
        have hm : t ∈ [29, 2, 2] := by simpa using Array.mem_of_getElem? ht
        have hall : ([29, 2, 2].all fun u => !Tryd.prog.wantsStandIn u) = true := by kernel_rfl
        exact (show Tryd.prog.wantsStandIn t = false by simpa using List.all_eq_true.1 hall t hm)⟩)
    (by kernel_rfl)
#print axioms timesParts_card
end Go.Proofs.YtgoillhmgpokoaaDoor
