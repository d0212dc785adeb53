/-
'abacustop.TopHeld' returns true whatever its input, of a program whose laid variables are as its text lays them.
-/
import Derived.Test.YthpfimildcbgmaaDoorGlue
import Derived.Test.YthpfimildcbgmaaDoorL4
namespace Go.Proofs.YthpfimildcbgmaaDoor
open Go Ev Go.RowKit Go.ChangeShapes Go.WideShapes Go.ChangeAt
set_option linter.all false

theorem topHeld_tab {W : World} (h : laidMetH Tryd.prog Rows.topHeldRow.laid W) : GRel lore.toEnv (C0 W) := grel4 h
theorem topHeld_met (os : Os) (args : Array Value) : laidMetH Tryd.prog Rows.topHeldRow.laid ((World.doorLaid Tryd.prog 400 os).forCall (fun _ _ => 0) ⟨#[], args, []⟩).memory :=
  laidMetH_of_parts3 (fuel := 8) (laidMet_of_run' 8 (by kernel_rfl) (by kernel_rfl)) (by kernel_rfl) (by kernel_rfl)
set_option maxRecDepth 100000 in
theorem topHeld_lifted (os : Os) (started : os.Started) (H : Type) (enc : TypeId × Value → H) :
    ReturnsInHanded {} Tryd.checked os 4 .any (fun w args => (Rows.topHeldSpec.pre enc Tryd.prog Tryd.f4 [] false w args ∧ laidMetH Tryd.prog Rows.topHeldRow.laid w) ∧ sizedMet enc Tryd.prog Tryd.f4 (OpenSpec.ofChange Rows.topHeldSpec) false w args)
      (Rows.topHeldSpec.post enc Tryd.prog Tryd.f4 false true false false) := by
  refine returnsInHanded_of_change_and (C := Tryd.checked) (X := fun w _ => laidMetH Tryd.prog Rows.topHeldRow.laid w) (fun _ _ _ hh h => h.of_heap hh) own started (by kernel_rfl) Tryd.func4
    (ChangeSpec.witness_shaped (enc := enc) (C := Tryd.checked) (os := os) (X := fun w _ => laidMetH Tryd.prog Rows.topHeldRow.laid w) false (World.doorLaid Tryd.prog 400 os) #[.int .i64 0, .int .i64 0, .slice none 0 0] 8 rfl (World.shaped_of_RefB (by kernel_rfl) (by kernel_rfl)) (by kernel_rfl) (by kernel_rfl) (by kernel_rfl) (topHeld_met os _)) ?_
  intro W base args ds gs before hval0 hW _ hsz hL _
  have hval : ∀ (j : Nat) t v, Tryd.f4.params[j]? = some t → args[j]? = some v → Value.okWide Tryd.prog W .any base t v := hval0
  have hW' := hW
  obtain ⟨p, q, hA0, hV, rfl, hfz, hnd⟩ := hW
  have hA : DataW.TrodAll enc Tryd.prog W 0 (fun _ => true) true Tryd.f4.params.toList args.toList ds p := hA0
  rw [Tryd.params4] at hA hval
  obtain ⟨v0, vs0, d0, ds0, p0, q0, ea0, ed0, ep0, h0, hA1⟩ := trodAll_cons hA
  obtain ⟨v1, vs1, d1, ds1, p1, q1, ea1, ed1, ep1, h1, hA2⟩ := trodAll_cons hA1
  obtain ⟨v2, vs2, d2, ds2, p2, q2, ea2, ed2, ep2, h2, hA3⟩ := trodAll_cons hA2
  obtain ⟨en, edn, epn⟩ := trodAll_nil hA3
  obtain ⟨rfl, rfl⟩ := trodVars_none hV
  have hargs : args.toList = [v0, v1, v2] := by rw [ea0, ea1, ea2, en]
  have hds : ds = [d0, d1, d2] := by rw [ed0, ed1, ed2, edn]
  have hat : ∀ (j : Nat) (v : Value), [v0, v1, v2][j]? = some v → args[j]? = some v := fun j v h => by rw [← hargs] at h; simpa using h
  obtain ⟨x0, rfl, rfl, _, w0⟩ := open_int Tryd.underlying3 (hval 0 3 v0 (by rfl) (hat 0 _ rfl)) h0
  obtain ⟨x1, rfl, rfl, _, w1⟩ := open_int Tryd.underlying3 (hval 1 3 v1 (by rfl) (hat 1 _ rfl)) h1
  obtain ⟨x2, u2, r2, _⟩ := open_is Tryd.underlying22 Tryd.underlying3 (by kernel_rfl) (hval 2 22 v2 (by rfl) (hat 2 _ rfl)) h2
  subst hds
  refine (law_calls (lore_ok W) Tryd.func4 rfl lore_ext4 (topHeld_ev x0 x1 x2 false ) (topHeld_tab hL) ?_).mono fun e W' ⟨he, hw⟩ => ?_
  · rw [hargs]
    have e64 : FloatKind.f64.format.width = 64 := rfl
    simp only [Rels]
    exact ⟨_, _, rfl, rfl, ⟨_, _, rfl, rfl, ⟨_, _, rfl, r2, rfl⟩⟩⟩
  · subst he
    refine ⟨_, rfl, law_post laidOut ?_ rfl hW' hw (tb := 4) (by rfl) Tryd.underlying4 (by rfl) (by rfl)⟩
    intro t ht
    rw [Tryd.params4] at ht
    have hall : ([3, 3, 22].all fun t => Tryd.prog.readableRec t && decide (t < Tryd.prog.types.size)) = true := by kernel_rfl
    have := List.all_eq_true.1 hall t (by simpa using ht)
    simpa using this
theorem topHeld_holds : Rows.TopHeldSaid :=
  OpenClaim.holds_of_wide 4 Tryd.f4 rfl rfl rfl rfl rfl rfl rfl ⟨rfl, rfl, rfl, rfl, rfl⟩ rfl rfl rfl rfl rfl (by kernel_rfl) Tryd.func4 (by kernel_rfl)
    (of_decide_eq_true (by kernel_rfl)) (by unfold Func.isWrapper; first | (rw [if_pos (by decide +kernel)]; kernel_rfl) | (rw [if_neg (by decide +kernel)]; exact ⟨rfl, rfl⟩))
    (fun os started H enc _ => topHeld_lifted os started H enc)
theorem topHeld_card : Rows.TopHeldCardSaid :=
  Claim7.holds_tied_plain_at .later [] [.data, .data, .data, .data] true (true, "581cb80f6a324231661f6810166d8e5e4d04f9a75ce72dbd3801b082cb9e4621") false
    topHeld_holds (fun _ h => by cases h) (by kernel_rfl) (fun _ h => by cases h) topHeld_row_tie rfl ⟨rfl, rfl⟩ (by kernel_rfl) rfl
    (fun f fn hf hfn => by
      obtain rfl : f = 4 := Option.some.inj ((show Tryd.prog.funcNamed "abacus/abacustop.TopHeld" = some 4 by kernel_rfl).symm.trans hf) |>.symm
      obtain rfl : fn = Tryd.f4 := (Option.some.inj (Tryd.func4.symm.trans hfn)).symm
      exact ⟨by kernel_rfl, fun j t ht => by
        rw [Tryd.params4] at ht
        have hm : t ∈ [3, 3, 22] := by simpa using Array.mem_of_getElem? ht
        have hall : ([3, 3, 22].all fun u => !Tryd.prog.wantsStandIn u) = true := by kernel_rfl
        exact (show Tryd.prog.wantsStandIn t = false by simpa using List.all_eq_true.1 hall t hm)⟩)
    (by kernel_rfl)
#print axioms topHeld_card
end Go.Proofs.YthpfimildcbgmaaDoor
