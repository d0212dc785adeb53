/-
Points of equal steps and one value take two bits each from the third one on: for every first time, step, value and count.
-/
import Derived.Test.YtmjdcoacmmmhnaaDoorOpen
import Derived.Test.YtmjdcoacmmmhnaaDoorL5
import Derived.Laws.Cover3
namespace Go.Proofs.YtmjdcoacmmmhnaaDoor
open Go Ev Go.RowKit Go.ChangeShapes Go.WideShapes Go.ChangeAt
set_option linter.all false

theorem chunkFew_tab {W : World} (h : laidMetH Tryd.prog Rows.chunkFewRow.laid W) : GRel lore.toEnv (C0 W) := grel h
theorem chunkFew_met (os : Os) (args : Array Value) : laidMetH Tryd.prog Rows.chunkFewRow.laid ((World.doorLaid Tryd.prog 400 os).forCall (fun _ _ => 0) ⟨#[], args, []⟩).memory :=
  laidMetH_of_parts3 (fuel := 8) (laidMet_of_run' 8 (by kernel_rfl) (by kernel_rfl)) (by kernel_rfl) (by kernel_rfl)
set_option maxRecDepth 100000 in
theorem chunkFew_lifted (os : Os) (started : os.Started) (H : Type) (enc : TypeId × Value → H) :
    ReturnsInHanded {} Tryd.checked os 5 .any (fun w args => (Rows.chunkFewSpec.pre enc Tryd.prog Tryd.f5 [] false w args ∧ laidMetH Tryd.prog Rows.chunkFewRow.laid w) ∧ sizedMet enc Tryd.prog Tryd.f5 (OpenSpec.ofChange Rows.chunkFewSpec) false w args)
      (Rows.chunkFewSpec.post enc Tryd.prog Tryd.f5 false true false false) := by
  refine returnsInHanded_of_change_and (C := Tryd.checked) (X := fun w _ => laidMetH Tryd.prog Rows.chunkFewRow.laid w) (fun _ _ _ hh h => h.of_heap hh) own started (by kernel_rfl) Tryd.func5
    (ChangeSpec.witness_shaped (enc := enc) (C := Tryd.checked) (os := os) (X := fun w _ => laidMetH Tryd.prog Rows.chunkFewRow.laid w) false (World.doorLaid Tryd.prog 400 os) #[.int .i64 0, .int .i64 0, .float .f64 0, .int .i64 0] 8 rfl (World.shaped_of_RefB (by kernel_rfl) (by kernel_rfl)) (by kernel_rfl) (by kernel_rfl) (by kernel_rfl) (chunkFew_met os _)) ?_
  intro W base args ds gs before hval0 hW _ hsz hL _
  have hval : ∀ (j : Nat) t v, Tryd.f5.params[j]? = some t → args[j]? = some v → Value.okWide Tryd.prog W .any base t v := hval0
  have hW' := hW
  obtain ⟨p, q, hA0, hV, rfl, hfz, hnd⟩ := hW
  have hA : DataW.TrodAll enc Tryd.prog W 0 (fun _ => true) true Tryd.f5.params.toList args.toList ds p := hA0
  rw [Tryd.params5] at hA hval
  obtain ⟨v0, vs0, d0, ds0, p0, q0, ea0, ed0, ep0, h0, hA1⟩ := trodAll_cons hA
  obtain ⟨v1, vs1, d1, ds1, p1, q1, ea1, ed1, ep1, h1, hA2⟩ := trodAll_cons hA1
  obtain ⟨v2, vs2, d2, ds2, p2, q2, ea2, ed2, ep2, h2, hA3⟩ := trodAll_cons hA2
  obtain ⟨v3, vs3, d3, ds3, p3, q3, ea3, ed3, ep3, h3, hA4⟩ := trodAll_cons hA3
  obtain ⟨en, edn, epn⟩ := trodAll_nil hA4
  obtain ⟨rfl, rfl⟩ := trodVars_none hV
  have hargs : args.toList = [v0, v1, v2, v3] := by rw [ea0, ea1, ea2, ea3, en]
  have hds : ds = [d0, d1, d2, d3] := by rw [ed0, ed1, ed2, ed3, edn]
  have hat : ∀ (j : Nat) (v : Value), [v0, v1, v2, v3][j]? = some v → args[j]? = some v := fun j v h => by rw [← hargs] at h; simpa using h
  obtain ⟨x0, rfl, rfl, _, w0⟩ := open_int Tryd.underlying2 (hval 0 2 v0 (by rfl) (hat 0 _ rfl)) h0
  obtain ⟨x1, rfl, rfl, _, w1⟩ := open_int Tryd.underlying2 (hval 1 2 v1 (by rfl) (hat 1 _ rfl)) h1
  obtain ⟨x2, rfl, rfl, _, w2⟩ := open_float Tryd.underlying37 (hval 2 37 v2 (by rfl) (hat 2 _ rfl)) h2
  have b2 : x2 < 2 ^ 64 := by simpa only [Lit.wf, decide_eq_true_eq] using w2
  obtain ⟨x3, rfl, rfl, _, w3⟩ := open_int Tryd.underlying3 (hval 3 3 v3 (by rfl) (hat 3 _ rfl)) h3
  subst hds
  refine (law_calls (lore_ok W) Tryd.func5 rfl lore_ext5 (chunkFew_ev x0 x1 x2 x3 b2 (by have := w0; simp only [Lit.wf, Bool.and_eq_true, decide_eq_true_eq] at this; have e1 : IntKind.i64.min = -9223372036854775808 := rfl; have e2 : IntKind.i64.max = 9223372036854775807 := rfl; rw [e1, e2] at this; exact this) (by have := w1; simp only [Lit.wf, Bool.and_eq_true, decide_eq_true_eq] at this; have e1 : IntKind.i64.min = -9223372036854775808 := rfl; have e2 : IntKind.i64.max = 9223372036854775807 := rfl; rw [e1, e2] at this; exact this) (by have := w3; simp only [Lit.wf, Bool.and_eq_true, decide_eq_true_eq] at this; have e1 : IntKind.i64.min = -9223372036854775808 := rfl; have e2 : IntKind.i64.max = 9223372036854775807 := rfl; rw [e1, e2] at this; exact this)) (chunkFew_tab hL) ?_).mono fun e W' ⟨he, hw⟩ => ?_
  · rw [hargs]
    have e64 : FloatKind.f64.format.width = 64 := rfl
    simp only [Rels, Rel, e64]
    exact ⟨_, _, rfl, rfl, ⟨_, _, rfl, rfl, ⟨_, _, rfl, (Or.inl ⟨b2, rfl⟩), ⟨_, _, rfl, rfl, rfl⟩⟩⟩⟩
  · subst he
    refine ⟨_, rfl, law_post laidOut ?_ rfl hW' hw (tb := 4) (by rfl) Tryd.underlying4 (by rfl) (by rfl)⟩
    intro t ht
    rw [Tryd.params5] at ht
    have hall : ([2, 2, 37, 3].all fun t => Tryd.prog.readableRec t && decide (t < Tryd.prog.types.size)) = true := by kernel_rfl
    have := List.all_eq_true.1 hall t (by simpa using ht)
    simpa using this
theorem chunkFew_holds : Rows.ChunkFewSaid :=
  OpenClaim.holds_of_wide 5 Tryd.f5 rfl rfl rfl rfl rfl rfl rfl ⟨rfl, rfl, rfl, rfl, rfl⟩ rfl rfl rfl rfl rfl (by kernel_rfl) Tryd.func5 (by kernel_rfl)
    (of_decide_eq_true (by kernel_rfl)) (by unfold Func.isWrapper; first | (rw [if_pos (by decide +kernel)]; kernel_rfl) | (rw [if_neg (by decide +kernel)]; exact ⟨rfl, rfl⟩))
    (fun os started H enc _ => chunkFew_lifted os started H enc)
theorem chunkFew_card : Rows.ChunkFewCardSaid :=
  Claim7.holds_tied_plain_at .later [] [.data, .data] true (true, "88ef1f4bdc5c6c64b0d2d34a6b066ce8aa01798e160432918ffa34d82b64b53a") false
    chunkFew_holds (fun _ h => by cases h) (by kernel_rfl) (fun _ h => by cases h) chunkFew_row_tie rfl ⟨rfl, rfl⟩ (by kernel_rfl) rfl
    (fun f fn hf hfn => by
      obtain rfl : f = 5 := Option.some.inj ((show Tryd.prog.funcNamed "abacus/abacuslaw19.ChunkFew" = some 5 by kernel_rfl).symm.trans hf) |>.symm
      obtain rfl : fn = Tryd.f5 := (Option.some.inj (Tryd.func5.symm.trans hfn)).symm
      exact ⟨by kernel_rfl, fun j t ht => by
        rw [Tryd.params5] at ht
        have hm : t ∈ [2, 2, 37, 3] := by simpa using Array.mem_of_getElem? ht
        have hall : ([2, 2, 37, 3].all fun u => !Tryd.prog.wantsStandIn u) = true := by kernel_rfl
        exact (show Tryd.prog.wantsStandIn t = false by simpa using List.all_eq_true.1 hall t hm)⟩)
    (by kernel_rfl)
#print axioms chunkFew_card
end Go.Proofs.YtmjdcoacmmmhnaaDoor
