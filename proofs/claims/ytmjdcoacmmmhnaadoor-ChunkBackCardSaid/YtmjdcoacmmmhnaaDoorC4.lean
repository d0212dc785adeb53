/-
A chunk's points are read as they were written, bytes are written as they were read, and no point takes more than a few bits than the least: for every list of points and all bytes.
-/
import Derived.Test.YtmjdcoacmmmhnaaDoorOpen
import Derived.Test.YtmjdcoacmmmhnaaDoorL4
namespace Go.Proofs.YtmjdcoacmmmhnaaDoor
open Go Ev Go.RowKit Go.ChangeShapes Go.WideShapes Go.ChangeAt
set_option linter.all false

theorem chunkBack_tab {W : World} (h : laidMetH Tryd.prog Rows.chunkBackRow.laid W) : GRel lore.toEnv (C0 W) := grel h
theorem chunkBack_met (os : Os) (args : Array Value) : laidMetH Tryd.prog Rows.chunkBackRow.laid ((World.doorLaid Tryd.prog 400 os).forCall (fun _ _ => 0) ⟨#[], args, []⟩).memory :=
  laidMetH_of_parts3 (fuel := 8) (laidMet_of_run' 8 (by kernel_rfl) (by kernel_rfl)) (by kernel_rfl) (by kernel_rfl)
set_option maxRecDepth 100000 in
theorem chunkBack_lifted (os : Os) (started : os.Started) (H : Type) (enc : TypeId × Value → H) :
    ReturnsInHanded {} Tryd.checked os 4 .any (fun w args => (Rows.chunkBackSpec.pre enc Tryd.prog Tryd.f4 [] false w args ∧ laidMetH Tryd.prog Rows.chunkBackRow.laid w) ∧ sizedMet enc Tryd.prog Tryd.f4 (OpenSpec.ofChange Rows.chunkBackSpec) false w args)
      (Rows.chunkBackSpec.post enc Tryd.prog Tryd.f4 false true false false) := by
  refine returnsInHanded_of_change_and (C := Tryd.checked) (X := fun w _ => laidMetH Tryd.prog Rows.chunkBackRow.laid w) (fun _ _ _ hh h => h.of_heap hh) own started (by kernel_rfl) Tryd.func4
    (ChangeSpec.witness_shaped (enc := enc) (C := Tryd.checked) (os := os) (X := fun w _ => laidMetH Tryd.prog Rows.chunkBackRow.laid w) false (World.doorLaid Tryd.prog 400 os) #[.slice none 0 0, .slice none 0 0] 8 rfl (World.shaped_of_RefB (by kernel_rfl) (by kernel_rfl)) (by kernel_rfl) (by kernel_rfl) (by kernel_rfl) (chunkBack_met os _)) ?_
  intro W base args ds gs before hval0 hW _ hsz hL _
  have hval : ∀ (j : Nat) t v, Tryd.f4.params[j]? = some t → args[j]? = some v → Value.okWide Tryd.prog W .any base t v := hval0
  have hW' := hW
  obtain ⟨p, q, hA0, hV, rfl, hfz, hnd⟩ := hW
  have hA : DataW.TrodAll enc Tryd.prog W 0 (fun _ => true) true Tryd.f4.params.toList args.toList ds p := hA0
  rw [Tryd.params4] at hA hval
  obtain ⟨v0, vs0, d0, ds0, p0, q0, ea0, ed0, ep0, h0, hA1⟩ := trodAll_cons hA
  obtain ⟨v1, vs1, d1, ds1, p1, q1, ea1, ed1, ep1, h1, hA2⟩ := trodAll_cons hA1
  obtain ⟨en, edn, epn⟩ := trodAll_nil hA2
  obtain ⟨rfl, rfl⟩ := trodVars_none hV
  have hargs : args.toList = [v0, v1] := by rw [ea0, ea1, en]
  have hds : ds = [d0, d1] := by rw [ed0, ed1, edn]
  have hat : ∀ (j : Nat) (v : Value), [v0, v1][j]? = some v → args[j]? = some v := fun j v h => by rw [← hargs] at h; simpa using h
  obtain ⟨x0, u0, r0, _⟩ := open_d (hval 0 22 v0 (by rfl) (hat 0 _ rfl)) h0
  obtain ⟨x1, u1, r1, w1, _⟩ := open_b (hval 1 23 v1 (by rfl) (hat 1 _ rfl)) h1
  subst hds
  have hz1 : x1.length ≤ 200000000000000 := w1 (by
    have hz : (DataW.weightsEach Tryd.prog [22, 23] [d0, d1]).all (fun n => decide (n ≤ reachBytes)) = true := hsz
    simp only [DataW.weightsEach, List.all_append, Bool.and_eq_true] at hz
    first | exact hz.1 | exact hz.2.1 | exact hz.2.2.1 | exact hz.2.2.2.1)
  refine (law_calls (lore_ok W) Tryd.func4 rfl lore_ext4 (chunkBack_ev x0 x1 false false u0 u1 (by first | exact hz1 | skip)) (chunkBack_tab hL) ?_).mono fun e W' ⟨he, hw⟩ => ?_
  · rw [hargs]
    have e64 : FloatKind.f64.format.width = 64 := rfl
    simp only [Rels]
    exact ⟨_, _, rfl, r0, ⟨_, _, rfl, r1, rfl⟩⟩
  · subst he
    refine ⟨_, rfl, law_post laidOut ?_ rfl hW' hw (tb := 4) (by rfl) Tryd.underlying4 (by rfl) (by rfl)⟩
    intro t ht
    rw [Tryd.params4] at ht
    have hall : ([22, 23].all fun t => Tryd.prog.readableRec t && decide (t < Tryd.prog.types.size)) = true := by kernel_rfl
    have := List.all_eq_true.1 hall t (by simpa using ht)
    simpa using this
theorem chunkBack_holds : Rows.ChunkBackSaid :=
  OpenClaim.holds_of_wide 4 Tryd.f4 rfl rfl rfl rfl rfl rfl rfl ⟨rfl, rfl, rfl, rfl, rfl⟩ rfl rfl rfl rfl rfl (by kernel_rfl) Tryd.func4 (by kernel_rfl)
    (of_decide_eq_true (by kernel_rfl)) (by unfold Func.isWrapper; first | (rw [if_pos (by decide +kernel)]; kernel_rfl) | (rw [if_neg (by decide +kernel)]; exact ⟨rfl, rfl⟩))
    (fun os started H enc _ => chunkBack_lifted os started H enc)
theorem chunkBack_card : Rows.ChunkBackCardSaid :=
  Claim7.holds_tied_plain_at .later [] [.data, .data] true (true, "88ef1f4bdc5c6c64b0d2d34a6b066ce8aa01798e160432918ffa34d82b64b53a") false
    chunkBack_holds (fun _ h => by cases h) (by kernel_rfl) (fun _ h => by cases h) chunkBack_row_tie rfl ⟨rfl, rfl⟩ (by kernel_rfl) rfl
    (fun f fn hf hfn => by
      obtain rfl : f = 4 := Option.some.inj ((show Tryd.prog.funcNamed "abacus/abacuslaw19.ChunkBack" = some 4 by kernel_rfl).symm.trans hf) |>.symm
      obtain rfl : fn = Tryd.f4 := (Option.some.inj (Tryd.func4.symm.trans hfn)).symm
      exact ⟨by kernel_rfl, fun j t ht => by
        rw [Tryd.params4] at ht
        have hm : t ∈ [22, 23] := by simpa using Array.mem_of_getElem? ht
        have hall : ([22, 23].all fun u => !Tryd.prog.wantsStandIn u) = true := by kernel_rfl
        exact (show Tryd.prog.wantsStandIn t = false by simpa using List.all_eq_true.1 hall t hm)⟩)
    (by kernel_rfl)
#print axioms chunkBack_card
end Go.Proofs.YtmjdcoacmmmhnaaDoor
