/-
Every answer of Encode, Bits and Decode is the document's, for every list of points and all bytes of bulk at most 1048576 together.
-/
import Derived.Test.YtmjdcoacmmmhnaaDoorOpen
import Derived.Test.YtmjdcoacmmmhnaaDoorL3
import Derived.Deep.DeepHandedRow
import Derived.Deep.DeepWitnessRowRef
namespace Go.Proofs.YtmjdcoacmmmhnaaDoor
open Go Ev Go.RowKit Go.ChangeShapes Go.WideShapes Go.ChangeAt
set_option linter.all false

theorem chunkCodes_tab {W : World} (h : laidMetH Tryd.prog Rows.chunkCodesUptoRow.laid W) : GRel lore.toEnv (C0 W) := grel h
theorem chunkCodes_met (os : Os) (args : Array Value) : laidMetH Tryd.prog Rows.chunkCodesUptoRow.laid ((World.doorLaid Tryd.prog 400 os).forCall (fun _ _ => 0) ⟨#[], args, []⟩).memory :=
  laidMetH_of_parts3 (fuel := 8) (laidMet_of_run' 8 (by kernel_rfl) (by kernel_rfl)) (by kernel_rfl) (by kernel_rfl)
theorem bulk_bytes {H : Type} (l : List Int) : Rows.uptoBulkAll (l.map fun z => (DataW.lit (H := H) (.int .u8 z))) = l.length := by
  induction l with
  | nil => rfl
  | cons x r ih => simp only [List.map_cons, Rows.uptoBulkAll, Rows.uptoBulk, ih, List.length_cons]; omega
theorem chunkCodes_reads (os : Os) {H : Type} (enc : TypeId × Value → H) : ∃ places, DataW.whole enc Tryd.prog ((World.doorLaid Tryd.prog 400 os).forCall (fun _ _ => 0) ⟨#[], #[.slice none 0 0, .slice none 0 0], []⟩).memory Tryd.f3.params.toList Rows.chunkCodesSpec.vars false #[Value.slice none 0 0, Value.slice none 0 0].toList 8 = some ([.nil, .nil], [], places) :=
  ⟨[], by kernel_rfl⟩
set_option maxRecDepth 100000 in
theorem chunkCodes_lifted (os : Os) (started : os.Started) (H : Type) (enc : TypeId × Value → H) (F : Stop.Interp) :
    ReturnsInHanded {} Tryd.checked os 3 .any ((Rows.OpenSpec.upto Rows.chunkCodesSpec).preRow enc Tryd.prog Tryd.f3 Rows.chunkCodesUptoRow.domain false Rows.chunkCodesUptoRow.laid) (((Rows.OpenSpec.upto Rows.chunkCodesSpec).at F).post enc Tryd.prog Tryd.f3 false true false false) := by
  obtain ⟨places, hx⟩ := chunkCodes_reads os enc
  refine returnsInHanded_of_row (C := Tryd.checked) (s := Rows.OpenSpec.upto Rows.chunkCodesSpec) own started (by kernel_rfl) Tryd.func3
    (witness_row_atRef (enc := enc) (C := Tryd.checked) false (World.doorLaid Tryd.prog 400 os) #[.slice none 0 0, .slice none 0 0] rfl (by kernel_rfl) (by kernel_rfl) (by kernel_rfl)
      (OpenSpec.preRow_of_cond 8 hx (by kernel_rfl) (fun k hk => by cases hk; kernel_rfl) (by kernel_rfl) (chunkCodes_met os _))) ?_
  intro W base args ds gs before hval0 hW _ hcond hsz hL _ _
  have hval : ∀ (j : Nat) t v, Tryd.f3.params[j]? = some t → args[j]? = some v → Value.okWide Tryd.prog W .any base t v := hval0
  have hW' := hW
  obtain ⟨p, q, hA0, hV, rfl, hfz, hnd⟩ := hW
  have hA : DataW.TrodAll enc Tryd.prog W 0 (fun _ => true) true Tryd.f3.params.toList args.toList ds p := hA0
  rw [Tryd.params3] at hA hval
  obtain ⟨v0, vs0, d0, ds0, p0, q0, ea0, ed0, ep0, h0, hA1⟩ := trodAll_cons hA
  obtain ⟨v1, vs1, d1, ds1, p1, q1, ea1, ed1, ep1, h1, hA2⟩ := trodAll_cons hA1
  obtain ⟨en, edn, epn⟩ := trodAll_nil hA2
  obtain ⟨rfl, rfl⟩ := trodVars_none hV
  have hargs : args.toList = [v0, v1] := by rw [ea0, ea1, en]
  have hds : ds = [d0, d1] := by rw [ed0, ed1, edn]
  have hat : ∀ (j : Nat) (v : Value), [v0, v1][j]? = some v → args[j]? = some v := fun j v h => by rw [← hargs] at h; simpa using h
  obtain ⟨x0, u0, r0, _⟩ := open_d (hval 0 22 v0 (by rfl) (hat 0 _ rfl)) h0
  obtain ⟨x1, u1, r1, w1, w1'⟩ := open_b (hval 1 23 v1 (by rfl) (hat 1 _ rfl)) h1
  subst hds
  have hz1 : x1.length ≤ 100000000 := by
    have hb : Rows.uptoBulkAll ([d0, d1] ++ []) ≤ 1048576 := of_decide_eq_true (hcond _ rfl)
    simp only [List.append_nil, Rows.uptoBulkAll] at hb
    rcases w1' with ⟨_, h⟩ | ⟨sp, h⟩
    · rw [h]; decide
    · rw [h] at hb
      simp only [Rows.uptoBulk, bulk_bytes] at hb
      omega
  refine (law_calls (lore_ok W) Tryd.func3 rfl lore_ext3 (chunkCodes_ev x0 x1 false false u0 u1 hz1) (chunkCodes_tab hL) ?_).mono fun e W' ⟨he, hw⟩ => ?_
  · rw [hargs]
    simp only [Rels]
    exact ⟨_, _, rfl, r0, ⟨_, _, rfl, r1, rfl⟩⟩
  · subst he
    refine ⟨_, rfl, law_post laidOut ?_ rfl hW' hw (tb := 4) (by rfl) Tryd.underlying4 (by rfl) (by rfl)⟩
    intro t ht
    rw [Tryd.params3] at ht
    have hall : ([22, 23].all fun t => Tryd.prog.readableRec t && decide (t < Tryd.prog.types.size)) = true := by kernel_rfl
    have := List.all_eq_true.1 hall t (by simpa using ht)
    simpa using this
theorem chunkCodes_holds : Rows.ChunkCodesUptoSaid :=
  OpenClaim.holds_of_cond 3 Tryd.f3 rfl rfl rfl rfl rfl rfl rfl ⟨rfl, rfl, rfl, rfl, rfl⟩ rfl rfl rfl rfl rfl (by kernel_rfl) Tryd.func3 (by kernel_rfl)
    (of_decide_eq_true (by kernel_rfl)) (by unfold Func.isWrapper; first | (rw [if_pos (by decide +kernel)]; kernel_rfl) | (rw [if_neg (by decide +kernel)]; exact ⟨rfl, rfl⟩))
    (fun os started H enc _ F => by rw [OpenClaim.pre_eq_preRow]; exact chunkCodes_lifted os started H enc F)
theorem chunkCodes_card : Rows.ChunkCodesUptoCardSaid :=
  Claim7.holds_tied_plain_at .later [] [.data, .data] true (true, "88ef1f4bdc5c6c64b0d2d34a6b066ce8aa01798e160432918ffa34d82b64b53a") false
    chunkCodes_holds (fun _ h => by cases h) (by kernel_rfl) (fun _ h => by cases h) chunkCodesUpto_row_tie rfl ⟨rfl, rfl⟩ (by kernel_rfl) rfl
    (fun f fn hf hfn => by
      obtain rfl : f = 3 := Option.some.inj ((show Tryd.prog.funcNamed "abacus/abacuslaw19.ChunkCodes" = some 3 by kernel_rfl).symm.trans hf) |>.symm
      obtain rfl : fn = Tryd.f3 := (Option.some.inj (Tryd.func3.symm.trans hfn)).symm
      exact ⟨by kernel_rfl, fun j t ht => by
        rw [Tryd.params3] at ht
        have hm : t ∈ [22, 23] := by simpa using Array.mem_of_getElem? ht
        have hall : ([22, 23].all fun u => !Tryd.prog.wantsStandIn u) = true := by kernel_rfl
        exact (show Tryd.prog.wantsStandIn t = false by simpa using List.all_eq_true.1 hall t hm)⟩)
    (by kernel_rfl)
#print axioms chunkCodes_card
end Go.Proofs.YtmjdcoacmmmhnaaDoor
