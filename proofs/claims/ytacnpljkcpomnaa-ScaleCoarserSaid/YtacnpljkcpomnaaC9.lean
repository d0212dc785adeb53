/-
ScaleCoarser: the bucket of the next lower schema is that of this one, made coarser, and a coarser bucket's greatest float is that of its second finer one: proved for every input, without conditions.
-/
import Derived.Test.YtacnpljkcpomnaaGlue
import Derived.Test.YtacnpljkcpomnaaL9
import Derived.ProofKit
import Derived.Laws.Cover3
namespace Go.Proofs.Ytacnpljkcpomnaa
open Go Ev Go.RowKit Go.ChangeShapes Go.WideShapes Go.ChangeAt
set_option linter.all false

set_option maxRecDepth 100000 in
theorem scaleCoarser_lifted (os : Os) (started : os.Started) (H : Type) (enc : TypeId × Value → H) :
    ReturnsInHanded {} Try.checked os 9 .any (Rows.scaleCoarserSpec.pre6 enc Try.prog Try.f9 Rows.scaleCoarserRow.domain false) (Rows.scaleCoarserSpec.post enc Try.prog Try.f9 false true false false) := by
  refine returnsInHanded_of_change (C := Try.checked) own started (by kernel_rfl) Try.func9
    (ChangeSpec.witness6 (enc := enc) (C := Try.checked) false ⟨#[], #[.int .i64 0, .float .f64 0], []⟩ 8 (by kernel_rfl) (by kernel_rfl) (by kernel_rfl) (by kernel_rfl)) ?_
  intro W base args ds gs before hval0 hW hcnd _
  have hval : ∀ (j : Nat) t v, Try.f9.params[j]? = some t → args[j]? = some v → Value.okWide Try.prog W .any base t v := hval0
  have hW' := hW
  obtain ⟨p, q, hA0, hV, rfl, hfz, hnd⟩ := hW
  have hA : DataW.TrodAll enc Try.prog W 0 (fun _ => true) true Try.f9.params.toList args.toList ds p := hA0
  rw [Try.params9] at hA hval
  obtain ⟨v0, vs0, d0, ds0, p0, q0, ea0, ed0, ep0, h0, hA1⟩ := trodAll_cons hA
  obtain ⟨v1, vs1, d1, ds1, p1, q1, ea1, ed1, ep1, h1, hA2⟩ := trodAll_cons hA1
  obtain ⟨en, edn, epn⟩ := trodAll_nil hA2
  obtain ⟨rfl, rfl⟩ := trodVars_none hV
  have hargs : args.toList = [v0, v1] := by rw [ea0, ea1, en]
  have hds : ds = [d0, d1] := by rw [ed0, ed1, edn]
  have hat : ∀ (j : Nat) (v : Value), [v0, v1][j]? = some v → args[j]? = some v := fun j v h => by rw [← hargs] at h; simpa using h
  obtain ⟨x0, rfl, rfl, _, w0⟩ := open_int Try.underlying3 (hval 0 3 v0 (by rfl) (hat 0 _ rfl)) h0
  have b0 : -9223372036854775808 ≤ x0 ∧ x0 ≤ 9223372036854775807 := by simpa [Lit.wf, IntKind.min, IntKind.max, IntKind.bits, IntKind.signed] using w0
  obtain ⟨x1, rfl, rfl, _, w1⟩ := open_float Try.underlying37 (hval 1 37 v1 (by rfl) (hat 1 _ rfl)) h1
  have b1 : x1 < 18446744073709551616 := by simpa [Lit.wf] using w1
  subst hds
  refine (law_calls (lore_ok W) Try.func9 rfl lore_ext9 (scaleCoarser_ev x0 b0 x1 b1) (fun g cs h => by cases h) ?_).mono fun e W' ⟨he, hw⟩ => ?_
  · rw [hargs]
    simp only [Rels, Rel]
    exact ⟨_, _, rfl, rfl, ⟨_, _, rfl, (Or.inl ⟨b1, rfl⟩), rfl⟩⟩
  · subst he
    refine ⟨_, rfl, law_post laidOut ?_ rfl hW' hw (tb := 4) (by rfl) Try.underlying4 (by rfl) (by rfl)⟩
    intro t ht
    rw [Try.params9] at ht
    have hall : ([3, 37].all fun t => Try.prog.readableRec t && decide (t < Try.prog.types.size)) = true := by kernel_rfl
    have := List.all_eq_true.1 hall t (by simpa using ht)
    simpa using this
theorem scaleCoarser_holds : Rows.ScaleCoarserSaid :=
  OpenClaim.holds_of_wide 9 Try.f9 rfl rfl rfl rfl rfl rfl rfl ⟨rfl, rfl, rfl, rfl, rfl⟩ rfl rfl rfl rfl rfl (by kernel_rfl) Try.func9 (by kernel_rfl)
    (of_decide_eq_true (by kernel_rfl)) (by unfold Func.isWrapper; first | (rw [if_pos (by decide +kernel)]; kernel_rfl) | (rw [if_neg (by decide +kernel)]; exact ⟨rfl, rfl⟩))
    (fun os started H enc _ => scaleCoarser_lifted os started H enc)
#print axioms scaleCoarser_holds
end Go.Proofs.Ytacnpljkcpomnaa
