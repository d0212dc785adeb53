/-
ScaleExact: a float's bucket is the one whose greatest float is the first that is not below its amount, greater amounts have no lesser ones, of the other sign it is the same one: proved for every input, without conditions.
-/
import Derived.Test.YtacnpljkcpomnaaGlue
import Derived.Test.YtacnpljkcpomnaaL7
import Derived.ProofKit
import Derived.Laws.Cover3
namespace Go.Proofs.Ytacnpljkcpomnaa
open Go Ev Go.RowKit Go.ChangeShapes Go.WideShapes Go.ChangeAt
set_option linter.all false

set_option maxRecDepth 100000 in
theorem scaleExact_lifted (os : Os) (started : os.Started) (H : Type) (enc : TypeId × Value → H) :
    ReturnsInHanded {} Try.checked os 7 .any (Rows.scaleExactSpec.pre6 enc Try.prog Try.f7 Rows.scaleExactRow.domain false) (Rows.scaleExactSpec.post enc Try.prog Try.f7 false true false false) := by
  refine returnsInHanded_of_change (C := Try.checked) own started (by kernel_rfl) Try.func7
    (ChangeSpec.witness6 (enc := enc) (C := Try.checked) false ⟨#[], #[.int .i64 0, .float .f64 0, .float .f64 0], []⟩ 8 (by kernel_rfl) (by kernel_rfl) (by kernel_rfl) (by kernel_rfl)) ?_
  intro W base args ds gs before hval0 hW hcnd _
  have hval : ∀ (j : Nat) t v, Try.f7.params[j]? = some t → args[j]? = some v → Value.okWide Try.prog W .any base t v := hval0
  have hW' := hW
  obtain ⟨p, q, hA0, hV, rfl, hfz, hnd⟩ := hW
  have hA : DataW.TrodAll enc Try.prog W 0 (fun _ => true) true Try.f7.params.toList args.toList ds p := hA0
  rw [Try.params7] at hA hval
  obtain ⟨v0, vs0, d0, ds0, p0, q0, ea0, ed0, ep0, h0, hA1⟩ := trodAll_cons hA
  obtain ⟨v1, vs1, d1, ds1, p1, q1, ea1, ed1, ep1, h1, hA2⟩ := trodAll_cons hA1
  obtain ⟨v2, vs2, d2, ds2, p2, q2, ea2, ed2, ep2, h2, hA3⟩ := trodAll_cons hA2
  obtain ⟨en, edn, epn⟩ := trodAll_nil hA3
  obtain ⟨rfl, rfl⟩ := trodVars_none hV
  have hargs : args.toList = [v0, v1, v2] := by rw [ea0, ea1, ea2, en]
  have hds : ds = [d0, d1, d2] := by rw [ed0, ed1, ed2, edn]
  have hat : ∀ (j : Nat) (v : Value), [v0, v1, v2][j]? = some v → args[j]? = some v := fun j v h => by rw [← hargs] at h; simpa using h
  obtain ⟨x0, rfl, rfl, _, w0⟩ := open_int Try.underlying3 (hval 0 3 v0 (by rfl) (hat 0 _ rfl)) h0
  obtain ⟨x1, rfl, rfl, _, w1⟩ := open_float Try.underlying37 (hval 1 37 v1 (by rfl) (hat 1 _ rfl)) h1
  have b1 : x1 < 18446744073709551616 := by simpa [Lit.wf] using w1
  obtain ⟨x2, rfl, rfl, _, w2⟩ := open_float Try.underlying37 (hval 2 37 v2 (by rfl) (hat 2 _ rfl)) h2
  have b2 : x2 < 18446744073709551616 := by simpa [Lit.wf] using w2
  subst hds
  refine (law_calls (lore_ok W) Try.func7 rfl lore_ext7 (scaleExact_ev x0 x1 b1 x2 b2) (fun g cs h => by cases h) ?_).mono fun e W' ⟨he, hw⟩ => ?_
  · rw [hargs]
    simp only [Rels, Rel]
    exact ⟨_, _, rfl, rfl, ⟨_, _, rfl, (Or.inl ⟨b1, rfl⟩), ⟨_, _, rfl, (Or.inl ⟨b2, rfl⟩), rfl⟩⟩⟩
  · subst he
    refine ⟨_, rfl, law_post laidOut ?_ rfl hW' hw (tb := 4) (by rfl) Try.underlying4 (by rfl) (by rfl)⟩
    intro t ht
    rw [Try.params7] at ht
    have hall : ([3, 37, 37].all fun t => Try.prog.readableRec t && decide (t < Try.prog.types.size)) = true := by kernel_rfl
    have := List.all_eq_true.1 hall t (by simpa using ht)
    simpa using this
theorem scaleExact_holds : Rows.ScaleExactSaid :=
  OpenClaim.holds_of_wide 7 Try.f7 rfl rfl rfl rfl rfl rfl rfl ⟨rfl, rfl, rfl, rfl, rfl⟩ rfl rfl rfl rfl rfl (by kernel_rfl) Try.func7 (by kernel_rfl)
    (of_decide_eq_true (by kernel_rfl)) (by unfold Func.isWrapper; first | (rw [if_pos (by decide +kernel)]; kernel_rfl) | (rw [if_neg (by decide +kernel)]; exact ⟨rfl, rfl⟩))
    (fun os started H enc _ => scaleExact_lifted os started H enc)
#print axioms scaleExact_holds
end Go.Proofs.Ytacnpljkcpomnaa
