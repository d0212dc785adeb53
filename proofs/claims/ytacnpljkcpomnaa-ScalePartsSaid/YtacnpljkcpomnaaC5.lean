/-
ScaleParts: a number lies within the bounds of its bucket and in no other's, neighbours follow one another without gaps, greater numbers have no lesser buckets: proved for every input, without conditions.
-/
import Derived.Test.YtacnpljkcpomnaaGlue
import Derived.Test.YtacnpljkcpomnaaL5
import Derived.Test.YtacnpljkcpomnaaF4
import Derived.ProofKit
import Derived.Lib.SmallJoins
namespace Go.Proofs.Ytacnpljkcpomnaa
open Go Ev Go.RowKit Go.ChangeShapes Go.WideShapes Go.ChangeAt
set_option linter.all false

theorem scaleParts_ev (L M D v w i : Int) : ans (callL lore 5 [.agg [.int .i64 L, .int .i64 M, .int .i64 D], .int .i64 v, .int .i64 w, .int .i64 i] []) = some (.bool true) := scaleParts_of begins_cv L M D v w i
set_option maxRecDepth 100000 in
theorem scaleParts_lifted (os : Os) (started : os.Started) (H : Type) (enc : TypeId × Value → H) :
    ReturnsInHanded {} Try.checked os 5 .any (Rows.scalePartsSpec.pre6 enc Try.prog Try.f5 Rows.scalePartsRow.domain false) (Rows.scalePartsSpec.post enc Try.prog Try.f5 false true false false) := by
  refine returnsInHanded_of_change (C := Try.checked) own started (by kernel_rfl) Try.func5
    (ChangeSpec.witness6 (enc := enc) (C := Try.checked) false ⟨#[], #[.agg #[.int .i64 0, .int .i64 0, .int .i64 0], .int .i64 0, .int .i64 0, .int .i64 0], []⟩ 8 (by kernel_rfl) (by kernel_rfl) (by kernel_rfl) (by kernel_rfl)) ?_
  intro W base args ds gs before hval0 hW hcnd _
  have hval : ∀ (j : Nat) t v, Try.f5.params[j]? = some t → args[j]? = some v → Value.okWide Try.prog W .any base t v := hval0
  have hW' := hW
  obtain ⟨p, q, hA0, hV, rfl, hfz, hnd⟩ := hW
  have hA : DataW.TrodAll enc Try.prog W 0 (fun _ => true) true Try.f5.params.toList args.toList ds p := hA0
  rw [Try.params5] at hA hval
  obtain ⟨v0, vs0, d0, ds0, p0, q0, ea0, ed0, ep0, h0, hA1⟩ := trodAll_cons hA
  obtain ⟨v1, vs1, d1, ds1, p1, q1, ea1, ed1, ep1, h1, hA2⟩ := trodAll_cons hA1
  obtain ⟨v2, vs2, d2, ds2, p2, q2, ea2, ed2, ep2, h2, hA3⟩ := trodAll_cons hA2
  obtain ⟨v3, vs3, d3, ds3, p3, q3, ea3, ed3, ep3, h3, hA4⟩ := trodAll_cons hA3
  obtain ⟨en, edn, epn⟩ := trodAll_nil hA4
  obtain ⟨rfl, rfl⟩ := trodVars_none hV
  have hargs : args.toList = [v0, v1, v2, v3] := by rw [ea0, ea1, ea2, ea3, en]
  have hds : ds = [d0, d1, d2, d3] := by rw [ed0, ed1, ed2, ed3, edn]
  have hat : ∀ (j : Nat) (v : Value), [v0, v1, v2, v3][j]? = some v → args[j]? = some v := fun j v h => by rw [← hargs] at h; simpa using h
  obtain ⟨c0a, c0b, c0c, y0a, y0b, y0c, m0, rfl, rfl, _, hy0a, hy0b, hy0c⟩ := Go.Joins.open_agg3 Try.underlying23 (by kernel_rfl) (by kernel_rfl) (hval 0 23 v0 (by rfl) (hat 0 _ rfl)) h0
  obtain ⟨x0a, e0a, g0a, _⟩ := DataW.trod_int Try.underlying2 hy0a
  obtain rfl : c0a = .int .i64 x0a := by simpa using e0a
  obtain ⟨x0b, e0b, g0b, _⟩ := DataW.trod_int Try.underlying2 hy0b
  obtain rfl : c0b = .int .i64 x0b := by simpa using e0b
  obtain ⟨x0c, e0c, g0c, _⟩ := DataW.trod_int Try.underlying3 hy0c
  obtain rfl : c0c = .int .i64 x0c := by simpa using e0c
  obtain ⟨x1, rfl, rfl, _, w1⟩ := open_int Try.underlying2 (hval 1 2 v1 (by rfl) (hat 1 _ rfl)) h1
  obtain ⟨x2, rfl, rfl, _, w2⟩ := open_int Try.underlying2 (hval 2 2 v2 (by rfl) (hat 2 _ rfl)) h2
  obtain ⟨x3, rfl, rfl, _, w3⟩ := open_int Try.underlying3 (hval 3 3 v3 (by rfl) (hat 3 _ rfl)) h3
  subst hds
  refine (law_calls (lore_ok W) Try.func5 rfl lore_ext5 (scaleParts_ev x0a x0b x0c x1 x2 x3) (fun g cs h => by cases h) ?_).mono fun e W' ⟨he, hw⟩ => ?_
  · rw [hargs]
    simp only [Rels, Rel]
    exact ⟨_, _, rfl, ⟨_, rfl, ⟨_, _, rfl, rfl, ⟨_, _, rfl, rfl, ⟨_, _, rfl, rfl, rfl⟩⟩⟩⟩, ⟨_, _, rfl, rfl, ⟨_, _, rfl, rfl, ⟨_, _, rfl, rfl, rfl⟩⟩⟩⟩
  · subst he
    refine ⟨_, rfl, law_post laidOut ?_ rfl hW' hw (tb := 4) (by rfl) Try.underlying4 (by rfl) (by rfl)⟩
    intro t ht
    rw [Try.params5] at ht
    have hall : ([23, 2, 2, 3].all fun t => Try.prog.readableRec t && decide (t < Try.prog.types.size)) = true := by kernel_rfl
    have := List.all_eq_true.1 hall t (by simpa using ht)
    simpa using this
theorem scaleParts_holds : Rows.ScalePartsSaid :=
  OpenClaim.holds_of_wide 5 Try.f5 rfl rfl rfl rfl rfl rfl rfl ⟨rfl, rfl, rfl, rfl, rfl⟩ rfl rfl rfl rfl rfl (by kernel_rfl) Try.func5 (by kernel_rfl)
    (of_decide_eq_true (by kernel_rfl)) (by unfold Func.isWrapper; first | (rw [if_pos (by decide +kernel)]; kernel_rfl) | (rw [if_neg (by decide +kernel)]; exact ⟨rfl, rfl⟩))
    (fun os started H enc _ => scaleParts_lifted os started H enc)
#print axioms scaleParts_holds
end Go.Proofs.Ytacnpljkcpomnaa
