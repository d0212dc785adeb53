/-
ScaleDigits: in a bucket of greater numbers all are alike to so many digits: proved for every input, without conditions.
-/
import Derived.Test.YtacnpljkcpomnaaGlue
import Derived.Test.YtacnpljkcpomnaaL3
import Derived.Test.YtacnpljkcpomnaaF4
import Derived.ProofKit
import Derived.Lib.SmallJoins
namespace Go.Proofs.Ytacnpljkcpomnaa
open Go Ev Go.RowKit Go.ChangeShapes Go.WideShapes Go.ChangeAt
set_option linter.all false

theorem scaleDigits_ev (L M D i : Int) : ans (callL lore 3 [.agg [.int .i64 L, .int .i64 M, .int .i64 D], .int .i64 i] []) = some (.bool true) := scaleDigits_of begins_cv L M D i
set_option maxRecDepth 100000 in
theorem scaleDigits_lifted (os : Os) (started : os.Started) (H : Type) (enc : TypeId × Value → H) :
    ReturnsInHanded {} Try.checked os 3 .any (Rows.scaleDigitsSpec.pre6 enc Try.prog Try.f3 Rows.scaleDigitsRow.domain false) (Rows.scaleDigitsSpec.post enc Try.prog Try.f3 false true false false) := by
  refine returnsInHanded_of_change (C := Try.checked) own started (by kernel_rfl) Try.func3
    (ChangeSpec.witness6 (enc := enc) (C := Try.checked) false ⟨#[], #[.agg #[.int .i64 0, .int .i64 0, .int .i64 0], .int .i64 0], []⟩ 8 (by kernel_rfl) (by kernel_rfl) (by kernel_rfl) (by kernel_rfl)) ?_
  intro W base args ds gs before hval0 hW hcnd _
  have hval : ∀ (j : Nat) t v, Try.f3.params[j]? = some t → args[j]? = some v → Value.okWide Try.prog W .any base t v := hval0
  have hW' := hW
  obtain ⟨p, q, hA0, hV, rfl, hfz, hnd⟩ := hW
  have hA : DataW.TrodAll enc Try.prog W 0 (fun _ => true) true Try.f3.params.toList args.toList ds p := hA0
  rw [Try.params3] at hA hval
  obtain ⟨v0, vs0, d0, ds0, p0, q0, ea0, ed0, ep0, h0, hA1⟩ := trodAll_cons hA
  obtain ⟨v1, vs1, d1, ds1, p1, q1, ea1, ed1, ep1, h1, hA2⟩ := trodAll_cons hA1
  obtain ⟨en, edn, epn⟩ := trodAll_nil hA2
  obtain ⟨rfl, rfl⟩ := trodVars_none hV
  have hargs : args.toList = [v0, v1] := by rw [ea0, ea1, en]
  have hds : ds = [d0, d1] := by rw [ed0, ed1, edn]
  have hat : ∀ (j : Nat) (v : Value), [v0, v1][j]? = some v → args[j]? = some v := fun j v h => by rw [← hargs] at h; simpa using h
  obtain ⟨c0a, c0b, c0c, y0a, y0b, y0c, m0, rfl, rfl, _, hy0a, hy0b, hy0c⟩ := Go.Joins.open_agg3 Try.underlying23 (by kernel_rfl) (by kernel_rfl) (hval 0 23 v0 (by rfl) (hat 0 _ rfl)) h0
  obtain ⟨x0a, e0a, g0a, _⟩ := DataW.trod_int Try.underlying2 hy0a
  obtain rfl : c0a = .int .i64 x0a := by simpa using e0a
  obtain ⟨x0b, e0b, g0b, _⟩ := DataW.trod_int Try.underlying2 hy0b
  obtain rfl : c0b = .int .i64 x0b := by simpa using e0b
  obtain ⟨x0c, e0c, g0c, _⟩ := DataW.trod_int Try.underlying3 hy0c
  obtain rfl : c0c = .int .i64 x0c := by simpa using e0c
  obtain ⟨x1, rfl, rfl, _, w1⟩ := open_int Try.underlying3 (hval 1 3 v1 (by rfl) (hat 1 _ rfl)) h1
  subst hds
  refine (law_calls (lore_ok W) Try.func3 rfl lore_ext3 (scaleDigits_ev x0a x0b x0c x1) (fun g cs h => by cases h) ?_).mono fun e W' ⟨he, hw⟩ => ?_
  · rw [hargs]
    simp only [Rels, Rel]
    exact ⟨_, _, rfl, ⟨_, rfl, ⟨_, _, rfl, rfl, ⟨_, _, rfl, rfl, ⟨_, _, rfl, rfl, rfl⟩⟩⟩⟩, ⟨_, _, rfl, rfl, rfl⟩⟩
  · subst he
    refine ⟨_, rfl, law_post laidOut ?_ rfl hW' hw (tb := 4) (by rfl) Try.underlying4 (by rfl) (by rfl)⟩
    intro t ht
    rw [Try.params3] at ht
    have hall : ([23, 3].all fun t => Try.prog.readableRec t && decide (t < Try.prog.types.size)) = true := by kernel_rfl
    have := List.all_eq_true.1 hall t (by simpa using ht)
    simpa using this
theorem scaleDigits_holds : Rows.ScaleDigitsSaid :=
  OpenClaim.holds_of_wide 3 Try.f3 rfl rfl rfl rfl rfl rfl rfl ⟨rfl, rfl, rfl, rfl, rfl⟩ rfl rfl rfl rfl rfl (by kernel_rfl) Try.func3 (by kernel_rfl)
    (of_decide_eq_true (by kernel_rfl)) (by unfold Func.isWrapper; first | (rw [if_pos (by decide +kernel)]; kernel_rfl) | (rw [if_neg (by decide +kernel)]; exact ⟨rfl, rfl⟩))
    (fun os started H enc _ => scaleDigits_lifted os started H enc)
#print axioms scaleDigits_holds
end Go.Proofs.Ytacnpljkcpomnaa
