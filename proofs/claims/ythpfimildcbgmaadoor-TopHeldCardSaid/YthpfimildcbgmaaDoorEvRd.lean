/-
An operation that leaves the boxes alone: what the interpreter answers is what the model's machine gives.
-/
import Derived.Test.YthpfimildcbgmaaDoorEvOps6
namespace Go.Proofs.YthpfimildcbgmaaDoor
namespace Ev
set_option linter.all false
open Go

/-- What an operation owes that hands back a value. -/
def AnsN (C : Ctx) (P : Program) (w : World) (s : Sem Next) (v : V) (H' : Heap) : Prop :=
  ∃ x w' C', s.run P w = .ok (.value x) w' ∧ Rel C' v x ∧ HRel C' H' w' ∧ Step C w C' w'

theorem Ans.next {C : Ctx} {H : Heap} {P : Program} {w : World} {s : Sem Value} {v : V} (h : Ans C H P w s v) : AnsN C P w (s >>= fun x => Pure.pure (Next.value x)) v H := by
  obtain ⟨x, w', C', h1, h2, h3, h4⟩ := h
  exact ⟨x, w', C', by simp only [Sem.run_bind, h1, Result.andThen_ok, Sem.run_pure], h2, h3, h4⟩

theorem AnsN.pure {C : Ctx} {H : Heap} {P : Program} {w : World} {s : Sem Value} {v : V} (hh : HRel C H w) (h : ∃ y, s.run P w = .ok y w ∧ Rel C v y) : AnsN C P w (s >>= fun x => Pure.pure (Next.value x)) v H := by
  obtain ⟨y, h1, h2⟩ := h
  exact (Ans.pure hh h1 h2).next

theorem args_two {E : Env} {t : List V} {xs : Array Operand} {x y : V} (h : args E t xs = [x, y]) : ∃ a b, xs = #[a, b] ∧ x = arg E t a ∧ y = arg E t b := by
  obtain ⟨l⟩ := xs
  unfold args at h
  match l, h with
  | [a, b], h => simp at h; exact ⟨a, b, rfl, h.1.symm, h.2.symm⟩
  | [], h => simp at h
  | [_], h => simp at h
  | _ :: _ :: _ :: _, h => simp at h

theorem args_one {E : Env} {t : List V} {xs : Array Operand} {x : V} (h : args E t xs = [x]) : ∃ a, xs = #[a] ∧ x = arg E t a := by
  obtain ⟨l⟩ := xs
  unfold args at h
  match l, h with
  | [a], h => simp at h; exact ⟨a, rfl, h.symm⟩
  | [], h => simp at h
  | _ :: _ :: _, h => simp at h

set_option maxHeartbeats 1000000 in
theorem evRd_run {E : Env} {C : Ctx} {H : Heap} {w : World} {f : Nat} {t : List V} {a : Act} {o : Oper} {v : V} (hh : HRel C H w) (hg : GRel E C) (ht : TRel C t a.tmps) (h : evRd E f t o H = some v) :
    AnsN C E.P w (execOp a.eval o) v H := by
  obtain ⟨dst, op, ty, pos, after, guard⟩ := o
  unfold evRd at h
  unfold execOp
  cases op <;> simp only [reduceCtorEq] at h ⊢
  case move x =>
    cases h
    exact ⟨_, w, C, rfl, arg_rel hg ht x, hh, .refl C w⟩
  case assign x =>
    cases h
    exact ⟨_, w, C, rfl, arg_rel hg ht x, hh, .refl C w⟩
  case pick c x y =>
    have hc := arg_rel hg ht c
    split at h
    · rename_i b hb
      cases h
      rw [hb] at hc
      simp only [Rel] at hc
      rw [hc]
      exact ⟨_, w, C, by simp [asBool], pick_rel (arg_rel hg ht x) (arg_rel hg ht y), hh, .refl C w⟩
    · cases h
  case box el x =>
    split at h
    · split at h
      · rename_i hc
        cases h
        exact (immBox_run hh (arg_rel hg ht x) hc.2.2.2.1 hc.2.2.2.2).next
      · cases h
    · cases h
  case build T ps =>
    exact .pure hh (build_run (by simpa using PRel_map hg ht ps.toList) h)
  case buildSlice T n ps =>
    split at h
    · rename_i e hu
      split at h
      · rename_i hc
        obtain ⟨es, he, h⟩ := Option.bind_eq_some_iff.1 h
        split at h
        · rename_i hl
          cases h
          obtain ⟨z, hz⟩ := Option.isSome_iff_exists.1 hc.2.2
          exact (buildSlice_run hh (by simpa using PRel_map hg ht ps.toList) hu hc.1 hc.2.1 hz he hl).next
        · cases h
      · cases h
    · cases h
  case load T x => exact .pure hh (load_run hh (arg_rel hg ht x) h)
  case nilCheck x =>
    have hx := arg_rel hg ht x
    split at h
    · rename_i i j e
      cases h
      rw [e] at hx
      have hx' := hx
      simp only [Rel] at hx
      obtain ⟨_, _, b, _, e2⟩ := hx
      rw [e2] at hx' ⊢
      exact ⟨_, w, C, rfl, hx', hh, .refl C w⟩
    · rename_i i j k l e
      cases h
      rw [e] at hx
      have hx' := hx
      simp only [Rel] at hx
      obtain ⟨_, _, _, ⟨b, e2⟩, _⟩ := hx
      rw [e2] at hx' ⊢
      exact ⟨_, w, C, rfl, hx', hh, .refl C w⟩
    · rename_i cs e
      cases h
      rw [e] at hx
      have hx' := hx
      simp only [Rel] at hx
      obtain ⟨_, _, b, o, e2, _⟩ := hx
      rw [e2] at hx' ⊢
      exact ⟨_, w, C, rfl, hx', hh, .refl C w⟩
    · rename_i g p q e
      cases h
      rw [e] at hx
      have hx' := hx
      simp only [Rel] at hx
      obtain ⟨p', q', e2, _⟩ := hx
      rw [e2] at hx' ⊢
      exact ⟨_, w, C, rfl, hx', hh, .refl C w⟩
    · cases h
  case binOp op T x y T' => exact (bin_run hh x y (arg_rel hg ht x) (arg_rel hg ht y) h).next
  case unOp op T x => exact .pure hh (un_run C w (arg_rel hg ht x) h)
  case convert src dst x =>
    split at h
    · exact .pure hh (convStr_run hh (arg_rel hg ht x) h)
    · exact .pure hh (conv_run (arg_rel hg ht x) h)
  case makeFunc fn p q =>
    cases fn <;> simp only [reduceCtorEq] at h
    cases h
    refine ⟨_, w, C, rfl, ?_, hh, .refl C w⟩
    simp only [Rel]
    exact ⟨_, _, rfl, args_rel hg ht p, args_rel hg ht q⟩
  case slice T x lo hi mx =>
    split at h
    · rename_i hu
      obtain ⟨⟨r, h'⟩, hr, rfl⟩ := Option.map_eq_some_iff.1 h
      unfold sliceV at hr
      rw [hu] at hr
      have hx := arg_rel hg ht x
      generalize arg E t x = xv at hr hx
      cases xv <;> simp only [reduceCtorEq] at hr
      rename_i s
      cases mx with
      | some m => simp at hr
      | none =>
        simp only [Option.map_none] at hr
        obtain ⟨b, hb, hr⟩ := Option.bind_eq_some_iff.1 hr
        obtain ⟨l, hl, hr⟩ := Option.bind_eq_some_iff.1 hr
        cases hr
        simp only [Rel] at hx
        have hbd := bounds_run (P := E.P) (w := w) hg ht lo hi none false s.size s.size s.size b l rfl hb hl (by simp)
        refine AnsN.pure hh ⟨.string (s.extract l b), ?_, by simp only [Rel]⟩
        simp only [Option.map_none] at hbd
        simp only [Instr.sliceAt, Instr.slice, Sem.run_bind, run_underlying hu, Result.andThen_ok, hx, Option.map_none, Option.isSome_none, Bool.false_eq_true, if_false, hbd, Sem.run_pure]
    · cases h
  case fieldAddr s x i => exact .pure hh (fieldAddr_run (arg_rel hg ht x) h)
  case field s x i => exact .pure hh (field_run (arg_rel hg ht x) h)
  case indexAddr T x i =>
    have hi := arg_rel hg ht i
    split at h
    · rename_i k n e
      rw [e] at hi
      simp only [Rel] at hi
      rw [hi]
      exact .pure hh (indexAddr_run hh (arg_rel hg ht x) h)
    · cases h
  case index T x i =>
    have hi := arg_rel hg ht i
    split at h
    · rename_i k n e
      rw [e] at hi
      simp only [Rel] at hi
      rw [hi]
      exact .pure hh (index_run (arg_rel hg ht x) h)
    · cases h
  case extract x i =>
    have hx := arg_rel hg ht x
    split at h
    · rename_i vs e
      rw [e] at hx
      simp only [Rel] at hx
      obtain ⟨ys, e2, hr⟩ := hx
      obtain ⟨y, hy, k⟩ := Rels_get _ _ hr i v h
      rw [e2]
      exact .pure hh ⟨y, by simp at hy; simp [Instr.extract, hy], k⟩
    · cases h
  case call c =>
    obtain ⟨callee, cargs, ctys⟩ := c
    cases callee with
    | value g => simp at h
    | invoke r m => simp at h
    | builtin b =>
      cases b <;> simp only [reduceCtorEq] at h
      case len =>
        split at h
        · rename_i T x hT hx
          obtain ⟨q, rfl, rfl⟩ := args_one hx
          simp only [resolve, pure_bind, invoke, builtin]
          exact .pure hh (by simpa using lenV_run (ty := ty) hh (arg_rel hg ht q) hT h)
        · cases h
      case min =>
        simp only [resolve, pure_bind, invoke, builtin]
        exact .pure hh (min_run _ _ _ _ _ (args_rel hg ht cargs) h)
      case max =>
        simp only [resolve, pure_bind, invoke, builtin]
        exact .pure hh (max_run _ _ _ _ _ (args_rel hg ht cargs) h)

end Ev
end Go.Proofs.YthpfimildcbgmaaDoor
