/-
Regions in the text's order.
-/
import Derived.Test.YthpfimildcbgmaaDoorEvCall
namespace Go.Proofs.YthpfimildcbgmaaDoor
namespace Ev
set_option linter.all false
open Go

theorem guard_run {C : Ctx} {ops : Array Oper} {t : List V} {a : Act} {o : Oper} {go pass : Res} {res : V × Heap} (ht : TRel C t a.tmps) (h : guardV ops t o.guard go pass = some res) :
    (Region.wanted o (yielded ops a.tmps) = true ∧ go = some res) ∨ (Region.wanted o (yielded ops a.tmps) = false ∧ pass = some res) := by
  unfold guardV at h
  unfold Region.wanted
  split at h
  · rename_i hg
    rw [hg]
    exact .inl ⟨rfl, h⟩
  · rename_i j want hg
    rw [hg]
    simp only
    unfold yielded
    cases hd : (ops[j]?).bind (·.dst) with
    | none => rw [hd] at h; simp at h
    | some d =>
      rw [hd] at h
      simp only [Option.map_some] at h
      have hr := ht.get d
      split at h
      · rename_i b hb
        rw [Option.some.injEq] at hb
        rw [hb] at hr
        simp only [Rel] at hr
        have : a.tmps[d]? = some (.bool b) := by
          cases hx : a.tmps[d]? with
          | none => simp [Array.getD_eq_getD_getElem?, hx, undef] at hr
          | some y => simp [Array.getD_eq_getD_getElem?, hx] at hr; rw [hr]
        simp only [Option.bind_some, this]
        cases want <;> cases b <;> simp_all
      · rename_i hb
        rw [Option.some.injEq] at hb
        rw [hb] at hr
        simp only [Rel] at hr
        refine .inr ⟨?_, h⟩
        cases hx : a.tmps[d]? with
        | none => simp [hx]
        | some y =>
          simp [Array.getD_eq_getD_getElem?, hx] at hr
          subst hr
          simp [hx, undef]
      · cases h

theorem TRel.putV {C : Ctx} {t : List V} {a : Act} (h : TRel C t a.tmps) (d : Option Nat) {v : V} {x : Value} (hv : Rel C v x) : TRel C (putV t d v) (a.put d x).tmps := by
  cases d with
  | none => exact h
  | some i => exact h.put i hv

theorem put_defers_eq (a : Act) (d : Option Nat) (x : Value) : (a.put d x).defers = a.defers := by cases d <;> rfl

/-- What an exit must find: the continuation's answer, told of the slots and boxes as they stand. -/
def Led (C₀ : Ctx) (w₀ : World) (K : List V → Heap → Res) (res : V × Heap) (a : Act) (w : World) : Prop :=
  ∃ C t H, K t H = some res ∧ TRel C t a.tmps ∧ HRel C H w ∧ Step C₀ w₀ C w ∧ a.defers = []

theorem evOne_run {W₀ : Array Obj} {E : Env} {c : Calls_} (hc : CallsOk W₀ E c) {C : Ctx} {H : Heap} {w : World} {f : Nat} {t : List V} {a : Act} {o : Oper} {K : V → Heap → Res} {res : V × Heap} (hh : HRel C H w) (hg : GRel E C) (hi : Inv W₀ C w) (ht : TRel C t a.tmps)
    (h : evOne E c f t o H K = some res) : ∃ v H', K v H' = some res ∧ OutN E.P w (execOp a.eval o) (Good C w v H') := by
  unfold evOne at h
  split at h
  · obtain ⟨⟨v, H'⟩, h1, h⟩ := Option.bind_eq_some_iff.1 h
    exact ⟨v, H', h, evEff_run hc hh hg hi ht h1⟩
  · obtain ⟨v, h1, h⟩ := Option.bind_eq_some_iff.1 h
    exact ⟨v, H, h, (evRd_run hh hg ht h1).out⟩

theorem evOps_run {W₀ : Array Obj} {E : Env} {c : Calls_} (hc : CallsOk W₀ E c) {f : Nat} {ops : Array Oper} {K : List V → Heap → Res} {res : V × Heap} {C₀ : Ctx} {w₀ : World} (hg : GRel E C₀) (hi : Inv W₀ C₀ w₀) {Q : Exit → Act → World → Prop} (hQ : ∀ a w, Led C₀ w₀ K res a w → Q .normal a w) :
    ∀ (r : List Oper) (i : Nat) (t : List V) (H : Heap) (C : Ctx) (a : Act) (w : World), ops.toList.drop i = r → evOps E c f ops r t H K = some res → TRel C t a.tmps → HRel C H w → Step C₀ w₀ C w → a.defers = [] → wpOps E.P ops Q (List.range' i r.length) a w
  | [], i, t, H, C, a, w, _, h, ht, hh, hs, hd => by
    simp only [List.length_nil, List.range'_zero, wpOps]
    exact hQ a w ⟨C, t, H, h, ht, hh, hs, hd⟩
  | o :: r, i, t, H, C, a, w, hr, h, ht, hh, hs, hd => by
    have ho : ops[i]? = some o := by
      have : (ops.toList.drop i)[0]? = some o := by rw [hr]; rfl
      rw [List.getElem?_drop] at this
      simpa using this
    have hr' : ops.toList.drop (i + 1) = r := by
      rw [← List.drop_drop, hr]; rfl
    simp only [List.length_cons, List.range'_succ, wpOps, ho]
    simp only [evOps] at h
    rcases guard_run ht h with ⟨hw, h⟩ | ⟨hw, h⟩
    · rw [if_pos hw]
      obtain ⟨v, H', h1, h2⟩ := evOne_run hc hh (hg.mono hs.ext) (hi.step hs) ht h
      refine .inl (h2.wp fun x w' hx => ?_)
      obtain ⟨C', k1, k2, k3⟩ := hx
      exact evOps_run hc hg hi hQ r (i + 1) _ H' C' _ w' hr' h1 ((ht.mono k3.ext).putV _ k1) k2 (hs.trans k3) (by rw [put_defers_eq]; exact hd)
    · rw [if_neg (by simp [hw])]
      exact evOps_run hc hg hi hQ r (i + 1) _ H C _ w hr' h (ht.putV _ (by simp only [Rel])) hh hs (by rw [put_defers_eq]; exact hd)

end Ev
end Go.Proofs.YthpfimildcbgmaaDoor
