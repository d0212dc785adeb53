/-
From the interpreter's word on a law to the row's: the call returns true, all that lay before the call stays as it was.
-/
import Derived.Test.YthpfimildcbgmaaDoorEvLim
import Derived.Test.YthpfimildcbgmaaDoorEvRun
import Derived.ProofKit
import Derived.Carry
namespace Go.Proofs.YthpfimildcbgmaaDoor
namespace Ev
set_option linter.all false
open Go Go.RowKit

/-- At the call's beginning: no box; all cells are stable. -/
def C0 (W : World) : Ctx := ⟨0, fun _ => ⟨none, 0, 0⟩, fun _ => false, fun _ => 0, W.cell?⟩
theorem HRel.start (W : World) : HRel (C0 W) [] W := ⟨rfl, fun h bx hx => by simp at hx, fun h h' b hn => absurd hn (Nat.not_lt_zero _), fun a v h => h, fun h bx b a v hx => by simp at hx⟩
theorem Inv.start (W : World) : Inv W.heap (C0 W) W := ⟨fun _ _ => rfl, Nat.le_refl _, fun h b hn => absurd hn (Nat.not_lt_zero _)⟩
theorem Step.below {W W' : World} {C' : Ctx} (s : Step (C0 W) W C' W') : Below W.heap.size W W' :=
  ⟨s.os, s.tape, s.output, s.size, fun b hb => s.block b hb fun h hn => absurd hn (Nat.not_lt_zero _)⟩

theorem give_bool {H : Heap} {v : V} {b : Bool} (h : give H v = some (.bool b)) : v = .bool b := by
  cases v with
  | tup l =>
    simp only [give] at h
    obtain ⟨x, _, h⟩ := Option.map_eq_some_iff.1 h
    cases h
  | agg l =>
    simp only [give, fz2, Option.map_map] at h
    obtain ⟨x, _, h⟩ := Option.map_eq_some_iff.1 h
    cases h
  | row i n =>
    simp only [give, fz2, fz1] at h
    obtain ⟨x, h1, h⟩ := Option.map_eq_some_iff.1 h
    split at h1
    · split at h1
      · cases h1; cases h
      · cases h1
    · cases h1
  | bool c => simpa [give, fz2, fz1, V.plain] using h
  | _ =>
    simp only [give, fz2, fz1] at h
    obtain ⟨x, h1, h⟩ := Option.map_eq_some_iff.1 h
    split at h1
    · cases h1; cases h
    · cases h1

theorem law_calls {E : Lore} {W : World} (hE : LoreOk E W.heap) {g : Nat} {fn : Func} {b : Code} (hf : E.P.funcs[g]? = some fn) (hb : fn.body = some b) (hx : E.ext g = none) {as : List V} {args : Array Value}
    (h : ans (callL E g as []) = some (.bool true)) (hg : GRel E.toEnv (C0 W)) (ha : Rels (C0 W) as args.toList) : Calls E.P g args W fun e W' => e = .returned (.bool true) ∧ Below W.heap.size W W' := by
  obtain ⟨⟨v, H'⟩, h1, h2⟩ := Option.bind_eq_some_iff.1 h
  obtain rfl := give_bool h2
  obtain ⟨d, h1⟩ := callL_iff.1 h1
  refine (evCall_calls hE hf hb hx h1 hg (Inv.start W) (HRel.start W) ha).mono fun e W' he => ?_
  cases e with
  | returned x =>
    obtain ⟨C', r, _, s⟩ := he
    simp only [Rel] at r
    subst r
    exact ⟨rfl, s.below⟩
  | _ => cases he

section
variable {H : Type} {enc : TypeId × Value → H} {P : Program}
theorem trodAll_stays (hl : laidOutB P = true) {W W' : World} (hb : Below W.heap.size W W') : ∀ (ts : List TypeId) (vs : List Value) (ds : List (DataW H)) (ps : List MemPlace), (∀ t ∈ ts, P.readableRec t = true ∧ t < P.types.size) → (∀ x ∈ ps, x.block < W.heap.size) →
    DataW.TrodAll enc P W 0 (fun _ => true) true ts vs ds ps → DataW.TrodAll enc P W' 0 (fun b => decide (b < W.heap.size)) true ts vs ds ps
  | [], [], [], ps, _, _, h => h
  | t :: ts, v :: vs, d :: ds, ps, hr, hlt, h => by
    obtain ⟨p, q, h1, h2, rfl⟩ := h
    refine ⟨p, q, Below.trod hl (hr t (by simp)).1 (hr t (by simp)).2 h1 hb fun x hx => hlt x (by simp [hx]), trodAll_stays hl hb ts vs ds q (fun t ht => hr t (by simp [ht])) (fun x hx => hlt x (by simp [hx])) h2, rfl⟩
  | [], [], _ :: _, ps, _, _, h => by cases h
  | [], _ :: _, _, ps, _, _, h => by cases h
  | _ :: _, [], _, ps, _, _, h => by cases h
  | _ :: _, _ :: _, [], ps, _, _, h => by cases h

/-- A law's row: the results are true, the arguments read as they did. -/
theorem law_post (hl : laidOutB P = true) {f : Func} {s : ChangeSpec} {W W' : World} {args : Array Value} {ds : List (DataW H)} {before : List MemPlace}
    (hr : ∀ t ∈ f.params.toList, P.readableRec t = true ∧ t < P.types.size) (hs : s.vars = [])
    (hW : DataW.Whole enc P f.params.toList s.vars false W args.toList ds [] before) (hb : Below W.heap.size W W')
    {tb : TypeId} (hrt : f.resultTypes.toList = [tb]) (hbool : P.underlying tb = some .bool) (hsz : f.resultTypes.size = 1)
    (hfn : s.fn H (ds ++ []) = { results := [.lit (.bool true)], args := ds }) : s.post enc P f false true false false W args (.bool true) W' := by
  have hW' := hW
  obtain ⟨p, q, hA, hV, rfl, hfz, hnd⟩ := hW
  rw [hs] at hV
  obtain ⟨_, rfl⟩ := ChangeShapes.trodVars_none hV
  refine ⟨ds, [], p ++ [], [], p, [], hW', ?_, ?_, ?_, ?_, fun h => by cases h⟩
  · rw [hfn, hrt, hsz]
    exact ChangeShapes.trodAll_mk1 (shut_bool hbool _)
  · rw [hfn]
    refine trodAll_stays hl hb _ _ _ _ hr (fun x hx => ?_) hA
    exact hW'.lt x (by simpa using hx)
  · rw [hs, hfn]; rfl
  · exact hb.frame _
end

end Ev
end Go.Proofs.YthpfimildcbgmaaDoor
