/-
Atomic words of 64 bits, as told functions that look at the boxes: what they answer is what the model's entries do.
-/
import Derived.Test.YthpfimildcbgmaaDoorEvSound
import Derived.Laws.LoneSync
namespace Go.Proofs.YthpfimildcbgmaaDoor
namespace Ev
set_option linter.all false
open Go

inductive Atom where
  | load
  | store
  | swap
  | add
  | cas

def u64At (P : Program) (t : TypeId) (h : Heap) (p : V) : Option Int := match Ev.load P h t p with
  | some (.int .u64 x) => some x
  | _ => none

def atomX (P : Program) (t : TypeId) (a : Atom) (as : List V) (h : Heap) : Res := match a, as with
  | .load, [p] => (u64At P t h p).map fun x => (.int .u64 x, h)
  | .store, [p, .int .u64 y] => (u64At P t h p).bind fun _ => (storeV P h t p (.int .u64 y)).map fun h' => (.tup [], h')
  | .swap, [p, .int .u64 y] => (u64At P t h p).bind fun x => (storeV P h t p (.int .u64 y)).map fun h' => (.int .u64 x, h')
  | .add, [p, .int .u64 y] => (u64At P t h p).bind fun x => (storeV P h t p (.int .u64 (IntKind.u64.wrap (x + y)))).map fun h' => (.int .u64 (IntKind.u64.wrap (x + y)), h')
  | .cas, [p, .int .u64 o, .int .u64 y] => (u64At P t h p).bind fun x => if x = o then (storeV P h t p (.int .u64 y)).map fun h' => (.bool true, h') else (storeV P h t p (.int .u64 x)).map fun _ => (.bool false, h)
  | _, _ => none

/-- What the model has for such a function. -/
def Atom.entry : Atom → Array Value → Sem Value
  | .load => Extern.Atomic.loadT (.int .u64)
  | .store => Extern.Atomic.storeT
  | .swap => Extern.Atomic.swapT (.int .u64)
  | .add => Extern.Atomic.update (Op.intArith .add) .u64 true
  | .cas => Extern.Atomic.casT (.int .u64)

theorem u64At_rel {P : Program} {C : Ctx} {H : Heap} {w : World} {t : TypeId} {p : V} {xa : Value} {x : Int} (hh : HRel C H w) (ha : Rel C p xa) (h1 : sizeT P t = 1) (h2 : aggT P t = some false) (h : u64At P t H p = some x) :
    ∃ b o, xa = .pointer (some ⟨b, o, none⟩) ∧ w.cell? ⟨b, o, none⟩ = some (.int .u64 x) := by
  unfold u64At at h
  split at h
  · rename_i y hl
    cases h
    unfold load at hl
    rw [h1] at hl
    simp only [Nat.lt_add_one, if_true] at hl
    obtain ⟨cs, e1, e2⟩ := Option.bind_eq_some_iff.1 hl
    obtain ⟨l1, _, b, o, ys, rfl, r1, r2, _⟩ := peek_rel hh ha e1
    unfold pack at e2
    rw [h2] at e2
    cases cs with
    | nil => simp at l1
    | cons c r =>
      simp only [Option.some.injEq] at e2
      subst e2
      simp only [Rels] at r1
      obtain ⟨y, t', rfl, q1, _⟩ := r1
      simp only [Rel] at q1
      subst q1
      exact ⟨b, o, rfl, by have := r2 0 _ rfl; simpa using this⟩
  · cases h

theorem store1 {P : Program} {C : Ctx} {H H' : Heap} {w : World} {t : TypeId} {p : V} {xa : Value} {y : Int} (hh : HRel C H w) (ha : Rel C p xa) (h1 : sizeT P t = 1) (h : storeV P H t p (.int .u64 y) = some H') :
    ∃ b o C', xa = .pointer (some ⟨b, o, none⟩) ∧ w.frozen? ⟨b, o, none⟩ = false ∧ HRel C' H' (w.setCell ⟨b, o, none⟩ (.int .u64 y)) ∧ Step C w C' (w.setCell ⟨b, o, none⟩ (.int .u64 y)) := by
  obtain ⟨b, o, C', rfl, _, h0, _, q2, _, q4, q5⟩ := storeV_at hh ha (xv := .int .u64 y) (by simp only [Rel]) h
  have q2 := q2 0 (by omega)
  rw [Nat.add_zero] at q2
  exact ⟨b, o, C', rfl, q2, q4, q5⟩

/-- The model's stand-in is met. -/
structure AtomAt (P : Program) (f : Nat) (a : Atom) : Prop where
  at_ : ∃ fn, P.funcs[f]? = some fn ∧ (fn.name == "runtime.NumGoroutine") = false ∧ fn.body.isNone = true ∧ Extern.findNext fn = none ∧ Extern.find fn = some a.entry

theorem run_call_swap {P : Program} {f : FuncId} {fn : Func} (hf : P.funcs[f]? = some fn) (hname : (fn.name == "runtime.NumGoroutine") = false) (hb : fn.body.isNone = true) (hn : Extern.findNext fn = none)
    (he : Extern.find fn = some (Extern.Atomic.swapT (.int .u64))) {a : Addr} {x y : Int} {w : World} (hc : w.cell? a = some (.int .u64 x)) (hz : w.frozen? a = false) :
    (callFunc f #[.pointer (some a), .int .u64 y]).run P w = .ok (.value (.int .u64 x)) (w.setCell a (.int .u64 y)) := by
  rw [run_callFunc_extern hf hname hb hn he]
  change (Sem.run P (do
    let a' ← asAddr (.pointer (some a))
    let old ← Extern.Atomic.read (.int .u64) a'
    store a' (.int .u64 y) .atomic
    pure old) w).andThen _ = _
  simp [asAddr, Extern.Atomic.read, hc, hz, run_store P w a (.int .u64 y) .atomic rfl, Result.andThen]

theorem atom_run {P : Program} {f : Nat} {a : Atom} (hA : AtomAt P f a) {t : TypeId} (h1 : sizeT P t = 1) (h2 : aggT P t = some false) {C : Ctx} {H H' : Heap} {w : World} {as : List V} {args : Array Value} {r : V}
    (hh : HRel C H w) (ha : Rels C as args.toList) (h : atomX P t a as H = some (r, H')) : Invokes P f args w (Good C w r H') := by
  obtain ⟨fn, hf, hname, hb, hn, he⟩ := hA.at_
  obtain ⟨args⟩ := args
  simp only at ha
  unfold atomX at h
  split at h
  · rename_i p
    obtain ⟨x, e1, e2⟩ := Option.map_eq_some_iff.1 h
    cases e2
    simp only [Rels] at ha
    obtain ⟨y, _, rfl, ra, rfl⟩ := ha
    obtain ⟨b, o, rfl, hc⟩ := u64At_rel hh ra h1 h2 e1
    exact .inl ⟨_, _, run_call_load hf hname hb hn .u64 he hc, C, by simp only [Rel], hh, .refl C w⟩
  · rename_i p y
    obtain ⟨x, e1, e2⟩ := Option.bind_eq_some_iff.1 h
    obtain ⟨h', e3, e4⟩ := Option.map_eq_some_iff.1 e2
    cases e4
    simp only [Rels] at ha
    obtain ⟨z, _, rfl, ra, z2, _, rfl, rb, rfl⟩ := ha
    simp only [Rel] at rb
    subst rb
    obtain ⟨b, o, rfl, hc⟩ := u64At_rel hh ra h1 h2 e1
    obtain ⟨b', o', C', hp, hz, k1, k2⟩ := store1 hh ra h1 e3
    cases hp
    exact .inl ⟨_, _, run_call_store hf hname hb hn he hc hz, C', by simp only [Rel]; exact ⟨#[], rfl, by simp only [Rels]⟩, k1, k2⟩
  · rename_i p y
    obtain ⟨x, e1, e2⟩ := Option.bind_eq_some_iff.1 h
    obtain ⟨h', e3, e4⟩ := Option.map_eq_some_iff.1 e2
    cases e4
    simp only [Rels] at ha
    obtain ⟨z, _, rfl, ra, z2, _, rfl, rb, rfl⟩ := ha
    simp only [Rel] at rb
    subst rb
    obtain ⟨b, o, rfl, hc⟩ := u64At_rel hh ra h1 h2 e1
    obtain ⟨b', o', C', hp, hz, k1, k2⟩ := store1 hh ra h1 e3
    cases hp
    exact .inl ⟨_, _, run_call_swap hf hname hb hn he hc hz, C', by simp only [Rel], k1, k2⟩
  · rename_i p y
    obtain ⟨x, e1, e2⟩ := Option.bind_eq_some_iff.1 h
    obtain ⟨h', e3, e4⟩ := Option.map_eq_some_iff.1 e2
    cases e4
    simp only [Rels] at ha
    obtain ⟨z, _, rfl, ra, z2, _, rfl, rb, rfl⟩ := ha
    simp only [Rel] at rb
    subst rb
    obtain ⟨b, o, rfl, hc⟩ := u64At_rel hh ra h1 h2 e1
    obtain ⟨b', o', C', hp, hz, k1, k2⟩ := store1 hh ra h1 e3
    cases hp
    exact .inl ⟨_, _, run_call_add hf hname hb hn .u64 he hc hz (s := IntKind.u64.wrap (x + y)) (by rfl), C', by simp only [Rel], k1, k2⟩
  · rename_i p o y
    obtain ⟨x, e1, e2⟩ := Option.bind_eq_some_iff.1 h
    simp only [Rels] at ha
    obtain ⟨z, _, rfl, ra, z2, _, rfl, rb, z3, _, rfl, rc, rfl⟩ := ha
    simp only [Rel] at rb rc
    subst rb rc
    obtain ⟨b, o', rfl, hc⟩ := u64At_rel hh ra h1 h2 e1
    split at e2
    · rename_i hx
      subst hx
      obtain ⟨h', e3, e4⟩ := Option.map_eq_some_iff.1 e2
      cases e4
      obtain ⟨b', o'', C', hp, hz, k1, k2⟩ := store1 hh ra h1 e3
      cases hp
      exact .inl ⟨_, _, run_call_cas_hit hf hname hb hn .u64 he hc hz, C', by simp only [Rel], k1, k2⟩
    · rename_i hx
      obtain ⟨h', e3, e4⟩ := Option.map_eq_some_iff.1 e2
      cases e4
      obtain ⟨b', o'', C', hp, hz, k1, k2⟩ := store1 hh ra h1 e3
      cases hp
      exact .inl ⟨_, _, run_call_cas_miss hf hname hb hn .u64 he hc hz hx, C, by simp only [Rel], hh, .refl C w⟩
  · cases h

end Ev
end Go.Proofs.YthpfimildcbgmaaDoor
