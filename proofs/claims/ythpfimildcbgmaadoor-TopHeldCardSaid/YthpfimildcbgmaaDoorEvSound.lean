/-
What the interpreter answers is what the model's machine answers.
-/
import Derived.Test.YthpfimildcbgmaaDoorEvDraw2
namespace Go.Proofs.YthpfimildcbgmaaDoor
namespace Ev
set_option linter.all false
open Go

/-- A function's body: every region that draws its order was looked through. -/
def codeOk (E : Env) (f : Nat) : Code → Bool
  | .region _ ops true => drawOk E f ops (Region.before ops)
  | .seq a b => codeOk E f a && codeOk E f b
  | .cond _ a b => codeOk E f a && codeOk E f b
  | .block _ a => codeOk E f a
  | .loop a => codeOk E f a
  | _ => true

def exOf : Ex → Exit
  | .normal => .normal
  | .exit id => .exit id
  | .ret => .ret

theorem Rels_mask {C : Ctx} (keep : List Nat) : ∀ (t : List V) (ys : List Value) (i : Nat), Rels C t ys → Rels C (maskV keep i t) ys
  | [], ys, i, h => h
  | v :: r, ys, i, h => by
    simp only [Rels] at h
    obtain ⟨y, t, rfl, h1, h2⟩ := h
    simp only [maskV, Rels]
    refine ⟨y, t, rfl, ?_, Rels_mask keep r t (i + 1) h2⟩
    split
    · exact h1
    · simp only [Rel]

theorem Led.defers {C₀ : Ctx} {w₀ : World} {K : List V → Heap → Res} {res : V × Heap} {a : Act} {w : World} (h : Led C₀ w₀ K res a w) : a.defers = [] := by
  obtain ⟨C, t, H, _, _, _, _, hd⟩ := h
  exact hd

def CodeRuns (E : Env) (C₀ : Ctx) (w₀ : World) (res : V × Heap) (code : Code) (ev : List V → Heap → Kont → Res) : Prop :=
  ∀ (K : Kont) (Q : Exit → Act → World → Prop), (∀ ex a w, Led C₀ w₀ (K ex) res a w → Q (exOf ex) a w) →
    ∀ (t : List V) (H : Heap) (C : Ctx) (a : Act) (w : World), ev t H K = some res → TRel C t a.tmps → HRel C H w → Step C₀ w₀ C w → a.defers = [] → code.wp E.P Q a w

theorem least {p : Nat → Prop} : ∀ n, p n → ∃ m, p m ∧ ∀ k, p k → m ≤ k := by
  intro n
  induction n using Nat.strongRecOn with
  | _ n ih =>
    intro h
    by_cases hk : ∃ k, k < n ∧ p k
    · obtain ⟨k, h1, h2⟩ := hk
      exact ih k h1 h2
    · exact ⟨n, h, fun k hp => Nat.le_of_not_lt fun hlt => hk ⟨k, hlt, hp⟩⟩

theorem evLoop_run {E : Env} {C₀ : Ctx} {w₀ : World} {res : V × Heap} {code : Code} {B : List V → Heap → Kont → Res} (hB : CodeRuns E C₀ w₀ res code B) (keep : List Nat) (d : Nat) :
    CodeRuns E C₀ w₀ res (.loop code) fun t H K => evLoop keep d B t H K := by
  intro K Q hQ t H C a w h ht hh hs hd
  -- so many rounds are enough
  let J : Nat → Act → World → Prop := fun n a w => Led C₀ w₀ (fun t H => evLoop keep n B t H K) res a w
  classical
  refine wp_loop (fun a w => ∃ m, J m a w ∧ ∀ k, J k a w → m ≤ k) (fun a w => if h : ∃ m, J m a w ∧ ∀ k, J k a w → m ≤ k then Classical.choose h else 0) (least (p := fun n => J n a w) d ⟨C, t, H, h, ht, hh, hs, hd⟩) fun a w hI => ?_
  obtain ⟨hJ, hmin⟩ := Classical.choose_spec hI
  generalize hn : Classical.choose hI = n at hJ hmin
  obtain ⟨C, t, H, h, ht, hh, hs, hd⟩ := hJ
  cases n with
  | zero => simp only [evLoop, reduceCtorEq] at h
  | succ n =>
    simp only [evLoop] at h
    refine hB _ _ (fun ex a' w' hl => ?_) t H C a w h ht hh hs hd
    cases ex with
    | normal =>
      obtain ⟨C', t', H', h', ht', hh', hs', hd'⟩ := hl
      have hn' : J n a' w' := ⟨C', maskV keep 0 t', H', h', Rels_mask keep _ _ 0 ht', hh', hs', hd'⟩
      have hI' := least (p := fun n => J n a' w') n hn'
      refine ⟨hI', ?_⟩
      rw [dif_pos hI', dif_pos hI, hn]
      exact Nat.lt_succ_of_le ((Classical.choose_spec hI').2 n hn')
    | exit id =>
      obtain ⟨C', t', H', h', ht', hh', hs', hd'⟩ := hl
      exact hQ (.exit id) a' w' ⟨C', maskV keep 0 t', H', h', Rels_mask keep _ _ 0 ht', hh', hs', hd'⟩
    | ret =>
      obtain ⟨C', t', H', h', ht', hh', hs', hd'⟩ := hl
      exact hQ .ret a' w' ⟨C', maskV keep 0 t', H', h', Rels_mask keep _ _ 0 ht', hh', hs', hd'⟩

theorem evCode_run {W₀ : Array Obj} {E : Env} {c : Calls_} (hc : CallsOk W₀ E c) (hm : E.P.follows .mixedOrders = true) {f d : Nat} {C₀ : Ctx} {w₀ : World} (hg : GRel E C₀) (hi : Inv W₀ C₀ w₀) {res : V × Heap} :
    ∀ (code : Code), codeOk E f code = true → CodeRuns E C₀ w₀ res code (evCode E c f d code)
  | .skip, _ => fun K Q hQ t H C a w h ht hh hs hd => by
    simp only [evCode] at h
    exact wp_skip (hQ .normal a w ⟨C, t, H, h, ht, hh, hs, hd⟩)
  | .label l, _ => fun K Q hQ t H C a w h ht hh hs hd => by
    simp only [evCode] at h
    exact wp_label (hQ .normal a w ⟨C, t, H, h, ht, hh, hs, hd⟩)
  | .exit id, _ => fun K Q hQ t H C a w h ht hh hs hd => by
    simp only [evCode] at h
    exact wp_exit (hQ (.exit id) a w ⟨C, t, H, h, ht, hh, hs, hd⟩)
  | .ret, _ => fun K Q hQ t H C a w h ht hh hs hd => by
    simp only [evCode] at h
    exact wp_ret (hQ .ret a w ⟨C, t, H, h, ht, hh, hs, hd⟩)
  | .region id ops false, _ => fun K Q hQ t H C a w h ht hh hs hd => by
    simp only [evCode] at h
    refine wp_region ?_
    have := evOps_run hc hg hi (fun a w hl => hQ .normal a w hl) ops.toList 0 t H C a w (by simp) h ht hh hs hd
    rw [List.range_eq_range']
    simpa using this
  | .region id ops true, hk => fun K Q hQ t H C a w h ht hh hs hd => by
    simp only [evCode] at h
    simp only [codeOk] at hk
    exact wp_region_any hm (evDraw_run hc (drawOk_spec hk) hg hi (fun a w hl => hQ .normal a w hl) h ht hh.drew (hs.trans (Step.drew C w)) hd)
  | .seq x y, hk => fun K Q hQ t H C a w h ht hh hs hd => by
    simp only [evCode] at h
    simp only [codeOk, Bool.and_eq_true] at hk
    refine wp_seq (evCode_run hc hm hg hi x hk.1 _ _ (fun ex a' w' hl => ?_) t H C a w h ht hh hs hd)
    cases ex with
    | normal =>
      obtain ⟨C', t', H', h', ht', hh', hs', hd'⟩ := hl
      exact evCode_run hc hm hg hi y hk.2 K Q hQ t' H' C' a' w' h' ht' hh' hs' hd'
    | exit id => exact hQ (.exit id) a' w' hl
    | ret => exact hQ .ret a' w' hl
  | .cond x p q, hk => fun K Q hQ t H C a w h ht hh hs hd => by
    simp only [evCode] at h
    simp only [codeOk, Bool.and_eq_true] at hk
    have hx := arg_rel (hg.mono hs.ext) ht x
    split at h
    · rename_i v hv
      rw [hv] at hx
      simp only [Rel] at hx
      refine wp_cond (t := v) hx ?_
      cases v with
      | true => exact evCode_run hc hm hg hi p hk.1 K Q hQ t H C a w h ht hh hs hd
      | false => exact evCode_run hc hm hg hi q hk.2 K Q hQ t H C a w h ht hh hs hd
    · cases h
  | .block id x, hk => fun K Q hQ t H C a w h ht hh hs hd => by
    simp only [evCode] at h
    simp only [codeOk] at hk
    refine wp_block (evCode_run hc hm hg hi x hk _ _ (fun ex a' w' hl => ?_) t H C a w h ht hh hs hd)
    cases ex with
    | normal => exact hQ .normal a' w' hl
    | exit i =>
      simp only [exOf, Exit.inBlock]
      by_cases e : i = id
      · rw [if_pos e]
        simp only [if_pos e] at hl
        exact hQ .normal a' w' hl
      · rw [if_neg e]
        simp only [if_neg e] at hl
        exact hQ (.exit i) a' w' hl
    | ret => exact hQ .ret a' w' hl
  | .loop x, hk => fun K Q hQ t H C a w h ht hh hs hd => by
    simp only [evCode] at h
    simp only [codeOk] at hk
    exact evLoop_run (evCode_run hc hm hg hi x hk) _ d K Q hQ _ H C a w h (Rels_mask _ _ _ 0 ht) hh hs hd
  | .rangeFunc .., _ => fun K Q hQ t H C a w h => by simp only [evCode, reduceCtorEq] at h
  | .scope .., _ => fun K Q hQ t H C a w h => by simp only [evCode, reduceCtorEq] at h
  | .goto .., _ => fun K Q hQ t H C a w h => by simp only [evCode, reduceCtorEq] at h
  | .refuse .., _ => fun K Q hQ t H C a w h => by simp only [evCode, reduceCtorEq] at h

theorem results_list {P : Program} {C : Ctx} {H : Heap} {w : World} (hh : HRel C H w) {t : List V} {ts : Array Value} (ht : TRel C t ts) : ∀ (rs : List ResultVar) (l : List V), Ev.results P rs t H = some l →
    ∃ vs : List Value, (rs.mapM fun r => (match r with | .tmp t => pure (ts.getD t undef) | .cell a t => do loadVar t (← asAddr (ts.getD a undef)) : Sem Value)).run P w = .ok vs w ∧ Rels C l vs
  | [], l, h => by
    simp only [Ev.results, Option.some.injEq] at h
    subst h
    exact ⟨[], by simp, by simp only [Rels]⟩
  | .tmp i :: r, l, h => by
    simp only [Ev.results] at h
    obtain ⟨l', h', rfl⟩ := Option.map_eq_some_iff.1 h
    obtain ⟨vs, h1, h2⟩ := results_list hh ht r l' h'
    refine ⟨ts.getD i undef :: vs, ?_, ?_⟩
    · simp only [List.mapM_cons, Sem.run_bind, Sem.run_pure, Result.andThen_ok, h1]
    · simp only [Rels]
      exact ⟨_, _, rfl, ht.get i, h2⟩
  | .cell i ty :: r, l, h => by
    simp only [Ev.results] at h
    obtain ⟨v, hv, h⟩ := Option.bind_eq_some_iff.1 h
    obtain ⟨l', h', rfl⟩ := Option.map_eq_some_iff.1 h
    obtain ⟨vs, h1, h2⟩ := results_list hh ht r l' h'
    obtain ⟨y, k1, k2⟩ := load_run hh (ht.get i) hv
    refine ⟨y :: vs, ?_, ?_⟩
    · have : (asAddr (ts.getD i undef) >>= fun x => loadVar ty x).run P w = .ok y w := by
        rw [← k1]
        unfold Instr.loadAt
        generalize ts.getD i undef = z at k1 ⊢
        cases z
        case pointer p =>
          cases p with
          | none => simp [Instr.loadAt, Instr.sureAddr] at k1
          | some p => rfl
        all_goals simp [Instr.loadAt, Instr.sureAddr] at k1
      simp only [List.mapM_cons, Sem.run_bind, Sem.run_pure, Result.andThen_ok] at this ⊢
      simp only [this, Result.andThen_ok, h1]
    · simp only [Rels]
      exact ⟨_, _, rfl, k2, h2⟩

theorem results_run {P : Program} {C : Ctx} {H : Heap} {w : World} (hh : HRel C H w) {t : List V} {ts : Array Value} (ht : TRel C t ts) {fn : Func} {l : List V} (h : Ev.results P fn.results.toList t H = some l) :
    ∃ x, (Go.results fn ts).run P w = .ok x w ∧ Rel C (resV l) x := by
  obtain ⟨vs, h1, h2⟩ := results_list hh ht _ _ h
  have hl := Rels_length _ _ h2
  refine ⟨if h : vs.toArray.size = 1 then vs.toArray[0] else .tuple vs.toArray, ?_, ?_⟩
  · unfold Go.results
    have : (fn.results.mapM fun r => (match r with | .tmp t => pure (ts.getD t undef) | .cell a t => do loadVar t (← asAddr (ts.getD a undef)) : Sem Value)).run P w = .ok vs.toArray w := by
      rw [← Array.toArray_toList (xs := fn.results), List.mapM_toArray]
      simp only [Sem.run_map, h1]
      rfl
    rw [Sem.run_bind]
    refine (congrArg (fun q => Result.andThen q fun a w' => Sem.run P (pure (if h : a.size = 1 then a[0] else Value.tuple a)) w') this).trans ?_
    simp
  · unfold resV
    split
    · rename_i v
      simp only [Rels] at h2
      obtain ⟨y, t', rfl, h3, rfl⟩ := h2
      simpa using h3
    · rename_i l' hne
      have : vs.toArray.size ≠ 1 := by
        intro e
        simp at e
        rw [← hl] at e
        match l, e with
        | [v], _ => exact hne v rfl
      rw [dif_neg this]
      simp only [Rel]
      exact ⟨_, rfl, h2⟩

structure LoreOk (E : Lore) (W₀ : Array Obj) : Prop where
  mixed : E.P.follows .mixedOrders = true
  fns : ∀ g fn b, E.okf g = true → E.P.funcs[g]? = some fn → fn.body = some b → (fn.name == "runtime.NumGoroutine") = false ∧ codeOk E.toEnv g b = true
  ext : ∀ g k, E.ext g = some k → ∀ (as : List V) (v : V) (C : Ctx) (H H' : Heap) (w : World) (args : Array Value), k as H = some (v, H') → GRel E.toEnv C → Inv W₀ C w → HRel C H w → Rels C as args.toList → Invokes E.P g args w (Good C w v H')

theorem evCall_run {E : Lore} {W₀ : Array Obj} (hE : LoreOk E W₀) : ∀ d : Nat, CallsOk W₀ E.toEnv ⟨E.shared, evCall E d⟩
  | 0, g, as, H, r, H', h => by simp only [evCall, reduceCtorEq] at h
  | d + 1, g, as, H, r, H', h => by
    intro C w args hg hi hh ha
    simp only [evCall] at h
    split at h
    · rename_i k hk
      exact hE.ext g k hk as r C H H' w args h hg hi hh ha
    · split at h
      · rename_i fn hf
        split at h
        · rename_i b hb
          split at h
          · rename_i hok
            obtain ⟨hn, hcode⟩ := hE.fns g fn b hok hf hb
            have hn' : ¬ fn.name = "runtime.NumGoroutine" := by simpa using hn
            refine .inr ⟨?_, ?_⟩
            · simp [callFunc, hf, hn', hb]
            · refine calls_of_wp hf hb (evCode_run (evCall_run hE d) hE.mixed hg hi b hcode (retK E.P fn) _ (fun ex a w' hl => ?_) _ H C _ w h ?_ hh (.refl C w) rfl)
              · have key : Led C w (fun t h => (Ev.results E.P fn.results.toList t h).map fun l => (resV l, h)) (r, H') a w' → a.defers = [] ∧ ∃ v, (Go.results fn a.tmps).run E.P w' = .ok v w' ∧ Back (Good C w r H') (.returned v) w' := by
                  rintro ⟨C', t', H1, h1, ht', hh', hs', hd'⟩
                  obtain ⟨l, h2, h1⟩ := Option.map_eq_some_iff.1 h1
                  cases h1
                  obtain ⟨x, q1, q2⟩ := results_run hh' ht' h2
                  exact ⟨hd', x, q1, C', q2, hh', hs'⟩
                cases ex with
                | normal => exact key hl
                | ret => exact key hl
                | exit id =>
                  obtain ⟨C', t', H1, h1, _⟩ := hl
                  simp only [retK, reduceCtorEq] at h1
              · have hlen := Rels_length _ _ ha
                unfold TRel
                simp only [Array.toList_append, Array.toList_replicate]
                have : args.size = as.length := by simpa using hlen.symm
                rw [this]
                exact Rels_append ha (Rels_replicate (by simp only [Rel]) _)
          · cases h
        · cases h
      · cases h

/-- The interpreter's word on a call. -/
theorem evCall_calls {E : Lore} {W₀ : Array Obj} (hE : LoreOk E W₀) {d g : Nat} {as : List V} {H H' : Heap} {r : V} {fn : Func} {b : Code} (hf : E.P.funcs[g]? = some fn) (hb : fn.body = some b) (hx : E.ext g = none) (h : evCall E d g as H = some (r, H')) {C : Ctx} {w : World} {args : Array Value}
    (hg : GRel E.toEnv C) (hi : Inv W₀ C w) (hh : HRel C H w) (ha : Rels C as args.toList) : Calls E.P g args w (Back (Good C w r H')) := by
  have h0 := h
  rcases evCall_run hE d g as H r H' h C w args hg hi hh ha with ⟨x, w', h1, h2⟩ | ⟨_, h2⟩
  · exfalso
    cases d with
    | zero => simp only [evCall, reduceCtorEq] at h
    | succ d =>
      simp only [evCall, hx, hf, hb] at h
      split at h
      · rename_i hok
        obtain ⟨hn, _⟩ := hE.fns g fn b hok hf hb
        have hn' : ¬ fn.name = "runtime.NumGoroutine" := by simpa using hn
        simp [callFunc, hf, hn', hb] at h1
      · cases h
  · exact h2

end Ev
end Go.Proofs.YthpfimildcbgmaaDoor
