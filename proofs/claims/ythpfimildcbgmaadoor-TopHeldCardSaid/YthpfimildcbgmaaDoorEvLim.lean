/-
The interpreter without a bound on rounds and on the depth of calls: what it answers with enough of both.
-/
import Derived.Test.YthpfimildcbgmaaDoorEvStr
namespace Go.Proofs.YthpfimildcbgmaaDoor
namespace Ev
set_option linter.all false
open Go

/-- x says no more than y. -/
def Le {α : Type} (x y : Option α) : Prop := ∀ r, x = some r → y = some r
theorem Le.refl {α : Type} (x : Option α) : Le x x := fun _ h => h
theorem Le.trans {α : Type} {x y z : Option α} (h : Le x y) (k : Le y z) : Le x z := fun r e => k r (h r e)
theorem Le.bind {α β : Type} {x y : Option α} {f g : α → Option β} (h : Le x y) (k : ∀ a, Le (f a) (g a)) : Le (x.bind f) (y.bind g) := by
  intro r e
  obtain ⟨a, h1, h2⟩ := Option.bind_eq_some_iff.1 e
  exact Option.bind_eq_some_iff.2 ⟨a, h a h1, k a r h2⟩
theorem Le.map {α β : Type} {x y : Option α} {f : α → β} (h : Le x y) : Le (x.map f) (y.map f) := by
  intro r e
  obtain ⟨a, h1, h2⟩ := Option.map_eq_some_iff.1 e
  exact Option.map_eq_some_iff.2 ⟨a, h a h1, h2⟩

noncomputable def lim {α : Type} (s : Nat → Option α) : Option α := by
  classical exact if h : ∃ r d, s d = some r then some h.choose else none
def Mono {α : Type} (s : Nat → Option α) : Prop := ∀ a b, a ≤ b → Le (s a) (s b)
theorem lim_iff {α : Type} {s : Nat → Option α} (hs : Mono s) (r : α) : lim s = some r ↔ ∃ d, s d = some r := by
  unfold lim
  split
  · rename_i h
    obtain ⟨d, hd⟩ := h.choose_spec
    constructor
    · intro e
      cases e
      exact ⟨d, hd⟩
    · rintro ⟨d', hd'⟩
      have h1 := hs d (max d d') (Nat.le_max_left _ _) _ hd
      have h2 := hs d' (max d d') (Nat.le_max_right _ _) _ hd'
      rw [h1] at h2
      exact h2
  · rename_i h
    constructor
    · intro e; cases e
    · rintro ⟨d, hd⟩; exact absurd ⟨r, d, hd⟩ h
theorem ext_some {α : Type} {x y : Option α} (h : ∀ r, x = some r ↔ y = some r) : x = y := by
  cases x with
  | some a => exact ((h a).1 rfl).symm
  | none => cases y with
    | none => rfl
    | some b => exact (h b).2 rfl

structure LeC (c c' : Calls_) : Prop where
  shared : c.shared = c'.shared
  run : ∀ g as h, Le (c.run g as h) (c'.run g as h)
theorem LeC.refl (c : Calls_) : LeC c c := ⟨rfl, fun _ _ _ => Le.refl _⟩

theorem callV_mono {c c' : Calls_} (hc : LeC c c') (g : Nat) (as : List V) (h : Heap) : Le (callV c g as h) (callV c' g as h) := by
  unfold callV
  rw [hc.shared]
  split
  · exact hc.run _ _ _
  · exact (Le.refl _).bind fun x => (hc.run _ _ _).bind fun r => Le.refl _

theorem evEff_mono {E : Env} {c c' : Calls_} (hc : LeC c c') (f : Nat) (t : List V) (o : Oper) (h : Heap) : Le (evEff E c f t o h) (evEff E c' f t o h) := by
  unfold evEff
  split <;> try exact Le.refl _
  split <;> try exact Le.refl _
  split <;> try exact Le.refl _
  exact callV_mono hc _ _ _

theorem guardV_mono {ops : Array Oper} {t : List V} {g : Option (Nat × Bool)} {a b a' b' : Res} (h1 : Le a a') (h2 : Le b b') : Le (guardV ops t g a b) (guardV ops t g a' b') := by
  unfold guardV
  split
  · exact h1
  · split
    · rename_i v _
      split <;> cases v <;> assumption
    · exact h2
    · exact Le.refl _

theorem evOps_mono {E : Env} {c c' : Calls_} (hc : LeC c c') (f : Nat) (ops : Array Oper) : ∀ (l : List Oper) (t : List V) (h : Heap) {K K' : List V → Heap → Res}, (∀ t h, Le (K t h) (K' t h)) → Le (evOps E c f ops l t h K) (evOps E c' f ops l t h K')
  | [], t, h, K, K', hk => hk t h
  | o :: r, t, h, K, K', hk => by
    simp only [evOps]
    refine guardV_mono ?_ (evOps_mono hc f ops r _ _ hk)
    simp only [evOne]
    split
    · exact (evEff_mono hc f t o h).bind fun x => evOps_mono hc f ops r _ _ hk
    · exact (Le.refl _).bind fun x => evOps_mono hc f ops r _ _ hk

theorem chk_mono {p : Prop} {a b : Res} (h : Le a b) : Le (chk p a) (chk p b) := by
  unfold chk
  split
  · exact h
  · exact Le.refl _
theorem chks_mono {a b : Res} (h : Le a b) : ∀ ps : List Prop, Le (chks ps a) (chks ps b)
  | [] => h
  | p :: r => chk_mono (chks_mono h r)

theorem evDraw_mono {E : Env} {c c' : Calls_} (hc : LeC c c') (f : Nat) (ops : Array Oper) (bf : Array Nat) : ∀ (l : List Oper) (i : Nat) (pend : List (Nat × (Heap → Option V) × V)) (past : List (Nat × Heap)) (t : List V) (h : Heap) {K K' : List V → Heap → Res}, (∀ t h, Le (K t h) (K' t h)) →
    Le (evDraw E c f ops bf i l pend past t h K) (evDraw E c' f ops bf i l pend past t h K')
  | [], i, pend, past, t, h, K, K', hk => by simp only [evDraw]; exact hk t h
  | o :: r, i, pend, past, t, h, K, K', hk => by
    simp only [evDraw]
    refine guardV_mono ?_ (evDraw_mono hc f ops bf r _ _ _ _ _ hk)
    split
    · exact (evEff_mono hc f t o h).bind fun x => chks_mono (evDraw_mono hc f ops bf r _ _ _ _ _ hk) _
    · exact (Le.refl _).bind fun x => chks_mono (evDraw_mono hc f ops bf r _ _ _ _ _ hk) _

def LeK (K K' : Kont) : Prop := ∀ ex t h, Le (K ex t h) (K' ex t h)

theorem evLoop_mono {keep : List Nat} {B B' : List V → Heap → Kont → Res} (hB : ∀ t h {K K' : Kont}, LeK K K' → Le (B t h K) (B' t h K')) : ∀ (n n' : Nat) (t : List V) (h : Heap) {K K' : Kont}, n ≤ n' → LeK K K' → Le (evLoop keep n B t h K) (evLoop keep n' B' t h K')
  | 0, _, _, _, _, _, _, _ => fun r e => by simp only [evLoop, reduceCtorEq] at e
  | n + 1, 0, _, _, _, _, hn, _ => by omega
  | n + 1, n' + 1, t, h, K, K', hn, hk => by
    simp only [evLoop]
    refine hB t h fun ex t' h' => ?_
    cases ex with
    | normal => exact evLoop_mono hB n n' _ _ (by omega) hk
    | exit id => exact hk _ _ _
    | ret => exact hk _ _ _

theorem evCode_mono {E : Env} {c c' : Calls_} (hc : LeC c c') (f : Nat) {d d' : Nat} (hd : d ≤ d') : ∀ (a : Code) (t : List V) (h : Heap) {K K' : Kont}, LeK K K' → Le (evCode E c f d a t h K) (evCode E c' f d' a t h K')
  | .skip, t, h, K, K', hk => hk _ _ _
  | .label _, t, h, K, K', hk => hk _ _ _
  | .exit _, t, h, K, K', hk => hk _ _ _
  | .ret, t, h, K, K', hk => hk _ _ _
  | .region _ ops draw, t, h, K, K', hk => by
    simp only [evCode]
    cases draw with
    | false => exact evOps_mono hc f ops _ t h fun t h => hk _ _ _
    | true => exact evDraw_mono hc f ops _ _ _ _ _ t h fun t h => hk _ _ _
  | .seq a b, t, h, K, K', hk => by
    simp only [evCode]
    refine evCode_mono hc f hd a t h fun ex t' h' => ?_
    cases ex with
    | normal => exact evCode_mono hc f hd b _ _ hk
    | exit id => exact hk _ _ _
    | ret => exact hk _ _ _
  | .cond x a b, t, h, K, K', hk => by
    simp only [evCode]
    split
    · rename_i v _
      cases v
      · exact evCode_mono hc f hd b t h hk
      · exact evCode_mono hc f hd a t h hk
    · exact Le.refl _
  | .block id a, t, h, K, K', hk => by
    simp only [evCode]
    refine evCode_mono hc f hd a t h fun ex t' h' => ?_
    cases ex with
    | normal => exact hk _ _ _
    | exit i =>
      simp only
      split
      · exact hk _ _ _
      · exact hk _ _ _
    | ret => exact hk _ _ _
  | .loop a, t, h, K, K', hk => by
    simp only [evCode]
    exact evLoop_mono (fun t h K K' hk => evCode_mono hc f hd a t h hk) d d' _ _ hd hk
  | .scope _, t, h, K, K', _ => by intro r e; simp only [evCode, reduceCtorEq] at e
  | .goto .., t, h, K, K', _ => by intro r e; simp only [evCode, reduceCtorEq] at e
  | .rangeFunc .., t, h, K, K', _ => by intro r e; simp only [evCode, reduceCtorEq] at e
  | .refuse .., t, h, K, K', _ => by intro r e; simp only [evCode, reduceCtorEq] at e

theorem evCall_succ {E : Lore} : ∀ (d g : Nat) (as : List V) (h : Heap), Le (evCall E d g as h) (evCall E (d + 1) g as h)
  | 0, g, as, h => fun r e => by simp only [evCall, reduceCtorEq] at e
  | d + 1, g, as, h => by
    intro r e
    rw [evCall] at e ⊢
    revert e
    split
    · exact id
    · split
      · split
        · split
          · exact evCode_mono (c := ⟨E.shared, evCall E d⟩) (c' := ⟨E.shared, evCall E (d + 1)⟩) ⟨rfl, fun g as h => evCall_succ d g as h⟩ _ (by omega) _ _ _ (fun _ _ _ => Le.refl _) r
          · exact id
        · exact id
      · exact id
theorem evCall_mono {E : Lore} {g : Nat} {as : List V} {h : Heap} : Mono (fun d => evCall E d g as h) := by
  intro a b hab
  induction b with
  | zero => rw [show a = 0 by omega]; exact Le.refl _
  | succ b ih =>
    by_cases e : a = b + 1
    · rw [e]; exact Le.refl _
    · exact (ih (by omega)).trans (evCall_succ b g as h)

noncomputable def callL (E : Lore) (g : Nat) (as : List V) (h : Heap) : Res := lim fun d => evCall E d g as h
noncomputable def CL (E : Lore) : Calls_ := ⟨E.shared, callL E⟩
noncomputable def CD (E : Lore) (d : Nat) : Calls_ := ⟨E.shared, evCall E d⟩
theorem callL_iff {E : Lore} {g : Nat} {as : List V} {h : Heap} {r : V × Heap} : callL E g as h = some r ↔ ∃ d, evCall E d g as h = some r := lim_iff evCall_mono r
theorem CD_CL (E : Lore) (d : Nat) : LeC (CD E d) (CL E) := ⟨rfl, fun _ _ _ r e => callL_iff.2 ⟨d, e⟩⟩
theorem CD_mono (E : Lore) {d d' : Nat} (h : d ≤ d') : LeC (CD E d) (CD E d') := ⟨rfl, fun g as H => evCall_mono d d' h⟩

noncomputable def codeL (E : Lore) (f : Nat) (a : Code) (t : List V) (h : Heap) (K : Kont) : Res := lim fun d => evCode E.toEnv (CD E d) f d a t h K
theorem evCode_Mono {E : Lore} {f : Nat} {a : Code} {t : List V} {h : Heap} {K : Kont} : Mono (fun d => evCode E.toEnv (CD E d) f d a t h K) :=
  fun _ _ hab => evCode_mono (CD_mono E hab) f hab a t h fun _ _ _ => Le.refl _
theorem codeL_iff {E : Lore} {f : Nat} {a : Code} {t : List V} {h : Heap} {K : Kont} {r : V × Heap} : codeL E f a t h K = some r ↔ ∃ d, evCode E.toEnv (CD E d) f d a t h K = some r := lim_iff evCode_Mono r

/-! A continuation is used at one state at most. -/
def exV : Ex → V
  | .normal => .nils
  | .exit id => .ptr id 0
  | .ret => .nilp
def exD : V → Option Ex
  | .nils => some .normal
  | .ptr id _ => some (.exit id)
  | .nilp => some .ret
  | _ => none
def KX : Kont := fun ex t h => some (.tup [exV ex, .tup t], h)
def unX (K : Kont) : V × Heap → Res
  | (.tup [e, .tup t], h) => (exD e).bind fun ex => K ex t h
  | _ => none
theorem unX_KX (K : Kont) (ex : Ex) (t : List V) (h : Heap) : (KX ex t h).bind (unX K) = K ex t h := by cases ex <;> rfl
def KT : List V → Heap → Res := fun t h => some (.tup t, h)
def unT (K : List V → Heap → Res) : V × Heap → Res
  | (.tup t, h) => K t h
  | _ => none

theorem guardV_bind {ops : Array Oper} {t : List V} {g : Option (Nat × Bool)} {a b : Res} {F : V × Heap → Res} : (guardV ops t g a b).bind F = guardV ops t g (a.bind F) (b.bind F) := by
  unfold guardV
  split
  · rfl
  · split
    · rename_i v _
      split <;> cases v <;> rfl
    · rfl
    · rfl
theorem chk_bind {p : Prop} {a : Res} {F : V × Heap → Res} : (chk p a).bind F = chk p (a.bind F) := by
  unfold chk
  split <;> rfl
theorem chks_bind {a : Res} {F : V × Heap → Res} : ∀ ps : List Prop, (chks ps a).bind F = chks ps (a.bind F)
  | [] => rfl
  | p :: r => by simp only [chks, chk_bind, chks_bind r]

theorem evOps_fac {E : Env} {c : Calls_} {f : Nat} {ops : Array Oper} {K : List V → Heap → Res} : ∀ (l : List Oper) (t : List V) (h : Heap), evOps E c f ops l t h K = (evOps E c f ops l t h KT).bind (unT K)
  | [], t, h => rfl
  | o :: r, t, h => by
    simp only [evOps, guardV_bind]
    rw [← evOps_fac r]
    congr 1
    simp only [evOne]
    split
    · rw [Option.bind_assoc]; congr 1; funext x; exact evOps_fac r _ _
    · rw [Option.bind_assoc]; congr 1; funext x; exact evOps_fac r _ _
theorem evDraw_fac {E : Env} {c : Calls_} {f : Nat} {ops : Array Oper} {bf : Array Nat} {K : List V → Heap → Res} : ∀ (l : List Oper) (i : Nat) (pend : List (Nat × (Heap → Option V) × V)) (past : List (Nat × Heap)) (t : List V) (h : Heap),
    evDraw E c f ops bf i l pend past t h K = (evDraw E c f ops bf i l pend past t h KT).bind (unT K)
  | [], i, pend, past, t, h => by simp only [evDraw]; rfl
  | o :: r, i, pend, past, t, h => by
    simp only [evDraw, guardV_bind]
    rw [← evDraw_fac r]
    congr 1
    split
    · rw [Option.bind_assoc]; congr 1; funext x; rw [chks_bind, ← evDraw_fac r]
    · rw [Option.bind_assoc]; congr 1; funext x; rw [chks_bind, ← evDraw_fac r]

theorem evLoop_fac {keep : List Nat} {B : List V → Heap → Kont → Res} (hB : ∀ t h (K : Kont), B t h K = (B t h KX).bind (unX K)) {K : Kont} : ∀ (n : Nat) (t : List V) (h : Heap), evLoop keep n B t h K = (evLoop keep n B t h KX).bind (unX K)
  | 0, _, _ => rfl
  | n + 1, t, h => by
    simp only [evLoop]
    rw [hB t h]
    conv => rhs; rw [hB t h]
    rw [Option.bind_assoc]
    congr 1
    funext x
    unfold unX
    split
    · rename_i e t' h'
      cases exD e with
      | none => rfl
      | some ex =>
        simp only [Option.bind_some]
        cases ex with
        | normal => exact evLoop_fac hB n _ _
        | exit id => rfl
        | ret => rfl
    · rfl

theorem unX_fac {K J J' : Kont} (h : ∀ ex t h, J ex t h = (J' ex t h).bind (unX K)) (x : V × Heap) : unX J x = (unX J' x).bind (unX K) := by
  unfold unX
  split
  · rename_i e t' h'
    cases exD e with
    | none => rfl
    | some ex => exact h ex t' h'
  · rfl

theorem evCode_fac {E : Env} {c : Calls_} {f d : Nat} : ∀ (a : Code) (t : List V) (h : Heap) (K : Kont), evCode E c f d a t h K = (evCode E c f d a t h KX).bind (unX K)
  | .skip, t, h, K => rfl
  | .label _, t, h, K => rfl
  | .exit _, t, h, K => rfl
  | .ret, t, h, K => rfl
  | .region _ ops draw, t, h, K => by
    simp only [evCode]
    cases draw with
    | false =>
      simp only
      rw [evOps_fac, evOps_fac (K := KX .normal), Option.bind_assoc]
      congr 1; funext x; unfold unT; split <;> rfl
    | true =>
      simp only
      rw [evDraw_fac, evDraw_fac (K := KX .normal), Option.bind_assoc]
      congr 1; funext x; unfold unT; split <;> rfl
  | .seq a b, t, h, K => by
    simp only [evCode]
    rw [evCode_fac a]
    conv => rhs; rw [evCode_fac a]
    rw [Option.bind_assoc]
    congr 1; funext x
    refine unX_fac (fun ex t h => ?_) x
    cases ex with
    | normal => exact evCode_fac b _ _ _
    | exit id => rfl
    | ret => rfl
  | .cond x a b, t, h, K => by
    simp only [evCode]
    split
    · rename_i v _
      cases v
      · exact evCode_fac b t h K
      · exact evCode_fac a t h K
    · rfl
  | .block id a, t, h, K => by
    simp only [evCode]
    rw [evCode_fac a]
    conv => rhs; rw [evCode_fac a]
    rw [Option.bind_assoc]
    congr 1; funext x
    refine unX_fac (fun ex t h => ?_) x
    cases ex with
    | normal => rfl
    | exit i =>
      simp only
      split <;> rfl
    | ret => rfl
  | .loop a, t, h, K => by
    simp only [evCode]
    exact evLoop_fac (fun t h K => evCode_fac a t h K) d _ _
  | .scope _, t, h, K => rfl
  | .goto .., t, h, K => rfl
  | .rangeFunc .., t, h, K => rfl
  | .refuse .., t, h, K => rfl

/-- The limit passes through a code. -/
theorem codeL_cont {E : Lore} {f : Nat} {a : Code} {t : List V} {h : Heap} {J : Nat → Kont} {K : Kont} (hj : ∀ d d', d ≤ d' → LeK (J d) (J d')) (hk : ∀ ex t h r, K ex t h = some r ↔ ∃ d, J d ex t h = some r) (r : V × Heap) :
    (∃ d, evCode E.toEnv (CD E d) f d a t h (J d) = some r) ↔ codeL E f a t h K = some r := by
  rw [codeL_iff]
  constructor
  · rintro ⟨d, e⟩
    exact ⟨d, evCode_mono (LeC.refl _) f (Nat.le_refl _) a t h (fun ex t h r e => (hk ex t h r).2 ⟨d, e⟩) r e⟩
  · rintro ⟨d, e⟩
    rw [evCode_fac] at e
    obtain ⟨x, e1, e2⟩ := Option.bind_eq_some_iff.1 e
    have key : ∃ d', unX (J d') x = some r := by
      revert e2
      unfold unX
      split
      · rename_i ex' t' h'
        cases exD ex' with
        | none => intro e2; cases e2
        | some ex => intro e2; exact (hk ex t' h' r).1 e2
      · intro e2; cases e2
    obtain ⟨d', e3⟩ := key
    refine ⟨max d d', ?_⟩
    rw [evCode_fac]
    refine Option.bind_eq_some_iff.2 ⟨x, evCode_Mono d _ (Nat.le_max_left _ _) _ e1, ?_⟩
    revert e3
    unfold unX
    split
    · rename_i ex' t' h'
      cases exD ex' with
      | none => exact id
      | some ex => exact hj d' _ (Nat.le_max_right _ _) ex t' h' r
    · exact id

section eqns
variable {E : Lore} {f : Nat} {t : List V} {h : Heap} {K : Kont}

theorem codeL_of {a : Code} {X : Res} (hx : ∀ r, (∃ d, evCode E.toEnv (CD E d) f d a t h K = some r) ↔ X = some r) : codeL E f a t h K = X := ext_some fun r => codeL_iff.trans (hx r)
theorem codeL_skip : codeL E f .skip t h K = K .normal t h := codeL_of fun r => ⟨fun ⟨_, e⟩ => e, fun e => ⟨0, e⟩⟩
theorem codeL_exit {id : Nat} : codeL E f (.exit id) t h K = K (.exit id) t h := codeL_of fun r => ⟨fun ⟨_, e⟩ => e, fun e => ⟨0, e⟩⟩
theorem codeL_ret : codeL E f .ret t h K = K .ret t h := codeL_of fun r => ⟨fun ⟨_, e⟩ => e, fun e => ⟨0, e⟩⟩

noncomputable def seqL (E : Lore) (f : Nat) (b : Code) (K : Kont) : Kont := fun ex t' h' => match ex with
  | .normal => codeL E f b t' h' K
  | .exit id => K (.exit id) t' h'
  | .ret => K .ret t' h'
theorem seqL_normal {b : Code} : seqL E f b K .normal t h = codeL E f b t h K := rfl
theorem seqL_exit {b : Code} {id : Nat} : seqL E f b K (.exit id) t h = K (.exit id) t h := rfl
theorem seqL_ret {b : Code} : seqL E f b K .ret t h = K .ret t h := rfl
theorem codeL_seq {a b : Code} : codeL E f (.seq a b) t h K = codeL E f a t h (seqL E f b K) := codeL_of fun r => by
  simp only [evCode]
  refine codeL_cont (J := fun d => seqK E.toEnv (CD E d) f d b K) (fun d d' hd ex t h => ?_) (fun ex t h r => ?_) r
  · cases ex with
    | normal => exact evCode_Mono d d' hd
    | exit id => exact Le.refl _
    | ret => exact Le.refl _
  · cases ex with
    | normal => exact codeL_iff
    | exit id => exact ⟨fun e => ⟨0, e⟩, fun ⟨_, e⟩ => e⟩
    | ret => exact ⟨fun e => ⟨0, e⟩, fun ⟨_, e⟩ => e⟩

noncomputable def condL (x : Option Bool) (E : Lore) (f : Nat) (a b : Code) (t : List V) (h : Heap) (K : Kont) : Res := match x with
  | some true => codeL E f a t h K
  | some false => codeL E f b t h K
  | none => none
theorem condL_true {a b : Code} : condL (some true) E f a b t h K = codeL E f a t h K := rfl
theorem condL_false {a b : Code} : condL (some false) E f a b t h K = codeL E f b t h K := rfl
theorem codeL_cond {x : Operand} {a b : Code} : codeL E f (.cond x a b) t h K = condL (boolOf (arg E.toEnv t x)) E f a b t h K := codeL_of fun r => by
  simp only [evCode]
  generalize arg E.toEnv t x = v
  cases v
  case bool v => cases v <;> exact codeL_iff.symm
  all_goals simp [boolOf, condL]

theorem codeL_block {id : Nat} {a : Code} : codeL E f (.block id a) t h K = codeL E f a t h (blockK id K) := codeL_of fun r => by
  simp only [evCode]
  exact codeL_iff.symm

theorem callV_cont {g : Nat} {as : List V} {h : Heap} {r : V × Heap} (e : callV (CL E) g as h = some r) : ∃ d, callV (CD E d) g as h = some r := by
  unfold callV at e ⊢
  simp only [CL, CD] at e ⊢
  cases hs : E.shared g with
  | true =>
    rw [hs] at e
    exact callL_iff.1 e
  | false =>
    rw [hs] at e
    obtain ⟨x, e1, e2⟩ := Option.bind_eq_some_iff.1 e
    obtain ⟨y, e3, e4⟩ := Option.bind_eq_some_iff.1 e2
    obtain ⟨d, e5⟩ := callL_iff.1 e3
    exact ⟨d, Option.bind_eq_some_iff.2 ⟨x, e1, Option.bind_eq_some_iff.2 ⟨y, e5, e4⟩⟩⟩

theorem evEff_cont {o : Oper} {r : V × Heap} (e : evEff E.toEnv (CL E) f t o h = some r) : ∃ d, evEff E.toEnv (CD E d) f t o h = some r := by
  revert e
  unfold evEff
  split <;> try exact fun e => ⟨0, e⟩
  split <;> try exact fun e => ⟨0, e⟩
  split <;> try exact fun e => ⟨0, e⟩
  exact callV_cont

theorem guardV_some {ops : Array Oper} {g : Option (Nat × Bool)} {a b : Res} {r : V × Heap} (e : guardV ops t g a b = some r) : (a = some r ∧ ∀ b', guardV ops t g a b' = a) ∧ (∀ a' b', guardV ops t g a' b' = a') ∨ (b = some r ∧ ∀ a' b', guardV ops t g a' b' = b') := by
  revert e
  unfold guardV
  split
  · exact fun e => .inl ⟨⟨e, fun _ => rfl⟩, fun _ _ => rfl⟩
  · split
    · rename_i v _
      split <;> cases v
      · exact fun e => .inr ⟨e, fun _ _ => rfl⟩
      · exact fun e => .inl ⟨⟨e, fun _ => rfl⟩, fun _ _ => rfl⟩
      · exact fun e => .inl ⟨⟨e, fun _ => rfl⟩, fun _ _ => rfl⟩
      · exact fun e => .inr ⟨e, fun _ _ => rfl⟩
    · exact fun e => .inr ⟨e, fun _ _ => rfl⟩
    · exact fun e => by cases e

theorem evOps_cont {ops : Array Oper} {K : List V → Heap → Res} {r : V × Heap} : ∀ (l : List Oper) (t : List V) (h : Heap), evOps E.toEnv (CL E) f ops l t h K = some r → ∃ d, evOps E.toEnv (CD E d) f ops l t h K = some r
  | [], t, h, e => ⟨0, e⟩
  | o :: q, t, h, e => by
    simp only [evOps] at e ⊢
    rcases guardV_some e with ⟨⟨e1, _⟩, e2⟩ | ⟨e1, e2⟩
    · simp only [e2]
      simp only [evOne] at e1 ⊢
      cases hi : isEff E.toEnv f o with
      | true =>
        rw [hi] at e1
        obtain ⟨x, e3, e4⟩ := Option.bind_eq_some_iff.1 e1
        obtain ⟨d, e5⟩ := evEff_cont e3
        obtain ⟨d', e6⟩ := evOps_cont q _ _ e4
        refine ⟨max d d', Option.bind_eq_some_iff.2 ⟨x, evEff_mono (CD_mono E (Nat.le_max_left _ _)) f t o h _ e5, evOps_mono (CD_mono E (Nat.le_max_right _ _)) f ops q _ _ (fun _ _ => Le.refl _) _ e6⟩⟩
      | false =>
        rw [hi] at e1
        obtain ⟨x, e3, e4⟩ := Option.bind_eq_some_iff.1 e1
        obtain ⟨d', e6⟩ := evOps_cont q _ _ e4
        exact ⟨d', Option.bind_eq_some_iff.2 ⟨x, e3, e6⟩⟩
    · simp only [e2]
      exact evOps_cont q _ _ e1

theorem chks_someL {ps : List Prop} {a : Res} {r : V × Heap} (e : chks ps a = some r) : a = some r ∧ ∀ a', chks ps a' = a' := by
  induction ps generalizing a with
  | nil => exact ⟨e, fun _ => rfl⟩
  | cons p ps ih =>
    simp only [chks, chk] at e ⊢
    split at e
    · rename_i hp
      obtain ⟨h1, h2⟩ := ih e
      exact ⟨h1, fun a' => by rw [if_pos hp, h2]⟩
    · cases e

theorem evDraw_cont {ops : Array Oper} {bf : Array Nat} {K : List V → Heap → Res} {r : V × Heap} : ∀ (l : List Oper) (i : Nat) (pend : List (Nat × (Heap → Option V) × V)) (past : List (Nat × Heap)) (t : List V) (h : Heap),
    evDraw E.toEnv (CL E) f ops bf i l pend past t h K = some r → ∃ d, evDraw E.toEnv (CD E d) f ops bf i l pend past t h K = some r
  | [], i, pend, past, t, h, e => ⟨0, by simp only [evDraw] at e ⊢; exact e⟩
  | o :: q, i, pend, past, t, h, e => by
    simp only [evDraw] at e ⊢
    rcases guardV_some e with ⟨⟨e1, _⟩, e2⟩ | ⟨e1, e2⟩
    · simp only [e2]
      cases hi : isEff E.toEnv f o with
      | true =>
        rw [hi] at e1
        obtain ⟨x, e3, e4⟩ := Option.bind_eq_some_iff.1 e1
        obtain ⟨e4, e7⟩ := chks_someL e4
        obtain ⟨d, e5⟩ := evEff_cont e3
        obtain ⟨d', e6⟩ := evDraw_cont q _ _ _ _ _ e4
        refine ⟨max d d', Option.bind_eq_some_iff.2 ⟨x, evEff_mono (CD_mono E (Nat.le_max_left _ _)) f t o h _ e5, ?_⟩⟩
        rw [e7]
        exact evDraw_mono (CD_mono E (Nat.le_max_right _ _)) f ops bf q _ _ _ _ _ (fun _ _ => Le.refl _) _ e6
      | false =>
        rw [hi] at e1
        obtain ⟨x, e3, e4⟩ := Option.bind_eq_some_iff.1 e1
        obtain ⟨e4, e7⟩ := chks_someL e4
        obtain ⟨d', e6⟩ := evDraw_cont q _ _ _ _ _ e4
        exact ⟨d', Option.bind_eq_some_iff.2 ⟨x, e3, by rw [e7]; exact e6⟩⟩
    · simp only [e2]
      exact evDraw_cont q _ _ _ _ _ e1

theorem codeL_region {id : Nat} {ops : Array Oper} : codeL E f (.region id ops false) t h K = evOps E.toEnv (CL E) f ops ops.toList t h (normK K) := codeL_of fun r => by
  simp only [evCode]
  exact ⟨fun ⟨d, e⟩ => evOps_mono (CD_CL E d) f ops _ t h (fun _ _ => Le.refl _) r e, evOps_cont _ _ _⟩
theorem codeL_draw {id : Nat} {ops : Array Oper} : codeL E f (.region id ops true) t h K = evDraw E.toEnv (CL E) f ops (Region.before ops) 0 ops.toList [] [] t h (normK K) := codeL_of fun r => by
  simp only [evCode]
  exact ⟨fun ⟨d, e⟩ => evDraw_mono (CD_CL E d) f ops _ _ _ _ _ t h (fun _ _ => Le.refl _) r e, evDraw_cont _ _ _ _ _ _⟩

/-- A loop from its head on. -/
noncomputable def loopL (E : Lore) (f : Nat) (a : Code) (t : List V) (h : Heap) (K : Kont) : Res := lim fun d => evLoop (E.keep f (codeKey a)) d (fun t' h' K' => evCode E.toEnv (CD E d) f d a t' h' K') t h K
theorem loop_Mono {a : Code} {t : List V} {h : Heap} {K : Kont} : Mono (fun d => evLoop (E.keep f (codeKey a)) d (fun t' h' K' => evCode E.toEnv (CD E d) f d a t' h' K') t h K) :=
  fun d d' hd => evLoop_mono (fun t h K K' hk => evCode_mono (CD_mono E hd) f hd a t h hk) d d' t h hd fun _ _ _ => Le.refl _
theorem loopL_iff {a : Code} {t : List V} {h : Heap} {K : Kont} {r : V × Heap} : loopL E f a t h K = some r ↔ ∃ d, evLoop (E.keep f (codeKey a)) d (fun t' h' K' => evCode E.toEnv (CD E d) f d a t' h' K') t h K = some r := lim_iff loop_Mono r
theorem codeL_loop {a : Code} : codeL E f (.loop a) t h K = loopL E f a (maskV (E.keep f (codeKey a)) 0 t) h K := codeL_of fun r => by
  simp only [evCode]
  exact loopL_iff.symm
noncomputable def roundL (E : Lore) (f : Nat) (a : Code) (K : Kont) : Kont := fun ex t' h' => match ex with
  | .normal => loopL E f a (maskV (E.keep f (codeKey a)) 0 t') h' K
  | .exit id => K (.exit id) (maskV (E.keep f (codeKey a)) 0 t') h'
  | .ret => K .ret (maskV (E.keep f (codeKey a)) 0 t') h'
theorem roundL_normal {a : Code} : roundL E f a K .normal t h = loopL E f a (maskV (E.keep f (codeKey a)) 0 t) h K := rfl
theorem roundL_exit {a : Code} {id : Nat} : roundL E f a K (.exit id) t h = K (.exit id) (maskV (E.keep f (codeKey a)) 0 t) h := rfl
theorem roundL_ret {a : Code} : roundL E f a K .ret t h = K .ret (maskV (E.keep f (codeKey a)) 0 t) h := rfl
/-- evLoop with a round less. -/
noncomputable def roundN (E : Lore) (f : Nat) (a : Code) (K : Kont) (n d : Nat) : Kont := fun ex t' h' => match ex with
  | .normal => evLoop (E.keep f (codeKey a)) n (fun t' h' K' => evCode E.toEnv (CD E d) f d a t' h' K') (maskV (E.keep f (codeKey a)) 0 t') h' K
  | .exit id => K (.exit id) (maskV (E.keep f (codeKey a)) 0 t') h'
  | .ret => K .ret (maskV (E.keep f (codeKey a)) 0 t') h'
theorem loop_one {a : Code} {n d : Nat} {t : List V} {h : Heap} : evLoop (E.keep f (codeKey a)) (n + 1) (fun t' h' K' => evCode E.toEnv (CD E d) f d a t' h' K') t h K = evCode E.toEnv (CD E d) f d a t h (roundN E f a K n d) := rfl
theorem loopL_step {a : Code} : loopL E f a t h K = codeL E f a t h (roundL E f a K) := ext_some fun r => by
  rw [loopL_iff, ← codeL_cont (J := fun d => roundN E f a K d d) (fun d d' hd ex t h => ?_) (fun ex t h r => ?_) r]
  · constructor
    · rintro ⟨d, e⟩
      cases d with
      | zero => simp only [evLoop, reduceCtorEq] at e
      | succ d =>
        rw [loop_one] at e
        refine ⟨d + 1, evCode_mono (LeC.refl _) f (Nat.le_refl _) a t h (fun ex t h => ?_) r e⟩
        cases ex with
        | normal => exact evLoop_mono (fun t h K K' hk => evCode_mono (LeC.refl _) f (Nat.le_refl _) a t h hk) d (d + 1) _ _ (by omega) fun _ _ _ => Le.refl _
        | exit id => exact Le.refl _
        | ret => exact Le.refl _
    · rintro ⟨d, e⟩
      refine ⟨d + 1, ?_⟩
      rw [loop_one]
      refine evCode_mono (CD_mono E (by omega)) f (by omega) a t h (fun ex t h => ?_) r e
      cases ex with
      | normal => exact evLoop_mono (fun t h K K' hk => evCode_mono (CD_mono E (by omega)) f (by omega) a t h hk) d d _ _ (by omega) fun _ _ _ => Le.refl _
      | exit id => exact Le.refl _
      | ret => exact Le.refl _
  · cases ex with
    | normal => exact loop_Mono d d' hd
    | exit id => exact Le.refl _
    | ret => exact Le.refl _
  · cases ex with
    | normal => exact loopL_iff
    | exit id => exact ⟨fun e => ⟨0, e⟩, fun ⟨_, e⟩ => e⟩
    | ret => exact ⟨fun e => ⟨0, e⟩, fun ⟨_, e⟩ => e⟩
end eqns

theorem callL_eq {E : Lore} {f : Nat} {as : List V} {h : Heap} {fn : Func} {b : Code} (hx : E.ext f = none) (hf : E.P.funcs[f]? = some fn) (hb : fn.body = some b) (ho : E.okf f = true) :
    callL E f as h = codeL E f b (as ++ List.replicate (fn.ntmps - as.length) .undef) h (retK E.P fn) := ext_some fun r => by
  rw [callL_iff, codeL_iff]
  constructor
  · rintro ⟨d, e⟩
    cases d with
    | zero => simp only [evCall, reduceCtorEq] at e
    | succ d => exact ⟨d, by rw [evCall_eq hx hf hb ho] at e; exact e⟩
  · rintro ⟨d, e⟩
    exact ⟨d + 1, by rw [evCall_eq hx hf hb ho]; exact e⟩

theorem callL_told {E : Lore} {f : Nat} {as : List V} {h : Heap} {k : List V → Heap → Res} (hx : E.ext f = some k) : callL E f as h = k as h := ext_some fun r => by
  rw [callL_iff]
  constructor
  · rintro ⟨d, e⟩
    cases d with
    | zero => simp only [evCall, reduceCtorEq] at e
    | succ d => simpa only [evCall, hx] using e
  · intro e
    exact ⟨1, by simpa only [evCall, hx] using e⟩
theorem callL_ext {E : Lore} {f : Nat} {as : List V} {h : Heap} {k : List V → Option V} (hx : E.ext f = some (pureX k)) : callL E f as h = (k as).map fun v => (v, h) := callL_told hx

/-- A function's answer, with rounds and depth enough. -/
def Gv (E : Lore) (f : Nat) (as : List V) (r : V) : Prop := ∃ v H, callL E f as [] = some (v, H) ∧ give H v = some r
theorem Gives.gv {E : Lore} {d f : Nat} {as : List V} {r : V} (h : Gives E d f as r) : Gv E f as r := by
  obtain ⟨v, H, h1, h2⟩ := h
  exact ⟨v, H, callL_iff.2 ⟨d, h1⟩, h2⟩
theorem Gv.gives {E : Lore} {f : Nat} {as : List V} {r : V} (h : Gv E f as r) : ∃ d, Gives E d f as r := by
  obtain ⟨v, H, h1, h2⟩ := h
  obtain ⟨d, h1⟩ := callL_iff.1 h1
  exact ⟨d, v, H, h1, h2⟩
theorem callV_gv {E : Lore} {f : Nat} {as : List V} {r : V} (h : Gv E f as r) (hs : E.shared f = false) (hp : plains as = true) (H : Heap) : callV (CL E) f as H = some (r, H) := by
  obtain ⟨v, H', h1, h2⟩ := h
  simp [callV, CL, hs, fz2s_plain H hp, h1, h2]
theorem gv_out {E : Lore} {f : Nat} {as : List V} {v : V} (h : outV (callL E f as []) = some v) (hp : v.plain = true) : Gv E f as v := by
  unfold outV at h
  obtain ⟨⟨v', H⟩, h1, rfl⟩ := Option.map_eq_some_iff.1 h
  exact ⟨v', H, h1, give_plain H hp⟩
theorem callV_shared {E : Lore} {f : Nat} {as : List V} {H : Heap} (hs : E.shared f = true) : callV (CL E) f as H = callL E f as H := by
  simp [callV, CL, hs]

/-! Branching. -/
section by_
variable {E : Lore} {f : Nat} {t : List V} {h : Heap} {K : Kont} {a b : Code} {R : Res}
theorem condL_by {p : Prop} [Decidable p] (h1 : p → codeL E f a t h K = R) (h2 : ¬p → codeL E f b t h K = R) : condL (some (decide p)) E f a b t h K = R := by
  by_cases hp : p
  · rw [decide_eq_true hp]; exact h1 hp
  · rw [decide_eq_false hp]; exact h2 hp
theorem condL_byB {p : Bool} (h1 : p = true → codeL E f a t h K = R) (h2 : p = false → codeL E f b t h K = R) : condL (some p) E f a b t h K = R := by
  cases p
  · exact h2 rfl
  · exact h1 rfl
end by_

end Ev
end Go.Proofs.YthpfimildcbgmaaDoor
