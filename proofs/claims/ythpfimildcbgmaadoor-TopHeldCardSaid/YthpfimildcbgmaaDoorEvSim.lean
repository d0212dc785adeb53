/-
How the interpreter is run by 'simp': outermost first.
-/
import Derived.Test.YthpfimildcbgmaaDoorEvSound
namespace Go.Proofs.YthpfimildcbgmaaDoor
namespace Ev
set_option linter.all false
open Go

def boolOf : V → Option Bool | .bool b => some b | _ => none

/-! Every way and every continuation under a name of its own: 'simp' finds no function to look into. -/
section eqns
variable {E : Env} {c : Calls_} {f d : Nat} {ops : Array Oper} {bf : Array Nat} {t : List V} {h : Heap}

def normK (K : Kont) : List V → Heap → Res := fun t h => K .normal t h
theorem normK_eq {K : Kont} : normK K t h = K .normal t h := rfl

def effK (x : Option (V × Heap)) (E : Env) (c : Calls_) (f : Nat) (ops : Array Oper) (dst : Option Nat) (r : List Oper) (t : List V) (K : List V → Heap → Res) : Res := x.bind fun y => evOps E c f ops r (putV t dst y.1) y.2 K
theorem effK_some {dst : Option Nat} {r : List Oper} {K : List V → Heap → Res} {v : V} {h' : Heap} : effK (some (v, h')) E c f ops dst r t K = evOps E c f ops r (putV t dst v) h' K := rfl
def rdK (x : Option V) (E : Env) (c : Calls_) (f : Nat) (ops : Array Oper) (dst : Option Nat) (r : List Oper) (t : List V) (h : Heap) (K : List V → Heap → Res) : Res := x.bind fun y => evOps E c f ops r (putV t dst y) h K
theorem rdK_some {dst : Option Nat} {r : List Oper} {K : List V → Heap → Res} {v : V} : rdK (some v) E c f ops dst r t h K = evOps E c f ops r (putV t dst v) h K := rfl
def oneK (x : Bool) (E : Env) (c : Calls_) (f : Nat) (ops : Array Oper) (o : Oper) (r : List Oper) (t : List V) (h : Heap) (K : List V → Heap → Res) : Res := match x with
  | true => effK (evEff E c f t o h) E c f ops o.dst r t K
  | false => rdK (evRd E f t o h) E c f ops o.dst r t h K
theorem oneK_true {o : Oper} {r : List Oper} {K : List V → Heap → Res} : oneK true E c f ops o r t h K = effK (evEff E c f t o h) E c f ops o.dst r t K := rfl
theorem oneK_false {o : Oper} {r : List Oper} {K : List V → Heap → Res} : oneK false E c f ops o r t h K = rdK (evRd E f t o h) E c f ops o.dst r t h K := rfl
def wayK (x : Option Bool) (E : Env) (c : Calls_) (f : Nat) (ops : Array Oper) (o : Oper) (r : List Oper) (t : List V) (h : Heap) (K : List V → Heap → Res) : Res := match x with
  | some true => oneK (isEff E f o) E c f ops o r t h K
  | some false => evOps E c f ops r (putV t o.dst .undef) h K
  | none => none
theorem wayK_true {o : Oper} {r : List Oper} {K : List V → Heap → Res} : wayK (some true) E c f ops o r t h K = oneK (isEff E f o) E c f ops o r t h K := rfl
theorem wayK_false {o : Oper} {r : List Oper} {K : List V → Heap → Res} : wayK (some false) E c f ops o r t h K = evOps E c f ops r (putV t o.dst .undef) h K := rfl

theorem guardV_way {g : Option (Nat × Bool)} {go pass : Res} : guardV ops t g go pass = (match guardB ops t g with | some true => go | some false => pass | none => none) := by
  cases g with
  | none => rfl
  | some p =>
    obtain ⟨j, want⟩ := p
    simp only [guardV, guardB]
    generalize ((ops[j]?).bind (·.dst)).map (fun d => t.getD d V.wild) = q
    cases q with
    | none => rfl
    | some v =>
      cases v <;> try rfl
      rename_i b
      cases want <;> cases b <;> rfl

def dstL : List Oper → Nat → Option Nat
  | [], _ => none
  | o :: _, 0 => o.dst
  | _ :: r, n + 1 => dstL r n
theorem dstL_eq : ∀ (l : List Oper) (j : Nat), dstL l j = (l[j]?).bind (·.dst)
  | [], j => by simp [dstL]
  | o :: r, 0 => by simp [dstL]
  | o :: r, j + 1 => by simp [dstL, dstL_eq r j]
def boolW (w : Bool) : V → Option Bool
  | .bool b => some (b == w)
  | .undef => some false
  | _ => none
def slotB : Option Nat → Bool → List V → Option Bool
  | some d, w, t => boolW w (t.getD d .wild)
  | none, _, _ => none
theorem guardB_none : guardB ops t none = some true := rfl
theorem guardB_some {j : Nat} {w : Bool} : guardB ops t (some (j, w)) = slotB (dstL ops.toList j) w t := by
  rw [dstL_eq]
  simp only [guardB, Array.getElem?_toList]
  cases (ops[j]?).bind (·.dst) with
  | none => rfl
  | some d =>
    simp only [Option.map_some, slotB]
    cases t.getD d V.wild <;> rfl

theorem evOps_nil {K : List V → Heap → Res} : evOps E c f ops [] t h K = K t h := rfl
theorem evOps_cons {o : Oper} {r : List Oper} {K : List V → Heap → Res} : evOps E c f ops (o :: r) t h K = wayK (guardB ops t o.guard) E c f ops o r t h K := by
  simp only [evOps, guardV_way, wayK, oneK, evOne, effK, rdK]
  cases guardB ops t o.guard with
  | none => rfl
  | some b => cases b <;> cases isEff E f o <;> rfl

noncomputable def effD (x : Option (V × Heap)) (E : Env) (c : Calls_) (f : Nat) (ops : Array Oper) (bf : Array Nat) (i : Nat) (dst : Option Nat) (r : List Oper) (pend : List (Nat × (Heap → Option V) × V)) (past : List (Nat × Heap)) (t : List V) (K : List V → Heap → Res) : Res := x.bind fun rv =>
  chks ((pend.filter fun p => !(bf.getD i 0).testBit p.1).map fun p => p.2.1 rv.2 = some p.2.2) (evDraw E c f ops bf (i + 1) r pend past (putV t dst rv.1) rv.2 K)
def pendAt (bf : Array Nat) (i : Nat) (h : Heap) : List (Nat × (Heap → Option V) × V) → List Prop
  | [] => []
  | p :: r => match (bf.getD i 0).testBit p.1 with | true => pendAt bf i h r | false => (p.2.1 h = some p.2.2) :: pendAt bf i h r
theorem pendAt_eq (i : Nat) (h : Heap) : ∀ pend, ((pend.filter fun p => !(bf.getD i 0).testBit p.1).map fun p => p.2.1 h = some p.2.2) = pendAt bf i h pend
  | [] => rfl
  | p :: r => by
    simp only [List.filter, pendAt]
    cases (bf.getD i 0).testBit p.1 <;> simp only [Bool.not_true, Bool.not_false, List.map_cons, pendAt_eq i h r]
def pastAt (bf : Array Nat) (i : Nat) (E : Env) (f : Nat) (t : List V) (o : Oper) (v : V) : List (Nat × Heap) → List Prop
  | [] => []
  | p :: r => match (bf.getD i 0).testBit p.1 with | true => pastAt bf i E f t o v r | false => (evRdD E f t o p.2 = some v) :: pastAt bf i E f t o v r
theorem pastAt_eq (i : Nat) (o : Oper) (v : V) : ∀ past : List (Nat × Heap), ((past.filter fun p => !(bf.getD i 0).testBit p.1).map fun p => evRdD E f t o p.2 = some v) = pastAt bf i E f t o v past
  | [] => rfl
  | p :: r => by
    simp only [List.filter, pastAt]
    cases (bf.getD i 0).testBit p.1 <;> simp only [Bool.not_true, Bool.not_false, List.map_cons, pastAt_eq i o v r]
theorem effD_some {i : Nat} {dst : Option Nat} {r : List Oper} {pend : List (Nat × (Heap → Option V) × V)} {past : List (Nat × Heap)} {K : List V → Heap → Res} {v : V} {h' : Heap} :
    effD (some (v, h')) E c f ops bf i dst r pend past t K = chks (pendAt bf i h' pend) (evDraw E c f ops bf (i + 1) r pend past (putV t dst v) h' K) := by
  simp only [effD, Option.bind_some, pendAt_eq]
noncomputable def rdD (x : Option V) (E : Env) (c : Calls_) (f : Nat) (ops : Array Oper) (bf : Array Nat) (i : Nat) (o : Oper) (r : List Oper) (pend : List (Nat × (Heap → Option V) × V)) (past : List (Nat × Heap)) (t : List V) (h : Heap) (K : List V → Heap → Res) : Res := x.bind fun v =>
  chks ((past.filter fun p => !(bf.getD i 0).testBit p.1).map fun p => evRdD E f t o p.2 = some v) (evDraw E c f ops bf (i + 1) r ((i, evRdD E f t o, v) :: pend) past (putV t o.dst v) h K)
theorem rdD_some {i : Nat} {o : Oper} {r : List Oper} {pend : List (Nat × (Heap → Option V) × V)} {past : List (Nat × Heap)} {K : List V → Heap → Res} {v : V} :
    rdD (some v) E c f ops bf i o r pend past t h K = chks (pastAt bf i E f t o v past) (evDraw E c f ops bf (i + 1) r ((i, evRdD E f t o, v) :: pend) past (putV t o.dst v) h K) := by
  simp only [rdD, Option.bind_some, pastAt_eq]
noncomputable def oneD (x : Bool) (E : Env) (c : Calls_) (f : Nat) (ops : Array Oper) (bf : Array Nat) (i : Nat) (o : Oper) (r : List Oper) (pend : List (Nat × (Heap → Option V) × V)) (past : List (Nat × Heap)) (t : List V) (h : Heap) (K : List V → Heap → Res) : Res := match x with
  | true => effD (evEff E c f t o h) E c f ops bf i o.dst r pend ((i, h) :: past) t K
  | false => rdD (evRdD E f t o h) E c f ops bf i o r pend past t h K
theorem oneD_true {i : Nat} {o : Oper} {r : List Oper} {pend : List (Nat × (Heap → Option V) × V)} {past : List (Nat × Heap)} {K : List V → Heap → Res} : oneD true E c f ops bf i o r pend past t h K = effD (evEff E c f t o h) E c f ops bf i o.dst r pend ((i, h) :: past) t K := rfl
theorem oneD_false {i : Nat} {o : Oper} {r : List Oper} {pend : List (Nat × (Heap → Option V) × V)} {past : List (Nat × Heap)} {K : List V → Heap → Res} : oneD false E c f ops bf i o r pend past t h K = rdD (evRdD E f t o h) E c f ops bf i o r pend past t h K := rfl
noncomputable def wayD (x : Option Bool) (E : Env) (c : Calls_) (f : Nat) (ops : Array Oper) (bf : Array Nat) (i : Nat) (o : Oper) (r : List Oper) (pend : List (Nat × (Heap → Option V) × V)) (past : List (Nat × Heap)) (t : List V) (h : Heap) (K : List V → Heap → Res) : Res := match x with
  | some true => oneD (isEff E f o) E c f ops bf i o r pend past t h K
  | some false => evDraw E c f ops bf (i + 1) r pend past (putV t o.dst .undef) h K
  | none => none
theorem wayD_true {i : Nat} {o : Oper} {r : List Oper} {pend : List (Nat × (Heap → Option V) × V)} {past : List (Nat × Heap)} {K : List V → Heap → Res} : wayD (some true) E c f ops bf i o r pend past t h K = oneD (isEff E f o) E c f ops bf i o r pend past t h K := rfl
theorem wayD_false {i : Nat} {o : Oper} {r : List Oper} {pend : List (Nat × (Heap → Option V) × V)} {past : List (Nat × Heap)} {K : List V → Heap → Res} : wayD (some false) E c f ops bf i o r pend past t h K = evDraw E c f ops bf (i + 1) r pend past (putV t o.dst .undef) h K := rfl
theorem evDraw_nil {i : Nat} {pend : List (Nat × (Heap → Option V) × V)} {past : List (Nat × Heap)} {K : List V → Heap → Res} : evDraw E c f ops bf i [] pend past t h K = K t h := by simp only [evDraw]
theorem evDraw_cons {i : Nat} {o : Oper} {r : List Oper} {pend : List (Nat × (Heap → Option V) × V)} {past : List (Nat × Heap)} {K : List V → Heap → Res} : evDraw E c f ops bf i (o :: r) pend past t h K = wayD (guardB ops t o.guard) E c f ops bf i o r pend past t h K := by
  simp only [evDraw, guardV_way, wayD, oneD, effD, rdD]
  cases guardB ops t o.guard with
  | none => rfl
  | some b => cases b <;> cases isEff E f o <;> rfl

theorem rdx {o : Oper} : evRdD E f t o h = blindK (blindB (E.blind f) o.dst) (evRd E f t o h) := rfl
theorem blindB_nil {d : Option Nat} : blindB [] d = false := rfl
theorem blindB_none {l : List Nat} : blindB l none = false := by cases l <;> rfl
theorem blindB_cons {l : List Nat} {a d : Nat} : blindB (a :: l) (some d) = bif a == d then true else blindB l (some d) := rfl
theorem blindK_f {x : Option V} : blindK false x = x := rfl
theorem blindK_t {v : V} : blindK true (some v) = some .wild := rfl
theorem evCode_skip {K : Kont} : evCode E c f d .skip t h K = K .normal t h := rfl
theorem evCode_exit {id : Nat} {K : Kont} : evCode E c f d (.exit id) t h K = K (.exit id) t h := rfl
theorem evCode_ret {K : Kont} : evCode E c f d .ret t h K = K .ret t h := rfl
theorem evCode_region {id : Nat} {K : Kont} : evCode E c f d (.region id ops false) t h K = evOps E c f ops ops.toList t h (normK K) := rfl
theorem evCode_draw {id : Nat} {K : Kont} : evCode E c f d (.region id ops true) t h K = evDraw E c f ops (Region.before ops) 0 ops.toList [] [] t h (normK K) := rfl
noncomputable def seqK (E : Env) (c : Calls_) (f d : Nat) (b : Code) (K : Kont) : Kont := fun ex t' h' => match ex with
  | .normal => evCode E c f d b t' h' K
  | .exit id => K (.exit id) t' h'
  | .ret => K .ret t' h'
theorem evCode_seq {a b : Code} {K : Kont} : evCode E c f d (.seq a b) t h K = evCode E c f d a t h (seqK E c f d b K) := rfl
theorem seqK_normal {b : Code} {K : Kont} : seqK E c f d b K .normal t h = evCode E c f d b t h K := rfl
theorem seqK_exit {b : Code} {K : Kont} {id : Nat} : seqK E c f d b K (.exit id) t h = K (.exit id) t h := rfl
theorem seqK_ret {b : Code} {K : Kont} : seqK E c f d b K .ret t h = K .ret t h := rfl
noncomputable def condK (x : Option Bool) (E : Env) (c : Calls_) (f d : Nat) (a b : Code) (t : List V) (h : Heap) (K : Kont) : Res := match x with
  | some true => evCode E c f d a t h K
  | some false => evCode E c f d b t h K
  | none => none
theorem condK_true {a b : Code} {K : Kont} : condK (some true) E c f d a b t h K = evCode E c f d a t h K := rfl
theorem condK_false {a b : Code} {K : Kont} : condK (some false) E c f d a b t h K = evCode E c f d b t h K := rfl
theorem evCode_cond {x : Operand} {a b : Code} {K : Kont} : evCode E c f d (.cond x a b) t h K = condK (boolOf (arg E t x)) E c f d a b t h K := by
  simp only [evCode]
  cases arg E t x <;> try rfl
  rename_i v
  cases v <;> rfl
def blockK (id : Nat) (K : Kont) : Kont := fun ex t' h' => match ex with
  | .normal => K .normal t' h'
  | .exit i => if i = id then K .normal t' h' else K (.exit i) t' h'
  | .ret => K .ret t' h'
def exitK (x : Bool) (i : Nat) (t : List V) (h : Heap) (K : Kont) : Res := match x with
  | true => K .normal t h
  | false => K (.exit i) t h
theorem exitK_true {i : Nat} {K : Kont} : exitK true i t h K = K .normal t h := rfl
theorem exitK_false {i : Nat} {K : Kont} : exitK false i t h K = K (.exit i) t h := rfl
theorem evCode_block {id : Nat} {a : Code} {K : Kont} : evCode E c f d (.block id a) t h K = evCode E c f d a t h (blockK id K) := rfl
theorem blockK_normal {id : Nat} {K : Kont} : blockK id K .normal t h = K .normal t h := rfl
theorem blockK_exit {id : Nat} {K : Kont} {i : Nat} : blockK id K (.exit i) t h = exitK (i == id) i t h K := by
  simp only [blockK, exitK]
  by_cases e : i = id
  · simp [e]
  · have : (i == id) = false := by simpa using e
    rw [if_neg e, this]
theorem blockK_ret {id : Nat} {K : Kont} : blockK id K .ret t h = K .ret t h := rfl
/-- A loop, as a thing of its own. -/
noncomputable def loopV (E : Env) (c : Calls_) (f d n : Nat) (a : Code) (t : List V) (h : Heap) (K : Kont) : Res := evLoop (E.keep f (codeKey a)) n (fun t' h' K' => evCode E c f d a t' h' K') t h K
theorem evCode_loop {a : Code} {K : Kont} : evCode E c f d (.loop a) t h K = loopV E c f d d a (maskV (E.keep f (codeKey a)) 0 t) h K := rfl
noncomputable def roundK (E : Env) (c : Calls_) (f d n : Nat) (a : Code) (K : Kont) : Kont := fun ex t' h' => match ex with
  | .normal => loopV E c f d n a (maskV (E.keep f (codeKey a)) 0 t') h' K
  | .exit id => K (.exit id) (maskV (E.keep f (codeKey a)) 0 t') h'
  | .ret => K .ret (maskV (E.keep f (codeKey a)) 0 t') h'
theorem loopV_succ {n : Nat} {a : Code} {K : Kont} : loopV E c f d (n + 1) a t h K = evCode E c f d a t h (roundK E c f d n a K) := rfl
theorem roundK_normal {n : Nat} {a : Code} {K : Kont} : roundK E c f d n a K .normal t h = loopV E c f d n a (maskV (E.keep f (codeKey a)) 0 t) h K := rfl
theorem roundK_exit {n : Nat} {a : Code} {K : Kont} {id : Nat} : roundK E c f d n a K (.exit id) t h = K (.exit id) (maskV (E.keep f (codeKey a)) 0 t) h := rfl
theorem roundK_ret {n : Nat} {a : Code} {K : Kont} : roundK E c f d n a K .ret t h = K .ret (maskV (E.keep f (codeKey a)) 0 t) h := rfl
theorem chks_pend_nil {i : Nat} {k : Res} : chks (pendAt bf i h []) k = k := rfl
theorem chks_pend_cons {i : Nat} {k : Res} {p : Nat × (Heap → Option V) × V} {pend : List (Nat × (Heap → Option V) × V)} (h1 : p.2.1 h = some p.2.2) : chks (pendAt bf i h (p :: pend)) k = chks (pendAt bf i h pend) k := by
  simp only [pendAt]
  cases (bf.getD i 0).testBit p.1
  · simp only [chks, h1, chk, if_true]
  · rfl
theorem chks_past_nil {i : Nat} {k : Res} {o : Oper} {v : V} : chks (pastAt bf i E f t o v []) k = k := rfl
theorem chks_past_cons {i : Nat} {k : Res} {o : Oper} {v : V} {p : Nat × Heap} {past : List (Nat × Heap)} (h1 : evRdD E f t o p.2 = some v) : chks (pastAt bf i E f t o v (p :: past)) k = chks (pastAt bf i E f t o v past) k := by
  simp only [pastAt]
  cases (bf.getD i 0).testBit p.1
  · simp only [chks, h1, chk, if_true]
  · rfl
end eqns

def doneK (x : Option (List V)) (h : Heap) : Res := x.map fun l => (Ev.resV l, h)
theorem doneK_some {l : List V} {h : Heap} : doneK (some l) h = some (Ev.resV l, h) := rfl
theorem retK_normal {P : Program} {fn : Func} {t : List V} {h : Heap} : retK P fn .normal t h = doneK (Ev.results P fn.results.toList t h) h := rfl
theorem retK_ret {P : Program} {fn : Func} {t : List V} {h : Heap} : retK P fn .ret t h = doneK (Ev.results P fn.results.toList t h) h := rfl
theorem evCall_eq {E : Lore} {d f : Nat} {as : List V} {h : Heap} {fn : Func} {b : Code} (hx : E.ext f = none) (hf : E.P.funcs[f]? = some fn) (hb : fn.body = some b) (ho : E.okf f = true) :
    evCall E (d + 1) f as h = evCode E.toEnv ⟨E.shared, evCall E d⟩ f d b (as ++ List.replicate (fn.ntmps - as.length) .undef) h (retK E.P fn) := by
  simp only [evCall, hx, hf, hb, ho]

theorem chk_true {k : Res} : chk True k = k := by unfold chk; rw [if_pos trivial]
theorem chks_nil {k : Res} : chks [] k = k := rfl
theorem chks_cons {p : Prop} {ps : List Prop} {k : Res} : chks (p :: ps) k = chk p (chks ps k) := rfl

theorem get_new {α : Type} (H l : List α) (k : Nat) : (H ++ l)[H.length + k]? = l[k]? := by
  rw [List.getElem?_append_right (by omega)]; congr 1; omega
theorem get_new0 {α : Type} (H l : List α) : (H ++ l)[H.length]? = l[0]? := get_new H l 0
theorem set_new {α : Type} (H l : List α) (k : Nat) (x : α) : (H ++ l).set (H.length + k) x = H ++ l.set k x := by
  rw [List.set_append_right _ _ (by omega)]; congr 2; omega
theorem set_new0 {α : Type} (H l : List α) (x : α) : (H ++ l).set H.length x = H ++ l.set 0 x := set_new H l 0 x

theorem fz1_plain (h : Heap) {v : V} (k : v.plain = true) : fz1 h v = some (v, h) := by
  cases v <;> simp_all [fz1, V.plain]
theorem fz1s_plain (h : Heap) : ∀ {l : List V}, plains l = true → fz1s h l = some (l, h)
  | [], _ => rfl
  | v :: r, k => by
    simp only [plains, Bool.and_eq_true] at k
    simp [fz1s, fz1_plain h k.1, fz1s_plain h k.2]
theorem fz2_plain (h : Heap) {v : V} (k : v.plain = true) : fz2 h v = some (v, h) := by
  cases v
  case agg cs => simp only [V.plain] at k; simp [fz2, fz1s_plain h k]
  all_goals exact fz1_plain h k
theorem fz2s_plain (h : Heap) : ∀ {l : List V}, plains l = true → fz2s h l = some (l, h)
  | [], _ => rfl
  | v :: r, k => by
    simp only [plains, Bool.and_eq_true] at k
    simp [fz2s, fz2_plain h k.1, fz2s_plain h k.2]
theorem give_plain (h : Heap) {v : V} (k : v.plain = true) : give h v = some v := by
  cases v
  case tup cs => simp only [V.plain] at k; simp [give, fz2s_plain h k]
  all_goals simp [give, fz2_plain h k]

/-- A function's answer, for a call that looks alone. -/
def Gives (E : Lore) (d f : Nat) (as : List V) (r : V) : Prop := ∃ v H, evCall E d f as [] = some (v, H) ∧ give H v = some r

theorem callV_gives {E : Lore} {d f : Nat} {as : List V} {r : V} (h : Gives E d f as r) (hs : E.shared f = false) (hp : plains as = true) (H : Heap) : callV ⟨E.shared, evCall E d⟩ f as H = some (r, H) := by
  obtain ⟨v, H', h1, h2⟩ := h
  simp [callV, hs, fz2s_plain H hp, h1, h2]

end Ev
end Go.Proofs.YthpfimildcbgmaaDoor
