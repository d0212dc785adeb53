/-
What 'simp' runs the interpreter by: one bundle of equations; laws for branching.
-/
import Derived.Test.YthpfimildcbgmaaDoorEvLim
namespace Go.Proofs.YthpfimildcbgmaaDoor
namespace Ev
set_option linter.all false
open Go

/-! The operations, one equation each. -/
section ops
variable {E : Env} {f : Nat} {t : List V} {h : Heap} {c : Calls_} {d : Option Tmp} {ty : TypeId} {pos : String} {af : Array Edge} {g : Option (Nat × Bool)}
theorem rd_move {x : Operand} : evRd E f t ⟨d, .move x, ty, pos, af, g⟩ h = some (arg E t x) := rfl
theorem rd_assign {x : Operand} : evRd E f t ⟨d, .assign x, ty, pos, af, g⟩ h = some (arg E t x) := rfl
def pickO (c x y : V) : Option V := match c with | .bool c' => some (pickV c' x y) | _ => none
theorem rd_pick {q a b : Operand} : evRd E f t ⟨d, .pick q a b, ty, pos, af, g⟩ h = pickO (arg E t q) (arg E t a) (arg E t b) := rfl
theorem pickO_bool {c : Bool} {x y : V} : pickO (.bool c) x y = some (pickV c x y) := rfl
theorem rd_build {k : TypeId} {ps : Array (Nat × Operand)} : evRd E f t ⟨d, .build k ps, ty, pos, af, g⟩ h = build E.P k (ps.toList.map fun p => (p.1, arg E t p.2)) := rfl
theorem rd_load {k : TypeId} {a : Operand} : evRd E f t ⟨d, .load k a, ty, pos, af, g⟩ h = Ev.load E.P h k (arg E t a) := rfl
def nilO : V → Option V
  | .ptr i j => some (.ptr i j)
  | .eptr i j k l => some (.eptr i j k l)
  | .iptr cs => some (.iptr cs)
  | .fn g a b => some (.fn g a b)
  | _ => none
theorem rd_nil {x : Operand} : evRd E f t ⟨d, .nilCheck x, ty, pos, af, g⟩ h = nilO (arg E t x) := rfl
theorem rd_bin {op : BinOp} {k k' : TypeId} {x y : Operand} : evRd E f t ⟨d, .binOp op k x y k', ty, pos, af, g⟩ h = bin E.P op k (arg E t x) (arg E t y) := rfl
theorem rd_un {op : UnOp} {k : TypeId} {x : Operand} : evRd E f t ⟨d, .unOp op k x, ty, pos, af, g⟩ h = un op (arg E t x) := rfl
def convO (P : Program) (h : Heap) (src dst : TypeId) (x : V) : Option V := match P.underlying src, P.underlying dst with
    | some (.slice _), some .string => convStr P h src dst x
    | _, _ => conv P src dst x
theorem rd_conv {s k : TypeId} {x : Operand} : evRd E f t ⟨d, .convert s k x, ty, pos, af, g⟩ h = convO E.P h s k (arg E t x) := rfl
theorem rd_func {n : Nat} {a b : Array Operand} : evRd E f t ⟨d, .makeFunc (.func n) a b, ty, pos, af, g⟩ h = some (.fn n (args E t a) (args E t b)) := rfl
theorem rd_fieldAddr {k : TypeId} {x : Operand} {i : Nat} : evRd E f t ⟨d, .fieldAddr k x i, ty, pos, af, g⟩ h = fieldAddr E.P k (arg E t x) i := rfl
theorem rd_field {k : TypeId} {x : Operand} {i : Nat} : evRd E f t ⟨d, .field k x i, ty, pos, af, g⟩ h = field E.P k (arg E t x) i := rfl
def idxA (P : Program) (h : Heap) (k : TypeId) (x i : V) : Option V := match i with | .int _ n => indexAddr P h k x n | _ => none
theorem rd_indexAddr {k : TypeId} {x i : Operand} : evRd E f t ⟨d, .indexAddr k x i, ty, pos, af, g⟩ h = idxA E.P h k (arg E t x) (arg E t i) := rfl
theorem idxA_int {P : Program} {k : TypeId} {x : V} {q : IntKind} {n : Int} : idxA P h k x (.int q n) = indexAddr P h k x n := rfl
def idxO (P : Program) (k : TypeId) (x i : V) : Option V := match i with | .int _ n => index P k x n | _ => none
theorem rd_index {k : TypeId} {x i : Operand} : evRd E f t ⟨d, .index k x i, ty, pos, af, g⟩ h = idxO E.P k (arg E t x) (arg E t i) := rfl
theorem idxO_int {P : Program} {k : TypeId} {x : V} {q : IntKind} {n : Int} : idxO P k x (.int q n) = index P k x n := rfl
def extrO (x : V) (i : Nat) : Option V := match x with | .tup vs => vs[i]? | _ => none
theorem rd_extract {x : Operand} {i : Nat} : evRd E f t ⟨d, .extract x i, ty, pos, af, g⟩ h = extrO (arg E t x) i := rfl
theorem extrO_tup {vs : List V} {i : Nat} : extrO (.tup vs) i = vs[i]? := rfl
def lenO (P : Program) (h : Heap) (k : Option TypeId) (l : List V) : Option V := match k, l with | some ty, [x] => lenV P h ty x | _, _ => none
theorem rd_len {as : Array Operand} {ts : Array TypeId} : evRd E f t ⟨d, .call ⟨.builtin .len, as, ts⟩, ty, pos, af, g⟩ h = lenO E.P h ts[0]? (args E t as) := rfl
theorem lenO_one {P : Program} {k : TypeId} {x : V} : lenO P h (some k) [x] = lenV P h k x := rfl
theorem rd_min {as : Array Operand} {ts : Array TypeId} : evRd E f t ⟨d, .call ⟨.builtin .min, as, ts⟩, ty, pos, af, g⟩ h = foldsV minV (args E t as) := rfl
theorem rd_max {as : Array Operand} {ts : Array TypeId} : evRd E f t ⟨d, .call ⟨.builtin .max, as, ts⟩, ty, pos, af, g⟩ h = foldsV maxV (args E t as) := rfl
theorem rd_buildSlice {k : TypeId} {n : Nat} {ps : Array (Nat × Operand)} : evRd E f t ⟨d, .buildSlice k n ps, ty, pos, af, g⟩ h = (match E.P.underlying k with
    | some (.slice e) => if 0 < sizeT E.P e ∧ n * sizeT E.P e ≤ 2 ^ 24 ∧ (zeroV E.P e).isSome = true then (litV E.P e 0 (ps.toList.map fun p => (p.1, arg E t p.2))).bind (fun es => if es.length = n then some (.sl es (sizeT E.P e) true) else none) else none
    | _ => none) := rfl
def strSl (P : Program) (h : Heap) (k : TypeId) (x : V) (lo hi mx : Option V) : Option V := match P.underlying k with
    | some .string => (sliceV P h k x lo hi mx).map (·.1)
    | _ => none
theorem rd_slice {k : TypeId} {x : Operand} {lo hi mx : Option Operand} : evRd E f t ⟨d, .slice k x lo hi mx, ty, pos, af, g⟩ h = strSl E.P h k (arg E t x) (lo.map (arg E t)) (hi.map (arg E t)) (mx.map (arg E t)) := rfl

def allocO (h : Heap) (n : Nat) (z : Option V) : Option (V × Heap) := z.bind fun z => if 0 < n ∧ z.cells.length = n ∧ ones z.cells = true then some (.ptr h.length 0, h ++ [⟨z.cells, 0, false, false⟩]) else none
theorem eff_alloc {k : TypeId} : evEff E c f t ⟨d, .alloc k, ty, pos, af, g⟩ h = allocO h (sizeT E.P k) (zeroV E.P k) := rfl
theorem eff_box {k : TypeId} {x : Operand} : evEff E c f t ⟨d, .box k x, ty, pos, af, g⟩ h = allocO h (sizeT E.P k) (some (arg E t x)) := rfl
theorem allocO_some {n : Nat} {z : V} : allocO h n (some z) = if 0 < n ∧ z.cells.length = n ∧ ones z.cells = true then some (.ptr h.length 0, h ++ [⟨z.cells, 0, false, false⟩]) else none := rfl
def storeO (x : Option Heap) : Option (V × Heap) := x.map fun h' => (.undef, h')
theorem eff_store {k : TypeId} {a x : Operand} : evEff E c f t ⟨d, .store k a x, ty, pos, af, g⟩ h = storeO (storeV E.P h k (arg E t a) (arg E t x)) := rfl
theorem storeO_some {h' : Heap} : storeO (some h') = some (.undef, h') := rfl
def callO (c : Calls_) (x : V) (as : List V) (h : Heap) : Option (V × Heap) := match x with | .fn g first cap => callV c g (first ++ as ++ cap) h | _ => none
theorem eff_call {x : Operand} {as : Array Operand} {ts : Array TypeId} : evEff E c f t ⟨d, .call ⟨.value x, as, ts⟩, ty, pos, af, g⟩ h = callO c (arg E t x) (args E t as) h := rfl
theorem callO_fn {n : Nat} {a b as : List V} : callO c (.fn n a b) as h = callV c n (a ++ as ++ b) h := rfl
def appO (P : Program) (h : Heap) (ts : List TypeId) (l : List V) : Option (V × Heap) := match ts, l with
      | [ty, ty'], [x, y] => (srcV P h (elemT P ty) ty' y).bind fun ys => appendV P h ty x ys
      | _, _ => none
theorem eff_append {as : Array Operand} {ts : Array TypeId} : evEff E c f t ⟨d, .call ⟨.builtin .append, as, ts⟩, ty, pos, af, g⟩ h = appO E.P h ts.toList (args E t as) := rfl
theorem appO_two {P : Program} {k k' : TypeId} {x y : V} : appO P h [k, k'] [x, y] = (srcV P h (elemT P k) k' y).bind fun ys => appendV P h k x ys := rfl
def mksO (P : Program) (h : Heap) (k : TypeId) (l m : V) : Option (V × Heap) := match P.underlying k, l, m with
    | some (.slice e), .int _ n, .int _ m => (zeroV P e).bind fun z => if 0 ≤ n ∧ n ≤ m ∧ m * bytesT P e ≤ maxLen47 ∧ m ≤ maxLen47 ∧ 0 < sizeT P e ∧ z.cells.length = sizeT P e ∧ ones z.cells = true ∧ z.plain = true then
        some (.row h.length n.toNat, h ++ [⟨List.replicate n.toNat z, sizeT P e, true, false⟩]) else none
    | _, _, _ => none
theorem eff_make {k : TypeId} {l m : Operand} : evEff E c f t ⟨d, .makeSlice k l m, ty, pos, af, g⟩ h = mksO E.P h k (arg E t l) (arg E t m) := rfl
theorem eff_slice {k : TypeId} {x : Operand} {lo hi mx : Option Operand} : evEff E c f t ⟨d, .slice k x lo hi mx, ty, pos, af, g⟩ h = (match mx.isSome && hi.isNone with
    | true => none
    | false => sliceV E.P h k (arg E t x) (lo.map (arg E t)) (hi.map (arg E t)) (mx.map (arg E t))) := rfl

/-! Which kind an operation is. -/
theorem ef_move {x : Operand} : isEff E f ⟨d, .move x, ty, pos, af, g⟩ = false := rfl
theorem ef_assign {x : Operand} : isEff E f ⟨d, .assign x, ty, pos, af, g⟩ = false := rfl
theorem ef_pick {q a b : Operand} : isEff E f ⟨d, .pick q a b, ty, pos, af, g⟩ = false := rfl
theorem ef_build {k : TypeId} {ps : Array (Nat × Operand)} : isEff E f ⟨d, .build k ps, ty, pos, af, g⟩ = false := rfl
theorem ef_buildSlice {k : TypeId} {n : Nat} {ps : Array (Nat × Operand)} : isEff E f ⟨d, .buildSlice k n ps, ty, pos, af, g⟩ = false := rfl
theorem ef_load {k : TypeId} {a : Operand} : isEff E f ⟨d, .load k a, ty, pos, af, g⟩ = false := rfl
theorem ef_nil {x : Operand} : isEff E f ⟨d, .nilCheck x, ty, pos, af, g⟩ = false := rfl
theorem ef_bin {op : BinOp} {k k' : TypeId} {x y : Operand} : isEff E f ⟨d, .binOp op k x y k', ty, pos, af, g⟩ = false := rfl
theorem ef_un {op : UnOp} {k : TypeId} {x : Operand} : isEff E f ⟨d, .unOp op k x, ty, pos, af, g⟩ = false := rfl
theorem ef_conv {s k : TypeId} {x : Operand} : isEff E f ⟨d, .convert s k x, ty, pos, af, g⟩ = false := rfl
theorem ef_func {n : Fn} {a b : Array Operand} : isEff E f ⟨d, .makeFunc n a b, ty, pos, af, g⟩ = false := rfl
theorem ef_fieldAddr {k : TypeId} {x : Operand} {i : Nat} : isEff E f ⟨d, .fieldAddr k x i, ty, pos, af, g⟩ = false := rfl
theorem ef_field {k : TypeId} {x : Operand} {i : Nat} : isEff E f ⟨d, .field k x i, ty, pos, af, g⟩ = false := rfl
theorem ef_indexAddr {k : TypeId} {x i : Operand} : isEff E f ⟨d, .indexAddr k x i, ty, pos, af, g⟩ = false := rfl
theorem ef_index {k : TypeId} {x i : Operand} : isEff E f ⟨d, .index k x i, ty, pos, af, g⟩ = false := rfl
theorem ef_extract {x : Operand} {i : Nat} : isEff E f ⟨d, .extract x i, ty, pos, af, g⟩ = false := rfl
theorem ef_len {as : Array Operand} {ts : Array TypeId} : isEff E f ⟨d, .call ⟨.builtin .len, as, ts⟩, ty, pos, af, g⟩ = false := rfl
theorem ef_min {as : Array Operand} {ts : Array TypeId} : isEff E f ⟨d, .call ⟨.builtin .min, as, ts⟩, ty, pos, af, g⟩ = false := rfl
theorem ef_max {as : Array Operand} {ts : Array TypeId} : isEff E f ⟨d, .call ⟨.builtin .max, as, ts⟩, ty, pos, af, g⟩ = false := rfl
theorem ef_alloc {k : TypeId} : isEff E f ⟨d, .alloc k, ty, pos, af, g⟩ = true := rfl
theorem ef_box {k : TypeId} {x : Operand} : isEff E f ⟨d, .box k x, ty, pos, af, g⟩ = !((d.map fun d => (E.imm f).contains d).getD false) := rfl
theorem ef_store {k : TypeId} {a x : Operand} : isEff E f ⟨d, .store k a x, ty, pos, af, g⟩ = true := rfl
theorem ef_call {x : Operand} {as : Array Operand} {ts : Array TypeId} : isEff E f ⟨d, .call ⟨.value x, as, ts⟩, ty, pos, af, g⟩ = true := rfl
theorem ef_append {as : Array Operand} {ts : Array TypeId} : isEff E f ⟨d, .call ⟨.builtin .append, as, ts⟩, ty, pos, af, g⟩ = true := rfl
theorem ef_make {k : TypeId} {l m : Operand} : isEff E f ⟨d, .makeSlice k l m, ty, pos, af, g⟩ = true := rfl
def strT (P : Program) (k : TypeId) : Bool := match P.underlying k with | some .string => false | _ => true
theorem ef_slice {k : TypeId} {x : Operand} {lo hi mx : Option Operand} : isEff E f ⟨d, .slice k x lo hi mx, ty, pos, af, g⟩ = strT E.P k := rfl
end ops

/-! Slots: a list by its length, what stands where nothing was put, and what was put, the latest first. -/
def look (z : V) : List (Nat × V) → Nat → V
  | [], _ => z
  | (i, v) :: r, j => bif i == j then v else look z r j
def Sl (n : Nat) (z : V) (l : List (Nat × V)) : List V := (List.range n).map (look z l)
def pickL (z : V) (l : List (Nat × V)) : List Nat → List (Nat × V)
  | [] => []
  | k :: ks => (k, look z l k) :: pickL z l ks
def enumL (i : Nat) : List V → List (Nat × V)
  | [] => []
  | v :: r => (i, v) :: enumL (i + 1) r
theorem look_hit {z : V} {i : Nat} {v : V} {r : List (Nat × V)} : look z ((i, v) :: r) i = v := by simp [look]
theorem look_cons {z : V} {i j : Nat} {v : V} {r : List (Nat × V)} : look z ((i, v) :: r) j = bif i == j then v else look z r j := rfl
theorem look_nil {z : V} {j : Nat} : look z [] j = z := rfl
theorem Sl_length {n : Nat} {z : V} {l : List (Nat × V)} : (Sl n z l).length = n := by simp [Sl]
theorem Sl_get {n : Nat} {z : V} {l : List (Nat × V)} {j : Nat} : (Sl n z l)[j]? = if j < n then some (look z l j) else none := by
  simp only [Sl, List.getElem?_map]
  by_cases h : j < n
  · simp [h]
  · simp [h]
theorem Sl_getD {n : Nat} {z : V} {l : List (Nat × V)} {j : Nat} {w : V} : (Sl n z l).getD j w = if j < n then look z l j else w := by
  rw [List.getD_eq_getElem?_getD, Sl_get]
  split <;> rfl
theorem Sl_set {n i : Nat} {z v : V} {l : List (Nat × V)} : (Sl n z l).set i v = Sl n z ((i, v) :: l) := by
  apply List.ext_getElem?
  intro j
  rw [List.getElem?_set, Sl_length, Sl_get, Sl_get]
  by_cases h : i = j
  · subst h
    by_cases h2 : i < n
    · simp [h2, look]
    · simp [h2]
  · have : (i == j) = false := by simpa using h
    simp only [h, if_false, look, this, cond_false]
theorem Sl_put {n i : Nat} {z v : V} {l : List (Nat × V)} : putV (Sl n z l) (some i) v = Sl n z ((i, v) :: l) := Sl_set
theorem maskV_get (keep : List Nat) : ∀ (t : List V) (i j : Nat), (maskV keep i t)[j]? = (t[j]?).map fun v => match keep.contains (i + j) with | true => v | false => .wild
  | [], i, j => by simp [maskV]
  | v :: r, i, 0 => by simp only [maskV, List.getElem?_cons_zero, Option.map_some, Nat.add_zero]; rfl
  | v :: r, i, j + 1 => by
    simp only [maskV, List.getElem?_cons_succ, maskV_get keep r (i + 1) j]
    rw [show i + 1 + j = i + (j + 1) by omega]
theorem look_pickL {z : V} {l : List (Nat × V)} {j : Nat} : ∀ ks : List Nat, look .wild (pickL z l ks) j = match ks.contains j with | true => look z l j | false => .wild
  | [] => rfl
  | k :: ks => by
    simp only [pickL, look, look_pickL ks]
    by_cases h : k = j
    · subst h; simp
    · have h1 : (k == j) = false := by simpa using h
      have h2 : (j == k) = false := by simpa using fun e => h e.symm
      simp only [h1, cond_false, List.contains_cons, h2, Bool.false_or]
theorem Sl_mask {n : Nat} {z : V} {l : List (Nat × V)} {keep : List Nat} : maskV keep 0 (Sl n z l) = Sl n .wild (pickL z l keep) := by
  apply List.ext_getElem?
  intro j
  rw [maskV_get, Sl_get, Sl_get, look_pickL, Nat.zero_add]
  by_cases hj : j < n
  · simp only [hj, if_true, Option.map_some]
  · simp only [hj, if_false, Option.map_none]
theorem look_enumL {z : V} : ∀ (as : List V) (i j : Nat), look z (enumL i as) (i + j) = (as[j]?).getD z
  | [], i, j => rfl
  | v :: r, i, 0 => by simp [enumL, look]
  | v :: r, i, j + 1 => by
    simp only [enumL, look]
    have : (i == i + (j + 1)) = false := by simp
    rw [this, cond_false, show i + (j + 1) = i + 1 + j by omega, look_enumL r (i + 1) j]
    simp
theorem Sl_start {as : List V} {n : Nat} (h : as.length ≤ n) : as ++ List.replicate (n - as.length) .undef = Sl n .undef (enumL 0 as) := by
  apply List.ext_getElem?
  intro j
  rw [Sl_get]
  have hl := look_enumL (z := .undef) as 0 j
  rw [Nat.zero_add] at hl
  rw [hl, List.getElem?_append]
  by_cases h1 : j < as.length
  · rw [if_pos h1, if_pos (by omega)]
    simp [h1]
  · rw [if_neg h1, List.getElem?_replicate, List.getElem?_eq_none (by omega)]
    by_cases h2 : j < n
    · rw [if_pos (by omega), if_pos h2]; rfl
    · rw [if_neg (by omega), if_neg h2]
theorem Sl_arg {E : Env} {n : Nat} {z : V} {l : List (Nat × V)} {j : Nat} : arg E (Sl n z l) (.tmp j) = if j < n then look z l j else .wild := Sl_getD
theorem call_start {E : Lore} {f : Nat} {as : List V} {h : Heap} {fn : Func} {b : Code} (hx : E.ext f = none) (hf : E.P.funcs[f]? = some fn) (hb : fn.body = some b) (ho : E.okf f = true) (hn : as.length ≤ fn.ntmps) :
    callL E f as h = codeL E f b (Sl fn.ntmps .undef (enumL 0 as)) h (retK E.P fn) := by rw [callL_eq hx hf hb ho, Sl_start hn]
theorem Sl_slotB {d n : Nat} {w : Bool} {z : V} {l : List (Nat × V)} : slotB (some d) w (Sl n z l) = boolW w (if d < n then look z l d else .wild) := by simp only [slotB, Sl_getD]
theorem Sl_results {P : Program} {n i : Nat} {z : V} {l : List (Nat × V)} {r : List ResultVar} {h : Heap} : Ev.results P (.tmp i :: r) (Sl n z l) h = (Ev.results P r (Sl n z l) h).map fun q => (if i < n then look z l i else .wild) :: q := by simp only [Ev.results, Sl_getD]
theorem results_nil {P : Program} {t : List V} {h : Heap} : Ev.results P [] t h = some [] := rfl
theorem results_cell {P : Program} {a : Nat} {ty : TypeId} {r : List ResultVar} {n : Nat} {z : V} {l : List (Nat × V)} {h : Heap} : Ev.results P (.cell a ty :: r) (Sl n z l) h = (Ev.load P h ty (if a < n then look z l a else .wild)).bind fun v => (Ev.results P r (Sl n z l) h).map fun l => v :: l := by simp only [Ev.results, Sl_getD]
theorem retK_normal' {P : Program} {fn : Func} {t : List V} {h : Heap} : retK P fn .normal t h = doneK (Ev.results P fn.results.toList t h) h := rfl
theorem resV_two {x y : V} {r : List V} : resV (x :: y :: r) = .tup (x :: y :: r) := rfl
theorem resV_nil : resV [] = .tup [] := rfl

/-! Regions. -/
section region
variable {E : Env} {c : Calls_} {f : Nat} {ops : Array Oper} {t : List V} {h : Heap} {K : List V → Heap → Res} {r : List Oper} {d : Option Tmp} {ty : TypeId} {pos : String} {af : Array Edge}
theorem ops_guard {op : Op} {j : Nat} {w : Bool} : evOps E c f ops (⟨d, op, ty, pos, af, some (j, w)⟩ :: r) t h K = wayK (slotB (dstL ops.toList j) w t) E c f ops ⟨d, op, ty, pos, af, none⟩ r t h K := by
  rw [evOps_cons, guardB_some]
  unfold wayK oneK
  rfl
theorem ops_move {x : Operand} : evOps E c f ops (⟨d, .move x, ty, pos, af, none⟩ :: r) t h K = evOps E c f ops r (putV t d (arg E t x)) h K := rfl
theorem ops_assign {x : Operand} : evOps E c f ops (⟨d, .assign x, ty, pos, af, none⟩ :: r) t h K = evOps E c f ops r (putV t d (arg E t x)) h K := rfl
theorem ops_pick {q a b : Operand} : evOps E c f ops (⟨d, .pick q a b, ty, pos, af, none⟩ :: r) t h K = rdK (pickO (arg E t q) (arg E t a) (arg E t b)) E c f ops d r t h K := rfl
theorem ops_build {k : TypeId} {ps : Array (Nat × Operand)} : evOps E c f ops (⟨d, .build k ps, ty, pos, af, none⟩ :: r) t h K = rdK (build E.P k (ps.toList.map fun p => (p.1, arg E t p.2))) E c f ops d r t h K := rfl
theorem ops_load {k : TypeId} {a : Operand} : evOps E c f ops (⟨d, .load k a, ty, pos, af, none⟩ :: r) t h K = rdK (Ev.load E.P h k (arg E t a)) E c f ops d r t h K := rfl
theorem ops_nilc {x : Operand} : evOps E c f ops (⟨d, .nilCheck x, ty, pos, af, none⟩ :: r) t h K = rdK (nilO (arg E t x)) E c f ops d r t h K := rfl
theorem ops_bin {op : BinOp} {k k' : TypeId} {x y : Operand} : evOps E c f ops (⟨d, .binOp op k x y k', ty, pos, af, none⟩ :: r) t h K = rdK (bin E.P op k (arg E t x) (arg E t y)) E c f ops d r t h K := rfl
theorem ops_un {op : UnOp} {k : TypeId} {x : Operand} : evOps E c f ops (⟨d, .unOp op k x, ty, pos, af, none⟩ :: r) t h K = rdK (un op (arg E t x)) E c f ops d r t h K := rfl
theorem ops_conv {s k : TypeId} {x : Operand} : evOps E c f ops (⟨d, .convert s k x, ty, pos, af, none⟩ :: r) t h K = rdK (convO E.P h s k (arg E t x)) E c f ops d r t h K := rfl
theorem ops_func {n : Nat} {a b : Array Operand} : evOps E c f ops (⟨d, .makeFunc (.func n) a b, ty, pos, af, none⟩ :: r) t h K = evOps E c f ops r (putV t d (.fn n (args E t a) (args E t b))) h K := rfl
theorem ops_fieldAddr {k : TypeId} {x : Operand} {i : Nat} : evOps E c f ops (⟨d, .fieldAddr k x i, ty, pos, af, none⟩ :: r) t h K = rdK (fieldAddr E.P k (arg E t x) i) E c f ops d r t h K := rfl
theorem ops_field {k : TypeId} {x : Operand} {i : Nat} : evOps E c f ops (⟨d, .field k x i, ty, pos, af, none⟩ :: r) t h K = rdK (field E.P k (arg E t x) i) E c f ops d r t h K := rfl
theorem ops_indexAddr {k : TypeId} {x i : Operand} : evOps E c f ops (⟨d, .indexAddr k x i, ty, pos, af, none⟩ :: r) t h K = rdK (idxA E.P h k (arg E t x) (arg E t i)) E c f ops d r t h K := rfl
theorem ops_index {k : TypeId} {x i : Operand} : evOps E c f ops (⟨d, .index k x i, ty, pos, af, none⟩ :: r) t h K = rdK (idxO E.P k (arg E t x) (arg E t i)) E c f ops d r t h K := rfl
theorem ops_extract {x : Operand} {i : Nat} : evOps E c f ops (⟨d, .extract x i, ty, pos, af, none⟩ :: r) t h K = rdK (extrO (arg E t x) i) E c f ops d r t h K := rfl
theorem ops_len {as : Array Operand} {ts : Array TypeId} : evOps E c f ops (⟨d, .call ⟨.builtin .len, as, ts⟩, ty, pos, af, none⟩ :: r) t h K = rdK (lenO E.P h ts[0]? (args E t as)) E c f ops d r t h K := rfl
theorem ops_min {as : Array Operand} {ts : Array TypeId} : evOps E c f ops (⟨d, .call ⟨.builtin .min, as, ts⟩, ty, pos, af, none⟩ :: r) t h K = rdK (foldsV minV (args E t as)) E c f ops d r t h K := rfl
theorem ops_max {as : Array Operand} {ts : Array TypeId} : evOps E c f ops (⟨d, .call ⟨.builtin .max, as, ts⟩, ty, pos, af, none⟩ :: r) t h K = rdK (foldsV maxV (args E t as)) E c f ops d r t h K := rfl
theorem ops_buildSlice {k : TypeId} {n : Nat} {ps : Array (Nat × Operand)} : evOps E c f ops (⟨d, .buildSlice k n ps, ty, pos, af, none⟩ :: r) t h K = rdK (match E.P.underlying k with
    | some (.slice e) => if 0 < sizeT E.P e ∧ n * sizeT E.P e ≤ 2 ^ 24 ∧ (zeroV E.P e).isSome = true then (litV E.P e 0 (ps.toList.map fun p => (p.1, arg E t p.2))).bind (fun es => if es.length = n then some (.sl es (sizeT E.P e) true) else none) else none
    | _ => none) E c f ops d r t h K := rfl
theorem ops_alloc {k : TypeId} : evOps E c f ops (⟨d, .alloc k, ty, pos, af, none⟩ :: r) t h K = effK (allocO h (sizeT E.P k) (zeroV E.P k)) E c f ops d r t K := rfl
theorem ops_store {k : TypeId} {a x : Operand} : evOps E c f ops (⟨d, .store k a x, ty, pos, af, none⟩ :: r) t h K = effK (storeO (storeV E.P h k (arg E t a) (arg E t x))) E c f ops d r t K := rfl
theorem ops_call {x : Operand} {as : Array Operand} {ts : Array TypeId} : evOps E c f ops (⟨d, .call ⟨.value x, as, ts⟩, ty, pos, af, none⟩ :: r) t h K = effK (callO c (arg E t x) (args E t as) h) E c f ops d r t K := rfl
theorem ops_append {as : Array Operand} {ts : Array TypeId} : evOps E c f ops (⟨d, .call ⟨.builtin .append, as, ts⟩, ty, pos, af, none⟩ :: r) t h K = effK (appO E.P h ts.toList (args E t as)) E c f ops d r t K := rfl
theorem ops_make {k : TypeId} {l m : Operand} : evOps E c f ops (⟨d, .makeSlice k l m, ty, pos, af, none⟩ :: r) t h K = effK (mksO E.P h k (arg E t l) (arg E t m)) E c f ops d r t K := rfl
theorem ops_box {k : TypeId} {x : Operand} : evOps E c f ops (⟨d, .box k x, ty, pos, af, none⟩ :: r) t h K = oneK (!((d.map fun d => (E.imm f).contains d).getD false)) E c f ops ⟨d, .box k x, ty, pos, af, none⟩ r t h K := by rw [evOps_cons]; rfl
theorem ops_slice {k : TypeId} {x : Operand} {lo hi mx : Option Operand} : evOps E c f ops (⟨d, .slice k x lo hi mx, ty, pos, af, none⟩ :: r) t h K = oneK (strT E.P k) E c f ops ⟨d, .slice k x lo hi mx, ty, pos, af, none⟩ r t h K := by rw [evOps_cons]; rfl
end region

/-! Operations on values. -/
section vals
variable {P : Program} {t : TypeId} {k k' : IntKind} {a b : Int}
theorem b_add : bin P .add t (.int k a) (.int k b) = some (.int k (k.wrap (a + b))) := by simp [bin, binI]
theorem b_sub : bin P .sub t (.int k a) (.int k b) = some (.int k (k.wrap (a - b))) := by simp [bin, binI]
theorem b_mul : bin P .mul t (.int k a) (.int k b) = some (.int k (k.wrap (a * b))) := by simp [bin, binI]
theorem b_quo (h : b ≠ 0) : bin P .quo t (.int k a) (.int k b) = some (.int k (k.wrap (a.tdiv b))) := by simp [bin, binI, h]
theorem b_rem (h : b ≠ 0) : bin P .rem t (.int k a) (.int k b) = some (.int k (a.tmod b)) := by simp [bin, binI, h]
def andI (k : IntKind) (a b : Int) : Int := k.wrap (BitVec.ofInt k.bits a &&& BitVec.ofInt k.bits b).toNat
def orI (k : IntKind) (a b : Int) : Int := k.wrap (BitVec.ofInt k.bits a ||| BitVec.ofInt k.bits b).toNat
def xorI (k : IntKind) (a b : Int) : Int := k.wrap (BitVec.ofInt k.bits a ^^^ BitVec.ofInt k.bits b).toNat
def nandI (k : IntKind) (a b : Int) : Int := k.wrap (BitVec.ofInt k.bits a &&& ~~~BitVec.ofInt k.bits b).toNat
theorem b_and : bin P .and t (.int k a) (.int k b) = some (.int k (andI k a b)) := by simp [bin, binI, andI]
theorem b_or : bin P .or t (.int k a) (.int k b) = some (.int k (orI k a b)) := by simp [bin, binI, orI]
theorem b_xor : bin P .xor t (.int k a) (.int k b) = some (.int k (xorI k a b)) := by simp [bin, binI, xorI]
theorem b_nand : bin P .andNot t (.int k a) (.int k b) = some (.int k (nandI k a b)) := by simp [bin, binI, nandI]
theorem b_eql : bin P .eql t (.int k a) (.int k b) = some (.bool (decide (a = b))) := by simp [bin, binI]; rfl
theorem b_neq : bin P .neq t (.int k a) (.int k b) = some (.bool (decide (¬ a = b))) := by simp [bin, binI]; rfl
theorem b_lss : bin P .lss t (.int k a) (.int k b) = some (.bool (decide (a < b))) := by simp [bin, binI]
theorem b_leq : bin P .leq t (.int k a) (.int k b) = some (.bool (decide (a ≤ b))) := by simp [bin, binI]
theorem b_gtr : bin P .gtr t (.int k a) (.int k b) = some (.bool (decide (b < a))) := by simp [bin, binI]
theorem b_geq : bin P .geq t (.int k a) (.int k b) = some (.bool (decide (b ≤ a))) := by simp [bin, binI]
def shlI (k : IntKind) (a : Int) (b : Nat) : Int := k.wrap (a * 2 ^ min b k.bits)
def shrI (k : IntKind) (a : Int) (b : Nat) : Int := a.fdiv (2 ^ min b k.bits)
theorem b_shl (h : 0 ≤ b) : bin P .shl t (.int k a) (.int k' b) = some (.int k (shlI k a b.toNat)) := by
  simp only [bin, binI, shlI]; rw [if_neg (by omega)]
theorem b_shr (h : 0 ≤ b) : bin P .shr t (.int k a) (.int k' b) = some (.int k (shrI k a b.toNat)) := by
  simp only [bin, binI, shrI]; rw [if_neg (by omega)]
variable {x y : ByteArray} {l m : List UInt8}
theorem b_addS (h : l.length + m.length < 2 ^ 63) : bin P .add t (.str (bs l)) (.str (bs m)) = some (.str (bs (l ++ m))) := by
  simp only [bin, binS, bs_size, bs_append]; rw [if_pos h]
theorem b_eqlS : bin P .eql t (.str (bs l)) (.str (bs m)) = some (.bool (decide (l = m))) := by
  simp only [bin, binS, bs_toList]
  congr 2
  by_cases h : l = m <;> simp [h]
theorem b_neqS : bin P .neq t (.str (bs l)) (.str (bs m)) = some (.bool (decide (¬ l = m))) := by
  simp only [bin, binS, bs_toList]
  congr 2
  by_cases h : l = m
  · simp [h]
  · simp [h]
theorem b_bool {op : BinOp} {q : Bool} {y : V} : bin P op t (.bool q) y = eqOp P op t (.bool q) y := by cases op <;> cases y <;> rfl
theorem b_agg {op : BinOp} {cs : List V} {y : V} : bin P op t (.agg cs) y = eqOp P op t (.agg cs) y := by cases op <;> cases y <;> rfl
theorem b_nilp {op : BinOp} {y : V} : bin P op t .nilp y = eqOp P op t .nilp y := by cases op <;> cases y <;> rfl
theorem b_ptr {op : BinOp} {i j : Nat} {y : V} : bin P op t (.ptr i j) y = eqOp P op t (.ptr i j) y := by cases op <;> cases y <;> rfl
theorem b_eptr {op : BinOp} {i j m o : Nat} {y : V} : bin P op t (.eptr i j m o) y = eqOp P op t (.eptr i j m o) y := by cases op <;> cases y <;> rfl
theorem b_fn {op : BinOp} {i : Nat} {l m : List V} {y : V} : bin P op t (.fn i l m) y = eqOp P op t (.fn i l m) y := by cases op <;> cases y <;> rfl
theorem b_nilf {op : BinOp} {y : V} : bin P op t .nilf y = eqOp P op t .nilf y := by cases op <;> cases y <;> rfl
theorem b_iptr {op : BinOp} {cs : List V} {y : V} : bin P op t (.iptr cs) y = eqOp P op t (.iptr cs) y := by cases op <;> cases y <;> rfl
def negI (k : IntKind) (a : Int) : Int := k.wrap (0 - a)
def notI (k : IntKind) (a : Int) : Int := k.wrap (BitVec.ofInt k.bits (if k.signed then -1 else k.max) ^^^ BitVec.ofInt k.bits a).toNat
theorem u_neg : un .neg (.int k a) = some (.int k (k.wrap (0 - a))) := rfl
theorem u_xor : un .xor (.int k a) = some (.int k (notI k a)) := rfl
theorem u_not {b : Bool} : un .not (.bool b) = some (.bool (!b)) := rfl
theorem not_dec {p : Prop} [Decidable p] : (!decide p) = decide (¬ p) := by by_cases h : p <;> simp [h]
variable {h : Heap}
def idxS (P : Program) (u : Option TypeDesc) (x : V) (i : Int) : Option V :=
  match u, x with
  | some .string, .str s => if 0 ≤ i ∧ i < s.size then some (.int .u8 ((s.data[i.toNat]?).getD 0).toNat) else none
  | some (.array n e), .agg cs => if 0 ≤ i ∧ i < n ∧ 0 < sizeT P e ∧ n * sizeT P e ≤ cs.length then pack P e ((cs.drop (i.toNat * sizeT P e)).take (sizeT P e)) else none
  | _, _ => none
theorem index_u {x : V} {i : Int} : index P t x i = idxS P (P.underlying t) x i := rfl
theorem idxS_str {i : Int} (h0 : 0 ≤ i) (h1 : i < l.length) : idxS P (some .string) (.str (bs l)) i = some (.int .u8 ((l.getD i.toNat 0).toNat : Int)) := by
  simp only [idxS, bs_size, bs_get]
  rw [if_pos ⟨h0, h1⟩, List.getD_eq_getElem?_getD]
def arrP (P : Program) (u : Option TypeDesc) (x : V) (i : Int) : Option V := match u, x with
  | some (.array n e), .ptr k off => if 0 ≤ i ∧ i < n ∧ 0 < sizeT P e then some (.ptr k (off + i.toNat * sizeT P e)) else none
  | some (.array n e), .eptr k tot j off => if 0 ≤ i ∧ i < n ∧ 0 < sizeT P e then some (.eptr k tot j (off + i.toNat * sizeT P e)) else none
  | some (.array n e), .iptr cs => if 0 ≤ i ∧ i < n ∧ 0 < sizeT P e then some (.iptr (cs.drop (i.toNat * sizeT P e))) else none
  | _, _ => none
theorem idxA_ptr {i o : Nat} {q : IntKind} {n : Int} : idxA P h t (.ptr i o) (.int q n) = arrP P (P.underlying t) (.ptr i o) n := by
  simp only [idxA, indexAddr, arrP]
  cases P.underlying t with
  | none => rfl
  | some u => cases u <;> simp [els]
theorem idxA_eptr {i j m o : Nat} {q : IntKind} {n : Int} : idxA P h t (.eptr i j m o) (.int q n) = arrP P (P.underlying t) (.eptr i j m o) n := by
  simp only [idxA, indexAddr, arrP]
  cases P.underlying t with
  | none => rfl
  | some u => cases u <;> simp [els]
theorem idxA_iptr {cs : List V} {q : IntKind} {n : Int} : idxA P h t (.iptr cs) (.int q n) = arrP P (P.underlying t) (.iptr cs) n := by
  simp only [idxA, indexAddr, arrP]
  cases P.underlying t with
  | none => rfl
  | some u => cases u <;> simp [els]
theorem arrP_ptr {k o n : Nat} {e : TypeId} {i : Int} (h0 : 0 ≤ i) (h1 : i < n) : arrP P (some (.array n e)) (.ptr k o) i = if 0 < sizeT P e then some (.ptr k (o + i.toNat * sizeT P e)) else none := by simp [arrP, h0, h1]
theorem arrP_eptr {k a b o n : Nat} {e : TypeId} {i : Int} (h0 : 0 ≤ i) (h1 : i < n) : arrP P (some (.array n e)) (.eptr k a b o) i = if 0 < sizeT P e then some (.eptr k a b (o + i.toNat * sizeT P e)) else none := by simp [arrP, h0, h1]
theorem arrP_iptr {cs : List V} {n : Nat} {e : TypeId} {i : Int} (h0 : 0 ≤ i) (h1 : i < n) : arrP P (some (.array n e)) (.iptr cs) i = if 0 < sizeT P e then some (.iptr (cs.drop (i.toNat * sizeT P e))) else none := by simp [arrP, h0, h1]
def slP (P : Program) (u : Option TypeDesc) (es : Option (List V)) (ok : Nat → Bool) (i : Int) (f : V → V) : Option V := match u, es with
  | some (.slice e), some es => if 0 ≤ i ∧ i < es.length ∧ ok (sizeT P e) = true then (es[i.toNat]?).map f else none
  | _, _ => none
theorem idxA_sl {es : List V} {m : Nat} {b : Bool} {q : IntKind} {n : Int} : idxA P h t (.sl es m b) (.int q n) = slP P (P.underlying t) (some es) (fun s => m == s) n fun e => .iptr e.cells := by
  simp only [idxA, indexAddr, slP]
  cases P.underlying t with
  | none => rfl
  | some u => cases u <;> simp [els, szOk]
def rowP (P : Program) (u : Option TypeDesc) (i tot : Nat) (b : Option Box) (n : Int) : Option V := match u, b with
  | some (.slice e), some b => if 0 < b.sz ∧ b.cs.length = tot ∧ 0 ≤ n ∧ n < tot ∧ b.sz = sizeT P e then some (.eptr i tot n.toNat 0) else none
  | _, _ => none
theorem idxA_row {i tot : Nat} {q : IntKind} {n : Int} : idxA P h t (.row i tot) (.int q n) = rowP P (P.underlying t) i tot h[i]? n := by
  obtain hb | ⟨b, hb⟩ : h[i]? = none ∨ ∃ b, h[i]? = some b := by cases h[i]? <;> simp
  · rw [hb]
    simp only [idxA, indexAddr, rowP, els, szOk, hb]
    cases P.underlying t with
    | none => rfl
    | some u => cases u <;> first | rfl | (simp only; split <;> rfl)
  · rw [hb]
    simp only [idxA, indexAddr, rowP, els, szOk, hb]
    cases P.underlying t with
    | none => rfl
    | some u =>
      cases u <;> first | rfl | (simp only; split <;> rfl; done) | skip
      rename_i e
      simp only
      by_cases h1 : 0 < b.sz ∧ b.cs.length = tot
      · obtain ⟨h1, h2⟩ := h1
        simp only [h1, h2, and_self, if_true, Option.bind_some, true_and]
        by_cases h3 : b.sz = sizeT P e <;> simp [h3]
      · rw [if_neg h1, if_neg (fun hh => h1 ⟨hh.1, hh.2.1⟩)]
        rfl
theorem slP_ok {es : List V} {ok : Nat → Bool} {e : TypeId} {f : V → V} {i : Int} (h0 : 0 ≤ i) (h1 : i < es.length) : slP P (some (.slice e)) (some es) ok i f = if ok (sizeT P e) = true then (es[i.toNat]?).map f else none := by simp [slP, h0, h1]
theorem rowP_ok {i tot : Nat} {b : Box} {e : TypeId} {n : Int} (h0 : 0 ≤ n) (h1 : n < tot) : rowP P (some (.slice e)) i tot (some b) n = if 0 < b.sz ∧ b.cs.length = tot ∧ b.sz = sizeT P e then some (.eptr i tot n.toNat 0) else none := by simp [rowP, h0, h1]
def lenU (h : Heap) (u : Option TypeDesc) (x : V) : Option V :=
  match u, x with
  | some .string, .str s => some (.int .i64 s.size)
  | some (.array n _), _ => some (.int .i64 n)
  | some (.slice _), x => (els h x).map fun es => .int .i64 es.length
  | _, _ => none
theorem lenV_u {x : V} : lenV P h t x = lenU h (P.underlying t) x := rfl
theorem lenU_str : lenU h (some .string) (.str (bs l)) = some (.int .i64 (l.length : Int)) := by simp only [lenU, bs_size]
theorem lenU_arr {n : Nat} {e : TypeId} {x : V} : lenU h (some (.array n e)) x = some (.int .i64 n) := rfl
theorem lenU_sl {e : TypeId} {es : List V} {sz : Nat} {q : Bool} : lenU h (some (.slice e)) (.sl es sz q) = some (.int .i64 es.length) := rfl
theorem lenU_nils {e : TypeId} : lenU h (some (.slice e)) .nils = some (.int .i64 0) := rfl
def cutO (lo hi : Option V) (n : Nat) : Option (Nat × Nat) := (bound hi n n).bind fun b => (bound lo 0 b).bind fun a => some (a, b)
def cutS (x : V) (q : Option (Nat × Nat)) : Option V := match x with | .str s => q.map fun q => .str (s.extract q.1 q.2) | _ => none
theorem strSl_str {lo hi : Option V} (hu : P.underlying t = some .string) : strSl P h t (.str (bs l)) lo hi none = cutS (.str (bs l)) (cutO lo hi l.length) := by
  simp only [strSl, hu, sliceV, cutS, cutO, bs_size]
  cases bound hi l.length l.length with
  | none => rfl
  | some b =>
    simp only [Option.bind_some]
    cases bound lo 0 b <;> rfl
def cvB (P : Program) (u v : Option TypeDesc) (es : Option (List V)) : Option V := match u, v with
  | some (.slice e), some .string => (match P.underlying e with
    | some (.int .u8) => (es.bind bytesV).map fun l => .str (bs l)
    | _ => none)
  | _, _ => none
theorem convO_cv {s : TypeId} {x : V} (hx : ∀ u v : TypeId, conv P u v x = none) : convO P h s t x = cvB P (P.underlying s) (P.underlying t) (els h x) := by
  simp only [convO, cvB, hx]
  cases hs : P.underlying s with
  | none => rfl
  | some u =>
    cases ht : P.underlying t with
    | none => cases u <;> rfl
    | some v =>
      cases u <;> cases v <;> try rfl
      simp only [convStr, hs, ht]
      rfl
theorem convO_sl {s : TypeId} {es : List V} {m : Nat} {q : Bool} : convO P h s t (.sl es m q) = cvB P (P.underlying s) (P.underlying t) (some es) := convO_cv fun u v => by
  simp only [conv]; cases P.underlying u <;> try rfl
  cases P.underlying v <;> try rfl
  rename_i d; cases d <;> rfl
theorem convO_row {s : TypeId} {i m : Nat} : convO P h s t (.row i m) = cvB P (P.underlying s) (P.underlying t) (els h (.row i m)) := convO_cv fun u v => by
  simp only [conv]; cases P.underlying u <;> try rfl
  cases P.underlying v <;> try rfl
  rename_i d; cases d <;> rfl
theorem convO_nils {s : TypeId} : convO P h s t .nils = cvB P (P.underlying s) (P.underlying t) (some []) := convO_cv fun u v => by
  simp only [conv]; cases P.underlying u <;> try rfl
  cases P.underlying v <;> try rfl
  rename_i d; cases d <;> rfl
theorem bytesV_nil : bytesV [] = some [] := rfl
theorem bytesV_cons {n : Int} {r : List V} : bytesV (.int .u8 n :: r) = (bytesV r).map (fun l => UInt8.ofNat n.toNat :: l) := rfl
theorem bytesV_map : ∀ l : List UInt8, bytesV (l.map byteV) = some l
  | [] => rfl
  | b :: r => by simp only [List.map_cons, byteV, bytesV_cons]; rw [show r.map byteV = r.map byteV from rfl, bytesV_map r]; simp
def strSlU (u : Option TypeDesc) (x : V) (lo hi mx : Option V) : Option V := match u, x, mx with
  | some .string, .str s, none => cutS (.str s) (cutO lo hi s.size)
  | _, _, _ => none
theorem strSl_u {x : V} {lo hi mx : Option V} : strSl P h t x lo hi mx = strSlU (P.underlying t) x lo hi mx := by
  simp only [strSl, strSlU, sliceV]
  cases P.underlying t with
  | none => rfl
  | some u =>
    cases u <;> try rfl
    cases x <;> try rfl
    cases mx <;> try rfl
    rename_i s
    simp only [cutS, cutO]
    cases bound hi s.size s.size with
    | none => rfl
    | some b =>
      simp only [Option.bind_some]
      cases bound lo 0 b <;> rfl
theorem strSlU_str {lo hi : Option V} : strSlU (some .string) (.str (bs l)) lo hi none = cutS (.str (bs l)) (cutO lo hi l.length) := by simp only [strSlU, bs_size]
def strU (u : Option TypeDesc) : Bool := match u with | some .string => false | _ => true
theorem strT_u : strT P t = strU (P.underlying t) := rfl
theorem strU_str : strU (some .string) = false := rfl
theorem strU_sl {e : TypeId} : strU (some (.slice e)) = true := rfl
theorem cutS_some {i j : Nat} : cutS (.str (bs l)) (some (i, j)) = some (.str (bs ((l.take j).drop i))) := by simp only [cutS, Option.map_some, bs_extract]
theorem cut_nn {n : Nat} : cutO none none n = some (0, n) := rfl
theorem cut_ln {n : Nat} (h0 : 0 ≤ a) (h1 : a ≤ n) : cutO (some (.int k a)) none n = some (a.toNat, n) := by simp [cutO, bound, h0, h1]
theorem cut_nh {n : Nat} (h0 : 0 ≤ a) (h1 : a ≤ n) : cutO none (some (.int k a)) n = some (0, a.toNat) := by simp [cutO, bound, h0, h1]
theorem cut_lh {n : Nat} (h0 : 0 ≤ a) (h1 : a ≤ b) (h2 : b ≤ n) : cutO (some (.int k a)) (some (.int k' b)) n = some (a.toNat, b.toNat) := by
  have h3 : 0 ≤ b := by omega
  have h4 : a ≤ (b.toNat : Int) := by omega
  simp only [cutO, bound, h0, h3, h2, and_self, if_true, Option.bind_some]
  rw [if_pos ⟨trivial, h4⟩]; rfl
def convI (u v : Option TypeDesc) (n : Int) : Option V := match u, v with
  | none, _ => none
  | some _, some (.int k) => some (.int k (k.wrap n))
  | some _, some (.float k) => some (.fl k (k.nearest n))
  | _, _ => none
theorem convO_int {s : TypeId} {n : Int} : convO P h s t (.int k n) = convI (P.underlying s) (P.underlying t) n := by
  simp only [convO, convI, convStr, conv]
  cases hs : P.underlying s with
  | none => simp
  | some u =>
    cases hk : P.underlying t with
    | none => cases u <;> simp
    | some v =>
      cases u <;> cases v <;> simp [els, bytesV] <;> (try (split <;> simp))
theorem convI_int {u : TypeDesc} {n : Int} : convI (some u) (some (.int k)) n = some (.int k (k.wrap n)) := rfl
theorem convI_fl {u : TypeDesc} {n : Int} {q : FloatKind} : convI (some u) (some (.float q)) n = some (.fl q (q.nearest n)) := rfl
end vals

/-! What a call that looks alone hands back. -/
def res (x : Res) : Res := x
theorem res_eq {x : Res} : res x = x := rfl
theorem of_res {x y : Res} (h : res x = y) : x = y := h
theorem pickV_t {x y : V} : pickV true x y = x := by cases x <;> cases y <;> rfl
theorem pickV_f {x y : V} : pickV false x y = y := by cases x <;> cases y <;> rfl
def giveP (b : Bool) (h : Heap) (v : V) : Option V := match b with | true => some v | false => give h v
theorem give_p {h : Heap} {v : V} : give h v = giveP v.plain h v := by
  cases e : v.plain with
  | true => exact give_plain h e
  | false => rfl
theorem giveP_t {h : Heap} {v : V} : giveP true h v = some v := rfl
def ans (x : Res) : Option V := x.bind fun y => give y.2 y.1
theorem ans_some {v : V} {h : Heap} : ans (some (v, h)) = give h v := rfl
theorem callV_ans {E : Lore} {f : Nat} {as : List V} {r : Option V} (h : ans (callL E f as []) = r) (hs : E.shared f = false) (hp : plains as = true) (H : Heap) : callV (CL E) f as H = r.map fun v => (v, H) := by
  subst h
  simp only [callV, CL, hs, fz2s_plain H hp, Option.bind_some, ans]
  cases callL E f as [] with
  | none => rfl
  | some x => rfl
theorem gv_ans {E : Lore} {f : Nat} {as : List V} {r : V} (h : ans (callL E f as []) = some r) : Gv E f as r := by
  obtain ⟨⟨v, H⟩, h1, h2⟩ := Option.bind_eq_some_iff.1 h
  exact ⟨v, H, h1, h2⟩
theorem ans_gv {E : Lore} {f : Nat} {as : List V} {r : V} (h : Gv E f as r) : ans (callL E f as []) = some r := by
  obtain ⟨v, H, h1, h2⟩ := h
  rw [h1]; exact h2

/-! Branching: the goal is 'F x = R', F the identity or 'ans'. -/
def notB (b : Bool) : Bool := !b
theorem notB_true : notB true = false := rfl
theorem notB_false : notB false = true := rfl
theorem boolW_t {b : Bool} : boolW true (.bool b) = some b := by cases b <;> rfl
theorem boolW_f {b : Bool} : boolW false (.bool b) = some (notB b) := by cases b <;> rfl
theorem boolW_undef {w : Bool} : boolW w .undef = some false := rfl
section by_
variable {α : Type} {E : Env} {c : Calls_} {f : Nat} {ops : Array Oper} {o : Oper} {d : Option Tmp} {r : List Oper} {t : List V} {h : Heap} {K : List V → Heap → Res} {p : Prop} [Decidable p] {bf : Array Nat} {i : Nat} {pend : List (Nat × (Heap → Option V) × V)} {past : List (Nat × Heap)}
theorem way_by {x : Bool → Res} {F : Res → α} {R : α} (h1 : p → decide p = true → F (x true) = R) (h2 : ¬p → decide p = false → F (x false) = R) : F (x (decide p)) = R := by
  by_cases hp : p
  · have e := decide_eq_true hp; rw [e]; exact h1 hp e
  · have e := decide_eq_false hp; rw [e]; exact h2 hp e
theorem wayK_by {F : Res → α} {R : α} (h1 : p → decide p = true → F (wayK (some true) E c f ops o r t h K) = R) (h2 : ¬p → decide p = false → F (wayK (some false) E c f ops o r t h K) = R) : F (wayK (some (decide p)) E c f ops o r t h K) = R := way_by (x := fun b => wayK (some b) E c f ops o r t h K) h1 h2
theorem wayK_byN {F : Res → α} {R : α} (h1 : p → decide p = true → F (wayK (some false) E c f ops o r t h K) = R) (h2 : ¬p → decide p = false → F (wayK (some true) E c f ops o r t h K) = R) : F (wayK (some (notB (decide p))) E c f ops o r t h K) = R := way_by (x := fun b => wayK (some (notB b)) E c f ops o r t h K) h1 h2
theorem wayD_by {F : Res → α} {R : α} (h1 : p → decide p = true → F (wayD (some true) E c f ops bf i o r pend past t h K) = R) (h2 : ¬p → decide p = false → F (wayD (some false) E c f ops bf i o r pend past t h K) = R) : F (wayD (some (decide p)) E c f ops bf i o r pend past t h K) = R := way_by (x := fun b => wayD (some b) E c f ops bf i o r pend past t h K) h1 h2
theorem wayD_byN {F : Res → α} {R : α} (h1 : p → decide p = true → F (wayD (some false) E c f ops bf i o r pend past t h K) = R) (h2 : ¬p → decide p = false → F (wayD (some true) E c f ops bf i o r pend past t h K) = R) : F (wayD (some (notB (decide p))) E c f ops bf i o r pend past t h K) = R := way_by (x := fun b => wayD (some (notB b)) E c f ops bf i o r pend past t h K) h1 h2
theorem ite_by {β : Type} {x y : β} {G : β → Res} {F : Res → α} {R : α} (h1 : p → F (G x) = R) (h2 : ¬p → F (G y) = R) : F (G (if p then x else y)) = R := by
  by_cases hp : p
  · rw [if_pos hp]; exact h1 hp
  · rw [if_neg hp]; exact h2 hp
theorem rdK_by {F : Res → α} {R : α} {x y : Option V} (h1 : p → F (rdK x E c f ops d r t h K) = R) (h2 : ¬p → F (rdK y E c f ops d r t h K) = R) : F (rdK (if p then x else y) E c f ops d r t h K) = R := ite_by (G := fun x => rdK x E c f ops d r t h K) h1 h2
theorem effK_by {F : Res → α} {R : α} {x y : Option (V × Heap)} (h1 : p → F (effK x E c f ops d r t K) = R) (h2 : ¬p → F (effK y E c f ops d r t K) = R) : F (effK (if p then x else y) E c f ops d r t K) = R := ite_by (G := fun x => effK x E c f ops d r t K) h1 h2
theorem effK_by2 {F : Res → α} {R : α} {x y : V} (h1 : p → F (effK (some (x, h)) E c f ops d r t K) = R) (h2 : ¬p → F (effK (some (y, h)) E c f ops d r t K) = R) : F (effK (some (if p then x else y, h)) E c f ops d r t K) = R := ite_by (G := fun x => effK (some (x, h)) E c f ops d r t K) h1 h2
theorem rdD_by {F : Res → α} {R : α} {x y : Option V} (h1 : p → F (rdD x E c f ops bf i o r pend past t h K) = R) (h2 : ¬p → F (rdD y E c f ops bf i o r pend past t h K) = R) : F (rdD (if p then x else y) E c f ops bf i o r pend past t h K) = R := ite_by (G := fun x => rdD x E c f ops bf i o r pend past t h K) h1 h2
theorem effD_by {F : Res → α} {R : α} {x y : Option (V × Heap)} (h1 : p → F (effD x E c f ops bf i d r pend past t K) = R) (h2 : ¬p → F (effD y E c f ops bf i d r pend past t K) = R) : F (effD (if p then x else y) E c f ops bf i d r pend past t K) = R := ite_by (G := fun x => effD x E c f ops bf i d r pend past t K) h1 h2
theorem effD_by2 {F : Res → α} {R : α} {x y : V} (h1 : p → F (effD (some (x, h)) E c f ops bf i d r pend past t K) = R) (h2 : ¬p → F (effD (some (y, h)) E c f ops bf i d r pend past t K) = R) : F (effD (some (if p then x else y, h)) E c f ops bf i d r pend past t K) = R := ite_by (G := fun x => effD (some (x, h)) E c f ops bf i d r pend past t K) h1 h2
theorem effK_none {F : Res → α} {R : α} (h : F none = R) : F (effK none E c f ops d r t K) = R := h
noncomputable def chkB (b : Bool) (p : Prop) (k : Res) : Res := match b with | true => k | false => chk p k
theorem chkB_true {b : Bool} {k : Res} : chkB b True k = k := by cases b; exact chk_true; rfl
theorem chks_pend {k : Res} {x : Nat × (Heap → Option V) × V} : chks (pendAt bf i h (x :: pend)) k = chkB ((bf.getD i 0).testBit x.1) (x.2.1 h = some x.2.2) (chks (pendAt bf i h pend) k) := by
  simp only [pendAt]
  cases (bf.getD i 0).testBit x.1 <;> rfl
theorem chks_past {k : Res} {v : V} {x : Nat × Heap} : chks (pastAt bf i E f t o v (x :: past)) k = chkB ((bf.getD i 0).testBit x.1) (evRdD E f t o x.2 = some v) (chks (pastAt bf i E f t o v past) k) := by
  simp only [pastAt]
  cases (bf.getD i 0).testBit x.1 <;> rfl
end by_
section byL
variable {α : Type} {E : Lore} {f : Nat} {t : List V} {h : Heap} {K : Kont} {a b : Code} {p : Prop} [Decidable p]
theorem cond_by {F : Res → α} {R : α} (h1 : p → F (codeL E f a t h K) = R) (h2 : ¬p → F (codeL E f b t h K) = R) : F (condL (some (decide p)) E f a b t h K) = R := by
  by_cases hp : p
  · rw [decide_eq_true hp]; exact h1 hp
  · rw [decide_eq_false hp]; exact h2 hp
theorem cond_byB {F : Res → α} {R : α} {q : Bool} (h1 : q = true → F (codeL E f a t h K) = R) (h2 : q = false → F (codeL E f b t h K) = R) : F (condL (some q) E f a b t h K) = R := by
  cases q
  · exact h2 rfl
  · exact h1 rfl
end byL

/-! Loops by their numbers. -/
theorem loopL_step' {E : Lore} {f : Nat} {t : List V} {h : Heap} {K : Kont} {a b : Code} (hb : b = a) : loopL E f a t h K = codeL E f b t h (roundL E f a K) := by rw [loopL_step, hb]
theorem loop_key {P : Program} {f k : Nat} {a : Code} (h : loopIn P f k = some a) : codeKey a = k := by
  unfold loopIn at h
  obtain ⟨b, h0, h⟩ := Option.bind_eq_some_iff.1 h
  clear h0
  induction b with
  | loop c _ =>
    simp only [loopAt] at h
    split at h
    · cases h; assumption
    · rename_i ih _; exact ih h
  | seq c d h1 h2 =>
    simp only [loopAt] at h
    split at h
    · rename_i e; cases h; exact h1 e
    · exact h2 h
  | cond _ c d h1 h2 =>
    simp only [loopAt] at h
    split at h
    · rename_i e; cases h; exact h1 e
    · exact h2 h
  | block _ c ih => exact ih h
  | scope c ih => exact ih h
  | _ => simp only [loopAt, reduceCtorEq] at h
theorem getElem?_toArray' {α : Type} (l : List α) (i : Nat) : l.toArray[i]? = l[i]? := by simp

end Ev
end Go.Proofs.YthpfimildcbgmaaDoor
