/-
A pure interpreter for the model's code, over values of its own (V) and a small heap of boxes. It is no model: the text behind it (EvSound)
proves that what it answers is what the model's machine answers. It refuses ('none') whatever it does not cover.
-/
import Derived.Orders
import Derived.Below
import Derived.Laws.FloatBits
namespace Go.Proofs.YthpfimildcbgmaaDoor
namespace Ev
set_option linter.all false
open Go

/-- Values. 'wild': whatever. 'sl': a slice told by its elements, never written. 'row': a slice of the call's own, its elements in a box. -/
inductive V where
  | undef
  | wild
  | bool (b : Bool)
  | int (k : IntKind) (n : Int)
  | fl (k : FloatKind) (b : Nat)
  | str (s : ByteArray)
  | nilp
  | ptr (h off : Nat)
  | eptr (h tot i off : Nat)
  | iptr (cs : List V)
  | nils
  | row (h tot : Nat)
  | sl (es : List V) (sz : Nat) (cap : Bool)
  | agg (cs : List V)
  | tup (vs : List V)
  | fn (f : Nat) (first cap : List V)
  | nilf
  | ifc (t : Nat) (v : V)
  | nili

mutual
/-- It bears no handle. -/
def V.plain : V → Bool
  | .ptr _ _ => false
  | .eptr _ _ _ _ => false
  | .row _ _ => false
  | .agg cs => plains cs
  | .tup vs => plains vs
  | .fn _ a b => plains a && plains b
  | .ifc _ v => v.plain
  | _ => true
def plains : List V → Bool
  | [] => true
  | v :: r => v.plain && plains r
end

/-- It is the value of one cell. -/
def V.one : V → Bool
  | .undef => false
  | .wild => false
  | .agg _ => false
  | .tup _ => false
  | _ => true

def V.cells : V → List V
  | .agg cs => cs
  | v => [v]

/-- A box: a variable's cells ('sz' is 0), or a row's elements ('sz': an element's cells; 'pl': these bear no handle; 'fz': they aren't written any more). -/
structure Box where
  cs : List V
  sz : Nat
  pl : Bool
  fz : Bool

abbrev Heap := List Box
abbrev Res := Option (V × Heap)

structure St where
  t : List V
  h : Heap

/-- What the interpreter is told: the program; the package-level variables that it may look at; of a function: the boxes that stay as they were made; of a function and a loop (by its first number): the slots that live at its head and behind it. -/
structure Env where
  P : Program
  G : Nat → Option (List V)
  imm : Nat → List Nat
  keep : Nat → Nat → List Nat
  /-- Of a function: slots that a look in a drawn region fills with whatever. -/
  blind : Nat → List Nat := fun _ => []

def val1 : Value → V
  | .bool b => .bool b
  | .int k n => .int k n
  | .float k b => if b < 2 ^ k.format.width then .fl k b else .wild
  | .string s => .str s
  | .pointer none => .nilp
  | .slice none 0 0 => .nils
  | .nilFunc => .nilf
  | .nilIface => .nili
  | _ => .wild

def val : Value → V
  | .agg cs => .agg (cs.toList.map val1)
  | v => val1 v

section ops

def nanMark : FloatKind → Nat
  | .f64 => 2 ^ 64 + 0x7ff8000000000000
  | .f32 => 2 ^ 32 + 0x7fc00000

def binI (op : BinOp) (k : IntKind) (a b : Int) : Option V :=
  match op with
  | .add => some (.int k (k.wrap (a + b)))
  | .sub => some (.int k (k.wrap (a - b)))
  | .mul => some (.int k (k.wrap (a * b)))
  | .quo => if b = 0 then none else some (.int k (k.wrap (a.tdiv b)))
  | .rem => if b = 0 then none else some (.int k (a.tmod b))
  | .and => some (.int k (k.wrap (BitVec.ofInt k.bits a &&& BitVec.ofInt k.bits b).toNat))
  | .or => some (.int k (k.wrap (BitVec.ofInt k.bits a ||| BitVec.ofInt k.bits b).toNat))
  | .xor => some (.int k (k.wrap (BitVec.ofInt k.bits a ^^^ BitVec.ofInt k.bits b).toNat))
  | .andNot => some (.int k (k.wrap (BitVec.ofInt k.bits a &&& ~~~BitVec.ofInt k.bits b).toNat))
  | .eql => some (.bool (a == b))
  | .neq => some (.bool (a != b))
  | .lss => some (.bool (decide (a < b)))
  | .leq => some (.bool (decide (a ≤ b)))
  | .gtr => some (.bool (decide (b < a)))
  | .geq => some (.bool (decide (b ≤ a)))
  | .shl => if b < 0 then none else some (.int k (k.wrap (a * 2 ^ min b.toNat k.bits)))
  | .shr => if b < 0 then none else some (.int k (a.fdiv (2 ^ min b.toNat k.bits)))

def binF (op : BinOp) (k : FloatKind) (a b : Nat) : Option V :=
  match op with
  | .add => some (.fl k ((k.format.add a b).getD (nanMark k)))
  | .sub => some (.fl k ((k.format.sub a b).getD (nanMark k)))
  | .mul => some (.fl k ((k.format.mul a b).getD (nanMark k)))
  | .quo => some (.fl k ((k.format.div a b).getD (nanMark k)))
  | .eql => some (.bool (k.format.order a b == some .eq))
  | .neq => some (.bool (k.format.order a b != some .eq))
  | .lss => some (.bool (k.format.order a b == some .lt))
  | .leq => some (.bool (k.format.order a b == some .lt || k.format.order a b == some .eq))
  | .gtr => some (.bool (k.format.order a b == some .gt))
  | .geq => some (.bool (k.format.order a b == some .gt || k.format.order a b == some .eq))
  | _ => none

def binS (op : BinOp) (a b : ByteArray) : Option V :=
  match op with
  | .add => if a.size + b.size < 2 ^ 63 then some (.str (a ++ b)) else none
  | .eql => some (.bool (a.toList == b.toList))
  | .neq => some (.bool (!(a.toList == b.toList)))
  | .lss => some (.bool (Op.bytesLess a.toList b.toList))
  | .leq => some (.bool (Op.bytesLess a.toList b.toList || a.toList == b.toList))
  | .gtr => some (.bool (!(Op.bytesLess a.toList b.toList || a.toList == b.toList)))
  | .geq => some (.bool (!(Op.bytesLess a.toList b.toList)))
  | _ => none

/-- Equality of two cells of a type that is a whole number's, a bool's or a string's. -/
def eqCell (P : Program) (t : TypeId) (x y : V) : Option Bool :=
  match P.underlying t, x, y with
  | some (.int _), .int k a, .int k' b => if k = k' then some (a == b) else none
  | some .bool, .bool a, .bool b => some (a == b)
  | some .string, .str a, .str b => some (a.toList == b.toList)
  | _, _, _ => none

/-- Equality of structs whose fields lie cell by cell. -/
def eqFlat (P : Program) : Nat → List Field → List V → List V → Option Bool
  | _, [], [], [] => some true
  | i, f :: r, x :: xs, y :: ys => if (f.name != "_") = true ∧ f.offset = i then (eqCell P f.type x y).bind fun e => (eqFlat P (i + 1) r xs ys).map fun t => e && t else none
  | _, _, _, _ => none

def eqV (P : Program) (t : TypeId) (x y : V) : Option Bool :=
  match x, y with
  | .bool a, .bool b => (match P.underlying t with | some .bool => some (a == b) | _ => none)
  | .nilp, .nilp => (match P.underlying t with | some (.pointer _) => some true | _ => none)
  | .ptr _ _, .nilp => (match P.underlying t with | some (.pointer _) => some false | _ => none)
  | .nilp, .ptr _ _ => (match P.underlying t with | some (.pointer _) => some false | _ => none)
  | .iptr _, .nilp => (match P.underlying t with | some (.pointer _) => some false | _ => none)
  | .eptr _ _ _ _, .nilp => (match P.underlying t with | some (.pointer _) => some false | _ => none)
  | .nilp, .eptr _ _ _ _ => (match P.underlying t with | some (.pointer _) => some false | _ => none)
  | .nilp, .iptr _ => (match P.underlying t with | some (.pointer _) => some false | _ => none)
  | .nilf, .nilf => (match P.underlying t with | some (.func _ _ _) => some true | _ => none)
  | .nilf, .fn _ _ _ => (match P.underlying t with | some (.func _ _ _) => some false | _ => none)
  | .fn _ _ _, .nilf => (match P.underlying t with | some (.func _ _ _) => some false | _ => none)
  | .agg xs, .agg ys => (match P.underlying t with | some (.struct fs) => if P.stoodInHeld t = false ∧ P.eqGuardType P.depth t = false then eqFlat P 0 fs.toList xs ys else none | _ => none)
  | _, _ => none

def eqOp (P : Program) (op : BinOp) (t : TypeId) (x y : V) : Option V :=
  match op with
  | .eql => (eqV P t x y).map .bool
  | .neq => (eqV P t x y).map (fun b => .bool (!b))
  | _ => none

def bin (P : Program) (op : BinOp) (t : TypeId) (x y : V) : Option V :=
  match x, y with
  | .int k a, .int k' b => (match op with
    | .shl => binI .shl k a b
    | .shr => binI .shr k a b
    | op => if k = k' then binI op k a b else none)
  | .fl k a, .fl k' b => if k = k' then binF op k a b else none
  | .str a, .str b => binS op a b
  | x, y => eqOp P op t x y

def un (op : UnOp) (x : V) : Option V :=
  match op, x with
  | .neg, .int k n => some (.int k (k.wrap (0 - n)))
  | .xor, .int k n => some (.int k (k.wrap (BitVec.ofInt k.bits (if k.signed then -1 else k.max) ^^^ BitVec.ofInt k.bits n).toNat))
  | .neg, .fl k b => some (.fl k (Op.negFloat k b))
  | .not, .bool b => some (.bool (!b))
  | _, _ => none

/-- A slice's elements. -/
def els (h : Heap) : V → Option (List V)
  | .nils => some []
  | .sl es _ _ => some es
  | .row i tot => (match h[i]? with
    | some b => if 0 < b.sz ∧ b.cs.length = tot then some b.cs else none
    | none => none)
  | _ => none

/-- How many cells an element has, where it is told. -/
def szOk (h : Heap) (n : Nat) : V → Bool
  | .sl _ sz _ => sz == n
  | .row i _ => (match h[i]? with
    | some b => b.sz == n
    | none => false)
  | _ => true

/-- The bytes of a list of bytes. -/
def bytesV : List V → Option (List UInt8)
  | [] => some []
  | .int .u8 n :: r => (bytesV r).map (fun l => UInt8.ofNat n.toNat :: l)
  | _ => none

def byteV (b : UInt8) : V := .int .u8 b.toNat

def sizeT (P : Program) (t : TypeId) : Nat := ((P.info? t).map (·.size)).getD 0
def bytesT (P : Program) (t : TypeId) : Nat := ((P.info? t).map (·.bytes)).getD 0
def aggT (P : Program) (t : TypeId) : Option Bool := match P.underlying t with | some (.struct _) => some true | some (.array _ _) => some true | some _ => some false | none => none

/-- n cells as a value of a type. -/
def pack (P : Program) (t : TypeId) (cs : List V) : Option V :=
  match aggT P t with
  | some true => if cs.length = sizeT P t then some (.agg cs) else none
  | some false => (match cs with
    | v :: _ => some v
    | [] => none)
  | none => none

/-- The n cells behind an address. -/
def peek (h : Heap) (n : Nat) : V → Option (List V)
  | .ptr i off => (match h[i]? with
    | some b => if b.sz = 0 ∧ off + n ≤ b.cs.length then some ((b.cs.drop off).take n) else none
    | none => none)
  | .eptr i tot k off => (match h[i]? with
    | some b => if 0 < b.sz ∧ b.cs.length = tot then
        (match b.cs[k]? with
          | some e => if off + n ≤ e.cells.length then some ((e.cells.drop off).take n) else none
          | none => none)
      else none
    | none => none)
  | .iptr cs => if n ≤ cs.length then some (cs.take n) else none
  | _ => none

def load (P : Program) (h : Heap) (t : TypeId) (a : V) : Option V :=
  if 0 < sizeT P t then (peek h (sizeT P t) a).bind (pack P t) else none

/-- Cells laid over others from a place on. -/
def lay : List V → Nat → List V → List V
  | c :: r, 0, v :: vs => v :: lay r 0 vs
  | c :: r, n + 1, vs => c :: lay r n vs
  | cs, _, _ => cs

def onElem (e : V) (off : Nat) (cs : List V) : V := match e with | .agg xs => .agg (lay xs off cs) | v => (match cs with | [x] => x | _ => v)

def ones : List V → Bool
  | [] => true
  | v :: r => v.one && ones r

def storeV (P : Program) (h : Heap) (t : TypeId) (a v : V) : Option Heap :=
  if 0 < sizeT P t ∧ v.cells.length = sizeT P t ∧ ones v.cells = true then
    match a with
    | .ptr i off => (match h[i]? with
      | some b => if b.sz = 0 ∧ b.fz = false ∧ off + sizeT P t ≤ b.cs.length then some (h.set i ⟨lay b.cs off v.cells, 0, false, false⟩) else none
      | none => none)
    | .eptr i tot k off => (match h[i]? with
      | some b => if 0 < b.sz ∧ b.cs.length = tot ∧ b.fz = false ∧ (b.pl = true → plains v.cells = true) then
          (match b.cs[k]? with
            | some e => if off + sizeT P t ≤ e.cells.length then some (h.set i { b with cs := b.cs.set k (onElem e off v.cells) }) else none
            | none => none)
        else none
      | none => none)
    | _ => none
  else none

def fieldAddr (P : Program) (s : TypeId) (x : V) (f : Nat) : Option V :=
  match P.underlying s with
  | some (.struct fs) => (match fs[f]? with
    | some fd => if sizeT P fd.type = 0 then none else
      (match x with
        | .ptr h off => some (.ptr h (off + fd.offset))
        | .eptr h tot k off => some (.eptr h tot k (off + fd.offset))
        | .iptr cs => some (.iptr (cs.drop fd.offset))
        | _ => none)
    | none => none)
  | _ => none

def field (P : Program) (s : TypeId) (x : V) (f : Nat) : Option V :=
  match P.underlying s with
  | some (.struct fs) => (match fs[f]? with
    | some fd => (match x with
        | .agg cs => if fd.offset + sizeT P fd.type ≤ cs.length then (if 0 < sizeT P fd.type then pack P fd.type ((cs.drop fd.offset).take (sizeT P fd.type)) else none) else none
        | _ => none)
    | none => none)
  | _ => none

def indexAddr (P : Program) (h : Heap) (t : TypeId) (x : V) (i : Int) : Option V :=
  match P.underlying t with
  | some (.slice e) => (els h x).bind fun es =>
      if 0 ≤ i ∧ i < es.length ∧ szOk h (sizeT P e) x = true then
        (match x with
          | .row k tot => some (.eptr k tot i.toNat 0)
          | _ => (es[i.toNat]?).map fun e => .iptr e.cells)
      else none
  | some (.array n e) =>
      if 0 ≤ i ∧ i < n ∧ 0 < sizeT P e then
        (match x with
          | .ptr k off => some (.ptr k (off + i.toNat * sizeT P e))
          | .eptr k tot j off => some (.eptr k tot j (off + i.toNat * sizeT P e))
          | .iptr cs => some (.iptr (cs.drop (i.toNat * sizeT P e)))
          | _ => none)
      else none
  | _ => none

def index (P : Program) (t : TypeId) (x : V) (i : Int) : Option V :=
  match P.underlying t, x with
  | some .string, .str s => if 0 ≤ i ∧ i < s.size then some (.int .u8 ((s.data[i.toNat]?).getD 0).toNat) else none
  | some (.array n e), .agg cs => if 0 ≤ i ∧ i < n ∧ 0 < sizeT P e ∧ n * sizeT P e ≤ cs.length then pack P e ((cs.drop (i.toNat * sizeT P e)).take (sizeT P e)) else none
  | _, _ => none

def conv (P : Program) (src dst : TypeId) (x : V) : Option V :=
  match P.underlying src with
  | none => none
  | some u => (match P.underlying dst, x with
    | some (.int k), .int _ n => some (.int k (k.wrap n))
    | some (.float k), .int _ n => some (.fl k (k.nearest n))
    | some (.int k), .fl s b => (match (s.decode b).toInt .zero with
      | some n => if k.min ≤ n ∧ n ≤ k.max then some (.int k n) else none
      | none => none)
    | some (.float k), .fl s b => if s = k then some (.fl k b) else none
    | some .string, .str s => (match u with | .string => some (.str s) | _ => none)
    | _, _ => none)

/-- 'string(b)' of bytes. -/
def convStr (P : Program) (h : Heap) (src dst : TypeId) (x : V) : Option V :=
  match P.underlying src, P.underlying dst with
  | some (.slice e), some .string => (match P.underlying e with
    | some (.int .u8) => ((els h x).bind bytesV).map fun l => .str ⟨l.toArray⟩
    | _ => none)
  | _, _ => none

def bound (x : Option V) (d : Nat) (hi : Nat) : Option Nat :=
  match x with
  | none => some d
  | some (.int _ n) => if 0 ≤ n ∧ n ≤ hi then some n.toNat else none
  | _ => none

def sliceV (P : Program) (h : Heap) (t : TypeId) (x : V) (lo hi mx : Option V) : Option (V × Heap) :=
  match P.underlying t, x with
  | some .string, .str s => (match mx with
    | none => (bound hi s.size s.size).bind fun b => (bound lo 0 b).bind fun a => some (.str (s.extract a b), h)
    | some _ => none)
  | some (.slice e), .nils => if 0 < sizeT P e then (bound mx 0 0).bind fun m => (bound hi 0 m).bind fun b => (bound lo 0 b).bind fun _ => some (.nils, h) else none
  | some (.slice e), .sl es sz c => if sz = sizeT P e then (bound mx es.length es.length).bind fun m => (bound hi es.length m).bind fun b => (bound lo 0 b).bind fun a =>
      some (.sl ((es.take b).drop a) sz (match mx, hi with | some _, _ => m == b | none, none => c | none, some _ => false), h) else none
  | some (.slice e), .row i tot => (match h[i]? with
    | some bx => if 0 < bx.sz ∧ bx.cs.length = tot ∧ bx.pl = true ∧ bx.sz = sizeT P e then
        (bound mx tot tot).bind fun m => (bound hi tot m).bind fun b => (bound lo 0 b).bind fun a =>
          some (.sl ((bx.cs.take b).drop a) bx.sz (match mx with | some _ => m == b | none => false), h.set i { bx with fz := true })
      else none
    | none => none)
  | _, _ => none

def lenV (P : Program) (h : Heap) (t : TypeId) (x : V) : Option V :=
  match P.underlying t, x with
  | some .string, .str s => some (.int .i64 s.size)
  | some (.array n _), _ => some (.int .i64 n)
  | some (.slice _), x => (els h x).map fun es => .int .i64 es.length
  | _, _ => none

def maxLen47 : Nat := 2 ^ 47

def zeroV (P : Program) (t : TypeId) : Option V := ((P.info? t).bind (·.zero)).map val

/-- A type of elements: it has cells, and a zero of so many. -/
def elOk (P : Program) (e : TypeId) : Bool := match zeroV P e with | some z => decide (0 < sizeT P e) && (z.cells.length == sizeT P e) | none => false

/-- 'append(x, y...)': the new elements. -/
def appendV (P : Program) (h : Heap) (t : TypeId) (x : V) (ys : List V) : Option (V × Heap) :=
  match P.underlying t with
  | some (.slice e) =>
    if elOk P e = true then
      match x with
      | .nils => if ys.length * bytesT P e ≤ maxLen47 ∧ ys.length ≤ maxLen47 then some (.row h.length ys.length, h ++ [⟨ys, sizeT P e, plains ys, false⟩]) else none
      | .sl es sz true => (match ys with
        | [] => some (x, h)
        | _ :: _ => if sz = sizeT P e ∧ (es.length + ys.length) * bytesT P e ≤ maxLen47 ∧ es.length + ys.length ≤ maxLen47 then some (.row h.length (es.length + ys.length), h ++ [⟨es ++ ys, sizeT P e, plains ys, false⟩]) else none)
      | .row i tot => (match h[i]? with
        | some b => if b.sz = sizeT P e ∧ b.cs.length = tot ∧ (b.pl = true → plains ys = true) ∧ (tot + ys.length) * bytesT P e ≤ maxLen47 ∧ tot + ys.length ≤ maxLen47 then
            some (.row i (tot + ys.length), h.set i { b with cs := b.cs ++ ys })
          else none
        | none => none)
      | _ => none
    else none
  | _ => none

/-- Parts laid into cells. -/
def fillV (place : Nat → Option (Nat × Nat)) (cs : List V) : List (Nat × V) → Option (List V)
  | [] => some cs
  | (i, v) :: r => (match place i with
    | some (off, size) => if v.cells.length = size ∧ off + size ≤ cs.length ∧ ones v.cells = true then fillV place (lay cs off v.cells) r else none
    | none => none)

def build (P : Program) (t : TypeId) (parts : List (Nat × V)) : Option V :=
  match P.underlying t with
  | some (.struct fs) => (zeroV P t).bind fun z => (fs.toList.mapM (fun f => (P.info? f.type).map fun i => (f.offset, i.size))).bind fun places => (fillV (fun i => places[i]?) z.cells parts).map .agg
  | some (.array _ e) => (zeroV P t).bind fun z => (P.info? e).bind fun ie => (fillV (fun i => some (i * ie.size, ie.size)) z.cells parts).map .agg
  | _ => none

/-- A slice literal all of whose elements are told, in order. -/
def litV (P : Program) (e : TypeId) : Nat → List (Nat × V) → Option (List V)
  | _, [] => some []
  | i, (j, v) :: r => if i = j ∧ v.cells.length = sizeT P e ∧ ones v.cells = true ∧ v.plain = true then (litV P e (i + 1) r).map (v :: ·) else none

def pickV (c : Bool) (x y : V) : V :=
  match x, y with
  | .bool a, .bool b => .bool (bif c then a else b)
  | x, y => bif c then x else y

def arg (E : Env) (t : List V) : Operand → V
  | .tmp i => t.getD i .wild
  | .const v => val v
  | .global g => (match E.G g with | some cs => .iptr cs | none => .wild)
  | .func f => .fn f [] []

def args (E : Env) (t : List V) (xs : Array Operand) : List V := xs.toList.map (arg E t)

def minV (x y : V) : Option V :=
  match x, y with
  | .int k a, .int _ b => some (.int k (if b < a then b else a))
  | _, _ => none
def maxV (x y : V) : Option V :=
  match x, y with
  | .int k a, .int _ b => some (.int k (if b > a then b else a))
  | _, _ => none
def foldV (f : V → V → Option V) : V → List V → Option V
  | x, [] => some x
  | x, y :: r => (f x y).bind fun z => foldV f z r
def foldsV (f : V → V → Option V) : List V → Option V
  | .int k n :: r => foldV f (.int k n) r
  | _ => none

/-- An operation that leaves the boxes alone. -/
def evRd (E : Env) (f : Nat) (t : List V) (o : Oper) (h : Heap) : Option V :=
  match o.op with
  | .move x => some (arg E t x)
  | .assign x => some (arg E t x)
  | .pick c a b => (match arg E t c with | .bool c' => some (pickV c' (arg E t a) (arg E t b)) | _ => none)
  | .build ty ps => build E.P ty (ps.toList.map fun p => (p.1, arg E t p.2))
  | .buildSlice ty n ps => (match E.P.underlying ty with
    | some (.slice e) => if 0 < sizeT E.P e ∧ n * sizeT E.P e ≤ 2 ^ 24 ∧ (zeroV E.P e).isSome = true then (litV E.P e 0 (ps.toList.map fun p => (p.1, arg E t p.2))).bind (fun es => if es.length = n then some (.sl es (sizeT E.P e) true) else none) else none
    | _ => none)
  | .load ty a => load E.P h ty (arg E t a)
  | .nilCheck x => (match arg E t x with
    | .ptr i j => some (.ptr i j)
    | .eptr i j k l => some (.eptr i j k l)
    | .iptr cs => some (.iptr cs)
    | .fn g a b => some (.fn g a b)
    | _ => none)
  | .binOp op ty x y _ => bin E.P op ty (arg E t x) (arg E t y)
  | .unOp op _ x => un op (arg E t x)
  | .convert src dst x => (match E.P.underlying src, E.P.underlying dst with
    | some (.slice _), some .string => convStr E.P h src dst (arg E t x)
    | _, _ => conv E.P src dst (arg E t x))
  | .makeFunc (.func g) a b => some (.fn g (args E t a) (args E t b))
  | .fieldAddr s x i => fieldAddr E.P s (arg E t x) i
  | .field s x i => field E.P s (arg E t x) i
  | .indexAddr ty x i => (match arg E t i with | .int _ n => indexAddr E.P h ty (arg E t x) n | _ => none)
  | .index ty x i => (match arg E t i with | .int _ n => index E.P ty (arg E t x) n | _ => none)
  | .extract x i => (match arg E t x with | .tup vs => vs[i]? | _ => none)
  | .box ty x => (match o.dst with
    | some d => if (E.imm f).contains d = true ∧ 0 < sizeT E.P ty ∧ (arg E t x).cells.length = sizeT E.P ty ∧ ones (arg E t x).cells = true ∧ plains (arg E t x).cells = true then some (.iptr (arg E t x).cells) else none
    | none => none)
  | .slice ty x lo hi mx => (match E.P.underlying ty with
    | some .string => (sliceV E.P h ty (arg E t x) (lo.map (arg E t)) (hi.map (arg E t)) (mx.map (arg E t))).map (·.1)
    | _ => none)
  | .call c => (match c.callee with
    | .builtin .len => (match c.argTypes[0]?, args E t c.args with | some ty, [x] => lenV E.P h ty x | _, _ => none)
    | .builtin .min => foldsV minV (args E t c.args)
    | .builtin .max => foldsV maxV (args E t c.args)
    | _ => none)
  | _ => none

/-- A value handed to a call that looks alone (or handed back by it): rows become slices that stay. -/
def fz1 (h : Heap) : V → Option (V × Heap)
  | .row i tot => (match h[i]? with
    | some b => if 0 < b.sz ∧ b.cs.length = tot ∧ b.pl = true then some (.sl b.cs b.sz false, h.set i { b with fz := true }) else none
    | none => none)
  | v => match v.plain with | true => some (v, h) | false => none
def fz1s (h : Heap) : List V → Option (List V × Heap)
  | [] => some ([], h)
  | v :: r => (fz1 h v).bind fun x => (fz1s x.2 r).map fun y => (x.1 :: y.1, y.2)
def fz2 (h : Heap) : V → Option (V × Heap)
  | .agg cs => (fz1s h cs).map fun x => (.agg x.1, x.2)
  | v => fz1 h v
def fz2s (h : Heap) : List V → Option (List V × Heap)
  | [] => some ([], h)
  | v :: r => (fz2 h v).bind fun x => (fz2s x.2 r).map fun y => (x.1 :: y.1, y.2)
/-- What such a call hands back. -/
def give (h : Heap) : V → Option V
  | .tup vs => (fz2s h vs).map fun x => .tup x.1
  | v => (fz2 h v).map (·.1)

/-- Functions of the library without a body of Go's. -/
inductive Outer where
  | bits64
  | frombits64
  | add64
  | sub64

def outer : Outer → List V → Option V
  | .bits64, [.fl .f64 b] => if b < 2 ^ 64 then some (.int .u64 b) else none
  | .frombits64, [.int .u64 n] => if 0 ≤ n ∧ n < 2 ^ 64 then some (.fl .f64 n.toNat) else none
  | .add64, [.int _ x, .int _ y, .int _ c] => if c.toNat ≤ 1 then some (.tup [.int .u64 ((x.toNat + y.toNat + c.toNat) % 2 ^ 64 : Nat), .int .u64 ((x.toNat + y.toNat + c.toNat) / 2 ^ 64 : Nat)]) else none
  | .sub64, [.int _ x, .int _ y, .int _ c] => if c.toNat ≤ 1 then some (.tup [.int .u64 ((x.toNat + 2 ^ 64 - y.toNat - c.toNat) % 2 ^ 64 : Nat), .int .u64 (if x.toNat < y.toNat + c.toNat then 1 else 0 : Nat)]) else none
  | _, _ => none

/-- The calls: 'shared' ones look at the caller's boxes. -/
structure Calls_ where
  shared : Nat → Bool
  run : Nat → List V → Heap → Res

def callV (c : Calls_) (g : Nat) (as : List V) (h : Heap) : Option (V × Heap) :=
  match c.shared g with
  | true => c.run g as h
  | false => (fz2s h as).bind fun x => (c.run g x.1 []).bind fun r => (give r.2 r.1).map fun v => (v, x.2)

/-- The elements of what is appended or copied. -/
def srcV (P : Program) (h : Heap) (n : Nat) (t : TypeId) (y : V) : Option (List V) :=
  match P.underlying t, y with
  | some .string, .str s => if n = 1 then some (s.data.toList.map byteV) else none
  | some (.slice _), y => if szOk h n y = true then els h y else none
  | _, _ => none

/-- How many cells an element of a slice type has. -/
def elemT (P : Program) (t : TypeId) : Nat := match P.underlying t with | some (.slice e) => sizeT P e | _ => 0

/-- An operation that may write, make or call. -/
def evEff (E : Env) (c : Calls_) (f : Nat) (t : List V) (o : Oper) (h : Heap) : Option (V × Heap) :=
  match o.op with
  | .alloc ty => (zeroV E.P ty).bind fun z => if 0 < sizeT E.P ty ∧ z.cells.length = sizeT E.P ty ∧ ones z.cells = true then some (.ptr h.length 0, h ++ [⟨z.cells, 0, false, false⟩]) else none
  | .box ty x => if 0 < sizeT E.P ty ∧ (arg E t x).cells.length = sizeT E.P ty ∧ ones (arg E t x).cells = true then some (.ptr h.length 0, h ++ [⟨(arg E t x).cells, 0, false, false⟩]) else none
  | .store ty a x => (storeV E.P h ty (arg E t a) (arg E t x)).map fun h' => (.undef, h')
  | .makeSlice ty l k => (match E.P.underlying ty, arg E t l, arg E t k with
    | some (.slice e), .int _ n, .int _ m => (zeroV E.P e).bind fun z => if 0 ≤ n ∧ n ≤ m ∧ m * bytesT E.P e ≤ maxLen47 ∧ m ≤ maxLen47 ∧ 0 < sizeT E.P e ∧ z.cells.length = sizeT E.P e ∧ ones z.cells = true ∧ z.plain = true then
        some (.row h.length n.toNat, h ++ [⟨List.replicate n.toNat z, sizeT E.P e, true, false⟩]) else none
    | _, _, _ => none)
  | .slice ty x lo hi mx => (match mx.isSome && hi.isNone with
    | true => none
    | false => sliceV E.P h ty (arg E t x) (lo.map (arg E t)) (hi.map (arg E t)) (mx.map (arg E t)))
  | .call q => (match q.callee with
    | .builtin .append => (match q.argTypes.toList, args E t q.args with
      | [ty, ty'], [x, y] => (srcV E.P h (elemT E.P ty) ty' y).bind fun ys => appendV E.P h ty x ys
      | _, _ => none)
    | .value g => (match arg E t g with
      | .fn g first cap => callV c g (first ++ args E t q.args ++ cap) h
      | _ => none)
    | _ => none)
  | _ => none

/-- Does it (or may it) write, make or call? -/
def isEff (E : Env) (f : Nat) (o : Oper) : Bool :=
  match o.op with
  | .alloc _ => true
  | .box _ _ => !((o.dst.map fun d => (E.imm f).contains d).getD false)
  | .store _ _ _ => true
  | .makeSlice _ _ _ => true
  | .slice ty _ _ _ _ => (match E.P.underlying ty with | some .string => false | _ => true)
  | .call q => (match q.callee with
    | .builtin .append => true
    | .builtin .copy => true
    | .value _ => true
    | _ => false)
  | _ => false

def putV (t : List V) (d : Option Nat) (v : V) : List V := match d with | some i => t.set i v | none => t

/-- What a guard says: go on, pass over. -/
def guardV (ops : Array Oper) (t : List V) (g : Option (Nat × Bool)) (go pass : Res) : Res :=
  match g with
  | none => go
  | some (j, want) => (match ((ops[j]?).bind (·.dst)).map fun d => t.getD d .wild with
    | some (.bool b) => (match want with | true => bif b then go else pass | false => bif b then pass else go)
    | some .undef => pass
    | _ => none)

def evOne (E : Env) (c : Calls_) (f : Nat) (t : List V) (o : Oper) (h : Heap) (K : V → Heap → Res) : Res :=
  match isEff E f o with
  | true => (evEff E c f t o h).bind fun r => K r.1 r.2
  | false => (evRd E f t o h).bind fun v => K v h

def evOps (E : Env) (c : Calls_) (f : Nat) (ops : Array Oper) : List Oper → List V → Heap → (List V → Heap → Res) → Res
  | [], t, h, K => K t h
  | o :: r, t, h, K => guardV ops t o.guard
      (evOne E c f t o h fun v h' => evOps E c f ops r (putV t o.dst v) h' K)
      (evOps E c f ops r (putV t o.dst .undef) h K)

def blindB : List Nat → Option Nat → Bool
  | [], _ => false
  | _ :: _, none => false
  | a :: r, some d => bif a == d then true else blindB r (some d)

def blindK : Bool → Option V → Option V
  | true, x => x.map fun _ => .wild
  | false, x => x

/-- A look in a region that draws its order. -/
def evRdD (E : Env) (f : Nat) (t : List V) (o : Oper) (h : Heap) : Option V := blindK (blindB (E.blind f) o.dst) (evRd E f t o h)

/-- Is it so? -/
noncomputable def chk (p : Prop) (k : Res) : Res := by classical exact if p then k else none

noncomputable def chks : List Prop → Res → Res
  | [], k => k
  | p :: r, k => chk p (chks r k)

/-- A region that draws its order, in the text's order: what only looks must see the same ahead of and behind each effect that it isn't ordered against. 'pend': what has looked; 'past': what has acted, and what was ahead of it. -/
noncomputable def evDraw (E : Env) (c : Calls_) (f : Nat) (ops : Array Oper) (bf : Array Nat) : Nat → List Oper → List (Nat × (Heap → Option V) × V) → List (Nat × Heap) → List V → Heap → (List V → Heap → Res) → Res
  | _, [], _, _, t, h, K => K t h
  | i, o :: r, pend, past, t, h, K => guardV ops t o.guard
      (match isEff E f o with
        | true => (evEff E c f t o h).bind fun rv =>
            chks ((pend.filter fun p => !(bf.getD i 0).testBit p.1).map fun p => p.2.1 rv.2 = some p.2.2)
              (evDraw E c f ops bf (i + 1) r pend ((i, h) :: past) (putV t o.dst rv.1) rv.2 K)
        | false => (evRdD E f t o h).bind fun v =>
            chks ((past.filter fun p => !(bf.getD i 0).testBit p.1).map fun p => evRdD E f t o p.2 = some v)
              (evDraw E c f ops bf (i + 1) r ((i, evRdD E f t o, v) :: pend) past (putV t o.dst v) h K))
      (evDraw E c f ops bf (i + 1) r pend past (putV t o.dst .undef) h K)

inductive Ex where
  | normal
  | exit (id : Nat)
  | ret

def codeKey : Code → Nat
  | .region id _ _ => id
  | .seq a b => (match codeKey a with | 0 => codeKey b | k + 1 => k + 1)
  | .cond _ a _ => codeKey a
  | .block _ a => codeKey a
  | .loop a => codeKey a
  | .scope a => codeKey a
  | _ => 0

def maskV (keep : List Nat) : Nat → List V → List V
  | _, [] => []
  | i, v :: r => (match keep.contains i with | true => v | false => .wild) :: maskV keep (i + 1) r

abbrev Kont := Ex → List V → Heap → Res

def evLoop (keep : List Nat) : Nat → (List V → Heap → Kont → Res) → List V → Heap → Kont → Res
  | 0, _, _, _, _ => none
  | n + 1, B, t, h, K => B t h fun ex t' h' => match ex with
    | .normal => evLoop keep n B (maskV keep 0 t') h' K
    | .exit id => K (.exit id) (maskV keep 0 t') h'
    | .ret => K .ret (maskV keep 0 t') h'

noncomputable def evCode (E : Env) (c : Calls_) (f d : Nat) : Code → List V → Heap → Kont → Res
  | .skip, t, h, K => K .normal t h
  | .label _, t, h, K => K .normal t h
  | .region _ ops draw, t, h, K => (match draw with
    | false => evOps E c f ops ops.toList t h (K .normal)
    | true => evDraw E c f ops (Region.before ops) 0 ops.toList [] [] t h (K .normal))
  | .seq a b, t, h, K => evCode E c f d a t h fun ex t' h' => match ex with
    | .normal => evCode E c f d b t' h' K
    | .exit id => K (.exit id) t' h'
    | .ret => K .ret t' h'
  | .cond x a b, t, h, K => (match arg E t x with
    | .bool v => bif v then evCode E c f d a t h K else evCode E c f d b t h K
    | _ => none)
  | .block id a, t, h, K => evCode E c f d a t h fun ex t' h' => match ex with
    | .normal => K .normal t' h'
    | .exit i => if i = id then K .normal t' h' else K (.exit i) t' h'
    | .ret => K .ret t' h'
  | .loop a, t, h, K => evLoop (E.keep f (codeKey a)) d (fun t' h' K' => evCode E c f d a t' h' K') (maskV (E.keep f (codeKey a)) 0 t) h K
  | .exit id, t, h, K => K (.exit id) t h
  | .ret, t, h, K => K .ret t h
  | _, _, _, _ => none

def results (P : Program) (rs : List ResultVar) (t : List V) (h : Heap) : Option (List V) :=
  match rs with
  | [] => some []
  | .tmp i :: r => (results P r t h).map fun l => t.getD i .wild :: l
  | .cell a ty :: r => (load P h ty (t.getD a .wild)).bind fun v => (results P r t h).map fun l => v :: l

def resV (l : List V) : V := match l with | [v] => v | l => .tup l

def retK (P : Program) (fn : Func) : Kont := fun ex t h => match ex with
  | .exit _ => none
  | .normal => (results P fn.results.toList t h).map fun l => (resV l, h)
  | .ret => (results P fn.results.toList t h).map fun l => (resV l, h)

/-- A told function that leaves the boxes alone. -/
def pureX (k : List V → Option V) (as : List V) (h : Heap) : Res := (k as).map fun v => (v, h)

/-- What the interpreter is told besides: which functions are told otherwise than by their bodies; which calls look at the caller's boxes; which functions' regions were looked through. -/
structure Lore extends Env where
  ext : Nat → Option (List V → Heap → Res)
  shared : Nat → Bool
  okf : Nat → Bool

noncomputable def evCall (E : Lore) : Nat → Nat → List V → Heap → Res
  | 0, _, _, _ => none
  | d + 1, f, as, h => (match E.ext f with
    | some k => k as h
    | none => (match E.P.funcs[f]? with
      | some fn => (match fn.body with
        | some b => (match E.okf f with
          | true => evCode E.toEnv ⟨E.shared, evCall E d⟩ f d b (as ++ List.replicate (fn.ntmps - as.length) .undef) h (retK E.P fn)
          | false => none)
        | none => none)
      | none => none))

end ops
end Ev
end Go.Proofs.YthpfimildcbgmaaDoor
