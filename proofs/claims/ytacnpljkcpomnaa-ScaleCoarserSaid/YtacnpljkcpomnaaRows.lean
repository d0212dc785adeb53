/-
  No cell of these rows narrows 'for every input' (looked for: loops, veiled, ifaces, maps, wideKeys, modest, calm, conditions, laid).
  DERIVED. THE GIVEN ROWS OF THIS SEAT. 7 by the template 'for every input the law returns true; each argument reads behind the call as it read before'; 0 by the template 'total and deterministic' (their statements: YtacnpljkcpomnaaTotals.lean).
  GIVEN WITH THE SEED: the statements are not yours to turn. If you find one false, say at which input.
  Laid BY PROGRAM, IN A SANDBOX (cutbox-rows.mjs): the forced cells as the released guide's own fill.sh prints them over the translation 660356239486b687… (all of the seat's roots in one cut). By AI agents, Wed Nov 11 2026. No macro, syntax, notation, axiom, sorry.
-/
import Derived.Test.YtacnpljkcpomnaaChecked
import GoSem.Claim
import GoSem.ClaimJoined
import GoSem.ClaimMapViews
import Derived.JoinedTies
import Derived.KernelRfl
namespace Go.Proofs.Ytacnpljkcpomnaa
/- THE CELL 'sum', in the pinned program and in every row, IS THE sha256 OF THE DUMP (.gsa) THAT YtacnpljkcpomnaaProg.lean LOADS. Nothing in Lean hashes anything: it is a label: what it is worth is what the hold of that sum in a sandbox is worth. -/
noncomputable def Try.pinned : Pinned := { name := "ytacnpljkcpomnaa", sum := "660356239486b687b6524c94009234cbaa24661088154c7584fd9f205bbd56b0", checked := Try.checked }
namespace Rows
def none {H : Type} : Left H := { results := [], args := [] }

/-- 'abacuslaw08.ScaleDigits': WHATEVER THE INPUT: true; the input reads as it did. -/
def scaleDigitsSpec : ChangeSpec := { name := "scaleDigits", fn := fun _ => fun
  | [d1, d2] => { results := [.lit (.bool true)], args := [d1, d2] }
  | _ => none }
def scaleDigitsRow : OpenClaim := { program := "ytacnpljkcpomnaa", sum := "660356239486b687b6524c94009234cbaa24661088154c7584fd9f205bbd56b0", func := "abacus/abacuslaw08.ScaleDigits", spec := "scaleDigits", inPlace := ["math.Float64bits", "math.Float64frombits", "math/bits.Add64", "math/bits.Sub64"], apart := false }
def ScaleDigitsSaid : Prop := scaleDigitsRow.holds Try.pinned (OpenSpec.ofChange scaleDigitsSpec)

/-- ITS FALSE NEIGHBOUR: 'it returns false'. Refute it at one input. -/
def scaleDigitsWrong : ChangeSpec := { name := "scaleDigits", fn := fun _ => fun
  | [d1, d2] => { results := [.lit (.bool false)], args := [d1, d2] }
  | _ => none }
def ScaleDigitsWrongFalsely : Prop := scaleDigitsRow.holds Try.pinned (OpenSpec.ofChange scaleDigitsWrong)

/-- 'abacuslaw08.ScaleIndexes': WHATEVER THE INPUT: true; the input reads as it did. -/
def scaleIndexesSpec : ChangeSpec := { name := "scaleIndexes", fn := fun _ => fun
  | [d1, d2, d3] => { results := [.lit (.bool true)], args := [d1, d2, d3] }
  | _ => none }
def scaleIndexesRow : OpenClaim := { program := "ytacnpljkcpomnaa", sum := "660356239486b687b6524c94009234cbaa24661088154c7584fd9f205bbd56b0", func := "abacus/abacuslaw08.ScaleIndexes", spec := "scaleIndexes", inPlace := ["math.Float64bits", "math.Float64frombits", "math/bits.Add64", "math/bits.Sub64"], apart := false }
def ScaleIndexesSaid : Prop := scaleIndexesRow.holds Try.pinned (OpenSpec.ofChange scaleIndexesSpec)

/-- ITS FALSE NEIGHBOUR: 'it returns false'. Refute it at one input. -/
def scaleIndexesWrong : ChangeSpec := { name := "scaleIndexes", fn := fun _ => fun
  | [d1, d2, d3] => { results := [.lit (.bool false)], args := [d1, d2, d3] }
  | _ => none }
def ScaleIndexesWrongFalsely : Prop := scaleIndexesRow.holds Try.pinned (OpenSpec.ofChange scaleIndexesWrong)

/-- 'abacuslaw08.ScaleParts': WHATEVER THE INPUT: true; the input reads as it did. -/
def scalePartsSpec : ChangeSpec := { name := "scaleParts", fn := fun _ => fun
  | [d1, d2, d3, d4] => { results := [.lit (.bool true)], args := [d1, d2, d3, d4] }
  | _ => none }
def scalePartsRow : OpenClaim := { program := "ytacnpljkcpomnaa", sum := "660356239486b687b6524c94009234cbaa24661088154c7584fd9f205bbd56b0", func := "abacus/abacuslaw08.ScaleParts", spec := "scaleParts", inPlace := ["math.Float64bits", "math.Float64frombits", "math/bits.Add64", "math/bits.Sub64"], apart := false }
def ScalePartsSaid : Prop := scalePartsRow.holds Try.pinned (OpenSpec.ofChange scalePartsSpec)

/-- ITS FALSE NEIGHBOUR: 'it returns false'. Refute it at one input. -/
def scalePartsWrong : ChangeSpec := { name := "scaleParts", fn := fun _ => fun
  | [d1, d2, d3, d4] => { results := [.lit (.bool false)], args := [d1, d2, d3, d4] }
  | _ => none }
def ScalePartsWrongFalsely : Prop := scalePartsRow.holds Try.pinned (OpenSpec.ofChange scalePartsWrong)

/-- 'abacuslaw08.ScaleExps': WHATEVER THE INPUT: true; the input reads as it did. -/
def scaleExpsSpec : ChangeSpec := { name := "scaleExps", fn := fun _ => fun
  | [d1, d2, d3] => { results := [.lit (.bool true)], args := [d1, d2, d3] }
  | _ => none }
def scaleExpsRow : OpenClaim := { program := "ytacnpljkcpomnaa", sum := "660356239486b687b6524c94009234cbaa24661088154c7584fd9f205bbd56b0", func := "abacus/abacuslaw08.ScaleExps", spec := "scaleExps", inPlace := ["math.Float64bits", "math.Float64frombits", "math/bits.Add64", "math/bits.Sub64"], unfollowed := true, recurses := true, apart := false }
def ScaleExpsSaid : Prop := scaleExpsRow.holds Try.pinned (OpenSpec.ofChange scaleExpsSpec)

/-- ITS FALSE NEIGHBOUR: 'it returns false'. Refute it at one input. -/
def scaleExpsWrong : ChangeSpec := { name := "scaleExps", fn := fun _ => fun
  | [d1, d2, d3] => { results := [.lit (.bool false)], args := [d1, d2, d3] }
  | _ => none }
def ScaleExpsWrongFalsely : Prop := scaleExpsRow.holds Try.pinned (OpenSpec.ofChange scaleExpsWrong)

/-- 'abacuslaw08.ScaleExact': WHATEVER THE INPUT: true; the input reads as it did. -/
def scaleExactSpec : ChangeSpec := { name := "scaleExact", fn := fun _ => fun
  | [d1, d2, d3] => { results := [.lit (.bool true)], args := [d1, d2, d3] }
  | _ => none }
def scaleExactRow : OpenClaim := { program := "ytacnpljkcpomnaa", sum := "660356239486b687b6524c94009234cbaa24661088154c7584fd9f205bbd56b0", func := "abacus/abacuslaw08.ScaleExact", spec := "scaleExact", inPlace := ["math.Float64bits", "math.Float64frombits", "math/bits.Add64", "math/bits.Sub64"], unfollowed := true, recurses := true, apart := false }
def ScaleExactSaid : Prop := scaleExactRow.holds Try.pinned (OpenSpec.ofChange scaleExactSpec)

/-- ITS FALSE NEIGHBOUR: 'it returns false'. Refute it at one input. -/
def scaleExactWrong : ChangeSpec := { name := "scaleExact", fn := fun _ => fun
  | [d1, d2, d3] => { results := [.lit (.bool false)], args := [d1, d2, d3] }
  | _ => none }
def ScaleExactWrongFalsely : Prop := scaleExactRow.holds Try.pinned (OpenSpec.ofChange scaleExactWrong)

/-- 'abacuslaw08.ScalePowers': WHATEVER THE INPUT: true; the input reads as it did. -/
def scalePowersSpec : ChangeSpec := { name := "scalePowers", fn := fun _ => fun
  | [d1, d2] => { results := [.lit (.bool true)], args := [d1, d2] }
  | _ => none }
def scalePowersRow : OpenClaim := { program := "ytacnpljkcpomnaa", sum := "660356239486b687b6524c94009234cbaa24661088154c7584fd9f205bbd56b0", func := "abacus/abacuslaw08.ScalePowers", spec := "scalePowers", inPlace := ["math.Float64bits", "math.Float64frombits", "math/bits.Add64", "math/bits.Sub64"], unfollowed := true, recurses := true, apart := false }
def ScalePowersSaid : Prop := scalePowersRow.holds Try.pinned (OpenSpec.ofChange scalePowersSpec)

/-- ITS FALSE NEIGHBOUR: 'it returns false'. Refute it at one input. -/
def scalePowersWrong : ChangeSpec := { name := "scalePowers", fn := fun _ => fun
  | [d1, d2] => { results := [.lit (.bool false)], args := [d1, d2] }
  | _ => none }
def ScalePowersWrongFalsely : Prop := scalePowersRow.holds Try.pinned (OpenSpec.ofChange scalePowersWrong)

/-- 'abacuslaw08.ScaleCoarser': WHATEVER THE INPUT: true; the input reads as it did. -/
def scaleCoarserSpec : ChangeSpec := { name := "scaleCoarser", fn := fun _ => fun
  | [d1, d2] => { results := [.lit (.bool true)], args := [d1, d2] }
  | _ => none }
def scaleCoarserRow : OpenClaim := { program := "ytacnpljkcpomnaa", sum := "660356239486b687b6524c94009234cbaa24661088154c7584fd9f205bbd56b0", func := "abacus/abacuslaw08.ScaleCoarser", spec := "scaleCoarser", inPlace := ["math.Float64bits", "math.Float64frombits", "math/bits.Add64", "math/bits.Sub64"], unfollowed := true, recurses := true, apart := false }
def ScaleCoarserSaid : Prop := scaleCoarserRow.holds Try.pinned (OpenSpec.ofChange scaleCoarserSpec)

/-- ITS FALSE NEIGHBOUR: 'it returns false'. Refute it at one input. -/
def scaleCoarserWrong : ChangeSpec := { name := "scaleCoarser", fn := fun _ => fun
  | [d1, d2] => { results := [.lit (.bool false)], args := [d1, d2] }
  | _ => none }
def ScaleCoarserWrongFalsely : Prop := scaleCoarserRow.holds Try.pinned (OpenSpec.ofChange scaleCoarserWrong)

/- THE SECOND FORM. 'bulk': how many values and letters a reading holds, each counted each time it is reached (what is shared counts as often as it is met; a slice's spare places count too). A statement '..UptoSaid' is the law's where the arguments, and the package variables that the reading takes, are together of bulk at most 1048576: NARROWER than '..Said'. Prove '..Said' where nothing that the law and all that it calls make is longer than what came in: it says more and counts as full. Else prove '..UptoSaid'. A law counts once. -/
mutual
def uptoBulk {H : Type} : DataW H → Nat
  | .lit (.string bytes) => bytes.length + 1
  | .lit _ => 1
  | .nil => 1
  | .ptr d => uptoBulk d + 1
  | .slice elems spare => uptoBulkAll elems + uptoBulkAll spare + 1
  | .agg parts => uptoBulkAll parts + 1
  | .iface _ d => uptoBulk d + 1
  | .map entries => uptoBulkEntries entries + 1
  | .held _ => 1
def uptoBulkAll {H : Type} : List (DataW H) → Nat
  | [] => 0
  | d :: r => uptoBulk d + uptoBulkAll r
def uptoBulkEntries {H : Type} : List (Lit × DataW H) → Nat
  | [] => 0
  | x :: r => uptoBulkEntry x + uptoBulkEntries r
def uptoBulkEntry {H : Type} : Lit × DataW H → Nat
  | (.string bytes, d) => bytes.length + uptoBulk d + 1
  | (_, d) => uptoBulk d + 1
 end
def uptoSmall : (H : Type) → List (DataW H) → Bool := fun _ ds => decide (uptoBulkAll ds ≤ 1048576)
def OpenSpec.upto (s : _root_.Go.ChangeSpec) : _root_.Go.OpenSpec := { _root_.Go.OpenSpec.ofChange s with cond := some uptoSmall }

/-- 'abacuslaw08.ScaleDigits', WHERE WHAT IT READS IS OF BULK AT MOST 1048576: true; the input reads as it did. -/
def scaleDigitsUptoRow : OpenClaim := { program := "ytacnpljkcpomnaa", sum := "660356239486b687b6524c94009234cbaa24661088154c7584fd9f205bbd56b0", func := "abacus/abacuslaw08.ScaleDigits", spec := "scaleDigits", inPlace := ["math.Float64bits", "math.Float64frombits", "math/bits.Add64", "math/bits.Sub64"], apart := false, narrowed := true }
def ScaleDigitsUptoSaid : Prop := scaleDigitsUptoRow.holds Try.pinned (OpenSpec.upto scaleDigitsSpec)

/-- 'abacuslaw08.ScaleIndexes', WHERE WHAT IT READS IS OF BULK AT MOST 1048576: true; the input reads as it did. -/
def scaleIndexesUptoRow : OpenClaim := { program := "ytacnpljkcpomnaa", sum := "660356239486b687b6524c94009234cbaa24661088154c7584fd9f205bbd56b0", func := "abacus/abacuslaw08.ScaleIndexes", spec := "scaleIndexes", inPlace := ["math.Float64bits", "math.Float64frombits", "math/bits.Add64", "math/bits.Sub64"], apart := false, narrowed := true }
def ScaleIndexesUptoSaid : Prop := scaleIndexesUptoRow.holds Try.pinned (OpenSpec.upto scaleIndexesSpec)

/-- 'abacuslaw08.ScaleParts', WHERE WHAT IT READS IS OF BULK AT MOST 1048576: true; the input reads as it did. -/
def scalePartsUptoRow : OpenClaim := { program := "ytacnpljkcpomnaa", sum := "660356239486b687b6524c94009234cbaa24661088154c7584fd9f205bbd56b0", func := "abacus/abacuslaw08.ScaleParts", spec := "scaleParts", inPlace := ["math.Float64bits", "math.Float64frombits", "math/bits.Add64", "math/bits.Sub64"], apart := false, narrowed := true }
def ScalePartsUptoSaid : Prop := scalePartsUptoRow.holds Try.pinned (OpenSpec.upto scalePartsSpec)

/-- 'abacuslaw08.ScaleExps', WHERE WHAT IT READS IS OF BULK AT MOST 1048576: true; the input reads as it did. -/
def scaleExpsUptoRow : OpenClaim := { program := "ytacnpljkcpomnaa", sum := "660356239486b687b6524c94009234cbaa24661088154c7584fd9f205bbd56b0", func := "abacus/abacuslaw08.ScaleExps", spec := "scaleExps", inPlace := ["math.Float64bits", "math.Float64frombits", "math/bits.Add64", "math/bits.Sub64"], unfollowed := true, recurses := true, apart := false, narrowed := true }
def ScaleExpsUptoSaid : Prop := scaleExpsUptoRow.holds Try.pinned (OpenSpec.upto scaleExpsSpec)

/-- 'abacuslaw08.ScaleExact', WHERE WHAT IT READS IS OF BULK AT MOST 1048576: true; the input reads as it did. -/
def scaleExactUptoRow : OpenClaim := { program := "ytacnpljkcpomnaa", sum := "660356239486b687b6524c94009234cbaa24661088154c7584fd9f205bbd56b0", func := "abacus/abacuslaw08.ScaleExact", spec := "scaleExact", inPlace := ["math.Float64bits", "math.Float64frombits", "math/bits.Add64", "math/bits.Sub64"], unfollowed := true, recurses := true, apart := false, narrowed := true }
def ScaleExactUptoSaid : Prop := scaleExactUptoRow.holds Try.pinned (OpenSpec.upto scaleExactSpec)

/-- 'abacuslaw08.ScalePowers', WHERE WHAT IT READS IS OF BULK AT MOST 1048576: true; the input reads as it did. -/
def scalePowersUptoRow : OpenClaim := { program := "ytacnpljkcpomnaa", sum := "660356239486b687b6524c94009234cbaa24661088154c7584fd9f205bbd56b0", func := "abacus/abacuslaw08.ScalePowers", spec := "scalePowers", inPlace := ["math.Float64bits", "math.Float64frombits", "math/bits.Add64", "math/bits.Sub64"], unfollowed := true, recurses := true, apart := false, narrowed := true }
def ScalePowersUptoSaid : Prop := scalePowersUptoRow.holds Try.pinned (OpenSpec.upto scalePowersSpec)

/-- 'abacuslaw08.ScaleCoarser', WHERE WHAT IT READS IS OF BULK AT MOST 1048576: true; the input reads as it did. -/
def scaleCoarserUptoRow : OpenClaim := { program := "ytacnpljkcpomnaa", sum := "660356239486b687b6524c94009234cbaa24661088154c7584fd9f205bbd56b0", func := "abacus/abacuslaw08.ScaleCoarser", spec := "scaleCoarser", inPlace := ["math.Float64bits", "math.Float64frombits", "math/bits.Add64", "math/bits.Sub64"], unfollowed := true, recurses := true, apart := false, narrowed := true }
def ScaleCoarserUptoSaid : Prop := scaleCoarserUptoRow.holds Try.pinned (OpenSpec.upto scaleCoarserSpec)

end Rows
end Go.Proofs.Ytacnpljkcpomnaa
