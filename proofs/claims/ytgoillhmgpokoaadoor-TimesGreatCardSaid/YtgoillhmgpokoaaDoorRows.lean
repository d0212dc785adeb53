/-
  NARROWER THAN 'FOR EVERY INPUT', by the rows' own cells (each row's printed sentence says how): TimesSpans: laid · TimesParts: laid · TimesParted: laid · TimesWindows: laid · TimesGreat: laid · TimesBack: laid · TimesRates: laid.
  DERIVED. THE GIVEN ROWS OF THIS SEAT. 7 by the template 'for every input the law returns true; each argument reads behind the call as it read before'; 0 by the template 'total and deterministic' (their statements: YtgoillhmgpokoaaDoorTotals.lean).
  GIVEN WITH THE SEED: the statements are not yours to turn. If you find one false, say at which input.
  Laid BY PROGRAM, IN A SANDBOX (cutbox-rows.mjs): the forced cells as the released guide's own fill.sh prints them over the translation 9742eb2446c14c34… (all of the seat's roots in one cut). By AI agents, Wed Nov 11 2026. No macro, syntax, notation, axiom, sorry.
-/
import Derived.Test.YtgoillhmgpokoaaDoorChecked
import GoSem.Claim
import GoSem.ClaimJoined
import GoSem.ClaimMapViews
import Derived.JoinedTies
import Derived.KernelRfl
namespace Go.Proofs.YtgoillhmgpokoaaDoor
/- THE CELL 'sum', in the pinned program and in every row, IS THE sha256 OF THE DUMP (.gsa) THAT YtgoillhmgpokoaaDoorProg.lean LOADS. Nothing in Lean hashes anything: it is a label: what it is worth is what the hold of that sum in a sandbox is worth. -/
noncomputable def Tryd.pinned : Pinned := { name := "ytgoillhmgpokoaadoor", sum := "9742eb2446c14c343efe0cbf2ba1d9eb7bc4521d2cd55e2c13bf61da7207f4f6", checked := Tryd.checked }
namespace Rows
def none {H : Type} : Left H := { results := [], args := [] }

/- WHAT THE LISTED PACKAGE-LEVEL VARIABLES READ AS WHEN THE CALL BEGINS. Each datum BY PROGRAM (the guide's laid-datum.mjs) off the statement by which the dump's own 'gosem.cut.vars' lays the variable. In a bare row this is a premise. The card (YtgoillhmgpokoaaDoorCards.lean) ties it to the program's text. -/
def laid_math_bits_deBruijn32tab {H : Type} : DataW H := .agg [.lit (.int .u8 0), .lit (.int .u8 1), .lit (.int .u8 28), .lit (.int .u8 2), .lit (.int .u8 29), .lit (.int .u8 14), .lit (.int .u8 24), .lit (.int .u8 3), .lit (.int .u8 30), .lit (.int .u8 22), .lit (.int .u8 20), .lit (.int .u8 15), .lit (.int .u8 25), .lit (.int .u8 17), .lit (.int .u8 4), .lit (.int .u8 8), .lit (.int .u8 31), .lit (.int .u8 27), .lit (.int .u8 13), .lit (.int .u8 23), .lit (.int .u8 21), .lit (.int .u8 19), .lit (.int .u8 16), .lit (.int .u8 7), .lit (.int .u8 26), .lit (.int .u8 12), .lit (.int .u8 18), .lit (.int .u8 6), .lit (.int .u8 11), .lit (.int .u8 5), .lit (.int .u8 10), .lit (.int .u8 9)]
def laid_math_bits_deBruijn64tab {H : Type} : DataW H := .agg [.lit (.int .u8 0), .lit (.int .u8 1), .lit (.int .u8 56), .lit (.int .u8 2), .lit (.int .u8 57), .lit (.int .u8 49), .lit (.int .u8 28), .lit (.int .u8 3), .lit (.int .u8 61), .lit (.int .u8 58), .lit (.int .u8 42), .lit (.int .u8 50), .lit (.int .u8 38), .lit (.int .u8 29), .lit (.int .u8 17), .lit (.int .u8 4), .lit (.int .u8 62), .lit (.int .u8 47), .lit (.int .u8 59), .lit (.int .u8 36), .lit (.int .u8 45), .lit (.int .u8 43), .lit (.int .u8 51), .lit (.int .u8 22), .lit (.int .u8 53), .lit (.int .u8 39), .lit (.int .u8 33), .lit (.int .u8 30), .lit (.int .u8 24), .lit (.int .u8 18), .lit (.int .u8 12), .lit (.int .u8 5), .lit (.int .u8 63), .lit (.int .u8 55), .lit (.int .u8 48), .lit (.int .u8 27), .lit (.int .u8 60), .lit (.int .u8 41), .lit (.int .u8 37), .lit (.int .u8 16), .lit (.int .u8 46), .lit (.int .u8 35), .lit (.int .u8 44), .lit (.int .u8 21), .lit (.int .u8 52), .lit (.int .u8 32), .lit (.int .u8 23), .lit (.int .u8 11), .lit (.int .u8 54), .lit (.int .u8 26), .lit (.int .u8 40), .lit (.int .u8 15), .lit (.int .u8 34), .lit (.int .u8 20), .lit (.int .u8 31), .lit (.int .u8 10), .lit (.int .u8 25), .lit (.int .u8 14), .lit (.int .u8 19), .lit (.int .u8 9), .lit (.int .u8 13), .lit (.int .u8 8), .lit (.int .u8 7), .lit (.int .u8 6)]
def laid_internal_strconv_uint64pow10 {H : Type} : DataW H := .agg [.lit (.int .u64 1), .lit (.int .u64 10), .lit (.int .u64 100), .lit (.int .u64 1000), .lit (.int .u64 10000), .lit (.int .u64 100000), .lit (.int .u64 1000000), .lit (.int .u64 10000000), .lit (.int .u64 100000000), .lit (.int .u64 1000000000), .lit (.int .u64 10000000000), .lit (.int .u64 100000000000), .lit (.int .u64 1000000000000), .lit (.int .u64 10000000000000), .lit (.int .u64 100000000000000), .lit (.int .u64 1000000000000000), .lit (.int .u64 10000000000000000), .lit (.int .u64 100000000000000000), .lit (.int .u64 1000000000000000000), .lit (.int .u64 10000000000000000000)]

/-- 'abacuslaw02.TimesSpans': WHATEVER THE INPUT: true; the input reads as it did. -/
def timesSpansSpec : ChangeSpec := { name := "timesSpans", fn := fun _ => fun
  | [d1, d2] => { results := [.lit (.bool true)], args := [d1, d2] }
  | _ => none }
def timesSpansRow : OpenClaim := { program := "ytgoillhmgpokoaadoor", sum := "9742eb2446c14c343efe0cbf2ba1d9eb7bc4521d2cd55e2c13bf61da7207f4f6", func := "abacus/abacuslaw02.TimesSpans", spec := "timesSpans", named := ["internal/strconv.uint64pow10", "math/bits.deBruijn32tab", "math/bits.deBruijn64tab"], apart := false, laid := [("math/bits.deBruijn32tab", laid_math_bits_deBruijn32tab), ("math/bits.deBruijn64tab", laid_math_bits_deBruijn64tab), ("internal/strconv.uint64pow10", laid_internal_strconv_uint64pow10)] }
def TimesSpansSaid : Prop := timesSpansRow.holds Tryd.pinned (OpenSpec.ofChange timesSpansSpec)

/-- ITS FALSE NEIGHBOUR: 'it returns false'. Refute it at one input. -/
def timesSpansWrong : ChangeSpec := { name := "timesSpans", fn := fun _ => fun
  | [d1, d2] => { results := [.lit (.bool false)], args := [d1, d2] }
  | _ => none }
def TimesSpansWrongFalsely : Prop := timesSpansRow.holds Tryd.pinned (OpenSpec.ofChange timesSpansWrong)

/-- 'abacuslaw02.TimesParts': WHATEVER THE INPUT: true; the input reads as it did. -/
def timesPartsSpec : ChangeSpec := { name := "timesParts", fn := fun _ => fun
  | [d1, d2, d3] => { results := [.lit (.bool true)], args := [d1, d2, d3] }
  | _ => none }
def timesPartsRow : OpenClaim := { program := "ytgoillhmgpokoaadoor", sum := "9742eb2446c14c343efe0cbf2ba1d9eb7bc4521d2cd55e2c13bf61da7207f4f6", func := "abacus/abacuslaw02.TimesParts", spec := "timesParts", named := ["internal/strconv.uint64pow10", "math/bits.deBruijn32tab", "math/bits.deBruijn64tab", "math/bits.divideError", "math/bits.overflowError"], apart := false, laid := [("math/bits.deBruijn32tab", laid_math_bits_deBruijn32tab), ("math/bits.deBruijn64tab", laid_math_bits_deBruijn64tab), ("internal/strconv.uint64pow10", laid_internal_strconv_uint64pow10)] }
def TimesPartsSaid : Prop := timesPartsRow.holds Tryd.pinned (OpenSpec.ofChange timesPartsSpec)

/-- ITS FALSE NEIGHBOUR: 'it returns false'. Refute it at one input. -/
def timesPartsWrong : ChangeSpec := { name := "timesParts", fn := fun _ => fun
  | [d1, d2, d3] => { results := [.lit (.bool false)], args := [d1, d2, d3] }
  | _ => none }
def TimesPartsWrongFalsely : Prop := timesPartsRow.holds Tryd.pinned (OpenSpec.ofChange timesPartsWrong)

/-- 'abacuslaw02.TimesParted': WHATEVER THE INPUT: true; the input reads as it did. -/
def timesPartedSpec : ChangeSpec := { name := "timesParted", fn := fun _ => fun
  | [d1, d2, d3] => { results := [.lit (.bool true)], args := [d1, d2, d3] }
  | _ => none }
def timesPartedRow : OpenClaim := { program := "ytgoillhmgpokoaadoor", sum := "9742eb2446c14c343efe0cbf2ba1d9eb7bc4521d2cd55e2c13bf61da7207f4f6", func := "abacus/abacuslaw02.TimesParted", spec := "timesParted", named := ["internal/strconv.uint64pow10", "math/bits.deBruijn32tab", "math/bits.deBruijn64tab", "math/bits.divideError", "math/bits.overflowError"], apart := false, laid := [("math/bits.deBruijn32tab", laid_math_bits_deBruijn32tab), ("math/bits.deBruijn64tab", laid_math_bits_deBruijn64tab), ("internal/strconv.uint64pow10", laid_internal_strconv_uint64pow10)] }
def TimesPartedSaid : Prop := timesPartedRow.holds Tryd.pinned (OpenSpec.ofChange timesPartedSpec)

/-- ITS FALSE NEIGHBOUR: 'it returns false'. Refute it at one input. -/
def timesPartedWrong : ChangeSpec := { name := "timesParted", fn := fun _ => fun
  | [d1, d2, d3] => { results := [.lit (.bool false)], args := [d1, d2, d3] }
  | _ => none }
def TimesPartedWrongFalsely : Prop := timesPartedRow.holds Tryd.pinned (OpenSpec.ofChange timesPartedWrong)

/-- 'abacuslaw02.TimesWindows': WHATEVER THE INPUT: true; the input reads as it did. -/
def timesWindowsSpec : ChangeSpec := { name := "timesWindows", fn := fun _ => fun
  | [d1, d2, d3, d4] => { results := [.lit (.bool true)], args := [d1, d2, d3, d4] }
  | _ => none }
def timesWindowsRow : OpenClaim := { program := "ytgoillhmgpokoaadoor", sum := "9742eb2446c14c343efe0cbf2ba1d9eb7bc4521d2cd55e2c13bf61da7207f4f6", func := "abacus/abacuslaw02.TimesWindows", spec := "timesWindows", named := ["internal/strconv.uint64pow10", "math/bits.deBruijn32tab", "math/bits.deBruijn64tab", "math/bits.divideError", "math/bits.overflowError"], apart := false, laid := [("math/bits.deBruijn32tab", laid_math_bits_deBruijn32tab), ("math/bits.deBruijn64tab", laid_math_bits_deBruijn64tab), ("internal/strconv.uint64pow10", laid_internal_strconv_uint64pow10)] }
def TimesWindowsSaid : Prop := timesWindowsRow.holds Tryd.pinned (OpenSpec.ofChange timesWindowsSpec)

/-- ITS FALSE NEIGHBOUR: 'it returns false'. Refute it at one input. -/
def timesWindowsWrong : ChangeSpec := { name := "timesWindows", fn := fun _ => fun
  | [d1, d2, d3, d4] => { results := [.lit (.bool false)], args := [d1, d2, d3, d4] }
  | _ => none }
def TimesWindowsWrongFalsely : Prop := timesWindowsRow.holds Tryd.pinned (OpenSpec.ofChange timesWindowsWrong)

/-- 'abacuslaw02.TimesGreat': WHATEVER THE INPUT: true; the input reads as it did. -/
def timesGreatSpec : ChangeSpec := { name := "timesGreat", fn := fun _ => fun
  | [d1, d2, d3, d4] => { results := [.lit (.bool true)], args := [d1, d2, d3, d4] }
  | _ => none }
def timesGreatRow : OpenClaim := { program := "ytgoillhmgpokoaadoor", sum := "9742eb2446c14c343efe0cbf2ba1d9eb7bc4521d2cd55e2c13bf61da7207f4f6", func := "abacus/abacuslaw02.TimesGreat", spec := "timesGreat", named := ["internal/strconv.uint64pow10", "math/bits.deBruijn32tab", "math/bits.deBruijn64tab", "math/bits.divideError", "math/bits.overflowError"], apart := false, laid := [("math/bits.deBruijn32tab", laid_math_bits_deBruijn32tab), ("math/bits.deBruijn64tab", laid_math_bits_deBruijn64tab), ("internal/strconv.uint64pow10", laid_internal_strconv_uint64pow10)] }
def TimesGreatSaid : Prop := timesGreatRow.holds Tryd.pinned (OpenSpec.ofChange timesGreatSpec)

/-- ITS FALSE NEIGHBOUR: 'it returns false'. Refute it at one input. -/
def timesGreatWrong : ChangeSpec := { name := "timesGreat", fn := fun _ => fun
  | [d1, d2, d3, d4] => { results := [.lit (.bool false)], args := [d1, d2, d3, d4] }
  | _ => none }
def TimesGreatWrongFalsely : Prop := timesGreatRow.holds Tryd.pinned (OpenSpec.ofChange timesGreatWrong)

/-- 'abacuslaw02.TimesBack': WHATEVER THE INPUT: true; the input reads as it did. -/
def timesBackSpec : ChangeSpec := { name := "timesBack", fn := fun _ => fun
  | [d1, d2, d3] => { results := [.lit (.bool true)], args := [d1, d2, d3] }
  | _ => none }
def timesBackRow : OpenClaim := { program := "ytgoillhmgpokoaadoor", sum := "9742eb2446c14c343efe0cbf2ba1d9eb7bc4521d2cd55e2c13bf61da7207f4f6", func := "abacus/abacuslaw02.TimesBack", spec := "timesBack", named := ["internal/strconv.uint64pow10", "math/bits.deBruijn32tab", "math/bits.deBruijn64tab", "math/bits.divideError", "math/bits.overflowError"], apart := false, laid := [("math/bits.deBruijn32tab", laid_math_bits_deBruijn32tab), ("math/bits.deBruijn64tab", laid_math_bits_deBruijn64tab), ("internal/strconv.uint64pow10", laid_internal_strconv_uint64pow10)] }
def TimesBackSaid : Prop := timesBackRow.holds Tryd.pinned (OpenSpec.ofChange timesBackSpec)

/-- ITS FALSE NEIGHBOUR: 'it returns false'. Refute it at one input. -/
def timesBackWrong : ChangeSpec := { name := "timesBack", fn := fun _ => fun
  | [d1, d2, d3] => { results := [.lit (.bool false)], args := [d1, d2, d3] }
  | _ => none }
def TimesBackWrongFalsely : Prop := timesBackRow.holds Tryd.pinned (OpenSpec.ofChange timesBackWrong)

/-- 'abacuslaw02.TimesRates': WHATEVER THE INPUT: true; the input reads as it did. -/
def timesRatesSpec : ChangeSpec := { name := "timesRates", fn := fun _ => fun
  | [d1, d2, d3] => { results := [.lit (.bool true)], args := [d1, d2, d3] }
  | _ => none }
def timesRatesRow : OpenClaim := { program := "ytgoillhmgpokoaadoor", sum := "9742eb2446c14c343efe0cbf2ba1d9eb7bc4521d2cd55e2c13bf61da7207f4f6", func := "abacus/abacuslaw02.TimesRates", spec := "timesRates", named := ["internal/strconv.uint64pow10", "math/bits.deBruijn32tab", "math/bits.deBruijn64tab", "math/bits.divideError", "math/bits.overflowError"], apart := false, laid := [("math/bits.deBruijn32tab", laid_math_bits_deBruijn32tab), ("math/bits.deBruijn64tab", laid_math_bits_deBruijn64tab), ("internal/strconv.uint64pow10", laid_internal_strconv_uint64pow10)] }
def TimesRatesSaid : Prop := timesRatesRow.holds Tryd.pinned (OpenSpec.ofChange timesRatesSpec)

/-- ITS FALSE NEIGHBOUR: 'it returns false'. Refute it at one input. -/
def timesRatesWrong : ChangeSpec := { name := "timesRates", fn := fun _ => fun
  | [d1, d2, d3] => { results := [.lit (.bool false)], args := [d1, d2, d3] }
  | _ => none }
def TimesRatesWrongFalsely : Prop := timesRatesRow.holds Tryd.pinned (OpenSpec.ofChange timesRatesWrong)

/- THE SECOND FORM. 'bulk': how many values and letters a reading holds, each counted each time it is reached (what is shared counts as often as it is met; a slice's spare places count too). A statement '..UptoSaid' is the law's where the arguments, and the package variables that the reading takes, are together of bulk at most 1048576: NARROWER than '..Said'. Prove '..Said' where nothing that the law and all that it calls make is longer than what came in: it says more and counts as full. Else prove '..UptoSaid'. A law counts once. -/
mutual
def uptoBulk {H : Type} : DataW H → Nat
  | .lit (.string bytes) => bytes.length + 1
  | .lit _ => 1
  | .nil => 1
  | .ptr d => uptoBulk d + 1
  | .slice elems spare => uptoBulkAll elems + uptoBulkAll spare + 1
  | .agg parts => uptoBulkAll parts + 1
  | .iface _ d => uptoBulk d + 1
  | .map entries => uptoBulkEntries entries + 1
  | .held _ => 1
def uptoBulkAll {H : Type} : List (DataW H) → Nat
  | [] => 0
  | d :: r => uptoBulk d + uptoBulkAll r
def uptoBulkEntries {H : Type} : List (Lit × DataW H) → Nat
  | [] => 0
  | x :: r => uptoBulkEntry x + uptoBulkEntries r
def uptoBulkEntry {H : Type} : Lit × DataW H → Nat
  | (.string bytes, d) => bytes.length + uptoBulk d + 1
  | (_, d) => uptoBulk d + 1
 end
def uptoSmall : (H : Type) → List (DataW H) → Bool := fun _ ds => decide (uptoBulkAll ds ≤ 1048576)
def OpenSpec.upto (s : _root_.Go.ChangeSpec) : _root_.Go.OpenSpec := { _root_.Go.OpenSpec.ofChange s with cond := some uptoSmall }

/-- 'abacuslaw02.TimesSpans', WHERE WHAT IT READS IS OF BULK AT MOST 1048576: true; the input reads as it did. -/
def timesSpansUptoRow : OpenClaim := { program := "ytgoillhmgpokoaadoor", sum := "9742eb2446c14c343efe0cbf2ba1d9eb7bc4521d2cd55e2c13bf61da7207f4f6", func := "abacus/abacuslaw02.TimesSpans", spec := "timesSpans", named := ["internal/strconv.uint64pow10", "math/bits.deBruijn32tab", "math/bits.deBruijn64tab"], apart := false, laid := [("math/bits.deBruijn32tab", laid_math_bits_deBruijn32tab), ("math/bits.deBruijn64tab", laid_math_bits_deBruijn64tab), ("internal/strconv.uint64pow10", laid_internal_strconv_uint64pow10)], narrowed := true }
def TimesSpansUptoSaid : Prop := timesSpansUptoRow.holds Tryd.pinned (OpenSpec.upto timesSpansSpec)

/-- 'abacuslaw02.TimesParts', WHERE WHAT IT READS IS OF BULK AT MOST 1048576: true; the input reads as it did. -/
def timesPartsUptoRow : OpenClaim := { program := "ytgoillhmgpokoaadoor", sum := "9742eb2446c14c343efe0cbf2ba1d9eb7bc4521d2cd55e2c13bf61da7207f4f6", func := "abacus/abacuslaw02.TimesParts", spec := "timesParts", named := ["internal/strconv.uint64pow10", "math/bits.deBruijn32tab", "math/bits.deBruijn64tab", "math/bits.divideError", "math/bits.overflowError"], apart := false, laid := [("math/bits.deBruijn32tab", laid_math_bits_deBruijn32tab), ("math/bits.deBruijn64tab", laid_math_bits_deBruijn64tab), ("internal/strconv.uint64pow10", laid_internal_strconv_uint64pow10)], narrowed := true }
def TimesPartsUptoSaid : Prop := timesPartsUptoRow.holds Tryd.pinned (OpenSpec.upto timesPartsSpec)

/-- 'abacuslaw02.TimesParted', WHERE WHAT IT READS IS OF BULK AT MOST 1048576: true; the input reads as it did. -/
def timesPartedUptoRow : OpenClaim := { program := "ytgoillhmgpokoaadoor", sum := "9742eb2446c14c343efe0cbf2ba1d9eb7bc4521d2cd55e2c13bf61da7207f4f6", func := "abacus/abacuslaw02.TimesParted", spec := "timesParted", named := ["internal/strconv.uint64pow10", "math/bits.deBruijn32tab", "math/bits.deBruijn64tab", "math/bits.divideError", "math/bits.overflowError"], apart := false, laid := [("math/bits.deBruijn32tab", laid_math_bits_deBruijn32tab), ("math/bits.deBruijn64tab", laid_math_bits_deBruijn64tab), ("internal/strconv.uint64pow10", laid_internal_strconv_uint64pow10)], narrowed := true }
def TimesPartedUptoSaid : Prop := timesPartedUptoRow.holds Tryd.pinned (OpenSpec.upto timesPartedSpec)

/-- 'abacuslaw02.TimesWindows', WHERE WHAT IT READS IS OF BULK AT MOST 1048576: true; the input reads as it did. -/
def timesWindowsUptoRow : OpenClaim := { program := "ytgoillhmgpokoaadoor", sum := "9742eb2446c14c343efe0cbf2ba1d9eb7bc4521d2cd55e2c13bf61da7207f4f6", func := "abacus/abacuslaw02.TimesWindows", spec := "timesWindows", named := ["internal/strconv.uint64pow10", "math/bits.deBruijn32tab", "math/bits.deBruijn64tab", "math/bits.divideError", "math/bits.overflowError"], apart := false, laid := [("math/bits.deBruijn32tab", laid_math_bits_deBruijn32tab), ("math/bits.deBruijn64tab", laid_math_bits_deBruijn64tab), ("internal/strconv.uint64pow10", laid_internal_strconv_uint64pow10)], narrowed := true }
def TimesWindowsUptoSaid : Prop := timesWindowsUptoRow.holds Tryd.pinned (OpenSpec.upto timesWindowsSpec)

/-- 'abacuslaw02.TimesGreat', WHERE WHAT IT READS IS OF BULK AT MOST 1048576: true; the input reads as it did. -/
def timesGreatUptoRow : OpenClaim := { program := "ytgoillhmgpokoaadoor", sum := "9742eb2446c14c343efe0cbf2ba1d9eb7bc4521d2cd55e2c13bf61da7207f4f6", func := "abacus/abacuslaw02.TimesGreat", spec := "timesGreat", named := ["internal/strconv.uint64pow10", "math/bits.deBruijn32tab", "math/bits.deBruijn64tab", "math/bits.divideError", "math/bits.overflowError"], apart := false, laid := [("math/bits.deBruijn32tab", laid_math_bits_deBruijn32tab), ("math/bits.deBruijn64tab", laid_math_bits_deBruijn64tab), ("internal/strconv.uint64pow10", laid_internal_strconv_uint64pow10)], narrowed := true }
def TimesGreatUptoSaid : Prop := timesGreatUptoRow.holds Tryd.pinned (OpenSpec.upto timesGreatSpec)

/-- 'abacuslaw02.TimesBack', WHERE WHAT IT READS IS OF BULK AT MOST 1048576: true; the input reads as it did. -/
def timesBackUptoRow : OpenClaim := { program := "ytgoillhmgpokoaadoor", sum := "9742eb2446c14c343efe0cbf2ba1d9eb7bc4521d2cd55e2c13bf61da7207f4f6", func := "abacus/abacuslaw02.TimesBack", spec := "timesBack", named := ["internal/strconv.uint64pow10", "math/bits.deBruijn32tab", "math/bits.deBruijn64tab", "math/bits.divideError", "math/bits.overflowError"], apart := false, laid := [("math/bits.deBruijn32tab", laid_math_bits_deBruijn32tab), ("math/bits.deBruijn64tab", laid_math_bits_deBruijn64tab), ("internal/strconv.uint64pow10", laid_internal_strconv_uint64pow10)], narrowed := true }
def TimesBackUptoSaid : Prop := timesBackUptoRow.holds Tryd.pinned (OpenSpec.upto timesBackSpec)

/-- 'abacuslaw02.TimesRates', WHERE WHAT IT READS IS OF BULK AT MOST 1048576: true; the input reads as it did. -/
def timesRatesUptoRow : OpenClaim := { program := "ytgoillhmgpokoaadoor", sum := "9742eb2446c14c343efe0cbf2ba1d9eb7bc4521d2cd55e2c13bf61da7207f4f6", func := "abacus/abacuslaw02.TimesRates", spec := "timesRates", named := ["internal/strconv.uint64pow10", "math/bits.deBruijn32tab", "math/bits.deBruijn64tab", "math/bits.divideError", "math/bits.overflowError"], apart := false, laid := [("math/bits.deBruijn32tab", laid_math_bits_deBruijn32tab), ("math/bits.deBruijn64tab", laid_math_bits_deBruijn64tab), ("internal/strconv.uint64pow10", laid_internal_strconv_uint64pow10)], narrowed := true }
def TimesRatesUptoSaid : Prop := timesRatesUptoRow.holds Tryd.pinned (OpenSpec.upto timesRatesSpec)

end Rows
end Go.Proofs.YtgoillhmgpokoaaDoor
