/-
  NARROWER THAN 'FOR EVERY INPUT', by the rows' own cells (each row's printed sentence says how): ChunkCodes: laid · ChunkBack: laid · ChunkFew: laid · ChunkGrows: laid · ChunkOwn: laid.
  DERIVED. THE GIVEN ROWS OF THIS SEAT. 5 by the template 'for every input the law returns true; each argument reads behind the call as it read before'; 0 by the template 'total and deterministic' (their statements: YtmjdcoacmmmhnaaDoorTotals.lean).
  GIVEN WITH THE SEED: the statements are not yours to turn. If you find one false, say at which input.
  Laid BY PROGRAM, IN A SANDBOX (cutbox-rows.mjs): the forced cells as the released guide's own fill.sh prints them over the translation 1ddbf7ce9363c4d6… (all of the seat's roots in one cut). By AI agents, Wed Nov 11 2026. No macro, syntax, notation, axiom, sorry.
-/
import Derived.Test.YtmjdcoacmmmhnaaDoorChecked
import GoSem.Claim
import GoSem.ClaimJoined
import GoSem.ClaimMapViews
import Derived.JoinedTies
import Derived.KernelRfl
namespace Go.Proofs.YtmjdcoacmmmhnaaDoor
/- THE CELL 'sum', in the pinned program and in every row, IS THE sha256 OF THE DUMP (.gsa) THAT YtmjdcoacmmmhnaaDoorProg.lean LOADS. Nothing in Lean hashes anything: it is a label: what it is worth is what the hold of that sum in a sandbox is worth. -/
noncomputable def Tryd.pinned : Pinned := { name := "ytmjdcoacmmmhnaadoor", sum := "1ddbf7ce9363c4d6680f1a0fb4087793dd43c4953c4ed4a200495f8735672bc7", checked := Tryd.checked }
namespace Rows
def none {H : Type} : Left H := { results := [], args := [] }

/- WHAT THE LISTED PACKAGE-LEVEL VARIABLES READ AS WHEN THE CALL BEGINS. Each datum BY PROGRAM (the guide's laid-datum.mjs) off the statement by which the dump's own 'gosem.cut.vars' lays the variable. In a bare row this is a premise. The card (YtmjdcoacmmmhnaaDoorCards.lean) ties it to the program's text. -/
def laid_math_bits_deBruijn64tab {H : Type} : DataW H := .agg [.lit (.int .u8 0), .lit (.int .u8 1), .lit (.int .u8 56), .lit (.int .u8 2), .lit (.int .u8 57), .lit (.int .u8 49), .lit (.int .u8 28), .lit (.int .u8 3), .lit (.int .u8 61), .lit (.int .u8 58), .lit (.int .u8 42), .lit (.int .u8 50), .lit (.int .u8 38), .lit (.int .u8 29), .lit (.int .u8 17), .lit (.int .u8 4), .lit (.int .u8 62), .lit (.int .u8 47), .lit (.int .u8 59), .lit (.int .u8 36), .lit (.int .u8 45), .lit (.int .u8 43), .lit (.int .u8 51), .lit (.int .u8 22), .lit (.int .u8 53), .lit (.int .u8 39), .lit (.int .u8 33), .lit (.int .u8 30), .lit (.int .u8 24), .lit (.int .u8 18), .lit (.int .u8 12), .lit (.int .u8 5), .lit (.int .u8 63), .lit (.int .u8 55), .lit (.int .u8 48), .lit (.int .u8 27), .lit (.int .u8 60), .lit (.int .u8 41), .lit (.int .u8 37), .lit (.int .u8 16), .lit (.int .u8 46), .lit (.int .u8 35), .lit (.int .u8 44), .lit (.int .u8 21), .lit (.int .u8 52), .lit (.int .u8 32), .lit (.int .u8 23), .lit (.int .u8 11), .lit (.int .u8 54), .lit (.int .u8 26), .lit (.int .u8 40), .lit (.int .u8 15), .lit (.int .u8 34), .lit (.int .u8 20), .lit (.int .u8 31), .lit (.int .u8 10), .lit (.int .u8 25), .lit (.int .u8 14), .lit (.int .u8 19), .lit (.int .u8 9), .lit (.int .u8 13), .lit (.int .u8 8), .lit (.int .u8 7), .lit (.int .u8 6)]
def laid_abacus_chunk_classes {H : Type} : DataW H := .agg [.agg [.lit (.int .u64 2), .lit (.int .i64 2), .lit (.int .i64 14)], .agg [.lit (.int .u64 6), .lit (.int .i64 3), .lit (.int .i64 17)], .agg [.lit (.int .u64 14), .lit (.int .i64 4), .lit (.int .i64 20)]]

/-- 'abacuslaw19.ChunkCodes': WHATEVER THE INPUT: true; the input reads as it did. -/
def chunkCodesSpec : ChangeSpec := { name := "chunkCodes", fn := fun _ => fun
  | [d1, d2] => { results := [.lit (.bool true)], args := [d1, d2] }
  | _ => none }
def chunkCodesRow : OpenClaim := { program := "ytmjdcoacmmmhnaadoor", sum := "1ddbf7ce9363c4d6680f1a0fb4087793dd43c4953c4ed4a200495f8735672bc7", func := "abacus/abacuslaw19.ChunkCodes", spec := "chunkCodes", inPlace := ["math.Float64bits", "math.Float64frombits"], recurses := true, named := ["math/bits.deBruijn64tab", "abacus/chunk.classes"], apart := false, laid := [("math/bits.deBruijn64tab", laid_math_bits_deBruijn64tab), ("abacus/chunk.classes", laid_abacus_chunk_classes)] }
def ChunkCodesSaid : Prop := chunkCodesRow.holds Tryd.pinned (OpenSpec.ofChange chunkCodesSpec)

/-- ITS FALSE NEIGHBOUR: 'it returns false'. Refute it at one input. -/
def chunkCodesWrong : ChangeSpec := { name := "chunkCodes", fn := fun _ => fun
  | [d1, d2] => { results := [.lit (.bool false)], args := [d1, d2] }
  | _ => none }
def ChunkCodesWrongFalsely : Prop := chunkCodesRow.holds Tryd.pinned (OpenSpec.ofChange chunkCodesWrong)

/-- 'abacuslaw19.ChunkBack': WHATEVER THE INPUT: true; the input reads as it did. -/
def chunkBackSpec : ChangeSpec := { name := "chunkBack", fn := fun _ => fun
  | [d1, d2] => { results := [.lit (.bool true)], args := [d1, d2] }
  | _ => none }
def chunkBackRow : OpenClaim := { program := "ytmjdcoacmmmhnaadoor", sum := "1ddbf7ce9363c4d6680f1a0fb4087793dd43c4953c4ed4a200495f8735672bc7", func := "abacus/abacuslaw19.ChunkBack", spec := "chunkBack", inPlace := ["math.Float64bits", "math.Float64frombits"], named := ["math/bits.deBruijn64tab", "abacus/chunk.classes"], apart := false, laid := [("math/bits.deBruijn64tab", laid_math_bits_deBruijn64tab), ("abacus/chunk.classes", laid_abacus_chunk_classes)] }
def ChunkBackSaid : Prop := chunkBackRow.holds Tryd.pinned (OpenSpec.ofChange chunkBackSpec)

/-- ITS FALSE NEIGHBOUR: 'it returns false'. Refute it at one input. -/
def chunkBackWrong : ChangeSpec := { name := "chunkBack", fn := fun _ => fun
  | [d1, d2] => { results := [.lit (.bool false)], args := [d1, d2] }
  | _ => none }
def ChunkBackWrongFalsely : Prop := chunkBackRow.holds Tryd.pinned (OpenSpec.ofChange chunkBackWrong)

/-- 'abacuslaw19.ChunkFew': WHATEVER THE INPUT: true; the input reads as it did. -/
def chunkFewSpec : ChangeSpec := { name := "chunkFew", fn := fun _ => fun
  | [d1, d2, d3, d4] => { results := [.lit (.bool true)], args := [d1, d2, d3, d4] }
  | _ => none }
def chunkFewRow : OpenClaim := { program := "ytmjdcoacmmmhnaadoor", sum := "1ddbf7ce9363c4d6680f1a0fb4087793dd43c4953c4ed4a200495f8735672bc7", func := "abacus/abacuslaw19.ChunkFew", spec := "chunkFew", inPlace := ["math.Float64bits", "math.Float64frombits"], named := ["math/bits.deBruijn64tab", "abacus/chunk.classes"], apart := false, laid := [("math/bits.deBruijn64tab", laid_math_bits_deBruijn64tab), ("abacus/chunk.classes", laid_abacus_chunk_classes)] }
def ChunkFewSaid : Prop := chunkFewRow.holds Tryd.pinned (OpenSpec.ofChange chunkFewSpec)

/-- ITS FALSE NEIGHBOUR: 'it returns false'. Refute it at one input. -/
def chunkFewWrong : ChangeSpec := { name := "chunkFew", fn := fun _ => fun
  | [d1, d2, d3, d4] => { results := [.lit (.bool false)], args := [d1, d2, d3, d4] }
  | _ => none }
def ChunkFewWrongFalsely : Prop := chunkFewRow.holds Tryd.pinned (OpenSpec.ofChange chunkFewWrong)

/-- 'abacuslaw19.ChunkGrows': WHATEVER THE INPUT: true; the input reads as it did. -/
def chunkGrowsSpec : ChangeSpec := { name := "chunkGrows", fn := fun _ => fun
  | [d1, d2, d3, d4] => { results := [.lit (.bool true)], args := [d1, d2, d3, d4] }
  | _ => none }
def chunkGrowsRow : OpenClaim := { program := "ytmjdcoacmmmhnaadoor", sum := "1ddbf7ce9363c4d6680f1a0fb4087793dd43c4953c4ed4a200495f8735672bc7", func := "abacus/abacuslaw19.ChunkGrows", spec := "chunkGrows", inPlace := ["math.Float64bits", "math.Float64frombits"], unfollowed := true, recurses := true, named := ["math/bits.deBruijn64tab", "abacus/chunk.classes"], apart := false, laid := [("math/bits.deBruijn64tab", laid_math_bits_deBruijn64tab), ("abacus/chunk.classes", laid_abacus_chunk_classes)] }
def ChunkGrowsSaid : Prop := chunkGrowsRow.holds Tryd.pinned (OpenSpec.ofChange chunkGrowsSpec)

/-- ITS FALSE NEIGHBOUR: 'it returns false'. Refute it at one input. -/
def chunkGrowsWrong : ChangeSpec := { name := "chunkGrows", fn := fun _ => fun
  | [d1, d2, d3, d4] => { results := [.lit (.bool false)], args := [d1, d2, d3, d4] }
  | _ => none }
def ChunkGrowsWrongFalsely : Prop := chunkGrowsRow.holds Tryd.pinned (OpenSpec.ofChange chunkGrowsWrong)

/-- 'abacuslaw19.ChunkOwn': WHATEVER THE INPUT: true; the input reads as it did. -/
def chunkOwnSpec : ChangeSpec := { name := "chunkOwn", fn := fun _ => fun
  | [d1, d2] => { results := [.lit (.bool true)], args := [d1, d2] }
  | _ => none }
def chunkOwnRow : OpenClaim := { program := "ytmjdcoacmmmhnaadoor", sum := "1ddbf7ce9363c4d6680f1a0fb4087793dd43c4953c4ed4a200495f8735672bc7", func := "abacus/abacuslaw19.ChunkOwn", spec := "chunkOwn", inPlace := ["math.Float64bits", "math.Float64frombits"], unfollowed := true, recurses := true, named := ["math/bits.deBruijn64tab", "abacus/chunk.classes"], apart := false, laid := [("math/bits.deBruijn64tab", laid_math_bits_deBruijn64tab), ("abacus/chunk.classes", laid_abacus_chunk_classes)] }
def ChunkOwnSaid : Prop := chunkOwnRow.holds Tryd.pinned (OpenSpec.ofChange chunkOwnSpec)

/-- ITS FALSE NEIGHBOUR: 'it returns false'. Refute it at one input. -/
def chunkOwnWrong : ChangeSpec := { name := "chunkOwn", fn := fun _ => fun
  | [d1, d2] => { results := [.lit (.bool false)], args := [d1, d2] }
  | _ => none }
def ChunkOwnWrongFalsely : Prop := chunkOwnRow.holds Tryd.pinned (OpenSpec.ofChange chunkOwnWrong)

/- THE SECOND FORM. 'bulk': how many values and letters a reading holds, each counted each time it is reached (what is shared counts as often as it is met; a slice's spare places count too). A statement '..UptoSaid' is the law's where the arguments, and the package variables that the reading takes, are together of bulk at most 1048576: NARROWER than '..Said'. Prove '..Said' where nothing that the law and all that it calls make is longer than what came in: it says more and counts as full. Else prove '..UptoSaid'. A law counts once. -/
mutual
def uptoBulk {H : Type} : DataW H → Nat
  | .lit (.string bytes) => bytes.length + 1
  | .lit _ => 1
  | .nil => 1
  | .ptr d => uptoBulk d + 1
  | .slice elems spare => uptoBulkAll elems + uptoBulkAll spare + 1
  | .agg parts => uptoBulkAll parts + 1
  | .iface _ d => uptoBulk d + 1
  | .map entries => uptoBulkEntries entries + 1
  | .held _ => 1
def uptoBulkAll {H : Type} : List (DataW H) → Nat
  | [] => 0
  | d :: r => uptoBulk d + uptoBulkAll r
def uptoBulkEntries {H : Type} : List (Lit × DataW H) → Nat
  | [] => 0
  | x :: r => uptoBulkEntry x + uptoBulkEntries r
def uptoBulkEntry {H : Type} : Lit × DataW H → Nat
  | (.string bytes, d) => bytes.length + uptoBulk d + 1
  | (_, d) => uptoBulk d + 1
 end
def uptoSmall : (H : Type) → List (DataW H) → Bool := fun _ ds => decide (uptoBulkAll ds ≤ 1048576)
def OpenSpec.upto (s : _root_.Go.ChangeSpec) : _root_.Go.OpenSpec := { _root_.Go.OpenSpec.ofChange s with cond := some uptoSmall }

/-- 'abacuslaw19.ChunkCodes', WHERE WHAT IT READS IS OF BULK AT MOST 1048576: true; the input reads as it did. -/
def chunkCodesUptoRow : OpenClaim := { program := "ytmjdcoacmmmhnaadoor", sum := "1ddbf7ce9363c4d6680f1a0fb4087793dd43c4953c4ed4a200495f8735672bc7", func := "abacus/abacuslaw19.ChunkCodes", spec := "chunkCodes", inPlace := ["math.Float64bits", "math.Float64frombits"], recurses := true, named := ["math/bits.deBruijn64tab", "abacus/chunk.classes"], apart := false, laid := [("math/bits.deBruijn64tab", laid_math_bits_deBruijn64tab), ("abacus/chunk.classes", laid_abacus_chunk_classes)], narrowed := true }
def ChunkCodesUptoSaid : Prop := chunkCodesUptoRow.holds Tryd.pinned (OpenSpec.upto chunkCodesSpec)

/-- 'abacuslaw19.ChunkBack', WHERE WHAT IT READS IS OF BULK AT MOST 1048576: true; the input reads as it did. -/
def chunkBackUptoRow : OpenClaim := { program := "ytmjdcoacmmmhnaadoor", sum := "1ddbf7ce9363c4d6680f1a0fb4087793dd43c4953c4ed4a200495f8735672bc7", func := "abacus/abacuslaw19.ChunkBack", spec := "chunkBack", inPlace := ["math.Float64bits", "math.Float64frombits"], named := ["math/bits.deBruijn64tab", "abacus/chunk.classes"], apart := false, laid := [("math/bits.deBruijn64tab", laid_math_bits_deBruijn64tab), ("abacus/chunk.classes", laid_abacus_chunk_classes)], narrowed := true }
def ChunkBackUptoSaid : Prop := chunkBackUptoRow.holds Tryd.pinned (OpenSpec.upto chunkBackSpec)

/-- 'abacuslaw19.ChunkFew', WHERE WHAT IT READS IS OF BULK AT MOST 1048576: true; the input reads as it did. -/
def chunkFewUptoRow : OpenClaim := { program := "ytmjdcoacmmmhnaadoor", sum := "1ddbf7ce9363c4d6680f1a0fb4087793dd43c4953c4ed4a200495f8735672bc7", func := "abacus/abacuslaw19.ChunkFew", spec := "chunkFew", inPlace := ["math.Float64bits", "math.Float64frombits"], named := ["math/bits.deBruijn64tab", "abacus/chunk.classes"], apart := false, laid := [("math/bits.deBruijn64tab", laid_math_bits_deBruijn64tab), ("abacus/chunk.classes", laid_abacus_chunk_classes)], narrowed := true }
def ChunkFewUptoSaid : Prop := chunkFewUptoRow.holds Tryd.pinned (OpenSpec.upto chunkFewSpec)

/-- 'abacuslaw19.ChunkGrows', WHERE WHAT IT READS IS OF BULK AT MOST 1048576: true; the input reads as it did. -/
def chunkGrowsUptoRow : OpenClaim := { program := "ytmjdcoacmmmhnaadoor", sum := "1ddbf7ce9363c4d6680f1a0fb4087793dd43c4953c4ed4a200495f8735672bc7", func := "abacus/abacuslaw19.ChunkGrows", spec := "chunkGrows", inPlace := ["math.Float64bits", "math.Float64frombits"], unfollowed := true, recurses := true, named := ["math/bits.deBruijn64tab", "abacus/chunk.classes"], apart := false, laid := [("math/bits.deBruijn64tab", laid_math_bits_deBruijn64tab), ("abacus/chunk.classes", laid_abacus_chunk_classes)], narrowed := true }
def ChunkGrowsUptoSaid : Prop := chunkGrowsUptoRow.holds Tryd.pinned (OpenSpec.upto chunkGrowsSpec)

/-- 'abacuslaw19.ChunkOwn', WHERE WHAT IT READS IS OF BULK AT MOST 1048576: true; the input reads as it did. -/
def chunkOwnUptoRow : OpenClaim := { program := "ytmjdcoacmmmhnaadoor", sum := "1ddbf7ce9363c4d6680f1a0fb4087793dd43c4953c4ed4a200495f8735672bc7", func := "abacus/abacuslaw19.ChunkOwn", spec := "chunkOwn", inPlace := ["math.Float64bits", "math.Float64frombits"], unfollowed := true, recurses := true, named := ["math/bits.deBruijn64tab", "abacus/chunk.classes"], apart := false, laid := [("math/bits.deBruijn64tab", laid_math_bits_deBruijn64tab), ("abacus/chunk.classes", laid_abacus_chunk_classes)], narrowed := true }
def ChunkOwnUptoSaid : Prop := chunkOwnUptoRow.holds Tryd.pinned (OpenSpec.upto chunkOwnSpec)

end Rows
end Go.Proofs.YtmjdcoacmmmhnaaDoor
