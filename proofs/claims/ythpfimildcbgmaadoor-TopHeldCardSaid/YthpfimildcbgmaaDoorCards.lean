/-
  DERIVED. GIVEN WITH THE SEED: THE CARDS: each row of YthpfimildcbgmaaDoorRows.lean that lists a variable, with what it lists TIED to the program's text (the seventh form; the later family's looks); each row that meets fmt, with fmt's text TOLD by the authors' own Lean function (tested against real Go, not proved from fmt's source: count such statements apart). THE CARD IS WHAT COUNTS. Prove the row's statement (the work); the ties are given (YthpfimildcbgmaaDoorTie.lean); close each card by the builder's one call (the guide's Derived/Test/ToyasCard.lean, 'card_holds'). Laid BY PROGRAM, IN A SANDBOX (cutbox-door.mjs). By AI agents, Wed Nov 11 2026. No macro, syntax, notation, axiom, sorry.
-/
import Derived.Test.YthpfimildcbgmaaDoorRows
import GoSem.ClaimSeven
namespace Go.Proofs.YthpfimildcbgmaaDoor
namespace Rows

/-- THE TIED CARD OF 'abacustop.TopTaken'. -/
def topTakenCard : Claim7 := { stood := { row := topTakenRow, standIns := [], harness := (true, "581cb80f6a324231661f6810166d8e5e4d04f9a75ce72dbd3801b082cb9e4621"), looks := false }, kinds := [], alts := [], laidByText := true, laidKinds := [.data, .data, .data, .data], laidTests := true, laidLooks := .later }
def TopTakenCardSaid : Prop := Claim7.holds Tryd.pinned (.plain (OpenSpec.ofChange topTakenSpec)) topTakenCard

/-- THE TIED CARD OF 'abacustop.TopHeld'. -/
def topHeldCard : Claim7 := { stood := { row := topHeldRow, standIns := [], harness := (true, "581cb80f6a324231661f6810166d8e5e4d04f9a75ce72dbd3801b082cb9e4621"), looks := false }, kinds := [], alts := [], laidByText := true, laidKinds := [.data, .data, .data, .data], laidTests := true, laidLooks := .later }
def TopHeldCardSaid : Prop := Claim7.holds Tryd.pinned (.plain (OpenSpec.ofChange topHeldSpec)) topHeldCard

/-- THE TIED CARD OF 'abacustop.TopClean'. -/
def topCleanCard : Claim7 := { stood := { row := topCleanRow, standIns := [], harness := (true, "581cb80f6a324231661f6810166d8e5e4d04f9a75ce72dbd3801b082cb9e4621"), looks := false }, kinds := [], alts := [], laidByText := true, laidKinds := [.data, .data, .data, .data], laidTests := true, laidLooks := .later }
def TopCleanCardSaid : Prop := Claim7.holds Tryd.pinned (.plain (OpenSpec.ofChange topCleanSpec)) topCleanCard

/-- THE TIED CARD OF 'abacustop.TopAccrued'. -/
def topAccruedCard : Claim7 := { stood := { row := topAccruedRow, standIns := [], harness := (true, "581cb80f6a324231661f6810166d8e5e4d04f9a75ce72dbd3801b082cb9e4621"), looks := false }, kinds := [], alts := [], laidByText := true, laidKinds := [.data, .data, .data], laidTests := true, laidLooks := .later }
def TopAccruedCardSaid : Prop := Claim7.holds Tryd.pinned (.plain (OpenSpec.ofChange topAccruedSpec)) topAccruedCard

/-- THE SECOND FORM's CARD OF 'abacustop.TopTaken'. -/
def topTakenUptoCard : Claim7 := { stood := { row := topTakenUptoRow, standIns := [], harness := (true, "581cb80f6a324231661f6810166d8e5e4d04f9a75ce72dbd3801b082cb9e4621"), looks := false }, kinds := [], alts := [], laidByText := true, laidKinds := [.data, .data, .data, .data], laidTests := true, laidLooks := .later }
def TopTakenUptoCardSaid : Prop := Claim7.holds Tryd.pinned (.plain (OpenSpec.upto topTakenSpec)) topTakenUptoCard

/-- THE SECOND FORM's CARD OF 'abacustop.TopHeld'. -/
def topHeldUptoCard : Claim7 := { stood := { row := topHeldUptoRow, standIns := [], harness := (true, "581cb80f6a324231661f6810166d8e5e4d04f9a75ce72dbd3801b082cb9e4621"), looks := false }, kinds := [], alts := [], laidByText := true, laidKinds := [.data, .data, .data, .data], laidTests := true, laidLooks := .later }
def TopHeldUptoCardSaid : Prop := Claim7.holds Tryd.pinned (.plain (OpenSpec.upto topHeldSpec)) topHeldUptoCard

/-- THE SECOND FORM's CARD OF 'abacustop.TopClean'. -/
def topCleanUptoCard : Claim7 := { stood := { row := topCleanUptoRow, standIns := [], harness := (true, "581cb80f6a324231661f6810166d8e5e4d04f9a75ce72dbd3801b082cb9e4621"), looks := false }, kinds := [], alts := [], laidByText := true, laidKinds := [.data, .data, .data, .data], laidTests := true, laidLooks := .later }
def TopCleanUptoCardSaid : Prop := Claim7.holds Tryd.pinned (.plain (OpenSpec.upto topCleanSpec)) topCleanUptoCard

/-- THE SECOND FORM's CARD OF 'abacustop.TopAccrued'. -/
def topAccruedUptoCard : Claim7 := { stood := { row := topAccruedUptoRow, standIns := [], harness := (true, "581cb80f6a324231661f6810166d8e5e4d04f9a75ce72dbd3801b082cb9e4621"), looks := false }, kinds := [], alts := [], laidByText := true, laidKinds := [.data, .data, .data], laidTests := true, laidLooks := .later }
def TopAccruedUptoCardSaid : Prop := Claim7.holds Tryd.pinned (.plain (OpenSpec.upto topAccruedSpec)) topAccruedUptoCard
end Rows
end Go.Proofs.YthpfimildcbgmaaDoor
