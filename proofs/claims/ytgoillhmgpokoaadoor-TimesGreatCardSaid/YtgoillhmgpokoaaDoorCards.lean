/-
  DERIVED. GIVEN WITH THE SEED: THE CARDS: each row of YtgoillhmgpokoaaDoorRows.lean that lists a variable, with what it lists TIED to the program's text (the seventh form; the later family's looks); each row that meets fmt, with fmt's text TOLD by the authors' own Lean function (tested against real Go, not proved from fmt's source: count such statements apart). THE CARD IS WHAT COUNTS. Prove the row's statement (the work); the ties are given (YtgoillhmgpokoaaDoorTie.lean); close each card by the builder's one call (the guide's Derived/Test/ToyasCard.lean, 'card_holds'). Laid BY PROGRAM, IN A SANDBOX (cutbox-door.mjs). By AI agents, Wed Nov 11 2026. No macro, syntax, notation, axiom, sorry.
-/
import Derived.Test.YtgoillhmgpokoaaDoorRows
import GoSem.ClaimSeven
namespace Go.Proofs.YtgoillhmgpokoaaDoor
namespace Rows

/-- THE TIED CARD OF 'abacuslaw02.TimesSpans'. -/
def timesSpansCard : Claim7 := { stood := { row := timesSpansRow, standIns := [], harness := (true, "d717956763806ffbd07078a7a02eb07c969bd21e3d6ccaf0bff4edb8a4ca8c60"), looks := false }, kinds := [], alts := [], laidByText := true, laidKinds := [.data, .data, .data], laidTests := true, laidLooks := .later }
def TimesSpansCardSaid : Prop := Claim7.holds Tryd.pinned (.plain (OpenSpec.ofChange timesSpansSpec)) timesSpansCard

/-- THE TIED CARD OF 'abacuslaw02.TimesParts'. -/
def timesPartsCard : Claim7 := { stood := { row := timesPartsRow, standIns := [], harness := (true, "d717956763806ffbd07078a7a02eb07c969bd21e3d6ccaf0bff4edb8a4ca8c60"), looks := false }, kinds := [], alts := [], laidByText := true, laidKinds := [.data, .data, .data], laidTests := true, laidLooks := .later }
def TimesPartsCardSaid : Prop := Claim7.holds Tryd.pinned (.plain (OpenSpec.ofChange timesPartsSpec)) timesPartsCard

/-- THE TIED CARD OF 'abacuslaw02.TimesParted'. -/
def timesPartedCard : Claim7 := { stood := { row := timesPartedRow, standIns := [], harness := (true, "d717956763806ffbd07078a7a02eb07c969bd21e3d6ccaf0bff4edb8a4ca8c60"), looks := false }, kinds := [], alts := [], laidByText := true, laidKinds := [.data, .data, .data], laidTests := true, laidLooks := .later }
def TimesPartedCardSaid : Prop := Claim7.holds Tryd.pinned (.plain (OpenSpec.ofChange timesPartedSpec)) timesPartedCard

/-- THE TIED CARD OF 'abacuslaw02.TimesWindows'. -/
def timesWindowsCard : Claim7 := { stood := { row := timesWindowsRow, standIns := [], harness := (true, "d717956763806ffbd07078a7a02eb07c969bd21e3d6ccaf0bff4edb8a4ca8c60"), looks := false }, kinds := [], alts := [], laidByText := true, laidKinds := [.data, .data, .data], laidTests := true, laidLooks := .later }
def TimesWindowsCardSaid : Prop := Claim7.holds Tryd.pinned (.plain (OpenSpec.ofChange timesWindowsSpec)) timesWindowsCard

/-- THE TIED CARD OF 'abacuslaw02.TimesGreat'. -/
def timesGreatCard : Claim7 := { stood := { row := timesGreatRow, standIns := [], harness := (true, "d717956763806ffbd07078a7a02eb07c969bd21e3d6ccaf0bff4edb8a4ca8c60"), looks := false }, kinds := [], alts := [], laidByText := true, laidKinds := [.data, .data, .data], laidTests := true, laidLooks := .later }
def TimesGreatCardSaid : Prop := Claim7.holds Tryd.pinned (.plain (OpenSpec.ofChange timesGreatSpec)) timesGreatCard

/-- THE TIED CARD OF 'abacuslaw02.TimesBack'. -/
def timesBackCard : Claim7 := { stood := { row := timesBackRow, standIns := [], harness := (true, "d717956763806ffbd07078a7a02eb07c969bd21e3d6ccaf0bff4edb8a4ca8c60"), looks := false }, kinds := [], alts := [], laidByText := true, laidKinds := [.data, .data, .data], laidTests := true, laidLooks := .later }
def TimesBackCardSaid : Prop := Claim7.holds Tryd.pinned (.plain (OpenSpec.ofChange timesBackSpec)) timesBackCard

/-- THE TIED CARD OF 'abacuslaw02.TimesRates'. -/
def timesRatesCard : Claim7 := { stood := { row := timesRatesRow, standIns := [], harness := (true, "d717956763806ffbd07078a7a02eb07c969bd21e3d6ccaf0bff4edb8a4ca8c60"), looks := false }, kinds := [], alts := [], laidByText := true, laidKinds := [.data, .data, .data], laidTests := true, laidLooks := .later }
def TimesRatesCardSaid : Prop := Claim7.holds Tryd.pinned (.plain (OpenSpec.ofChange timesRatesSpec)) timesRatesCard

/-- THE SECOND FORM's CARD OF 'abacuslaw02.TimesSpans'. -/
def timesSpansUptoCard : Claim7 := { stood := { row := timesSpansUptoRow, standIns := [], harness := (true, "d717956763806ffbd07078a7a02eb07c969bd21e3d6ccaf0bff4edb8a4ca8c60"), looks := false }, kinds := [], alts := [], laidByText := true, laidKinds := [.data, .data, .data], laidTests := true, laidLooks := .later }
def TimesSpansUptoCardSaid : Prop := Claim7.holds Tryd.pinned (.plain (OpenSpec.upto timesSpansSpec)) timesSpansUptoCard

/-- THE SECOND FORM's CARD OF 'abacuslaw02.TimesParts'. -/
def timesPartsUptoCard : Claim7 := { stood := { row := timesPartsUptoRow, standIns := [], harness := (true, "d717956763806ffbd07078a7a02eb07c969bd21e3d6ccaf0bff4edb8a4ca8c60"), looks := false }, kinds := [], alts := [], laidByText := true, laidKinds := [.data, .data, .data], laidTests := true, laidLooks := .later }
def TimesPartsUptoCardSaid : Prop := Claim7.holds Tryd.pinned (.plain (OpenSpec.upto timesPartsSpec)) timesPartsUptoCard

/-- THE SECOND FORM's CARD OF 'abacuslaw02.TimesParted'. -/
def timesPartedUptoCard : Claim7 := { stood := { row := timesPartedUptoRow, standIns := [], harness := (true, "d717956763806ffbd07078a7a02eb07c969bd21e3d6ccaf0bff4edb8a4ca8c60"), looks := false }, kinds := [], alts := [], laidByText := true, laidKinds := [.data, .data, .data], laidTests := true, laidLooks := .later }
def TimesPartedUptoCardSaid : Prop := Claim7.holds Tryd.pinned (.plain (OpenSpec.upto timesPartedSpec)) timesPartedUptoCard

/-- THE SECOND FORM's CARD OF 'abacuslaw02.TimesWindows'. -/
def timesWindowsUptoCard : Claim7 := { stood := { row := timesWindowsUptoRow, standIns := [], harness := (true, "d717956763806ffbd07078a7a02eb07c969bd21e3d6ccaf0bff4edb8a4ca8c60"), looks := false }, kinds := [], alts := [], laidByText := true, laidKinds := [.data, .data, .data], laidTests := true, laidLooks := .later }
def TimesWindowsUptoCardSaid : Prop := Claim7.holds Tryd.pinned (.plain (OpenSpec.upto timesWindowsSpec)) timesWindowsUptoCard

/-- THE SECOND FORM's CARD OF 'abacuslaw02.TimesGreat'. -/
def timesGreatUptoCard : Claim7 := { stood := { row := timesGreatUptoRow, standIns := [], harness := (true, "d717956763806ffbd07078a7a02eb07c969bd21e3d6ccaf0bff4edb8a4ca8c60"), looks := false }, kinds := [], alts := [], laidByText := true, laidKinds := [.data, .data, .data], laidTests := true, laidLooks := .later }
def TimesGreatUptoCardSaid : Prop := Claim7.holds Tryd.pinned (.plain (OpenSpec.upto timesGreatSpec)) timesGreatUptoCard

/-- THE SECOND FORM's CARD OF 'abacuslaw02.TimesBack'. -/
def timesBackUptoCard : Claim7 := { stood := { row := timesBackUptoRow, standIns := [], harness := (true, "d717956763806ffbd07078a7a02eb07c969bd21e3d6ccaf0bff4edb8a4ca8c60"), looks := false }, kinds := [], alts := [], laidByText := true, laidKinds := [.data, .data, .data], laidTests := true, laidLooks := .later }
def TimesBackUptoCardSaid : Prop := Claim7.holds Tryd.pinned (.plain (OpenSpec.upto timesBackSpec)) timesBackUptoCard

/-- THE SECOND FORM's CARD OF 'abacuslaw02.TimesRates'. -/
def timesRatesUptoCard : Claim7 := { stood := { row := timesRatesUptoRow, standIns := [], harness := (true, "d717956763806ffbd07078a7a02eb07c969bd21e3d6ccaf0bff4edb8a4ca8c60"), looks := false }, kinds := [], alts := [], laidByText := true, laidKinds := [.data, .data, .data], laidTests := true, laidLooks := .later }
def TimesRatesUptoCardSaid : Prop := Claim7.holds Tryd.pinned (.plain (OpenSpec.upto timesRatesSpec)) timesRatesUptoCard
end Rows
end Go.Proofs.YtgoillhmgpokoaaDoor
