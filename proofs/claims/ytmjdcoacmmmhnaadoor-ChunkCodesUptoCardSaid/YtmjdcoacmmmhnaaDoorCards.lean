/-
  DERIVED. GIVEN WITH THE SEED: THE CARDS: each row of YtmjdcoacmmmhnaaDoorRows.lean that lists a variable, with what it lists TIED to the program's text (the seventh form; the later family's looks); each row that meets fmt, with fmt's text TOLD by the authors' own Lean function (tested against real Go, not proved from fmt's source: count such statements apart). THE CARD IS WHAT COUNTS. Prove the row's statement (the work); the ties are given (YtmjdcoacmmmhnaaDoorTie.lean); close each card by the builder's one call (the guide's Derived/Test/ToyasCard.lean, 'card_holds'). Laid BY PROGRAM, IN A SANDBOX (cutbox-door.mjs). By AI agents, Wed Nov 11 2026. No macro, syntax, notation, axiom, sorry.
-/
import Derived.Test.YtmjdcoacmmmhnaaDoorRows
import GoSem.ClaimSeven
namespace Go.Proofs.YtmjdcoacmmmhnaaDoor
namespace Rows

/-- THE TIED CARD OF 'abacuslaw19.ChunkCodes'. -/
def chunkCodesCard : Claim7 := { stood := { row := chunkCodesRow, standIns := [], harness := (true, "88ef1f4bdc5c6c64b0d2d34a6b066ce8aa01798e160432918ffa34d82b64b53a"), looks := false }, kinds := [], alts := [], laidByText := true, laidKinds := [.data, .data], laidTests := true, laidLooks := .later }
def ChunkCodesCardSaid : Prop := Claim7.holds Tryd.pinned (.plain (OpenSpec.ofChange chunkCodesSpec)) chunkCodesCard

/-- THE TIED CARD OF 'abacuslaw19.ChunkBack'. -/
def chunkBackCard : Claim7 := { stood := { row := chunkBackRow, standIns := [], harness := (true, "88ef1f4bdc5c6c64b0d2d34a6b066ce8aa01798e160432918ffa34d82b64b53a"), looks := false }, kinds := [], alts := [], laidByText := true, laidKinds := [.data, .data], laidTests := true, laidLooks := .later }
def ChunkBackCardSaid : Prop := Claim7.holds Tryd.pinned (.plain (OpenSpec.ofChange chunkBackSpec)) chunkBackCard

/-- THE TIED CARD OF 'abacuslaw19.ChunkFew'. -/
def chunkFewCard : Claim7 := { stood := { row := chunkFewRow, standIns := [], harness := (true, "88ef1f4bdc5c6c64b0d2d34a6b066ce8aa01798e160432918ffa34d82b64b53a"), looks := false }, kinds := [], alts := [], laidByText := true, laidKinds := [.data, .data], laidTests := true, laidLooks := .later }
def ChunkFewCardSaid : Prop := Claim7.holds Tryd.pinned (.plain (OpenSpec.ofChange chunkFewSpec)) chunkFewCard

/-- THE TIED CARD OF 'abacuslaw19.ChunkGrows'. -/
def chunkGrowsCard : Claim7 := { stood := { row := chunkGrowsRow, standIns := [], harness := (true, "88ef1f4bdc5c6c64b0d2d34a6b066ce8aa01798e160432918ffa34d82b64b53a"), looks := false }, kinds := [], alts := [], laidByText := true, laidKinds := [.data, .data], laidTests := true, laidLooks := .later }
def ChunkGrowsCardSaid : Prop := Claim7.holds Tryd.pinned (.plain (OpenSpec.ofChange chunkGrowsSpec)) chunkGrowsCard

/-- THE TIED CARD OF 'abacuslaw19.ChunkOwn'. -/
def chunkOwnCard : Claim7 := { stood := { row := chunkOwnRow, standIns := [], harness := (true, "88ef1f4bdc5c6c64b0d2d34a6b066ce8aa01798e160432918ffa34d82b64b53a"), looks := false }, kinds := [], alts := [], laidByText := true, laidKinds := [.data, .data], laidTests := true, laidLooks := .later }
def ChunkOwnCardSaid : Prop := Claim7.holds Tryd.pinned (.plain (OpenSpec.ofChange chunkOwnSpec)) chunkOwnCard

/-- THE SECOND FORM's CARD OF 'abacuslaw19.ChunkCodes'. -/
def chunkCodesUptoCard : Claim7 := { stood := { row := chunkCodesUptoRow, standIns := [], harness := (true, "88ef1f4bdc5c6c64b0d2d34a6b066ce8aa01798e160432918ffa34d82b64b53a"), looks := false }, kinds := [], alts := [], laidByText := true, laidKinds := [.data, .data], laidTests := true, laidLooks := .later }
def ChunkCodesUptoCardSaid : Prop := Claim7.holds Tryd.pinned (.plain (OpenSpec.upto chunkCodesSpec)) chunkCodesUptoCard

/-- THE SECOND FORM's CARD OF 'abacuslaw19.ChunkBack'. -/
def chunkBackUptoCard : Claim7 := { stood := { row := chunkBackUptoRow, standIns := [], harness := (true, "88ef1f4bdc5c6c64b0d2d34a6b066ce8aa01798e160432918ffa34d82b64b53a"), looks := false }, kinds := [], alts := [], laidByText := true, laidKinds := [.data, .data], laidTests := true, laidLooks := .later }
def ChunkBackUptoCardSaid : Prop := Claim7.holds Tryd.pinned (.plain (OpenSpec.upto chunkBackSpec)) chunkBackUptoCard

/-- THE SECOND FORM's CARD OF 'abacuslaw19.ChunkFew'. -/
def chunkFewUptoCard : Claim7 := { stood := { row := chunkFewUptoRow, standIns := [], harness := (true, "88ef1f4bdc5c6c64b0d2d34a6b066ce8aa01798e160432918ffa34d82b64b53a"), looks := false }, kinds := [], alts := [], laidByText := true, laidKinds := [.data, .data], laidTests := true, laidLooks := .later }
def ChunkFewUptoCardSaid : Prop := Claim7.holds Tryd.pinned (.plain (OpenSpec.upto chunkFewSpec)) chunkFewUptoCard

/-- THE SECOND FORM's CARD OF 'abacuslaw19.ChunkGrows'. -/
def chunkGrowsUptoCard : Claim7 := { stood := { row := chunkGrowsUptoRow, standIns := [], harness := (true, "88ef1f4bdc5c6c64b0d2d34a6b066ce8aa01798e160432918ffa34d82b64b53a"), looks := false }, kinds := [], alts := [], laidByText := true, laidKinds := [.data, .data], laidTests := true, laidLooks := .later }
def ChunkGrowsUptoCardSaid : Prop := Claim7.holds Tryd.pinned (.plain (OpenSpec.upto chunkGrowsSpec)) chunkGrowsUptoCard

/-- THE SECOND FORM's CARD OF 'abacuslaw19.ChunkOwn'. -/
def chunkOwnUptoCard : Claim7 := { stood := { row := chunkOwnUptoRow, standIns := [], harness := (true, "88ef1f4bdc5c6c64b0d2d34a6b066ce8aa01798e160432918ffa34d82b64b53a"), looks := false }, kinds := [], alts := [], laidByText := true, laidKinds := [.data, .data], laidTests := true, laidLooks := .later }
def ChunkOwnUptoCardSaid : Prop := Claim7.holds Tryd.pinned (.plain (OpenSpec.upto chunkOwnSpec)) chunkOwnUptoCard
end Rows
end Go.Proofs.YtmjdcoacmmmhnaaDoor
