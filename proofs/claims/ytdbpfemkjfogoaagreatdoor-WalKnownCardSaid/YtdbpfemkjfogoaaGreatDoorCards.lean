/-
  DERIVED. GIVEN WITH THE SEED: THE CARDS: each row of YtdbpfemkjfogoaaGreatDoorRows.lean that lists a variable, with what it lists TIED to the program's text (the seventh form; the later family's looks); each row that meets fmt, with fmt's text TOLD by the authors' own Lean function (tested against real Go, not proved from fmt's source: count such statements apart). THE CARD IS WHAT COUNTS. Prove the row's statement (the work); the ties are given (YtdbpfemkjfogoaaGreatDoorTie.lean); close each card by the builder's one call (the guide's Derived/Test/ToyasCard.lean, 'card_holds'). Laid BY PROGRAM, IN A SANDBOX (cutbox-door.mjs). By AI agents, Wed Nov 11 2026. No macro, syntax, notation, axiom, sorry.
-/
import Derived.Test.YtdbpfemkjfogoaaGreatDoorRows
import GoSem.ClaimSeven
namespace Go.Proofs.YtdbpfemkjfogoaaGreatDoor
namespace Rows

/-- THE TIED CARD OF 'copyholdlaw07.WalLasts'. -/
def walLastsCard : Claim7 := { stood := { row := walLastsRow, standIns := [], harness := (true, "d37c11c23ba1b962f89c4a5374b9c2ac10c1a613b1a93f005c022b41c518c1c0"), looks := true }, kinds := [], alts := [], laidByText := true, laidKinds := [.data, .data, .data, .data, .sentinel, .sentinel], laidTests := true, laidLooks := .later }
def WalLastsCardSaid : Prop := Claim7.holds Tryz.pinned (.plain (OpenSpec.ofChange walLastsSpec)) walLastsCard

/-- THE TIED CARD OF 'copyholdlaw07.WalKnown'. -/
def walKnownCard : Claim7 := { stood := { row := walKnownRow, standIns := [], harness := (true, "d37c11c23ba1b962f89c4a5374b9c2ac10c1a613b1a93f005c022b41c518c1c0"), looks := true }, kinds := [], alts := [], laidByText := true, laidKinds := [.data, .data, .data, .data, .sentinel, .sentinel], laidTests := true, laidLooks := .later }
def WalKnownCardSaid : Prop := Claim7.holds Tryz.pinned (.plain (OpenSpec.ofChange walKnownSpec)) walKnownCard

/-- THE TIED CARD OF 'copyholdlaw07.WalPlays'. -/
def walPlaysCard : Claim7 := { stood := { row := walPlaysRow, standIns := [], harness := (true, "d37c11c23ba1b962f89c4a5374b9c2ac10c1a613b1a93f005c022b41c518c1c0"), looks := true }, kinds := [], alts := [], laidByText := true, laidKinds := [.data, .data, .data, .data, .sentinel, .sentinel], laidTests := true, laidLooks := .later }
def WalPlaysCardSaid : Prop := Claim7.holds Tryz.pinned (.plain (OpenSpec.ofChange walPlaysSpec)) walPlaysCard

/-- THE TIED CARD OF 'copyholdlaw07.WalFull'. -/
def walFullCard : Claim7 := { stood := { row := walFullRow, standIns := [], harness := (true, "d37c11c23ba1b962f89c4a5374b9c2ac10c1a613b1a93f005c022b41c518c1c0"), looks := true }, kinds := [], alts := [], laidByText := true, laidKinds := [.data, .data, .data, .data, .sentinel, .sentinel], laidTests := true, laidLooks := .later }
def WalFullCardSaid : Prop := Claim7.holds Tryz.pinned (.plain (OpenSpec.ofChange walFullSpec)) walFullCard

/-- THE TIED CARD OF 'copyholdlaw07.WalParts'. -/
def walPartsCard : Claim7 := { stood := { row := walPartsRow, standIns := [], harness := (true, "d37c11c23ba1b962f89c4a5374b9c2ac10c1a613b1a93f005c022b41c518c1c0"), looks := true }, kinds := [], alts := [], laidByText := true, laidKinds := [.data, .data, .data, .data, .sentinel, .sentinel], laidTests := true, laidLooks := .later }
def WalPartsCardSaid : Prop := Claim7.holds Tryz.pinned (.plain (OpenSpec.ofChange walPartsSpec)) walPartsCard

/-- THE SECOND FORM's CARD OF 'copyholdlaw07.WalLasts'. -/
def walLastsUptoCard : Claim7 := { stood := { row := walLastsUptoRow, standIns := [], harness := (true, "d37c11c23ba1b962f89c4a5374b9c2ac10c1a613b1a93f005c022b41c518c1c0"), looks := true }, kinds := [], alts := [], laidByText := true, laidKinds := [.data, .data, .data, .data, .sentinel, .sentinel], laidTests := true, laidLooks := .later }
def WalLastsUptoCardSaid : Prop := Claim7.holds Tryz.pinned (.plain (OpenSpec.upto walLastsSpec)) walLastsUptoCard

/-- THE SECOND FORM's CARD OF 'copyholdlaw07.WalKnown'. -/
def walKnownUptoCard : Claim7 := { stood := { row := walKnownUptoRow, standIns := [], harness := (true, "d37c11c23ba1b962f89c4a5374b9c2ac10c1a613b1a93f005c022b41c518c1c0"), looks := true }, kinds := [], alts := [], laidByText := true, laidKinds := [.data, .data, .data, .data, .sentinel, .sentinel], laidTests := true, laidLooks := .later }
def WalKnownUptoCardSaid : Prop := Claim7.holds Tryz.pinned (.plain (OpenSpec.upto walKnownSpec)) walKnownUptoCard

/-- THE SECOND FORM's CARD OF 'copyholdlaw07.WalPlays'. -/
def walPlaysUptoCard : Claim7 := { stood := { row := walPlaysUptoRow, standIns := [], harness := (true, "d37c11c23ba1b962f89c4a5374b9c2ac10c1a613b1a93f005c022b41c518c1c0"), looks := true }, kinds := [], alts := [], laidByText := true, laidKinds := [.data, .data, .data, .data, .sentinel, .sentinel], laidTests := true, laidLooks := .later }
def WalPlaysUptoCardSaid : Prop := Claim7.holds Tryz.pinned (.plain (OpenSpec.upto walPlaysSpec)) walPlaysUptoCard

/-- THE SECOND FORM's CARD OF 'copyholdlaw07.WalFull'. -/
def walFullUptoCard : Claim7 := { stood := { row := walFullUptoRow, standIns := [], harness := (true, "d37c11c23ba1b962f89c4a5374b9c2ac10c1a613b1a93f005c022b41c518c1c0"), looks := true }, kinds := [], alts := [], laidByText := true, laidKinds := [.data, .data, .data, .data, .sentinel, .sentinel], laidTests := true, laidLooks := .later }
def WalFullUptoCardSaid : Prop := Claim7.holds Tryz.pinned (.plain (OpenSpec.upto walFullSpec)) walFullUptoCard

/-- THE SECOND FORM's CARD OF 'copyholdlaw07.WalParts'. -/
def walPartsUptoCard : Claim7 := { stood := { row := walPartsUptoRow, standIns := [], harness := (true, "d37c11c23ba1b962f89c4a5374b9c2ac10c1a613b1a93f005c022b41c518c1c0"), looks := true }, kinds := [], alts := [], laidByText := true, laidKinds := [.data, .data, .data, .data, .sentinel, .sentinel], laidTests := true, laidLooks := .later }
def WalPartsUptoCardSaid : Prop := Claim7.holds Tryz.pinned (.plain (OpenSpec.upto walPartsSpec)) walPartsUptoCard
end Rows
end Go.Proofs.YtdbpfemkjfogoaaGreatDoor
