/-
  DERIVED. GIVEN WITH THE SEED: THE CARDS: each row of YtkhicfoikkllmaaGreatDoorRows.lean that lists a variable, with what it lists TIED to the program's text (the seventh form; the later family's looks); each row that meets fmt, with fmt's text TOLD by the authors' own Lean function (tested against real Go, not proved from fmt's source: count such statements apart). THE CARD IS WHAT COUNTS. Prove the row's statement (the work); the ties are given (YtkhicfoikkllmaaGreatDoorTie.lean); close each card by the builder's one call (the guide's Derived/Test/ToyasCard.lean, 'card_holds'). Laid BY PROGRAM, IN A SANDBOX (cutbox-door.mjs). By AI agents, Wed Nov 11 2026. No macro, syntax, notation, axiom, sorry.
-/
import Derived.Test.YtkhicfoikkllmaaGreatDoorRows
import GoSem.ClaimSeven
namespace Go.Proofs.YtkhicfoikkllmaaGreatDoor
namespace Rows

/-- THE TIED CARD OF 'copyholdlaw05.DiskNames'. -/
def diskNamesCard : Claim7 := { stood := { row := diskNamesRow, standIns := [], harness := (true, "305b180f9089a6b6317a9d4b29330f88597b2674966be47f30bb0ee9a77485dc"), looks := true }, kinds := [], alts := [], laidByText := true, laidKinds := [.data, .data, .data, .sentinel, .sentinel], laidTests := true, laidLooks := .later }
def DiskNamesCardSaid : Prop := Claim7.holds Tryz.pinned (.plain (OpenSpec.ofChange diskNamesSpec)) diskNamesCard

/-- THE TIED CARD OF 'copyholdlaw05.DiskKnown'. -/
def diskKnownCard : Claim7 := { stood := { row := diskKnownRow, standIns := [], harness := (true, "305b180f9089a6b6317a9d4b29330f88597b2674966be47f30bb0ee9a77485dc"), looks := true }, kinds := [], alts := [], laidByText := true, laidKinds := [.data, .data, .data, .sentinel, .sentinel], laidTests := true, laidLooks := .later }
def DiskKnownCardSaid : Prop := Claim7.holds Tryz.pinned (.plain (OpenSpec.ofChange diskKnownSpec)) diskKnownCard

/-- THE SECOND FORM's CARD OF 'copyholdlaw05.DiskNames'. -/
def diskNamesUptoCard : Claim7 := { stood := { row := diskNamesUptoRow, standIns := [], harness := (true, "305b180f9089a6b6317a9d4b29330f88597b2674966be47f30bb0ee9a77485dc"), looks := true }, kinds := [], alts := [], laidByText := true, laidKinds := [.data, .data, .data, .sentinel, .sentinel], laidTests := true, laidLooks := .later }
def DiskNamesUptoCardSaid : Prop := Claim7.holds Tryz.pinned (.plain (OpenSpec.upto diskNamesSpec)) diskNamesUptoCard

/-- THE SECOND FORM's CARD OF 'copyholdlaw05.DiskKnown'. -/
def diskKnownUptoCard : Claim7 := { stood := { row := diskKnownUptoRow, standIns := [], harness := (true, "305b180f9089a6b6317a9d4b29330f88597b2674966be47f30bb0ee9a77485dc"), looks := true }, kinds := [], alts := [], laidByText := true, laidKinds := [.data, .data, .data, .sentinel, .sentinel], laidTests := true, laidLooks := .later }
def DiskKnownUptoCardSaid : Prop := Claim7.holds Tryz.pinned (.plain (OpenSpec.upto diskKnownSpec)) diskKnownUptoCard
end Rows
end Go.Proofs.YtkhicfoikkllmaaGreatDoor
