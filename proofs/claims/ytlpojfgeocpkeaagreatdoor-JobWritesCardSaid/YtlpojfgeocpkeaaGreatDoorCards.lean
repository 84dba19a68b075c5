/-
  DERIVED. GIVEN WITH THE SEED: THE CARDS: each row of YtlpojfgeocpkeaaGreatDoorRows.lean that lists a variable, with what it lists TIED to the program's text (the seventh form; the later family's looks); each row that meets fmt, with fmt's text TOLD by the authors' own Lean function (tested against real Go, not proved from fmt's source: count such statements apart). THE CARD IS WHAT COUNTS. Prove the row's statement (the work); the ties are given (YtlpojfgeocpkeaaGreatDoorTie.lean); close each card by the builder's one call (the guide's Derived/Test/ToyasCard.lean, 'card_holds'). Laid BY PROGRAM, IN A SANDBOX (cutbox-door.mjs). By AI agents, Wed Nov 11 2026. No macro, syntax, notation, axiom, sorry.
-/
import Derived.Test.YtlpojfgeocpkeaaGreatDoorRows
import GoSem.ClaimSeven
namespace Go.Proofs.YtlpojfgeocpkeaaGreatDoor
namespace Rows

/-- THE TIED CARD OF 'copyholdlaw17.JobRoom'. -/
def jobRoomCard : Claim7 := { stood := { row := jobRoomRow, standIns := [], harness := (true, "7953f69e419e94076114c7bddea8c5592a0ee2430e06e8dc22334bc2234cf3ba"), looks := true }, kinds := [], alts := [], laidByText := true, laidKinds := [.data, .data, .data, .data, .data, .pinned], laidTests := true, laidLooks := .later }
def JobRoomCardSaid : Prop := Claim7.holds Tryz.pinned (.plain (OpenSpec.ofChange jobRoomSpec)) jobRoomCard

/-- THE TIED CARD OF 'copyholdlaw17.JobWrites'. -/
def jobWritesCard : Claim7 := { stood := { row := jobWritesRow, standIns := [], harness := (true, "7953f69e419e94076114c7bddea8c5592a0ee2430e06e8dc22334bc2234cf3ba"), looks := true }, kinds := [], alts := [], laidByText := true, laidKinds := [.data, .data, .data, .data, .data, .pinned], laidTests := true, laidLooks := .later }
def JobWritesCardSaid : Prop := Claim7.holds Tryz.pinned (.plain (OpenSpec.ofChange jobWritesSpec)) jobWritesCard

/-- THE TIED CARD OF 'copyholdlaw17.JobFuse'. -/
def jobFuseCard : Claim7 := { stood := { row := jobFuseRow, standIns := [], harness := (true, "7953f69e419e94076114c7bddea8c5592a0ee2430e06e8dc22334bc2234cf3ba"), looks := true }, kinds := [], alts := [], laidByText := true, laidKinds := [.data, .data, .data, .data, .data, .sentinel, .sentinel, .pinned], laidTests := true, laidLooks := .later }
def JobFuseCardSaid : Prop := Claim7.holds Tryz.pinned (.plain (OpenSpec.ofChange jobFuseSpec)) jobFuseCard

/-- THE TIED CARD OF 'copyholdlaw17.JobLasts'. -/
def jobLastsCard : Claim7 := { stood := { row := jobLastsRow, standIns := [], harness := (true, "7953f69e419e94076114c7bddea8c5592a0ee2430e06e8dc22334bc2234cf3ba"), looks := true }, kinds := [], alts := [], laidByText := true, laidKinds := [.data, .data, .data, .data, .data, .pinned], laidTests := true, laidLooks := .later }
def JobLastsCardSaid : Prop := Claim7.holds Tryz.pinned (.plain (OpenSpec.ofChange jobLastsSpec)) jobLastsCard

/-- THE SECOND FORM's CARD OF 'copyholdlaw17.JobRoom'. -/
def jobRoomUptoCard : Claim7 := { stood := { row := jobRoomUptoRow, standIns := [], harness := (true, "7953f69e419e94076114c7bddea8c5592a0ee2430e06e8dc22334bc2234cf3ba"), looks := true }, kinds := [], alts := [], laidByText := true, laidKinds := [.data, .data, .data, .data, .data, .pinned], laidTests := true, laidLooks := .later }
def JobRoomUptoCardSaid : Prop := Claim7.holds Tryz.pinned (.plain (OpenSpec.upto jobRoomSpec)) jobRoomUptoCard

/-- THE SECOND FORM's CARD OF 'copyholdlaw17.JobWrites'. -/
def jobWritesUptoCard : Claim7 := { stood := { row := jobWritesUptoRow, standIns := [], harness := (true, "7953f69e419e94076114c7bddea8c5592a0ee2430e06e8dc22334bc2234cf3ba"), looks := true }, kinds := [], alts := [], laidByText := true, laidKinds := [.data, .data, .data, .data, .data, .pinned], laidTests := true, laidLooks := .later }
def JobWritesUptoCardSaid : Prop := Claim7.holds Tryz.pinned (.plain (OpenSpec.upto jobWritesSpec)) jobWritesUptoCard

/-- THE SECOND FORM's CARD OF 'copyholdlaw17.JobFuse'. -/
def jobFuseUptoCard : Claim7 := { stood := { row := jobFuseUptoRow, standIns := [], harness := (true, "7953f69e419e94076114c7bddea8c5592a0ee2430e06e8dc22334bc2234cf3ba"), looks := true }, kinds := [], alts := [], laidByText := true, laidKinds := [.data, .data, .data, .data, .data, .sentinel, .sentinel, .pinned], laidTests := true, laidLooks := .later }
def JobFuseUptoCardSaid : Prop := Claim7.holds Tryz.pinned (.plain (OpenSpec.upto jobFuseSpec)) jobFuseUptoCard

/-- THE SECOND FORM's CARD OF 'copyholdlaw17.JobLasts'. -/
def jobLastsUptoCard : Claim7 := { stood := { row := jobLastsUptoRow, standIns := [], harness := (true, "7953f69e419e94076114c7bddea8c5592a0ee2430e06e8dc22334bc2234cf3ba"), looks := true }, kinds := [], alts := [], laidByText := true, laidKinds := [.data, .data, .data, .data, .data, .pinned], laidTests := true, laidLooks := .later }
def JobLastsUptoCardSaid : Prop := Claim7.holds Tryz.pinned (.plain (OpenSpec.upto jobLastsSpec)) jobLastsUptoCard
end Rows
end Go.Proofs.YtlpojfgeocpkeaaGreatDoor
