/-
  DERIVED. GIVEN WITH THE SEED: THE CARDS: each row of YtfnlponoakhegaaDoorRows.lean that lists a variable, with what it lists TIED to the program's text (the seventh form; the later family's looks); each row that meets fmt, with fmt's text TOLD by the authors' own Lean function (tested against real Go, not proved from fmt's source: count such statements apart). THE CARD IS WHAT COUNTS. Prove the row's statement (the work); the ties are given (YtfnlponoakhegaaDoorTie.lean); close each card by the builder's one call (the guide's Derived/Test/ToyasCard.lean, 'card_holds'). Laid BY PROGRAM, IN A SANDBOX (cutbox-door.mjs). By AI agents, Wed Nov 11 2026. No macro, syntax, notation, axiom, sorry.
-/
import Derived.Test.YtfnlponoakhegaaDoorRows
import GoSem.ClaimSeven
namespace Go.Proofs.YtfnlponoakhegaaDoor
namespace Rows

/-- THE TIED CARD OF 'copyholdlaw12.TableKnown'. -/
def tableKnownCard : Claim7 := { stood := { row := tableKnownRow, standIns := [], harness := (true, "92c770be40fd7243d802fbd5ad1b233a1635fb18781c2a81977a138d2e110d24"), looks := false }, kinds := [], alts := [], laidByText := true, laidKinds := [.data, .data, .pinned], laidTests := true, laidLooks := .later }
def TableKnownCardSaid : Prop := Claim7.holds Tryd.pinned (.plain (OpenSpec.ofChange tableKnownSpec)) tableKnownCard

/-- THE TIED CARD OF 'copyholdlaw12.TableBuilds'. -/
def tableBuildsCard : Claim7 := { stood := { row := tableBuildsRow, standIns := [], harness := (true, "92c770be40fd7243d802fbd5ad1b233a1635fb18781c2a81977a138d2e110d24"), looks := false }, kinds := [], alts := [], laidByText := true, laidKinds := [.data, .data, .pinned], laidTests := true, laidLooks := .later }
def TableBuildsCardSaid : Prop := Claim7.holds Tryd.pinned (.plain (OpenSpec.ofChange tableBuildsSpec)) tableBuildsCard

/-- THE TIED CARD OF 'copyholdlaw12.TableBack'. -/
def tableBackCard : Claim7 := { stood := { row := tableBackRow, standIns := [], harness := (true, "92c770be40fd7243d802fbd5ad1b233a1635fb18781c2a81977a138d2e110d24"), looks := false }, kinds := [], alts := [], laidByText := true, laidKinds := [.data, .data, .pinned], laidTests := true, laidLooks := .later }
def TableBackCardSaid : Prop := Claim7.holds Tryd.pinned (.plain (OpenSpec.ofChange tableBackSpec)) tableBackCard

/-- THE TIED CARD OF 'copyholdlaw12.TableRange'. -/
def tableRangeCard : Claim7 := { stood := { row := tableRangeRow, standIns := [], harness := (true, "92c770be40fd7243d802fbd5ad1b233a1635fb18781c2a81977a138d2e110d24"), looks := false }, kinds := [], alts := [], laidByText := true, laidKinds := [.data, .data, .pinned], laidTests := true, laidLooks := .later }
def TableRangeCardSaid : Prop := Claim7.holds Tryd.pinned (.plain (OpenSpec.ofChange tableRangeSpec)) tableRangeCard

/-- THE TIED CARD OF 'copyholdlaw12.TableTurned'. -/
def tableTurnedCard : Claim7 := { stood := { row := tableTurnedRow, standIns := [], harness := (true, "92c770be40fd7243d802fbd5ad1b233a1635fb18781c2a81977a138d2e110d24"), looks := false }, kinds := [], alts := [], laidByText := true, laidKinds := [.data, .data, .pinned], laidTests := true, laidLooks := .later }
def TableTurnedCardSaid : Prop := Claim7.holds Tryd.pinned (.plain (OpenSpec.ofChange tableTurnedSpec)) tableTurnedCard

/-- THE SECOND FORM's CARD OF 'copyholdlaw12.TableKnown'. -/
def tableKnownUptoCard : Claim7 := { stood := { row := tableKnownUptoRow, standIns := [], harness := (true, "92c770be40fd7243d802fbd5ad1b233a1635fb18781c2a81977a138d2e110d24"), looks := false }, kinds := [], alts := [], laidByText := true, laidKinds := [.data, .data, .pinned], laidTests := true, laidLooks := .later }
def TableKnownUptoCardSaid : Prop := Claim7.holds Tryd.pinned (.plain (OpenSpec.upto tableKnownSpec)) tableKnownUptoCard

/-- THE SECOND FORM's CARD OF 'copyholdlaw12.TableBuilds'. -/
def tableBuildsUptoCard : Claim7 := { stood := { row := tableBuildsUptoRow, standIns := [], harness := (true, "92c770be40fd7243d802fbd5ad1b233a1635fb18781c2a81977a138d2e110d24"), looks := false }, kinds := [], alts := [], laidByText := true, laidKinds := [.data, .data, .pinned], laidTests := true, laidLooks := .later }
def TableBuildsUptoCardSaid : Prop := Claim7.holds Tryd.pinned (.plain (OpenSpec.upto tableBuildsSpec)) tableBuildsUptoCard

/-- THE SECOND FORM's CARD OF 'copyholdlaw12.TableBack'. -/
def tableBackUptoCard : Claim7 := { stood := { row := tableBackUptoRow, standIns := [], harness := (true, "92c770be40fd7243d802fbd5ad1b233a1635fb18781c2a81977a138d2e110d24"), looks := false }, kinds := [], alts := [], laidByText := true, laidKinds := [.data, .data, .pinned], laidTests := true, laidLooks := .later }
def TableBackUptoCardSaid : Prop := Claim7.holds Tryd.pinned (.plain (OpenSpec.upto tableBackSpec)) tableBackUptoCard

/-- THE SECOND FORM's CARD OF 'copyholdlaw12.TableRange'. -/
def tableRangeUptoCard : Claim7 := { stood := { row := tableRangeUptoRow, standIns := [], harness := (true, "92c770be40fd7243d802fbd5ad1b233a1635fb18781c2a81977a138d2e110d24"), looks := false }, kinds := [], alts := [], laidByText := true, laidKinds := [.data, .data, .pinned], laidTests := true, laidLooks := .later }
def TableRangeUptoCardSaid : Prop := Claim7.holds Tryd.pinned (.plain (OpenSpec.upto tableRangeSpec)) tableRangeUptoCard

/-- THE SECOND FORM's CARD OF 'copyholdlaw12.TableTurned'. -/
def tableTurnedUptoCard : Claim7 := { stood := { row := tableTurnedUptoRow, standIns := [], harness := (true, "92c770be40fd7243d802fbd5ad1b233a1635fb18781c2a81977a138d2e110d24"), looks := false }, kinds := [], alts := [], laidByText := true, laidKinds := [.data, .data, .pinned], laidTests := true, laidLooks := .later }
def TableTurnedUptoCardSaid : Prop := Claim7.holds Tryd.pinned (.plain (OpenSpec.upto tableTurnedSpec)) tableTurnedUptoCard
end Rows
end Go.Proofs.YtfnlponoakhegaaDoor
