/-
  DERIVED. GIVEN WITH THE SEED: THE CARDS: each row of YtbaobjkhdieapaaDoorRows.lean that lists a variable, with what it lists TIED to the program's text (the seventh form; the later family's looks); each row that meets fmt, with fmt's text TOLD by the authors' own Lean function (tested against real Go, not proved from fmt's source: count such statements apart). THE CARD IS WHAT COUNTS. Prove the row's statement (the work); the ties are given (YtbaobjkhdieapaaDoorTie.lean); close each card by the builder's one call (the guide's Derived/Test/ToyasCard.lean, 'card_holds'). Laid BY PROGRAM, IN A SANDBOX (cutbox-door.mjs). By AI agents, Wed Nov 11 2026. No macro, syntax, notation, axiom, sorry.
-/
import Derived.Test.YtbaobjkhdieapaaDoorRows
import GoSem.ClaimSeven
namespace Go.Proofs.YtbaobjkhdieapaaDoor
namespace Rows

/-- THE TIED CARD OF 'copyholdlaw27.OnceKnown'. -/
def onceKnownCard : Claim7 := { stood := { row := onceKnownRow, standIns := [], harness := (true, "c1e42f98b382903cb7550ba9a11eab776d85ece0ae01f41a0c20cc3a6276d02a"), looks := false }, kinds := [], alts := [], laidByText := true, laidKinds := [.data, .pinned], laidTests := true, laidLooks := .later }
def OnceKnownCardSaid : Prop := Claim7.holds Tryd.pinned (.plain (OpenSpec.ofChange onceKnownSpec)) onceKnownCard

/-- THE TIED CARD OF 'copyholdlaw27.OncePlays'. -/
def oncePlaysCard : Claim7 := { stood := { row := oncePlaysRow, standIns := [], harness := (true, "c1e42f98b382903cb7550ba9a11eab776d85ece0ae01f41a0c20cc3a6276d02a"), looks := false }, kinds := [], alts := [], laidByText := true, laidKinds := [.data, .pinned], laidTests := true, laidLooks := .later }
def OncePlaysCardSaid : Prop := Claim7.holds Tryd.pinned (.plain (OpenSpec.ofChange oncePlaysSpec)) oncePlaysCard

/-- THE TIED CARD OF 'copyholdlaw27.OnceEach'. -/
def onceEachCard : Claim7 := { stood := { row := onceEachRow, standIns := [], harness := (true, "c1e42f98b382903cb7550ba9a11eab776d85ece0ae01f41a0c20cc3a6276d02a"), looks := false }, kinds := [], alts := [], laidByText := true, laidKinds := [.data, .pinned], laidTests := true, laidLooks := .later }
def OnceEachCardSaid : Prop := Claim7.holds Tryd.pinned (.plain (OpenSpec.ofChange onceEachSpec)) onceEachCard

/-- THE TIED CARD OF 'copyholdlaw27.OnceOther'. -/
def onceOtherCard : Claim7 := { stood := { row := onceOtherRow, standIns := [], harness := (true, "c1e42f98b382903cb7550ba9a11eab776d85ece0ae01f41a0c20cc3a6276d02a"), looks := false }, kinds := [], alts := [], laidByText := true, laidKinds := [.data, .pinned], laidTests := true, laidLooks := .later }
def OnceOtherCardSaid : Prop := Claim7.holds Tryd.pinned (.plain (OpenSpec.ofChange onceOtherSpec)) onceOtherCard

/-- THE SECOND FORM's CARD OF 'copyholdlaw27.OnceKnown'. -/
def onceKnownUptoCard : Claim7 := { stood := { row := onceKnownUptoRow, standIns := [], harness := (true, "c1e42f98b382903cb7550ba9a11eab776d85ece0ae01f41a0c20cc3a6276d02a"), looks := false }, kinds := [], alts := [], laidByText := true, laidKinds := [.data, .pinned], laidTests := true, laidLooks := .later }
def OnceKnownUptoCardSaid : Prop := Claim7.holds Tryd.pinned (.plain (OpenSpec.upto onceKnownSpec)) onceKnownUptoCard

/-- THE SECOND FORM's CARD OF 'copyholdlaw27.OncePlays'. -/
def oncePlaysUptoCard : Claim7 := { stood := { row := oncePlaysUptoRow, standIns := [], harness := (true, "c1e42f98b382903cb7550ba9a11eab776d85ece0ae01f41a0c20cc3a6276d02a"), looks := false }, kinds := [], alts := [], laidByText := true, laidKinds := [.data, .pinned], laidTests := true, laidLooks := .later }
def OncePlaysUptoCardSaid : Prop := Claim7.holds Tryd.pinned (.plain (OpenSpec.upto oncePlaysSpec)) oncePlaysUptoCard

/-- THE SECOND FORM's CARD OF 'copyholdlaw27.OnceEach'. -/
def onceEachUptoCard : Claim7 := { stood := { row := onceEachUptoRow, standIns := [], harness := (true, "c1e42f98b382903cb7550ba9a11eab776d85ece0ae01f41a0c20cc3a6276d02a"), looks := false }, kinds := [], alts := [], laidByText := true, laidKinds := [.data, .pinned], laidTests := true, laidLooks := .later }
def OnceEachUptoCardSaid : Prop := Claim7.holds Tryd.pinned (.plain (OpenSpec.upto onceEachSpec)) onceEachUptoCard

/-- THE SECOND FORM's CARD OF 'copyholdlaw27.OnceOther'. -/
def onceOtherUptoCard : Claim7 := { stood := { row := onceOtherUptoRow, standIns := [], harness := (true, "c1e42f98b382903cb7550ba9a11eab776d85ece0ae01f41a0c20cc3a6276d02a"), looks := false }, kinds := [], alts := [], laidByText := true, laidKinds := [.data, .pinned], laidTests := true, laidLooks := .later }
def OnceOtherUptoCardSaid : Prop := Claim7.holds Tryd.pinned (.plain (OpenSpec.upto onceOtherSpec)) onceOtherUptoCard
end Rows
end Go.Proofs.YtbaobjkhdieapaaDoor
