/-
  DERIVED. GIVEN WITH THE SEED: THE CARDS: each row of YtpjhjefjbkjhkaaGreatDoorRows.lean that lists a variable, with what it lists TIED to the program's text (the seventh form; the later family's looks); each row that meets fmt, with fmt's text TOLD by the authors' own Lean function (tested against real Go, not proved from fmt's source: count such statements apart). THE CARD IS WHAT COUNTS. Prove the row's statement (the work); the ties are given (YtpjhjefjbkjhkaaGreatDoorTie.lean); close each card by the builder's one call (the guide's Derived/Test/ToyasCard.lean, 'card_holds'). Laid BY PROGRAM, IN A SANDBOX (cutbox-door.mjs). By AI agents, Wed Nov 11 2026. No macro, syntax, notation, axiom, sorry.
-/
import Derived.Test.YtpjhjefjbkjhkaaGreatDoorRows
import GoSem.ClaimSeven
namespace Go.Proofs.YtpjhjefjbkjhkaaGreatDoor
namespace Rows

/-- THE TIED CARD OF 'custodiantop.TopSum'. -/
def topSumCard : Claim7 := { stood := { row := topSumRow, standIns := [], harness := (true, "4df7fdf3d99faa3e3421a9d1771e44c410df28501416725ba504fd75262942d6"), looks := true }, kinds := [], alts := [], laidByText := true, laidKinds := [.data, .data, .data, .data, .sentinel, .sentinel, .listed, .data, .pinned], laidTests := true, laidLooks := .later }
def TopSumCardSaid : Prop := Claim7.holds Tryz.pinned (.plain (OpenSpec.ofChange topSumSpec)) topSumCard

/-- THE TIED CARD OF 'custodiantop.TopAlone'. -/
def topAloneCard : Claim7 := { stood := { row := topAloneRow, standIns := [], harness := (true, "4df7fdf3d99faa3e3421a9d1771e44c410df28501416725ba504fd75262942d6"), looks := true }, kinds := [], alts := [], laidByText := true, laidKinds := [.data, .data, .data, .data, .sentinel, .sentinel, .listed, .data, .pinned], laidTests := true, laidLooks := .later }
def TopAloneCardSaid : Prop := Claim7.holds Tryz.pinned (.plain (OpenSpec.ofChange topAloneSpec)) topAloneCard

/-- THE TIED CARD OF 'custodiantop.TopCounter'. -/
def topCounterCard : Claim7 := { stood := { row := topCounterRow, standIns := [], harness := (true, "4df7fdf3d99faa3e3421a9d1771e44c410df28501416725ba504fd75262942d6"), looks := true }, kinds := [], alts := [], laidByText := true, laidKinds := [.data, .data, .data, .data, .sentinel, .sentinel, .listed, .data, .pinned], laidTests := true, laidLooks := .later }
def TopCounterCardSaid : Prop := Claim7.holds Tryz.pinned (.plain (OpenSpec.ofChange topCounterSpec)) topCounterCard

/-- THE TIED CARD OF 'custodiankeep.ModuleLabels'. -/
def moduleLabelsCard : Claim7 := { stood := { row := moduleLabelsRow, standIns := [], harness := (true, "4df7fdf3d99faa3e3421a9d1771e44c410df28501416725ba504fd75262942d6"), looks := true }, kinds := [], alts := [], laidByText := true, laidKinds := [.data, .data, .data, .data, .sentinel, .sentinel, .listed, .data, .pinned], laidTests := true, laidLooks := .later }
def ModuleLabelsCardSaid : Prop := Claim7.holds Tryz.pinned (.plain (OpenSpec.ofChange moduleLabelsSpec)) moduleLabelsCard

/-- THE TIED CARD OF 'custodiankeep.FileTurned'. -/
def fileTurnedCard : Claim7 := { stood := { row := fileTurnedRow, standIns := [], harness := (true, "4df7fdf3d99faa3e3421a9d1771e44c410df28501416725ba504fd75262942d6"), looks := true }, kinds := [], alts := [], laidByText := true, laidKinds := [.data, .data, .data, .data, .sentinel, .sentinel, .listed, .data, .pinned], laidTests := true, laidLooks := .later }
def FileTurnedCardSaid : Prop := Claim7.holds Tryz.pinned (.plain (OpenSpec.ofChange fileTurnedSpec)) fileTurnedCard

/-- THE TIED CARD OF 'custodiankeep.DeskFront'. -/
def deskFrontCard : Claim7 := { stood := { row := deskFrontRow, standIns := [], harness := (true, "4df7fdf3d99faa3e3421a9d1771e44c410df28501416725ba504fd75262942d6"), looks := true }, kinds := [], alts := [], laidByText := true, laidKinds := [.data, .data, .data, .data, .sentinel, .sentinel, .listed, .data, .pinned], laidTests := true, laidLooks := .later }
def DeskFrontCardSaid : Prop := Claim7.holds Tryz.pinned (.plain (OpenSpec.ofChange deskFrontSpec)) deskFrontCard

/-- THE TIED CARD OF 'custodiankeep.DeskErrors'. -/
def deskErrorsCard : Claim7 := { stood := { row := deskErrorsRow, standIns := [], harness := (true, "4df7fdf3d99faa3e3421a9d1771e44c410df28501416725ba504fd75262942d6"), looks := true }, kinds := [], alts := [], laidByText := true, laidKinds := [.data, .data, .data, .data, .sentinel, .sentinel, .listed, .data, .pinned], laidTests := true, laidLooks := .later }
def DeskErrorsCardSaid : Prop := Claim7.holds Tryz.pinned (.plain (OpenSpec.ofChange deskErrorsSpec)) deskErrorsCard

/-- THE TIED CARD OF 'custodiankeep.DeskNew'. -/
def deskNewCard : Claim7 := { stood := { row := deskNewRow, standIns := [], harness := (true, "4df7fdf3d99faa3e3421a9d1771e44c410df28501416725ba504fd75262942d6"), looks := true }, kinds := [], alts := [], laidByText := true, laidKinds := [.data, .data, .data, .data, .sentinel, .sentinel, .listed, .data, .pinned], laidTests := true, laidLooks := .later }
def DeskNewCardSaid : Prop := Claim7.holds Tryz.pinned (.plain (OpenSpec.ofChange deskNewSpec)) deskNewCard

/-- THE TIED CARD OF 'custodiantop.TopFiles'. -/
def topFilesCard : Claim7 := { stood := { row := topFilesRow, standIns := [], harness := (true, "4df7fdf3d99faa3e3421a9d1771e44c410df28501416725ba504fd75262942d6"), looks := true }, kinds := [], alts := [], laidByText := true, laidKinds := [.data, .data, .data, .data, .sentinel, .sentinel, .listed, .data, .pinned], laidTests := true, laidLooks := .later }
def TopFilesCardSaid : Prop := Claim7.holds Tryz.pinned (.plain (OpenSpec.ofChange topFilesSpec)) topFilesCard

/-- THE TIED CARD OF 'custodiantop.TopSeals'. -/
def topSealsCard : Claim7 := { stood := { row := topSealsRow, standIns := [], harness := (true, "4df7fdf3d99faa3e3421a9d1771e44c410df28501416725ba504fd75262942d6"), looks := true }, kinds := [], alts := [], laidByText := true, laidKinds := [.data, .data, .data, .data, .sentinel, .sentinel, .listed, .data, .pinned], laidTests := true, laidLooks := .later }
def TopSealsCardSaid : Prop := Claim7.holds Tryz.pinned (.plain (OpenSpec.ofChange topSealsSpec)) topSealsCard

/-- THE SECOND FORM's CARD OF 'custodiantop.TopSum'. -/
def topSumUptoCard : Claim7 := { stood := { row := topSumUptoRow, standIns := [], harness := (true, "4df7fdf3d99faa3e3421a9d1771e44c410df28501416725ba504fd75262942d6"), looks := true }, kinds := [], alts := [], laidByText := true, laidKinds := [.data, .data, .data, .data, .sentinel, .sentinel, .listed, .data, .pinned], laidTests := true, laidLooks := .later }
def TopSumUptoCardSaid : Prop := Claim7.holds Tryz.pinned (.plain (OpenSpec.upto topSumSpec)) topSumUptoCard

/-- THE SECOND FORM's CARD OF 'custodiantop.TopAlone'. -/
def topAloneUptoCard : Claim7 := { stood := { row := topAloneUptoRow, standIns := [], harness := (true, "4df7fdf3d99faa3e3421a9d1771e44c410df28501416725ba504fd75262942d6"), looks := true }, kinds := [], alts := [], laidByText := true, laidKinds := [.data, .data, .data, .data, .sentinel, .sentinel, .listed, .data, .pinned], laidTests := true, laidLooks := .later }
def TopAloneUptoCardSaid : Prop := Claim7.holds Tryz.pinned (.plain (OpenSpec.upto topAloneSpec)) topAloneUptoCard

/-- THE SECOND FORM's CARD OF 'custodiantop.TopCounter'. -/
def topCounterUptoCard : Claim7 := { stood := { row := topCounterUptoRow, standIns := [], harness := (true, "4df7fdf3d99faa3e3421a9d1771e44c410df28501416725ba504fd75262942d6"), looks := true }, kinds := [], alts := [], laidByText := true, laidKinds := [.data, .data, .data, .data, .sentinel, .sentinel, .listed, .data, .pinned], laidTests := true, laidLooks := .later }
def TopCounterUptoCardSaid : Prop := Claim7.holds Tryz.pinned (.plain (OpenSpec.upto topCounterSpec)) topCounterUptoCard

/-- THE SECOND FORM's CARD OF 'custodiankeep.ModuleLabels'. -/
def moduleLabelsUptoCard : Claim7 := { stood := { row := moduleLabelsUptoRow, standIns := [], harness := (true, "4df7fdf3d99faa3e3421a9d1771e44c410df28501416725ba504fd75262942d6"), looks := true }, kinds := [], alts := [], laidByText := true, laidKinds := [.data, .data, .data, .data, .sentinel, .sentinel, .listed, .data, .pinned], laidTests := true, laidLooks := .later }
def ModuleLabelsUptoCardSaid : Prop := Claim7.holds Tryz.pinned (.plain (OpenSpec.upto moduleLabelsSpec)) moduleLabelsUptoCard

/-- THE SECOND FORM's CARD OF 'custodiankeep.FileTurned'. -/
def fileTurnedUptoCard : Claim7 := { stood := { row := fileTurnedUptoRow, standIns := [], harness := (true, "4df7fdf3d99faa3e3421a9d1771e44c410df28501416725ba504fd75262942d6"), looks := true }, kinds := [], alts := [], laidByText := true, laidKinds := [.data, .data, .data, .data, .sentinel, .sentinel, .listed, .data, .pinned], laidTests := true, laidLooks := .later }
def FileTurnedUptoCardSaid : Prop := Claim7.holds Tryz.pinned (.plain (OpenSpec.upto fileTurnedSpec)) fileTurnedUptoCard

/-- THE SECOND FORM's CARD OF 'custodiankeep.DeskFront'. -/
def deskFrontUptoCard : Claim7 := { stood := { row := deskFrontUptoRow, standIns := [], harness := (true, "4df7fdf3d99faa3e3421a9d1771e44c410df28501416725ba504fd75262942d6"), looks := true }, kinds := [], alts := [], laidByText := true, laidKinds := [.data, .data, .data, .data, .sentinel, .sentinel, .listed, .data, .pinned], laidTests := true, laidLooks := .later }
def DeskFrontUptoCardSaid : Prop := Claim7.holds Tryz.pinned (.plain (OpenSpec.upto deskFrontSpec)) deskFrontUptoCard

/-- THE SECOND FORM's CARD OF 'custodiankeep.DeskErrors'. -/
def deskErrorsUptoCard : Claim7 := { stood := { row := deskErrorsUptoRow, standIns := [], harness := (true, "4df7fdf3d99faa3e3421a9d1771e44c410df28501416725ba504fd75262942d6"), looks := true }, kinds := [], alts := [], laidByText := true, laidKinds := [.data, .data, .data, .data, .sentinel, .sentinel, .listed, .data, .pinned], laidTests := true, laidLooks := .later }
def DeskErrorsUptoCardSaid : Prop := Claim7.holds Tryz.pinned (.plain (OpenSpec.upto deskErrorsSpec)) deskErrorsUptoCard

/-- THE SECOND FORM's CARD OF 'custodiankeep.DeskNew'. -/
def deskNewUptoCard : Claim7 := { stood := { row := deskNewUptoRow, standIns := [], harness := (true, "4df7fdf3d99faa3e3421a9d1771e44c410df28501416725ba504fd75262942d6"), looks := true }, kinds := [], alts := [], laidByText := true, laidKinds := [.data, .data, .data, .data, .sentinel, .sentinel, .listed, .data, .pinned], laidTests := true, laidLooks := .later }
def DeskNewUptoCardSaid : Prop := Claim7.holds Tryz.pinned (.plain (OpenSpec.upto deskNewSpec)) deskNewUptoCard

/-- THE SECOND FORM's CARD OF 'custodiantop.TopFiles'. -/
def topFilesUptoCard : Claim7 := { stood := { row := topFilesUptoRow, standIns := [], harness := (true, "4df7fdf3d99faa3e3421a9d1771e44c410df28501416725ba504fd75262942d6"), looks := true }, kinds := [], alts := [], laidByText := true, laidKinds := [.data, .data, .data, .data, .sentinel, .sentinel, .listed, .data, .pinned], laidTests := true, laidLooks := .later }
def TopFilesUptoCardSaid : Prop := Claim7.holds Tryz.pinned (.plain (OpenSpec.upto topFilesSpec)) topFilesUptoCard

/-- THE SECOND FORM's CARD OF 'custodiantop.TopSeals'. -/
def topSealsUptoCard : Claim7 := { stood := { row := topSealsUptoRow, standIns := [], harness := (true, "4df7fdf3d99faa3e3421a9d1771e44c410df28501416725ba504fd75262942d6"), looks := true }, kinds := [], alts := [], laidByText := true, laidKinds := [.data, .data, .data, .data, .sentinel, .sentinel, .listed, .data, .pinned], laidTests := true, laidLooks := .later }
def TopSealsUptoCardSaid : Prop := Claim7.holds Tryz.pinned (.plain (OpenSpec.upto topSealsSpec)) topSealsUptoCard
end Rows
end Go.Proofs.YtpjhjefjbkjhkaaGreatDoor
