/-
  DERIVED. GIVEN WITH THE SEED: THE CARDS: each row of YtjlncoodkejncaaGreatDoorRows.lean that lists a variable, with what it lists TIED to the program's text (the seventh form; the later family's looks); each row that meets fmt, with fmt's text TOLD by the authors' own Lean function (tested against real Go, not proved from fmt's source: count such statements apart). THE CARD IS WHAT COUNTS. Prove the row's statement (the work); the ties are given (YtjlncoodkejncaaGreatDoorTie.lean); close each card by the builder's one call (the guide's Derived/Test/ToyasCard.lean, 'card_holds'). Laid BY PROGRAM, IN A SANDBOX (cutbox-door.mjs). By AI agents, Wed Nov 11 2026. No macro, syntax, notation, axiom, sorry.
-/
import Derived.Test.YtjlncoodkejncaaGreatDoorRows
import GoSem.ClaimSeven
namespace Go.Proofs.YtjlncoodkejncaaGreatDoor
namespace Rows

/-- THE TIED CARD OF 'custodiankeep.ModuleLess'. -/
def moduleLessCard : Claim7 := { stood := { row := moduleLessRow, standIns := [], harness := (true, "b4d9350d93705b2dcefb941c3d790c0494dea043403185a2de580fece25cbb15"), looks := true }, kinds := [], alts := [], laidByText := true, laidKinds := [.data, .data, .data, .data, .sentinel, .sentinel, .listed, .data, .pinned], laidTests := true, laidLooks := .later }
def ModuleLessCardSaid : Prop := Claim7.holds Tryz.pinned (.plain (OpenSpec.ofChange moduleLessSpec)) moduleLessCard

/-- THE TIED CARD OF 'custodiankeep.ModuleLabels'. -/
def moduleLabelsCard : Claim7 := { stood := { row := moduleLabelsRow, standIns := [], harness := (true, "b4d9350d93705b2dcefb941c3d790c0494dea043403185a2de580fece25cbb15"), looks := true }, kinds := [], alts := [], laidByText := true, laidKinds := [.data, .data, .data, .data, .sentinel, .sentinel, .listed, .data, .pinned], laidTests := true, laidLooks := .later }
def ModuleLabelsCardSaid : Prop := Claim7.holds Tryz.pinned (.plain (OpenSpec.ofChange moduleLabelsSpec)) moduleLabelsCard

/-- THE TIED CARD OF 'custodiankeep.FileSize'. -/
def fileSizeCard : Claim7 := { stood := { row := fileSizeRow, standIns := [], harness := (true, "b4d9350d93705b2dcefb941c3d790c0494dea043403185a2de580fece25cbb15"), looks := true }, kinds := [], alts := [], laidByText := true, laidKinds := [.data, .data, .data, .data, .sentinel, .sentinel, .listed, .data, .pinned], laidTests := true, laidLooks := .later }
def FileSizeCardSaid : Prop := Claim7.holds Tryz.pinned (.plain (OpenSpec.ofChange fileSizeSpec)) fileSizeCard

/-- THE TIED CARD OF 'custodiankeep.ModuleBack'. -/
def moduleBackCard : Claim7 := { stood := { row := moduleBackRow, standIns := [], harness := (true, "b4d9350d93705b2dcefb941c3d790c0494dea043403185a2de580fece25cbb15"), looks := true }, kinds := [], alts := [], laidByText := true, laidKinds := [.data, .data, .data, .data, .sentinel, .sentinel, .listed, .data, .pinned], laidTests := true, laidLooks := .later }
def ModuleBackCardSaid : Prop := Claim7.holds Tryz.pinned (.plain (OpenSpec.ofChange moduleBackSpec)) moduleBackCard

/-- THE TIED CARD OF 'custodiankeep.FileTurned'. -/
def fileTurnedCard : Claim7 := { stood := { row := fileTurnedRow, standIns := [], harness := (true, "b4d9350d93705b2dcefb941c3d790c0494dea043403185a2de580fece25cbb15"), looks := true }, kinds := [], alts := [], laidByText := true, laidKinds := [.data, .data, .data, .data, .sentinel, .sentinel, .listed, .data, .pinned], laidTests := true, laidLooks := .later }
def FileTurnedCardSaid : Prop := Claim7.holds Tryz.pinned (.plain (OpenSpec.ofChange fileTurnedSpec)) fileTurnedCard

/-- THE SECOND FORM's CARD OF 'custodiankeep.ModuleLess'. -/
def moduleLessUptoCard : Claim7 := { stood := { row := moduleLessUptoRow, standIns := [], harness := (true, "b4d9350d93705b2dcefb941c3d790c0494dea043403185a2de580fece25cbb15"), looks := true }, kinds := [], alts := [], laidByText := true, laidKinds := [.data, .data, .data, .data, .sentinel, .sentinel, .listed, .data, .pinned], laidTests := true, laidLooks := .later }
def ModuleLessUptoCardSaid : Prop := Claim7.holds Tryz.pinned (.plain (OpenSpec.upto moduleLessSpec)) moduleLessUptoCard

/-- THE SECOND FORM's CARD OF 'custodiankeep.ModuleLabels'. -/
def moduleLabelsUptoCard : Claim7 := { stood := { row := moduleLabelsUptoRow, standIns := [], harness := (true, "b4d9350d93705b2dcefb941c3d790c0494dea043403185a2de580fece25cbb15"), looks := true }, kinds := [], alts := [], laidByText := true, laidKinds := [.data, .data, .data, .data, .sentinel, .sentinel, .listed, .data, .pinned], laidTests := true, laidLooks := .later }
def ModuleLabelsUptoCardSaid : Prop := Claim7.holds Tryz.pinned (.plain (OpenSpec.upto moduleLabelsSpec)) moduleLabelsUptoCard

/-- THE SECOND FORM's CARD OF 'custodiankeep.FileSize'. -/
def fileSizeUptoCard : Claim7 := { stood := { row := fileSizeUptoRow, standIns := [], harness := (true, "b4d9350d93705b2dcefb941c3d790c0494dea043403185a2de580fece25cbb15"), looks := true }, kinds := [], alts := [], laidByText := true, laidKinds := [.data, .data, .data, .data, .sentinel, .sentinel, .listed, .data, .pinned], laidTests := true, laidLooks := .later }
def FileSizeUptoCardSaid : Prop := Claim7.holds Tryz.pinned (.plain (OpenSpec.upto fileSizeSpec)) fileSizeUptoCard

/-- THE SECOND FORM's CARD OF 'custodiankeep.ModuleBack'. -/
def moduleBackUptoCard : Claim7 := { stood := { row := moduleBackUptoRow, standIns := [], harness := (true, "b4d9350d93705b2dcefb941c3d790c0494dea043403185a2de580fece25cbb15"), looks := true }, kinds := [], alts := [], laidByText := true, laidKinds := [.data, .data, .data, .data, .sentinel, .sentinel, .listed, .data, .pinned], laidTests := true, laidLooks := .later }
def ModuleBackUptoCardSaid : Prop := Claim7.holds Tryz.pinned (.plain (OpenSpec.upto moduleBackSpec)) moduleBackUptoCard

/-- THE SECOND FORM's CARD OF 'custodiankeep.FileTurned'. -/
def fileTurnedUptoCard : Claim7 := { stood := { row := fileTurnedUptoRow, standIns := [], harness := (true, "b4d9350d93705b2dcefb941c3d790c0494dea043403185a2de580fece25cbb15"), looks := true }, kinds := [], alts := [], laidByText := true, laidKinds := [.data, .data, .data, .data, .sentinel, .sentinel, .listed, .data, .pinned], laidTests := true, laidLooks := .later }
def FileTurnedUptoCardSaid : Prop := Claim7.holds Tryz.pinned (.plain (OpenSpec.upto fileTurnedSpec)) fileTurnedUptoCard
end Rows
end Go.Proofs.YtjlncoodkejncaaGreatDoor
