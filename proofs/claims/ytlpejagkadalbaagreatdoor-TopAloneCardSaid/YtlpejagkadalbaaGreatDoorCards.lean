/-
  DERIVED. GIVEN WITH THE SEED: THE CARDS: each row of YtlpejagkadalbaaGreatDoorRows.lean that lists a variable, with what it lists TIED to the program's text (the seventh form; the later family's looks); each row that meets fmt, with fmt's text TOLD by the authors' own Lean function (tested against real Go, not proved from fmt's source: count such statements apart). THE CARD IS WHAT COUNTS. Prove the row's statement (the work); the ties are given (YtlpejagkadalbaaGreatDoorTie.lean); close each card by the builder's one call (the guide's Derived/Test/ToyasCard.lean, 'card_holds'). Laid BY PROGRAM, IN A SANDBOX (cutbox-door.mjs). By AI agents, Wed Nov 11 2026. No macro, syntax, notation, axiom, sorry.
-/
import Derived.Test.YtlpejagkadalbaaGreatDoorRows
import GoSem.ClaimSeven
namespace Go.Proofs.YtlpejagkadalbaaGreatDoor
namespace Rows

/-- THE TIED CARD OF 'custodiantop.TopAlone'. -/
def topAloneCard : Claim7 := { stood := { row := topAloneRow, standIns := [], harness := (true, "6fd15d6a7eae4fc3b91ac08a08538c63ddacc1f723811775686334afd156f3ea"), looks := true }, kinds := [], alts := [], laidByText := true, laidKinds := [.data, .data, .data, .data, .sentinel, .sentinel, .listed, .data, .pinned], laidTests := true, laidLooks := .later }
def TopAloneCardSaid : Prop := Claim7.holds Tryz.pinned (.plain (OpenSpec.ofChange topAloneSpec)) topAloneCard

/-- THE TIED CARD OF 'custodiantop.TopCounter'. -/
def topCounterCard : Claim7 := { stood := { row := topCounterRow, standIns := [], harness := (true, "6fd15d6a7eae4fc3b91ac08a08538c63ddacc1f723811775686334afd156f3ea"), looks := true }, kinds := [], alts := [], laidByText := true, laidKinds := [.data, .data, .data, .data, .sentinel, .sentinel, .listed, .data, .pinned], laidTests := true, laidLooks := .later }
def TopCounterCardSaid : Prop := Claim7.holds Tryz.pinned (.plain (OpenSpec.ofChange topCounterSpec)) topCounterCard

/-- THE TIED CARD OF 'custodiantop.TopFiles'. -/
def topFilesCard : Claim7 := { stood := { row := topFilesRow, standIns := [], harness := (true, "6fd15d6a7eae4fc3b91ac08a08538c63ddacc1f723811775686334afd156f3ea"), looks := true }, kinds := [], alts := [], laidByText := true, laidKinds := [.data, .data, .data, .data, .sentinel, .sentinel, .listed, .data, .pinned], laidTests := true, laidLooks := .later }
def TopFilesCardSaid : Prop := Claim7.holds Tryz.pinned (.plain (OpenSpec.ofChange topFilesSpec)) topFilesCard

/-- THE TIED CARD OF 'custodiantop.TopSeals'. -/
def topSealsCard : Claim7 := { stood := { row := topSealsRow, standIns := [], harness := (true, "6fd15d6a7eae4fc3b91ac08a08538c63ddacc1f723811775686334afd156f3ea"), looks := true }, kinds := [], alts := [], laidByText := true, laidKinds := [.data, .data, .data, .data, .sentinel, .sentinel, .listed, .data, .pinned], laidTests := true, laidLooks := .later }
def TopSealsCardSaid : Prop := Claim7.holds Tryz.pinned (.plain (OpenSpec.ofChange topSealsSpec)) topSealsCard

/-- THE SECOND FORM's CARD OF 'custodiantop.TopAlone'. -/
def topAloneUptoCard : Claim7 := { stood := { row := topAloneUptoRow, standIns := [], harness := (true, "6fd15d6a7eae4fc3b91ac08a08538c63ddacc1f723811775686334afd156f3ea"), looks := true }, kinds := [], alts := [], laidByText := true, laidKinds := [.data, .data, .data, .data, .sentinel, .sentinel, .listed, .data, .pinned], laidTests := true, laidLooks := .later }
def TopAloneUptoCardSaid : Prop := Claim7.holds Tryz.pinned (.plain (OpenSpec.upto topAloneSpec)) topAloneUptoCard

/-- THE SECOND FORM's CARD OF 'custodiantop.TopCounter'. -/
def topCounterUptoCard : Claim7 := { stood := { row := topCounterUptoRow, standIns := [], harness := (true, "6fd15d6a7eae4fc3b91ac08a08538c63ddacc1f723811775686334afd156f3ea"), looks := true }, kinds := [], alts := [], laidByText := true, laidKinds := [.data, .data, .data, .data, .sentinel, .sentinel, .listed, .data, .pinned], laidTests := true, laidLooks := .later }
def TopCounterUptoCardSaid : Prop := Claim7.holds Tryz.pinned (.plain (OpenSpec.upto topCounterSpec)) topCounterUptoCard

/-- THE SECOND FORM's CARD OF 'custodiantop.TopFiles'. -/
def topFilesUptoCard : Claim7 := { stood := { row := topFilesUptoRow, standIns := [], harness := (true, "6fd15d6a7eae4fc3b91ac08a08538c63ddacc1f723811775686334afd156f3ea"), looks := true }, kinds := [], alts := [], laidByText := true, laidKinds := [.data, .data, .data, .data, .sentinel, .sentinel, .listed, .data, .pinned], laidTests := true, laidLooks := .later }
def TopFilesUptoCardSaid : Prop := Claim7.holds Tryz.pinned (.plain (OpenSpec.upto topFilesSpec)) topFilesUptoCard

/-- THE SECOND FORM's CARD OF 'custodiantop.TopSeals'. -/
def topSealsUptoCard : Claim7 := { stood := { row := topSealsUptoRow, standIns := [], harness := (true, "6fd15d6a7eae4fc3b91ac08a08538c63ddacc1f723811775686334afd156f3ea"), looks := true }, kinds := [], alts := [], laidByText := true, laidKinds := [.data, .data, .data, .data, .sentinel, .sentinel, .listed, .data, .pinned], laidTests := true, laidLooks := .later }
def TopSealsUptoCardSaid : Prop := Claim7.holds Tryz.pinned (.plain (OpenSpec.upto topSealsSpec)) topSealsUptoCard
end Rows
end Go.Proofs.YtlpejagkadalbaaGreatDoor
