/-
  DERIVED. GIVEN WITH THE SEED: THE CARDS: each row of YtopdnihokbhjfaaDoorRows.lean that lists a variable, with what it lists TIED to the program's text (the seventh form; the later family's looks); each row that meets fmt, with fmt's text TOLD by the authors' own Lean function (tested against real Go, not proved from fmt's source: count such statements apart). THE CARD IS WHAT COUNTS. Prove the row's statement (the work); the ties are given (YtopdnihokbhjfaaDoorTie.lean); close each card by the builder's one call (the guide's Derived/Test/ToyasCard.lean, 'card_holds'). Laid BY PROGRAM, IN A SANDBOX (cutbox-door.mjs). By AI agents, Wed Nov 11 2026. No macro, syntax, notation, axiom, sorry.
-/
import Derived.Test.YtopdnihokbhjfaaDoorRows
import GoSem.ClaimSeven
namespace Go.Proofs.YtopdnihokbhjfaaDoor
namespace Rows

/-- THE TIED CARD OF 'custodiankeep.StepOne'. -/
def stepOneCard : Claim7 := { stood := { row := stepOneRow, standIns := [], harness := (true, "4d0284a277ad2b97a97a337a91dd52ad68e68aecf14196df23b7172b2975c64b"), looks := true }, kinds := [], alts := [], laidByText := true, laidKinds := [.listed, .data], laidTests := true, laidLooks := .later }
def StepOneCardSaid : Prop := Claim7.holds Tryd.pinned (.plain (OpenSpec.ofChange stepOneSpec)) stepOneCard

/-- THE TIED CARD OF 'custodiankeep.StepFew'. -/
def stepFewCard : Claim7 := { stood := { row := stepFewRow, standIns := [], harness := (true, "4d0284a277ad2b97a97a337a91dd52ad68e68aecf14196df23b7172b2975c64b"), looks := true }, kinds := [], alts := [], laidByText := true, laidKinds := [.listed, .data], laidTests := true, laidLooks := .later }
def StepFewCardSaid : Prop := Claim7.holds Tryd.pinned (.plain (OpenSpec.ofChange stepFewSpec)) stepFewCard

/-- THE TIED CARD OF 'custodiankeep.StepGoes'. -/
def stepGoesCard : Claim7 := { stood := { row := stepGoesRow, standIns := [], harness := (true, "4d0284a277ad2b97a97a337a91dd52ad68e68aecf14196df23b7172b2975c64b"), looks := true }, kinds := [], alts := [], laidByText := true, laidKinds := [.listed, .data], laidTests := true, laidLooks := .later }
def StepGoesCardSaid : Prop := Claim7.holds Tryd.pinned (.plain (OpenSpec.ofChange stepGoesSpec)) stepGoesCard

/-- THE TIED CARD OF 'custodiankeep.StepLocal'. -/
def stepLocalCard : Claim7 := { stood := { row := stepLocalRow, standIns := [], harness := (true, "4d0284a277ad2b97a97a337a91dd52ad68e68aecf14196df23b7172b2975c64b"), looks := true }, kinds := [], alts := [], laidByText := true, laidKinds := [.listed, .data], laidTests := true, laidLooks := .later }
def StepLocalCardSaid : Prop := Claim7.holds Tryd.pinned (.plain (OpenSpec.ofChange stepLocalSpec)) stepLocalCard

/-- THE TIED CARD OF 'custodiankeep.StepSame'. -/
def stepSameCard : Claim7 := { stood := { row := stepSameRow, standIns := [], harness := (true, "4d0284a277ad2b97a97a337a91dd52ad68e68aecf14196df23b7172b2975c64b"), looks := true }, kinds := [], alts := [], laidByText := true, laidKinds := [.listed, .data], laidTests := true, laidLooks := .later }
def StepSameCardSaid : Prop := Claim7.holds Tryd.pinned (.plain (OpenSpec.ofChange stepSameSpec)) stepSameCard

/-- THE TIED CARD OF 'custodiankeep.RunSplits'. -/
def runSplitsCard : Claim7 := { stood := { row := runSplitsRow, standIns := [], harness := (true, "4d0284a277ad2b97a97a337a91dd52ad68e68aecf14196df23b7172b2975c64b"), looks := true }, kinds := [], alts := [], laidByText := true, laidKinds := [.listed, .data], laidTests := true, laidLooks := .later }
def RunSplitsCardSaid : Prop := Claim7.holds Tryd.pinned (.plain (OpenSpec.ofChange runSplitsSpec)) runSplitsCard

/-- THE TIED CARD OF 'custodiankeep.RunTells'. -/
def runTellsCard : Claim7 := { stood := { row := runTellsRow, standIns := [], harness := (true, "4d0284a277ad2b97a97a337a91dd52ad68e68aecf14196df23b7172b2975c64b"), looks := true }, kinds := [], alts := [], laidByText := true, laidKinds := [.listed, .data], laidTests := true, laidLooks := .later }
def RunTellsCardSaid : Prop := Claim7.holds Tryd.pinned (.plain (OpenSpec.ofChange runTellsSpec)) runTellsCard

/-- THE TIED CARD OF 'custodiankeep.RunNone'. -/
def runNoneCard : Claim7 := { stood := { row := runNoneRow, standIns := [], harness := (true, "4d0284a277ad2b97a97a337a91dd52ad68e68aecf14196df23b7172b2975c64b"), looks := true }, kinds := [], alts := [], laidByText := true, laidKinds := [.listed, .data], laidTests := true, laidLooks := .later }
def RunNoneCardSaid : Prop := Claim7.holds Tryd.pinned (.plain (OpenSpec.ofChange runNoneSpec)) runNoneCard

/-- THE TIED CARD OF 'custodiankeep.RunSteps'. -/
def runStepsCard : Claim7 := { stood := { row := runStepsRow, standIns := [], harness := (true, "4d0284a277ad2b97a97a337a91dd52ad68e68aecf14196df23b7172b2975c64b"), looks := true }, kinds := [], alts := [], laidByText := true, laidKinds := [.listed, .data], laidTests := true, laidLooks := .later }
def RunStepsCardSaid : Prop := Claim7.holds Tryd.pinned (.plain (OpenSpec.ofChange runStepsSpec)) runStepsCard

/-- THE SECOND FORM's CARD OF 'custodiankeep.StepOne'. -/
def stepOneUptoCard : Claim7 := { stood := { row := stepOneUptoRow, standIns := [], harness := (true, "4d0284a277ad2b97a97a337a91dd52ad68e68aecf14196df23b7172b2975c64b"), looks := true }, kinds := [], alts := [], laidByText := true, laidKinds := [.listed, .data], laidTests := true, laidLooks := .later }
def StepOneUptoCardSaid : Prop := Claim7.holds Tryd.pinned (.plain (OpenSpec.upto stepOneSpec)) stepOneUptoCard

/-- THE SECOND FORM's CARD OF 'custodiankeep.StepFew'. -/
def stepFewUptoCard : Claim7 := { stood := { row := stepFewUptoRow, standIns := [], harness := (true, "4d0284a277ad2b97a97a337a91dd52ad68e68aecf14196df23b7172b2975c64b"), looks := true }, kinds := [], alts := [], laidByText := true, laidKinds := [.listed, .data], laidTests := true, laidLooks := .later }
def StepFewUptoCardSaid : Prop := Claim7.holds Tryd.pinned (.plain (OpenSpec.upto stepFewSpec)) stepFewUptoCard

/-- THE SECOND FORM's CARD OF 'custodiankeep.StepGoes'. -/
def stepGoesUptoCard : Claim7 := { stood := { row := stepGoesUptoRow, standIns := [], harness := (true, "4d0284a277ad2b97a97a337a91dd52ad68e68aecf14196df23b7172b2975c64b"), looks := true }, kinds := [], alts := [], laidByText := true, laidKinds := [.listed, .data], laidTests := true, laidLooks := .later }
def StepGoesUptoCardSaid : Prop := Claim7.holds Tryd.pinned (.plain (OpenSpec.upto stepGoesSpec)) stepGoesUptoCard

/-- THE SECOND FORM's CARD OF 'custodiankeep.StepLocal'. -/
def stepLocalUptoCard : Claim7 := { stood := { row := stepLocalUptoRow, standIns := [], harness := (true, "4d0284a277ad2b97a97a337a91dd52ad68e68aecf14196df23b7172b2975c64b"), looks := true }, kinds := [], alts := [], laidByText := true, laidKinds := [.listed, .data], laidTests := true, laidLooks := .later }
def StepLocalUptoCardSaid : Prop := Claim7.holds Tryd.pinned (.plain (OpenSpec.upto stepLocalSpec)) stepLocalUptoCard

/-- THE SECOND FORM's CARD OF 'custodiankeep.StepSame'. -/
def stepSameUptoCard : Claim7 := { stood := { row := stepSameUptoRow, standIns := [], harness := (true, "4d0284a277ad2b97a97a337a91dd52ad68e68aecf14196df23b7172b2975c64b"), looks := true }, kinds := [], alts := [], laidByText := true, laidKinds := [.listed, .data], laidTests := true, laidLooks := .later }
def StepSameUptoCardSaid : Prop := Claim7.holds Tryd.pinned (.plain (OpenSpec.upto stepSameSpec)) stepSameUptoCard

/-- THE SECOND FORM's CARD OF 'custodiankeep.RunSplits'. -/
def runSplitsUptoCard : Claim7 := { stood := { row := runSplitsUptoRow, standIns := [], harness := (true, "4d0284a277ad2b97a97a337a91dd52ad68e68aecf14196df23b7172b2975c64b"), looks := true }, kinds := [], alts := [], laidByText := true, laidKinds := [.listed, .data], laidTests := true, laidLooks := .later }
def RunSplitsUptoCardSaid : Prop := Claim7.holds Tryd.pinned (.plain (OpenSpec.upto runSplitsSpec)) runSplitsUptoCard

/-- THE SECOND FORM's CARD OF 'custodiankeep.RunTells'. -/
def runTellsUptoCard : Claim7 := { stood := { row := runTellsUptoRow, standIns := [], harness := (true, "4d0284a277ad2b97a97a337a91dd52ad68e68aecf14196df23b7172b2975c64b"), looks := true }, kinds := [], alts := [], laidByText := true, laidKinds := [.listed, .data], laidTests := true, laidLooks := .later }
def RunTellsUptoCardSaid : Prop := Claim7.holds Tryd.pinned (.plain (OpenSpec.upto runTellsSpec)) runTellsUptoCard

/-- THE SECOND FORM's CARD OF 'custodiankeep.RunNone'. -/
def runNoneUptoCard : Claim7 := { stood := { row := runNoneUptoRow, standIns := [], harness := (true, "4d0284a277ad2b97a97a337a91dd52ad68e68aecf14196df23b7172b2975c64b"), looks := true }, kinds := [], alts := [], laidByText := true, laidKinds := [.listed, .data], laidTests := true, laidLooks := .later }
def RunNoneUptoCardSaid : Prop := Claim7.holds Tryd.pinned (.plain (OpenSpec.upto runNoneSpec)) runNoneUptoCard

/-- THE SECOND FORM's CARD OF 'custodiankeep.RunSteps'. -/
def runStepsUptoCard : Claim7 := { stood := { row := runStepsUptoRow, standIns := [], harness := (true, "4d0284a277ad2b97a97a337a91dd52ad68e68aecf14196df23b7172b2975c64b"), looks := true }, kinds := [], alts := [], laidByText := true, laidKinds := [.listed, .data], laidTests := true, laidLooks := .later }
def RunStepsUptoCardSaid : Prop := Claim7.holds Tryd.pinned (.plain (OpenSpec.upto runStepsSpec)) runStepsUptoCard
end Rows
end Go.Proofs.YtopdnihokbhjfaaDoor
