/-
  DERIVED. GIVEN WITH THE SEED: THE CARDS: each row of YtmffdgeebhpacaaDoorRows.lean that lists a variable, with what it lists TIED to the program's text (the seventh form; the later family's looks); each row that meets fmt, with fmt's text TOLD by the authors' own Lean function (tested against real Go, not proved from fmt's source: count such statements apart). THE CARD IS WHAT COUNTS. Prove the row's statement (the work); the ties are given (YtmffdgeebhpacaaDoorTie.lean); close each card by the builder's one call (the guide's Derived/Test/ToyasCard.lean, 'card_holds'). Laid BY PROGRAM, IN A SANDBOX (cutbox-door.mjs). By AI agents, Wed Nov 11 2026. No macro, syntax, notation, axiom, sorry.
-/
import Derived.Test.YtmffdgeebhpacaaDoorRows
import GoSem.ClaimSeven
namespace Go.Proofs.YtmffdgeebhpacaaDoor
namespace Rows

/-- THE TIED CARD OF 'custodiankeep.RunSteps'. -/
def runStepsCard : Claim7 := { stood := { row := runStepsRow, standIns := [], harness := (true, "0a16e74f3c938bab04b5a1603bf46f9edf7118ed788ce440821ee77e208ad94d"), looks := true }, kinds := [], alts := [], laidByText := true, laidKinds := [.listed, .data], laidTests := true, laidLooks := .later }
def RunStepsCardSaid : Prop := Claim7.holds Tryd.pinned (.plain (OpenSpec.ofChange runStepsSpec)) runStepsCard

/-- THE TIED CARD OF 'custodiankeep.StepOwn'. -/
def stepOwnCard : Claim7 := { stood := { row := stepOwnRow, standIns := [], harness := (true, "0a16e74f3c938bab04b5a1603bf46f9edf7118ed788ce440821ee77e208ad94d"), looks := true }, kinds := [], alts := [], laidByText := true, laidKinds := [.listed, .data], laidTests := true, laidLooks := .later }
def StepOwnCardSaid : Prop := Claim7.holds Tryd.pinned (.plain (OpenSpec.ofChange stepOwnSpec)) stepOwnCard

/-- THE TIED CARD OF 'custodiankeep.SweepSafe'. -/
def sweepSafeCard : Claim7 := { stood := { row := sweepSafeRow, standIns := [], harness := (true, "0a16e74f3c938bab04b5a1603bf46f9edf7118ed788ce440821ee77e208ad94d"), looks := true }, kinds := [], alts := [], laidByText := true, laidKinds := [.listed, .data], laidTests := true, laidLooks := .later }
def SweepSafeCardSaid : Prop := Claim7.holds Tryd.pinned (.plain (OpenSpec.ofChange sweepSafeSpec)) sweepSafeCard

/-- THE TIED CARD OF 'custodiankeep.RunGuards'. -/
def runGuardsCard : Claim7 := { stood := { row := runGuardsRow, standIns := [], harness := (true, "0a16e74f3c938bab04b5a1603bf46f9edf7118ed788ce440821ee77e208ad94d"), looks := true }, kinds := [], alts := [], laidByText := true, laidKinds := [.listed, .data], laidTests := true, laidLooks := .later }
def RunGuardsCardSaid : Prop := Claim7.holds Tryd.pinned (.plain (OpenSpec.ofChange runGuardsSpec)) runGuardsCard

/-- THE TIED CARD OF 'custodiankeep.RunBlind'. -/
def runBlindCard : Claim7 := { stood := { row := runBlindRow, standIns := [], harness := (true, "0a16e74f3c938bab04b5a1603bf46f9edf7118ed788ce440821ee77e208ad94d"), looks := true }, kinds := [], alts := [], laidByText := true, laidKinds := [.listed, .data], laidTests := true, laidLooks := .later }
def RunBlindCardSaid : Prop := Claim7.holds Tryd.pinned (.plain (OpenSpec.ofChange runBlindSpec)) runBlindCard

/-- THE TIED CARD OF 'custodiankeep.EnterFuel'. -/
def enterFuelCard : Claim7 := { stood := { row := enterFuelRow, standIns := [], harness := (true, "0a16e74f3c938bab04b5a1603bf46f9edf7118ed788ce440821ee77e208ad94d"), looks := true }, kinds := [], alts := [], laidByText := true, laidKinds := [.listed, .data], laidTests := true, laidLooks := .later }
def EnterFuelCardSaid : Prop := Claim7.holds Tryd.pinned (.plain (OpenSpec.ofChange enterFuelSpec)) enterFuelCard

/-- THE TIED CARD OF 'custodiankeep.EnterChain'. -/
def enterChainCard : Claim7 := { stood := { row := enterChainRow, standIns := [], harness := (true, "0a16e74f3c938bab04b5a1603bf46f9edf7118ed788ce440821ee77e208ad94d"), looks := true }, kinds := [], alts := [], laidByText := true, laidKinds := [.listed, .data], laidTests := true, laidLooks := .later }
def EnterChainCardSaid : Prop := Claim7.holds Tryd.pinned (.plain (OpenSpec.ofChange enterChainSpec)) enterChainCard

/-- THE TIED CARD OF 'custodiankeep.StepDown'. -/
def stepDownCard : Claim7 := { stood := { row := stepDownRow, standIns := [], harness := (true, "0a16e74f3c938bab04b5a1603bf46f9edf7118ed788ce440821ee77e208ad94d"), looks := true }, kinds := [], alts := [], laidByText := true, laidKinds := [.listed, .data], laidTests := true, laidLooks := .later }
def StepDownCardSaid : Prop := Claim7.holds Tryd.pinned (.plain (OpenSpec.ofChange stepDownSpec)) stepDownCard

/-- THE TIED CARD OF 'custodiankeep.RunDown'. -/
def runDownCard : Claim7 := { stood := { row := runDownRow, standIns := [], harness := (true, "0a16e74f3c938bab04b5a1603bf46f9edf7118ed788ce440821ee77e208ad94d"), looks := true }, kinds := [], alts := [], laidByText := true, laidKinds := [.listed, .data], laidTests := true, laidLooks := .later }
def RunDownCardSaid : Prop := Claim7.holds Tryd.pinned (.plain (OpenSpec.ofChange runDownSpec)) runDownCard

/-- THE TIED CARD OF 'custodiankeep.SweepAll'. -/
def sweepAllCard : Claim7 := { stood := { row := sweepAllRow, standIns := [], harness := (true, "0a16e74f3c938bab04b5a1603bf46f9edf7118ed788ce440821ee77e208ad94d"), looks := true }, kinds := [], alts := [], laidByText := true, laidKinds := [.listed, .data], laidTests := true, laidLooks := .later }
def SweepAllCardSaid : Prop := Claim7.holds Tryd.pinned (.plain (OpenSpec.ofChange sweepAllSpec)) sweepAllCard

/-- THE SECOND FORM's CARD OF 'custodiankeep.RunSteps'. -/
def runStepsUptoCard : Claim7 := { stood := { row := runStepsUptoRow, standIns := [], harness := (true, "0a16e74f3c938bab04b5a1603bf46f9edf7118ed788ce440821ee77e208ad94d"), looks := true }, kinds := [], alts := [], laidByText := true, laidKinds := [.listed, .data], laidTests := true, laidLooks := .later }
def RunStepsUptoCardSaid : Prop := Claim7.holds Tryd.pinned (.plain (OpenSpec.upto runStepsSpec)) runStepsUptoCard

/-- THE SECOND FORM's CARD OF 'custodiankeep.StepOwn'. -/
def stepOwnUptoCard : Claim7 := { stood := { row := stepOwnUptoRow, standIns := [], harness := (true, "0a16e74f3c938bab04b5a1603bf46f9edf7118ed788ce440821ee77e208ad94d"), looks := true }, kinds := [], alts := [], laidByText := true, laidKinds := [.listed, .data], laidTests := true, laidLooks := .later }
def StepOwnUptoCardSaid : Prop := Claim7.holds Tryd.pinned (.plain (OpenSpec.upto stepOwnSpec)) stepOwnUptoCard

/-- THE SECOND FORM's CARD OF 'custodiankeep.SweepSafe'. -/
def sweepSafeUptoCard : Claim7 := { stood := { row := sweepSafeUptoRow, standIns := [], harness := (true, "0a16e74f3c938bab04b5a1603bf46f9edf7118ed788ce440821ee77e208ad94d"), looks := true }, kinds := [], alts := [], laidByText := true, laidKinds := [.listed, .data], laidTests := true, laidLooks := .later }
def SweepSafeUptoCardSaid : Prop := Claim7.holds Tryd.pinned (.plain (OpenSpec.upto sweepSafeSpec)) sweepSafeUptoCard

/-- THE SECOND FORM's CARD OF 'custodiankeep.RunGuards'. -/
def runGuardsUptoCard : Claim7 := { stood := { row := runGuardsUptoRow, standIns := [], harness := (true, "0a16e74f3c938bab04b5a1603bf46f9edf7118ed788ce440821ee77e208ad94d"), looks := true }, kinds := [], alts := [], laidByText := true, laidKinds := [.listed, .data], laidTests := true, laidLooks := .later }
def RunGuardsUptoCardSaid : Prop := Claim7.holds Tryd.pinned (.plain (OpenSpec.upto runGuardsSpec)) runGuardsUptoCard

/-- THE SECOND FORM's CARD OF 'custodiankeep.RunBlind'. -/
def runBlindUptoCard : Claim7 := { stood := { row := runBlindUptoRow, standIns := [], harness := (true, "0a16e74f3c938bab04b5a1603bf46f9edf7118ed788ce440821ee77e208ad94d"), looks := true }, kinds := [], alts := [], laidByText := true, laidKinds := [.listed, .data], laidTests := true, laidLooks := .later }
def RunBlindUptoCardSaid : Prop := Claim7.holds Tryd.pinned (.plain (OpenSpec.upto runBlindSpec)) runBlindUptoCard

/-- THE SECOND FORM's CARD OF 'custodiankeep.EnterFuel'. -/
def enterFuelUptoCard : Claim7 := { stood := { row := enterFuelUptoRow, standIns := [], harness := (true, "0a16e74f3c938bab04b5a1603bf46f9edf7118ed788ce440821ee77e208ad94d"), looks := true }, kinds := [], alts := [], laidByText := true, laidKinds := [.listed, .data], laidTests := true, laidLooks := .later }
def EnterFuelUptoCardSaid : Prop := Claim7.holds Tryd.pinned (.plain (OpenSpec.upto enterFuelSpec)) enterFuelUptoCard

/-- THE SECOND FORM's CARD OF 'custodiankeep.EnterChain'. -/
def enterChainUptoCard : Claim7 := { stood := { row := enterChainUptoRow, standIns := [], harness := (true, "0a16e74f3c938bab04b5a1603bf46f9edf7118ed788ce440821ee77e208ad94d"), looks := true }, kinds := [], alts := [], laidByText := true, laidKinds := [.listed, .data], laidTests := true, laidLooks := .later }
def EnterChainUptoCardSaid : Prop := Claim7.holds Tryd.pinned (.plain (OpenSpec.upto enterChainSpec)) enterChainUptoCard

/-- THE SECOND FORM's CARD OF 'custodiankeep.StepDown'. -/
def stepDownUptoCard : Claim7 := { stood := { row := stepDownUptoRow, standIns := [], harness := (true, "0a16e74f3c938bab04b5a1603bf46f9edf7118ed788ce440821ee77e208ad94d"), looks := true }, kinds := [], alts := [], laidByText := true, laidKinds := [.listed, .data], laidTests := true, laidLooks := .later }
def StepDownUptoCardSaid : Prop := Claim7.holds Tryd.pinned (.plain (OpenSpec.upto stepDownSpec)) stepDownUptoCard

/-- THE SECOND FORM's CARD OF 'custodiankeep.RunDown'. -/
def runDownUptoCard : Claim7 := { stood := { row := runDownUptoRow, standIns := [], harness := (true, "0a16e74f3c938bab04b5a1603bf46f9edf7118ed788ce440821ee77e208ad94d"), looks := true }, kinds := [], alts := [], laidByText := true, laidKinds := [.listed, .data], laidTests := true, laidLooks := .later }
def RunDownUptoCardSaid : Prop := Claim7.holds Tryd.pinned (.plain (OpenSpec.upto runDownSpec)) runDownUptoCard

/-- THE SECOND FORM's CARD OF 'custodiankeep.SweepAll'. -/
def sweepAllUptoCard : Claim7 := { stood := { row := sweepAllUptoRow, standIns := [], harness := (true, "0a16e74f3c938bab04b5a1603bf46f9edf7118ed788ce440821ee77e208ad94d"), looks := true }, kinds := [], alts := [], laidByText := true, laidKinds := [.listed, .data], laidTests := true, laidLooks := .later }
def SweepAllUptoCardSaid : Prop := Claim7.holds Tryd.pinned (.plain (OpenSpec.upto sweepAllSpec)) sweepAllUptoCard
end Rows
end Go.Proofs.YtmffdgeebhpacaaDoor
