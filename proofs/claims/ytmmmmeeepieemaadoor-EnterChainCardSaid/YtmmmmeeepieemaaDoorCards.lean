/-
  DERIVED. GIVEN WITH THE SEED: THE CARDS: each row of YtmmmmeeepieemaaDoorRows.lean that lists a variable, with what it lists TIED to the program's text (the seventh form; the later family's looks); each row that meets fmt, with fmt's text TOLD by the authors' own Lean function (tested against real Go, not proved from fmt's source: count such statements apart). THE CARD IS WHAT COUNTS. Prove the row's statement (the work); the ties are given (YtmmmmeeepieemaaDoorTie.lean); close each card by the builder's one call (the guide's Derived/Test/ToyasCard.lean, 'card_holds'). Laid BY PROGRAM, IN A SANDBOX (cutbox-door.mjs). By AI agents, Wed Nov 11 2026. No macro, syntax, notation, axiom, sorry.
-/
import Derived.Test.YtmmmmeeepieemaaDoorRows
import GoSem.ClaimSeven
namespace Go.Proofs.YtmmmmeeepieemaaDoor
namespace Rows

/-- THE TIED CARD OF 'custodiankeep.PermBack'. -/
def permBackCard : Claim7 := { stood := { row := permBackRow, standIns := [], harness := (true, "79b636ffd2269214af21c57717f38d13206c2d0d98eb9e7ee00a3d23c5e7091f"), looks := true }, kinds := [], alts := [], laidByText := true, laidKinds := [.data, .pinned], laidTests := true, laidLooks := .later }
def PermBackCardSaid : Prop := Claim7.holds Tryd.pinned (.plain (OpenSpec.ofChange permBackSpec)) permBackCard

/-- THE TIED CARD OF 'custodiankeep.RunSteps'. -/
def runStepsCard : Claim7 := { stood := { row := runStepsRow, standIns := [], harness := (true, "79b636ffd2269214af21c57717f38d13206c2d0d98eb9e7ee00a3d23c5e7091f"), looks := true }, kinds := [], alts := [], laidByText := true, laidKinds := [.listed, .data], laidTests := true, laidLooks := .later }
def RunStepsCardSaid : Prop := Claim7.holds Tryd.pinned (.plain (OpenSpec.ofChange runStepsSpec)) runStepsCard

/-- THE TIED CARD OF 'custodiankeep.EnterFuel'. -/
def enterFuelCard : Claim7 := { stood := { row := enterFuelRow, standIns := [], harness := (true, "79b636ffd2269214af21c57717f38d13206c2d0d98eb9e7ee00a3d23c5e7091f"), looks := true }, kinds := [], alts := [], laidByText := true, laidKinds := [.listed, .data], laidTests := true, laidLooks := .later }
def EnterFuelCardSaid : Prop := Claim7.holds Tryd.pinned (.plain (OpenSpec.ofChange enterFuelSpec)) enterFuelCard

/-- THE TIED CARD OF 'custodiankeep.EnterChain'. -/
def enterChainCard : Claim7 := { stood := { row := enterChainRow, standIns := [], harness := (true, "79b636ffd2269214af21c57717f38d13206c2d0d98eb9e7ee00a3d23c5e7091f"), looks := true }, kinds := [], alts := [], laidByText := true, laidKinds := [.listed, .data], laidTests := true, laidLooks := .later }
def EnterChainCardSaid : Prop := Claim7.holds Tryd.pinned (.plain (OpenSpec.ofChange enterChainSpec)) enterChainCard

/-- THE SECOND FORM's CARD OF 'custodiankeep.PermBack'. -/
def permBackUptoCard : Claim7 := { stood := { row := permBackUptoRow, standIns := [], harness := (true, "79b636ffd2269214af21c57717f38d13206c2d0d98eb9e7ee00a3d23c5e7091f"), looks := true }, kinds := [], alts := [], laidByText := true, laidKinds := [.data, .pinned], laidTests := true, laidLooks := .later }
def PermBackUptoCardSaid : Prop := Claim7.holds Tryd.pinned (.plain (OpenSpec.upto permBackSpec)) permBackUptoCard

/-- THE SECOND FORM's CARD OF 'custodiankeep.RunSteps'. -/
def runStepsUptoCard : Claim7 := { stood := { row := runStepsUptoRow, standIns := [], harness := (true, "79b636ffd2269214af21c57717f38d13206c2d0d98eb9e7ee00a3d23c5e7091f"), looks := true }, kinds := [], alts := [], laidByText := true, laidKinds := [.listed, .data], laidTests := true, laidLooks := .later }
def RunStepsUptoCardSaid : Prop := Claim7.holds Tryd.pinned (.plain (OpenSpec.upto runStepsSpec)) runStepsUptoCard

/-- THE SECOND FORM's CARD OF 'custodiankeep.EnterFuel'. -/
def enterFuelUptoCard : Claim7 := { stood := { row := enterFuelUptoRow, standIns := [], harness := (true, "79b636ffd2269214af21c57717f38d13206c2d0d98eb9e7ee00a3d23c5e7091f"), looks := true }, kinds := [], alts := [], laidByText := true, laidKinds := [.listed, .data], laidTests := true, laidLooks := .later }
def EnterFuelUptoCardSaid : Prop := Claim7.holds Tryd.pinned (.plain (OpenSpec.upto enterFuelSpec)) enterFuelUptoCard

/-- THE SECOND FORM's CARD OF 'custodiankeep.EnterChain'. -/
def enterChainUptoCard : Claim7 := { stood := { row := enterChainUptoRow, standIns := [], harness := (true, "79b636ffd2269214af21c57717f38d13206c2d0d98eb9e7ee00a3d23c5e7091f"), looks := true }, kinds := [], alts := [], laidByText := true, laidKinds := [.listed, .data], laidTests := true, laidLooks := .later }
def EnterChainUptoCardSaid : Prop := Claim7.holds Tryd.pinned (.plain (OpenSpec.upto enterChainSpec)) enterChainUptoCard
end Rows
end Go.Proofs.YtmmmmeeepieemaaDoor
