/-
  DERIVED. GIVEN WITH THE SEED: THE CARDS: each row of YtkcnhagpjnhiiaaDoorRows.lean that lists a variable, with what it lists TIED to the program's text (the seventh form; the later family's looks); each row that meets fmt, with fmt's text TOLD by the authors' own Lean function (tested against real Go, not proved from fmt's source: count such statements apart). THE CARD IS WHAT COUNTS. Prove the row's statement (the work); the ties are given (YtkcnhagpjnhiiaaDoorTie.lean); close each card by the builder's one call (the guide's Derived/Test/ToyasCard.lean, 'card_holds'). Laid BY PROGRAM, IN A SANDBOX (cutbox-door.mjs). By AI agents, Wed Nov 11 2026. No macro, syntax, notation, axiom, sorry.
-/
import Derived.Test.YtkcnhagpjnhiiaaDoorRows
import GoSem.ClaimSeven
namespace Go.Proofs.YtkcnhagpjnhiiaaDoor
namespace Rows

/-- THE TIED CARD OF 'custodiankeep.InstJumps'. -/
def instJumpsCard : Claim7 := { stood := { row := instJumpsRow, standIns := [], harness := (true, "c56d4a8ae7ec6008a8265b6e0ea5862ae67e8c4f0af46f413a62844d806e75b0"), looks := false }, kinds := [], alts := [], laidByText := true, laidKinds := [.listed, .data], laidTests := true, laidLooks := .later }
def InstJumpsCardSaid : Prop := Claim7.holds Tryd.pinned (.plain (OpenSpec.ofChange instJumpsSpec)) instJumpsCard

/-- THE TIED CARD OF 'custodiankeep.PermBack'. -/
def permBackCard : Claim7 := { stood := { row := permBackRow, standIns := [], harness := (true, "c56d4a8ae7ec6008a8265b6e0ea5862ae67e8c4f0af46f413a62844d806e75b0"), looks := false }, kinds := [], alts := [], laidByText := true, laidKinds := [.data, .pinned], laidTests := true, laidLooks := .later }
def PermBackCardSaid : Prop := Claim7.holds Tryd.pinned (.plain (OpenSpec.ofChange permBackSpec)) permBackCard

/-- THE TIED CARD OF 'custodiankeep.InstOne'. -/
def instOneCard : Claim7 := { stood := { row := instOneRow, standIns := [], harness := (true, "c56d4a8ae7ec6008a8265b6e0ea5862ae67e8c4f0af46f413a62844d806e75b0"), looks := false }, kinds := [], alts := [], laidByText := true, laidKinds := [.data, .data, .data, .listed, .data], laidTests := true, laidLooks := .later }
def InstOneCardSaid : Prop := Claim7.holds Tryd.pinned (.plain (OpenSpec.ofChange instOneSpec)) instOneCard

/-- THE SECOND FORM's CARD OF 'custodiankeep.InstJumps'. -/
def instJumpsUptoCard : Claim7 := { stood := { row := instJumpsUptoRow, standIns := [], harness := (true, "c56d4a8ae7ec6008a8265b6e0ea5862ae67e8c4f0af46f413a62844d806e75b0"), looks := false }, kinds := [], alts := [], laidByText := true, laidKinds := [.listed, .data], laidTests := true, laidLooks := .later }
def InstJumpsUptoCardSaid : Prop := Claim7.holds Tryd.pinned (.plain (OpenSpec.upto instJumpsSpec)) instJumpsUptoCard

/-- THE SECOND FORM's CARD OF 'custodiankeep.PermBack'. -/
def permBackUptoCard : Claim7 := { stood := { row := permBackUptoRow, standIns := [], harness := (true, "c56d4a8ae7ec6008a8265b6e0ea5862ae67e8c4f0af46f413a62844d806e75b0"), looks := false }, kinds := [], alts := [], laidByText := true, laidKinds := [.data, .pinned], laidTests := true, laidLooks := .later }
def PermBackUptoCardSaid : Prop := Claim7.holds Tryd.pinned (.plain (OpenSpec.upto permBackSpec)) permBackUptoCard

/-- THE SECOND FORM's CARD OF 'custodiankeep.InstOne'. -/
def instOneUptoCard : Claim7 := { stood := { row := instOneUptoRow, standIns := [], harness := (true, "c56d4a8ae7ec6008a8265b6e0ea5862ae67e8c4f0af46f413a62844d806e75b0"), looks := false }, kinds := [], alts := [], laidByText := true, laidKinds := [.data, .data, .data, .listed, .data], laidTests := true, laidLooks := .later }
def InstOneUptoCardSaid : Prop := Claim7.holds Tryd.pinned (.plain (OpenSpec.upto instOneSpec)) instOneUptoCard
end Rows
end Go.Proofs.YtkcnhagpjnhiiaaDoor
