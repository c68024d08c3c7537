/-
  DERIVED. GIVEN WITH THE SEED: THE CARDS: each row of YtpjhjefjbkjhkaaDoorRows.lean that lists a variable, with what it lists TIED to the program's text (the seventh form; the later family's looks); each row that meets fmt, with fmt's text TOLD by the authors' own Lean function (tested against real Go, not proved from fmt's source: count such statements apart). THE CARD IS WHAT COUNTS. Prove the row's statement (the work); the ties are given (YtpjhjefjbkjhkaaDoorTie.lean); close each card by the builder's one call (the guide's Derived/Test/ToyasCard.lean, 'card_holds'). Laid BY PROGRAM, IN A SANDBOX (cutbox-door.mjs). By AI agents, Wed Nov 11 2026. No macro, syntax, notation, axiom, sorry.
-/
import Derived.Test.YtpjhjefjbkjhkaaDoorRows
import GoSem.ClaimSeven
namespace Go.Proofs.YtpjhjefjbkjhkaaDoor
namespace Rows

/-- THE TIED CARD OF 'custodiankeep.PermBack'. -/
def permBackCard : Claim7 := { stood := { row := permBackRow, standIns := [], harness := (true, "3957d0e0764e79ecdb4e9b9f77724344a83ffde67c2ac0c15c1b0f22633cef81"), looks := false }, kinds := [], alts := [], laidByText := true, laidKinds := [.data, .pinned], laidTests := true, laidLooks := .later }
def PermBackCardSaid : Prop := Claim7.holds Tryd.pinned (.plain (OpenSpec.ofChange permBackSpec)) permBackCard

/-- THE SECOND FORM's CARD OF 'custodiankeep.PermBack'. -/
def permBackUptoCard : Claim7 := { stood := { row := permBackUptoRow, standIns := [], harness := (true, "3957d0e0764e79ecdb4e9b9f77724344a83ffde67c2ac0c15c1b0f22633cef81"), looks := false }, kinds := [], alts := [], laidByText := true, laidKinds := [.data, .pinned], laidTests := true, laidLooks := .later }
def PermBackUptoCardSaid : Prop := Claim7.holds Tryd.pinned (.plain (OpenSpec.upto permBackSpec)) permBackUptoCard
end Rows
end Go.Proofs.YtpjhjefjbkjhkaaDoor
