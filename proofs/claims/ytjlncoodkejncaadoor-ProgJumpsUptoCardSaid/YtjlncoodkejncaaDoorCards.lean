/-
  DERIVED. GIVEN WITH THE SEED: THE CARDS: each row of YtjlncoodkejncaaDoorRows.lean that lists a variable, with what it lists TIED to the program's text (the seventh form; the later family's looks); each row that meets fmt, with fmt's text TOLD by the authors' own Lean function (tested against real Go, not proved from fmt's source: count such statements apart). THE CARD IS WHAT COUNTS. Prove the row's statement (the work); the ties are given (YtjlncoodkejncaaDoorTie.lean); close each card by the builder's one call (the guide's Derived/Test/ToyasCard.lean, 'card_holds'). Laid BY PROGRAM, IN A SANDBOX (cutbox-door.mjs). By AI agents, Wed Nov 11 2026. No macro, syntax, notation, axiom, sorry.
-/
import Derived.Test.YtjlncoodkejncaaDoorRows
import GoSem.ClaimSeven
namespace Go.Proofs.YtjlncoodkejncaaDoor
namespace Rows

/-- THE TIED CARD OF 'custodiankeep.InstBack'. -/
def instBackCard : Claim7 := { stood := { row := instBackRow, standIns := [], harness := (true, "9978cf4b435fe29111fc1fb6d77ae8f8428e3a45a2c37499f21c4dfca8eb4928"), looks := true }, kinds := [], alts := [], laidByText := true, laidKinds := [.data, .data, .data, .data, .sentinel, .sentinel, .listed, .data, .pinned], laidTests := true, laidLooks := .later }
def InstBackCardSaid : Prop := Claim7.holds Tryd.pinned (.plain (OpenSpec.ofChange instBackSpec)) instBackCard

/-- THE TIED CARD OF 'custodiankeep.ProgJumps'. -/
def progJumpsCard : Claim7 := { stood := { row := progJumpsRow, standIns := [], harness := (true, "9978cf4b435fe29111fc1fb6d77ae8f8428e3a45a2c37499f21c4dfca8eb4928"), looks := true }, kinds := [], alts := [], laidByText := true, laidKinds := [.data, .data, .data, .data, .sentinel, .sentinel, .listed, .data, .pinned], laidTests := true, laidLooks := .later }
def ProgJumpsCardSaid : Prop := Claim7.holds Tryd.pinned (.plain (OpenSpec.ofChange progJumpsSpec)) progJumpsCard

/-- THE TIED CARD OF 'custodiankeep.ProgLines'. -/
def progLinesCard : Claim7 := { stood := { row := progLinesRow, standIns := [], harness := (true, "9978cf4b435fe29111fc1fb6d77ae8f8428e3a45a2c37499f21c4dfca8eb4928"), looks := true }, kinds := [], alts := [], laidByText := true, laidKinds := [.data, .data, .data, .data, .sentinel, .sentinel, .listed, .data, .pinned], laidTests := true, laidLooks := .later }
def ProgLinesCardSaid : Prop := Claim7.holds Tryd.pinned (.plain (OpenSpec.ofChange progLinesSpec)) progLinesCard

/-- THE TIED CARD OF 'custodiankeep.ProgBack'. -/
def progBackCard : Claim7 := { stood := { row := progBackRow, standIns := [], harness := (true, "9978cf4b435fe29111fc1fb6d77ae8f8428e3a45a2c37499f21c4dfca8eb4928"), looks := true }, kinds := [], alts := [], laidByText := true, laidKinds := [.data, .data, .data, .data, .sentinel, .sentinel, .listed, .data, .pinned], laidTests := true, laidLooks := .later }
def ProgBackCardSaid : Prop := Claim7.holds Tryd.pinned (.plain (OpenSpec.ofChange progBackSpec)) progBackCard

/-- THE TIED CARD OF 'custodiankeep.ProgJoins'. -/
def progJoinsCard : Claim7 := { stood := { row := progJoinsRow, standIns := [], harness := (true, "9978cf4b435fe29111fc1fb6d77ae8f8428e3a45a2c37499f21c4dfca8eb4928"), looks := true }, kinds := [], alts := [], laidByText := true, laidKinds := [.data, .data, .data, .data, .sentinel, .sentinel, .listed, .data, .pinned], laidTests := true, laidLooks := .later }
def ProgJoinsCardSaid : Prop := Claim7.holds Tryd.pinned (.plain (OpenSpec.ofChange progJoinsSpec)) progJoinsCard

/-- THE TIED CARD OF 'custodiankeep.ProgNumbers'. -/
def progNumbersCard : Claim7 := { stood := { row := progNumbersRow, standIns := [], harness := (true, "9978cf4b435fe29111fc1fb6d77ae8f8428e3a45a2c37499f21c4dfca8eb4928"), looks := true }, kinds := [], alts := [], laidByText := true, laidKinds := [.data, .data, .data, .data, .sentinel, .sentinel, .listed, .data, .pinned], laidTests := true, laidLooks := .later }
def ProgNumbersCardSaid : Prop := Claim7.holds Tryd.pinned (.plain (OpenSpec.ofChange progNumbersSpec)) progNumbersCard

/-- THE SECOND FORM's CARD OF 'custodiankeep.InstBack'. -/
def instBackUptoCard : Claim7 := { stood := { row := instBackUptoRow, standIns := [], harness := (true, "9978cf4b435fe29111fc1fb6d77ae8f8428e3a45a2c37499f21c4dfca8eb4928"), looks := true }, kinds := [], alts := [], laidByText := true, laidKinds := [.data, .data, .data, .data, .sentinel, .sentinel, .listed, .data, .pinned], laidTests := true, laidLooks := .later }
def InstBackUptoCardSaid : Prop := Claim7.holds Tryd.pinned (.plain (OpenSpec.upto instBackSpec)) instBackUptoCard

/-- THE SECOND FORM's CARD OF 'custodiankeep.ProgJumps'. -/
def progJumpsUptoCard : Claim7 := { stood := { row := progJumpsUptoRow, standIns := [], harness := (true, "9978cf4b435fe29111fc1fb6d77ae8f8428e3a45a2c37499f21c4dfca8eb4928"), looks := true }, kinds := [], alts := [], laidByText := true, laidKinds := [.data, .data, .data, .data, .sentinel, .sentinel, .listed, .data, .pinned], laidTests := true, laidLooks := .later }
def ProgJumpsUptoCardSaid : Prop := Claim7.holds Tryd.pinned (.plain (OpenSpec.upto progJumpsSpec)) progJumpsUptoCard

/-- THE SECOND FORM's CARD OF 'custodiankeep.ProgLines'. -/
def progLinesUptoCard : Claim7 := { stood := { row := progLinesUptoRow, standIns := [], harness := (true, "9978cf4b435fe29111fc1fb6d77ae8f8428e3a45a2c37499f21c4dfca8eb4928"), looks := true }, kinds := [], alts := [], laidByText := true, laidKinds := [.data, .data, .data, .data, .sentinel, .sentinel, .listed, .data, .pinned], laidTests := true, laidLooks := .later }
def ProgLinesUptoCardSaid : Prop := Claim7.holds Tryd.pinned (.plain (OpenSpec.upto progLinesSpec)) progLinesUptoCard

/-- THE SECOND FORM's CARD OF 'custodiankeep.ProgBack'. -/
def progBackUptoCard : Claim7 := { stood := { row := progBackUptoRow, standIns := [], harness := (true, "9978cf4b435fe29111fc1fb6d77ae8f8428e3a45a2c37499f21c4dfca8eb4928"), looks := true }, kinds := [], alts := [], laidByText := true, laidKinds := [.data, .data, .data, .data, .sentinel, .sentinel, .listed, .data, .pinned], laidTests := true, laidLooks := .later }
def ProgBackUptoCardSaid : Prop := Claim7.holds Tryd.pinned (.plain (OpenSpec.upto progBackSpec)) progBackUptoCard

/-- THE SECOND FORM's CARD OF 'custodiankeep.ProgJoins'. -/
def progJoinsUptoCard : Claim7 := { stood := { row := progJoinsUptoRow, standIns := [], harness := (true, "9978cf4b435fe29111fc1fb6d77ae8f8428e3a45a2c37499f21c4dfca8eb4928"), looks := true }, kinds := [], alts := [], laidByText := true, laidKinds := [.data, .data, .data, .data, .sentinel, .sentinel, .listed, .data, .pinned], laidTests := true, laidLooks := .later }
def ProgJoinsUptoCardSaid : Prop := Claim7.holds Tryd.pinned (.plain (OpenSpec.upto progJoinsSpec)) progJoinsUptoCard

/-- THE SECOND FORM's CARD OF 'custodiankeep.ProgNumbers'. -/
def progNumbersUptoCard : Claim7 := { stood := { row := progNumbersUptoRow, standIns := [], harness := (true, "9978cf4b435fe29111fc1fb6d77ae8f8428e3a45a2c37499f21c4dfca8eb4928"), looks := true }, kinds := [], alts := [], laidByText := true, laidKinds := [.data, .data, .data, .data, .sentinel, .sentinel, .listed, .data, .pinned], laidTests := true, laidLooks := .later }
def ProgNumbersUptoCardSaid : Prop := Claim7.holds Tryd.pinned (.plain (OpenSpec.upto progNumbersSpec)) progNumbersUptoCard
end Rows
end Go.Proofs.YtjlncoodkejncaaDoor
