/-
  No cell of these rows narrows 'for every input' (looked for: loops, veiled, ifaces, maps, wideKeys, modest, calm, conditions, laid).
  DERIVED. THE GIVEN ROWS OF THIS SEAT. 12 by the template 'for every input the law returns true; each argument reads behind the call as it read before'; 0 by the template 'total and deterministic' (their statements: YthadehaoafkaeaaTotals.lean).
  GIVEN WITH THE SEED: the statements are not yours to turn. If you find one false, say at which input.
  Laid BY PROGRAM, IN A SANDBOX (cutbox-rows.mjs): the forced cells as the released guide's own fill.sh prints them over the translation 4c5a2e2649afa90e… (all of the seat's roots in one cut). By AI agents, Wed Nov 11 2026. No macro, syntax, notation, axiom, sorry.
-/
import Derived.Test.YthadehaoafkaeaaChecked
import GoSem.Claim
import GoSem.ClaimJoined
import GoSem.ClaimMapViews
import Derived.JoinedTies
import Derived.KernelRfl
namespace Go.Proofs.Ythadehaoafkaeaa
/- THE CELL 'sum', in the pinned program and in every row, IS THE sha256 OF THE DUMP (.gsa) THAT YthadehaoafkaeaaProg.lean LOADS. Nothing in Lean hashes anything: it is a label: what it is worth is what the hold of that sum in a sandbox is worth. -/
noncomputable def Try.pinned : Pinned := { name := "ythadehaoafkaeaa", sum := "4c5a2e2649afa90e2725faaf15d3f539c1423578796d708a00285e8f14fa3fb5", checked := Try.checked }
namespace Rows
def none {H : Type} : Left H := { results := [], args := [] }

/-- 'custodiankeep.KeysCells': WHATEVER THE INPUT: true; the input reads as it did. -/
def keysCellsSpec : ChangeSpec := { name := "keysCells", fn := fun _ => fun
  | [d1, d2, d3] => { results := [.lit (.bool true)], args := [d1, d2, d3] }
  | _ => none }
def keysCellsRow : OpenClaim := { program := "ythadehaoafkaeaa", sum := "4c5a2e2649afa90e2725faaf15d3f539c1423578796d708a00285e8f14fa3fb5", func := "custodian/custodiankeep.KeysCells", spec := "keysCells", apart := false }
def KeysCellsSaid : Prop := keysCellsRow.holds Try.pinned (OpenSpec.ofChange keysCellsSpec)

/-- ITS FALSE NEIGHBOUR: 'it returns false'. Refute it at one input. -/
def keysCellsWrong : ChangeSpec := { name := "keysCells", fn := fun _ => fun
  | [d1, d2, d3] => { results := [.lit (.bool false)], args := [d1, d2, d3] }
  | _ => none }
def KeysCellsWrongFalsely : Prop := keysCellsRow.holds Try.pinned (OpenSpec.ofChange keysCellsWrong)

/-- 'custodiankeep.KeysDropped': WHATEVER THE INPUT: true; the input reads as it did. -/
def keysDroppedSpec : ChangeSpec := { name := "keysDropped", fn := fun _ => fun
  | [d1, d2, d3] => { results := [.lit (.bool true)], args := [d1, d2, d3] }
  | _ => none }
def keysDroppedRow : OpenClaim := { program := "ythadehaoafkaeaa", sum := "4c5a2e2649afa90e2725faaf15d3f539c1423578796d708a00285e8f14fa3fb5", func := "custodian/custodiankeep.KeysDropped", spec := "keysDropped", apart := false }
def KeysDroppedSaid : Prop := keysDroppedRow.holds Try.pinned (OpenSpec.ofChange keysDroppedSpec)

/-- ITS FALSE NEIGHBOUR: 'it returns false'. Refute it at one input. -/
def keysDroppedWrong : ChangeSpec := { name := "keysDropped", fn := fun _ => fun
  | [d1, d2, d3] => { results := [.lit (.bool false)], args := [d1, d2, d3] }
  | _ => none }
def KeysDroppedWrongFalsely : Prop := keysDroppedRow.holds Try.pinned (OpenSpec.ofChange keysDroppedWrong)

/-- 'custodiankeep.KeysMoved': WHATEVER THE INPUT: true; the input reads as it did. -/
def keysMovedSpec : ChangeSpec := { name := "keysMoved", fn := fun _ => fun
  | [d1, d2, d3] => { results := [.lit (.bool true)], args := [d1, d2, d3] }
  | _ => none }
def keysMovedRow : OpenClaim := { program := "ythadehaoafkaeaa", sum := "4c5a2e2649afa90e2725faaf15d3f539c1423578796d708a00285e8f14fa3fb5", func := "custodian/custodiankeep.KeysMoved", spec := "keysMoved", apart := false }
def KeysMovedSaid : Prop := keysMovedRow.holds Try.pinned (OpenSpec.ofChange keysMovedSpec)

/-- ITS FALSE NEIGHBOUR: 'it returns false'. Refute it at one input. -/
def keysMovedWrong : ChangeSpec := { name := "keysMoved", fn := fun _ => fun
  | [d1, d2, d3] => { results := [.lit (.bool false)], args := [d1, d2, d3] }
  | _ => none }
def KeysMovedWrongFalsely : Prop := keysMovedRow.holds Try.pinned (OpenSpec.ofChange keysMovedWrong)

/-- 'custodiankeep.RoundBack': WHATEVER THE INPUT: true; the input reads as it did. -/
def roundBackSpec : ChangeSpec := { name := "roundBack", fn := fun _ => fun
  | [d1, d2, d3] => { results := [.lit (.bool true)], args := [d1, d2, d3] }
  | _ => none }
def roundBackRow : OpenClaim := { program := "ythadehaoafkaeaa", sum := "4c5a2e2649afa90e2725faaf15d3f539c1423578796d708a00285e8f14fa3fb5", func := "custodian/custodiankeep.RoundBack", spec := "roundBack", apart := false }
def RoundBackSaid : Prop := roundBackRow.holds Try.pinned (OpenSpec.ofChange roundBackSpec)

/-- ITS FALSE NEIGHBOUR: 'it returns false'. Refute it at one input. -/
def roundBackWrong : ChangeSpec := { name := "roundBack", fn := fun _ => fun
  | [d1, d2, d3] => { results := [.lit (.bool false)], args := [d1, d2, d3] }
  | _ => none }
def RoundBackWrongFalsely : Prop := roundBackRow.holds Try.pinned (OpenSpec.ofChange roundBackWrong)

/-- 'custodiankeep.CellOne': WHATEVER THE INPUT: true; the input reads as it did. -/
def cellOneSpec : ChangeSpec := { name := "cellOne", fn := fun _ => fun
  | [d1, d2] => { results := [.lit (.bool true)], args := [d1, d2] }
  | _ => none }
def cellOneRow : OpenClaim := { program := "ythadehaoafkaeaa", sum := "4c5a2e2649afa90e2725faaf15d3f539c1423578796d708a00285e8f14fa3fb5", func := "custodian/custodiankeep.CellOne", spec := "cellOne", apart := false }
def CellOneSaid : Prop := cellOneRow.holds Try.pinned (OpenSpec.ofChange cellOneSpec)

/-- ITS FALSE NEIGHBOUR: 'it returns false'. Refute it at one input. -/
def cellOneWrong : ChangeSpec := { name := "cellOne", fn := fun _ => fun
  | [d1, d2] => { results := [.lit (.bool false)], args := [d1, d2] }
  | _ => none }
def CellOneWrongFalsely : Prop := cellOneRow.holds Try.pinned (OpenSpec.ofChange cellOneWrong)

/-- 'custodiankeep.CellTurned': WHATEVER THE INPUT: true; the input reads as it did. -/
def cellTurnedSpec : ChangeSpec := { name := "cellTurned", fn := fun _ => fun
  | [d1, d2, d3] => { results := [.lit (.bool true)], args := [d1, d2, d3] }
  | _ => none }
def cellTurnedRow : OpenClaim := { program := "ythadehaoafkaeaa", sum := "4c5a2e2649afa90e2725faaf15d3f539c1423578796d708a00285e8f14fa3fb5", func := "custodian/custodiankeep.CellTurned", spec := "cellTurned", apart := false }
def CellTurnedSaid : Prop := cellTurnedRow.holds Try.pinned (OpenSpec.ofChange cellTurnedSpec)

/-- ITS FALSE NEIGHBOUR: 'it returns false'. Refute it at one input. -/
def cellTurnedWrong : ChangeSpec := { name := "cellTurned", fn := fun _ => fun
  | [d1, d2, d3] => { results := [.lit (.bool false)], args := [d1, d2, d3] }
  | _ => none }
def CellTurnedWrongFalsely : Prop := cellTurnedRow.holds Try.pinned (OpenSpec.ofChange cellTurnedWrong)

/-- 'custodiankeep.CellBack': WHATEVER THE INPUT: true; the input reads as it did. -/
def cellBackSpec : ChangeSpec := { name := "cellBack", fn := fun _ => fun
  | [d1, d2] => { results := [.lit (.bool true)], args := [d1, d2] }
  | _ => none }
def cellBackRow : OpenClaim := { program := "ythadehaoafkaeaa", sum := "4c5a2e2649afa90e2725faaf15d3f539c1423578796d708a00285e8f14fa3fb5", func := "custodian/custodiankeep.CellBack", spec := "cellBack", apart := false }
def CellBackSaid : Prop := cellBackRow.holds Try.pinned (OpenSpec.ofChange cellBackSpec)

/-- ITS FALSE NEIGHBOUR: 'it returns false'. Refute it at one input. -/
def cellBackWrong : ChangeSpec := { name := "cellBack", fn := fun _ => fun
  | [d1, d2] => { results := [.lit (.bool false)], args := [d1, d2] }
  | _ => none }
def CellBackWrongFalsely : Prop := cellBackRow.holds Try.pinned (OpenSpec.ofChange cellBackWrong)

/-- 'custodiankeep.KeysBack': WHATEVER THE INPUT: true; the input reads as it did. -/
def keysBackSpec : ChangeSpec := { name := "keysBack", fn := fun _ => fun
  | [d1, d2, d3] => { results := [.lit (.bool true)], args := [d1, d2, d3] }
  | _ => none }
def keysBackRow : OpenClaim := { program := "ythadehaoafkaeaa", sum := "4c5a2e2649afa90e2725faaf15d3f539c1423578796d708a00285e8f14fa3fb5", func := "custodian/custodiankeep.KeysBack", spec := "keysBack", apart := false }
def KeysBackSaid : Prop := keysBackRow.holds Try.pinned (OpenSpec.ofChange keysBackSpec)

/-- ITS FALSE NEIGHBOUR: 'it returns false'. Refute it at one input. -/
def keysBackWrong : ChangeSpec := { name := "keysBack", fn := fun _ => fun
  | [d1, d2, d3] => { results := [.lit (.bool false)], args := [d1, d2, d3] }
  | _ => none }
def KeysBackWrongFalsely : Prop := keysBackRow.holds Try.pinned (OpenSpec.ofChange keysBackWrong)

/-- 'custodiankeep.MemNarrow': WHATEVER THE INPUT: true; the input reads as it did. -/
def memNarrowSpec : ChangeSpec := { name := "memNarrow", fn := fun _ => fun
  | [d1, d2, d3, d4, d5] => { results := [.lit (.bool true)], args := [d1, d2, d3, d4, d5] }
  | _ => none }
def memNarrowRow : OpenClaim := { program := "ythadehaoafkaeaa", sum := "4c5a2e2649afa90e2725faaf15d3f539c1423578796d708a00285e8f14fa3fb5", func := "custodian/custodiankeep.MemNarrow", spec := "memNarrow", apart := false }
def MemNarrowSaid : Prop := memNarrowRow.holds Try.pinned (OpenSpec.ofChange memNarrowSpec)

/-- ITS FALSE NEIGHBOUR: 'it returns false'. Refute it at one input. -/
def memNarrowWrong : ChangeSpec := { name := "memNarrow", fn := fun _ => fun
  | [d1, d2, d3, d4, d5] => { results := [.lit (.bool false)], args := [d1, d2, d3, d4, d5] }
  | _ => none }
def MemNarrowWrongFalsely : Prop := memNarrowRow.holds Try.pinned (OpenSpec.ofChange memNarrowWrong)

/-- 'custodiankeep.MemLast': WHATEVER THE INPUT: true; the input reads as it did. -/
def memLastSpec : ChangeSpec := { name := "memLast", fn := fun _ => fun
  | [d1, d2, d3, d4] => { results := [.lit (.bool true)], args := [d1, d2, d3, d4] }
  | _ => none }
def memLastRow : OpenClaim := { program := "ythadehaoafkaeaa", sum := "4c5a2e2649afa90e2725faaf15d3f539c1423578796d708a00285e8f14fa3fb5", func := "custodian/custodiankeep.MemLast", spec := "memLast", apart := false }
def MemLastSaid : Prop := memLastRow.holds Try.pinned (OpenSpec.ofChange memLastSpec)

/-- ITS FALSE NEIGHBOUR: 'it returns false'. Refute it at one input. -/
def memLastWrong : ChangeSpec := { name := "memLast", fn := fun _ => fun
  | [d1, d2, d3, d4] => { results := [.lit (.bool false)], args := [d1, d2, d3, d4] }
  | _ => none }
def MemLastWrongFalsely : Prop := memLastRow.holds Try.pinned (OpenSpec.ofChange memLastWrong)

/-- 'custodiankeep.MemKeys': WHATEVER THE INPUT: true; the input reads as it did. -/
def memKeysSpec : ChangeSpec := { name := "memKeys", fn := fun _ => fun
  | [d1, d2, d3, d4] => { results := [.lit (.bool true)], args := [d1, d2, d3, d4] }
  | _ => none }
def memKeysRow : OpenClaim := { program := "ythadehaoafkaeaa", sum := "4c5a2e2649afa90e2725faaf15d3f539c1423578796d708a00285e8f14fa3fb5", func := "custodian/custodiankeep.MemKeys", spec := "memKeys", apart := false }
def MemKeysSaid : Prop := memKeysRow.holds Try.pinned (OpenSpec.ofChange memKeysSpec)

/-- ITS FALSE NEIGHBOUR: 'it returns false'. Refute it at one input. -/
def memKeysWrong : ChangeSpec := { name := "memKeys", fn := fun _ => fun
  | [d1, d2, d3, d4] => { results := [.lit (.bool false)], args := [d1, d2, d3, d4] }
  | _ => none }
def MemKeysWrongFalsely : Prop := memKeysRow.holds Try.pinned (OpenSpec.ofChange memKeysWrong)

/-- 'custodiankeep.MemBounds': WHATEVER THE INPUT: true; the input reads as it did. -/
def memBoundsSpec : ChangeSpec := { name := "memBounds", fn := fun _ => fun
  | [d1, d2, d3, d4] => { results := [.lit (.bool true)], args := [d1, d2, d3, d4] }
  | _ => none }
def memBoundsRow : OpenClaim := { program := "ythadehaoafkaeaa", sum := "4c5a2e2649afa90e2725faaf15d3f539c1423578796d708a00285e8f14fa3fb5", func := "custodian/custodiankeep.MemBounds", spec := "memBounds", apart := false }
def MemBoundsSaid : Prop := memBoundsRow.holds Try.pinned (OpenSpec.ofChange memBoundsSpec)

/-- ITS FALSE NEIGHBOUR: 'it returns false'. Refute it at one input. -/
def memBoundsWrong : ChangeSpec := { name := "memBounds", fn := fun _ => fun
  | [d1, d2, d3, d4] => { results := [.lit (.bool false)], args := [d1, d2, d3, d4] }
  | _ => none }
def MemBoundsWrongFalsely : Prop := memBoundsRow.holds Try.pinned (OpenSpec.ofChange memBoundsWrong)

/- THE SECOND FORM. 'bulk': how many values and letters a reading holds, each counted each time it is reached (what is shared counts as often as it is met; a slice's spare places count too). A statement '..UptoSaid' is the law's where the arguments, and the package variables that the reading takes, are together of bulk at most 1048576: NARROWER than '..Said'. Prove '..Said' where nothing that the law and all that it calls make is longer than what came in: it says more and counts as full. Else prove '..UptoSaid'. A law counts once. -/
mutual
def uptoBulk {H : Type} : DataW H → Nat
  | .lit (.string bytes) => bytes.length + 1
  | .lit _ => 1
  | .nil => 1
  | .ptr d => uptoBulk d + 1
  | .slice elems spare => uptoBulkAll elems + uptoBulkAll spare + 1
  | .agg parts => uptoBulkAll parts + 1
  | .iface _ d => uptoBulk d + 1
  | .map entries => uptoBulkEntries entries + 1
  | .held _ => 1
def uptoBulkAll {H : Type} : List (DataW H) → Nat
  | [] => 0
  | d :: r => uptoBulk d + uptoBulkAll r
def uptoBulkEntries {H : Type} : List (Lit × DataW H) → Nat
  | [] => 0
  | x :: r => uptoBulkEntry x + uptoBulkEntries r
def uptoBulkEntry {H : Type} : Lit × DataW H → Nat
  | (.string bytes, d) => bytes.length + uptoBulk d + 1
  | (_, d) => uptoBulk d + 1
 end
def uptoSmall : (H : Type) → List (DataW H) → Bool := fun _ ds => decide (uptoBulkAll ds ≤ 1048576)
def OpenSpec.upto (s : _root_.Go.ChangeSpec) : _root_.Go.OpenSpec := { _root_.Go.OpenSpec.ofChange s with cond := some uptoSmall }

/-- 'custodiankeep.KeysCells', WHERE WHAT IT READS IS OF BULK AT MOST 1048576: true; the input reads as it did. -/
def keysCellsUptoRow : OpenClaim := { program := "ythadehaoafkaeaa", sum := "4c5a2e2649afa90e2725faaf15d3f539c1423578796d708a00285e8f14fa3fb5", func := "custodian/custodiankeep.KeysCells", spec := "keysCells", apart := false, narrowed := true }
def KeysCellsUptoSaid : Prop := keysCellsUptoRow.holds Try.pinned (OpenSpec.upto keysCellsSpec)

/-- 'custodiankeep.KeysDropped', WHERE WHAT IT READS IS OF BULK AT MOST 1048576: true; the input reads as it did. -/
def keysDroppedUptoRow : OpenClaim := { program := "ythadehaoafkaeaa", sum := "4c5a2e2649afa90e2725faaf15d3f539c1423578796d708a00285e8f14fa3fb5", func := "custodian/custodiankeep.KeysDropped", spec := "keysDropped", apart := false, narrowed := true }
def KeysDroppedUptoSaid : Prop := keysDroppedUptoRow.holds Try.pinned (OpenSpec.upto keysDroppedSpec)

/-- 'custodiankeep.KeysMoved', WHERE WHAT IT READS IS OF BULK AT MOST 1048576: true; the input reads as it did. -/
def keysMovedUptoRow : OpenClaim := { program := "ythadehaoafkaeaa", sum := "4c5a2e2649afa90e2725faaf15d3f539c1423578796d708a00285e8f14fa3fb5", func := "custodian/custodiankeep.KeysMoved", spec := "keysMoved", apart := false, narrowed := true }
def KeysMovedUptoSaid : Prop := keysMovedUptoRow.holds Try.pinned (OpenSpec.upto keysMovedSpec)

/-- 'custodiankeep.RoundBack', WHERE WHAT IT READS IS OF BULK AT MOST 1048576: true; the input reads as it did. -/
def roundBackUptoRow : OpenClaim := { program := "ythadehaoafkaeaa", sum := "4c5a2e2649afa90e2725faaf15d3f539c1423578796d708a00285e8f14fa3fb5", func := "custodian/custodiankeep.RoundBack", spec := "roundBack", apart := false, narrowed := true }
def RoundBackUptoSaid : Prop := roundBackUptoRow.holds Try.pinned (OpenSpec.upto roundBackSpec)

/-- 'custodiankeep.CellOne', WHERE WHAT IT READS IS OF BULK AT MOST 1048576: true; the input reads as it did. -/
def cellOneUptoRow : OpenClaim := { program := "ythadehaoafkaeaa", sum := "4c5a2e2649afa90e2725faaf15d3f539c1423578796d708a00285e8f14fa3fb5", func := "custodian/custodiankeep.CellOne", spec := "cellOne", apart := false, narrowed := true }
def CellOneUptoSaid : Prop := cellOneUptoRow.holds Try.pinned (OpenSpec.upto cellOneSpec)

/-- 'custodiankeep.CellTurned', WHERE WHAT IT READS IS OF BULK AT MOST 1048576: true; the input reads as it did. -/
def cellTurnedUptoRow : OpenClaim := { program := "ythadehaoafkaeaa", sum := "4c5a2e2649afa90e2725faaf15d3f539c1423578796d708a00285e8f14fa3fb5", func := "custodian/custodiankeep.CellTurned", spec := "cellTurned", apart := false, narrowed := true }
def CellTurnedUptoSaid : Prop := cellTurnedUptoRow.holds Try.pinned (OpenSpec.upto cellTurnedSpec)

/-- 'custodiankeep.CellBack', WHERE WHAT IT READS IS OF BULK AT MOST 1048576: true; the input reads as it did. -/
def cellBackUptoRow : OpenClaim := { program := "ythadehaoafkaeaa", sum := "4c5a2e2649afa90e2725faaf15d3f539c1423578796d708a00285e8f14fa3fb5", func := "custodian/custodiankeep.CellBack", spec := "cellBack", apart := false, narrowed := true }
def CellBackUptoSaid : Prop := cellBackUptoRow.holds Try.pinned (OpenSpec.upto cellBackSpec)

/-- 'custodiankeep.KeysBack', WHERE WHAT IT READS IS OF BULK AT MOST 1048576: true; the input reads as it did. -/
def keysBackUptoRow : OpenClaim := { program := "ythadehaoafkaeaa", sum := "4c5a2e2649afa90e2725faaf15d3f539c1423578796d708a00285e8f14fa3fb5", func := "custodian/custodiankeep.KeysBack", spec := "keysBack", apart := false, narrowed := true }
def KeysBackUptoSaid : Prop := keysBackUptoRow.holds Try.pinned (OpenSpec.upto keysBackSpec)

/-- 'custodiankeep.MemNarrow', WHERE WHAT IT READS IS OF BULK AT MOST 1048576: true; the input reads as it did. -/
def memNarrowUptoRow : OpenClaim := { program := "ythadehaoafkaeaa", sum := "4c5a2e2649afa90e2725faaf15d3f539c1423578796d708a00285e8f14fa3fb5", func := "custodian/custodiankeep.MemNarrow", spec := "memNarrow", apart := false, narrowed := true }
def MemNarrowUptoSaid : Prop := memNarrowUptoRow.holds Try.pinned (OpenSpec.upto memNarrowSpec)

/-- 'custodiankeep.MemLast', WHERE WHAT IT READS IS OF BULK AT MOST 1048576: true; the input reads as it did. -/
def memLastUptoRow : OpenClaim := { program := "ythadehaoafkaeaa", sum := "4c5a2e2649afa90e2725faaf15d3f539c1423578796d708a00285e8f14fa3fb5", func := "custodian/custodiankeep.MemLast", spec := "memLast", apart := false, narrowed := true }
def MemLastUptoSaid : Prop := memLastUptoRow.holds Try.pinned (OpenSpec.upto memLastSpec)

/-- 'custodiankeep.MemKeys', WHERE WHAT IT READS IS OF BULK AT MOST 1048576: true; the input reads as it did. -/
def memKeysUptoRow : OpenClaim := { program := "ythadehaoafkaeaa", sum := "4c5a2e2649afa90e2725faaf15d3f539c1423578796d708a00285e8f14fa3fb5", func := "custodian/custodiankeep.MemKeys", spec := "memKeys", apart := false, narrowed := true }
def MemKeysUptoSaid : Prop := memKeysUptoRow.holds Try.pinned (OpenSpec.upto memKeysSpec)

/-- 'custodiankeep.MemBounds', WHERE WHAT IT READS IS OF BULK AT MOST 1048576: true; the input reads as it did. -/
def memBoundsUptoRow : OpenClaim := { program := "ythadehaoafkaeaa", sum := "4c5a2e2649afa90e2725faaf15d3f539c1423578796d708a00285e8f14fa3fb5", func := "custodian/custodiankeep.MemBounds", spec := "memBounds", apart := false, narrowed := true }
def MemBoundsUptoSaid : Prop := memBoundsUptoRow.holds Try.pinned (OpenSpec.upto memBoundsSpec)

end Rows
end Go.Proofs.Ythadehaoafkaeaa
