/-
  No cell of these rows narrows 'for every input' (looked for: loops, veiled, ifaces, maps, wideKeys, modest, calm, conditions, laid).
  DERIVED. THE GIVEN ROWS OF THIS SEAT. 8 by the template 'for every input the law returns true; each argument reads behind the call as it read before'; 0 by the template 'total and deterministic' (their statements: YtmmmmeeepieemaaTotals.lean).
  GIVEN WITH THE SEED: the statements are not yours to turn. If you find one false, say at which input.
  Laid BY PROGRAM, IN A SANDBOX (cutbox-rows.mjs): the forced cells as the released guide's own fill.sh prints them over the translation 850770ede964dca7… (all of the seat's roots in one cut). By AI agents, Wed Nov 11 2026. No macro, syntax, notation, axiom, sorry.
-/
import Derived.Test.YtmmmmeeepieemaaChecked
import GoSem.Claim
import GoSem.ClaimJoined
import GoSem.ClaimMapViews
import Derived.JoinedTies
import Derived.KernelRfl
namespace Go.Proofs.Ytmmmmeeepieemaa
/- THE CELL 'sum', in the pinned program and in every row, IS THE sha256 OF THE DUMP (.gsa) THAT YtmmmmeeepieemaaProg.lean LOADS. Nothing in Lean hashes anything: it is a label: what it is worth is what the hold of that sum in a sandbox is worth. -/
noncomputable def Try.pinned : Pinned := { name := "ytmmmmeeepieemaa", sum := "850770ede964dca74e45c2c6c5e0dc57e804ba0e24af8deee0f4d408cedf36a3", checked := Try.checked }
namespace Rows
def none {H : Type} : Left H := { results := [], args := [] }

/-- 'custodiankeep.LinkWhole': WHATEVER THE INPUT: true; the input reads as it did. -/
def linkWholeSpec : ChangeSpec := { name := "linkWhole", fn := fun _ => fun
  | [d] => { results := [.lit (.bool true)], args := [d] }
  | _ => none }
def linkWholeRow : OpenClaim := { program := "ytmmmmeeepieemaa", sum := "850770ede964dca74e45c2c6c5e0dc57e804ba0e24af8deee0f4d408cedf36a3", func := "custodian/custodiankeep.LinkWhole", spec := "linkWhole", unfollowed := true, recurses := true, plainKeys := false, apart := false }
def LinkWholeSaid : Prop := linkWholeRow.holds Try.pinned (OpenSpec.ofChange linkWholeSpec)

/-- ITS FALSE NEIGHBOUR: 'it returns false'. Refute it at one input. -/
def linkWholeWrong : ChangeSpec := { name := "linkWhole", fn := fun _ => fun
  | [d] => { results := [.lit (.bool false)], args := [d] }
  | _ => none }
def LinkWholeWrongFalsely : Prop := linkWholeRow.holds Try.pinned (OpenSpec.ofChange linkWholeWrong)

/-- 'custodiankeep.LinkFront': WHATEVER THE INPUT: true; the input reads as it did. -/
def linkFrontSpec : ChangeSpec := { name := "linkFront", fn := fun _ => fun
  | [d1, d2] => { results := [.lit (.bool true)], args := [d1, d2] }
  | _ => none }
def linkFrontRow : OpenClaim := { program := "ytmmmmeeepieemaa", sum := "850770ede964dca74e45c2c6c5e0dc57e804ba0e24af8deee0f4d408cedf36a3", func := "custodian/custodiankeep.LinkFront", spec := "linkFront", unfollowed := true, recurses := true, plainKeys := false, apart := false }
def LinkFrontSaid : Prop := linkFrontRow.holds Try.pinned (OpenSpec.ofChange linkFrontSpec)

/-- ITS FALSE NEIGHBOUR: 'it returns false'. Refute it at one input. -/
def linkFrontWrong : ChangeSpec := { name := "linkFront", fn := fun _ => fun
  | [d1, d2] => { results := [.lit (.bool false)], args := [d1, d2] }
  | _ => none }
def LinkFrontWrongFalsely : Prop := linkFrontRow.holds Try.pinned (OpenSpec.ofChange linkFrontWrong)

/-- 'custodiankeep.LinkFits': WHATEVER THE INPUT: true; the input reads as it did. -/
def linkFitsSpec : ChangeSpec := { name := "linkFits", fn := fun _ => fun
  | [d1, d2] => { results := [.lit (.bool true)], args := [d1, d2] }
  | _ => none }
def linkFitsRow : OpenClaim := { program := "ytmmmmeeepieemaa", sum := "850770ede964dca74e45c2c6c5e0dc57e804ba0e24af8deee0f4d408cedf36a3", func := "custodian/custodiankeep.LinkFits", spec := "linkFits", unfollowed := true, recurses := true, plainKeys := false, apart := false }
def LinkFitsSaid : Prop := linkFitsRow.holds Try.pinned (OpenSpec.ofChange linkFitsSpec)

/-- ITS FALSE NEIGHBOUR: 'it returns false'. Refute it at one input. -/
def linkFitsWrong : ChangeSpec := { name := "linkFits", fn := fun _ => fun
  | [d1, d2] => { results := [.lit (.bool false)], args := [d1, d2] }
  | _ => none }
def LinkFitsWrongFalsely : Prop := linkFitsRow.holds Try.pinned (OpenSpec.ofChange linkFitsWrong)

/-- 'custodiankeep.LinkOwns': WHATEVER THE INPUT: true; the input reads as it did. -/
def linkOwnsSpec : ChangeSpec := { name := "linkOwns", fn := fun _ => fun
  | [d1, d2] => { results := [.lit (.bool true)], args := [d1, d2] }
  | _ => none }
def linkOwnsRow : OpenClaim := { program := "ytmmmmeeepieemaa", sum := "850770ede964dca74e45c2c6c5e0dc57e804ba0e24af8deee0f4d408cedf36a3", func := "custodian/custodiankeep.LinkOwns", spec := "linkOwns", unfollowed := true, recurses := true, plainKeys := false, apart := false }
def LinkOwnsSaid : Prop := linkOwnsRow.holds Try.pinned (OpenSpec.ofChange linkOwnsSpec)

/-- ITS FALSE NEIGHBOUR: 'it returns false'. Refute it at one input. -/
def linkOwnsWrong : ChangeSpec := { name := "linkOwns", fn := fun _ => fun
  | [d1, d2] => { results := [.lit (.bool false)], args := [d1, d2] }
  | _ => none }
def LinkOwnsWrongFalsely : Prop := linkOwnsRow.holds Try.pinned (OpenSpec.ofChange linkOwnsWrong)

/-- 'custodiankeep.LinkApart': WHATEVER THE INPUT: true; the input reads as it did. -/
def linkApartSpec : ChangeSpec := { name := "linkApart", fn := fun _ => fun
  | [d] => { results := [.lit (.bool true)], args := [d] }
  | _ => none }
def linkApartRow : OpenClaim := { program := "ytmmmmeeepieemaa", sum := "850770ede964dca74e45c2c6c5e0dc57e804ba0e24af8deee0f4d408cedf36a3", func := "custodian/custodiankeep.LinkApart", spec := "linkApart", unfollowed := true, recurses := true, plainKeys := false, apart := false }
def LinkApartSaid : Prop := linkApartRow.holds Try.pinned (OpenSpec.ofChange linkApartSpec)

/-- ITS FALSE NEIGHBOUR: 'it returns false'. Refute it at one input. -/
def linkApartWrong : ChangeSpec := { name := "linkApart", fn := fun _ => fun
  | [d] => { results := [.lit (.bool false)], args := [d] }
  | _ => none }
def LinkApartWrongFalsely : Prop := linkApartRow.holds Try.pinned (OpenSpec.ofChange linkApartWrong)

/-- 'custodiankeep.EnterArgs': WHATEVER THE INPUT: true; the input reads as it did. -/
def enterArgsSpec : ChangeSpec := { name := "enterArgs", fn := fun _ => fun
  | [d1, d2, d3] => { results := [.lit (.bool true)], args := [d1, d2, d3] }
  | _ => none }
def enterArgsRow : OpenClaim := { program := "ytmmmmeeepieemaa", sum := "850770ede964dca74e45c2c6c5e0dc57e804ba0e24af8deee0f4d408cedf36a3", func := "custodian/custodiankeep.EnterArgs", spec := "enterArgs", unfollowed := true, recurses := true, plainKeys := false, apart := false }
def EnterArgsSaid : Prop := enterArgsRow.holds Try.pinned (OpenSpec.ofChange enterArgsSpec)

/-- ITS FALSE NEIGHBOUR: 'it returns false'. Refute it at one input. -/
def enterArgsWrong : ChangeSpec := { name := "enterArgs", fn := fun _ => fun
  | [d1, d2, d3] => { results := [.lit (.bool false)], args := [d1, d2, d3] }
  | _ => none }
def EnterArgsWrongFalsely : Prop := enterArgsRow.holds Try.pinned (OpenSpec.ofChange enterArgsWrong)

/-- 'custodiankeep.EnterOwn': WHATEVER THE INPUT: true; the input reads as it did. -/
def enterOwnSpec : ChangeSpec := { name := "enterOwn", fn := fun _ => fun
  | [d1, d2, d3] => { results := [.lit (.bool true)], args := [d1, d2, d3] }
  | _ => none }
def enterOwnRow : OpenClaim := { program := "ytmmmmeeepieemaa", sum := "850770ede964dca74e45c2c6c5e0dc57e804ba0e24af8deee0f4d408cedf36a3", func := "custodian/custodiankeep.EnterOwn", spec := "enterOwn", unfollowed := true, recurses := true, plainKeys := false, apart := false }
def EnterOwnSaid : Prop := enterOwnRow.holds Try.pinned (OpenSpec.ofChange enterOwnSpec)

/-- ITS FALSE NEIGHBOUR: 'it returns false'. Refute it at one input. -/
def enterOwnWrong : ChangeSpec := { name := "enterOwn", fn := fun _ => fun
  | [d1, d2, d3] => { results := [.lit (.bool false)], args := [d1, d2, d3] }
  | _ => none }
def EnterOwnWrongFalsely : Prop := enterOwnRow.holds Try.pinned (OpenSpec.ofChange enterOwnWrong)

/-- 'custodiankeep.HeapSafe': WHATEVER THE INPUT: true; the input reads as it did. -/
def heapSafeSpec : ChangeSpec := { name := "heapSafe", fn := fun _ => fun
  | [d1, d2, d3] => { results := [.lit (.bool true)], args := [d1, d2, d3] }
  | _ => none }
def heapSafeRow : OpenClaim := { program := "ytmmmmeeepieemaa", sum := "850770ede964dca74e45c2c6c5e0dc57e804ba0e24af8deee0f4d408cedf36a3", func := "custodian/custodiankeep.HeapSafe", spec := "heapSafe", inPlace := ["slices.overlaps[custodian/api.Piece]"], unfollowed := true, recurses := true, plainKeys := false, apart := false }
def HeapSafeSaid : Prop := heapSafeRow.holds Try.pinned (OpenSpec.ofChange heapSafeSpec)

/-- ITS FALSE NEIGHBOUR: 'it returns false'. Refute it at one input. -/
def heapSafeWrong : ChangeSpec := { name := "heapSafe", fn := fun _ => fun
  | [d1, d2, d3] => { results := [.lit (.bool false)], args := [d1, d2, d3] }
  | _ => none }
def HeapSafeWrongFalsely : Prop := heapSafeRow.holds Try.pinned (OpenSpec.ofChange heapSafeWrong)

/- THE SECOND FORM. 'bulk': how many values and letters a reading holds, each counted each time it is reached (what is shared counts as often as it is met; a slice's spare places count too). A statement '..UptoSaid' is the law's where the arguments, and the package variables that the reading takes, are together of bulk at most 1048576: NARROWER than '..Said'. Prove '..Said' where nothing that the law and all that it calls make is longer than what came in: it says more and counts as full. Else prove '..UptoSaid'. A law counts once. -/
mutual
def uptoBulk {H : Type} : DataW H → Nat
  | .lit (.string bytes) => bytes.length + 1
  | .lit _ => 1
  | .nil => 1
  | .ptr d => uptoBulk d + 1
  | .slice elems spare => uptoBulkAll elems + uptoBulkAll spare + 1
  | .agg parts => uptoBulkAll parts + 1
  | .iface _ d => uptoBulk d + 1
  | .map entries => uptoBulkEntries entries + 1
  | .held _ => 1
def uptoBulkAll {H : Type} : List (DataW H) → Nat
  | [] => 0
  | d :: r => uptoBulk d + uptoBulkAll r
def uptoBulkEntries {H : Type} : List (Lit × DataW H) → Nat
  | [] => 0
  | x :: r => uptoBulkEntry x + uptoBulkEntries r
def uptoBulkEntry {H : Type} : Lit × DataW H → Nat
  | (.string bytes, d) => bytes.length + uptoBulk d + 1
  | (_, d) => uptoBulk d + 1
 end
def uptoSmall : (H : Type) → List (DataW H) → Bool := fun _ ds => decide (uptoBulkAll ds ≤ 1048576)
def OpenSpec.upto (s : _root_.Go.ChangeSpec) : _root_.Go.OpenSpec := { _root_.Go.OpenSpec.ofChange s with cond := some uptoSmall }

/-- 'custodiankeep.LinkWhole', WHERE WHAT IT READS IS OF BULK AT MOST 1048576: true; the input reads as it did. -/
def linkWholeUptoRow : OpenClaim := { program := "ytmmmmeeepieemaa", sum := "850770ede964dca74e45c2c6c5e0dc57e804ba0e24af8deee0f4d408cedf36a3", func := "custodian/custodiankeep.LinkWhole", spec := "linkWhole", unfollowed := true, recurses := true, plainKeys := false, apart := false, narrowed := true }
def LinkWholeUptoSaid : Prop := linkWholeUptoRow.holds Try.pinned (OpenSpec.upto linkWholeSpec)

/-- 'custodiankeep.LinkFront', WHERE WHAT IT READS IS OF BULK AT MOST 1048576: true; the input reads as it did. -/
def linkFrontUptoRow : OpenClaim := { program := "ytmmmmeeepieemaa", sum := "850770ede964dca74e45c2c6c5e0dc57e804ba0e24af8deee0f4d408cedf36a3", func := "custodian/custodiankeep.LinkFront", spec := "linkFront", unfollowed := true, recurses := true, plainKeys := false, apart := false, narrowed := true }
def LinkFrontUptoSaid : Prop := linkFrontUptoRow.holds Try.pinned (OpenSpec.upto linkFrontSpec)

/-- 'custodiankeep.LinkFits', WHERE WHAT IT READS IS OF BULK AT MOST 1048576: true; the input reads as it did. -/
def linkFitsUptoRow : OpenClaim := { program := "ytmmmmeeepieemaa", sum := "850770ede964dca74e45c2c6c5e0dc57e804ba0e24af8deee0f4d408cedf36a3", func := "custodian/custodiankeep.LinkFits", spec := "linkFits", unfollowed := true, recurses := true, plainKeys := false, apart := false, narrowed := true }
def LinkFitsUptoSaid : Prop := linkFitsUptoRow.holds Try.pinned (OpenSpec.upto linkFitsSpec)

/-- 'custodiankeep.LinkOwns', WHERE WHAT IT READS IS OF BULK AT MOST 1048576: true; the input reads as it did. -/
def linkOwnsUptoRow : OpenClaim := { program := "ytmmmmeeepieemaa", sum := "850770ede964dca74e45c2c6c5e0dc57e804ba0e24af8deee0f4d408cedf36a3", func := "custodian/custodiankeep.LinkOwns", spec := "linkOwns", unfollowed := true, recurses := true, plainKeys := false, apart := false, narrowed := true }
def LinkOwnsUptoSaid : Prop := linkOwnsUptoRow.holds Try.pinned (OpenSpec.upto linkOwnsSpec)

/-- 'custodiankeep.LinkApart', WHERE WHAT IT READS IS OF BULK AT MOST 1048576: true; the input reads as it did. -/
def linkApartUptoRow : OpenClaim := { program := "ytmmmmeeepieemaa", sum := "850770ede964dca74e45c2c6c5e0dc57e804ba0e24af8deee0f4d408cedf36a3", func := "custodian/custodiankeep.LinkApart", spec := "linkApart", unfollowed := true, recurses := true, plainKeys := false, apart := false, narrowed := true }
def LinkApartUptoSaid : Prop := linkApartUptoRow.holds Try.pinned (OpenSpec.upto linkApartSpec)

/-- 'custodiankeep.EnterArgs', WHERE WHAT IT READS IS OF BULK AT MOST 1048576: true; the input reads as it did. -/
def enterArgsUptoRow : OpenClaim := { program := "ytmmmmeeepieemaa", sum := "850770ede964dca74e45c2c6c5e0dc57e804ba0e24af8deee0f4d408cedf36a3", func := "custodian/custodiankeep.EnterArgs", spec := "enterArgs", unfollowed := true, recurses := true, plainKeys := false, apart := false, narrowed := true }
def EnterArgsUptoSaid : Prop := enterArgsUptoRow.holds Try.pinned (OpenSpec.upto enterArgsSpec)

/-- 'custodiankeep.EnterOwn', WHERE WHAT IT READS IS OF BULK AT MOST 1048576: true; the input reads as it did. -/
def enterOwnUptoRow : OpenClaim := { program := "ytmmmmeeepieemaa", sum := "850770ede964dca74e45c2c6c5e0dc57e804ba0e24af8deee0f4d408cedf36a3", func := "custodian/custodiankeep.EnterOwn", spec := "enterOwn", unfollowed := true, recurses := true, plainKeys := false, apart := false, narrowed := true }
def EnterOwnUptoSaid : Prop := enterOwnUptoRow.holds Try.pinned (OpenSpec.upto enterOwnSpec)

/-- 'custodiankeep.HeapSafe', WHERE WHAT IT READS IS OF BULK AT MOST 1048576: true; the input reads as it did. -/
def heapSafeUptoRow : OpenClaim := { program := "ytmmmmeeepieemaa", sum := "850770ede964dca74e45c2c6c5e0dc57e804ba0e24af8deee0f4d408cedf36a3", func := "custodian/custodiankeep.HeapSafe", spec := "heapSafe", inPlace := ["slices.overlaps[custodian/api.Piece]"], unfollowed := true, recurses := true, plainKeys := false, apart := false, narrowed := true }
def HeapSafeUptoSaid : Prop := heapSafeUptoRow.holds Try.pinned (OpenSpec.upto heapSafeSpec)

end Rows
end Go.Proofs.Ytmmmmeeepieemaa
