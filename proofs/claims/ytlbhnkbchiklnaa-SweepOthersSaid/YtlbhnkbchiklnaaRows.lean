/-
  No cell of these rows narrows 'for every input' (looked for: loops, veiled, ifaces, maps, wideKeys, modest, calm, conditions, laid).
  DERIVED. THE GIVEN ROWS OF THIS SEAT. 12 by the template 'for every input the law returns true; each argument reads behind the call as it read before'; 0 by the template 'total and deterministic' (their statements: YtlbhnkbchiklnaaTotals.lean).
  GIVEN WITH THE SEED: the statements are not yours to turn. If you find one false, say at which input.
  Laid BY PROGRAM, IN A SANDBOX (cutbox-rows.mjs): the forced cells as the released guide's own fill.sh prints them over the translation 04623c2a54af64fc… (all of the seat's roots in one cut). By AI agents, Wed Nov 11 2026. No macro, syntax, notation, axiom, sorry.
-/
import Derived.Test.YtlbhnkbchiklnaaChecked
import GoSem.Claim
import GoSem.ClaimJoined
import GoSem.ClaimMapViews
import Derived.JoinedTies
import Derived.KernelRfl
namespace Go.Proofs.Ytlbhnkbchiklnaa
/- THE CELL 'sum', in the pinned program and in every row, IS THE sha256 OF THE DUMP (.gsa) THAT YtlbhnkbchiklnaaProg.lean LOADS. Nothing in Lean hashes anything: it is a label: what it is worth is what the hold of that sum in a sandbox is worth. -/
noncomputable def Try.pinned : Pinned := { name := "ytlbhnkbchiklnaa", sum := "04623c2a54af64fcb3bee977e86695d30a9086e9becb1def637aac877416b092", checked := Try.checked }
namespace Rows
def none {H : Type} : Left H := { results := [], args := [] }

/-- 'custodiankeep.MemApart': WHATEVER THE INPUT: true; the input reads as it did. -/
def memApartSpec : ChangeSpec := { name := "memApart", fn := fun _ => fun
  | [d1, d2, d3, d4, d5, d6] => { results := [.lit (.bool true)], args := [d1, d2, d3, d4, d5, d6] }
  | _ => none }
def memApartRow : OpenClaim := { program := "ytlbhnkbchiklnaa", sum := "04623c2a54af64fcb3bee977e86695d30a9086e9becb1def637aac877416b092", func := "custodian/custodiankeep.MemApart", spec := "memApart", apart := false }
def MemApartSaid : Prop := memApartRow.holds Try.pinned (OpenSpec.ofChange memApartSpec)

/-- ITS FALSE NEIGHBOUR: 'it returns false'. Refute it at one input. -/
def memApartWrong : ChangeSpec := { name := "memApart", fn := fun _ => fun
  | [d1, d2, d3, d4, d5, d6] => { results := [.lit (.bool false)], args := [d1, d2, d3, d4, d5, d6] }
  | _ => none }
def MemApartWrongFalsely : Prop := memApartRow.holds Try.pinned (OpenSpec.ofChange memApartWrong)

/-- 'custodiankeep.KeysSealed': WHATEVER THE INPUT: true; the input reads as it did. -/
def keysSealedSpec : ChangeSpec := { name := "keysSealed", fn := fun _ => fun
  | [d1, d2, d3] => { results := [.lit (.bool true)], args := [d1, d2, d3] }
  | _ => none }
def keysSealedRow : OpenClaim := { program := "ytlbhnkbchiklnaa", sum := "04623c2a54af64fcb3bee977e86695d30a9086e9becb1def637aac877416b092", func := "custodian/custodiankeep.KeysSealed", spec := "keysSealed", unfollowed := true, recurses := true, apart := false }
def KeysSealedSaid : Prop := keysSealedRow.holds Try.pinned (OpenSpec.ofChange keysSealedSpec)

/-- ITS FALSE NEIGHBOUR: 'it returns false'. Refute it at one input. -/
def keysSealedWrong : ChangeSpec := { name := "keysSealed", fn := fun _ => fun
  | [d1, d2, d3] => { results := [.lit (.bool false)], args := [d1, d2, d3] }
  | _ => none }
def KeysSealedWrongFalsely : Prop := keysSealedRow.holds Try.pinned (OpenSpec.ofChange keysSealedWrong)

/-- 'custodiankeep.KeysDown': WHATEVER THE INPUT: true; the input reads as it did. -/
def keysDownSpec : ChangeSpec := { name := "keysDown", fn := fun _ => fun
  | [d1, d2, d3] => { results := [.lit (.bool true)], args := [d1, d2, d3] }
  | _ => none }
def keysDownRow : OpenClaim := { program := "ytlbhnkbchiklnaa", sum := "04623c2a54af64fcb3bee977e86695d30a9086e9becb1def637aac877416b092", func := "custodian/custodiankeep.KeysDown", spec := "keysDown", unfollowed := true, recurses := true, apart := false }
def KeysDownSaid : Prop := keysDownRow.holds Try.pinned (OpenSpec.ofChange keysDownSpec)

/-- ITS FALSE NEIGHBOUR: 'it returns false'. Refute it at one input. -/
def keysDownWrong : ChangeSpec := { name := "keysDown", fn := fun _ => fun
  | [d1, d2, d3] => { results := [.lit (.bool false)], args := [d1, d2, d3] }
  | _ => none }
def KeysDownWrongFalsely : Prop := keysDownRow.holds Try.pinned (OpenSpec.ofChange keysDownWrong)

/-- 'custodiankeep.KeysNever': WHATEVER THE INPUT: true; the input reads as it did. -/
def keysNeverSpec : ChangeSpec := { name := "keysNever", fn := fun _ => fun
  | [d1, d2] => { results := [.lit (.bool true)], args := [d1, d2] }
  | _ => none }
def keysNeverRow : OpenClaim := { program := "ytlbhnkbchiklnaa", sum := "04623c2a54af64fcb3bee977e86695d30a9086e9becb1def637aac877416b092", func := "custodian/custodiankeep.KeysNever", spec := "keysNever", apart := false }
def KeysNeverSaid : Prop := keysNeverRow.holds Try.pinned (OpenSpec.ofChange keysNeverSpec)

/-- ITS FALSE NEIGHBOUR: 'it returns false'. Refute it at one input. -/
def keysNeverWrong : ChangeSpec := { name := "keysNever", fn := fun _ => fun
  | [d1, d2] => { results := [.lit (.bool false)], args := [d1, d2] }
  | _ => none }
def KeysNeverWrongFalsely : Prop := keysNeverRow.holds Try.pinned (OpenSpec.ofChange keysNeverWrong)

/-- 'custodiankeep.SweepOthers': WHATEVER THE INPUT: true; the input reads as it did. -/
def sweepOthersSpec : ChangeSpec := { name := "sweepOthers", fn := fun _ => fun
  | [d1, d2, d3] => { results := [.lit (.bool true)], args := [d1, d2, d3] }
  | _ => none }
def sweepOthersRow : OpenClaim := { program := "ytlbhnkbchiklnaa", sum := "04623c2a54af64fcb3bee977e86695d30a9086e9becb1def637aac877416b092", func := "custodian/custodiankeep.SweepOthers", spec := "sweepOthers", unfollowed := true, recurses := true, apart := false }
def SweepOthersSaid : Prop := sweepOthersRow.holds Try.pinned (OpenSpec.ofChange sweepOthersSpec)

/-- ITS FALSE NEIGHBOUR: 'it returns false'. Refute it at one input. -/
def sweepOthersWrong : ChangeSpec := { name := "sweepOthers", fn := fun _ => fun
  | [d1, d2, d3] => { results := [.lit (.bool false)], args := [d1, d2, d3] }
  | _ => none }
def SweepOthersWrongFalsely : Prop := sweepOthersRow.holds Try.pinned (OpenSpec.ofChange sweepOthersWrong)

/-- 'custodiankeep.SweepBoth': WHATEVER THE INPUT: true; the input reads as it did. -/
def sweepBothSpec : ChangeSpec := { name := "sweepBoth", fn := fun _ => fun
  | [d1, d2, d3, d4, d5] => { results := [.lit (.bool true)], args := [d1, d2, d3, d4, d5] }
  | _ => none }
def sweepBothRow : OpenClaim := { program := "ytlbhnkbchiklnaa", sum := "04623c2a54af64fcb3bee977e86695d30a9086e9becb1def637aac877416b092", func := "custodian/custodiankeep.SweepBoth", spec := "sweepBoth", apart := false }
def SweepBothSaid : Prop := sweepBothRow.holds Try.pinned (OpenSpec.ofChange sweepBothSpec)

/-- ITS FALSE NEIGHBOUR: 'it returns false'. Refute it at one input. -/
def sweepBothWrong : ChangeSpec := { name := "sweepBoth", fn := fun _ => fun
  | [d1, d2, d3, d4, d5] => { results := [.lit (.bool false)], args := [d1, d2, d3, d4, d5] }
  | _ => none }
def SweepBothWrongFalsely : Prop := sweepBothRow.holds Try.pinned (OpenSpec.ofChange sweepBothWrong)

/-- 'custodiankeep.SweepNone': WHATEVER THE INPUT: true; the input reads as it did. -/
def sweepNoneSpec : ChangeSpec := { name := "sweepNone", fn := fun _ => fun
  | [d1, d2, d3] => { results := [.lit (.bool true)], args := [d1, d2, d3] }
  | _ => none }
def sweepNoneRow : OpenClaim := { program := "ytlbhnkbchiklnaa", sum := "04623c2a54af64fcb3bee977e86695d30a9086e9becb1def637aac877416b092", func := "custodian/custodiankeep.SweepNone", spec := "sweepNone", apart := false }
def SweepNoneSaid : Prop := sweepNoneRow.holds Try.pinned (OpenSpec.ofChange sweepNoneSpec)

/-- ITS FALSE NEIGHBOUR: 'it returns false'. Refute it at one input. -/
def sweepNoneWrong : ChangeSpec := { name := "sweepNone", fn := fun _ => fun
  | [d1, d2, d3] => { results := [.lit (.bool false)], args := [d1, d2, d3] }
  | _ => none }
def SweepNoneWrongFalsely : Prop := sweepNoneRow.holds Try.pinned (OpenSpec.ofChange sweepNoneWrong)

/-- 'custodiankeep.HeapApart': WHATEVER THE INPUT: true; the input reads as it did. -/
def heapApartSpec : ChangeSpec := { name := "heapApart", fn := fun _ => fun
  | [d1, d2, d3] => { results := [.lit (.bool true)], args := [d1, d2, d3] }
  | _ => none }
def heapApartRow : OpenClaim := { program := "ytlbhnkbchiklnaa", sum := "04623c2a54af64fcb3bee977e86695d30a9086e9becb1def637aac877416b092", func := "custodian/custodiankeep.HeapApart", spec := "heapApart", inPlace := ["slices.overlaps[custodian/api.Piece]"], unfollowed := true, recurses := true, apart := false }
def HeapApartSaid : Prop := heapApartRow.holds Try.pinned (OpenSpec.ofChange heapApartSpec)

/-- ITS FALSE NEIGHBOUR: 'it returns false'. Refute it at one input. -/
def heapApartWrong : ChangeSpec := { name := "heapApart", fn := fun _ => fun
  | [d1, d2, d3] => { results := [.lit (.bool false)], args := [d1, d2, d3] }
  | _ => none }
def HeapApartWrongFalsely : Prop := heapApartRow.holds Try.pinned (OpenSpec.ofChange heapApartWrong)

/-- 'custodiankeep.HeapWhole': WHATEVER THE INPUT: true; the input reads as it did. -/
def heapWholeSpec : ChangeSpec := { name := "heapWhole", fn := fun _ => fun
  | [d1, d2, d3] => { results := [.lit (.bool true)], args := [d1, d2, d3] }
  | _ => none }
def heapWholeRow : OpenClaim := { program := "ytlbhnkbchiklnaa", sum := "04623c2a54af64fcb3bee977e86695d30a9086e9becb1def637aac877416b092", func := "custodian/custodiankeep.HeapWhole", spec := "heapWhole", inPlace := ["slices.overlaps[custodian/api.Piece]"], unfollowed := true, recurses := true, apart := false }
def HeapWholeSaid : Prop := heapWholeRow.holds Try.pinned (OpenSpec.ofChange heapWholeSpec)

/-- ITS FALSE NEIGHBOUR: 'it returns false'. Refute it at one input. -/
def heapWholeWrong : ChangeSpec := { name := "heapWhole", fn := fun _ => fun
  | [d1, d2, d3] => { results := [.lit (.bool false)], args := [d1, d2, d3] }
  | _ => none }
def HeapWholeWrongFalsely : Prop := heapWholeRow.holds Try.pinned (OpenSpec.ofChange heapWholeWrong)

/-- 'custodiankeep.HeapAgain': WHATEVER THE INPUT: true; the input reads as it did. -/
def heapAgainSpec : ChangeSpec := { name := "heapAgain", fn := fun _ => fun
  | [d1, d2, d3] => { results := [.lit (.bool true)], args := [d1, d2, d3] }
  | _ => none }
def heapAgainRow : OpenClaim := { program := "ytlbhnkbchiklnaa", sum := "04623c2a54af64fcb3bee977e86695d30a9086e9becb1def637aac877416b092", func := "custodian/custodiankeep.HeapAgain", spec := "heapAgain", inPlace := ["slices.overlaps[custodian/api.Piece]"], unfollowed := true, recurses := true, apart := false }
def HeapAgainSaid : Prop := heapAgainRow.holds Try.pinned (OpenSpec.ofChange heapAgainSpec)

/-- ITS FALSE NEIGHBOUR: 'it returns false'. Refute it at one input. -/
def heapAgainWrong : ChangeSpec := { name := "heapAgain", fn := fun _ => fun
  | [d1, d2, d3] => { results := [.lit (.bool false)], args := [d1, d2, d3] }
  | _ => none }
def HeapAgainWrongFalsely : Prop := heapAgainRow.holds Try.pinned (OpenSpec.ofChange heapAgainWrong)

/-- 'custodiankeep.HeapHolds': WHATEVER THE INPUT: true; the input reads as it did. -/
def heapHoldsSpec : ChangeSpec := { name := "heapHolds", fn := fun _ => fun
  | [d1, d2, d3, d4] => { results := [.lit (.bool true)], args := [d1, d2, d3, d4] }
  | _ => none }
def heapHoldsRow : OpenClaim := { program := "ytlbhnkbchiklnaa", sum := "04623c2a54af64fcb3bee977e86695d30a9086e9becb1def637aac877416b092", func := "custodian/custodiankeep.HeapHolds", spec := "heapHolds", inPlace := ["slices.overlaps[custodian/api.Piece]"], unfollowed := true, recurses := true, apart := false }
def HeapHoldsSaid : Prop := heapHoldsRow.holds Try.pinned (OpenSpec.ofChange heapHoldsSpec)

/-- ITS FALSE NEIGHBOUR: 'it returns false'. Refute it at one input. -/
def heapHoldsWrong : ChangeSpec := { name := "heapHolds", fn := fun _ => fun
  | [d1, d2, d3, d4] => { results := [.lit (.bool false)], args := [d1, d2, d3, d4] }
  | _ => none }
def HeapHoldsWrongFalsely : Prop := heapHoldsRow.holds Try.pinned (OpenSpec.ofChange heapHoldsWrong)

/-- 'custodiankeep.HeapFirst': WHATEVER THE INPUT: true; the input reads as it did. -/
def heapFirstSpec : ChangeSpec := { name := "heapFirst", fn := fun _ => fun
  | [d1, d2, d3, d4] => { results := [.lit (.bool true)], args := [d1, d2, d3, d4] }
  | _ => none }
def heapFirstRow : OpenClaim := { program := "ytlbhnkbchiklnaa", sum := "04623c2a54af64fcb3bee977e86695d30a9086e9becb1def637aac877416b092", func := "custodian/custodiankeep.HeapFirst", spec := "heapFirst", inPlace := ["slices.overlaps[custodian/api.Piece]"], unfollowed := true, recurses := true, apart := false }
def HeapFirstSaid : Prop := heapFirstRow.holds Try.pinned (OpenSpec.ofChange heapFirstSpec)

/-- ITS FALSE NEIGHBOUR: 'it returns false'. Refute it at one input. -/
def heapFirstWrong : ChangeSpec := { name := "heapFirst", fn := fun _ => fun
  | [d1, d2, d3, d4] => { results := [.lit (.bool false)], args := [d1, d2, d3, d4] }
  | _ => none }
def HeapFirstWrongFalsely : Prop := heapFirstRow.holds Try.pinned (OpenSpec.ofChange heapFirstWrong)

/- THE SECOND FORM. 'bulk': how many values and letters a reading holds, each counted each time it is reached (what is shared counts as often as it is met; a slice's spare places count too). A statement '..UptoSaid' is the law's where the arguments, and the package variables that the reading takes, are together of bulk at most 1048576: NARROWER than '..Said'. Prove '..Said' where nothing that the law and all that it calls make is longer than what came in: it says more and counts as full. Else prove '..UptoSaid'. A law counts once. -/
mutual
def uptoBulk {H : Type} : DataW H → Nat
  | .lit (.string bytes) => bytes.length + 1
  | .lit _ => 1
  | .nil => 1
  | .ptr d => uptoBulk d + 1
  | .slice elems spare => uptoBulkAll elems + uptoBulkAll spare + 1
  | .agg parts => uptoBulkAll parts + 1
  | .iface _ d => uptoBulk d + 1
  | .map entries => uptoBulkEntries entries + 1
  | .held _ => 1
def uptoBulkAll {H : Type} : List (DataW H) → Nat
  | [] => 0
  | d :: r => uptoBulk d + uptoBulkAll r
def uptoBulkEntries {H : Type} : List (Lit × DataW H) → Nat
  | [] => 0
  | x :: r => uptoBulkEntry x + uptoBulkEntries r
def uptoBulkEntry {H : Type} : Lit × DataW H → Nat
  | (.string bytes, d) => bytes.length + uptoBulk d + 1
  | (_, d) => uptoBulk d + 1
 end
def uptoSmall : (H : Type) → List (DataW H) → Bool := fun _ ds => decide (uptoBulkAll ds ≤ 1048576)
def OpenSpec.upto (s : _root_.Go.ChangeSpec) : _root_.Go.OpenSpec := { _root_.Go.OpenSpec.ofChange s with cond := some uptoSmall }

/-- 'custodiankeep.MemApart', WHERE WHAT IT READS IS OF BULK AT MOST 1048576: true; the input reads as it did. -/
def memApartUptoRow : OpenClaim := { program := "ytlbhnkbchiklnaa", sum := "04623c2a54af64fcb3bee977e86695d30a9086e9becb1def637aac877416b092", func := "custodian/custodiankeep.MemApart", spec := "memApart", apart := false, narrowed := true }
def MemApartUptoSaid : Prop := memApartUptoRow.holds Try.pinned (OpenSpec.upto memApartSpec)

/-- 'custodiankeep.KeysSealed', WHERE WHAT IT READS IS OF BULK AT MOST 1048576: true; the input reads as it did. -/
def keysSealedUptoRow : OpenClaim := { program := "ytlbhnkbchiklnaa", sum := "04623c2a54af64fcb3bee977e86695d30a9086e9becb1def637aac877416b092", func := "custodian/custodiankeep.KeysSealed", spec := "keysSealed", unfollowed := true, recurses := true, apart := false, narrowed := true }
def KeysSealedUptoSaid : Prop := keysSealedUptoRow.holds Try.pinned (OpenSpec.upto keysSealedSpec)

/-- 'custodiankeep.KeysDown', WHERE WHAT IT READS IS OF BULK AT MOST 1048576: true; the input reads as it did. -/
def keysDownUptoRow : OpenClaim := { program := "ytlbhnkbchiklnaa", sum := "04623c2a54af64fcb3bee977e86695d30a9086e9becb1def637aac877416b092", func := "custodian/custodiankeep.KeysDown", spec := "keysDown", unfollowed := true, recurses := true, apart := false, narrowed := true }
def KeysDownUptoSaid : Prop := keysDownUptoRow.holds Try.pinned (OpenSpec.upto keysDownSpec)

/-- 'custodiankeep.KeysNever', WHERE WHAT IT READS IS OF BULK AT MOST 1048576: true; the input reads as it did. -/
def keysNeverUptoRow : OpenClaim := { program := "ytlbhnkbchiklnaa", sum := "04623c2a54af64fcb3bee977e86695d30a9086e9becb1def637aac877416b092", func := "custodian/custodiankeep.KeysNever", spec := "keysNever", apart := false, narrowed := true }
def KeysNeverUptoSaid : Prop := keysNeverUptoRow.holds Try.pinned (OpenSpec.upto keysNeverSpec)

/-- 'custodiankeep.SweepOthers', WHERE WHAT IT READS IS OF BULK AT MOST 1048576: true; the input reads as it did. -/
def sweepOthersUptoRow : OpenClaim := { program := "ytlbhnkbchiklnaa", sum := "04623c2a54af64fcb3bee977e86695d30a9086e9becb1def637aac877416b092", func := "custodian/custodiankeep.SweepOthers", spec := "sweepOthers", unfollowed := true, recurses := true, apart := false, narrowed := true }
def SweepOthersUptoSaid : Prop := sweepOthersUptoRow.holds Try.pinned (OpenSpec.upto sweepOthersSpec)

/-- 'custodiankeep.SweepBoth', WHERE WHAT IT READS IS OF BULK AT MOST 1048576: true; the input reads as it did. -/
def sweepBothUptoRow : OpenClaim := { program := "ytlbhnkbchiklnaa", sum := "04623c2a54af64fcb3bee977e86695d30a9086e9becb1def637aac877416b092", func := "custodian/custodiankeep.SweepBoth", spec := "sweepBoth", apart := false, narrowed := true }
def SweepBothUptoSaid : Prop := sweepBothUptoRow.holds Try.pinned (OpenSpec.upto sweepBothSpec)

/-- 'custodiankeep.SweepNone', WHERE WHAT IT READS IS OF BULK AT MOST 1048576: true; the input reads as it did. -/
def sweepNoneUptoRow : OpenClaim := { program := "ytlbhnkbchiklnaa", sum := "04623c2a54af64fcb3bee977e86695d30a9086e9becb1def637aac877416b092", func := "custodian/custodiankeep.SweepNone", spec := "sweepNone", apart := false, narrowed := true }
def SweepNoneUptoSaid : Prop := sweepNoneUptoRow.holds Try.pinned (OpenSpec.upto sweepNoneSpec)

/-- 'custodiankeep.HeapApart', WHERE WHAT IT READS IS OF BULK AT MOST 1048576: true; the input reads as it did. -/
def heapApartUptoRow : OpenClaim := { program := "ytlbhnkbchiklnaa", sum := "04623c2a54af64fcb3bee977e86695d30a9086e9becb1def637aac877416b092", func := "custodian/custodiankeep.HeapApart", spec := "heapApart", inPlace := ["slices.overlaps[custodian/api.Piece]"], unfollowed := true, recurses := true, apart := false, narrowed := true }
def HeapApartUptoSaid : Prop := heapApartUptoRow.holds Try.pinned (OpenSpec.upto heapApartSpec)

/-- 'custodiankeep.HeapWhole', WHERE WHAT IT READS IS OF BULK AT MOST 1048576: true; the input reads as it did. -/
def heapWholeUptoRow : OpenClaim := { program := "ytlbhnkbchiklnaa", sum := "04623c2a54af64fcb3bee977e86695d30a9086e9becb1def637aac877416b092", func := "custodian/custodiankeep.HeapWhole", spec := "heapWhole", inPlace := ["slices.overlaps[custodian/api.Piece]"], unfollowed := true, recurses := true, apart := false, narrowed := true }
def HeapWholeUptoSaid : Prop := heapWholeUptoRow.holds Try.pinned (OpenSpec.upto heapWholeSpec)

/-- 'custodiankeep.HeapAgain', WHERE WHAT IT READS IS OF BULK AT MOST 1048576: true; the input reads as it did. -/
def heapAgainUptoRow : OpenClaim := { program := "ytlbhnkbchiklnaa", sum := "04623c2a54af64fcb3bee977e86695d30a9086e9becb1def637aac877416b092", func := "custodian/custodiankeep.HeapAgain", spec := "heapAgain", inPlace := ["slices.overlaps[custodian/api.Piece]"], unfollowed := true, recurses := true, apart := false, narrowed := true }
def HeapAgainUptoSaid : Prop := heapAgainUptoRow.holds Try.pinned (OpenSpec.upto heapAgainSpec)

/-- 'custodiankeep.HeapHolds', WHERE WHAT IT READS IS OF BULK AT MOST 1048576: true; the input reads as it did. -/
def heapHoldsUptoRow : OpenClaim := { program := "ytlbhnkbchiklnaa", sum := "04623c2a54af64fcb3bee977e86695d30a9086e9becb1def637aac877416b092", func := "custodian/custodiankeep.HeapHolds", spec := "heapHolds", inPlace := ["slices.overlaps[custodian/api.Piece]"], unfollowed := true, recurses := true, apart := false, narrowed := true }
def HeapHoldsUptoSaid : Prop := heapHoldsUptoRow.holds Try.pinned (OpenSpec.upto heapHoldsSpec)

/-- 'custodiankeep.HeapFirst', WHERE WHAT IT READS IS OF BULK AT MOST 1048576: true; the input reads as it did. -/
def heapFirstUptoRow : OpenClaim := { program := "ytlbhnkbchiklnaa", sum := "04623c2a54af64fcb3bee977e86695d30a9086e9becb1def637aac877416b092", func := "custodian/custodiankeep.HeapFirst", spec := "heapFirst", inPlace := ["slices.overlaps[custodian/api.Piece]"], unfollowed := true, recurses := true, apart := false, narrowed := true }
def HeapFirstUptoSaid : Prop := heapFirstUptoRow.holds Try.pinned (OpenSpec.upto heapFirstSpec)

end Rows
end Go.Proofs.Ytlbhnkbchiklnaa
