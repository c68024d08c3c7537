/-
  No cell of these rows narrows 'for every input' (looked for: loops, veiled, ifaces, maps, wideKeys, modest, calm, conditions, laid).
  DERIVED. THE GIVEN ROWS OF THIS SEAT. 4 by the template 'for every input the law returns true; each argument reads behind the call as it read before'; 0 by the template 'total and deterministic' (their statements: YtcdcmbehnccicaaTotals.lean).
  GIVEN WITH THE SEED: the statements are not yours to turn. If you find one false, say at which input.
  Laid BY PROGRAM, IN A SANDBOX (cutbox-rows.mjs): the forced cells as the released guide's own fill.sh prints them over the translation 5ebfdc62fd7d2002… (all of the seat's roots in one cut). By AI agents, Wed Nov 11 2026. No macro, syntax, notation, axiom, sorry.
-/
import Derived.Test.YtcdcmbehnccicaaChecked
import GoSem.Claim
import GoSem.ClaimJoined
import GoSem.ClaimMapViews
import Derived.JoinedTies
import Derived.KernelRfl
namespace Go.Proofs.Ytcdcmbehnccicaa
/- THE CELL 'sum', in the pinned program and in every row, IS THE sha256 OF THE DUMP (.gsa) THAT YtcdcmbehnccicaaProg.lean LOADS. Nothing in Lean hashes anything: it is a label: what it is worth is what the hold of that sum in a sandbox is worth. -/
noncomputable def Try.pinned : Pinned := { name := "ytcdcmbehnccicaa", sum := "5ebfdc62fd7d20023bd86cfed07e4f2304492f80d331405029905f7e787e8ba7", checked := Try.checked }
namespace Rows
def none {H : Type} : Left H := { results := [], args := [] }

/-- 'custodiankeep.ReachDeep': WHATEVER THE INPUT: true; the input reads as it did. -/
def reachDeepSpec : ChangeSpec := { name := "reachDeep", fn := fun _ => fun
  | [d1, d2, d3] => { results := [.lit (.bool true)], args := [d1, d2, d3] }
  | _ => none }
def reachDeepRow : OpenClaim := { program := "ytcdcmbehnccicaa", sum := "5ebfdc62fd7d20023bd86cfed07e4f2304492f80d331405029905f7e787e8ba7", func := "custodian/custodiankeep.ReachDeep", spec := "reachDeep", recurses := true, plainKeys := false, apart := false }
def ReachDeepSaid : Prop := reachDeepRow.holds Try.pinned (OpenSpec.ofChange reachDeepSpec)

/-- ITS FALSE NEIGHBOUR: 'it returns false'. Refute it at one input. -/
def reachDeepWrong : ChangeSpec := { name := "reachDeep", fn := fun _ => fun
  | [d1, d2, d3] => { results := [.lit (.bool false)], args := [d1, d2, d3] }
  | _ => none }
def ReachDeepWrongFalsely : Prop := reachDeepRow.holds Try.pinned (OpenSpec.ofChange reachDeepWrong)

/-- 'custodiankeep.ReachGrows': WHATEVER THE INPUT: true; the input reads as it did. -/
def reachGrowsSpec : ChangeSpec := { name := "reachGrows", fn := fun _ => fun
  | [d1, d2, d3, d4] => { results := [.lit (.bool true)], args := [d1, d2, d3, d4] }
  | _ => none }
def reachGrowsRow : OpenClaim := { program := "ytcdcmbehnccicaa", sum := "5ebfdc62fd7d20023bd86cfed07e4f2304492f80d331405029905f7e787e8ba7", func := "custodian/custodiankeep.ReachGrows", spec := "reachGrows", unfollowed := true, recurses := true, plainKeys := false, apart := false }
def ReachGrowsSaid : Prop := reachGrowsRow.holds Try.pinned (OpenSpec.ofChange reachGrowsSpec)

/-- ITS FALSE NEIGHBOUR: 'it returns false'. Refute it at one input. -/
def reachGrowsWrong : ChangeSpec := { name := "reachGrows", fn := fun _ => fun
  | [d1, d2, d3, d4] => { results := [.lit (.bool false)], args := [d1, d2, d3, d4] }
  | _ => none }
def ReachGrowsWrongFalsely : Prop := reachGrowsRow.holds Try.pinned (OpenSpec.ofChange reachGrowsWrong)

/-- 'custodiankeep.ReachNone': WHATEVER THE INPUT: true; the input reads as it did. -/
def reachNoneSpec : ChangeSpec := { name := "reachNone", fn := fun _ => fun
  | [d1, d2] => { results := [.lit (.bool true)], args := [d1, d2] }
  | _ => none }
def reachNoneRow : OpenClaim := { program := "ytcdcmbehnccicaa", sum := "5ebfdc62fd7d20023bd86cfed07e4f2304492f80d331405029905f7e787e8ba7", func := "custodian/custodiankeep.ReachNone", spec := "reachNone", unfollowed := true, recurses := true, plainKeys := false, apart := false }
def ReachNoneSaid : Prop := reachNoneRow.holds Try.pinned (OpenSpec.ofChange reachNoneSpec)

/-- ITS FALSE NEIGHBOUR: 'it returns false'. Refute it at one input. -/
def reachNoneWrong : ChangeSpec := { name := "reachNone", fn := fun _ => fun
  | [d1, d2] => { results := [.lit (.bool false)], args := [d1, d2] }
  | _ => none }
def ReachNoneWrongFalsely : Prop := reachNoneRow.holds Try.pinned (OpenSpec.ofChange reachNoneWrong)

/-- 'custodiankeep.ReachAll': WHATEVER THE INPUT: true; the input reads as it did. -/
def reachAllSpec : ChangeSpec := { name := "reachAll", fn := fun _ => fun
  | [d1, d2] => { results := [.lit (.bool true)], args := [d1, d2] }
  | _ => none }
def reachAllRow : OpenClaim := { program := "ytcdcmbehnccicaa", sum := "5ebfdc62fd7d20023bd86cfed07e4f2304492f80d331405029905f7e787e8ba7", func := "custodian/custodiankeep.ReachAll", spec := "reachAll", unfollowed := true, recurses := true, plainKeys := false, apart := false }
def ReachAllSaid : Prop := reachAllRow.holds Try.pinned (OpenSpec.ofChange reachAllSpec)

/-- ITS FALSE NEIGHBOUR: 'it returns false'. Refute it at one input. -/
def reachAllWrong : ChangeSpec := { name := "reachAll", fn := fun _ => fun
  | [d1, d2] => { results := [.lit (.bool false)], args := [d1, d2] }
  | _ => none }
def ReachAllWrongFalsely : Prop := reachAllRow.holds Try.pinned (OpenSpec.ofChange reachAllWrong)

/- THE SECOND FORM. 'bulk': how many values and letters a reading holds, each counted each time it is reached (what is shared counts as often as it is met; a slice's spare places count too). A statement '..UptoSaid' is the law's where the arguments, and the package variables that the reading takes, are together of bulk at most 1048576: NARROWER than '..Said'. Prove '..Said' where nothing that the law and all that it calls make is longer than what came in: it says more and counts as full. Else prove '..UptoSaid'. A law counts once. -/
mutual
def uptoBulk {H : Type} : DataW H → Nat
  | .lit (.string bytes) => bytes.length + 1
  | .lit _ => 1
  | .nil => 1
  | .ptr d => uptoBulk d + 1
  | .slice elems spare => uptoBulkAll elems + uptoBulkAll spare + 1
  | .agg parts => uptoBulkAll parts + 1
  | .iface _ d => uptoBulk d + 1
  | .map entries => uptoBulkEntries entries + 1
  | .held _ => 1
def uptoBulkAll {H : Type} : List (DataW H) → Nat
  | [] => 0
  | d :: r => uptoBulk d + uptoBulkAll r
def uptoBulkEntries {H : Type} : List (Lit × DataW H) → Nat
  | [] => 0
  | x :: r => uptoBulkEntry x + uptoBulkEntries r
def uptoBulkEntry {H : Type} : Lit × DataW H → Nat
  | (.string bytes, d) => bytes.length + uptoBulk d + 1
  | (_, d) => uptoBulk d + 1
 end
def uptoSmall : (H : Type) → List (DataW H) → Bool := fun _ ds => decide (uptoBulkAll ds ≤ 1048576)
def OpenSpec.upto (s : _root_.Go.ChangeSpec) : _root_.Go.OpenSpec := { _root_.Go.OpenSpec.ofChange s with cond := some uptoSmall }

/-- 'custodiankeep.ReachDeep', WHERE WHAT IT READS IS OF BULK AT MOST 1048576: true; the input reads as it did. -/
def reachDeepUptoRow : OpenClaim := { program := "ytcdcmbehnccicaa", sum := "5ebfdc62fd7d20023bd86cfed07e4f2304492f80d331405029905f7e787e8ba7", func := "custodian/custodiankeep.ReachDeep", spec := "reachDeep", recurses := true, plainKeys := false, apart := false, narrowed := true }
def ReachDeepUptoSaid : Prop := reachDeepUptoRow.holds Try.pinned (OpenSpec.upto reachDeepSpec)

/-- 'custodiankeep.ReachGrows', WHERE WHAT IT READS IS OF BULK AT MOST 1048576: true; the input reads as it did. -/
def reachGrowsUptoRow : OpenClaim := { program := "ytcdcmbehnccicaa", sum := "5ebfdc62fd7d20023bd86cfed07e4f2304492f80d331405029905f7e787e8ba7", func := "custodian/custodiankeep.ReachGrows", spec := "reachGrows", unfollowed := true, recurses := true, plainKeys := false, apart := false, narrowed := true }
def ReachGrowsUptoSaid : Prop := reachGrowsUptoRow.holds Try.pinned (OpenSpec.upto reachGrowsSpec)

/-- 'custodiankeep.ReachNone', WHERE WHAT IT READS IS OF BULK AT MOST 1048576: true; the input reads as it did. -/
def reachNoneUptoRow : OpenClaim := { program := "ytcdcmbehnccicaa", sum := "5ebfdc62fd7d20023bd86cfed07e4f2304492f80d331405029905f7e787e8ba7", func := "custodian/custodiankeep.ReachNone", spec := "reachNone", unfollowed := true, recurses := true, plainKeys := false, apart := false, narrowed := true }
def ReachNoneUptoSaid : Prop := reachNoneUptoRow.holds Try.pinned (OpenSpec.upto reachNoneSpec)

/-- 'custodiankeep.ReachAll', WHERE WHAT IT READS IS OF BULK AT MOST 1048576: true; the input reads as it did. -/
def reachAllUptoRow : OpenClaim := { program := "ytcdcmbehnccicaa", sum := "5ebfdc62fd7d20023bd86cfed07e4f2304492f80d331405029905f7e787e8ba7", func := "custodian/custodiankeep.ReachAll", spec := "reachAll", unfollowed := true, recurses := true, plainKeys := false, apart := false, narrowed := true }
def ReachAllUptoSaid : Prop := reachAllUptoRow.holds Try.pinned (OpenSpec.upto reachAllSpec)

end Rows
end Go.Proofs.Ytcdcmbehnccicaa
