/-
  No cell of these rows narrows 'for every input' (looked for: loops, veiled, ifaces, maps, wideKeys, modest, calm, conditions, laid).
  DERIVED. THE GIVEN ROWS OF THIS SEAT. 12 by the template 'for every input the law returns true; each argument reads behind the call as it read before'; 0 by the template 'total and deterministic' (their statements: YtpfnnlnlmajbfaaTotals.lean).
  GIVEN WITH THE SEED: the statements are not yours to turn. If you find one false, say at which input.
  Laid BY PROGRAM, IN A SANDBOX (cutbox-rows.mjs): the forced cells as the released guide's own fill.sh prints them over the translation 4cb847a1ae1e3521… (all of the seat's roots in one cut). By AI agents, Wed Nov 11 2026. No macro, syntax, notation, axiom, sorry.
-/
import Derived.Test.YtpfnnlnlmajbfaaChecked
import GoSem.Claim
import GoSem.ClaimJoined
import GoSem.ClaimMapViews
import Derived.JoinedTies
import Derived.KernelRfl
namespace Go.Proofs.Ytpfnnlnlmajbfaa
/- THE CELL 'sum', in the pinned program and in every row, IS THE sha256 OF THE DUMP (.gsa) THAT YtpfnnlnlmajbfaaProg.lean LOADS. Nothing in Lean hashes anything: it is a label: what it is worth is what the hold of that sum in a sandbox is worth. -/
noncomputable def Try.pinned : Pinned := { name := "ytpfnnlnlmajbfaa", sum := "4cb847a1ae1e35211724f876ac7d5f97842f972e5c0460d05a80e282bf159901", checked := Try.checked }
namespace Rows
def none {H : Type} : Left H := { results := [], args := [] }

/-- 'custodiankeep.NumWraps': WHATEVER THE INPUT: true; the input reads as it did. -/
def numWrapsSpec : ChangeSpec := { name := "numWraps", fn := fun _ => fun
  | [d1, d2] => { results := [.lit (.bool true)], args := [d1, d2] }
  | _ => none }
def numWrapsRow : OpenClaim := { program := "ytpfnnlnlmajbfaa", sum := "4cb847a1ae1e35211724f876ac7d5f97842f972e5c0460d05a80e282bf159901", func := "custodian/custodiankeep.NumWraps", spec := "numWraps", apart := false }
def NumWrapsSaid : Prop := numWrapsRow.holds Try.pinned (OpenSpec.ofChange numWrapsSpec)

/-- ITS FALSE NEIGHBOUR: 'it returns false'. Refute it at one input. -/
def numWrapsWrong : ChangeSpec := { name := "numWraps", fn := fun _ => fun
  | [d1, d2] => { results := [.lit (.bool false)], args := [d1, d2] }
  | _ => none }
def NumWrapsWrongFalsely : Prop := numWrapsRow.holds Try.pinned (OpenSpec.ofChange numWrapsWrong)

/-- 'custodiankeep.PermLattice': WHATEVER THE INPUT: true; the input reads as it did. -/
def permLatticeSpec : ChangeSpec := { name := "permLattice", fn := fun _ => fun
  | [d1, d2, d3] => { results := [.lit (.bool true)], args := [d1, d2, d3] }
  | _ => none }
def permLatticeRow : OpenClaim := { program := "ytpfnnlnlmajbfaa", sum := "4cb847a1ae1e35211724f876ac7d5f97842f972e5c0460d05a80e282bf159901", func := "custodian/custodiankeep.PermLattice", spec := "permLattice", unfollowed := true, recurses := true, apart := false }
def PermLatticeSaid : Prop := permLatticeRow.holds Try.pinned (OpenSpec.ofChange permLatticeSpec)

/-- ITS FALSE NEIGHBOUR: 'it returns false'. Refute it at one input. -/
def permLatticeWrong : ChangeSpec := { name := "permLattice", fn := fun _ => fun
  | [d1, d2, d3] => { results := [.lit (.bool false)], args := [d1, d2, d3] }
  | _ => none }
def PermLatticeWrongFalsely : Prop := permLatticeRow.holds Try.pinned (OpenSpec.ofChange permLatticeWrong)

/-- 'custodiankeep.NumRing': WHATEVER THE INPUT: true; the input reads as it did. -/
def numRingSpec : ChangeSpec := { name := "numRing", fn := fun _ => fun
  | [d1, d2, d3] => { results := [.lit (.bool true)], args := [d1, d2, d3] }
  | _ => none }
def numRingRow : OpenClaim := { program := "ytpfnnlnlmajbfaa", sum := "4cb847a1ae1e35211724f876ac7d5f97842f972e5c0460d05a80e282bf159901", func := "custodian/custodiankeep.NumRing", spec := "numRing", unfollowed := true, recurses := true, apart := false }
def NumRingSaid : Prop := numRingRow.holds Try.pinned (OpenSpec.ofChange numRingSpec)

/-- ITS FALSE NEIGHBOUR: 'it returns false'. Refute it at one input. -/
def numRingWrong : ChangeSpec := { name := "numRing", fn := fun _ => fun
  | [d1, d2, d3] => { results := [.lit (.bool false)], args := [d1, d2, d3] }
  | _ => none }
def NumRingWrongFalsely : Prop := numRingRow.holds Try.pinned (OpenSpec.ofChange numRingWrong)

/-- 'custodiankeep.NumDivides': WHATEVER THE INPUT: true; the input reads as it did. -/
def numDividesSpec : ChangeSpec := { name := "numDivides", fn := fun _ => fun
  | [d1, d2] => { results := [.lit (.bool true)], args := [d1, d2] }
  | _ => none }
def numDividesRow : OpenClaim := { program := "ytpfnnlnlmajbfaa", sum := "4cb847a1ae1e35211724f876ac7d5f97842f972e5c0460d05a80e282bf159901", func := "custodian/custodiankeep.NumDivides", spec := "numDivides", apart := false }
def NumDividesSaid : Prop := numDividesRow.holds Try.pinned (OpenSpec.ofChange numDividesSpec)

/-- ITS FALSE NEIGHBOUR: 'it returns false'. Refute it at one input. -/
def numDividesWrong : ChangeSpec := { name := "numDivides", fn := fun _ => fun
  | [d1, d2] => { results := [.lit (.bool false)], args := [d1, d2] }
  | _ => none }
def NumDividesWrongFalsely : Prop := numDividesRow.holds Try.pinned (OpenSpec.ofChange numDividesWrong)

/-- 'custodiankeep.NumOrder': WHATEVER THE INPUT: true; the input reads as it did. -/
def numOrderSpec : ChangeSpec := { name := "numOrder", fn := fun _ => fun
  | [d1, d2, d3] => { results := [.lit (.bool true)], args := [d1, d2, d3] }
  | _ => none }
def numOrderRow : OpenClaim := { program := "ytpfnnlnlmajbfaa", sum := "4cb847a1ae1e35211724f876ac7d5f97842f972e5c0460d05a80e282bf159901", func := "custodian/custodiankeep.NumOrder", spec := "numOrder", apart := false }
def NumOrderSaid : Prop := numOrderRow.holds Try.pinned (OpenSpec.ofChange numOrderSpec)

/-- ITS FALSE NEIGHBOUR: 'it returns false'. Refute it at one input. -/
def numOrderWrong : ChangeSpec := { name := "numOrder", fn := fun _ => fun
  | [d1, d2, d3] => { results := [.lit (.bool false)], args := [d1, d2, d3] }
  | _ => none }
def NumOrderWrongFalsely : Prop := numOrderRow.holds Try.pinned (OpenSpec.ofChange numOrderWrong)

/-- 'custodiankeep.NumDividesBack': WHATEVER THE INPUT: true; the input reads as it did. -/
def numDividesBackSpec : ChangeSpec := { name := "numDividesBack", fn := fun _ => fun
  | [d1, d2] => { results := [.lit (.bool true)], args := [d1, d2] }
  | _ => none }
def numDividesBackRow : OpenClaim := { program := "ytpfnnlnlmajbfaa", sum := "4cb847a1ae1e35211724f876ac7d5f97842f972e5c0460d05a80e282bf159901", func := "custodian/custodiankeep.NumDividesBack", spec := "numDividesBack", apart := false }
def NumDividesBackSaid : Prop := numDividesBackRow.holds Try.pinned (OpenSpec.ofChange numDividesBackSpec)

/-- ITS FALSE NEIGHBOUR: 'it returns false'. Refute it at one input. -/
def numDividesBackWrong : ChangeSpec := { name := "numDividesBack", fn := fun _ => fun
  | [d1, d2] => { results := [.lit (.bool false)], args := [d1, d2] }
  | _ => none }
def NumDividesBackWrongFalsely : Prop := numDividesBackRow.holds Try.pinned (OpenSpec.ofChange numDividesBackWrong)

/-- 'custodiankeep.NumSigns': WHATEVER THE INPUT: true; the input reads as it did. -/
def numSignsSpec : ChangeSpec := { name := "numSigns", fn := fun _ => fun
  | [d1, d2] => { results := [.lit (.bool true)], args := [d1, d2] }
  | _ => none }
def numSignsRow : OpenClaim := { program := "ytpfnnlnlmajbfaa", sum := "4cb847a1ae1e35211724f876ac7d5f97842f972e5c0460d05a80e282bf159901", func := "custodian/custodiankeep.NumSigns", spec := "numSigns", unfollowed := true, recurses := true, apart := false }
def NumSignsSaid : Prop := numSignsRow.holds Try.pinned (OpenSpec.ofChange numSignsSpec)

/-- ITS FALSE NEIGHBOUR: 'it returns false'. Refute it at one input. -/
def numSignsWrong : ChangeSpec := { name := "numSigns", fn := fun _ => fun
  | [d1, d2] => { results := [.lit (.bool false)], args := [d1, d2] }
  | _ => none }
def NumSignsWrongFalsely : Prop := numSignsRow.holds Try.pinned (OpenSpec.ofChange numSignsWrong)

/-- 'custodiankeep.RoundTight': WHATEVER THE INPUT: true; the input reads as it did. -/
def roundTightSpec : ChangeSpec := { name := "roundTight", fn := fun _ => fun
  | [d1, d2] => { results := [.lit (.bool true)], args := [d1, d2] }
  | _ => none }
def roundTightRow : OpenClaim := { program := "ytpfnnlnlmajbfaa", sum := "4cb847a1ae1e35211724f876ac7d5f97842f972e5c0460d05a80e282bf159901", func := "custodian/custodiankeep.RoundTight", spec := "roundTight", apart := false }
def RoundTightSaid : Prop := roundTightRow.holds Try.pinned (OpenSpec.ofChange roundTightSpec)

/-- ITS FALSE NEIGHBOUR: 'it returns false'. Refute it at one input. -/
def roundTightWrong : ChangeSpec := { name := "roundTight", fn := fun _ => fun
  | [d1, d2] => { results := [.lit (.bool false)], args := [d1, d2] }
  | _ => none }
def RoundTightWrongFalsely : Prop := roundTightRow.holds Try.pinned (OpenSpec.ofChange roundTightWrong)

/-- 'custodiankeep.RoundAround': WHATEVER THE INPUT: true; the input reads as it did. -/
def roundAroundSpec : ChangeSpec := { name := "roundAround", fn := fun _ => fun
  | [d1, d2] => { results := [.lit (.bool true)], args := [d1, d2] }
  | _ => none }
def roundAroundRow : OpenClaim := { program := "ytpfnnlnlmajbfaa", sum := "4cb847a1ae1e35211724f876ac7d5f97842f972e5c0460d05a80e282bf159901", func := "custodian/custodiankeep.RoundAround", spec := "roundAround", apart := false }
def RoundAroundSaid : Prop := roundAroundRow.holds Try.pinned (OpenSpec.ofChange roundAroundSpec)

/-- ITS FALSE NEIGHBOUR: 'it returns false'. Refute it at one input. -/
def roundAroundWrong : ChangeSpec := { name := "roundAround", fn := fun _ => fun
  | [d1, d2] => { results := [.lit (.bool false)], args := [d1, d2] }
  | _ => none }
def RoundAroundWrongFalsely : Prop := roundAroundRow.holds Try.pinned (OpenSpec.ofChange roundAroundWrong)

/-- 'custodiankeep.RoundRises': WHATEVER THE INPUT: true; the input reads as it did. -/
def roundRisesSpec : ChangeSpec := { name := "roundRises", fn := fun _ => fun
  | [d1, d2, d3, d4] => { results := [.lit (.bool true)], args := [d1, d2, d3, d4] }
  | _ => none }
def roundRisesRow : OpenClaim := { program := "ytpfnnlnlmajbfaa", sum := "4cb847a1ae1e35211724f876ac7d5f97842f972e5c0460d05a80e282bf159901", func := "custodian/custodiankeep.RoundRises", spec := "roundRises", apart := false }
def RoundRisesSaid : Prop := roundRisesRow.holds Try.pinned (OpenSpec.ofChange roundRisesSpec)

/-- ITS FALSE NEIGHBOUR: 'it returns false'. Refute it at one input. -/
def roundRisesWrong : ChangeSpec := { name := "roundRises", fn := fun _ => fun
  | [d1, d2, d3, d4] => { results := [.lit (.bool false)], args := [d1, d2, d3, d4] }
  | _ => none }
def RoundRisesWrongFalsely : Prop := roundRisesRow.holds Try.pinned (OpenSpec.ofChange roundRisesWrong)

/-- 'custodiankeep.KeysNarrows': WHATEVER THE INPUT: true; the input reads as it did. -/
def keysNarrowsSpec : ChangeSpec := { name := "keysNarrows", fn := fun _ => fun
  | [d1, d2, d3, d4] => { results := [.lit (.bool true)], args := [d1, d2, d3, d4] }
  | _ => none }
def keysNarrowsRow : OpenClaim := { program := "ytpfnnlnlmajbfaa", sum := "4cb847a1ae1e35211724f876ac7d5f97842f972e5c0460d05a80e282bf159901", func := "custodian/custodiankeep.KeysNarrows", spec := "keysNarrows", apart := false }
def KeysNarrowsSaid : Prop := keysNarrowsRow.holds Try.pinned (OpenSpec.ofChange keysNarrowsSpec)

/-- ITS FALSE NEIGHBOUR: 'it returns false'. Refute it at one input. -/
def keysNarrowsWrong : ChangeSpec := { name := "keysNarrows", fn := fun _ => fun
  | [d1, d2, d3, d4] => { results := [.lit (.bool false)], args := [d1, d2, d3, d4] }
  | _ => none }
def KeysNarrowsWrongFalsely : Prop := keysNarrowsRow.holds Try.pinned (OpenSpec.ofChange keysNarrowsWrong)

/-- 'custodiankeep.KeysOrder': WHATEVER THE INPUT: true; the input reads as it did. -/
def keysOrderSpec : ChangeSpec := { name := "keysOrder", fn := fun _ => fun
  | [d1, d2, d3] => { results := [.lit (.bool true)], args := [d1, d2, d3] }
  | _ => none }
def keysOrderRow : OpenClaim := { program := "ytpfnnlnlmajbfaa", sum := "4cb847a1ae1e35211724f876ac7d5f97842f972e5c0460d05a80e282bf159901", func := "custodian/custodiankeep.KeysOrder", spec := "keysOrder", unfollowed := true, recurses := true, apart := false }
def KeysOrderSaid : Prop := keysOrderRow.holds Try.pinned (OpenSpec.ofChange keysOrderSpec)

/-- ITS FALSE NEIGHBOUR: 'it returns false'. Refute it at one input. -/
def keysOrderWrong : ChangeSpec := { name := "keysOrder", fn := fun _ => fun
  | [d1, d2, d3] => { results := [.lit (.bool false)], args := [d1, d2, d3] }
  | _ => none }
def KeysOrderWrongFalsely : Prop := keysOrderRow.holds Try.pinned (OpenSpec.ofChange keysOrderWrong)

/- THE SECOND FORM. 'bulk': how many values and letters a reading holds, each counted each time it is reached (what is shared counts as often as it is met; a slice's spare places count too). A statement '..UptoSaid' is the law's where the arguments, and the package variables that the reading takes, are together of bulk at most 1048576: NARROWER than '..Said'. Prove '..Said' where nothing that the law and all that it calls make is longer than what came in: it says more and counts as full. Else prove '..UptoSaid'. A law counts once. -/
mutual
def uptoBulk {H : Type} : DataW H → Nat
  | .lit (.string bytes) => bytes.length + 1
  | .lit _ => 1
  | .nil => 1
  | .ptr d => uptoBulk d + 1
  | .slice elems spare => uptoBulkAll elems + uptoBulkAll spare + 1
  | .agg parts => uptoBulkAll parts + 1
  | .iface _ d => uptoBulk d + 1
  | .map entries => uptoBulkEntries entries + 1
  | .held _ => 1
def uptoBulkAll {H : Type} : List (DataW H) → Nat
  | [] => 0
  | d :: r => uptoBulk d + uptoBulkAll r
def uptoBulkEntries {H : Type} : List (Lit × DataW H) → Nat
  | [] => 0
  | x :: r => uptoBulkEntry x + uptoBulkEntries r
def uptoBulkEntry {H : Type} : Lit × DataW H → Nat
  | (.string bytes, d) => bytes.length + uptoBulk d + 1
  | (_, d) => uptoBulk d + 1
 end
def uptoSmall : (H : Type) → List (DataW H) → Bool := fun _ ds => decide (uptoBulkAll ds ≤ 1048576)
def OpenSpec.upto (s : _root_.Go.ChangeSpec) : _root_.Go.OpenSpec := { _root_.Go.OpenSpec.ofChange s with cond := some uptoSmall }

/-- 'custodiankeep.NumWraps', WHERE WHAT IT READS IS OF BULK AT MOST 1048576: true; the input reads as it did. -/
def numWrapsUptoRow : OpenClaim := { program := "ytpfnnlnlmajbfaa", sum := "4cb847a1ae1e35211724f876ac7d5f97842f972e5c0460d05a80e282bf159901", func := "custodian/custodiankeep.NumWraps", spec := "numWraps", apart := false, narrowed := true }
def NumWrapsUptoSaid : Prop := numWrapsUptoRow.holds Try.pinned (OpenSpec.upto numWrapsSpec)

/-- 'custodiankeep.PermLattice', WHERE WHAT IT READS IS OF BULK AT MOST 1048576: true; the input reads as it did. -/
def permLatticeUptoRow : OpenClaim := { program := "ytpfnnlnlmajbfaa", sum := "4cb847a1ae1e35211724f876ac7d5f97842f972e5c0460d05a80e282bf159901", func := "custodian/custodiankeep.PermLattice", spec := "permLattice", unfollowed := true, recurses := true, apart := false, narrowed := true }
def PermLatticeUptoSaid : Prop := permLatticeUptoRow.holds Try.pinned (OpenSpec.upto permLatticeSpec)

/-- 'custodiankeep.NumRing', WHERE WHAT IT READS IS OF BULK AT MOST 1048576: true; the input reads as it did. -/
def numRingUptoRow : OpenClaim := { program := "ytpfnnlnlmajbfaa", sum := "4cb847a1ae1e35211724f876ac7d5f97842f972e5c0460d05a80e282bf159901", func := "custodian/custodiankeep.NumRing", spec := "numRing", unfollowed := true, recurses := true, apart := false, narrowed := true }
def NumRingUptoSaid : Prop := numRingUptoRow.holds Try.pinned (OpenSpec.upto numRingSpec)

/-- 'custodiankeep.NumDivides', WHERE WHAT IT READS IS OF BULK AT MOST 1048576: true; the input reads as it did. -/
def numDividesUptoRow : OpenClaim := { program := "ytpfnnlnlmajbfaa", sum := "4cb847a1ae1e35211724f876ac7d5f97842f972e5c0460d05a80e282bf159901", func := "custodian/custodiankeep.NumDivides", spec := "numDivides", apart := false, narrowed := true }
def NumDividesUptoSaid : Prop := numDividesUptoRow.holds Try.pinned (OpenSpec.upto numDividesSpec)

/-- 'custodiankeep.NumOrder', WHERE WHAT IT READS IS OF BULK AT MOST 1048576: true; the input reads as it did. -/
def numOrderUptoRow : OpenClaim := { program := "ytpfnnlnlmajbfaa", sum := "4cb847a1ae1e35211724f876ac7d5f97842f972e5c0460d05a80e282bf159901", func := "custodian/custodiankeep.NumOrder", spec := "numOrder", apart := false, narrowed := true }
def NumOrderUptoSaid : Prop := numOrderUptoRow.holds Try.pinned (OpenSpec.upto numOrderSpec)

/-- 'custodiankeep.NumDividesBack', WHERE WHAT IT READS IS OF BULK AT MOST 1048576: true; the input reads as it did. -/
def numDividesBackUptoRow : OpenClaim := { program := "ytpfnnlnlmajbfaa", sum := "4cb847a1ae1e35211724f876ac7d5f97842f972e5c0460d05a80e282bf159901", func := "custodian/custodiankeep.NumDividesBack", spec := "numDividesBack", apart := false, narrowed := true }
def NumDividesBackUptoSaid : Prop := numDividesBackUptoRow.holds Try.pinned (OpenSpec.upto numDividesBackSpec)

/-- 'custodiankeep.NumSigns', WHERE WHAT IT READS IS OF BULK AT MOST 1048576: true; the input reads as it did. -/
def numSignsUptoRow : OpenClaim := { program := "ytpfnnlnlmajbfaa", sum := "4cb847a1ae1e35211724f876ac7d5f97842f972e5c0460d05a80e282bf159901", func := "custodian/custodiankeep.NumSigns", spec := "numSigns", unfollowed := true, recurses := true, apart := false, narrowed := true }
def NumSignsUptoSaid : Prop := numSignsUptoRow.holds Try.pinned (OpenSpec.upto numSignsSpec)

/-- 'custodiankeep.RoundTight', WHERE WHAT IT READS IS OF BULK AT MOST 1048576: true; the input reads as it did. -/
def roundTightUptoRow : OpenClaim := { program := "ytpfnnlnlmajbfaa", sum := "4cb847a1ae1e35211724f876ac7d5f97842f972e5c0460d05a80e282bf159901", func := "custodian/custodiankeep.RoundTight", spec := "roundTight", apart := false, narrowed := true }
def RoundTightUptoSaid : Prop := roundTightUptoRow.holds Try.pinned (OpenSpec.upto roundTightSpec)

/-- 'custodiankeep.RoundAround', WHERE WHAT IT READS IS OF BULK AT MOST 1048576: true; the input reads as it did. -/
def roundAroundUptoRow : OpenClaim := { program := "ytpfnnlnlmajbfaa", sum := "4cb847a1ae1e35211724f876ac7d5f97842f972e5c0460d05a80e282bf159901", func := "custodian/custodiankeep.RoundAround", spec := "roundAround", apart := false, narrowed := true }
def RoundAroundUptoSaid : Prop := roundAroundUptoRow.holds Try.pinned (OpenSpec.upto roundAroundSpec)

/-- 'custodiankeep.RoundRises', WHERE WHAT IT READS IS OF BULK AT MOST 1048576: true; the input reads as it did. -/
def roundRisesUptoRow : OpenClaim := { program := "ytpfnnlnlmajbfaa", sum := "4cb847a1ae1e35211724f876ac7d5f97842f972e5c0460d05a80e282bf159901", func := "custodian/custodiankeep.RoundRises", spec := "roundRises", apart := false, narrowed := true }
def RoundRisesUptoSaid : Prop := roundRisesUptoRow.holds Try.pinned (OpenSpec.upto roundRisesSpec)

/-- 'custodiankeep.KeysNarrows', WHERE WHAT IT READS IS OF BULK AT MOST 1048576: true; the input reads as it did. -/
def keysNarrowsUptoRow : OpenClaim := { program := "ytpfnnlnlmajbfaa", sum := "4cb847a1ae1e35211724f876ac7d5f97842f972e5c0460d05a80e282bf159901", func := "custodian/custodiankeep.KeysNarrows", spec := "keysNarrows", apart := false, narrowed := true }
def KeysNarrowsUptoSaid : Prop := keysNarrowsUptoRow.holds Try.pinned (OpenSpec.upto keysNarrowsSpec)

/-- 'custodiankeep.KeysOrder', WHERE WHAT IT READS IS OF BULK AT MOST 1048576: true; the input reads as it did. -/
def keysOrderUptoRow : OpenClaim := { program := "ytpfnnlnlmajbfaa", sum := "4cb847a1ae1e35211724f876ac7d5f97842f972e5c0460d05a80e282bf159901", func := "custodian/custodiankeep.KeysOrder", spec := "keysOrder", unfollowed := true, recurses := true, apart := false, narrowed := true }
def KeysOrderUptoSaid : Prop := keysOrderUptoRow.holds Try.pinned (OpenSpec.upto keysOrderSpec)

end Rows
end Go.Proofs.Ytpfnnlnlmajbfaa
