/-
  NARROWER THAN 'FOR EVERY INPUT', by the rows' own cells (each row's printed sentence says how): RunSteps: laid · StepOwn: laid · SweepSafe: laid · RunGuards: laid · RunBlind: laid · EnterFuel: laid · EnterChain: laid · StepDown: laid · RunDown: laid · SweepAll: laid.
  DERIVED. THE GIVEN ROWS OF THIS SEAT. 10 by the template 'for every input the law returns true; each argument reads behind the call as it read before'; 0 by the template 'total and deterministic' (their statements: YtmffdgeebhpacaaDoorTotals.lean).
  GIVEN WITH THE SEED: the statements are not yours to turn. If you find one false, say at which input.
  Laid BY PROGRAM, IN A SANDBOX (cutbox-rows.mjs): the forced cells as the released guide's own fill.sh prints them over the translation 25945b3b405e0cfe… (all of the seat's roots in one cut). By AI agents, Wed Nov 11 2026. No macro, syntax, notation, axiom, sorry.
-/
import Derived.Test.YtmffdgeebhpacaaDoorChecked
import GoSem.Claim
import GoSem.ClaimJoined
import GoSem.ClaimMapViews
import Derived.JoinedTies
import Derived.KernelRfl
namespace Go.Proofs.YtmffdgeebhpacaaDoor
/- THE CELL 'sum', in the pinned program and in every row, IS THE sha256 OF THE DUMP (.gsa) THAT YtmffdgeebhpacaaDoorProg.lean LOADS. Nothing in Lean hashes anything: it is a label: what it is worth is what the hold of that sum in a sandbox is worth. -/
noncomputable def Tryd.pinned : Pinned := { name := "ytmffdgeebhpacaadoor", sum := "25945b3b405e0cfeb9ab80c079e69cffeff79dba02eefa91a3de1c4bbf26e694", checked := Tryd.checked }
namespace Rows
def none {H : Type} : Left H := { results := [], args := [] }

/- WHAT THE LISTED PACKAGE-LEVEL VARIABLES READ AS WHEN THE CALL BEGINS. Each datum BY PROGRAM (the guide's laid-datum.mjs) off the statement by which the dump's own 'gosem.cut.vars' lays the variable. In a bare row this is a premise. The card (YtmffdgeebhpacaaDoorCards.lean) ties it to the program's text. -/
def laid_unicode_White_Space {H : Type} : DataW H := .ptr (.agg [.slice [.agg [.lit (.int .u16 9), .lit (.int .u16 13), .lit (.int .u16 1)], .agg [.lit (.int .u16 32), .lit (.int .u16 133), .lit (.int .u16 101)], .agg [.lit (.int .u16 160), .lit (.int .u16 5760), .lit (.int .u16 5600)], .agg [.lit (.int .u16 8192), .lit (.int .u16 8202), .lit (.int .u16 1)], .agg [.lit (.int .u16 8232), .lit (.int .u16 8233), .lit (.int .u16 1)], .agg [.lit (.int .u16 8239), .lit (.int .u16 8287), .lit (.int .u16 48)], .agg [.lit (.int .u16 12288), .lit (.int .u16 12288), .lit (.int .u16 1)]] [], .nil, .lit (.int .i64 2)])
def laid_strings_asciiSpace {H : Type} : DataW H := .agg [.lit (.int .u8 0), .lit (.int .u8 0), .lit (.int .u8 0), .lit (.int .u8 0), .lit (.int .u8 0), .lit (.int .u8 0), .lit (.int .u8 0), .lit (.int .u8 0), .lit (.int .u8 0), .lit (.int .u8 1), .lit (.int .u8 1), .lit (.int .u8 1), .lit (.int .u8 1), .lit (.int .u8 1), .lit (.int .u8 0), .lit (.int .u8 0), .lit (.int .u8 0), .lit (.int .u8 0), .lit (.int .u8 0), .lit (.int .u8 0), .lit (.int .u8 0), .lit (.int .u8 0), .lit (.int .u8 0), .lit (.int .u8 0), .lit (.int .u8 0), .lit (.int .u8 0), .lit (.int .u8 0), .lit (.int .u8 0), .lit (.int .u8 0), .lit (.int .u8 0), .lit (.int .u8 0), .lit (.int .u8 0), .lit (.int .u8 1), .lit (.int .u8 0), .lit (.int .u8 0), .lit (.int .u8 0), .lit (.int .u8 0), .lit (.int .u8 0), .lit (.int .u8 0), .lit (.int .u8 0), .lit (.int .u8 0), .lit (.int .u8 0), .lit (.int .u8 0), .lit (.int .u8 0), .lit (.int .u8 0), .lit (.int .u8 0), .lit (.int .u8 0), .lit (.int .u8 0), .lit (.int .u8 0), .lit (.int .u8 0), .lit (.int .u8 0), .lit (.int .u8 0), .lit (.int .u8 0), .lit (.int .u8 0), .lit (.int .u8 0), .lit (.int .u8 0), .lit (.int .u8 0), .lit (.int .u8 0), .lit (.int .u8 0), .lit (.int .u8 0), .lit (.int .u8 0), .lit (.int .u8 0), .lit (.int .u8 0), .lit (.int .u8 0), .lit (.int .u8 0), .lit (.int .u8 0), .lit (.int .u8 0), .lit (.int .u8 0), .lit (.int .u8 0), .lit (.int .u8 0), .lit (.int .u8 0), .lit (.int .u8 0), .lit (.int .u8 0), .lit (.int .u8 0), .lit (.int .u8 0), .lit (.int .u8 0), .lit (.int .u8 0), .lit (.int .u8 0), .lit (.int .u8 0), .lit (.int .u8 0), .lit (.int .u8 0), .lit (.int .u8 0), .lit (.int .u8 0), .lit (.int .u8 0), .lit (.int .u8 0), .lit (.int .u8 0), .lit (.int .u8 0), .lit (.int .u8 0), .lit (.int .u8 0), .lit (.int .u8 0), .lit (.int .u8 0), .lit (.int .u8 0), .lit (.int .u8 0), .lit (.int .u8 0), .lit (.int .u8 0), .lit (.int .u8 0), .lit (.int .u8 0), .lit (.int .u8 0), .lit (.int .u8 0), .lit (.int .u8 0), .lit (.int .u8 0), .lit (.int .u8 0), .lit (.int .u8 0), .lit (.int .u8 0), .lit (.int .u8 0), .lit (.int .u8 0), .lit (.int .u8 0), .lit (.int .u8 0), .lit (.int .u8 0), .lit (.int .u8 0), .lit (.int .u8 0), .lit (.int .u8 0), .lit (.int .u8 0), .lit (.int .u8 0), .lit (.int .u8 0), .lit (.int .u8 0), .lit (.int .u8 0), .lit (.int .u8 0), .lit (.int .u8 0), .lit (.int .u8 0), .lit (.int .u8 0), .lit (.int .u8 0), .lit (.int .u8 0), .lit (.int .u8 0), .lit (.int .u8 0), .lit (.int .u8 0), .lit (.int .u8 0), .lit (.int .u8 0), .lit (.int .u8 0), .lit (.int .u8 0), .lit (.int .u8 0), .lit (.int .u8 0), .lit (.int .u8 0), .lit (.int .u8 0), .lit (.int .u8 0), .lit (.int .u8 0), .lit (.int .u8 0), .lit (.int .u8 0), .lit (.int .u8 0), .lit (.int .u8 0), .lit (.int .u8 0), .lit (.int .u8 0), .lit (.int .u8 0), .lit (.int .u8 0), .lit (.int .u8 0), .lit (.int .u8 0), .lit (.int .u8 0), .lit (.int .u8 0), .lit (.int .u8 0), .lit (.int .u8 0), .lit (.int .u8 0), .lit (.int .u8 0), .lit (.int .u8 0), .lit (.int .u8 0), .lit (.int .u8 0), .lit (.int .u8 0), .lit (.int .u8 0), .lit (.int .u8 0), .lit (.int .u8 0), .lit (.int .u8 0), .lit (.int .u8 0), .lit (.int .u8 0), .lit (.int .u8 0), .lit (.int .u8 0), .lit (.int .u8 0), .lit (.int .u8 0), .lit (.int .u8 0), .lit (.int .u8 0), .lit (.int .u8 0), .lit (.int .u8 0), .lit (.int .u8 0), .lit (.int .u8 0), .lit (.int .u8 0), .lit (.int .u8 0), .lit (.int .u8 0), .lit (.int .u8 0), .lit (.int .u8 0), .lit (.int .u8 0), .lit (.int .u8 0), .lit (.int .u8 0), .lit (.int .u8 0), .lit (.int .u8 0), .lit (.int .u8 0), .lit (.int .u8 0), .lit (.int .u8 0), .lit (.int .u8 0), .lit (.int .u8 0), .lit (.int .u8 0), .lit (.int .u8 0), .lit (.int .u8 0), .lit (.int .u8 0), .lit (.int .u8 0), .lit (.int .u8 0), .lit (.int .u8 0), .lit (.int .u8 0), .lit (.int .u8 0), .lit (.int .u8 0), .lit (.int .u8 0), .lit (.int .u8 0), .lit (.int .u8 0), .lit (.int .u8 0), .lit (.int .u8 0), .lit (.int .u8 0), .lit (.int .u8 0), .lit (.int .u8 0), .lit (.int .u8 0), .lit (.int .u8 0), .lit (.int .u8 0), .lit (.int .u8 0), .lit (.int .u8 0), .lit (.int .u8 0), .lit (.int .u8 0), .lit (.int .u8 0), .lit (.int .u8 0), .lit (.int .u8 0), .lit (.int .u8 0), .lit (.int .u8 0), .lit (.int .u8 0), .lit (.int .u8 0), .lit (.int .u8 0), .lit (.int .u8 0), .lit (.int .u8 0), .lit (.int .u8 0), .lit (.int .u8 0), .lit (.int .u8 0), .lit (.int .u8 0), .lit (.int .u8 0), .lit (.int .u8 0), .lit (.int .u8 0), .lit (.int .u8 0), .lit (.int .u8 0), .lit (.int .u8 0), .lit (.int .u8 0), .lit (.int .u8 0), .lit (.int .u8 0), .lit (.int .u8 0), .lit (.int .u8 0), .lit (.int .u8 0), .lit (.int .u8 0), .lit (.int .u8 0), .lit (.int .u8 0), .lit (.int .u8 0), .lit (.int .u8 0), .lit (.int .u8 0), .lit (.int .u8 0), .lit (.int .u8 0), .lit (.int .u8 0), .lit (.int .u8 0), .lit (.int .u8 0), .lit (.int .u8 0), .lit (.int .u8 0), .lit (.int .u8 0), .lit (.int .u8 0), .lit (.int .u8 0), .lit (.int .u8 0), .lit (.int .u8 0)]

/-- 'custodiankeep.RunSteps': WHATEVER THE INPUT: true; the input reads as it did. -/
def runStepsSpec : ChangeSpec := { name := "runSteps", fn := fun _ => fun
  | [d1, d2] => { results := [.lit (.bool true)], args := [d1, d2] }
  | _ => none }
def runStepsRow : OpenClaim := { program := "ytmffdgeebhpacaadoor", sum := "25945b3b405e0cfeb9ab80c079e69cffeff79dba02eefa91a3de1c4bbf26e694", func := "custodian/custodiankeep.RunSteps", spec := "runSteps", unfollowed := true, recurses := true, named := ["strings.asciiSpace", "unicode.White_Space"], plainKeys := false, apart := false, laid := [("unicode.White_Space", laid_unicode_White_Space), ("strings.asciiSpace", laid_strings_asciiSpace)] }
def RunStepsSaid : Prop := runStepsRow.holds Tryd.pinned (OpenSpec.ofChange runStepsSpec)

/-- ITS FALSE NEIGHBOUR: 'it returns false'. Refute it at one input. -/
def runStepsWrong : ChangeSpec := { name := "runSteps", fn := fun _ => fun
  | [d1, d2] => { results := [.lit (.bool false)], args := [d1, d2] }
  | _ => none }
def RunStepsWrongFalsely : Prop := runStepsRow.holds Tryd.pinned (OpenSpec.ofChange runStepsWrong)

/-- 'custodiankeep.StepOwn': WHATEVER THE INPUT: true; the input reads as it did. -/
def stepOwnSpec : ChangeSpec := { name := "stepOwn", fn := fun _ => fun
  | [d1, d2] => { results := [.lit (.bool true)], args := [d1, d2] }
  | _ => none }
def stepOwnRow : OpenClaim := { program := "ytmffdgeebhpacaadoor", sum := "25945b3b405e0cfeb9ab80c079e69cffeff79dba02eefa91a3de1c4bbf26e694", func := "custodian/custodiankeep.StepOwn", spec := "stepOwn", unfollowed := true, recurses := true, named := ["strings.asciiSpace", "unicode.White_Space"], plainKeys := false, apart := false, laid := [("unicode.White_Space", laid_unicode_White_Space), ("strings.asciiSpace", laid_strings_asciiSpace)] }
def StepOwnSaid : Prop := stepOwnRow.holds Tryd.pinned (OpenSpec.ofChange stepOwnSpec)

/-- ITS FALSE NEIGHBOUR: 'it returns false'. Refute it at one input. -/
def stepOwnWrong : ChangeSpec := { name := "stepOwn", fn := fun _ => fun
  | [d1, d2] => { results := [.lit (.bool false)], args := [d1, d2] }
  | _ => none }
def StepOwnWrongFalsely : Prop := stepOwnRow.holds Tryd.pinned (OpenSpec.ofChange stepOwnWrong)

/-- 'custodiankeep.SweepSafe': WHATEVER THE INPUT: true; the input reads as it did. -/
def sweepSafeSpec : ChangeSpec := { name := "sweepSafe", fn := fun _ => fun
  | [d1, d2, d3, d4, d5] => { results := [.lit (.bool true)], args := [d1, d2, d3, d4, d5] }
  | _ => none }
def sweepSafeRow : OpenClaim := { program := "ytmffdgeebhpacaadoor", sum := "25945b3b405e0cfeb9ab80c079e69cffeff79dba02eefa91a3de1c4bbf26e694", func := "custodian/custodiankeep.SweepSafe", spec := "sweepSafe", unfollowed := true, recurses := true, named := ["strings.asciiSpace", "unicode.White_Space"], plainKeys := false, apart := false, laid := [("unicode.White_Space", laid_unicode_White_Space), ("strings.asciiSpace", laid_strings_asciiSpace)] }
def SweepSafeSaid : Prop := sweepSafeRow.holds Tryd.pinned (OpenSpec.ofChange sweepSafeSpec)

/-- ITS FALSE NEIGHBOUR: 'it returns false'. Refute it at one input. -/
def sweepSafeWrong : ChangeSpec := { name := "sweepSafe", fn := fun _ => fun
  | [d1, d2, d3, d4, d5] => { results := [.lit (.bool false)], args := [d1, d2, d3, d4, d5] }
  | _ => none }
def SweepSafeWrongFalsely : Prop := sweepSafeRow.holds Tryd.pinned (OpenSpec.ofChange sweepSafeWrong)

/-- 'custodiankeep.RunGuards': WHATEVER THE INPUT: true; the input reads as it did. -/
def runGuardsSpec : ChangeSpec := { name := "runGuards", fn := fun _ => fun
  | [d1, d2] => { results := [.lit (.bool true)], args := [d1, d2] }
  | _ => none }
def runGuardsRow : OpenClaim := { program := "ytmffdgeebhpacaadoor", sum := "25945b3b405e0cfeb9ab80c079e69cffeff79dba02eefa91a3de1c4bbf26e694", func := "custodian/custodiankeep.RunGuards", spec := "runGuards", unfollowed := true, recurses := true, named := ["strings.asciiSpace", "unicode.White_Space"], plainKeys := false, apart := false, laid := [("unicode.White_Space", laid_unicode_White_Space), ("strings.asciiSpace", laid_strings_asciiSpace)] }
def RunGuardsSaid : Prop := runGuardsRow.holds Tryd.pinned (OpenSpec.ofChange runGuardsSpec)

/-- ITS FALSE NEIGHBOUR: 'it returns false'. Refute it at one input. -/
def runGuardsWrong : ChangeSpec := { name := "runGuards", fn := fun _ => fun
  | [d1, d2] => { results := [.lit (.bool false)], args := [d1, d2] }
  | _ => none }
def RunGuardsWrongFalsely : Prop := runGuardsRow.holds Tryd.pinned (OpenSpec.ofChange runGuardsWrong)

/-- 'custodiankeep.RunBlind': WHATEVER THE INPUT: true; the input reads as it did. -/
def runBlindSpec : ChangeSpec := { name := "runBlind", fn := fun _ => fun
  | [d1, d2, d3] => { results := [.lit (.bool true)], args := [d1, d2, d3] }
  | _ => none }
def runBlindRow : OpenClaim := { program := "ytmffdgeebhpacaadoor", sum := "25945b3b405e0cfeb9ab80c079e69cffeff79dba02eefa91a3de1c4bbf26e694", func := "custodian/custodiankeep.RunBlind", spec := "runBlind", unfollowed := true, recurses := true, named := ["strings.asciiSpace", "unicode.White_Space"], plainKeys := false, apart := false, laid := [("unicode.White_Space", laid_unicode_White_Space), ("strings.asciiSpace", laid_strings_asciiSpace)] }
def RunBlindSaid : Prop := runBlindRow.holds Tryd.pinned (OpenSpec.ofChange runBlindSpec)

/-- ITS FALSE NEIGHBOUR: 'it returns false'. Refute it at one input. -/
def runBlindWrong : ChangeSpec := { name := "runBlind", fn := fun _ => fun
  | [d1, d2, d3] => { results := [.lit (.bool false)], args := [d1, d2, d3] }
  | _ => none }
def RunBlindWrongFalsely : Prop := runBlindRow.holds Tryd.pinned (OpenSpec.ofChange runBlindWrong)

/-- 'custodiankeep.EnterFuel': WHATEVER THE INPUT: true; the input reads as it did. -/
def enterFuelSpec : ChangeSpec := { name := "enterFuel", fn := fun _ => fun
  | [d1, d2, d3] => { results := [.lit (.bool true)], args := [d1, d2, d3] }
  | _ => none }
def enterFuelRow : OpenClaim := { program := "ytmffdgeebhpacaadoor", sum := "25945b3b405e0cfeb9ab80c079e69cffeff79dba02eefa91a3de1c4bbf26e694", func := "custodian/custodiankeep.EnterFuel", spec := "enterFuel", unfollowed := true, recurses := true, named := ["strings.asciiSpace", "unicode.White_Space"], plainKeys := false, apart := false, laid := [("unicode.White_Space", laid_unicode_White_Space), ("strings.asciiSpace", laid_strings_asciiSpace)] }
def EnterFuelSaid : Prop := enterFuelRow.holds Tryd.pinned (OpenSpec.ofChange enterFuelSpec)

/-- ITS FALSE NEIGHBOUR: 'it returns false'. Refute it at one input. -/
def enterFuelWrong : ChangeSpec := { name := "enterFuel", fn := fun _ => fun
  | [d1, d2, d3] => { results := [.lit (.bool false)], args := [d1, d2, d3] }
  | _ => none }
def EnterFuelWrongFalsely : Prop := enterFuelRow.holds Tryd.pinned (OpenSpec.ofChange enterFuelWrong)

/-- 'custodiankeep.EnterChain': WHATEVER THE INPUT: true; the input reads as it did. -/
def enterChainSpec : ChangeSpec := { name := "enterChain", fn := fun _ => fun
  | [d1, d2] => { results := [.lit (.bool true)], args := [d1, d2] }
  | _ => none }
def enterChainRow : OpenClaim := { program := "ytmffdgeebhpacaadoor", sum := "25945b3b405e0cfeb9ab80c079e69cffeff79dba02eefa91a3de1c4bbf26e694", func := "custodian/custodiankeep.EnterChain", spec := "enterChain", unfollowed := true, recurses := true, named := ["strings.asciiSpace", "unicode.White_Space"], plainKeys := false, apart := false, laid := [("unicode.White_Space", laid_unicode_White_Space), ("strings.asciiSpace", laid_strings_asciiSpace)] }
def EnterChainSaid : Prop := enterChainRow.holds Tryd.pinned (OpenSpec.ofChange enterChainSpec)

/-- ITS FALSE NEIGHBOUR: 'it returns false'. Refute it at one input. -/
def enterChainWrong : ChangeSpec := { name := "enterChain", fn := fun _ => fun
  | [d1, d2] => { results := [.lit (.bool false)], args := [d1, d2] }
  | _ => none }
def EnterChainWrongFalsely : Prop := enterChainRow.holds Tryd.pinned (OpenSpec.ofChange enterChainWrong)

/-- 'custodiankeep.StepDown': WHATEVER THE INPUT: true; the input reads as it did. -/
def stepDownSpec : ChangeSpec := { name := "stepDown", fn := fun _ => fun
  | [d] => { results := [.lit (.bool true)], args := [d] }
  | _ => none }
def stepDownRow : OpenClaim := { program := "ytmffdgeebhpacaadoor", sum := "25945b3b405e0cfeb9ab80c079e69cffeff79dba02eefa91a3de1c4bbf26e694", func := "custodian/custodiankeep.StepDown", spec := "stepDown", unfollowed := true, recurses := true, named := ["strings.asciiSpace", "unicode.White_Space"], plainKeys := false, apart := false, laid := [("unicode.White_Space", laid_unicode_White_Space), ("strings.asciiSpace", laid_strings_asciiSpace)] }
def StepDownSaid : Prop := stepDownRow.holds Tryd.pinned (OpenSpec.ofChange stepDownSpec)

/-- ITS FALSE NEIGHBOUR: 'it returns false'. Refute it at one input. -/
def stepDownWrong : ChangeSpec := { name := "stepDown", fn := fun _ => fun
  | [d] => { results := [.lit (.bool false)], args := [d] }
  | _ => none }
def StepDownWrongFalsely : Prop := stepDownRow.holds Tryd.pinned (OpenSpec.ofChange stepDownWrong)

/-- 'custodiankeep.RunDown': WHATEVER THE INPUT: true; the input reads as it did. -/
def runDownSpec : ChangeSpec := { name := "runDown", fn := fun _ => fun
  | [d1, d2] => { results := [.lit (.bool true)], args := [d1, d2] }
  | _ => none }
def runDownRow : OpenClaim := { program := "ytmffdgeebhpacaadoor", sum := "25945b3b405e0cfeb9ab80c079e69cffeff79dba02eefa91a3de1c4bbf26e694", func := "custodian/custodiankeep.RunDown", spec := "runDown", unfollowed := true, recurses := true, named := ["strings.asciiSpace", "unicode.White_Space"], plainKeys := false, apart := false, laid := [("unicode.White_Space", laid_unicode_White_Space), ("strings.asciiSpace", laid_strings_asciiSpace)] }
def RunDownSaid : Prop := runDownRow.holds Tryd.pinned (OpenSpec.ofChange runDownSpec)

/-- ITS FALSE NEIGHBOUR: 'it returns false'. Refute it at one input. -/
def runDownWrong : ChangeSpec := { name := "runDown", fn := fun _ => fun
  | [d1, d2] => { results := [.lit (.bool false)], args := [d1, d2] }
  | _ => none }
def RunDownWrongFalsely : Prop := runDownRow.holds Tryd.pinned (OpenSpec.ofChange runDownWrong)

/-- 'custodiankeep.SweepAll': WHATEVER THE INPUT: true; the input reads as it did. -/
def sweepAllSpec : ChangeSpec := { name := "sweepAll", fn := fun _ => fun
  | [d] => { results := [.lit (.bool true)], args := [d] }
  | _ => none }
def sweepAllRow : OpenClaim := { program := "ytmffdgeebhpacaadoor", sum := "25945b3b405e0cfeb9ab80c079e69cffeff79dba02eefa91a3de1c4bbf26e694", func := "custodian/custodiankeep.SweepAll", spec := "sweepAll", unfollowed := true, recurses := true, named := ["strings.asciiSpace", "unicode.White_Space"], plainKeys := false, apart := false, laid := [("unicode.White_Space", laid_unicode_White_Space), ("strings.asciiSpace", laid_strings_asciiSpace)] }
def SweepAllSaid : Prop := sweepAllRow.holds Tryd.pinned (OpenSpec.ofChange sweepAllSpec)

/-- ITS FALSE NEIGHBOUR: 'it returns false'. Refute it at one input. -/
def sweepAllWrong : ChangeSpec := { name := "sweepAll", fn := fun _ => fun
  | [d] => { results := [.lit (.bool false)], args := [d] }
  | _ => none }
def SweepAllWrongFalsely : Prop := sweepAllRow.holds Tryd.pinned (OpenSpec.ofChange sweepAllWrong)

/- THE SECOND FORM. 'bulk': how many values and letters a reading holds, each counted each time it is reached (what is shared counts as often as it is met; a slice's spare places count too). A statement '..UptoSaid' is the law's where the arguments, and the package variables that the reading takes, are together of bulk at most 1048576: NARROWER than '..Said'. Prove '..Said' where nothing that the law and all that it calls make is longer than what came in: it says more and counts as full. Else prove '..UptoSaid'. A law counts once. -/
mutual
def uptoBulk {H : Type} : DataW H → Nat
  | .lit (.string bytes) => bytes.length + 1
  | .lit _ => 1
  | .nil => 1
  | .ptr d => uptoBulk d + 1
  | .slice elems spare => uptoBulkAll elems + uptoBulkAll spare + 1
  | .agg parts => uptoBulkAll parts + 1
  | .iface _ d => uptoBulk d + 1
  | .map entries => uptoBulkEntries entries + 1
  | .held _ => 1
def uptoBulkAll {H : Type} : List (DataW H) → Nat
  | [] => 0
  | d :: r => uptoBulk d + uptoBulkAll r
def uptoBulkEntries {H : Type} : List (Lit × DataW H) → Nat
  | [] => 0
  | x :: r => uptoBulkEntry x + uptoBulkEntries r
def uptoBulkEntry {H : Type} : Lit × DataW H → Nat
  | (.string bytes, d) => bytes.length + uptoBulk d + 1
  | (_, d) => uptoBulk d + 1
 end
def uptoSmall : (H : Type) → List (DataW H) → Bool := fun _ ds => decide (uptoBulkAll ds ≤ 1048576)
def OpenSpec.upto (s : _root_.Go.ChangeSpec) : _root_.Go.OpenSpec := { _root_.Go.OpenSpec.ofChange s with cond := some uptoSmall }

/-- 'custodiankeep.RunSteps', WHERE WHAT IT READS IS OF BULK AT MOST 1048576: true; the input reads as it did. -/
def runStepsUptoRow : OpenClaim := { program := "ytmffdgeebhpacaadoor", sum := "25945b3b405e0cfeb9ab80c079e69cffeff79dba02eefa91a3de1c4bbf26e694", func := "custodian/custodiankeep.RunSteps", spec := "runSteps", unfollowed := true, recurses := true, named := ["strings.asciiSpace", "unicode.White_Space"], plainKeys := false, apart := false, laid := [("unicode.White_Space", laid_unicode_White_Space), ("strings.asciiSpace", laid_strings_asciiSpace)], narrowed := true }
def RunStepsUptoSaid : Prop := runStepsUptoRow.holds Tryd.pinned (OpenSpec.upto runStepsSpec)

/-- 'custodiankeep.StepOwn', WHERE WHAT IT READS IS OF BULK AT MOST 1048576: true; the input reads as it did. -/
def stepOwnUptoRow : OpenClaim := { program := "ytmffdgeebhpacaadoor", sum := "25945b3b405e0cfeb9ab80c079e69cffeff79dba02eefa91a3de1c4bbf26e694", func := "custodian/custodiankeep.StepOwn", spec := "stepOwn", unfollowed := true, recurses := true, named := ["strings.asciiSpace", "unicode.White_Space"], plainKeys := false, apart := false, laid := [("unicode.White_Space", laid_unicode_White_Space), ("strings.asciiSpace", laid_strings_asciiSpace)], narrowed := true }
def StepOwnUptoSaid : Prop := stepOwnUptoRow.holds Tryd.pinned (OpenSpec.upto stepOwnSpec)

/-- 'custodiankeep.SweepSafe', WHERE WHAT IT READS IS OF BULK AT MOST 1048576: true; the input reads as it did. -/
def sweepSafeUptoRow : OpenClaim := { program := "ytmffdgeebhpacaadoor", sum := "25945b3b405e0cfeb9ab80c079e69cffeff79dba02eefa91a3de1c4bbf26e694", func := "custodian/custodiankeep.SweepSafe", spec := "sweepSafe", unfollowed := true, recurses := true, named := ["strings.asciiSpace", "unicode.White_Space"], plainKeys := false, apart := false, laid := [("unicode.White_Space", laid_unicode_White_Space), ("strings.asciiSpace", laid_strings_asciiSpace)], narrowed := true }
def SweepSafeUptoSaid : Prop := sweepSafeUptoRow.holds Tryd.pinned (OpenSpec.upto sweepSafeSpec)

/-- 'custodiankeep.RunGuards', WHERE WHAT IT READS IS OF BULK AT MOST 1048576: true; the input reads as it did. -/
def runGuardsUptoRow : OpenClaim := { program := "ytmffdgeebhpacaadoor", sum := "25945b3b405e0cfeb9ab80c079e69cffeff79dba02eefa91a3de1c4bbf26e694", func := "custodian/custodiankeep.RunGuards", spec := "runGuards", unfollowed := true, recurses := true, named := ["strings.asciiSpace", "unicode.White_Space"], plainKeys := false, apart := false, laid := [("unicode.White_Space", laid_unicode_White_Space), ("strings.asciiSpace", laid_strings_asciiSpace)], narrowed := true }
def RunGuardsUptoSaid : Prop := runGuardsUptoRow.holds Tryd.pinned (OpenSpec.upto runGuardsSpec)

/-- 'custodiankeep.RunBlind', WHERE WHAT IT READS IS OF BULK AT MOST 1048576: true; the input reads as it did. -/
def runBlindUptoRow : OpenClaim := { program := "ytmffdgeebhpacaadoor", sum := "25945b3b405e0cfeb9ab80c079e69cffeff79dba02eefa91a3de1c4bbf26e694", func := "custodian/custodiankeep.RunBlind", spec := "runBlind", unfollowed := true, recurses := true, named := ["strings.asciiSpace", "unicode.White_Space"], plainKeys := false, apart := false, laid := [("unicode.White_Space", laid_unicode_White_Space), ("strings.asciiSpace", laid_strings_asciiSpace)], narrowed := true }
def RunBlindUptoSaid : Prop := runBlindUptoRow.holds Tryd.pinned (OpenSpec.upto runBlindSpec)

/-- 'custodiankeep.EnterFuel', WHERE WHAT IT READS IS OF BULK AT MOST 1048576: true; the input reads as it did. -/
def enterFuelUptoRow : OpenClaim := { program := "ytmffdgeebhpacaadoor", sum := "25945b3b405e0cfeb9ab80c079e69cffeff79dba02eefa91a3de1c4bbf26e694", func := "custodian/custodiankeep.EnterFuel", spec := "enterFuel", unfollowed := true, recurses := true, named := ["strings.asciiSpace", "unicode.White_Space"], plainKeys := false, apart := false, laid := [("unicode.White_Space", laid_unicode_White_Space), ("strings.asciiSpace", laid_strings_asciiSpace)], narrowed := true }
def EnterFuelUptoSaid : Prop := enterFuelUptoRow.holds Tryd.pinned (OpenSpec.upto enterFuelSpec)

/-- 'custodiankeep.EnterChain', WHERE WHAT IT READS IS OF BULK AT MOST 1048576: true; the input reads as it did. -/
def enterChainUptoRow : OpenClaim := { program := "ytmffdgeebhpacaadoor", sum := "25945b3b405e0cfeb9ab80c079e69cffeff79dba02eefa91a3de1c4bbf26e694", func := "custodian/custodiankeep.EnterChain", spec := "enterChain", unfollowed := true, recurses := true, named := ["strings.asciiSpace", "unicode.White_Space"], plainKeys := false, apart := false, laid := [("unicode.White_Space", laid_unicode_White_Space), ("strings.asciiSpace", laid_strings_asciiSpace)], narrowed := true }
def EnterChainUptoSaid : Prop := enterChainUptoRow.holds Tryd.pinned (OpenSpec.upto enterChainSpec)

/-- 'custodiankeep.StepDown', WHERE WHAT IT READS IS OF BULK AT MOST 1048576: true; the input reads as it did. -/
def stepDownUptoRow : OpenClaim := { program := "ytmffdgeebhpacaadoor", sum := "25945b3b405e0cfeb9ab80c079e69cffeff79dba02eefa91a3de1c4bbf26e694", func := "custodian/custodiankeep.StepDown", spec := "stepDown", unfollowed := true, recurses := true, named := ["strings.asciiSpace", "unicode.White_Space"], plainKeys := false, apart := false, laid := [("unicode.White_Space", laid_unicode_White_Space), ("strings.asciiSpace", laid_strings_asciiSpace)], narrowed := true }
def StepDownUptoSaid : Prop := stepDownUptoRow.holds Tryd.pinned (OpenSpec.upto stepDownSpec)

/-- 'custodiankeep.RunDown', WHERE WHAT IT READS IS OF BULK AT MOST 1048576: true; the input reads as it did. -/
def runDownUptoRow : OpenClaim := { program := "ytmffdgeebhpacaadoor", sum := "25945b3b405e0cfeb9ab80c079e69cffeff79dba02eefa91a3de1c4bbf26e694", func := "custodian/custodiankeep.RunDown", spec := "runDown", unfollowed := true, recurses := true, named := ["strings.asciiSpace", "unicode.White_Space"], plainKeys := false, apart := false, laid := [("unicode.White_Space", laid_unicode_White_Space), ("strings.asciiSpace", laid_strings_asciiSpace)], narrowed := true }
def RunDownUptoSaid : Prop := runDownUptoRow.holds Tryd.pinned (OpenSpec.upto runDownSpec)

/-- 'custodiankeep.SweepAll', WHERE WHAT IT READS IS OF BULK AT MOST 1048576: true; the input reads as it did. -/
def sweepAllUptoRow : OpenClaim := { program := "ytmffdgeebhpacaadoor", sum := "25945b3b405e0cfeb9ab80c079e69cffeff79dba02eefa91a3de1c4bbf26e694", func := "custodian/custodiankeep.SweepAll", spec := "sweepAll", unfollowed := true, recurses := true, named := ["strings.asciiSpace", "unicode.White_Space"], plainKeys := false, apart := false, laid := [("unicode.White_Space", laid_unicode_White_Space), ("strings.asciiSpace", laid_strings_asciiSpace)], narrowed := true }
def SweepAllUptoSaid : Prop := sweepAllUptoRow.holds Tryd.pinned (OpenSpec.upto sweepAllSpec)

end Rows
end Go.Proofs.YtmffdgeebhpacaaDoor
