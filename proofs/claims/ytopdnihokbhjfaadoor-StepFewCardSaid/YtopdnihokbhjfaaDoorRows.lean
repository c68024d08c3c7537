/-
  NARROWER THAN 'FOR EVERY INPUT', by the rows' own cells (each row's printed sentence says how): StepOne: laid · StepFew: laid · StepGoes: laid · StepLocal: laid · StepSame: laid · RunSplits: laid · RunTells: laid · RunNone: laid · RunSteps: laid.
  DERIVED. THE GIVEN ROWS OF THIS SEAT. 9 by the template 'for every input the law returns true; each argument reads behind the call as it read before'; 0 by the template 'total and deterministic' (their statements: YtopdnihokbhjfaaDoorTotals.lean).
  GIVEN WITH THE SEED: the statements are not yours to turn. If you find one false, say at which input.
  Laid BY PROGRAM, IN A SANDBOX (cutbox-rows.mjs): the forced cells as the released guide's own fill.sh prints them over the translation 1c9cec471547678a… (all of the seat's roots in one cut). By AI agents, Wed Nov 11 2026. No macro, syntax, notation, axiom, sorry.
-/
import Derived.Test.YtopdnihokbhjfaaDoorChecked
import GoSem.Claim
import GoSem.ClaimJoined
import GoSem.ClaimMapViews
import Derived.JoinedTies
import Derived.KernelRfl
namespace Go.Proofs.YtopdnihokbhjfaaDoor
/- THE CELL 'sum', in the pinned program and in every row, IS THE sha256 OF THE DUMP (.gsa) THAT YtopdnihokbhjfaaDoorProg.lean LOADS. Nothing in Lean hashes anything: it is a label: what it is worth is what the hold of that sum in a sandbox is worth. -/
noncomputable def Tryd.pinned : Pinned := { name := "ytopdnihokbhjfaadoor", sum := "1c9cec471547678a1a3ba50c026e4ec34ab1a7c258bfc40ba92668e4aa1bf4cc", checked := Tryd.checked }
namespace Rows
def none {H : Type} : Left H := { results := [], args := [] }

/- WHAT THE LISTED PACKAGE-LEVEL VARIABLES READ AS WHEN THE CALL BEGINS. Each datum BY PROGRAM (the guide's laid-datum.mjs) off the statement by which the dump's own 'gosem.cut.vars' lays the variable. In a bare row this is a premise. The card (YtopdnihokbhjfaaDoorCards.lean) ties it to the program's text. -/
def laid_unicode_White_Space {H : Type} : DataW H := .ptr (.agg [.slice [.agg [.lit (.int .u16 9), .lit (.int .u16 13), .lit (.int .u16 1)], .agg [.lit (.int .u16 32), .lit (.int .u16 133), .lit (.int .u16 101)], .agg [.lit (.int .u16 160), .lit (.int .u16 5760), .lit (.int .u16 5600)], .agg [.lit (.int .u16 8192), .lit (.int .u16 8202), .lit (.int .u16 1)], .agg [.lit (.int .u16 8232), .lit (.int .u16 8233), .lit (.int .u16 1)], .agg [.lit (.int .u16 8239), .lit (.int .u16 8287), .lit (.int .u16 48)], .agg [.lit (.int .u16 12288), .lit (.int .u16 12288), .lit (.int .u16 1)]] [], .nil, .lit (.int .i64 2)])
def laid_strings_asciiSpace {H : Type} : DataW H := .agg [.lit (.int .u8 0), .lit (.int .u8 0), .lit (.int .u8 0), .lit (.int .u8 0), .lit (.int .u8 0), .lit (.int .u8 0), .lit (.int .u8 0), .lit (.int .u8 0), .lit (.int .u8 0), .lit (.int .u8 1), .lit (.int .u8 1), .lit (.int .u8 1), .lit (.int .u8 1), .lit (.int .u8 1), .lit (.int .u8 0), .lit (.int .u8 0), .lit (.int .u8 0), .lit (.int .u8 0), .lit (.int .u8 0), .lit (.int .u8 0), .lit (.int .u8 0), .lit (.int .u8 0), .lit (.int .u8 0), .lit (.int .u8 0), .lit (.int .u8 0), .lit (.int .u8 0), .lit (.int .u8 0), .lit (.int .u8 0), .lit (.int .u8 0), .lit (.int .u8 0), .lit (.int .u8 0), .lit (.int .u8 0), .lit (.int .u8 1), .lit (.int .u8 0), .lit (.int .u8 0), .lit (.int .u8 0), .lit (.int .u8 0), .lit (.int .u8 0), .lit (.int .u8 0), .lit (.int .u8 0), .lit (.int .u8 0), .lit (.int .u8 0), .lit (.int .u8 0), .lit (.int .u8 0), .lit (.int .u8 0), .lit (.int .u8 0), .lit (.int .u8 0), .lit (.int .u8 0), .lit (.int .u8 0), .lit (.int .u8 0), .lit (.int .u8 0), .lit (.int .u8 0), .lit (.int .u8 0), .lit (.int .u8 0), .lit (.int .u8 0), .lit (.int .u8 0), .lit (.int .u8 0), .lit (.int .u8 0), .lit (.int .u8 0), .lit (.int .u8 0), .lit (.int .u8 0), .lit (.int .u8 0), .lit (.int .u8 0), .lit (.int .u8 0), .lit (.int .u8 0), .lit (.int .u8 0), .lit (.int .u8 0), .lit (.int .u8 0), .lit (.int .u8 0), .lit (.int .u8 0), .lit (.int .u8 0), .lit (.int .u8 0), .lit (.int .u8 0), .lit (.int .u8 0), .lit (.int .u8 0), .lit (.int .u8 0), .lit (.int .u8 0), .lit (.int .u8 0), .lit (.int .u8 0), .lit (.int .u8 0), .lit (.int .u8 0), .lit (.int .u8 0), .lit (.int .u8 0), .lit (.int .u8 0), .lit (.int .u8 0), .lit (.int .u8 0), .lit (.int .u8 0), .lit (.int .u8 0), .lit (.int .u8 0), .lit (.int .u8 0), .lit (.int .u8 0), .lit (.int .u8 0), .lit (.int .u8 0), .lit (.int .u8 0), .lit (.int .u8 0), .lit (.int .u8 0), .lit (.int .u8 0), .lit (.int .u8 0), .lit (.int .u8 0), .lit (.int .u8 0), .lit (.int .u8 0), .lit (.int .u8 0), .lit (.int .u8 0), .lit (.int .u8 0), .lit (.int .u8 0), .lit (.int .u8 0), .lit (.int .u8 0), .lit (.int .u8 0), .lit (.int .u8 0), .lit (.int .u8 0), .lit (.int .u8 0), .lit (.int .u8 0), .lit (.int .u8 0), .lit (.int .u8 0), .lit (.int .u8 0), .lit (.int .u8 0), .lit (.int .u8 0), .lit (.int .u8 0), .lit (.int .u8 0), .lit (.int .u8 0), .lit (.int .u8 0), .lit (.int .u8 0), .lit (.int .u8 0), .lit (.int .u8 0), .lit (.int .u8 0), .lit (.int .u8 0), .lit (.int .u8 0), .lit (.int .u8 0), .lit (.int .u8 0), .lit (.int .u8 0), .lit (.int .u8 0), .lit (.int .u8 0), .lit (.int .u8 0), .lit (.int .u8 0), .lit (.int .u8 0), .lit (.int .u8 0), .lit (.int .u8 0), .lit (.int .u8 0), .lit (.int .u8 0), .lit (.int .u8 0), .lit (.int .u8 0), .lit (.int .u8 0), .lit (.int .u8 0), .lit (.int .u8 0), .lit (.int .u8 0), .lit (.int .u8 0), .lit (.int .u8 0), .lit (.int .u8 0), .lit (.int .u8 0), .lit (.int .u8 0), .lit (.int .u8 0), .lit (.int .u8 0), .lit (.int .u8 0), .lit (.int .u8 0), .lit (.int .u8 0), .lit (.int .u8 0), .lit (.int .u8 0), .lit (.int .u8 0), .lit (.int .u8 0), .lit (.int .u8 0), .lit (.int .u8 0), .lit (.int .u8 0), .lit (.int .u8 0), .lit (.int .u8 0), .lit (.int .u8 0), .lit (.int .u8 0), .lit (.int .u8 0), .lit (.int .u8 0), .lit (.int .u8 0), .lit (.int .u8 0), .lit (.int .u8 0), .lit (.int .u8 0), .lit (.int .u8 0), .lit (.int .u8 0), .lit (.int .u8 0), .lit (.int .u8 0), .lit (.int .u8 0), .lit (.int .u8 0), .lit (.int .u8 0), .lit (.int .u8 0), .lit (.int .u8 0), .lit (.int .u8 0), .lit (.int .u8 0), .lit (.int .u8 0), .lit (.int .u8 0), .lit (.int .u8 0), .lit (.int .u8 0), .lit (.int .u8 0), .lit (.int .u8 0), .lit (.int .u8 0), .lit (.int .u8 0), .lit (.int .u8 0), .lit (.int .u8 0), .lit (.int .u8 0), .lit (.int .u8 0), .lit (.int .u8 0), .lit (.int .u8 0), .lit (.int .u8 0), .lit (.int .u8 0), .lit (.int .u8 0), .lit (.int .u8 0), .lit (.int .u8 0), .lit (.int .u8 0), .lit (.int .u8 0), .lit (.int .u8 0), .lit (.int .u8 0), .lit (.int .u8 0), .lit (.int .u8 0), .lit (.int .u8 0), .lit (.int .u8 0), .lit (.int .u8 0), .lit (.int .u8 0), .lit (.int .u8 0), .lit (.int .u8 0), .lit (.int .u8 0), .lit (.int .u8 0), .lit (.int .u8 0), .lit (.int .u8 0), .lit (.int .u8 0), .lit (.int .u8 0), .lit (.int .u8 0), .lit (.int .u8 0), .lit (.int .u8 0), .lit (.int .u8 0), .lit (.int .u8 0), .lit (.int .u8 0), .lit (.int .u8 0), .lit (.int .u8 0), .lit (.int .u8 0), .lit (.int .u8 0), .lit (.int .u8 0), .lit (.int .u8 0), .lit (.int .u8 0), .lit (.int .u8 0), .lit (.int .u8 0), .lit (.int .u8 0), .lit (.int .u8 0), .lit (.int .u8 0), .lit (.int .u8 0), .lit (.int .u8 0), .lit (.int .u8 0), .lit (.int .u8 0), .lit (.int .u8 0), .lit (.int .u8 0), .lit (.int .u8 0), .lit (.int .u8 0), .lit (.int .u8 0), .lit (.int .u8 0), .lit (.int .u8 0), .lit (.int .u8 0), .lit (.int .u8 0), .lit (.int .u8 0), .lit (.int .u8 0), .lit (.int .u8 0), .lit (.int .u8 0), .lit (.int .u8 0)]

/-- 'custodiankeep.StepOne': WHATEVER THE INPUT: true; the input reads as it did. -/
def stepOneSpec : ChangeSpec := { name := "stepOne", fn := fun _ => fun
  | [d] => { results := [.lit (.bool true)], args := [d] }
  | _ => none }
def stepOneRow : OpenClaim := { program := "ytopdnihokbhjfaadoor", sum := "1c9cec471547678a1a3ba50c026e4ec34ab1a7c258bfc40ba92668e4aa1bf4cc", func := "custodian/custodiankeep.StepOne", spec := "stepOne", unfollowed := true, recurses := true, named := ["strings.asciiSpace", "unicode.White_Space"], apart := false, laid := [("unicode.White_Space", laid_unicode_White_Space), ("strings.asciiSpace", laid_strings_asciiSpace)] }
def StepOneSaid : Prop := stepOneRow.holds Tryd.pinned (OpenSpec.ofChange stepOneSpec)

/-- ITS FALSE NEIGHBOUR: 'it returns false'. Refute it at one input. -/
def stepOneWrong : ChangeSpec := { name := "stepOne", fn := fun _ => fun
  | [d] => { results := [.lit (.bool false)], args := [d] }
  | _ => none }
def StepOneWrongFalsely : Prop := stepOneRow.holds Tryd.pinned (OpenSpec.ofChange stepOneWrong)

/-- 'custodiankeep.StepFew': WHATEVER THE INPUT: true; the input reads as it did. -/
def stepFewSpec : ChangeSpec := { name := "stepFew", fn := fun _ => fun
  | [d] => { results := [.lit (.bool true)], args := [d] }
  | _ => none }
def stepFewRow : OpenClaim := { program := "ytopdnihokbhjfaadoor", sum := "1c9cec471547678a1a3ba50c026e4ec34ab1a7c258bfc40ba92668e4aa1bf4cc", func := "custodian/custodiankeep.StepFew", spec := "stepFew", unfollowed := true, recurses := true, named := ["strings.asciiSpace", "unicode.White_Space"], apart := false, laid := [("unicode.White_Space", laid_unicode_White_Space), ("strings.asciiSpace", laid_strings_asciiSpace)] }
def StepFewSaid : Prop := stepFewRow.holds Tryd.pinned (OpenSpec.ofChange stepFewSpec)

/-- ITS FALSE NEIGHBOUR: 'it returns false'. Refute it at one input. -/
def stepFewWrong : ChangeSpec := { name := "stepFew", fn := fun _ => fun
  | [d] => { results := [.lit (.bool false)], args := [d] }
  | _ => none }
def StepFewWrongFalsely : Prop := stepFewRow.holds Tryd.pinned (OpenSpec.ofChange stepFewWrong)

/-- 'custodiankeep.StepGoes': WHATEVER THE INPUT: true; the input reads as it did. -/
def stepGoesSpec : ChangeSpec := { name := "stepGoes", fn := fun _ => fun
  | [d] => { results := [.lit (.bool true)], args := [d] }
  | _ => none }
def stepGoesRow : OpenClaim := { program := "ytopdnihokbhjfaadoor", sum := "1c9cec471547678a1a3ba50c026e4ec34ab1a7c258bfc40ba92668e4aa1bf4cc", func := "custodian/custodiankeep.StepGoes", spec := "stepGoes", unfollowed := true, recurses := true, named := ["strings.asciiSpace", "unicode.White_Space"], apart := false, laid := [("unicode.White_Space", laid_unicode_White_Space), ("strings.asciiSpace", laid_strings_asciiSpace)] }
def StepGoesSaid : Prop := stepGoesRow.holds Tryd.pinned (OpenSpec.ofChange stepGoesSpec)

/-- ITS FALSE NEIGHBOUR: 'it returns false'. Refute it at one input. -/
def stepGoesWrong : ChangeSpec := { name := "stepGoes", fn := fun _ => fun
  | [d] => { results := [.lit (.bool false)], args := [d] }
  | _ => none }
def StepGoesWrongFalsely : Prop := stepGoesRow.holds Tryd.pinned (OpenSpec.ofChange stepGoesWrong)

/-- 'custodiankeep.StepLocal': WHATEVER THE INPUT: true; the input reads as it did. -/
def stepLocalSpec : ChangeSpec := { name := "stepLocal", fn := fun _ => fun
  | [d1, d2, d3] => { results := [.lit (.bool true)], args := [d1, d2, d3] }
  | _ => none }
def stepLocalRow : OpenClaim := { program := "ytopdnihokbhjfaadoor", sum := "1c9cec471547678a1a3ba50c026e4ec34ab1a7c258bfc40ba92668e4aa1bf4cc", func := "custodian/custodiankeep.StepLocal", spec := "stepLocal", unfollowed := true, recurses := true, named := ["strings.asciiSpace", "unicode.White_Space"], apart := false, laid := [("unicode.White_Space", laid_unicode_White_Space), ("strings.asciiSpace", laid_strings_asciiSpace)] }
def StepLocalSaid : Prop := stepLocalRow.holds Tryd.pinned (OpenSpec.ofChange stepLocalSpec)

/-- ITS FALSE NEIGHBOUR: 'it returns false'. Refute it at one input. -/
def stepLocalWrong : ChangeSpec := { name := "stepLocal", fn := fun _ => fun
  | [d1, d2, d3] => { results := [.lit (.bool false)], args := [d1, d2, d3] }
  | _ => none }
def StepLocalWrongFalsely : Prop := stepLocalRow.holds Tryd.pinned (OpenSpec.ofChange stepLocalWrong)

/-- 'custodiankeep.StepSame': WHATEVER THE INPUT: true; the input reads as it did. -/
def stepSameSpec : ChangeSpec := { name := "stepSame", fn := fun _ => fun
  | [d1, d2, d3] => { results := [.lit (.bool true)], args := [d1, d2, d3] }
  | _ => none }
def stepSameRow : OpenClaim := { program := "ytopdnihokbhjfaadoor", sum := "1c9cec471547678a1a3ba50c026e4ec34ab1a7c258bfc40ba92668e4aa1bf4cc", func := "custodian/custodiankeep.StepSame", spec := "stepSame", unfollowed := true, recurses := true, named := ["strings.asciiSpace", "unicode.White_Space"], apart := false, laid := [("unicode.White_Space", laid_unicode_White_Space), ("strings.asciiSpace", laid_strings_asciiSpace)] }
def StepSameSaid : Prop := stepSameRow.holds Tryd.pinned (OpenSpec.ofChange stepSameSpec)

/-- ITS FALSE NEIGHBOUR: 'it returns false'. Refute it at one input. -/
def stepSameWrong : ChangeSpec := { name := "stepSame", fn := fun _ => fun
  | [d1, d2, d3] => { results := [.lit (.bool false)], args := [d1, d2, d3] }
  | _ => none }
def StepSameWrongFalsely : Prop := stepSameRow.holds Tryd.pinned (OpenSpec.ofChange stepSameWrong)

/-- 'custodiankeep.RunSplits': WHATEVER THE INPUT: true; the input reads as it did. -/
def runSplitsSpec : ChangeSpec := { name := "runSplits", fn := fun _ => fun
  | [d1, d2, d3] => { results := [.lit (.bool true)], args := [d1, d2, d3] }
  | _ => none }
def runSplitsRow : OpenClaim := { program := "ytopdnihokbhjfaadoor", sum := "1c9cec471547678a1a3ba50c026e4ec34ab1a7c258bfc40ba92668e4aa1bf4cc", func := "custodian/custodiankeep.RunSplits", spec := "runSplits", unfollowed := true, recurses := true, named := ["strings.asciiSpace", "unicode.White_Space"], apart := false, laid := [("unicode.White_Space", laid_unicode_White_Space), ("strings.asciiSpace", laid_strings_asciiSpace)] }
def RunSplitsSaid : Prop := runSplitsRow.holds Tryd.pinned (OpenSpec.ofChange runSplitsSpec)

/-- ITS FALSE NEIGHBOUR: 'it returns false'. Refute it at one input. -/
def runSplitsWrong : ChangeSpec := { name := "runSplits", fn := fun _ => fun
  | [d1, d2, d3] => { results := [.lit (.bool false)], args := [d1, d2, d3] }
  | _ => none }
def RunSplitsWrongFalsely : Prop := runSplitsRow.holds Tryd.pinned (OpenSpec.ofChange runSplitsWrong)

/-- 'custodiankeep.RunTells': WHATEVER THE INPUT: true; the input reads as it did. -/
def runTellsSpec : ChangeSpec := { name := "runTells", fn := fun _ => fun
  | [d1, d2] => { results := [.lit (.bool true)], args := [d1, d2] }
  | _ => none }
def runTellsRow : OpenClaim := { program := "ytopdnihokbhjfaadoor", sum := "1c9cec471547678a1a3ba50c026e4ec34ab1a7c258bfc40ba92668e4aa1bf4cc", func := "custodian/custodiankeep.RunTells", spec := "runTells", unfollowed := true, recurses := true, named := ["strings.asciiSpace", "unicode.White_Space"], apart := false, laid := [("unicode.White_Space", laid_unicode_White_Space), ("strings.asciiSpace", laid_strings_asciiSpace)] }
def RunTellsSaid : Prop := runTellsRow.holds Tryd.pinned (OpenSpec.ofChange runTellsSpec)

/-- ITS FALSE NEIGHBOUR: 'it returns false'. Refute it at one input. -/
def runTellsWrong : ChangeSpec := { name := "runTells", fn := fun _ => fun
  | [d1, d2] => { results := [.lit (.bool false)], args := [d1, d2] }
  | _ => none }
def RunTellsWrongFalsely : Prop := runTellsRow.holds Tryd.pinned (OpenSpec.ofChange runTellsWrong)

/-- 'custodiankeep.RunNone': WHATEVER THE INPUT: true; the input reads as it did. -/
def runNoneSpec : ChangeSpec := { name := "runNone", fn := fun _ => fun
  | [d1, d2] => { results := [.lit (.bool true)], args := [d1, d2] }
  | _ => none }
def runNoneRow : OpenClaim := { program := "ytopdnihokbhjfaadoor", sum := "1c9cec471547678a1a3ba50c026e4ec34ab1a7c258bfc40ba92668e4aa1bf4cc", func := "custodian/custodiankeep.RunNone", spec := "runNone", unfollowed := true, recurses := true, named := ["strings.asciiSpace", "unicode.White_Space"], apart := false, laid := [("unicode.White_Space", laid_unicode_White_Space), ("strings.asciiSpace", laid_strings_asciiSpace)] }
def RunNoneSaid : Prop := runNoneRow.holds Tryd.pinned (OpenSpec.ofChange runNoneSpec)

/-- ITS FALSE NEIGHBOUR: 'it returns false'. Refute it at one input. -/
def runNoneWrong : ChangeSpec := { name := "runNone", fn := fun _ => fun
  | [d1, d2] => { results := [.lit (.bool false)], args := [d1, d2] }
  | _ => none }
def RunNoneWrongFalsely : Prop := runNoneRow.holds Tryd.pinned (OpenSpec.ofChange runNoneWrong)

/-- 'custodiankeep.RunSteps': WHATEVER THE INPUT: true; the input reads as it did. -/
def runStepsSpec : ChangeSpec := { name := "runSteps", fn := fun _ => fun
  | [d1, d2] => { results := [.lit (.bool true)], args := [d1, d2] }
  | _ => none }
def runStepsRow : OpenClaim := { program := "ytopdnihokbhjfaadoor", sum := "1c9cec471547678a1a3ba50c026e4ec34ab1a7c258bfc40ba92668e4aa1bf4cc", func := "custodian/custodiankeep.RunSteps", spec := "runSteps", unfollowed := true, recurses := true, named := ["strings.asciiSpace", "unicode.White_Space"], apart := false, laid := [("unicode.White_Space", laid_unicode_White_Space), ("strings.asciiSpace", laid_strings_asciiSpace)] }
def RunStepsSaid : Prop := runStepsRow.holds Tryd.pinned (OpenSpec.ofChange runStepsSpec)

/-- ITS FALSE NEIGHBOUR: 'it returns false'. Refute it at one input. -/
def runStepsWrong : ChangeSpec := { name := "runSteps", fn := fun _ => fun
  | [d1, d2] => { results := [.lit (.bool false)], args := [d1, d2] }
  | _ => none }
def RunStepsWrongFalsely : Prop := runStepsRow.holds Tryd.pinned (OpenSpec.ofChange runStepsWrong)

/- THE SECOND FORM. 'bulk': how many values and letters a reading holds, each counted each time it is reached (what is shared counts as often as it is met; a slice's spare places count too). A statement '..UptoSaid' is the law's where the arguments, and the package variables that the reading takes, are together of bulk at most 1048576: NARROWER than '..Said'. Prove '..Said' where nothing that the law and all that it calls make is longer than what came in: it says more and counts as full. Else prove '..UptoSaid'. A law counts once. -/
mutual
def uptoBulk {H : Type} : DataW H → Nat
  | .lit (.string bytes) => bytes.length + 1
  | .lit _ => 1
  | .nil => 1
  | .ptr d => uptoBulk d + 1
  | .slice elems spare => uptoBulkAll elems + uptoBulkAll spare + 1
  | .agg parts => uptoBulkAll parts + 1
  | .iface _ d => uptoBulk d + 1
  | .map entries => uptoBulkEntries entries + 1
  | .held _ => 1
def uptoBulkAll {H : Type} : List (DataW H) → Nat
  | [] => 0
  | d :: r => uptoBulk d + uptoBulkAll r
def uptoBulkEntries {H : Type} : List (Lit × DataW H) → Nat
  | [] => 0
  | x :: r => uptoBulkEntry x + uptoBulkEntries r
def uptoBulkEntry {H : Type} : Lit × DataW H → Nat
  | (.string bytes, d) => bytes.length + uptoBulk d + 1
  | (_, d) => uptoBulk d + 1
 end
def uptoSmall : (H : Type) → List (DataW H) → Bool := fun _ ds => decide (uptoBulkAll ds ≤ 1048576)
def OpenSpec.upto (s : _root_.Go.ChangeSpec) : _root_.Go.OpenSpec := { _root_.Go.OpenSpec.ofChange s with cond := some uptoSmall }

/-- 'custodiankeep.StepOne', WHERE WHAT IT READS IS OF BULK AT MOST 1048576: true; the input reads as it did. -/
def stepOneUptoRow : OpenClaim := { program := "ytopdnihokbhjfaadoor", sum := "1c9cec471547678a1a3ba50c026e4ec34ab1a7c258bfc40ba92668e4aa1bf4cc", func := "custodian/custodiankeep.StepOne", spec := "stepOne", unfollowed := true, recurses := true, named := ["strings.asciiSpace", "unicode.White_Space"], apart := false, laid := [("unicode.White_Space", laid_unicode_White_Space), ("strings.asciiSpace", laid_strings_asciiSpace)], narrowed := true }
def StepOneUptoSaid : Prop := stepOneUptoRow.holds Tryd.pinned (OpenSpec.upto stepOneSpec)

/-- 'custodiankeep.StepFew', WHERE WHAT IT READS IS OF BULK AT MOST 1048576: true; the input reads as it did. -/
def stepFewUptoRow : OpenClaim := { program := "ytopdnihokbhjfaadoor", sum := "1c9cec471547678a1a3ba50c026e4ec34ab1a7c258bfc40ba92668e4aa1bf4cc", func := "custodian/custodiankeep.StepFew", spec := "stepFew", unfollowed := true, recurses := true, named := ["strings.asciiSpace", "unicode.White_Space"], apart := false, laid := [("unicode.White_Space", laid_unicode_White_Space), ("strings.asciiSpace", laid_strings_asciiSpace)], narrowed := true }
def StepFewUptoSaid : Prop := stepFewUptoRow.holds Tryd.pinned (OpenSpec.upto stepFewSpec)

/-- 'custodiankeep.StepGoes', WHERE WHAT IT READS IS OF BULK AT MOST 1048576: true; the input reads as it did. -/
def stepGoesUptoRow : OpenClaim := { program := "ytopdnihokbhjfaadoor", sum := "1c9cec471547678a1a3ba50c026e4ec34ab1a7c258bfc40ba92668e4aa1bf4cc", func := "custodian/custodiankeep.StepGoes", spec := "stepGoes", unfollowed := true, recurses := true, named := ["strings.asciiSpace", "unicode.White_Space"], apart := false, laid := [("unicode.White_Space", laid_unicode_White_Space), ("strings.asciiSpace", laid_strings_asciiSpace)], narrowed := true }
def StepGoesUptoSaid : Prop := stepGoesUptoRow.holds Tryd.pinned (OpenSpec.upto stepGoesSpec)

/-- 'custodiankeep.StepLocal', WHERE WHAT IT READS IS OF BULK AT MOST 1048576: true; the input reads as it did. -/
def stepLocalUptoRow : OpenClaim := { program := "ytopdnihokbhjfaadoor", sum := "1c9cec471547678a1a3ba50c026e4ec34ab1a7c258bfc40ba92668e4aa1bf4cc", func := "custodian/custodiankeep.StepLocal", spec := "stepLocal", unfollowed := true, recurses := true, named := ["strings.asciiSpace", "unicode.White_Space"], apart := false, laid := [("unicode.White_Space", laid_unicode_White_Space), ("strings.asciiSpace", laid_strings_asciiSpace)], narrowed := true }
def StepLocalUptoSaid : Prop := stepLocalUptoRow.holds Tryd.pinned (OpenSpec.upto stepLocalSpec)

/-- 'custodiankeep.StepSame', WHERE WHAT IT READS IS OF BULK AT MOST 1048576: true; the input reads as it did. -/
def stepSameUptoRow : OpenClaim := { program := "ytopdnihokbhjfaadoor", sum := "1c9cec471547678a1a3ba50c026e4ec34ab1a7c258bfc40ba92668e4aa1bf4cc", func := "custodian/custodiankeep.StepSame", spec := "stepSame", unfollowed := true, recurses := true, named := ["strings.asciiSpace", "unicode.White_Space"], apart := false, laid := [("unicode.White_Space", laid_unicode_White_Space), ("strings.asciiSpace", laid_strings_asciiSpace)], narrowed := true }
def StepSameUptoSaid : Prop := stepSameUptoRow.holds Tryd.pinned (OpenSpec.upto stepSameSpec)

/-- 'custodiankeep.RunSplits', WHERE WHAT IT READS IS OF BULK AT MOST 1048576: true; the input reads as it did. -/
def runSplitsUptoRow : OpenClaim := { program := "ytopdnihokbhjfaadoor", sum := "1c9cec471547678a1a3ba50c026e4ec34ab1a7c258bfc40ba92668e4aa1bf4cc", func := "custodian/custodiankeep.RunSplits", spec := "runSplits", unfollowed := true, recurses := true, named := ["strings.asciiSpace", "unicode.White_Space"], apart := false, laid := [("unicode.White_Space", laid_unicode_White_Space), ("strings.asciiSpace", laid_strings_asciiSpace)], narrowed := true }
def RunSplitsUptoSaid : Prop := runSplitsUptoRow.holds Tryd.pinned (OpenSpec.upto runSplitsSpec)

/-- 'custodiankeep.RunTells', WHERE WHAT IT READS IS OF BULK AT MOST 1048576: true; the input reads as it did. -/
def runTellsUptoRow : OpenClaim := { program := "ytopdnihokbhjfaadoor", sum := "1c9cec471547678a1a3ba50c026e4ec34ab1a7c258bfc40ba92668e4aa1bf4cc", func := "custodian/custodiankeep.RunTells", spec := "runTells", unfollowed := true, recurses := true, named := ["strings.asciiSpace", "unicode.White_Space"], apart := false, laid := [("unicode.White_Space", laid_unicode_White_Space), ("strings.asciiSpace", laid_strings_asciiSpace)], narrowed := true }
def RunTellsUptoSaid : Prop := runTellsUptoRow.holds Tryd.pinned (OpenSpec.upto runTellsSpec)

/-- 'custodiankeep.RunNone', WHERE WHAT IT READS IS OF BULK AT MOST 1048576: true; the input reads as it did. -/
def runNoneUptoRow : OpenClaim := { program := "ytopdnihokbhjfaadoor", sum := "1c9cec471547678a1a3ba50c026e4ec34ab1a7c258bfc40ba92668e4aa1bf4cc", func := "custodian/custodiankeep.RunNone", spec := "runNone", unfollowed := true, recurses := true, named := ["strings.asciiSpace", "unicode.White_Space"], apart := false, laid := [("unicode.White_Space", laid_unicode_White_Space), ("strings.asciiSpace", laid_strings_asciiSpace)], narrowed := true }
def RunNoneUptoSaid : Prop := runNoneUptoRow.holds Tryd.pinned (OpenSpec.upto runNoneSpec)

/-- 'custodiankeep.RunSteps', WHERE WHAT IT READS IS OF BULK AT MOST 1048576: true; the input reads as it did. -/
def runStepsUptoRow : OpenClaim := { program := "ytopdnihokbhjfaadoor", sum := "1c9cec471547678a1a3ba50c026e4ec34ab1a7c258bfc40ba92668e4aa1bf4cc", func := "custodian/custodiankeep.RunSteps", spec := "runSteps", unfollowed := true, recurses := true, named := ["strings.asciiSpace", "unicode.White_Space"], apart := false, laid := [("unicode.White_Space", laid_unicode_White_Space), ("strings.asciiSpace", laid_strings_asciiSpace)], narrowed := true }
def RunStepsUptoSaid : Prop := runStepsUptoRow.holds Tryd.pinned (OpenSpec.upto runStepsSpec)

end Rows
end Go.Proofs.YtopdnihokbhjfaaDoor
