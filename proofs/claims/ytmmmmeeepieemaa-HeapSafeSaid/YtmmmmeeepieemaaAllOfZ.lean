import Derived.Carry
import Derived.OneCell
import Derived.Test.YtmmmmeeepieemaaBuB
import Derived.Test.YtmmmmeeepieemaaKeysOpsZ
import Derived.Test.YtmmmmeeepieemaaKeysSealZ
/- What allOf of the laws computes: the keys that four operations make of one. -/
namespace Go.Proofs.Ytmmmmeeepieemaa
open El (cl)
open Go.RowKit
set_option linter.unusedVariables false
set_option linter.unusedSimpArgs false
instance : El KeyV where
  k := 5
  cl v := [.int .i64 v.perm, .int .i64 v.base, .int .i64 v.len, .int .i64 v.at_, .int .i64 v.seal_]
  z := zeroK
  len _ := rfl
  one _ := by intro u hu; simp at hu; rcases hu with rfl | rfl | rfl | rfl | rfl <;> rfl
  pos := by decide
/-- One more, if there is no error. -/
def addL (ks : List KeyV) (r : KeyV × Int) : List KeyV := if r.2 = 0 then ks ++ [r.1] else ks
def allL (k c : KeyV) (n : Int) : List KeyV := addL (addL (addL (addL [] (moveF k n)) (narrowF k n)) (dropF k n)) (sealF k c)
theorem addL_length (ks : List KeyV) (r : KeyV × Int) : (addL ks r).length ≤ ks.length + 1 := by unfold addL; split <;> simp
end Go.Proofs.Ytmmmmeeepieemaa
