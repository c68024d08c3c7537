import Derived.BigRegion
import Derived.Deep.DeepCutAuto
import Derived.Laws.CopyOwn
import Derived.Test.YtcdcmbehnccicaaBuG
import Derived.Test.YtcdcmbehnccicaaMachCheckZ
/- What step.Copied computes. -/
namespace Go.Proofs.Ytcdcmbehnccicaa
open Go.RowKit
set_option linter.unusedVariables false
set_option linter.unusedSimpArgs false
def zmc : Array Value := #[.bool false, .int .i64 0, .int .i64 0, .int .i64 0, .int .i64 0, .int .i64 0, .int .i64 0, .bool false, .int .i64 0, .int .i64 0, .int .i64 0, .int .i64 0, .int .i64 0, .int .i64 0, .bool false, .int .i64 0, .int .i64 0, .int .i64 0, .int .i64 0, .int .i64 0, .int .i64 0, .bool false, .int .i64 0, .int .i64 0, .int .i64 0, .int .i64 0, .int .i64 0, .int .i64 0, .bool false, .int .i64 0, .int .i64 0, .int .i64 0, .int .i64 0, .int .i64 0, .int .i64 0, .bool false, .int .i64 0, .int .i64 0, .int .i64 0, .int .i64 0, .int .i64 0, .int .i64 0, .bool false, .int .i64 0, .int .i64 0, .int .i64 0, .int .i64 0, .int .i64 0, .int .i64 0, .bool false, .int .i64 0, .int .i64 0, .int .i64 0, .int .i64 0, .int .i64 0, .int .i64 0, .int .i64 0, .int .i64 0, .int .i64 0, .int .i64 0, .int .i64 0, .slice none 0 0, .slice none 0 0, .slice none 0 0]
def zeroR : List ValV := List.replicate 8 zeroV
theorem zmc_eq : mcs zeroR zeroK (.slice none 0 0) (.slice none 0 0) (.slice none 0 0) = zmc := rfl
theorem mcs_set61 {R : List ValV} {c : KeyV} {a b d : Value} (h : R.length = 8) (x : Value) : (mcs R c a b d).setIfInBounds 61 x = mcs R c x b d := by
  unfold mcs
  rw [List.setIfInBounds_toArray, show 61 = (cls R).length + 5 by rw [regs_cells h], List.set_append_right _ _ (by omega), Nat.add_sub_cancel_left]
  rfl
theorem mcs_set62 {R : List ValV} {c : KeyV} {a b d : Value} (h : R.length = 8) (x : Value) : (mcs R c a b d).setIfInBounds 62 x = mcs R c a x d := by
  unfold mcs
  rw [List.setIfInBounds_toArray, show 62 = (cls R).length + 6 by rw [regs_cells h], List.set_append_right _ _ (by omega), Nat.add_sub_cancel_left]
  rfl
theorem mcs_set63 {R : List ValV} {c : KeyV} {a b d : Value} (h : R.length = 8) (x : Value) : (mcs R c a b d).setIfInBounds 63 x = mcs R c a b x := by
  unfold mcs
  rw [List.setIfInBounds_toArray, show 63 = (cls R).length + 7 by rw [regs_cells h], List.set_append_right _ _ (by omega), Nat.add_sub_cancel_left]
  rfl
/-- A machine of the call's own. -/
def MPost (w : World) (R : List ValV) (c : KeyV) (mem : List ValV) (stk : List FrameV) (out : List Int) (e : Ending) (w' : World) : Prop :=
  ∃ vm vs vo, e = .returned (.agg (mcs R c vm vs vo)) ∧ Own w' w.heap.size 25 vm mem ∧ Own w' w.heap.size 68 vs stk ∧ Own w' w.heap.size 3 vo out ∧ Below w.heap.size w w'
end Go.Proofs.Ytcdcmbehnccicaa
