/- Short names. -/
import Derived.Lib.Hide
set_option linter.unusedVariables false
namespace Go.Proofs.YtlpejagkadalbaaGreatDoor
theorem zA {p : Prop} (h : p) : Go.RowKit.Hid p := Go.Lib.hid h
universe u
theorem zC {α : Type u} (l : List α) (i : Nat) (a : α) : l.toArray.setIfInBounds i a = (l.set i a).toArray := by simp
theorem zD {α : Type u} (x b : α) (l : List α) : (x :: l).set 0 b = b :: l := rfl
theorem zE {α : Type u} (x b : α) (l : List α) (n : Nat) : (x :: l).set (n + 1) b = x :: l.set n b := rfl
end Go.Proofs.YtlpejagkadalbaaGreatDoor
