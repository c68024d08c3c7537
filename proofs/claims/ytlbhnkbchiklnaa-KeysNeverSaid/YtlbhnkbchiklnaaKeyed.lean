/- The closed fact on keys that the laws ask first. -/
import Derived.Test.YtlbhnkbchiklnaaKeysOps
namespace Go.Proofs.Ytlbhnkbchiklnaa
open Go.RowKit
set_option linter.unusedVariables false

set_option maxHeartbeats 2000000 in
theorem keyed_any (w : World) : Calls Try.prog 18 #[] w fun e w' => e = .returned (.bool true) ∧ Below w.heap.size w w' := by
  have h1 : narrowF ⟨3, 2, 8, 4, 0⟩ 3 = (⟨3, 4, 3, 4, 0⟩, 0) := by decide
  have h2 : keyCheck ⟨128, 0, 0, 0, 0⟩ = 1 := by decide
  have cn := fun W => narrow_any 3 2 8 4 0 3 ⟨by decide, by decide⟩ W
  rw [h1] at cn
  have ck := fun W => check_any 128 0 0 0 0 W
  rw [h2] at ck
  clear h1 h2
  have CN := Lib.hid cn
  have CK := Lib.hid ck
  clear cn ck
  go_enter Try.func18, Try.ntmps18
  go_wp2_with (first
    | (go_at_call 27; refine (CN.out _).mono ?_; rintro e w1 ⟨rfl, hb1⟩; obtain ⟨c1, f1, z1⟩ := bcell hb1; simp only [KeyV.res])
    | (go_at_call 23; refine (CK.out _).mono ?_; rintro e w2 ⟨rfl, hb2⟩; obtain ⟨c2, f2, z2⟩ := bcell hb2))
  go_ret
  refine ⟨rfl, ?_⟩
  repeat (first | with_reducible exact Below.refl _ _ | with_reducible refine ext_alloc ?_ _ | with_reducible refine ext_trans ?_ ‹_›)
end Go.Proofs.Ytlbhnkbchiklnaa
