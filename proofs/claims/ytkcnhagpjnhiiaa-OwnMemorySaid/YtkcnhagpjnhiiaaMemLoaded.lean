/- The closed fact on memory that the laws ask first. -/
import Derived.Test.YtkcnhagpjnhiiaaMemLoad
import Derived.Laws.MakeOwn
namespace Go.Proofs.Ytkcnhagpjnhiiaa
open Go.RowKit
set_option linter.unusedVariables false
set_option linter.unusedSimpArgs false
theorem mcheck_large (ao : Option Addr) (n cap : Nat) (h : 400 < n) (hm : n ≤ maxLen) (w : World) :
    Calls Try.prog 23 #[.slice ao n cap] w fun e w' => e = .returned (.int .i64 2) ∧ w = w' := by
  unfold maxLen at hm
  go_enter Try.func23, Try.ntmps23
  go_wp2
  go_ret
  exact ⟨rfl, rfl⟩
set_option maxHeartbeats 2000000 in
theorem loaded_any (w : World) : Calls Try.prog 25 #[] w fun e w' => e = .returned (.bool true) ∧ Below w.heap.size w w' := by
  obtain ⟨i0, hi, hz0, hz1, hz2⟩ := info_parts info_val
  have hs : Sl (w.alloc (.cells #[.bool false, .int .i64 4, .int .i64 0, .int .i64 0, .int .i64 0, .int .i64 0, .int .i64 0, .bool false, .int .i64 5, .int .i64 0, .int .i64 0, .int .i64 0, .int .i64 0, .int .i64 0] 25)) (some ⟨w.heap.size, 0, none⟩) 2 [ValV.num 4, ValV.num 5] := by
    obtain ⟨ao, c, e, h, _⟩ := (own_lit (xs := [ValV.num 4, ValV.num 5]) w 25 w.heap.size (Nat.le_refl _) #[.bool false, .int .i64 4, .int .i64 0, .int .i64 0, .int .i64 0, .int .i64 0, .int .i64 0, .bool false, .int .i64 5, .int .i64 0, .int .i64 0, .int .i64 0, .int .i64 0, .int .i64 0] 2 rfl (by decide) rfl).sl
    injection e with e _ _
    subst e
    exact h
  have hl : loadF [ValV.num 4, ValV.num 5] ⟨1, 0, 2, 0, 0⟩ 1 = (ValV.num 5, 0) := by decide +kernel
  have ld := mload_any (some ⟨w.heap.size, 0, none⟩) 2 2 [ValV.num 4, ValV.num 5] 1 0 2 0 0 1 ⟨⟨by decide, by decide⟩, ⟨by decide, by decide⟩, ⟨by decide, by decide⟩, ⟨by decide, by decide⟩, ⟨by decide, by decide⟩⟩ ⟨by decide, by decide⟩ _ hs
  rw [hl] at ld
  simp only [ValV.num, ValV.val, zeroK] at ld
  have LD := Lib.hid ld
  obtain ⟨CS, hmk⟩ : ∃ CS, ∀ W, (Instr.makeSlice 27 (.int .i64 401) (.int .i64 401)).run Try.prog W = .ok (.slice (some ⟨W.heap.size, 0, none⟩) 401 401) (W.alloc (.cells CS 25)) :=
    ⟨_, fun W => run_make W 27 25 i0 _ Try.underlying27 hi hz0 .i64 .i64 401 401 (by decide) (by decide) (by rw [hz2]; decide) (by decide)⟩
  clear hs hl ld hi hz0 hz1 hz2
  go_enter Try.func25, Try.ntmps25
  go_wp2_with (first
    | (go_at_call 43; ((with_reducible refine LD.out.mono ?_); rintro e w1 ⟨rfl, hb1⟩))
    | (go_at_call 23; ((with_reducible refine (mcheck_large _ 401 401 (by decide) (by decide) _).mono ?_); rintro e w' ⟨rfl, rfl⟩)))
  go_ret
  refine ⟨rfl, ?_⟩
  repeat (first | exact Below.refl _ _ | with_reducible refine ext_alloc ?_ _ | with_reducible refine ext_trans ?_ ‹_›)
end Go.Proofs.Ytkcnhagpjnhiiaa
