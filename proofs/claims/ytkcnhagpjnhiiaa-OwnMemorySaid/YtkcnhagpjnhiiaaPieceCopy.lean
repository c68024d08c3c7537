/- What the reference's Copy computes of pieces. -/
import Derived.Test.YtkcnhagpjnhiiaaHeapB
import Derived.WalkSpells
namespace Go.Proofs.Ytkcnhagpjnhiiaa
open Go.RowKit
set_option linter.unusedVariables false
set_option maxHeartbeats 1000000 in
theorem copy_piece (ao : Option Addr) (n cap : Nat) (vs : List PieceV) (w : World) (h : Sl w ao n vs) (hn : n * 24 ≤ 140737488355328) :
    Calls Try.prog 27 #[.slice ao n cap] w (OwnPost w 76 vs) := by
  obtain ⟨i0, hi, hz0, hz1, hz2⟩ := info_parts info_piece
  have c63 : ([] : List PieceV).length + n ≤ maxLen := by unfold maxLen; simp; omega
  have c47 : (([] : List PieceV).length + n) * 24 ≤ 140737488355328 := by simp; omega
  have H := Lib.hid h
  clear h
  go_enter Try.func27, Try.ntmps27
  go_wp2_with (at_builtin; refine wpList_append_sl rfl _ _ 71 rfl w.heap.size 76 i0 _ 24 Try.underlying71 hi hz0 hz1 hz2 rfl (.slice none 0 0) ([] : List PieceV) rfl (Own.nil _ _ _) ao n cap vs rfl H.out c63 c47 (Nat.le_refl _) ?_; intro v1 w1 hown1 hgr1 hat1)
  go_ret
  refine ⟨v1, rfl, hown1, (Below.refl _ _).grown hgr1 (Nat.le_refl _) ?_⟩
  intro k hk
  simp [Value.ownBlock] at hk
end Go.Proofs.Ytkcnhagpjnhiiaa
