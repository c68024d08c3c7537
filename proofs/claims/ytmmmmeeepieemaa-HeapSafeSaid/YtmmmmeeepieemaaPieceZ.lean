import Derived.Test.YtmmmmeeepieemaaBuA
import Derived.Test.YtmmmmeeepieemaaBuB
/- Rows of pieces of a heap. -/
namespace Go.Proofs.Ytmmmmeeepieemaa
open El (cl)
open Go.RowKit
set_option linter.unusedVariables false
@[ext] structure PieceV where
  base : Int
  len : Int
  state : Int
deriving DecidableEq
def PieceV.val (x : PieceV) : Value := .agg #[.int .i64 x.base, .int .i64 x.len, .int .i64 x.state]
structure PieceV.wf (x : PieceV) : Prop where
  base : I64 x.base
  len : I64 x.len
  state : I64 x.state
def zeroPiece : PieceV := ⟨0, 0, 0⟩
instance : El PieceV where
  k := 3
  cl x := [.int .i64 x.base, .int .i64 x.len, .int .i64 x.state]
  z := zeroPiece
  len _ := rfl
  one _ := by intro u hu; simp at hu; rcases hu with rfl | rfl | rfl <;> rfl
  pos := by decide
instance : Inhabited PieceV := ⟨zeroPiece⟩
theorem add_morePiece (a : Addr) (i j : Nat) (hj : 0 < j) : a.add (i + j) = ⟨(a.add i).block, (a.add i).off + j, none⟩ := by
  unfold Addr.add
  rw [if_neg (by omega)]
  by_cases hi : i = 0
  · subst hi; simp
  · rw [if_neg hi]; simp [Nat.add_assoc]
theorem sl_piece {w : World} {ao : Option Addr} {n : Nat} {ks : List PieceV} (h : Sl w ao n ks) {i : Nat} (hi : i < n) {x : PieceV} (hx : ks[i]? = some x) : ∃ a, ao = some a ∧ (a.add (i * 3)).block < w.heap.size ∧
    w.cell? (a.add (i * 3)) = some (.int .i64 x.base) ∧ w.cell? ⟨(a.add (i * 3)).block, (a.add (i * 3)).off + 1, none⟩ = some (.int .i64 x.len) ∧ w.cell? ⟨(a.add (i * 3)).block, (a.add (i * 3)).off + 2, none⟩ = some (.int .i64 x.state) := by
  obtain ⟨a, y, e, hb, hy, hc⟩ := h.at hi
  obtain rfl : y = x := by rw [hx] at hy; injection hy with hy; exact hy.symm
  refine ⟨a, e, by rw [el_block]; exact hb, ?_⟩
  rw [← add_morePiece a (i * 3) 1 (by decide), ← add_morePiece a (i * 3) 2 (by decide)]
  exact ⟨hc 0 _ rfl, hc 1 _ rfl, hc 2 _ rfl⟩
end Go.Proofs.Ytmmmmeeepieemaa
