import Derived.Test.YtmmmmeeepieemaaBuA
import Derived.Test.YtmmmmeeepieemaaBuB
/- Rows of turns: calls that a law makes. -/
namespace Go.Proofs.Ytmmmmeeepieemaa
open El (cl)
open Go.RowKit
set_option linter.unusedVariables false
@[ext] structure TurnV where
  kind : Int
  n : Int
  m : Int
deriving DecidableEq
def TurnV.val (x : TurnV) : Value := .agg #[.int .i64 x.kind, .int .i64 x.n, .int .i64 x.m]
structure TurnV.wf (x : TurnV) : Prop where
  kind : I64 x.kind
  n : I64 x.n
  m : I64 x.m
def zeroTurn : TurnV := ⟨0, 0, 0⟩
instance : El TurnV where
  k := 3
  cl x := [.int .i64 x.kind, .int .i64 x.n, .int .i64 x.m]
  z := zeroTurn
  len _ := rfl
  one _ := by intro u hu; simp at hu; rcases hu with rfl | rfl | rfl <;> rfl
  pos := by decide
instance : Inhabited TurnV := ⟨zeroTurn⟩
theorem add_moreTurn (a : Addr) (i j : Nat) (hj : 0 < j) : a.add (i + j) = ⟨(a.add i).block, (a.add i).off + j, none⟩ := by
  unfold Addr.add
  rw [if_neg (by omega)]
  by_cases hi : i = 0
  · subst hi; simp
  · rw [if_neg hi]; simp [Nat.add_assoc]
theorem sl_turn {w : World} {ao : Option Addr} {n : Nat} {ks : List TurnV} (h : Sl w ao n ks) {i : Nat} (hi : i < n) {x : TurnV} (hx : ks[i]? = some x) : ∃ a, ao = some a ∧ (a.add (i * 3)).block < w.heap.size ∧
    w.cell? (a.add (i * 3)) = some (.int .i64 x.kind) ∧ w.cell? ⟨(a.add (i * 3)).block, (a.add (i * 3)).off + 1, none⟩ = some (.int .i64 x.n) ∧ w.cell? ⟨(a.add (i * 3)).block, (a.add (i * 3)).off + 2, none⟩ = some (.int .i64 x.m) := by
  obtain ⟨a, y, e, hb, hy, hc⟩ := h.at hi
  obtain rfl : y = x := by rw [hx] at hy; injection hy with hy; exact hy.symm
  refine ⟨a, e, by rw [el_block]; exact hb, ?_⟩
  rw [← add_moreTurn a (i * 3) 1 (by decide), ← add_moreTurn a (i * 3) 2 (by decide)]
  exact ⟨hc 0 _ rfl, hc 1 _ rfl, hc 2 _ rfl⟩
end Go.Proofs.Ytmmmmeeepieemaa
