/- Rows of values in memory. -/
import Derived.Test.YtkcnhagpjnhiiaaMemMath
import Derived.Test.YtkcnhagpjnhiiaaBlk
import Derived.Test.YtkcnhagpjnhiiaaSeq
namespace Go.Proofs.Ytkcnhagpjnhiiaa
open El (cl)
open Go.RowKit
set_option linter.unusedVariables false

instance : El ValV where
  k := 7
  cl v := [.bool v.is, .int .i64 v.n, .int .i64 v.k.perm, .int .i64 v.k.base, .int .i64 v.k.len, .int .i64 v.k.at_, .int .i64 v.k.seal_]
  z := zeroV
  len _ := rfl
  one _ := by intro u hu; simp at hu; rcases hu with rfl | rfl | rfl | rfl | rfl | rfl | rfl <;> rfl
  pos := by decide
theorem elk_val : El.k ValV = 7 := rfl
theorem add_more (a : Addr) (i j : Nat) (hj : 0 < j) : a.add (i + j) = ⟨(a.add i).block, (a.add i).off + j, none⟩ := by
  unfold Addr.add
  rw [if_neg (by omega)]
  by_cases hi : i = 0
  · subst hi; simp
  · rw [if_neg hi]; simp [Nat.add_assoc]
/-- The cells of a value at a place. -/
def ValAt (w : World) (a : Addr) (v : ValV) : Prop :=
  w.cell? a = some (.bool v.is) ∧ w.cell? ⟨a.block, a.off + 1, none⟩ = some (.int .i64 v.n) ∧
    w.cell? ⟨a.block, a.off + 2, none⟩ = some (.int .i64 v.k.perm) ∧ w.cell? ⟨a.block, a.off + 3, none⟩ = some (.int .i64 v.k.base) ∧
    w.cell? ⟨a.block, a.off + 4, none⟩ = some (.int .i64 v.k.len) ∧ w.cell? ⟨a.block, a.off + 5, none⟩ = some (.int .i64 v.k.at_) ∧
    w.cell? ⟨a.block, a.off + 6, none⟩ = some (.int .i64 v.k.seal_)
theorem sl_val {w : World} {ao : Option Addr} {n : Nat} {vs : List ValV} (h : Sl w ao n vs) {i : Nat} (hi : i < n) : ∃ a, ao = some a ∧ a.block < w.heap.size ∧ ValAt w (a.add (i * 7)) (vs.getD i zeroV) := by
  obtain ⟨a, x, e, hb, hx, hc⟩ := h.at hi
  have hg : vs.getD i zeroV = x := by simp [List.getD, hx]
  rw [hg]
  refine ⟨a, e, hb, ?_⟩
  unfold ValAt
  rw [← add_more a (i * 7) 1 (by decide), ← add_more a (i * 7) 2 (by decide), ← add_more a (i * 7) 3 (by decide), ← add_more a (i * 7) 4 (by decide), ← add_more a (i * 7) 5 (by decide), ← add_more a (i * 7) 6 (by decide)]
  exact ⟨hc 0 _ rfl, hc 1 _ rfl, hc 2 _ rfl, hc 3 _ rfl, hc 4 _ rfl, hc 5 _ rfl, hc 6 _ rfl⟩
end Go.Proofs.Ytkcnhagpjnhiiaa
