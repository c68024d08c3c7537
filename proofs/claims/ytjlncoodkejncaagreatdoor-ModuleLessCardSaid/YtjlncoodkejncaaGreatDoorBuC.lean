import Derived.Test.YtjlncoodkejncaaGreatDoorBuA
import Derived.Test.YtjlncoodkejncaaGreatDoorBuB
/- Rows of numbers. -/
namespace Go.Proofs.YtjlncoodkejncaaGreatDoor
open El (cl)
open Go.RowKit
set_option linter.unusedVariables false
instance elInt : El Int where
  k := 1
  cl x := [.int .i64 x]
  z := 0
  len _ := rfl
  one _ := by intro u hu; simp at hu; subst hu; rfl
  pos := by decide
theorem sl_int {w : World} {ao : Option Addr} {n : Nat} {ks : List Int} (h : Sl w ao n ks) {i : Nat} (hi : i < n) {x : Int} (hx : ks[i]? = some x) : ∃ a, ao = some a ∧ (a.add i).block < w.heap.size ∧ w.cell? (a.add i) = some (.int .i64 x) := by
  obtain ⟨a, y, e, hb, hy, hc⟩ := h.at hi
  obtain rfl : y = x := by rw [hx] at hy; injection hy with hy; exact hy.symm
  refine ⟨a, e, by rw [el_block]; exact hb, ?_⟩
  have := hc 0 _ rfl
  have e1 : i * El.k Int + 0 = i := by show i * 1 + 0 = i; omega
  rw [e1] at this
  exact this
end Go.Proofs.YtjlncoodkejncaaGreatDoor
