import Derived.Test.YtpjhjefjbkjhkaaGreatDoorBuB
/- Rows of strings. -/
namespace Go.Proofs.YtpjhjefjbkjhkaaGreatDoor
open El (cl)
open Go Go.RowKit
set_option linter.unusedVariables false
set_option linter.unusedSimpArgs false
instance elStr : El ByteArray where
  k := 1
  cl x := [.string x]
  z := ByteArray.empty
  len _ := rfl
  one _ := by intro u hu; simp at hu; subst hu; rfl
  pos := by decide
theorem sl_str {w : World} {ao : Option Addr} {n : Nat} {ks : List ByteArray} (h : Sl w ao n ks) {i : Nat} (hi : i < n) {x : ByteArray} (hx : ks[i]? = some x) : ∃ a, ao = some a ∧ (a.add i).block < w.heap.size ∧ w.cell? (a.add i) = some (.string x) := by
  obtain ⟨a, y, e, hb, hy, hc⟩ := h.at hi
  obtain rfl : y = x := by rw [hx] at hy; injection hy with hy; exact hy.symm
  refine ⟨a, e, by rw [el_block]; exact hb, ?_⟩
  have := hc 0 _ rfl
  have e1 : i * El.k ByteArray + 0 = i := by show i * 1 + 0 = i; omega
  rwa [e1] at this
end Go.Proofs.YtpjhjefjbkjhkaaGreatDoor
