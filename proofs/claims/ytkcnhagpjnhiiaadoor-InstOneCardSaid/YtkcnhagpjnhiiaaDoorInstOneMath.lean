/- Instructions are told apart by what they pack to. -/
import Derived.Test.YtkcnhagpjnhiiaaDoorInstTextB
namespace Go.Proofs.YtkcnhagpjnhiiaaDoor
open Go.RowKit
theorem unpack_pack {i : InstV} (h : instOk i = true) : unpack (packF i) = i := by
  obtain ⟨op, a, b, c⟩ := i
  obtain ⟨o0, o1, a0, a1, b0, b1, c0, c1⟩ := instOk_bd h
  unfold unpack packF
  ext <;> simp only <;> omega
theorem packF_inj {i j : InstV} (hi : instOk i = true) (hj : instOk j = true) (h : packF i = packF j) : i = j := by
  rw [← unpack_pack hi, ← unpack_pack hj, h]
theorem packF_bd {i : InstV} (h : instOk i = true) : 0 ≤ packF i ∧ packF i < 8388608 := by
  obtain ⟨op, a, b, c⟩ := i
  obtain ⟨o0, o1, a0, a1, b0, b1, c0, c1⟩ := instOk_bd h
  unfold packF
  simp only
  omega
end Go.Proofs.YtkcnhagpjnhiiaaDoor
