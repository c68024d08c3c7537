import Derived.Test.YtmmmmeeepieemaaHeapFZ
/- What Give answers of a heap, as a plain law. -/
namespace Go.Proofs.Ytmmmmeeepieemaa
open Go.RowKit
set_option linter.unusedVariables false
/-- Give's three answers of a heap. -/
theorem give_cases {base n sz : Int} {ps : List PieceV} {K : List KeyV} (h : HInv base n ps K) (hs : 1 ≤ sz) :
    (∃ m b, giveF ps sz = (m, gkey b sz, 0) ∧ gv sz ps = some (m, b)) ∨ (giveF ps sz = ([], zeroK, 7) ∧ gv sz ps = none) ∨ (giveF ps sz = ([], zeroK, 9) ∧ ps.length = 30) := by
  unfold giveF
  rw [if_neg (by simp [h.check]), if_neg (by omega)]
  cases hv : gv sz ps with
  | none => exact .inr (.inl ⟨rfl, rfl⟩)
  | some r =>
    obtain ⟨m, b⟩ := r
    by_cases hm : m.length = 31
    · refine .inr (.inr ⟨by simp only; rw [if_pos hm], ?_⟩)
      obtain ⟨_, _, _, h4, _, _⟩ := gv_ok hs h.err h.cov hv
      have := h.len
      omega
    · exact .inl ⟨m, b, by simp only; rw [if_neg hm], rfl⟩
/-- What is given lies in no piece that is not free. -/
theorem give_apart {base n sz b : Int} {ps m : List PieceV} {K : List KeyV} (h : HInv base n ps K) (hs : 1 ≤ sz) (hv : gv sz ps = some (m, b)) {p : PieceV} (hp : p ∈ ps) (hst : p.state ≠ 0) : p.base + p.len ≤ b ∨ b + sz ≤ p.base := by
  obtain ⟨l1, q, l2, rfl, _, q0, q1, rfl, _⟩ := gv_some hv
  have hc := h.cov
  have hmay := fun p hp => (mayB_iff.1 (hErr_may h.err p hp)).2.1
  obtain ⟨x, c1, c2, c3⟩ := cov_append.1 hc
  have hl1 := (cov_le c1 (fun p hp => hmay p (List.mem_append_left _ hp))).2
  have hl2 := (cov_le c3 (fun p hp => hmay p (List.mem_append_right _ (List.mem_cons_of_mem _ hp)))).2
  rcases List.mem_append.1 hp with hp | hp
  · have := hl1 p hp
    left; omega
  · rcases List.mem_cons.1 hp with rfl | hp
    · exact absurd q0 hst
    · have := hl2 p hp
      right; omega
end Go.Proofs.Ytmmmmeeepieemaa
