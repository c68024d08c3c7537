import Derived.Test.YtpjhjefjbkjhkaaGreatDoorBuA
/- What the laws of keys say of the plain functions: no program in sight. -/
namespace Go.Proofs.YtpjhjefjbkjhkaaGreatDoor
open Go.RowKit
set_option linter.unusedVariables false
/-- No more cells, and no more permissions. -/
def lessP (a b : KeyV) : Prop := (a.len = 0 ∨ (b.base ≤ a.base ∧ a.base + a.len ≤ b.base + b.len)) ∧ withinB a.perm b.perm = true
theorem lessP_refl (a : KeyV) : lessP a a := ⟨.inr ⟨by omega, by omega⟩, withinB_refl _⟩
theorem lessP_trans {a b c : KeyV} (h : lessP a b) (k : lessP b c) (hl : 0 ≤ a.len) : lessP a c := by
  obtain ⟨h1, h2⟩ := h
  obtain ⟨k1, k2⟩ := k
  exact ⟨by omega, withinB_trans h2 k2⟩
theorem move_less {k : KeyV} {n : Int} (h : (moveF k n).2 = 0) : (moveF k n).1.Ok ∧ k.Ok ∧ k.seal_ = 0 ∧ lessP (moveF k n).1 k := by
  rcases moveF_cases k n with ⟨c, he, h0⟩ | ⟨he, ok, hs, h1, h2⟩
  · rw [he] at h; exact absurd h h0
  · rw [he]
    obtain ⟨p0, p1, b0, b1, l0, l1, a0, a1, s0, s1⟩ := ok
    refine ⟨?_, ⟨p0, p1, b0, b1, l0, l1, a0, a1, s0, s1⟩, hs, .inr ⟨by simp only; omega, by simp only; omega⟩, withinB_refl _⟩
    constructor <;> simp only <;> omega
theorem narrow_less {k : KeyV} {n : Int} (h : (narrowF k n).2 = 0) : (narrowF k n).1.Ok ∧ k.Ok ∧ k.seal_ = 0 ∧ lessP (narrowF k n).1 k := by
  rcases narrowF_cases k n with ⟨c, he, h0⟩ | ⟨he, ok, hs, h1, h2, h3⟩
  · rw [he] at h; exact absurd h h0
  · rw [he]
    obtain ⟨p0, p1, b0, b1, l0, l1, a0, a1, s0, s1⟩ := ok
    refine ⟨?_, ⟨p0, p1, b0, b1, l0, l1, a0, a1, s0, s1⟩, hs, .inr ⟨by simp only; omega, by simp only; omega⟩, withinB_refl _⟩
    constructor <;> simp only <;> omega
theorem drop_less {k : KeyV} {n : Int} (h : (dropF k n).2 = 0) : (dropF k n).1.Ok ∧ k.Ok ∧ k.seal_ = 0 ∧ lessP (dropF k n).1 k := by
  rcases dropF_cases k n with ⟨c, he, h0⟩ | ⟨he, ok, hs⟩
  · rw [he] at h; exact absurd h h0
  · rw [he]
    obtain ⟨p0, p1, b0, b1, l0, l1, a0, a1, s0, s1⟩ := ok
    have hp := andI_le p0 p1 n
    refine ⟨?_, ⟨p0, p1, b0, b1, l0, l1, a0, a1, s0, s1⟩, hs, .inr ⟨by simp only; omega, by simp only; omega⟩, withinB_and_l _ _⟩
    constructor <;> simp only <;> omega
theorem seal_less {k c : KeyV} (h : (sealF k c).2 = 0) : (sealF k c).1.Ok ∧ k.Ok ∧ k.seal_ = 0 ∧ lessP (sealF k c).1 k := by
  rcases sealF_cases k c with ⟨e, he, h0⟩ | ⟨he, ok, oc, hs, h1, h2, h3, h4, h5⟩
  · rw [he] at h; exact absurd h h0
  · rw [he]
    obtain ⟨p0, p1, b0, b1, l0, l1, a0, a1, s0, s1⟩ := ok
    refine ⟨?_, ⟨p0, p1, b0, b1, l0, l1, a0, a1, s0, s1⟩, hs, .inr ⟨by simp only; omega, by simp only; omega⟩, withinB_refl _⟩
    constructor <;> simp only <;> omega
theorem open_less {k c : KeyV} (h : (openF k c).2 = 0) : (openF k c).1.Ok ∧ k.Ok ∧ lessP (openF k c).1 k := by
  rcases openF_cases k c with ⟨e, he, h0⟩ | ⟨he, ok, oc, hs, h1, h2, h3, h4⟩
  · rw [he] at h; exact absurd h h0
  · rw [he]
    obtain ⟨p0, p1, b0, b1, l0, l1, a0, a1, s0, s1⟩ := ok
    refine ⟨?_, ⟨p0, p1, b0, b1, l0, l1, a0, a1, s0, s1⟩, .inr ⟨by simp only; omega, by simp only; omega⟩, withinB_refl _⟩
    constructor <;> simp only <;> omega
theorem under_of_less {x k : KeyV} (hx : x.Ok) (hk : k.Ok) (hs : k.seal_ = 0) (h : lessP x k) : underB x k = true := (underB_iff hx hk).2 ⟨h.1, h.2, .inr hs⟩
end Go.Proofs.YtpjhjefjbkjhkaaGreatDoor
