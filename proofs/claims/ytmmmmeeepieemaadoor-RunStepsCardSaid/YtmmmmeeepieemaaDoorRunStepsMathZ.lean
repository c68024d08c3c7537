import Derived.Test.YtmmmmeeepieemaaDoorPlIterZ
/- A run step by step: plain data. -/
namespace Go.Proofs.YtmmmmeeepieemaaDoor
open Go.RowKit
set_option linter.unusedVariables false
/-- The machine after i steps that go well. -/
def MV.at_ (m : MV) : Nat → MV
  | 0 => m
  | i + 1 => (m.at_ i).after
theorem at_shift (m : MV) (i : Nat) : m.after.at_ i = (m.at_ i).after := by
  induction i with
  | zero => rfl
  | succ i ih => show (m.after.at_ i).after = _; rw [ih]; rfl
theorem at_ok {m : MV} (h : m.Ok) (i : Nat) : (m.at_ i).Ok := by
  induction i with
  | zero => exact h
  | succ i ih => exact after_ok ih
/-- What a run is, step by step. -/
theorem run_steps (f : Nat) : ∀ m : MV, (m.run f).1 = m.at_ (m.run f).2.1 ∧ (m.run f).2.1 ≤ f ∧ (∀ i, i < (m.run f).2.1 → (m.at_ i).err = 0 ∧ (m.places f)[i]? = some (m.at_ i).c.at_) ∧
    ((m.run f).2.1 = f ∧ (m.run f).2.2 = 15 ∨ (m.run f).2.1 < f ∧ (m.at_ (m.run f).2.1).err ≠ 0 ∧ (m.run f).2.2 = (m.at_ (m.run f).2.1).err) := by
  induction f with
  | zero => intro m; exact ⟨rfl, Nat.le_refl _, fun i hi => absurd hi (Nat.not_lt_zero _), .inl ⟨rfl, rfl⟩⟩
  | succ f ih =>
    intro m
    by_cases he : m.err = 0
    · rw [run_next he]
      obtain ⟨h1, h2, h3, h4⟩ := ih m.after
      have hp : m.places (f + 1) = m.c.at_ :: m.after.places f := by show (if m.err = 0 then _ else _) = _; rw [if_pos he]
      refine ⟨?_, by simp only; omega, fun i hi => ?_, ?_⟩
      · simp only
        rw [h1, at_shift]; rfl
      · cases i with
        | zero => rw [hp]; exact ⟨he, rfl⟩
        | succ i =>
          have := h3 i (by simp only at hi; omega)
          rw [at_shift] at this
          rw [hp, List.getElem?_cons_succ]
          exact this
      · rcases h4 with ⟨a, b⟩ | ⟨a, b, c⟩
        · exact .inl ⟨by simp only; omega, b⟩
        · rw [at_shift] at b c
          exact .inr ⟨by simp only; omega, b, c⟩
    · rw [(run_stop he).1]
      exact ⟨rfl, Nat.zero_le _, fun i hi => absurd hi (Nat.not_lt_zero _), .inr ⟨Nat.succ_pos _, he, rfl⟩⟩
end Go.Proofs.YtmmmmeeepieemaaDoor
