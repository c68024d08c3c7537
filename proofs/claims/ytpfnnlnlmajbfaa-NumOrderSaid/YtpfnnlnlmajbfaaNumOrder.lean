/- NumOrder: the order of numbers is total and transitive. For every three ints, without any condition. -/
import Derived.Test.YtpfnnlnlmajbfaaNum
import Derived.Test.YtpfnnlnlmajbfaaLift
import Derived.Deep.DeepCutAuto
namespace Go.Proofs.Ytpfnnlnlmajbfaa
open Go.ChangeShapes Go.WideShapes Go.ChangeAt Go.RowKit

theorem lessF_bd (a b : Int) : 0 ≤ lessF a b ∧ lessF a b ≤ 1 := by unfold lessF; split <;> omega
theorem lessF_two (a b : Int) : lessF a b + lessF b a ≤ 1 := by unfold lessF; split <;> split <;> omega
theorem lessF_tot (a b : Int) : ((lessF a b + lessF b a == 0) == (wrap32 a == wrap32 b)) = true := by
  by_cases h : wrap32 a = wrap32 b
  · have : lessF a b + lessF b a = 0 := by unfold lessF; split <;> split <;> omega
    simp [h, this]
  · have h2 : lessF a b + lessF b a ≠ 0 := by unfold lessF; split <;> split <;> omega
    have e1 : (lessF a b + lessF b a == 0) = false := beq_eq_false_iff_ne.2 h2
    have e2 : (wrap32 a == wrap32 b) = false := beq_eq_false_iff_ne.2 h
    rw [e1, e2]; rfl
theorem lessF_trans (a b c : Int) (h : ¬ lessF a b + lessF b c < 2) : (lessF a c == 1) = true := by
  rw [beq_iff_eq]
  revert h
  unfold lessF
  split <;> split <;> split <;> omega
set_option linter.unusedVariables false
set_option maxHeartbeats 4000000 in
set_option maxRecDepth 100000 in
theorem numOrder_walk (a b c : Int) (w0 : (Lit.int .i64 a).wf = true) (w1 : (Lit.int .i64 b).wf = true) (w2 : (Lit.int .i64 c).wf = true) (w : World) :
    Calls Try.prog 7 #[.int .i64 a, .int .i64 b, .int .i64 c] w fun e w' => e = .returned (.bool true) ∧ Below w.heap.size w w' := by
  obtain ⟨p1, p2⟩ := lessF_bd a b
  obtain ⟨p3, p4⟩ := lessF_bd b a
  obtain ⟨p5, p6⟩ := lessF_bd b c
  have p7 := lessF_two a b
  have e0 : (lessF 1 2 != 1) = false := by unfold lessF wrap32; decide
  have e1 := lessF_tot a b
  have e2 := lessF_trans a b c
  clear w0 w1 w2
  by_cases hh : lessF a b + lessF b c < 2
  all_goals
    go_enter Try.func7, Try.ntmps7
    go_wp2_with (first
      | (go_at_call 15; refine (wrap_any _ _).mono ?_; rintro e w' ⟨rfl, rfl⟩)
      | (go_at_call 22; refine (less_any _ _ _).mono ?_; rintro e w' ⟨rfl, rfl⟩))
    all_goals (go_ret; exact ⟨rfl, Below.refl _ _⟩)

end Go.Proofs.Ytpfnnlnlmajbfaa
