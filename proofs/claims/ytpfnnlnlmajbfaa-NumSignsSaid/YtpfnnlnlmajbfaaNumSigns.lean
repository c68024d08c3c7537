/- NumSigns: negation reverses the sign, except for zero and the smallest number; less by less is more. For every two ints, without any condition. -/
import Derived.Test.YtpfnnlnlmajbfaaNum
import Derived.Test.YtpfnnlnlmajbfaaLift
namespace Go.Proofs.Ytpfnnlnlmajbfaa
open Go.ChangeShapes Go.WideShapes Go.ChangeAt Go.RowKit

theorem minus_any (a : Int) (w : World) :
    Calls Try.prog 23 #[.int .i64 a] w fun e w' => e = .returned (.int .i64 (subF 0 a)) ∧ w = w' := by
  go_enter Try.func23, Try.ntmps23
  go_wp2_with (go_at_call 20; refine (sub_any _ _ _).mono ?_; rintro e w' ⟨rfl, rfl⟩)
  go_ret
  exact ⟨rfl, rfl⟩
theorem minus_mul (a b : Int) : mulF (subF 0 a) (subF 0 b) = mulF a b := by
  rw [subF_eq, subF_eq, mulF_eq, mulF_eq, w32_mul_l, w32_mul_r]
  congr 1
  rw [Int.zero_sub, Int.zero_sub, Int.neg_mul_neg]
theorem lessF_neg (a : Int) (h1 : wrap32 a ≠ 0) (h2 : wrap32 a ≠ -2147483648) : lessF a 0 ≠ lessF (subF 0 a) 0 := by
  have hb := w32_bd a
  have e0 : wrap32 0 = 0 := by unfold wrap32; decide
  have e1 : wrap32 (subF 0 a) = -(wrap32 a) := by
    unfold subF; rw [w32_32, e0]; exact (congrArg wrap32 (Int.zero_sub _)).trans (w32_of (by omega) (by omega))
  unfold lessF
  rw [e1, e0]
  split <;> split <;> omega
set_option linter.unusedVariables false
set_option maxHeartbeats 4000000 in
theorem numSigns_walk (a b : Int) (w0 : (Lit.int .i64 a).wf = true) (w1 : (Lit.int .i64 b).wf = true) (w : World) :
    Calls Try.prog 9 #[.int .i64 a, .int .i64 b] w fun e w' => e = .returned (.bool true) ∧ Below w.heap.size w w' := by
  have e0 : mulF (-3) (-4) = 12 := by unfold mulF wrap32; decide
  have e1 : subF 0 (-2147483648) = -2147483648 := by unfold subF wrap32; decide
  have e2 : (subF 0 (subF 0 a) == wrap32 a) = true := by rw [beq_iff_eq]; unfold subF wrap32; omega
  have e3 : (mulF (subF 0 a) (subF 0 b) == mulF a b) = true := by rw [beq_iff_eq]; exact minus_mul a b
  have e4 : (subF 0 (addF a b) == addF (subF 0 a) (subF 0 b)) = true := by rw [beq_iff_eq]; unfold subF addF wrap32; omega
  clear w0 w1
  by_cases h1 : wrap32 a = 0
  · have k1 : (wrap32 a == 0) = true := by simp [h1]
    clear h1
    go_enter Try.func9, Try.ntmps9
    go_wp2_with (first
      | (go_at_call 23; refine (minus_any _ _).mono ?_; rintro e w' ⟨rfl, rfl⟩)
      | (go_at_call 15; refine (wrap_any _ _).mono ?_; rintro e w' ⟨rfl, rfl⟩)
      | (go_at_call 18; refine (add_any _ _ _).mono ?_; rintro e w' ⟨rfl, rfl⟩)
      | (go_at_call 20; refine (sub_any _ _ _).mono ?_; rintro e w' ⟨rfl, rfl⟩)
      | (go_at_call 19; refine (mul_any _ _ _).mono ?_; rintro e w' ⟨rfl, rfl⟩)
      | (go_at_call 22; refine (less_any _ _ _).mono ?_; rintro e w' ⟨rfl, rfl⟩))
    go_ret
    exact ⟨rfl, Below.refl _ _⟩
  · by_cases h2 : wrap32 a = -2147483648
    · have k1 : (wrap32 a == 0) = false := by simp [h1]
      have k2 : (wrap32 a == -2147483648) = true := by simp [h2]
      clear h1 h2
      go_enter Try.func9, Try.ntmps9
      go_wp2_with (first
        | (go_at_call 23; refine (minus_any _ _).mono ?_; rintro e w' ⟨rfl, rfl⟩)
        | (go_at_call 15; refine (wrap_any _ _).mono ?_; rintro e w' ⟨rfl, rfl⟩)
        | (go_at_call 18; refine (add_any _ _ _).mono ?_; rintro e w' ⟨rfl, rfl⟩)
        | (go_at_call 20; refine (sub_any _ _ _).mono ?_; rintro e w' ⟨rfl, rfl⟩)
        | (go_at_call 19; refine (mul_any _ _ _).mono ?_; rintro e w' ⟨rfl, rfl⟩)
        | (go_at_call 22; refine (less_any _ _ _).mono ?_; rintro e w' ⟨rfl, rfl⟩))
      go_ret
      exact ⟨rfl, Below.refl _ _⟩
    · have k1 : (wrap32 a == 0) = false := by simp [h1]
      have k2 : (wrap32 a == -2147483648) = false := by simp [h2]
      have k3 : (lessF a 0 == lessF (subF 0 a) 0) = false := beq_eq_false_iff_ne.2 (lessF_neg a h1 h2)
      clear h1 h2
      go_enter Try.func9, Try.ntmps9
      go_wp2_with (first
        | (go_at_call 23; refine (minus_any _ _).mono ?_; rintro e w' ⟨rfl, rfl⟩)
        | (go_at_call 15; refine (wrap_any _ _).mono ?_; rintro e w' ⟨rfl, rfl⟩)
        | (go_at_call 18; refine (add_any _ _ _).mono ?_; rintro e w' ⟨rfl, rfl⟩)
        | (go_at_call 20; refine (sub_any _ _ _).mono ?_; rintro e w' ⟨rfl, rfl⟩)
        | (go_at_call 19; refine (mul_any _ _ _).mono ?_; rintro e w' ⟨rfl, rfl⟩)
        | (go_at_call 22; refine (less_any _ _ _).mono ?_; rintro e w' ⟨rfl, rfl⟩))
      go_ret
      exact ⟨ret_bool (by show (!(lessF a 0 == lessF (subF 0 a) 0)) = true; rw [k3]; rfl), Below.refl _ _⟩

end Go.Proofs.Ytpfnnlnlmajbfaa
