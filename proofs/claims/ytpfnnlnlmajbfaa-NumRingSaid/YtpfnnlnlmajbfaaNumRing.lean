/- NumRing: addition and multiplication modulo 2 to the 32 form a commutative ring. For every three ints, without any condition. -/
import Derived.Test.YtpfnnlnlmajbfaaNum
import Derived.Test.YtpfnnlnlmajbfaaLift
namespace Go.Proofs.Ytpfnnlnlmajbfaa
open Go.ChangeShapes Go.WideShapes Go.ChangeAt Go.RowKit

set_option maxHeartbeats 4000000 in
theorem numRing_walk (a b c : Int) (_w0 : (Lit.int .i64 a).wf = true) (_w1 : (Lit.int .i64 b).wf = true) (_w2 : (Lit.int .i64 c).wf = true) (w : World) :
    Calls Try.prog 5 #[.int .i64 a, .int .i64 b, .int .i64 c] w fun e w' => e = .returned (.bool true) ∧ Below w.heap.size w w' := by
  have e0 : (addF 2147483647 1 != -2147483648) = false := by unfold addF wrap32; decide
  have e1 : (mulF 65536 65536 != 0) = false := by unfold mulF wrap32; decide
  have e2 : (addF a b == addF b a) = true := by rw [beq_iff_eq, addF_comm]
  have e3 : (addF (addF a b) c == addF a (addF b c)) = true := by rw [beq_iff_eq, addF_assoc]
  have e4 : (mulF a b == mulF b a) = true := by rw [beq_iff_eq, mulF_comm]
  have e5 : (mulF (mulF a b) c == mulF a (mulF b c)) = true := by rw [beq_iff_eq, mulF_assoc]
  have e6 : (mulF a (addF b c) == addF (mulF a b) (mulF a c)) = true := by rw [beq_iff_eq, mulF_add]
  have e7 : (subF (addF a b) b == wrap32 a) = true := by rw [beq_iff_eq, subF_addF]
  have e8 : (subF a b == addF a (mulF b (-1))) = true := by rw [beq_iff_eq, subF_neg]
  go_enter Try.func5, Try.ntmps5
  go_wp2_with (first
    | (go_at_call 15; refine (wrap_any _ _).mono ?_; rintro e w' ⟨rfl, rfl⟩)
    | (go_at_call 18; refine (add_any _ _ _).mono ?_; rintro e w' ⟨rfl, rfl⟩)
    | (go_at_call 20; refine (sub_any _ _ _).mono ?_; rintro e w' ⟨rfl, rfl⟩)
    | (go_at_call 19; refine (mul_any _ _ _).mono ?_; rintro e w' ⟨rfl, rfl⟩))
  go_ret
  exact ⟨rfl, Below.refl _ _⟩

end Go.Proofs.Ytpfnnlnlmajbfaa
