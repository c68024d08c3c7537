/- NumWraps: wrapping to 32 bits keeps the residue modulo 2 to the 32, lands in range, and is idempotent. For every pair of ints, without any condition. -/
import Derived.Test.YtpfnnlnlmajbfaaNum
import Derived.Test.YtpfnnlnlmajbfaaLift
namespace Go.Proofs.Ytpfnnlnlmajbfaa
open Go.ChangeShapes Go.WideShapes Go.ChangeAt Go.RowKit

theorem numWraps_walk (a k : Int) (w0 : (Lit.int .i64 a).wf = true) (_w1 : (Lit.int .i64 k).wf = true) (w : World) :
    Calls Try.prog 3 #[.int .i64 a, .int .i64 k] w fun e w' => e = .returned (.bool true) ∧ Below w.heap.size w w' := by
  have hb := w32_bd a
  obtain ⟨a1, a2⟩ := wf_bd w0
  have e0 : wrap32 2147483648 = -2147483648 := by unfold wrap32; omega
  have e1 := w32_32 a
  have e2 : wrap32 (wrap32 a + k % 1000 * 4294967296) = wrap32 a := (w32_congr (k := k % 1000) rfl).trans (w32_32 a)
  have e3 : ((wrap64 (a - wrap32 a)).tmod 4294967296 == 0) = true := by
    rw [beq_iff_eq]; apply Int.tmod_eq_zero_of_dvd; unfold wrap64 wrap32; omega
  have m0 := Int.emod_nonneg k (by decide : (1000 : Int) ≠ 0)
  have m1 := Int.emod_lt_of_pos k (by decide : (0 : Int) < 1000)
  go_enter Try.func3, Try.ntmps3
  go_wp2_with (first
    | (go_at_call 15; refine (wrap_any _ _).mono ?_; rintro e w' ⟨rfl, rfl⟩)
    | (go_at_call 16; refine (rest_any _ _ _ (by omega) (by omega)).mono ?_; rintro e w' ⟨rfl, rfl⟩))
  go_ret
  exact ⟨rfl, Below.refl _ _⟩

end Go.Proofs.Ytpfnnlnlmajbfaa
