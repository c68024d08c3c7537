/- RoundTight: rounding a range outwards adds less than a fourth of the result, and nothing to the largest range. For every two ints, without any condition. -/
import Derived.Test.YtpfnnlnlmajbfaaRound
import Derived.Test.YtpfnnlnlmajbfaaLift
namespace Go.Proofs.Ytpfnnlnlmajbfaa
open Go.ChangeShapes Go.WideShapes Go.ChangeAt Go.RowKit
set_option linter.unusedVariables false

set_option maxHeartbeats 4000000 in
theorem roundTight_walk (a0 b0 : Int) (w0 : (Lit.int .i64 a0).wf = true) (w1 : (Lit.int .i64 b0).wf = true) (w : World) :
    Calls Try.prog 10 #[.int .i64 a0, .int .i64 b0] w fun e w' => e = .returned (.bool true) ∧ Below w.heap.size w w' := by
  have hb := Int.emod_nonneg a0 (by decide : (65536 : Int) ≠ 0)
  have hb2 := Int.emod_lt_of_pos a0 (by decide : (0 : Int) < 65536)
  have hn := Int.emod_nonneg b0 (by omega : (65537 - a0 % 65536) ≠ 0)
  have hn2 := Int.emod_lt_of_pos b0 (by omega : 0 < (65537 - a0 % 65536))
  clear w0 w1
  generalize hB : a0 % 65536 = b at *
  generalize hN : b0 % (65537 - b) = n at *
  obtain ⟨L, hL⟩ := least_ex (b := b) (n := n) hb (by omega)
  have ht := tight hL
  have hbd := around_bd hL.le hb (by omega) hn
  have h2 : dnI (2 ^ 13) 0 = 0 := dn_of_dvd (by decide) (by simp)
  have h3 : szI 13 0 65536 = 65536 := by decide
  generalize hS : szI L b n = s at *
  generalize hD : dnI (2 ^ L) b = d at *
  have hA := least_all
  have hfin : decide (4 * (s - n) ≤ s) = true := by simp; omega
  obtain ⟨x1, x2, x3, x4, x5, x6⟩ := hbd
  go_enter Try.func10, Try.ntmps10
  go_wp2_with (first
    | (go_at_call 16; refine (rest_any _ _ _ (by omega) (by omega)).mono ?_; rintro e w' ⟨rfl, rfl⟩)
    | (go_at_call 24; (with_reducible refine (out_any b n L hL hb hb2 hn (by omega) _).mono ?_); rintro e w' ⟨rfl, rfl⟩)
    | (go_at_call 24; (with_reducible refine (out_any 0 65536 13 hA (by omega) (by omega) (by omega) (by omega) _).mono ?_); rintro e w' ⟨rfl, rfl⟩))
  go_ret
  exact ⟨rfl, Below.refl _ _⟩

end Go.Proofs.Ytpfnnlnlmajbfaa
