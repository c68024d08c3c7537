/- RoundRises: what a range within another one is rounded to lies within what the other one is rounded to. For every four ints, without any condition. -/
import Derived.Test.YtpfnnlnlmajbfaaRound
import Derived.Test.YtpfnnlnlmajbfaaLift
namespace Go.Proofs.Ytpfnnlnlmajbfaa
open Go.ChangeShapes Go.WideShapes Go.ChangeAt Go.RowKit
set_option linter.unusedVariables false

set_option maxHeartbeats 4000000 in
set_option maxRecDepth 100000 in
theorem roundRises_walk (a0 b0 c0 d0 : Int) (w0 : (Lit.int .i64 a0).wf = true) (w1 : (Lit.int .i64 b0).wf = true) (w2 : (Lit.int .i64 c0).wf = true) (w3 : (Lit.int .i64 d0).wf = true) (w : World) :
    Calls Try.prog 12 #[.int .i64 a0, .int .i64 b0, .int .i64 c0, .int .i64 d0] w fun e w' => e = .returned (.bool true) ∧ Below w.heap.size w w' := by
  have hb := Int.emod_nonneg a0 (by decide : (65536 : Int) ≠ 0)
  have hb2 := Int.emod_lt_of_pos a0 (by decide : (0 : Int) < 65536)
  have hn := Int.emod_nonneg b0 (by omega : (65537 - a0 % 65536) ≠ 0)
  have hn2 := Int.emod_lt_of_pos b0 (by omega : 0 < (65537 - a0 % 65536))
  clear w0 w1 w2 w3
  generalize hB : a0 % 65536 = b at *
  generalize hN : b0 % (65537 - b) = n at *
  have hi := Int.emod_nonneg c0 (by omega : (n + 1) ≠ 0)
  have hi2 := Int.emod_lt_of_pos c0 (by omega : 0 < (n + 1))
  generalize hI : c0 % (n + 1) = i at *
  have hm := Int.emod_nonneg d0 (by omega : (n - i + 1) ≠ 0)
  have hm2 := Int.emod_lt_of_pos d0 (by omega : 0 < (n - i + 1))
  generalize hM : d0 % (n - i + 1) = m at *
  obtain ⟨L, hL⟩ := least_ex (b := b) (n := n) hb (by omega)
  have h16 := least_16
  have f16 : fitsB 1 16 16 = true := by decide
  by_cases hbi : b + i > 65535
  · go_enter Try.func12, Try.ntmps12
    go_wp2_with (first
      | (go_at_call 16; refine (rest_any _ _ _ (by omega) (by omega)).mono ?_; rintro e w' ⟨rfl, rfl⟩)
      | (go_at_call 25; refine (fits_any 16 16 1 h16 (by omega) (by omega) (by omega) (by omega) _).mono ?_; rintro e w' ⟨rfl, rfl⟩))
    go_ret
    exact ⟨rfl, Below.refl _ _⟩
  · obtain ⟨K, hK⟩ := least_ex (b := b + i) (n := m) (by omega) (by omega)
    obtain ⟨x1, x2, x3, x4, x5, x6⟩ := around_bd hL.le hb (by omega) hn
    obtain ⟨y1, y2, y3, y4, y5, y6⟩ := around_bd hK.le (show 0 ≤ b + i by omega) (by omega) hm
    obtain ⟨r1, r2⟩ := rises hL hK (by omega) (by omega)
    have co := fun W => out_any b n L hL hb hb2 hn (by omega) W
    have co2 := fun W => out_any (b + i) m K hK (by omega) (by omega) hm (by omega) W
    rw [x5, y5] at r2
    generalize szI L b n = s at *
    generalize dnI (2 ^ L) b = d at *
    generalize szI K (b + i) m = s2 at *
    generalize dnI (2 ^ K) (b + i) = d2 at *
    have CO := Lib.hid co
    have CO2 := Lib.hid co2
    have q1 : d + s ≤ 65536 := by omega
    have q2 : d2 + s2 ≤ 65536 := by omega
    clear co co2 x5 y5
    have k1 : decide (d ≤ d2) = true := by simp; omega
    have k2 : decide (d2 + s2 ≤ d + s) = true := by simp; omega
    go_enter Try.func12, Try.ntmps12
    go_wp2_with (first
      | (go_at_call 16; refine (rest_any _ _ _ (by omega) (by omega)).mono ?_; rintro e w' ⟨rfl, rfl⟩)
      | (go_at_call 24; (with_reducible refine (CO.out _).mono ?_); rintro e w' ⟨rfl, rfl⟩)
      | (go_at_call 24; (with_reducible refine (CO2.out _).mono ?_); rintro e w' ⟨rfl, rfl⟩)
      | (go_at_call 25; refine (fits_any 16 16 1 h16 (by omega) (by omega) (by omega) (by omega) _).mono ?_; rintro e w' ⟨rfl, rfl⟩))
    go_ret
    exact ⟨rfl, Below.refl _ _⟩

end Go.Proofs.Ytpfnnlnlmajbfaa
