/- RoundAround: the rounded range encloses the range, is representable, and is a fixed point; representable ranges, and ranges of up to 15 cells, are unchanged. For every two ints, without any condition. -/
import Derived.Test.YtpfnnlnlmajbfaaRound
import Derived.Test.YtpfnnlnlmajbfaaLift
namespace Go.Proofs.Ytpfnnlnlmajbfaa
open Go.ChangeShapes Go.WideShapes Go.ChangeAt Go.RowKit
set_option linter.unusedVariables false

set_option maxHeartbeats 4000000 in
set_option maxRecDepth 100000 in
theorem roundAround_walk (a0 b0 : Int) (w0 : (Lit.int .i64 a0).wf = true) (w1 : (Lit.int .i64 b0).wf = true) (w : World) :
    Calls Try.prog 11 #[.int .i64 a0, .int .i64 b0] w fun e w' => e = .returned (.bool true) ∧ Below w.heap.size w w' := by
  have hb := Int.emod_nonneg a0 (by decide : (65536 : Int) ≠ 0)
  have hb2 := Int.emod_lt_of_pos a0 (by decide : (0 : Int) < 65536)
  have hn := Int.emod_nonneg b0 (by omega : (65537 - a0 % 65536) ≠ 0)
  have hn2 := Int.emod_lt_of_pos b0 (by omega : 0 < (65537 - a0 % 65536))
  clear w0 w1
  generalize hB : a0 % 65536 = b at *
  generalize hN : b0 % (65537 - b) = n at *
  obtain ⟨L, hL⟩ := least_ex (b := b) (n := n) hb (by omega)
  have hbd := around_bd hL.le hb (by omega) hn
  obtain ⟨x1, x2, x3, x4, x5, x6⟩ := hbd
  obtain ⟨M, hM⟩ := least_ex (b := dnI (2 ^ L) b) (n := szI L b n) x1 (by omega)
  obtain ⟨y1, y2⟩ := around hL hM
  have hsmall : n ≤ 15 → dnI (2 ^ L) b = b ∧ szI L b n = n := fun h => by
    have := least_unique hL (least_zero h)
    subst this
    exact ⟨dn_zero b, sz_zero b n⟩
  have hf1 : fitsB M (dnI (2 ^ L) b) (szI L b n) = true := by unfold fitsB; rw [y1, y2]; simp
  have hf2 : fitsB L b n = (dnI (2 ^ L) b == b && szI L b n == n) := rfl
  have hfin : (fitsB L b n == (dnI (2 ^ L) b == b && szI L b n == n)) = true := by rw [hf2]; simp
  generalize hS : szI L b n = s at *
  generalize hD : dnI (2 ^ L) b = d at *
  have q1 : d + s ≤ 65536 := by omega
  have q2 : b + n ≤ d + s := by omega
  have F1 := Lib.hid hf1
  have Y1 := Lib.hid y1
  have Y2 := Lib.hid y2
  have SM := Lib.hid hsmall
  have HS := Lib.hid hS
  have HD := Lib.hid hD
  clear hf1 y1 y2 hsmall hS hD x3 x4 x5
  have co := fun W => out_any b n L hL hb hb2 hn (by omega) W
  rw [HS.out, HD.out] at co
  have co2 := fun W => out_any d s M hM x1 (by omega) (by omega) (by omega) W
  rw [Y1.out, Y2.out] at co2
  have cf := fun W => fits_any d s M hM x1 (by omega) (by omega) (by omega) W
  rw [F1.out] at cf
  have cg := fun W => fits_any b n L hL hb hb2 hn (by omega) W
  have CO := Lib.hid co
  have CO2 := Lib.hid co2
  have CF := Lib.hid cf
  have CG := Lib.hid cg
  clear co co2 cf cg hL hM hfin
  have main : ∀ (f : Bool), Hid (f = (d == b && s == n)) → Hid (∀ W, Calls Try.prog 25 #[.int .i64 b, .int .i64 n] W fun r w' => r = .returned (.bool f) ∧ W = w') →
      Calls Try.prog 11 #[.int .i64 a0, .int .i64 b0] w fun e w' => e = .returned (.bool true) ∧ Below w.heap.size w w' := by
    intro f HF CG
    cases h1 : (d == b)
    · have h15 : decide (n ≤ 15) = false := by
        have hdb : d ≠ b := by simpa using h1
        have := SM.out
        simp
        refine Int.lt_of_not_ge fun hle => hdb (this hle).1
      have hf : f = false := by rw [HF.out, h1]; rfl
      subst hf
      clear HF
      go_enter Try.func11, Try.ntmps11
      go_wp2_with (first
        | (go_at_call 16; refine (rest_any _ _ _ (by omega) (by omega)).mono ?_; rintro e w' ⟨rfl, rfl⟩)
        | (go_at_call 24; (with_reducible refine (CO.out _).mono ?_); rintro e w' ⟨rfl, rfl⟩)
        | (go_at_call 24; (with_reducible refine (CO2.out _).mono ?_); rintro e w' ⟨rfl, rfl⟩)
        | (go_at_call 25; (with_reducible refine (CF.out _).mono ?_); rintro e w' ⟨rfl, rfl⟩)
        | (go_at_call 25; (with_reducible refine (CG.out _).mono ?_); rintro e w' ⟨rfl, rfl⟩))
      go_ret
      exact ⟨rfl, Below.refl _ _⟩
    · have hdb : d = b := by simpa using h1
      have hf : f = (s == n) := by rw [HF.out, h1]; rfl
      have hsn : n ≤ 15 → s = n := fun h => (SM.out h).2
      clear HF SM h1
      subst hdb
      subst hf
      cases h2 : (s == n)
      · have h15 : decide (n ≤ 15) = false := by
          have hdb : s ≠ n := by simpa using h2
          simp
          refine Int.lt_of_not_ge fun hle => hdb (hsn hle)
        clear hsn
        rw [h2] at CG
        go_enter Try.func11, Try.ntmps11
        go_wp2_with (first
              | (go_at_call 16; refine (rest_any _ _ _ (by omega) (by omega)).mono ?_; rintro e w' ⟨rfl, rfl⟩)
              | (go_at_call 24; (with_reducible refine (CO.out _).mono ?_); rintro e w' ⟨rfl, rfl⟩)
              | (go_at_call 24; (with_reducible refine (CO2.out _).mono ?_); rintro e w' ⟨rfl, rfl⟩)
              | (go_at_call 25; (with_reducible refine (CF.out _).mono ?_); rintro e w' ⟨rfl, rfl⟩)
              | (go_at_call 25; (with_reducible refine (CG.out _).mono ?_); rintro e w' ⟨rfl, rfl⟩))
        go_ret
        exact ⟨rfl, Below.refl _ _⟩
      · have hs : s = n := by simpa using h2
        rw [h2] at CG
        clear hsn h2
        subst hs
        have main2 : Calls Try.prog 11 #[.int .i64 a0, .int .i64 b0] w fun e w' => e = .returned (.bool true) ∧ Below w.heap.size w w' := by
          by_cases h15 : s ≤ 15
          all_goals
            go_enter Try.func11, Try.ntmps11
            go_wp2_with (first
              | (go_at_call 16; refine (rest_any _ _ _ (by omega) (by omega)).mono ?_; rintro e w' ⟨rfl, rfl⟩)
              | (go_at_call 24; (with_reducible refine (CO.out _).mono ?_); rintro e w' ⟨rfl, rfl⟩)
              | (go_at_call 25; (with_reducible refine (CG.out _).mono ?_); rintro e w' ⟨rfl, rfl⟩))
            go_ret
            exact ⟨rfl, Below.refl _ _⟩
        exact main2
  exact main _ hf2 CG

end Go.Proofs.Ytpfnnlnlmajbfaa
