/- RoundBack: a representable range is restored from its number, and what is read of a number is told as that number. For every three ints, without any condition. -/
import Derived.Test.YthadehaoafkaeaaShort
import Derived.Test.YthadehaoafkaeaaBlk
namespace Go.Proofs.Ythadehaoafkaeaa
open Go.RowKit
set_option linter.unusedVariables false

set_option maxHeartbeats 8000000 in
set_option maxRecDepth 100000 in
theorem roundBack_walk (a0 b0 s : Int) (w0 : (Lit.int .i64 a0).wf = true) (w1 : (Lit.int .i64 b0).wf = true) (w2 : (Lit.int .i64 s).wf = true) (w : World) :
    Calls Try.prog 6 #[.int .i64 a0, .int .i64 b0, .int .i64 s] w fun e w' => e = .returned (.bool true) ∧ Below w.heap.size w w' := by
  have bs := wf_bd w2
  have hb := Int.emod_nonneg a0 (by decide : (65536 : Int) ≠ 0)
  have hb2 := Int.emod_lt_of_pos a0 (by decide : (0 : Int) < 65536)
  have hn := Int.emod_nonneg b0 (by omega : (65537 - a0 % 65536) ≠ 0)
  have hn2 := Int.emod_lt_of_pos b0 (by omega : 0 < (65537 - a0 % 65536))
  clear w0 w1 w2
  generalize hB : a0 % 65536 = b at *
  generalize hN : b0 % (65537 - b) = n at *
  obtain ⟨L, hL⟩ := least_ex (b := b) (n := n) hb (by omega)
  have l16 : Least 0 16 1 := by
    refine ⟨by omega, by decide, fun j hj => ?_⟩
    obtain rfl : j = 0 := by omega
    decide
  have e16 : shI 1 0 16 = 1048584 := by decide
  have s0 := fun W => short_yes 0 16 1 l16 (by omega) (by omega) (by omega) (by omega) (by decide) W
  rw [e16] at s0
  have fbn := fun W => fits_any b n L hL hb hb2 hn (by omega) W
  obtain ⟨a, m, f, ls, ia, hf⟩ := long_ex s bs
  have S0 := Lib.hid s0
  have LS := Lib.hid ls
  clear s0 ls l16 e16
  have main : ∀ x c : Int, (∃ d : Bool, (d = true ↔ c = 0) ∧ Hid (∀ W, Calls Try.prog 24 #[.int .i64 b, .int .i64 n] W fun r w' => r = .returned (.bool d) ∧ W = w')) →
      Hid (∀ W, Calls Try.prog 23 #[.int .i64 b, .int .i64 n] W fun e w' => e = .returned (.tuple #[.int .i64 x, .int .i64 c]) ∧ Below W.heap.size W w') →
      (c = 0 → Hid (∀ W, Calls Try.prog 25 #[.int .i64 x] W fun e w' => e = .returned (.tuple #[.int .i64 b, .int .i64 n, .int .i64 0]) ∧ Below W.heap.size W w')) →
      Calls Try.prog 6 #[.int .i64 a0, .int .i64 b0, .int .i64 s] w fun e w' => e = .returned (.bool true) ∧ Below w.heap.size w w' := by
    intro x c ⟨d, hd, FBN⟩ SBN hlx
    clear fbn hL
    by_cases hc : c = 0
    · have LX := hlx hc
      have hd' := hd.2 hc
      subst hd' hc
      clear hd hlx
      rcases hf with ⟨rfl, rfl, rfl⟩ | ⟨rfl, hsam⟩
      · obtain ⟨r, c, h00⟩ := short_ex 0 0 ⟨by decide, by decide⟩
        have SAM := Lib.hid h00
        clear h00
        go_enter Try.func6, Try.ntmps6
        go_wp2_with (first
            | (go_at_call 17; refine (rest_any _ _ _ (by omega) (by omega)).mono ?_; rintro e w' ⟨rfl, rfl⟩)
            | (go_at_call 23; ((with_reducible refine (S0.out _).mono ?_); rintro e w1 ⟨rfl, hb1⟩))
            | (go_at_call 23; ((with_reducible refine (SBN.out _).mono ?_); rintro e w2 ⟨rfl, hb2⟩))
            | (go_at_call 24; (with_reducible refine (FBN.out _).mono ?_); rintro e w' ⟨rfl, rfl⟩)
            | (go_at_call 25; ((with_reducible refine (LX.out _).mono ?_); rintro e w3 ⟨rfl, hb3⟩))
            | (go_at_call 25; ((with_reducible refine (LS.out _).mono ?_); rintro e w4 ⟨rfl, hb4⟩))
            | (go_at_call 23; ((with_reducible refine (SAM.out _).mono ?_); rintro e w5 ⟨rfl, hb5⟩)))
        go_ret
        refine ⟨rfl, ?_⟩
        repeat (first | with_reducible exact Below.refl _ _ | with_reducible refine ext_alloc ?_ _ | with_reducible refine ext_drew ?_ | with_reducible refine ext_set ?_ (by first | omega | (simp; done) | (simp; omega)) _ | with_reducible refine ext_trans ?_ ‹_›)
      · have SAM := Lib.hid hsam
        clear hsam
        go_enter Try.func6, Try.ntmps6
        go_wp2_with (first
            | (go_at_call 17; refine (rest_any _ _ _ (by omega) (by omega)).mono ?_; rintro e w' ⟨rfl, rfl⟩)
            | (go_at_call 23; ((with_reducible refine (S0.out _).mono ?_); rintro e w1 ⟨rfl, hb1⟩))
            | (go_at_call 23; ((with_reducible refine (SBN.out _).mono ?_); rintro e w2 ⟨rfl, hb2⟩))
            | (go_at_call 24; (with_reducible refine (FBN.out _).mono ?_); rintro e w' ⟨rfl, rfl⟩)
            | (go_at_call 25; ((with_reducible refine (LX.out _).mono ?_); rintro e w3 ⟨rfl, hb3⟩))
            | (go_at_call 25; ((with_reducible refine (LS.out _).mono ?_); rintro e w4 ⟨rfl, hb4⟩))
            | (go_at_call 23; ((with_reducible refine (SAM.out _).mono ?_); rintro e w5 ⟨rfl, hb5⟩)))
        go_ret
        refine ⟨rfl, ?_⟩
        repeat (first | with_reducible exact Below.refl _ _ | with_reducible refine ext_alloc ?_ _ | with_reducible refine ext_drew ?_ | with_reducible refine ext_set ?_ (by first | omega | (simp; done) | (simp; omega)) _ | with_reducible refine ext_trans ?_ ‹_›)
    · have hd' : d = false := by
        cases d
        · rfl
        · exact absurd (hd.1 rfl) hc
      have g1 : (c == 0) = false := by simp [hc]
      subst hd'
      clear hd hlx hc
      rcases hf with ⟨rfl, rfl, rfl⟩ | ⟨rfl, hsam⟩
      · obtain ⟨r, c2, h00⟩ := short_ex 0 0 ⟨by decide, by decide⟩
        have SAM := Lib.hid h00
        clear h00
        go_enter Try.func6, Try.ntmps6
        go_wp2_with (first
            | (go_at_call 17; refine (rest_any _ _ _ (by omega) (by omega)).mono ?_; rintro e w' ⟨rfl, rfl⟩)
            | (go_at_call 23; ((with_reducible refine (S0.out _).mono ?_); rintro e w1 ⟨rfl, hb1⟩))
            | (go_at_call 23; ((with_reducible refine (SBN.out _).mono ?_); rintro e w2 ⟨rfl, hb2⟩))
            | (go_at_call 24; (with_reducible refine (FBN.out _).mono ?_); rintro e w' ⟨rfl, rfl⟩)
            | (go_at_call 25; ((with_reducible refine (LS.out _).mono ?_); rintro e w4 ⟨rfl, hb4⟩))
            | (go_at_call 23; ((with_reducible refine (SAM.out _).mono ?_); rintro e w5 ⟨rfl, hb5⟩)))
        go_ret
        refine ⟨rfl, ?_⟩
        repeat (first | with_reducible exact Below.refl _ _ | with_reducible refine ext_alloc ?_ _ | with_reducible refine ext_drew ?_ | with_reducible refine ext_set ?_ (by first | omega | (simp; done) | (simp; omega)) _ | with_reducible refine ext_trans ?_ ‹_›)
      · have SAM := Lib.hid hsam
        clear hsam
        go_enter Try.func6, Try.ntmps6
        go_wp2_with (first
            | (go_at_call 17; refine (rest_any _ _ _ (by omega) (by omega)).mono ?_; rintro e w' ⟨rfl, rfl⟩)
            | (go_at_call 23; ((with_reducible refine (S0.out _).mono ?_); rintro e w1 ⟨rfl, hb1⟩))
            | (go_at_call 23; ((with_reducible refine (SBN.out _).mono ?_); rintro e w2 ⟨rfl, hb2⟩))
            | (go_at_call 24; (with_reducible refine (FBN.out _).mono ?_); rintro e w' ⟨rfl, rfl⟩)
            | (go_at_call 25; ((with_reducible refine (LS.out _).mono ?_); rintro e w4 ⟨rfl, hb4⟩))
            | (go_at_call 23; ((with_reducible refine (SAM.out _).mono ?_); rintro e w5 ⟨rfl, hb5⟩)))
        go_ret
        refine ⟨rfl, ?_⟩
        repeat (first | with_reducible exact Below.refl _ _ | with_reducible refine ext_alloc ?_ _ | with_reducible refine ext_drew ?_ | with_reducible refine ext_set ?_ (by first | omega | (simp; done) | (simp; omega)) _ | with_reducible refine ext_trans ?_ ‹_›)
  cases hfit : fitsB L b n
  · rw [hfit] at fbn
    exact main 0 5 ⟨false, by decide, Lib.hid fbn⟩ (Lib.hid fun W => short_form b n L hL hb hb2 hn (by omega) hfit W) (fun h => by omega)
  · rw [hfit] at fbn
    exact main _ 0 ⟨true, by simp, Lib.hid fbn⟩ (Lib.hid fun W => short_yes b n L hL hb hb2 hn (by omega) hfit W) (fun _ => Lib.hid fun W => long_back b n L hL hb hb2 hn (by omega) hfit W)

end Go.Proofs.Ythadehaoafkaeaa
