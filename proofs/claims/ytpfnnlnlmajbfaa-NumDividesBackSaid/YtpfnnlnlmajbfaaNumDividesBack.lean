/- NumDividesBack: a product that stays in range, divided by one factor, is the other factor. For every two ints, without any condition. -/
import Derived.Test.YtpfnnlnlmajbfaaNum
import Derived.Test.YtpfnnlnlmajbfaaLift
namespace Go.Proofs.Ytpfnnlnlmajbfaa
open Go.ChangeShapes Go.WideShapes Go.ChangeAt Go.RowKit

set_option linter.unusedVariables false
set_option maxHeartbeats 4000000 in
theorem numDividesBack_walk (a0 b0 : Int) (w0 : (Lit.int .i64 a0).wf = true) (w1 : (Lit.int .i64 b0).wf = true) (w : World) :
    Calls Try.prog 8 #[.int .i64 a0, .int .i64 b0] w fun e w' => e = .returned (.bool true) ∧ Below w.heap.size w w' := by
  have e0 : mulF 7 6 = 42 := by unfold mulF wrap32; decide
  have ha := tmod_bd (wrap32 a0) 40000 (by decide)
  have hb := tmod_bd (wrap32 b0) 40000 (by decide)
  have hab := mul_bd (n := 40000) (a := (wrap32 a0).tmod 40000) (b := (wrap32 b0).tmod 40000) (by omega) (by omega)
  clear w0 w1
  generalize hA : (wrap32 a0).tmod 40000 = a at *
  generalize hB : (wrap32 b0).tmod 40000 = b at *
  have HA := Lib.hid hA
  have HB := Lib.hid hB
  have hwa : wrap32 a = a := w32_of (by omega) (by omega)
  have hwb : wrap32 b = b := w32_of (by omega) (by omega)
  have hm : mulF a b = a * b := by unfold mulF; rw [hwa, hwb]; exact w32_of (by omega) (by omega)
  have HAB := Lib.hid hab
  have hwab : wrap32 (a * b) = a * b := w32_of (by omega) (by omega)
  clear hab
  have e1 : ((wrap32 a0).tmod 40000) = a := HA.out
  have e2 : ((wrap32 b0).tmod 40000) = b := HB.out
  by_cases hz : b = 0
  · have hz' : (b == 0) = true := by simp [hz]
    have ZB : wrap32 b = 0 := hwb.trans hz
    have HZB := Lib.hid ZB
    have HM := Lib.hid hm
    have HW := Lib.hid hwb
    clear hz hwa hwb hm ZB hwab
    go_enter Try.func8, Try.ntmps8
    go_wp2_with (first
      | (go_at_call 15; refine (wrap_any _ _).mono ?_; rintro e w' ⟨rfl, rfl⟩)
      | (go_at_call 19; refine (mul_any _ _ _).mono ?_; rintro e w' ⟨rfl, rfl⟩)
      | (go_at_call 21; (with_reducible refine (div_zero _ _ HZB.out _).mono ?_); rintro e w' ⟨rfl, rfl⟩))
    go_ret
    exact ⟨rfl, Below.refl _ _⟩
  · have hz' : (b == 0) = false := by simp [hz]
    have hd : divF (a * b) b = a := by
      unfold divF; rw [hwab, hwb, Int.mul_tdiv_cancel _ hz]; exact hwa
    have ZB : wrap32 b ≠ 0 := by rw [hwb]; exact hz
    have HZB := Lib.hid ZB
    have HW := Lib.hid hwb
    clear hz hwa hwb ZB hwab
    go_enter Try.func8, Try.ntmps8
    go_wp2_with (first
      | (go_at_call 15; refine (wrap_any _ _).mono ?_; rintro e w' ⟨rfl, rfl⟩)
      | (go_at_call 19; refine (mul_any _ _ _).mono ?_; rintro e w' ⟨rfl, rfl⟩)
      | (go_at_call 21; (with_reducible refine (div_any _ _ HZB.out _).mono ?_); rintro e w' ⟨rfl, rfl⟩))
    go_ret
    exact ⟨rfl, Below.refl _ _⟩

end Go.Proofs.Ytpfnnlnlmajbfaa
