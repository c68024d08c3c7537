/- NumDivides: Euclid: the remainder is smaller than the divisor and has the sign of the dividend. For every two ints, without any condition. -/
import Derived.Test.YtpfnnlnlmajbfaaNum
import Derived.Test.YtpfnnlnlmajbfaaLift
import Derived.Deep.DeepCutAuto
namespace Go.Proofs.Ytpfnnlnlmajbfaa
open Go.ChangeShapes Go.WideShapes Go.ChangeAt Go.RowKit

theorem rest_tdiv (a b : Int) : a - a.tdiv b * b = a.tmod b := by have := Int.tdiv_mul_add_tmod a b; omega
theorem tmod_lt (a b : Int) (h : b ≠ 0) : (max (a.tmod b) (-(a.tmod b)) < max b (-b)) ∧ ((a.tmod b = 0) ∨ (a.tmod b < 0 ↔ a < 0)) := by
  have h1 : (a.tmod b).natAbs = a.natAbs % b.natAbs := Int.natAbs_tmod a b
  have h2 : a.natAbs % b.natAbs < b.natAbs := Nat.mod_lt _ (by omega)
  refine ⟨by omega, ?_⟩
  by_cases ha : 0 ≤ a
  · have := Int.tmod_nonneg b ha
    omega
  · have h3 : (-a).tmod b = -(a.tmod b) := Int.neg_tmod a b
    have := Int.tmod_nonneg b (show 0 ≤ -a by omega)
    omega
theorem w32_tdiv {a b : Int} (ha : -2147483648 ≤ a ∧ a ≤ 2147483647) (hb : b ≠ 0) (h : ¬ (a = -2147483648 ∧ b = -1)) : wrap32 (a.tdiv b) = a.tdiv b := by
  have h1 : (a.tdiv b).natAbs = a.natAbs / b.natAbs := Int.natAbs_tdiv a b
  have h2 : a.natAbs / b.natAbs ≤ a.natAbs := Nat.div_le_self _ _
  by_cases hx : a = -2147483648
  · subst hx
    by_cases h3 : b = 1
    · subst h3; unfold wrap32; decide
    · have h4 : 2 ≤ b.natAbs := by omega
      have h5 : (-2147483648 : Int).natAbs / b.natAbs ≤ 2147483648 / 2 := Nat.div_le_div_left h4 (by decide)
      exact w32_of (by omega) (by omega)
  · exact w32_of (by omega) (by omega)
set_option linter.unusedVariables false
set_option maxHeartbeats 4000000 in
set_option maxRecDepth 100000 in
theorem numDivides_walk (a0 b0 : Int) (w0 : (Lit.int .i64 a0).wf = true) (w1 : (Lit.int .i64 b0).wf = true) (w : World) :
    Calls Try.prog 6 #[.int .i64 a0, .int .i64 b0] w fun e w' => e = .returned (.bool true) ∧ Below w.heap.size w w' := by
  have e0 : divF (-7) 2 = -3 := by unfold divF wrap32; decide
  have n0 : wrap32 2 ≠ 0 := by unfold wrap32; decide
  have ha := w32_bd a0
  have hb := w32_bd b0
  have a1 := w32_32 a0
  have b1 := w32_32 b0
  have hd : divF (wrap32 a0) (wrap32 b0) = wrap32 ((wrap32 a0).tdiv (wrap32 b0)) := by unfold divF; rw [a1, b1]
  clear w0 w1
  generalize hA : wrap32 a0 = a at *
  generalize hB : wrap32 b0 = b at *
  have X := Lib.hid hd
  have B1 := Lib.hid b1
  have N0 := Lib.hid n0
  clear hd a1 b1 n0
  obtain ⟨ha1, ha2⟩ := ha
  obtain ⟨hb1, hb2⟩ := hb
  by_cases hz : b = 0
  · have hz' : (b == 0) = true := by simp [hz]
    have HZ := Lib.hid hz
    clear hz
    go_enter Try.func6, Try.ntmps6
    go_wp2_with (first
      | (go_at_call 15; refine (wrap_any _ _).mono ?_; rintro e w' ⟨rfl, rfl⟩)
      | (go_at_call 21; (with_reducible refine (div_any (-7) 2 N0.out _).mono ?_); rintro e w' ⟨rfl, rfl⟩)
      | (go_at_call 21; (with_reducible refine (div_zero a b (B1.out.trans HZ.out) _).mono ?_); rintro e w' ⟨rfl, rfl⟩))
    go_ret
    exact ⟨rfl, Below.refl _ _⟩
  · have hz' : (b == 0) = false := by simp [hz]
    have hwb : wrap32 b ≠ 0 := by rw [B1.out]; exact hz
    have HB := Lib.hid hwb
    clear hwb
    by_cases hm : a = -2147483648 ∧ b = -1
    · obtain ⟨hm1, hm2⟩ := hm
      have hq : divF a b = -2147483648 := by rw [X.out, hm1, hm2]; unfold wrap32; decide
      have k1 : (a == -2147483648) = true := by simp [hm1]
      have k2 : (b == -1) = true := by simp [hm2]
      have k3 : (-2147483648 == a) = true := by simp [hm1]
      clear hz
      have HM := Lib.hid hm1
      have HM2 := Lib.hid hm2
      clear hm1 hm2
      go_enter Try.func6, Try.ntmps6
      go_wp2_with (first
        | (go_at_call 15; refine (wrap_any _ _).mono ?_; rintro e w' ⟨rfl, rfl⟩)
        | (go_at_call 21; (with_reducible refine (div_any (-7) 2 N0.out _).mono ?_); rintro e w' ⟨rfl, rfl⟩)
        | (go_at_call 21; (with_reducible refine (div_any a b HB.out _).mono ?_); rintro e w' ⟨rfl, rfl⟩))
      go_ret
      exact ⟨rfl, Below.refl _ _⟩
    · have hq : divF a b = a.tdiv b := by rw [X.out]; exact w32_tdiv ⟨ha1, ha2⟩ hz hm
      have hr := rest_tdiv a b
      have ht := tmod_lt a b hz
      generalize a.tdiv b = q at *
      generalize a.tmod b = r at *
      obtain ⟨t1, t2⟩ := ht
      have hfin : (r == 0 || decide (r < 0) == decide (a < 0)) = true := by
        by_cases hr0 : r = 0
        · simp [hr0]
        · have : (decide (r < 0)) = decide (a < 0) := by rw [decide_eq_decide]; omega
          rw [this]; simp
      have hqb : ∃ p : Int, wrap64 (q * b) = p ∧ a - p = r ∧ -2147483648 ≤ p ∧ p ≤ 2147483647 := by
        have h1 : q * b = a - r := by omega
        have h3 : r ≤ 0 ∨ 0 ≤ a := by omega
        have h4 : 0 ≤ r ∨ a < 0 := by omega
        rw [h1]; exact ⟨a - r, w64_of (by omega) (by omega), by omega, by omega, by omega⟩
      obtain ⟨p, hp1, hp2, hp3, hp4⟩ := hqb
      have FIN := Lib.hid hfin
      have HM := Lib.hid hm
      have HZ := Lib.hid hz
      clear t2 hr hz hm hfin
      by_cases hA : a = -2147483648
      · have k1 : (a == -2147483648) = true := by simp [hA]
        have k2 : (b == -1) = false := by rw [beq_eq_false_iff_ne]; exact fun h => HM.out ⟨hA, h⟩
        have HA' := Lib.hid hA
        clear hA
        go_enter Try.func6, Try.ntmps6
        go_wp2_with (first
          | (go_at_call 15; refine (wrap_any _ _).mono ?_; rintro e w' ⟨rfl, rfl⟩)
          | (go_at_call 21; (with_reducible refine (div_any (-7) 2 N0.out _).mono ?_); rintro e w' ⟨rfl, rfl⟩)
          | (go_at_call 21; (with_reducible refine (div_any a b HB.out _).mono ?_); rintro e w' ⟨rfl, rfl⟩))
        all_goals (go_ret; first | exact ⟨rfl, Below.refl _ _⟩ | exact ⟨ret_bool FIN.out, Below.refl _ _⟩)
      · have k1 : (a == -2147483648) = false := by simp [hA]
        have HA' := Lib.hid hA
        clear hA
        go_enter Try.func6, Try.ntmps6
        go_wp2_with (first
          | (go_at_call 15; refine (wrap_any _ _).mono ?_; rintro e w' ⟨rfl, rfl⟩)
          | (go_at_call 21; (with_reducible refine (div_any (-7) 2 N0.out _).mono ?_); rintro e w' ⟨rfl, rfl⟩)
          | (go_at_call 21; (with_reducible refine (div_any a b HB.out _).mono ?_); rintro e w' ⟨rfl, rfl⟩))
        all_goals (go_ret; first | exact ⟨rfl, Below.refl _ _⟩ | exact ⟨ret_bool FIN.out, Below.refl _ _⟩)

end Go.Proofs.Ytpfnnlnlmajbfaa
