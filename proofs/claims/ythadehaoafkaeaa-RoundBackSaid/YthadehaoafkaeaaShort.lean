/- What Short and Long of package round compute. -/
import Derived.Test.YthadehaoafkaeaaRound
import Derived.Test.YthadehaoafkaeaaBits
import Derived.BigQuiet
namespace Go.Proofs.Ythadehaoafkaeaa
open Go.RowKit
set_option linter.unusedVariables false

theorem below_drewN' (w : World) (n : Nat) : Below w.heap.size w (w.drewN n) := ⟨rfl, rfl, rfl, Nat.le_refl _, fun _ _ => rfl⟩
theorem wraps_i64 (n : Int) (h₀ : 0 ≤ n) (h₁ : n < 2 ^ 62) : IntKind.i64.wrap n = n := by rw [IntKind.wrap_i64]; omega
theorem join_i64 (i : Nat) (x y : Int) (hx₀ : 0 ≤ x) (hx : x % 2 ^ i = 0) (hx₁ : x < 2 ^ 62) (hy₀ : 0 ≤ y) (hy : y < 2 ^ i) (hy₁ : y < 2 ^ 62) : bits .or .i64 x y = x + y :=
  bits_join .i64 62 (by decide) wraps_i64 i x y hx₀ hx hx₁ hy₀ hy hy₁
theorem mask_i64 (i : Nat) (hi : i ≤ 62) (x : Int) (h₀ : 0 ≤ x) (h₁ : x < 2 ^ 62) : bits .and .i64 x (2 ^ i - 1) = x % 2 ^ i :=
  bits_mask .i64 62 (by decide) wraps_i64 i hi x h₀ h₁
/-- A range that fits, as a number. -/
def shI (L : Nat) (b n : Int) : Int := L * 1048576 + b / 2 ^ L * 16 + n / 2 ^ L
theorem fitsB_iff {L : Nat} {b n : Int} : fitsB L b n = true ↔ dnI (2 ^ L) b = b ∧ szI L b n = n := by
  unfold fitsB; rw [Bool.and_eq_true, beq_iff_eq, beq_iff_eq]
/-- The parts of a range that fits. -/
theorem fits_parts {L : Nat} {b n : Int} (hL : Least b n L) (hb : 0 ≤ b) (hb2 : b < 65536) (hn : 0 ≤ n) (hf : fitsB L b n = true) :
    b / 2 ^ L * 2 ^ L = b ∧ n / 2 ^ L * 2 ^ L = n ∧ 0 ≤ b / 2 ^ L ∧ b / 2 ^ L ≤ 65535 ∧ 0 ≤ n / 2 ^ L ∧ n / 2 ^ L ≤ 15 := by
  obtain ⟨h1, h2⟩ := fitsB_iff.1 hf
  have hq := pow_pos L
  have hd : (2 : Int) ^ L ∣ b := h1 ▸ dn_dvd _ _
  have hu : (2 : Int) ^ L ∣ b + n := by
    have e : upI (2 ^ L) (b + n) = b + n := by
      have : szI L b n = upI (2 ^ L) (b + n) - dnI (2 ^ L) b := rfl
      omega
    exact e ▸ up_dvd _ _
  have hdn : (2 : Int) ^ L ∣ n := by
    have := Int.dvd_sub hu hd
    rwa [show b + n - b = n by omega] at this
  have hfit := hL.fit
  rw [h2] at hfit
  have g1 := Int.ediv_mul_cancel hd
  have g2 := Int.ediv_mul_cancel hdn
  have g3 := Int.ediv_nonneg hb (Int.le_of_lt hq)
  have g4 := Int.ediv_nonneg hn (Int.le_of_lt hq)
  refine ⟨g1, g2, g3, ?_, g4, ?_⟩
  · have : b / 2 ^ L ≤ b := Int.ediv_le_self _ hb
    omega
  · have : n / 2 ^ L < 16 := Int.ediv_lt_of_lt_mul hq (by omega)
    omega

theorem isRange_no (b n : Int) (hI : I64' b) (h : ¬ (0 ≤ b ∧ b < 65536 ∧ 0 ≤ n ∧ b + n ≤ 65536)) (w : World) :
    Calls Try.prog 41 #[.int .i64 b, .int .i64 n] w fun r w' => r = .returned (.bool false) ∧ w = w' := by
  obtain ⟨i1, i2⟩ := hI
  by_cases h1 : 0 ≤ b
  · have e1 : decide (0 ≤ b) = true := by simp; omega
    by_cases h2 : b < 65536
    · have e2 : decide (b < 65536) = true := by simp; omega
      by_cases h3 : 0 ≤ n
      · have e3 : decide (0 ≤ n) = true := by simp; omega
        have e4 : decide (n ≤ 65536 - b) = false := by simp; omega
        go_enter Try.func41, Try.ntmps41
        go_wp2
        go_ret
        exact ⟨rfl, rfl⟩
      · have e3 : decide (0 ≤ n) = false := by simp; omega
        go_enter Try.func41, Try.ntmps41
        go_wp2
        go_ret
        exact ⟨rfl, rfl⟩
    · have e2 : decide (b < 65536) = false := by simp; omega
      go_enter Try.func41, Try.ntmps41
      go_wp2
      go_ret
      exact ⟨rfl, rfl⟩
  · have e1 : decide (0 ≤ b) = false := by simp; omega
    go_enter Try.func41, Try.ntmps41
    go_wp2
    go_ret
    exact ⟨rfl, rfl⟩

theorem short_yes (b n : Int) (L : Nat) (hL : Least b n L) (hb : 0 ≤ b) (hb2 : b < 65536) (hn : 0 ≤ n) (hbn : b + n ≤ 65536) (hf : fitsB L b n = true) (w : World) :
    Calls Try.prog 23 #[.int .i64 b, .int .i64 n] w fun r w' => r = .returned (.tuple #[.int .i64 (shI L b n), .int .i64 0]) ∧ Below w.heap.size w w' := by
  have hL13 := hL.le
  have hq := pow_pos L
  have hq2 := pow_le13 hL13
  obtain ⟨_, _, g3, g4, g5, g6⟩ := fits_parts hL hb hb2 hn hf
  have j1 : bits .or .i64 (L * 1048576) (b / 2 ^ L * 16) = L * 1048576 + b / 2 ^ L * 16 := join_i64 20 _ _ (by omega) (by omega) (by omega) (by omega) (by omega) (by omega)
  have j2 : bits .or .i64 (L * 1048576 + b / 2 ^ L * 16) (n / 2 ^ L) = shI L b n := join_i64 4 _ _ (by omega) (by omega) (by omega) (by omega) (by omega) (by omega)
  have hw : wrap64 (b / 2 ^ L * 16) = b / 2 ^ L * 16 := w64_of (by omega) (by omega)
  have J1 := Lib.hid j1
  have J2 := Lib.hid j2
  have HW := Lib.hid hw
  have FL := Lib.hid hL
  clear j1 j2 hw hL
  go_enter Try.func23, Try.ntmps23
  go_wp2_with (first
    | (go_at_call 41; refine (isRange_yes b n hb hb2 hn hbn _).mono ?_; rintro e w' ⟨rfl, rfl⟩)
    | (go_at_call 24; refine (fits_any b n L FL.out hb hb2 hn hbn _).mono ?_; rintro e w' ⟨rfl, rfl⟩)
    | (go_at_call 42; refine (least_any b n L FL.out hb hn hbn _).mono ?_; rintro e w' ⟨rfl, rfl⟩))
  go_quiet (fail)
  go_wp2
  go_ret2
  refine ⟨ret2 (vint ?_) rfl, below_drewN' _ _⟩
  first
  | (rw [HW.out, J1.out, J2.out]; done)
  | (rw [J1.out, J2.out]; done)
theorem short_form (b n : Int) (L : Nat) (hL : Least b n L) (hb : 0 ≤ b) (hb2 : b < 65536) (hn : 0 ≤ n) (hbn : b + n ≤ 65536) (hf : fitsB L b n = false) (w : World) :
    Calls Try.prog 23 #[.int .i64 b, .int .i64 n] w fun r w' => r = .returned (.tuple #[.int .i64 0, .int .i64 5]) ∧ Below w.heap.size w w' := by
  go_enter Try.func23, Try.ntmps23
  go_wp2_with (first
    | (go_at_call 41; refine (isRange_yes b n hb hb2 hn hbn _).mono ?_; rintro e w' ⟨rfl, rfl⟩)
    | (go_at_call 24; refine (fits_any b n L hL hb hb2 hn hbn _).mono ?_; rintro e w' ⟨rfl, rfl⟩))
  go_ret2
  exact ⟨rfl, Below.refl _ _⟩
theorem short_arg (b n : Int) (hI : I64' b) (h : ¬ (0 ≤ b ∧ b < 65536 ∧ 0 ≤ n ∧ b + n ≤ 65536)) (w : World) :
    Calls Try.prog 23 #[.int .i64 b, .int .i64 n] w fun r w' => r = .returned (.tuple #[.int .i64 0, .int .i64 1]) ∧ Below w.heap.size w w' := by
  have H := Lib.hid h
  clear h
  go_enter Try.func23, Try.ntmps23
  go_wp2_with (go_at_call 41; refine (isRange_no b n hI H.out _).mono ?_; rintro e w' ⟨rfl, rfl⟩)
  go_ret2
  exact ⟨rfl, Below.refl _ _⟩
/-- What Short answers, whatever it is given: a number, or an error. -/
theorem short_ex (b n : Int) (hI : I64' b) : ∃ r c : Int, (∀ W, Calls Try.prog 23 #[.int .i64 b, .int .i64 n] W fun e w' => e = .returned (.tuple #[.int .i64 r, .int .i64 c]) ∧ Below W.heap.size W w') := by
  by_cases h : 0 ≤ b ∧ b < 65536 ∧ 0 ≤ n ∧ b + n ≤ 65536
  · obtain ⟨h1, h2, h3, h4⟩ := h
    obtain ⟨L, hL⟩ := least_ex (b := b) (n := n) h1 h4
    cases hf : fitsB L b n
    · exact ⟨0, 5, fun W => short_form b n L hL h1 h2 h3 h4 hf W⟩
    · exact ⟨_, 0, fun W => short_yes b n L hL h1 h2 h3 h4 hf W⟩
  · exact ⟨0, 1, fun W => short_arg b n hI h W⟩

/-- The two numbers that Long tries. -/
def lbI (s : Int) (e : Nat) : Int := s / 16 % 65536 * 2 ^ e
def lnI (s : Int) (e : Nat) : Int := s % 16 * 2 ^ e
theorem lb_bd (s : Int) (e : Nat) (he : e ≤ 16) : 0 ≤ lbI s e ∧ lbI s e ≤ 4294901760 ∧ 0 ≤ lnI s e ∧ lnI s e ≤ 983040 := by
  have hq := pow_pos e
  have hq2 : (2 : Int) ^ e ≤ 65536 := Int.le_of_dvd (by decide) (pow_dvd (e := 16) he)
  have h1 := Int.emod_nonneg (s / 16) (by decide : (65536 : Int) ≠ 0)
  have h2 := Int.emod_lt_of_pos (s / 16) (by decide : (0 : Int) < 65536)
  have h3 := Int.emod_nonneg s (by decide : (16 : Int) ≠ 0)
  have h4 := Int.emod_lt_of_pos s (by decide : (0 : Int) < 16)
  unfold lbI lnI
  refine ⟨Int.mul_nonneg h1 (by omega), ?_, Int.mul_nonneg h3 (by omega), ?_⟩
  · have := Int.mul_le_mul (show s / 16 % 65536 ≤ 65535 by omega) hq2 (by omega) (by decide)
    omega
  · have := Int.mul_le_mul (show s % 16 ≤ 15 by omega) hq2 (by omega) (by decide)
    omega
theorem long_walk (s : Int) (e : Nat) (r c : Int) (hs : 0 ≤ s) (hs2 : s ≤ 9223372036854775807) (he : s / 1048576 = e) (he2 : e ≤ 16)
    (hc : ∀ W, Calls Try.prog 23 #[.int .i64 (lbI s e), .int .i64 (lnI s e)] W fun e w' => e = .returned (.tuple #[.int .i64 r, .int .i64 c]) ∧ Below W.heap.size W w') (w : World) :
    Calls Try.prog 25 #[.int .i64 s] w fun x w' => x = .returned (if c = 0 ∧ r = s then .tuple #[.int .i64 (lbI s e), .int .i64 (lnI s e), .int .i64 0] else .tuple #[.int .i64 0, .int .i64 0, .int .i64 5]) ∧ Below w.heap.size w w' := by
  have hB := lb_bd s e he2
  have hq := pow_pos e
  have m1 : bits .and .i64 (s / 16) 65535 = s / 16 % 65536 := mask_i64 16 (by decide) _ (by omega) (by omega)
  have m2 : bits .and .i64 s 15 = s % 16 := mask_i64 4 (by decide) _ (by omega) (by omega)
  have k1 : IntKind.i64.wrap (s / 16 % 65536 * 2 ^ e) = lbI s e := IntWalk.i64_in _ ⟨by have := hB.1; unfold lbI at this; omega, by have := hB.2.1; unfold lbI at this; omega⟩
  have k2 : IntKind.i64.wrap (s % 16 * 2 ^ e) = lnI s e := IntWalk.i64_in _ ⟨by have := hB.2.2.1; unfold lnI at this; omega, by have := hB.2.2.2; unfold lnI at this; omega⟩
  have l1 : wrap64 (s / 16 % 65536 * 2 ^ e) = lbI s e := w64_of (by have := hB.1; unfold lbI at this; omega) (by have := hB.2.1; unfold lbI at this; omega)
  have l2 : wrap64 (s % 16 * 2 ^ e) = lnI s e := w64_of (by have := hB.2.2.1; unfold lnI at this; omega) (by have := hB.2.2.2; unfold lnI at this; omega)
  have g1 : decide (s < 0) = false := by simp; omega
  have g2 : decide (16 < (e : Int)) = false := by simp; omega
  have HC := Lib.hid hc
  clear hc hB
  generalize lbI s e = B at *
  generalize lnI s e = N at *
  by_cases h0 : c = 0
  · by_cases h1 : r = s
    · rw [if_pos ⟨h0, h1⟩]
      subst h0 h1
      go_enter Try.func25, Try.ntmps25
      go_wp2_with fail
      go_quiet (fail)
      go_wp2_with (go_at_call 23; (with_reducible refine (HC.out _).mono ?_); rintro e w1 ⟨rfl, hb1⟩)
      go_ret3
      exact ⟨rfl, (below_drewN' _ _).trans hb1⟩
    · rw [if_neg (fun h => h1 h.2)]
      have h2 : (r != s) = true := by simp [h1]
      subst h0
      go_enter Try.func25, Try.ntmps25
      go_wp2_with fail
      go_quiet (fail)
      go_wp2_with (go_at_call 23; (with_reducible refine (HC.out _).mono ?_); rintro e w1 ⟨rfl, hb1⟩)
      go_ret3
      exact ⟨rfl, (below_drewN' _ _).trans hb1⟩
  · rw [if_neg (fun h => h0 h.1)]
    have h2 : (c != 0) = true := by simp [h0]
    go_enter Try.func25, Try.ntmps25
    go_wp2_with fail
    go_quiet (fail)
    go_wp2_with (go_at_call 23; (with_reducible refine (HC.out _).mono ?_); rintro e w1 ⟨rfl, hb1⟩)
    go_ret3
    exact ⟨rfl, (below_drewN' _ _).trans hb1⟩
theorem long_bad (s : Int) (hs : I64' s) (h : s < 0 ∨ 16 < s / 1048576) (w : World) :
    Calls Try.prog 25 #[.int .i64 s] w fun x w' => x = .returned (.tuple #[.int .i64 0, .int .i64 0, .int .i64 5]) ∧ Below w.heap.size w w' := by
  obtain ⟨s1, s2⟩ := hs
  by_cases h0 : s < 0
  · have g1 : decide (s < 0) = true := by simp; omega
    clear h
    go_enter Try.func25, Try.ntmps25
    go_wp2
    go_ret3
    exact ⟨rfl, Below.refl _ _⟩
  · have g1 : decide (s < 0) = false := by simp; omega
    have g2 : decide (16 < s / 1048576) = true := by simp; omega
    clear h
    go_enter Try.func25, Try.ntmps25
    go_wp2
    go_ret3
    exact ⟨rfl, Below.refl _ _⟩
/-- What Long answers: an error and nought, or a range of which Short answers that number. -/
theorem long_ex (s : Int) (hs : I64' s) : ∃ a m f : Int, (∀ W, Calls Try.prog 25 #[.int .i64 s] W fun e w' => e = .returned (.tuple #[.int .i64 a, .int .i64 m, .int .i64 f]) ∧ Below W.heap.size W w') ∧
    I64' a ∧ ((f = 5 ∧ a = 0 ∧ m = 0) ∨ (f = 0 ∧ ∀ W, Calls Try.prog 23 #[.int .i64 a, .int .i64 m] W fun e w' => e = .returned (.tuple #[.int .i64 s, .int .i64 0]) ∧ Below W.heap.size W w')) := by
  by_cases h : s < 0 ∨ 16 < s / 1048576
  · exact ⟨0, 0, 5, fun W => long_bad s hs h W, ⟨by decide, by decide⟩, .inl ⟨rfl, rfl, rfl⟩⟩
  · obtain ⟨s1, s2⟩ := hs
    obtain ⟨e, he⟩ := Int.eq_ofNat_of_zero_le (show 0 ≤ s / 1048576 by omega)
    have hB := lb_bd s e (by omega)
    have hIB : I64' (lbI s e) := ⟨by omega, by omega⟩
    obtain ⟨r, c, hc⟩ := short_ex (lbI s e) (lnI s e) hIB
    have hw := fun W => long_walk s e r c (by omega) s2 he (by omega) hc W
    by_cases hcr : c = 0 ∧ r = s
    · rw [if_pos hcr] at hw
      obtain ⟨rfl, rfl⟩ := hcr
      exact ⟨_, _, 0, hw, hIB, .inr ⟨rfl, hc⟩⟩
    · rw [if_neg hcr] at hw
      exact ⟨0, 0, 5, hw, ⟨by decide, by decide⟩, .inl ⟨rfl, rfl, rfl⟩⟩
/-- Long of what Short answered. -/
theorem long_back (b n : Int) (L : Nat) (hL : Least b n L) (hb : 0 ≤ b) (hb2 : b < 65536) (hn : 0 ≤ n) (hbn : b + n ≤ 65536) (hf : fitsB L b n = true) (w : World) :
    Calls Try.prog 25 #[.int .i64 (shI L b n)] w fun x w' => x = .returned (.tuple #[.int .i64 b, .int .i64 n, .int .i64 0]) ∧ Below w.heap.size w w' := by
  obtain ⟨g1, g2, g3, g4, g5, g6⟩ := fits_parts hL hb hb2 hn hf
  have hL13 := hL.le
  have e1 : shI L b n = L * 1048576 + b / 2 ^ L * 16 + n / 2 ^ L := rfl
  have e2 : lbI (shI L b n) L = b := by
    unfold lbI
    rw [e1, show (L * 1048576 + b / 2 ^ L * 16 + n / 2 ^ L) / 16 % 65536 = b / 2 ^ L by omega]; exact g1
  have e3 : lnI (shI L b n) L = n := by
    unfold lnI
    rw [e1, show (L * 1048576 + b / 2 ^ L * 16 + n / 2 ^ L) % 16 = n / 2 ^ L by omega]; exact g2
  have hw := long_walk (shI L b n) L (shI L b n) 0 (by omega) (by omega) (by omega) (by omega) (fun W => by rw [e2, e3]; exact short_yes b n L hL hb hb2 hn hbn hf W) w
  rw [if_pos ⟨rfl, rfl⟩, e2, e3] at hw
  exact hw
end Go.Proofs.Ythadehaoafkaeaa
