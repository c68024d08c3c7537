import Derived.Deep.DeepCutAuto
import Derived.Test.YtpjhjefjbkjhkaaGreatDoorBuF
import Derived.Test.YtpjhjefjbkjhkaaGreatDoorRoundMathZ
/- What the functions of package round compute. -/
namespace Go.Proofs.YtpjhjefjbkjhkaaGreatDoor
open Go.RowKit
set_option linter.unusedVariables false

theorem by_any (e : Nat) (b n : Int) (he : e ≤ 13) (hb : 0 ≤ b) (hn : 0 ≤ n) (hbn : b + n ≤ 65536) (w : World) :
    Calls Tryz.prog 220 #[.int .i64 e, .int .i64 b, .int .i64 n] w fun r w' => r = .returned (.tuple #[.int .i64 (dnI (2 ^ e) b), .int .i64 (szI e b n)]) ∧ w = w' := by
  have hq := pow_pos e
  have hq2 := pow_le13 he
  have h1 := dn_le (b := b) hq
  have h2 := up_le (b := b + n) hq
  have h3 : 0 ≤ dnI (2 ^ e) b := le_dn hq (by simp) hb
  have Hu : szI e b n = upI (2 ^ e) (b + n) - dnI (2 ^ e) b := rfl
  have E1 : b / 2 ^ e * 2 ^ e = dnI (2 ^ e) b := rfl
  have E2 : (b + n + 2 ^ e - 1) / 2 ^ e * 2 ^ e = upI (2 ^ e) (b + n) := rfl
  rw [Hu]
  clear Hu
  generalize dnI (2 ^ e) b = d at *
  generalize upI (2 ^ e) (b + n) = u at *
  generalize hQ : (2 : Int) ^ e = q at *
  go_enter Tryz.func220, Tryz.ntmps220
  go_wp2
  go_ret2
  exact ⟨rfl, rfl⟩

theorem isRange_yes (b n : Int) (hb : 0 ≤ b) (hb2 : b < 65536) (hn : 0 ≤ n) (hbn : b + n ≤ 65536) (w : World) :
    Calls Tryz.prog 219 #[.int .i64 b, .int .i64 n] w fun r w' => r = .returned (.bool true) ∧ w = w' := by
  have e1 : decide (0 ≤ b) = true := by simp; omega
  have e2 : decide (b < 65536) = true := by simp; omega
  have e3 : decide (0 ≤ n) = true := by simp; omega
  have e4 : decide (n ≤ 65536 - b) = true := by simp; omega
  go_enter Tryz.func219, Tryz.ntmps219
  go_wp2
  go_ret
  exact ⟨rfl, rfl⟩

theorem least_any (b n : Int) (L : Nat) (hL : Least b n L) (hb : 0 ≤ b) (hn : 0 ≤ n) (hbn : b + n ≤ 65536) (w : World) :
    Calls Tryz.prog 221 #[.int .i64 b, .int .i64 n] w fun r w' => r = .returned (.int .i64 L) ∧ w = w' := by
  have hL13 := hL.le
  go_enter Tryz.func221, Tryz.ntmps221
  go_wp2
  go_loop [5, 6, 7, 8] (fun i _ _ _ => ∃ k : Nat, k ≤ L ∧ i = .int .i64 k) (fun i _ _ _ => L - (intOf i).toNat)
  case atStart => exact ⟨0, by omega, rfl⟩
  case round =>
    obtain ⟨k, hk, rfl⟩ := hrel
    have hq := pow_pos k
    have hq2 := pow_le13 (show k ≤ 13 by omega)
    by_cases hlt : k < L
    · have hno := hL.no k hlt
      have Q := Lib.hid hL
      clear hL
      go_wp2_with (go_at_call 220; refine (by_any k b n (by omega) hb hn hbn _).mono ?_; rintro e w' ⟨rfl, rfl⟩)
      go_round
      case rel => exact ⟨k + 1, by omega, by go_num⟩
      case measure => simp [intOf]; omega
    · have hkL : k = L := by omega
      subst hkL
      have hfit := hL.fit
      have Q := Lib.hid hL
      clear hL
      go_wp2_with (go_at_call 220; refine (by_any k b n (by omega) hb hn hbn _).mono ?_; rintro e w' ⟨rfl, rfl⟩)
      go_ret
      exact ⟨rfl, rfl⟩

theorem out_any (b n : Int) (L : Nat) (hL : Least b n L) (hb : 0 ≤ b) (hb2 : b < 65536) (hn : 0 ≤ n) (hbn : b + n ≤ 65536) (w : World) :
    Calls Tryz.prog 182 #[.int .i64 b, .int .i64 n] w fun r w' => r = .returned (.tuple #[.int .i64 (dnI (2 ^ L) b), .int .i64 (szI L b n), .int .i64 0]) ∧ w = w' := by
  go_enter Tryz.func182, Tryz.ntmps182
  go_wp2_with (first
    | (go_at_call 219; refine (isRange_yes b n hb hb2 hn hbn _).mono ?_; rintro e w' ⟨rfl, rfl⟩)
    | (go_at_call 221; refine (least_any b n L hL hb hn hbn _).mono ?_; rintro e w' ⟨rfl, rfl⟩)
    | (go_at_call 220; refine (by_any L b n hL.le hb hn hbn _).mono ?_; rintro e w' ⟨rfl, rfl⟩))
  go_ret3
  exact ⟨rfl, rfl⟩

end Go.Proofs.YtpjhjefjbkjhkaaGreatDoor
