import Derived.BigQuiet
import Derived.Deep.QuietTactic
import Derived.Test.YtpjhjefjbkjhkaaGreatDoorBuW
import Derived.Test.YtpjhjefjbkjhkaaGreatDoorShelf
import Derived.WalkKit
import Derived.WalkSpells
/- What may be a name: prog.IsName. -/
namespace Go.Proofs.YtpjhjefjbkjhkaaGreatDoor
open Go Go.RowKit Go.Shelf
set_option linter.unusedVariables false
set_option linter.unusedSimpArgs false
/-- No letter, no figure. -/
def badRune (c : Nat) : Bool := (decide (c < 97) || decide (122 < c)) && (decide (c < 48) || decide (57 < c))
def byte0 (s : ByteArray) : Nat := if h : 0 < s.size then (s[0]'h).toNat else 0
def isNameB (s : ByteArray) : Bool := decide (s.size ≠ 0) && decide (s.size ≤ 12) && decide (97 ≤ byte0 s) && !decide (0 ≤ Lib.idxFunc badRune true s)
theorem name_pred (w : World) : PredAt Tryz.prog 102 #[] encR badRune w := by
  intro W x hb
  unfold FnGives
  show Calls Tryz.prog 102 #[.int .i32 (x : Int)] W _
  by_cases h1 : x < 97
  · have q1 : (x : Int) < 97 := by omega
    by_cases h3 : x < 48
    · have q3 : (x : Int) < 48 := by omega
      have e : badRune x = true := by unfold badRune; simp; omega
      rw [e]
      go_enter Tryz.func102, Tryz.ntmps102
      go_wp2
      go_ret
      exact ⟨rfl, 0, rfl⟩
    · have q3 : ¬ ((x : Int) < 48) := by omega
      by_cases h4 : 57 < x
      · have q4 : (57 : Int) < x := by omega
        have e : badRune x = true := by unfold badRune; simp; omega
        rw [e]
        go_enter Tryz.func102, Tryz.ntmps102
        go_wp2
        go_ret
        exact ⟨rfl, 0, rfl⟩
      · have q4 : ¬ ((57 : Int) < x) := by omega
        have e : badRune x = false := by unfold badRune; simp; omega
        rw [e]
        go_enter Tryz.func102, Tryz.ntmps102
        go_wp2
        go_ret
        exact ⟨rfl, 0, rfl⟩
  · have q1 : ¬ ((x : Int) < 97) := by omega
    by_cases h2 : 122 < x
    · have q2 : (122 : Int) < x := by omega
      have q3 : ¬ ((x : Int) < 48) := by omega
      have q4 : (57 : Int) < x := by omega
      have e : badRune x = true := by unfold badRune; simp; omega
      rw [e]
      go_enter Tryz.func102, Tryz.ntmps102
      go_wp2
      go_ret
      exact ⟨rfl, 0, rfl⟩
    · have q2 : ¬ ((122 : Int) < x) := by omega
      have e : badRune x = false := by unfold badRune; simp; omega
      rw [e]
      go_enter Tryz.func102, Tryz.ntmps102
      go_wp2
      go_ret
      exact ⟨rfl, 0, rfl⟩
set_option maxHeartbeats 1000000 in
set_option maxRecDepth 100000 in
theorem isName_any (s : ByteArray) (hs : s.size ≤ 9223372036854775807) (w : World) : Calls Tryz.prog 65 #[.string s] w fun e w' => e = .returned (.bool (isNameB s)) ∧ Below w.heap.size w w' := by
  have cf := fun W => Tryz.strings_ContainsFunc 102 #[] (fun args w => enters_of Tryz.func102 (by kernel_rfl) rfl args w) badRune s W (name_pred W)
  by_cases h0 : s.size = 0
  · have e0 : s = ByteArray.empty := by
      obtain ⟨⟨l⟩⟩ := s
      have : l.length = 0 := h0
      rw [List.eq_nil_of_length_eq_zero this]; rfl
    subst e0
    have e : isNameB ByteArray.empty = false := by unfold isNameB; simp
    rw [e]
    clear cf
    go_enter Tryz.func65, Tryz.ntmps65
    go_wp2
    go_ret
    exact ⟨rfl, Below.refl _ _⟩
  · have g0 : s.toList.isEmpty = false := by
      rw [ByteArray.toList_eq]
      cases h : s.data.toList with
      | nil => exact absurd (by rw [← ByteArray.size_data, ← Array.length_toList, h]; rfl) h0
      | cons a l => rfl
    have CF := Lib.hid cf
    by_cases h1 : 12 < s.size
    · have q1 : (12 : Int) < s.size := by omega
      have e : isNameB s = false := by unfold isNameB; simp; omega
      rw [e]
      clear cf
      go_enter Tryz.func65, Tryz.ntmps65
      go_wp2
      go_ret
      exact ⟨rfl, Below.refl _ _⟩
    · have q1 : ¬ ((12 : Int) < s.size) := by omega
      have q0 : (0 : Int) < s.size := by omega
      have hp : 0 < s.size := by omega
      have hb0 : byte0 s = (s[0]'hp).toNat := by unfold byte0; rw [dif_pos hp]
      obtain ⟨C, hC⟩ : ∃ C, decide (0 ≤ Lib.idxFunc badRune true s) = C := ⟨_, rfl⟩
      rw [hC] at CF
      by_cases h2 : byte0 s < 97
      · have q2 : (((s[0]'hp).toNat : Nat) : Int) < 97 := by omega
        have e : isNameB s = false := by unfold isNameB; simp; omega
        rw [e]
        clear cf CF hC
        go_enter Tryz.func65, Tryz.ntmps65
        go_wp2
        go_ret
        exact ⟨rfl, Below.refl _ _⟩
      · have q2 : ¬ ((((s[0]'hp).toNat : Nat) : Int) < 97) := by omega
        have e : isNameB s = !C := by
          unfold isNameB
          rw [hC, decide_eq_true h0, decide_eq_true (show s.size ≤ 12 by omega), decide_eq_true (show 97 ≤ byte0 s by omega)]
          simp
        rw [e]
        clear cf hC
        go_enter Tryz.func65, Tryz.ntmps65
        go_wp2_with (go_at_call 101; ((with_reducible refine (CF.out _).mono ?_); rintro e w' ⟨rfl, hb⟩))
        go_ret
        exact ⟨rfl, hb⟩
end Go.Proofs.YtpjhjefjbkjhkaaGreatDoor
