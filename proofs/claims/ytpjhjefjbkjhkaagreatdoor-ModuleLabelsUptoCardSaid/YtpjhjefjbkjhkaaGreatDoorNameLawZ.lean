import Derived.Test.YtpjhjefjbkjhkaaGreatDoorModNameZ
/- What may be a name, byte by byte. -/
namespace Go.Proofs.YtpjhjefjbkjhkaaGreatDoor
open Go Go.RowKit
set_option linter.unusedVariables false
set_option linter.unusedSimpArgs false
def goodCh (c : UInt8) : Bool := (decide (97 ≤ c.toNat) && decide (c.toNat ≤ 122)) || (decide (48 ≤ c.toNat) && decide (c.toNat ≤ 57))
theorem rune_lo (s : ByteArray) (pos : Nat) (h : (s.get! pos).toNat < 128) : Utf8.decode s pos = ((s.get! pos).toNat, 1) := by
  unfold Utf8.decode
  simp only [Nat.add_zero]
  rw [if_pos h]
theorem rune_hi (s : ByteArray) (pos : Nat) (h : ¬ (s.get! pos).toNat < 128) : 128 ≤ (Utf8.decode s pos).1 := by
  unfold Utf8.decode
  simp only [Nat.add_zero]
  rw [if_neg h]
  repeat' split
  all_goals first
    | (simp only [Utf8.runeError]; omega)
    | (rename_i h1; simp at h1 ⊢; omega)
    | (simp; omega)
theorem get_at (s : ByteArray) {k : Nat} (h : k < s.size) : s.get! k = s.data.toList[k]'(by rw [Array.length_toList]; exact h) := by
  rw [Array.getElem_toList]
  show s.data[k]! = _
  rw [getElem!_pos s.data k h]
theorem bad_rune (s : ByteArray) (pos : Nat) : badRune (Utf8.decode s pos).1 = !goodCh (s.get! pos) := by
  by_cases h : (s.get! pos).toNat < 128
  · rw [rune_lo s pos h]
    unfold badRune goodCh
    simp only
    generalize (s.get! pos).toNat = n
    by_cases h1 : 97 ≤ n <;> by_cases h2 : n ≤ 122 <;> by_cases h3 : 48 ≤ n <;> by_cases h4 : n ≤ 57 <;> simp [h1, h2, h3, h4] <;> omega
  · have h2 := rune_hi s pos h
    have e1 : badRune (Utf8.decode s pos).1 = true := by unfold badRune; simp; omega
    have e2 : goodCh (s.get! pos) = false := by unfold goodCh; simp; omega
    rw [e1, e2]; rfl
theorem idx_from (s : ByteArray) : ∀ (f pos : Nat), s.size ≤ pos + f → (Lib.idxFuncFrom badRune true s f pos < 0 ↔ ∀ k, pos ≤ k → k < s.size → goodCh (s.get! k) = true)
  | 0, pos, h => by
    unfold Lib.idxFuncFrom
    exact ⟨fun _ k h1 h2 => by omega, fun _ => by decide⟩
  | f + 1, pos, h => by
    unfold Lib.idxFuncFrom
    by_cases hp : pos < s.size
    · rw [if_pos hp, bad_rune]
      cases hg : goodCh (s.get! pos) with
      | false =>
        rw [if_pos (by rfl)]
        refine ⟨fun h1 => by omega, fun h1 => ?_⟩
        have := h1 pos (Nat.le_refl _) hp
        rw [hg] at this; cases this
      | true =>
        rw [if_neg (by decide)]
        have hlo : (s.get! pos).toNat < 128 := by
          unfold goodCh at hg
          simp at hg
          omega
        rw [rune_lo s pos hlo]
        simp only
        rw [idx_from s f (pos + 1) (by omega)]
        refine ⟨fun h1 k h2 h3 => ?_, fun h1 k h2 h3 => h1 k (by omega) h3⟩
        rcases Nat.lt_or_ge pos k with h4 | h4
        · exact h1 k h4 h3
        · obtain rfl : k = pos := by omega
          exact hg
    · rw [if_neg hp]
      exact ⟨fun _ k h1 h2 => by omega, fun _ => by decide⟩
/-- A name: 1 to 12 bytes, letters and figures, a letter first. -/
theorem isName_iff (s : ByteArray) : isNameB s = true ↔ s.size ≠ 0 ∧ s.size ≤ 12 ∧ 97 ≤ byte0 s ∧ ∀ c ∈ s.data.toList, goodCh c = true := by
  unfold isNameB
  have h := idx_from s s.size 0 (by omega)
  have e : (0 ≤ Lib.idxFunc badRune true s) ↔ ¬ Lib.idxFuncFrom badRune true s s.size 0 < 0 := by unfold Lib.idxFunc; omega
  have all : (∀ k, 0 ≤ k → k < s.size → goodCh (s.get! k) = true) ↔ ∀ c ∈ s.data.toList, goodCh c = true := by
    constructor
    · intro h1 c hc
      obtain ⟨k, hk, rfl⟩ := List.getElem_of_mem hc
      have hk2 : k < s.size := by rw [Array.length_toList] at hk; exact hk
      rw [← get_at s hk2]
      exact h1 k (Nat.zero_le _) hk2
    · intro h1 k _ hk
      rw [get_at s hk]
      exact h1 _ (List.getElem_mem _)
  simp only [Bool.and_eq_true, decide_eq_true_eq, Bool.not_eq_true', decide_eq_false_iff_not]
  rw [e, h, all]
  constructor
  · rintro ⟨⟨⟨a, b⟩, c⟩, d⟩
    exact ⟨a, b, c, Decidable.not_not.1 d⟩
  · rintro ⟨a, b, c, d⟩
    exact ⟨⟨⟨a, b⟩, c⟩, fun h => h d⟩
theorem name_ch {s : ByteArray} (h : isNameB s = true) : ∀ c ∈ s.data.toList, goodCh c = true := ((isName_iff s).1 h).2.2.2
end Go.Proofs.YtpjhjefjbkjhkaaGreatDoor
