import Derived.Test.YtpjhjefjbkjhkaaGreatDoorProgJumpLawZ
/- A jump to a label leads to its position: the words of a line. -/
namespace Go.Proofs.YtpjhjefjbkjhkaaGreatDoor
open Go Go.RowKit
set_option linter.unusedVariables false
set_option linter.unusedSimpArgs false
theorem line_i64 {r : RdV} (hr : ∀ n ∈ r.code, I64 n) {k : Int} {s : List UInt8} : ∀ n ∈ (lineR r k s).1.code, I64 n := by
  have more : ∀ v : Int, I64 v → ∀ n ∈ r.code ++ [v], I64 n := fun v hv n hn => by
    rcases List.mem_append.1 hn with h | h
    · exact hr n h
    · rw [List.mem_singleton] at h; subst h; exact hv
  unfold lineR labelR
  split
  · exact hr
  split
  · split
    · exact hr
    split
    · exact hr
    split
    · exact hr
    · exact hr
  split
  · exact hr
  unfold cellR
  split
  · split
    · next h =>
      have h2 := (numB_ok h).2
      have hb : -2147483648 ≤ atoiV (s.drop 5) ∧ atoiV (s.drop 5) ≤ 2147483647 := by simpa [num32B] using h2
      exact more _ ⟨by omega, by omega⟩
    · exact hr
  split
  · exact more _ ⟨by omega, by omega⟩
  split
  · next h =>
    have := packF_bd (parse_eta h).1
    exact more _ ⟨by omega, by omega⟩
  · exact hr
theorem lines_i64 : ∀ (ls : List (List UInt8)) (r : RdV) (k : Nat), (∀ n ∈ r.code, I64 n) → ∀ n ∈ (linesR r k ls).1.code, I64 n
  | [], r, k, hr => hr
  | s :: ls, r, k, hr => by
    rw [lines_cons]
    split
    · exact lines_i64 ls _ _ (line_i64 hr)
    · exact line_i64 hr
theorem holes_i64 : ∀ (hs : List HoleV) (l : List NamV) (c : List Int), (∀ n ∈ c, I64 n) → ∀ n ∈ (holesR l c hs).1, I64 n
  | [], _, _, hc => hc
  | h :: hs, l, c, hc => by
    rw [holes_cons]
    split
    · exact hc
    split
    · next hk =>
      refine holes_i64 hs l _ fun n hn => ?_
      have := packF_bd hk
      rcases List.mem_or_eq_of_mem_set hn with h | h
      · exact hc n h
      · subst h; exact ⟨by omega, by omega⟩
    · exact hc
theorem read_i64 (text : List UInt8) : ∀ n ∈ (readF text).code, I64 n := by
  unfold readF
  split
  · simp
  split
  · simp
  split
  · simp
  · exact holes_i64 _ _ _ (lines_i64 _ _ _ (by simp [rd0]))
theorem split_last {c : UInt8} {s a b : List UInt8} (e : s = a ++ c :: b) (hb : c ∉ b) : (splitC c s)[(splitC c s).length - 1]? = some b := by
  rw [e, splitC_mid, splitC_none hb, List.length_append, List.length_singleton, Nat.add_sub_cancel, List.getElem?_append_right (Nat.le_refl _), Nat.sub_self]
  rfl
theorem split_first (c : UInt8) (s : List UInt8) : (splitC c s)[0]? = some (s.takeWhile (fun x => x != c)) := by
  rw [← split_head]
  cases h : splitC c s with
  | nil => exact absurd h (splitC_ne c s)
  | cons y ys => rfl
theorem jump_words {text : List UInt8} (h : (readF text).er = 0) {j : Nat} {s : List UInt8} (hs : (splitC 10 text)[j]? = some s) (hc : isCell s = true) :
    ∃ v, (readF text).code[cellsN ((splitC 10 text).take j)]? = some v ∧ I64 v ∧ (1 < (splitC 32 s).length → ∀ b f, (splitC 32 s)[(splitC 32 s).length - 1]? = some b → (splitC 32 s)[0]? = some f → (f = wordL 8 ∨ f = wordL 9) →
      ∀ x ∈ (readF text).labels, x.name = ba b → instOk (unpack v) = true ∧ (cellsN ((splitC 10 text).take j) : Int) + (unpack v).c = x.at_) := by
  obtain ⟨v, hv, hl⟩ := jumps_law h hs hc
  refine ⟨v, hv, read_i64 text v (List.mem_of_getElem? hv), fun hw b f hb hf hff x hx hxn => ?_⟩
  have hm : (32 : UInt8) ∈ s := by
    by_cases hm : (32 : UInt8) ∈ s
    · exact hm
    · rw [splitC_none hm] at hw; simp at hw
  obtain ⟨a, b', e, hb'⟩ := last_cut s hm
  rw [split_last e hb'] at hb
  injection hb with hb
  subst hb
  rw [split_first] at hf
  injection hf with hf
  subst hf
  exact hl a b' e hb' hff x hx hxn
end Go.Proofs.YtpjhjefjbkjhkaaGreatDoor
