import Derived.Test.YtpjhjefjbkjhkaaGreatDoorNameLawZ
import Derived.Test.YtpjhjefjbkjhkaaGreatDoorProgLawZ
/- The text of cells with labels, and what is read of it: plain lists. -/
namespace Go.Proofs.YtpjhjefjbkjhkaaGreatDoor
open Go Go.RowKit
set_option linter.unusedVariables false
set_option linter.unusedSimpArgs false
def nmAt (names : List ByteArray) (i : Nat) : List ByteArray := match names[i]? with
  | some s => if isNameB s = true then [s] else []
  | none => []
def wordN (n : Int) : List UInt8 := wordP ++ Lib.itoa n
def blockM (names : List ByteArray) (i : Nat) (n : Int) : List (List UInt8) := (nmAt names i).map (fun s => s.data.toList ++ [58]) ++ [wordN n]
def linesM (names : List ByteArray) : Nat → List Int → List (List UInt8)
  | _, [] => []
  | i, n :: l => blockM names i n ++ linesM names (i + 1) l
def labelsM (names : List ByteArray) : Nat → List Int → List NamV
  | _, [] => []
  | i, n :: l => (nmAt names i).map (fun s => (⟨s, i⟩ : NamV)) ++ labelsM names (i + 1) l
def flatM (ls : List (List UInt8)) : List UInt8 := ls.flatMap fun l => l ++ [10]
theorem flatM_app (a b : List (List UInt8)) : flatM (a ++ b) = flatM a ++ flatM b := by unfold flatM; rw [List.flatMap_append]
theorem linesM_snoc (names : List ByteArray) (n : Int) : ∀ (l : List Int) (i : Nat), linesM names i (l ++ [n]) = linesM names i l ++ blockM names (i + l.length) n
  | [], i => by simp [linesM]
  | m :: l, i => by
    rw [List.cons_append, linesM, linesM, linesM_snoc names n l (i + 1), List.append_assoc, List.length_cons, show i + 1 + l.length = i + (l.length + 1) by omega]
theorem labelsM_snoc (names : List ByteArray) (n : Int) : ∀ (l : List Int) (i : Nat), labelsM names i (l ++ [n]) = labelsM names i l ++ (nmAt names (i + l.length)).map (fun s => (⟨s, ((i + l.length : Nat) : Int)⟩ : NamV))
  | [], i => by simp [labelsM]
  | m :: l, i => by
    rw [List.cons_append, labelsM, labelsM, labelsM_snoc names n l (i + 1), List.append_assoc, List.length_cons, show i + 1 + l.length = i + (l.length + 1) by omega]
theorem nmAt_name {names : List ByteArray} {i : Nat} {s : ByteArray} (h : s ∈ nmAt names i) : isNameB s = true := by
  unfold nmAt at h
  split at h
  · split at h
    · next hb => rw [List.mem_singleton.1 h]; exact hb
    · cases h
  · cases h
theorem name_no10 {s : ByteArray} (h : isNameB s = true) : (10 : UInt8) ∉ s.data.toList ++ [58] := fun hm => by
  rcases List.mem_append.1 hm with h1 | h1
  · have := name_ch h _ h1
    revert this; decide
  · revert h1; decide
theorem blockM_no10 (names : List ByteArray) (i : Nat) (n : Int) : ∀ l ∈ blockM names i n, (10 : UInt8) ∉ l := by
  intro l hl
  rcases List.mem_append.1 hl with h | h
  · obtain ⟨s, hs, rfl⟩ := List.mem_map.1 h
    exact name_no10 (nmAt_name hs)
  · rw [List.mem_singleton.1 h]
    exact word_no10 n
theorem linesM_no10 (names : List ByteArray) : ∀ (l : List Int) (i : Nat), ∀ x ∈ linesM names i l, (10 : UInt8) ∉ x
  | [], i, x, hx => by cases hx
  | m :: l, i, x, hx => by
    rw [linesM] at hx
    rcases List.mem_append.1 hx with h | h
    · exact blockM_no10 _ _ _ x h
    · exact linesM_no10 names l (i + 1) x h
theorem split_flat : ∀ {ls : List (List UInt8)}, (∀ x ∈ ls, (10 : UInt8) ∉ x) → splitC 10 (flatM ls) = ls ++ [[]]
  | [], _ => rfl
  | x :: ls, h => by
    have e : flatM (x :: ls) = x ++ 10 :: flatM ls := by unfold flatM; simp
    rw [e, splitC_app (h x List.mem_cons_self), split_flat fun y hy => h y (List.mem_cons_of_mem _ hy), List.cons_append]
theorem suffix_58 (s : List UInt8) : Lib.hasSuffix (s ++ [58]) [58] = true ∧ Lib.trimSuffix (s ++ [58]) [58] = s := by
  have h1 : Lib.hasSuffix (s ++ [58]) [58] = true := by unfold Lib.hasSuffix; simp
  refine ⟨h1, ?_⟩
  unfold Lib.trimSuffix
  simp [h1]
theorem line_label {r : RdV} {k : Int} {s : ByteArray} (h : (lineR r k (s.data.toList ++ [58])).2 = 0) : (lineR r k (s.data.toList ++ [58])).1 = ⟨r.code, r.labels ++ [⟨s, r.code.length⟩], r.holes⟩ := by
  obtain ⟨h1, h2⟩ := suffix_58 s.data.toList
  unfold lineR at h ⊢
  by_cases hk : 80 < (s.data.toList ++ [58]).length
  · rw [if_pos hk] at h; cases h
  rw [if_neg hk, if_pos h1, h2, ba_back] at h ⊢
  unfold labelR at h ⊢
  by_cases q1 : isNameB s = false
  · rw [if_pos q1] at h; cases h
  rw [if_neg q1] at h ⊢
  by_cases q2 : 0 ≤ findA r.labels s
  · rw [if_pos q2] at h; cases h
  rw [if_neg q2] at h ⊢
  by_cases q3 : r.labels.length = 20
  · rw [if_pos q3] at h; cases h
  rw [if_neg q3]
theorem line_wordN {r : RdV} {k : Int} {n : Int} (hi : I64 n) (h : (lineR r k (wordN n)).2 = 0) : (lineR r k (wordN n)).1 = ⟨r.code ++ [n], r.labels, r.holes⟩ := by
  by_cases h32 : num32B n = true
  · unfold wordN; rw [line_word h32]
  · exfalso
    have hl : ¬ 80 < (wordP ++ Lib.itoa n).length := by
      have := itoa32_len hi
      rw [List.length_append]
      have : wordP.length = 5 := rfl
      omega
    have hs : Lib.hasSuffix (wordP ++ Lib.itoa n) [58] = false := suffix_no (word_no58 n)
    have hne : wordP ++ Lib.itoa n ≠ [] := by unfold wordP; simp
    have hnb : ¬ numB ((wordP ++ Lib.itoa n).drop 5) = true := by
      intro hb
      have e : (wordP ++ Lib.itoa n).drop 5 = Lib.itoa n := List.drop_left' rfl
      rw [e] at hb
      have h2 := (numB_ok hb).2
      rw [atoiV_itoa hi] at h2
      exact h32 h2
    unfold wordN lineR at h
    rw [if_neg hl, if_neg (by rw [hs]; decide), if_neg hne] at h
    unfold cellR at h
    rw [if_pos (word_pre _), if_neg hnb] at h
    cases h
theorem linesM_read (names : List ByteArray) : ∀ (l : List Int) (i : Nat) (r : RdV) (k : Nat), (∀ n ∈ l, I64 n) → r.code.length = i → (linesR r k (linesM names i l)).2.2 = 0 → (linesR r k (linesM names i l)).1 = ⟨r.code ++ l, r.labels ++ labelsM names i l, r.holes⟩
  | [], i, r, k, _, _, _ => by simp [linesM, labelsM, linesR]
  | n :: l, i, r, k, hi, hc, h => by
    have hn := hi n List.mem_cons_self
    have hl := fun m hm => hi m (List.mem_cons_of_mem _ hm)
    rw [linesM] at h ⊢
    rw [labelsM]
    unfold blockM at h ⊢
    cases hm : nmAt names i with
    | nil =>
      rw [hm] at h
      simp only [List.map_nil, List.nil_append, List.singleton_append] at h ⊢
      rw [lines_cons] at h ⊢
      by_cases h0 : (lineR r (k + 1) (wordN n)).2 = 0
      · rw [if_pos h0] at h ⊢
        rw [line_wordN hn h0] at h ⊢
        rw [linesM_read names l (i + 1) _ _ hl (by simp [hc]) h]
        simp
      · rw [if_neg h0] at h
        exact absurd h h0
    | cons s t =>
      have ht : t = [] := by
        unfold nmAt at hm
        split at hm
        · split at hm
          · injection hm with _ e; exact e.symm
          · cases hm
        · cases hm
      subst ht
      rw [hm] at h
      simp only [List.map_cons, List.map_nil, List.cons_append, List.nil_append] at h ⊢
      rw [lines_cons] at h ⊢
      by_cases h1 : (lineR r (k + 1) (s.data.toList ++ [58])).2 = 0
      · rw [if_pos h1] at h ⊢
        rw [line_label h1] at h ⊢
        rw [lines_cons] at h ⊢
        split at h
        · next h0 =>
          rw [if_pos h0]
          rw [line_wordN hn h0] at h ⊢
          rw [linesM_read names l (i + 1) _ _ hl (by simp [hc]) h]
          simp [hc]
        · next h0 => exact absurd h h0
      · rw [if_neg h1] at h
        exact absurd h h1
/-- What is read of it, if it may be read. -/
theorem readM {names : List ByteArray} {code : List Int} (hi : ∀ n ∈ code, I64 n) (h : (readF (flatM (linesM names 0 code))).er = 0) : (readF (flatM (linesM names 0 code))).code = code ∧ (readF (flatM (linesM names 0 code))).labels = labelsM names 0 code := by
  have hs := split_flat (linesM_no10 names code 0)
  unfold readF at h ⊢
  rw [hs] at h ⊢
  split at h
  · cases h
  · next h1 =>
    rw [if_neg h1]
    split at h
    · next h2 => exact absurd h h2
    · next h2 =>
      rw [if_neg h2]
      have h2' := Decidable.not_not.1 h2
      have h3 : (linesR rd0 0 (linesM names 0 code)).2.2 = 0 := by
        by_cases hb : (linesR rd0 0 (linesM names 0 code)).2.2 = 0
        · exact hb
        · rw [lines_bad _ _ _ _ hb] at h2'
          exact absurd h2' hb
      have h4 := linesM_read names code 0 rd0 0 hi rfl h3
      have h5 : (linesR rd0 0 (linesM names 0 code ++ [[]])).1 = ⟨code, labelsM names 0 code, []⟩ := by
        rw [lines_app _ _ _ _ h3, h4, lines_cons, line_empty]
        simp [linesR, rd0]
      rw [h5]
      simp [holesR]
end Go.Proofs.YtpjhjefjbkjhkaaGreatDoor
