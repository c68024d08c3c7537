/- A text cut at a byte; the number that a numeral tells: plain lists. -/
import Derived.Lib.SplitLaws
import Derived.Lib.AtoiAll
import Derived.Lib.ItoaNum
import Derived.Lib.Strings
namespace Go.Proofs.YtpjhjefjbkjhkaaGreatDoor
set_option linter.unusedVariables false
set_option linter.unusedSimpArgs false
/-- A text cut at each c. -/
def splitC (c : UInt8) : List UInt8 → List (List UInt8)
  | [] => [[]]
  | b :: l => if b = c then [] :: splitC c l else
    match splitC c l with
    | [] => [[b]]
    | x :: xs => (b :: x) :: xs
theorem splitC_ne (c : UInt8) : ∀ l, splitC c l ≠ []
  | [], h => by cases h
  | b :: l, h => by
    unfold splitC at h
    split at h
    · cases h
    · split at h <;> cases h
theorem splitC_none {c : UInt8} : ∀ {l : List UInt8}, c ∉ l → splitC c l = [l]
  | [], _ => rfl
  | b :: l, h => by
    have h1 : b ≠ c := fun e => h (by simp [e])
    have h2 : c ∉ l := fun e => h (List.mem_cons_of_mem _ e)
    unfold splitC
    rw [if_neg h1, splitC_none h2]
theorem splitC_app {c : UInt8} : ∀ {a r : List UInt8}, c ∉ a → splitC c (a ++ c :: r) = a :: splitC c r
  | [], r, _ => by
    rw [List.nil_append, splitC, if_pos rfl]
  | b :: a, r, h => by
    have h1 : b ≠ c := fun e => h (by simp [e])
    have h2 : c ∉ a := fun e => h (List.mem_cons_of_mem _ e)
    rw [List.cons_append, splitC, if_neg h1, splitC_app h2]
theorem index_none {c : UInt8} : ∀ {l : List UInt8}, c ∉ l → Lib.index l [c] = -1
  | [], _ => rfl
  | b :: l, h => by
    have h1 : b ≠ c := fun e => h (by simp [e])
    have h2 : c ∉ l := fun e => h (List.mem_cons_of_mem _ e)
    have hp : ([c] : List UInt8).isPrefixOf (b :: l) = false := by simp [List.isPrefixOf, Ne.symm h1]
    rw [Lib.index, hp, index_none h2]
    rfl
theorem index_app {c : UInt8} : ∀ {a r : List UInt8}, c ∉ a → Lib.index (a ++ c :: r) [c] = a.length
  | [], r, _ => by
    rw [List.nil_append, Lib.index]
    simp [List.isPrefixOf]
  | b :: a, r, h => by
    have h1 : b ≠ c := fun e => h (by simp [e])
    have h2 : c ∉ a := fun e => h (List.mem_cons_of_mem _ e)
    have hp : ([c] : List UInt8).isPrefixOf (b :: (a ++ c :: r)) = false := by simp [List.isPrefixOf, Ne.symm h1]
    rw [List.cons_append, Lib.index, hp, index_app h2]
    have : ((a.length : Int) == -1) = false := by simp
    rw [this]
    simp
theorem cut_at (c : UInt8) : ∀ l : List UInt8, c ∉ l ∨ ∃ a r, l = a ++ c :: r ∧ c ∉ a
  | [] => .inl (by simp)
  | b :: l => by
    by_cases hb : b = c
    · exact .inr ⟨[], l, by rw [hb]; rfl, by simp⟩
    · rcases cut_at c l with h | ⟨a, r, e, ha⟩
      · exact .inl fun hm => by
          rcases List.mem_cons.1 hm with e | e
          · exact hb e.symm
          · exact h e
      · exact .inr ⟨b :: a, r, by rw [e]; rfl, fun hm => by
          rcases List.mem_cons.1 hm with e | e
          · exact hb e.symm
          · exact ha e⟩
theorem splitK_one (c : UInt8) : ∀ (n : Nat) (l : List UInt8), l.length ≤ n → Lib.splitK [c] 0 (l.count c) l = splitC c l := by
  intro n
  induction n with
  | zero =>
    intro l hl
    have : l = [] := List.eq_nil_of_length_eq_zero (by omega)
    subst this
    rfl
  | succ n ih =>
    intro l hl
    rcases cut_at c l with h | ⟨a, r, rfl, ha⟩
    · rw [splitC_none h, List.count_eq_zero.2 h]; rfl
    · have hc : (a ++ c :: r).count c = r.count c + 1 := by rw [List.count_append, List.count_eq_zero.2 ha, List.count_cons_self]; omega
      have hi := index_app (r := r) ha
      rw [hc, Lib.splitK, hi, splitC_app ha]
      have : ((a.length : Int) == -1) = false := by simp
      rw [this]
      simp only [Bool.false_eq_true, if_false, Int.toNat_natCast, Nat.add_zero, List.length_singleton]
      rw [List.take_left', List.drop_append, List.drop_of_length_le (by omega), show a.length + 1 - a.length = 1 by omega, List.nil_append, List.drop_one, List.tail_cons]
      · rw [ih r (by rw [List.length_append, List.length_cons] at hl; omega)]
      · rfl
/-- What the library's Split hands back at one byte. -/
theorem splitB_one (c : UInt8) (s : ByteArray) : (Lib.splitB ⟨#[c]⟩ 0 (Lib.countB s ⟨#[c]⟩) s).map (·.data.toList) = splitC c s.data.toList := by
  rw [Lib.splitB_data]
  have h : Lib.countB s ⟨#[c]⟩ = s.data.toList.count c := Lib.count_one c s.data.toList
  rw [h]
  exact splitK_one c _ _ (Nat.le_refl _)
/-- The number that Atoi hands back, whatever else. -/
def atoiV (l : List UInt8) : Int :=
  match Lib.atoiAll l with
  | .ok v => v
  | Lib.NumEnd.syntax => 0
  | .range => Lib.atoiSat l
theorem parse_app : ∀ (x y : List UInt8) (acc u : Nat), Lib.parseUint10 acc x = .ok u → Lib.parseUint10 acc (x ++ y) = Lib.parseUint10 u y
  | [], y, acc, u, h => by
    simp only [Lib.parseUint10] at h
    injection h with h
    rw [h]; rfl
  | c :: x, y, acc, u, h => by
    rw [List.cons_append]
    simp only [Lib.parseUint10] at h ⊢
    split at h
    · next h1 =>
      rw [if_pos h1]
      split at h
      · cases h
      · next h2 =>
        rw [if_neg h2]
        split at h
        · cases h
        · next h3 =>
          rw [if_neg h3]
          exact parse_app x y _ u h
    · cases h
theorem parse_dec : ∀ u : Nat, u < 9223372036854775809 → Lib.parseUint10 0 (Lib.decDigits u) = .ok u := by
  intro u
  induction u using Nat.strongRecOn with
  | _ u ih =>
    intro hu
    by_cases h : u < 10
    · rw [Lib.decDigits_one h]
      have e : (UInt8.ofNat (48 + u)).toNat = 48 + u := by simp; omega
      simp only [Lib.parseUint10, e]
      rw [if_pos (by omega), if_neg (by omega), if_neg (by omega)]
      congr 1
      omega
    · have h1 := ih (u / 10) (by omega) (by omega)
      rw [Lib.decDigits, dif_neg h, parse_app _ _ _ _ h1]
      have e : (UInt8.ofNat (48 + u % 10)).toNat = 48 + u % 10 := by simp; omega
      simp only [Lib.parseUint10, e]
      rw [if_pos (by omega), if_neg (by omega), if_neg (by omega)]
      congr 1
      omega
theorem dec_ne (u : Nat) : Lib.decDigits u ≠ [] := by
  rw [Lib.decDigits]
  split
  · simp
  · simp
theorem dec_dig : ∀ (u : Nat), ∀ c ∈ Lib.decDigits u, 48 ≤ c.toNat ∧ c.toNat ≤ 57 := by
  intro u
  induction u using Nat.strongRecOn with
  | _ u ih =>
    by_cases h : u < 10
    · rw [Lib.decDigits_one h]
      intro c hc
      simp at hc
      subst hc
      simp
      omega
    · rw [Lib.decDigits, dif_neg h]
      intro c hc
      rcases List.mem_append.1 hc with h1 | h1
      · exact ih (u / 10) (by omega) c h1
      · simp at h1
        subst h1
        simp
        omega
/-- A number is read as it was told. -/
theorem atoi_itoa {n : Int} (h : -9223372036854775808 ≤ n ∧ n ≤ 9223372036854775807) : Lib.atoiAll (Lib.itoa n) = .ok n := by
  unfold Lib.itoa
  by_cases hn : n < 0
  · rw [if_pos hn]
    unfold Lib.atoiAll
    have h45 : (45 : UInt8).toNat = 45 := rfl
    simp only [h45]
    rw [if_pos (by decide)]
    have hp : Lib.parseMag (Lib.decDigits n.natAbs) = .ok n.natAbs := by
      unfold Lib.parseMag
      rw [if_neg (dec_ne _)]
      exact parse_dec _ (by omega)
    rw [hp]
    simp only [not_true, false_and, if_false, true_and, if_true]
    rw [if_neg (by omega)]
    congr 1
    omega
  · rw [if_neg hn]
    obtain ⟨c, r, e⟩ : ∃ c r, Lib.decDigits n.toNat = c :: r := by
      cases hd : Lib.decDigits n.toNat with
      | nil => exact absurd hd (dec_ne _)
      | cons c r => exact ⟨c, r, rfl⟩
    have hd := dec_dig n.toNat c (by rw [e]; simp)
    have hp : Lib.parseMag (c :: r) = .ok n.toNat := by
      unfold Lib.parseMag
      rw [if_neg (by simp), ← e]
      exact parse_dec _ (by omega)
    rw [e]
    unfold Lib.atoiAll
    simp only
    rw [if_neg (by omega), hp]
    simp only
    rw [if_neg (by omega), if_neg (by omega), if_neg (by omega)]
    congr 1
    omega
theorem atoiV_itoa {n : Int} (h : -9223372036854775808 ≤ n ∧ n ≤ 9223372036854775807) : atoiV (Lib.itoa n) = n := by
  unfold atoiV
  rw [atoi_itoa h]
theorem itoa_no32 (n : Int) : (32 : UInt8) ∉ Lib.itoa n := by
  unfold Lib.itoa
  split
  · intro h
    rcases List.mem_cons.1 h with h | h
    · revert h; decide
    · have := (dec_dig _ _ h).1; revert this; decide
  · intro h
    have := (dec_dig _ _ h).1; revert this; decide
theorem itoa_noR (n : Int) : Lib.trimPrefix (Lib.itoa n) [114] = Lib.itoa n := by
  unfold Lib.trimPrefix Lib.hasPrefix
  rw [if_neg]
  intro h
  have hm : (114 : UInt8) ∈ Lib.itoa n := by
    cases hi : Lib.itoa n with
    | nil => rw [hi] at h; cases h
    | cons c r =>
      rw [hi] at h
      simp [List.isPrefixOf] at h
      subst h
      simp
  unfold Lib.itoa at hm
  split at hm
  · rcases List.mem_cons.1 hm with h | h
    · revert h; decide
    · have := (dec_dig _ _ h).2; revert this; decide
  · have := (dec_dig _ _ hm).2; revert this; decide
theorem trimR (l : List UInt8) : Lib.trimPrefix (114 :: l) [114] = l := by
  unfold Lib.trimPrefix Lib.hasPrefix
  simp [List.isPrefixOf]
end Go.Proofs.YtpjhjefjbkjhkaaGreatDoor
