import Derived.Test.YtpjhjefjbkjhkaaGreatDoorBuD
import Derived.Test.YtpjhjefjbkjhkaaGreatDoorInstTextBZ
/- The text of a number tells it. -/
namespace Go.Proofs.YtpjhjefjbkjhkaaGreatDoor
open Go.RowKit
/-- The value of decimal digits. -/
def valD (l : List UInt8) : Nat := l.foldl (fun v c => v * 10 + (c.toNat - 48)) 0
theorem valD_dec : ∀ u : Nat, valD (Lib.decDigits u) = u := by
  intro u
  induction u using Nat.strongRecOn with
  | _ u ih =>
    by_cases h : u < 10
    · rw [Lib.decDigits_one h]
      unfold valD
      simp
      omega
    · rw [Lib.decDigits, dif_neg h]
      have := ih (u / 10) (by omega)
      unfold valD at this ⊢
      rw [List.foldl_append, this]
      simp
      omega
theorem dec_inj {u v : Nat} (h : Lib.decDigits u = Lib.decDigits v) : u = v := by rw [← valD_dec u, ← valD_dec v, h]
theorem dec_digit : ∀ (u : Nat), ∀ c ∈ Lib.decDigits u, 48 ≤ c.toNat ∧ c.toNat ≤ 57 := by
  intro u
  induction u using Nat.strongRecOn with
  | _ u ih =>
    by_cases h : u < 10
    · rw [Lib.decDigits_one h]
      intro c hc
      simp at hc
      subst hc
      simp
      omega
    · rw [Lib.decDigits, dif_neg h]
      intro c hc
      rcases List.mem_append.1 hc with h1 | h1
      · exact ih (u / 10) (by omega) c h1
      · simp at h1
        subst h1
        simp
        omega
theorem itoa_inj {m n : Int} (h : Lib.itoa m = Lib.itoa n) : m = n := by
  unfold Lib.itoa at h
  have no45 : ∀ (u : Nat) (l : List UInt8), Lib.decDigits u = 45 :: l → False := fun u l e => by
    have := (dec_digit u 45 (by rw [e]; simp)).1
    revert this
    decide
  by_cases hm : m < 0 <;> by_cases hn : n < 0
  · rw [if_pos hm, if_pos hn] at h
    have := dec_inj (List.cons.inj h).2
    omega
  · rw [if_pos hm, if_neg hn] at h
    exact (no45 _ _ h.symm).elim
  · rw [if_neg hm, if_pos hn] at h
    exact (no45 _ _ h).elim
  · rw [if_neg hm, if_neg hn] at h
    have := dec_inj h
    omega
end Go.Proofs.YtpjhjefjbkjhkaaGreatDoor
