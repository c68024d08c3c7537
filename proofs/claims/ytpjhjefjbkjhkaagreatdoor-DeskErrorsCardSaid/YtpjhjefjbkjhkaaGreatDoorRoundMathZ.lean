import Derived.Test.YtpjhjefjbkjhkaaGreatDoorBuA
/- Ranges rounded outwards to multiples of a power of two: no program in sight. -/
namespace Go.Proofs.YtpjhjefjbkjhkaaGreatDoor
open Go.RowKit
set_option linter.unusedVariables false

/-- The greatest multiple of q up to b; the least one from b on. -/
def dnI (q b : Int) : Int := b / q * q
def upI (q b : Int) : Int := (b + q - 1) / q * q
theorem dn_dvd (q b : Int) : q ∣ dnI q b := ⟨b / q, by unfold dnI; rw [Int.mul_comm]⟩
theorem up_dvd (q b : Int) : q ∣ upI q b := ⟨(b + q - 1) / q, by unfold upI; rw [Int.mul_comm]⟩
theorem dn_le {q b : Int} (hq : 0 < q) : dnI q b ≤ b ∧ b < dnI q b + q := by
  have h1 := Int.mul_ediv_add_emod b q
  have h2 := Int.emod_nonneg b (by omega : q ≠ 0)
  have h3 := Int.emod_lt_of_pos b hq
  unfold dnI
  rw [Int.mul_comm]
  omega
theorem up_le {q b : Int} (hq : 0 < q) : b ≤ upI q b ∧ upI q b < b + q := by
  have h := dn_le (b := b + q - 1) hq
  have e : upI q b = dnI q (b + q - 1) := rfl
  rw [e]
  omega
theorem le_dn {q b x : Int} (hq : 0 < q) (hd : q ∣ x) (h : x ≤ b) : x ≤ dnI q b := by
  obtain ⟨k, rfl⟩ := hd
  unfold dnI
  rw [Int.mul_comm]
  exact Int.mul_le_mul_of_nonneg_right ((Int.le_ediv_iff_mul_le hq).2 (by rw [Int.mul_comm]; exact h)) (by omega)
theorem up_le' {q b x : Int} (hq : 0 < q) (hd : q ∣ x) (h : b ≤ x) : upI q b ≤ x := by
  have h1 := (up_le (b := b) hq).2
  obtain ⟨k, rfl⟩ := hd
  obtain ⟨j, hj⟩ := up_dvd q b
  rw [hj] at h1 ⊢
  have h2 : q * j < q * k + q := by omega
  have h3 : q * j < q * (k + 1) := by rw [Int.mul_add, Int.mul_one]; exact h2
  have h4 := Int.lt_of_mul_lt_mul_left h3 (by omega)
  exact Int.mul_le_mul_of_nonneg_left (by omega) (by omega)
theorem dn_of_dvd {q b : Int} (hq : 0 < q) (h : q ∣ b) : dnI q b = b := by
  have h1 := (dn_le (b := b) hq).1
  have h2 := le_dn hq h (Int.le_refl b)
  omega
theorem up_of_dvd {q b : Int} (hq : 0 < q) (h : q ∣ b) : upI q b = b := by
  have h1 := (up_le (b := b) hq).1
  have h2 := up_le' hq h (Int.le_refl b)
  omega
theorem pow_pos (e : Nat) : (0 : Int) < 2 ^ e := Int.pow_pos (by decide)
theorem pow_dvd {d e : Nat} (h : d ≤ e) : (2 : Int) ^ d ∣ 2 ^ e := ⟨2 ^ (e - d), by rw [← Int.pow_add]; congr 1; omega⟩
theorem pow_le13 {e : Nat} (h : e ≤ 13) : (2 : Int) ^ e ≤ 8192 := by
  have h1 : (2 : Int) ^ e ∣ 8192 := pow_dvd h
  exact Int.le_of_dvd (by decide) h1
theorem pow_16 {e : Nat} (h : e ≤ 13) : (2 : Int) ^ e ∣ 65536 := pow_dvd (e := 16) (by omega)

/-- How many cells the range around has, by an exponent. -/
def szI (e : Nat) (b n : Int) : Int := upI (2 ^ e) (b + n) - dnI (2 ^ e) b
/-- L is the least exponent by which the range around fits. -/
structure Least (b n : Int) (L : Nat) : Prop where
  le : L ≤ 13
  fit : szI L b n ≤ 15 * 2 ^ L
  no : ∀ j, j < L → 15 * 2 ^ j < szI j b n

theorem least_search (b n : Int) : ∀ k : Nat, (∀ j, j < k → 15 * 2 ^ j < szI j b n) ∨ ∃ L, L < k ∧ szI L b n ≤ 15 * 2 ^ L ∧ ∀ j, j < L → 15 * 2 ^ j < szI j b n
  | 0 => .inl fun j h => by omega
  | k + 1 => by
    rcases least_search b n k with h | ⟨L, h1, h2, h3⟩
    · by_cases hk : szI k b n ≤ 15 * 2 ^ k
      · exact .inr ⟨k, by omega, hk, h⟩
      · refine .inl fun j hj => ?_
        by_cases e : j = k
        · subst e; omega
        · exact h j (by omega)
    · exact .inr ⟨L, by omega, h2, h3⟩
theorem least_ex {b n : Int} (hb : 0 ≤ b) (hbn : b + n ≤ 65536) : ∃ L, Least b n L := by
  rcases least_search b n 14 with h | ⟨L, h1, h2, h3⟩
  · have h13 := h 13 (by omega)
    have h2 : upI (2 ^ 13) (b + n) ≤ 65536 := up_le' (by decide) (by decide) hbn
    have h3 : 0 ≤ dnI (2 ^ 13) b := le_dn (by decide) (by simp) hb
    unfold szI at h13
    omega
  · exact ⟨L, by omega, h2, h3⟩
theorem least_unique {b n : Int} {L M : Nat} (h : Least b n L) (k : Least b n M) : L = M := by
  rcases Nat.lt_trichotomy L M with h1 | h1 | h1
  · have := k.no L h1; have := h.fit; omega
  · exact h1
  · have := h.no M h1; have := k.fit; omega
/-- A range that lies within another one needs no greater exponent. -/
theorem least_sub {b n c m : Int} {L M : Nat} (h : Least b n L) (k : Least c m M) (h1 : b ≤ c) (h2 : c + m ≤ b + n) : M ≤ L := by
  refine Nat.le_of_not_lt fun hlt => ?_
  have h3 := k.no L hlt
  have hq := pow_pos L
  have h4 : upI (2 ^ L) (c + m) ≤ upI (2 ^ L) (b + n) := up_le' hq (up_dvd _ _) (by have := (up_le (b := b + n) hq).1; omega)
  have h5 : dnI (2 ^ L) b ≤ dnI (2 ^ L) c := le_dn hq (dn_dvd _ _) (by have := (dn_le (b := b) hq).1; omega)
  have h6 := h.fit
  unfold szI at h3 h6
  omega
theorem rises {b n c m : Int} {L M : Nat} (h : Least b n L) (k : Least c m M) (h1 : b ≤ c) (h2 : c + m ≤ b + n) :
    dnI (2 ^ L) b ≤ dnI (2 ^ M) c ∧ upI (2 ^ M) (c + m) ≤ upI (2 ^ L) (b + n) := by
  have hML := least_sub h k h1 h2
  have hqL := pow_pos L
  have hqM := pow_pos M
  have hd := pow_dvd hML
  exact ⟨le_dn hqM (Int.dvd_trans hd (dn_dvd _ _)) (by have := (dn_le (b := b) hqL).1; omega), up_le' hqM (Int.dvd_trans hd (up_dvd _ _)) (by have := (up_le (b := b + n) hqL).1; omega)⟩
/-- What is around fits as it is. -/
theorem around {b n : Int} {L : Nat} (h : Least b n L) {M : Nat} (k : Least (dnI (2 ^ L) b) (szI L b n) M) :
    dnI (2 ^ M) (dnI (2 ^ L) b) = dnI (2 ^ L) b ∧ szI M (dnI (2 ^ L) b) (szI L b n) = szI L b n := by
  have hqL := pow_pos L
  have hqM := pow_pos M
  have e1 : dnI (2 ^ L) b + szI L b n = upI (2 ^ L) (b + n) := by unfold szI; omega
  have hle : M ≤ L := by
    refine Nat.le_of_not_lt fun hlt => ?_
    have h3 := k.no L hlt
    have h6 := h.fit
    have h7 : szI L (dnI (2 ^ L) b) (szI L b n) = szI L b n := by
      show upI (2 ^ L) (dnI (2 ^ L) b + szI L b n) - dnI (2 ^ L) (dnI (2 ^ L) b) = _
      rw [e1, up_of_dvd hqL (up_dvd _ _), dn_of_dvd hqL (dn_dvd _ _)]; rfl
    omega
  have hd := pow_dvd hle
  have e2 : dnI (2 ^ M) (dnI (2 ^ L) b) = dnI (2 ^ L) b := dn_of_dvd hqM (Int.dvd_trans hd (dn_dvd _ _))
  refine ⟨e2, ?_⟩
  show upI (2 ^ M) (dnI (2 ^ L) b + szI L b n) - dnI (2 ^ M) (dnI (2 ^ L) b) = _
  rw [e1, e2, up_of_dvd hqM (Int.dvd_trans hd (up_dvd _ _))]; rfl
/-- Bounds of what is around. -/
theorem around_bd {b n : Int} {L : Nat} (hL : L ≤ 13) (hb : 0 ≤ b) (hbn : b + n ≤ 65536) (hn : 0 ≤ n) :
    0 ≤ dnI (2 ^ L) b ∧ dnI (2 ^ L) b ≤ b ∧ b + n ≤ upI (2 ^ L) (b + n) ∧ upI (2 ^ L) (b + n) ≤ 65536 ∧ upI (2 ^ L) (b + n) = dnI (2 ^ L) b + szI L b n ∧ n ≤ szI L b n := by
  have hq := pow_pos L
  have h1 : 0 ≤ dnI (2 ^ L) b := le_dn hq (by simp) hb
  have h2 := (dn_le (b := b) hq).1
  have h3 := (up_le (b := b + n) hq).1
  have h4 : upI (2 ^ L) (b + n) ≤ 65536 := up_le' hq (pow_16 hL) hbn
  have h5 : upI (2 ^ L) (b + n) = dnI (2 ^ L) b + szI L b n := by unfold szI; omega
  omega
theorem tight {b n : Int} {L : Nat} (h : Least b n L) : 4 * (szI L b n - n) ≤ szI L b n ∨ (szI L b n = n) := by
  have hq := pow_pos L
  have h1 := (dn_le (b := b) hq)
  have h2 := (up_le (b := b + n) hq)
  cases L with
  | zero =>
    right
    unfold szI
    have e : (2 : Int) ^ 0 = 1 := rfl
    rw [e] at h1 h2 ⊢
    omega
  | succ l =>
    left
    have h3 := h.no l (by omega)
    have hl := pow_pos l
    have e : (2 : Int) ^ (l + 1) = 2 * 2 ^ l := by rw [Int.pow_succ, Int.mul_comm]
    have hd : (2 : Int) ^ l ∣ 2 ^ (l + 1) := pow_dvd (by omega)
    have h4 : (2 : Int) ^ l ∣ szI l b n := Int.dvd_sub (up_dvd _ _) (dn_dvd _ _)
    have h5 : upI (2 ^ l) (b + n) ≤ upI (2 ^ (l + 1)) (b + n) := up_le' hl (Int.dvd_trans hd (up_dvd _ _)) h2.1
    have h6 : dnI (2 ^ (l + 1)) b ≤ dnI (2 ^ l) b := le_dn hl (Int.dvd_trans hd (dn_dvd _ _)) h1.1
    obtain ⟨k, hk⟩ := h4
    have h7 : 16 ≤ k := by
      refine Int.le_of_not_gt fun hlt => ?_
      have : 2 ^ l * k ≤ 2 ^ l * 15 := Int.mul_le_mul_of_nonneg_left (by omega) (by omega)
      omega
    have h8 : 2 ^ l * 16 ≤ 2 ^ l * k := Int.mul_le_mul_of_nonneg_left h7 (by omega)
    have h9 : szI l b n ≤ szI (l + 1) b n := by unfold szI; omega
    have h10 : szI (l + 1) b n - n ≤ 4 * 2 ^ l - 2 := by unfold szI; omega
    omega
theorem least_zero {b n : Int} (hn : n ≤ 15) : Least b n 0 :=
  ⟨by omega, by
    have h1 := (dn_le (b := b) (pow_pos 0))
    have h2 := (up_le (b := b + n) (pow_pos 0))
    unfold szI
    have e : (2 : Int) ^ 0 = 1 := rfl
    rw [e] at h1 h2 ⊢
    omega, fun j h => by omega⟩
theorem dn_zero (b : Int) : dnI (2 ^ 0) b = b := dn_of_dvd (by decide) (by simp)
theorem sz_zero (b n : Int) : szI 0 b n = n := by
  have e : upI (2 ^ 0) (b + n) = b + n := up_of_dvd (by decide) (by simp)
  show upI (2 ^ 0) (b + n) - dnI (2 ^ 0) b = n
  rw [e, dn_zero]; omega
theorem least_all : Least 0 65536 13 := by
  have h0 : ∀ j : Nat, j ≤ 13 → szI j 0 65536 = 65536 := fun j hj => by
    show upI (2 ^ j) (0 + 65536) - dnI (2 ^ j) 0 = _
    rw [up_of_dvd (pow_pos j) (by rw [Int.zero_add]; exact pow_16 hj), dn_of_dvd (pow_pos j) (by simp)]; rfl
  refine ⟨by omega, by rw [h0 13 (by omega)]; decide, fun j hj => ?_⟩
  rw [h0 j (by omega)]
  have h1 : (2 : Int) ^ j ∣ 2 ^ 12 := pow_dvd (by omega)
  have h2 := Int.le_of_dvd (by decide) h1
  omega
theorem least_16 : Least 16 16 1 := by
  refine ⟨by omega, by decide, fun j hj => ?_⟩
  obtain rfl : j = 0 := by omega
  decide
end Go.Proofs.YtpjhjefjbkjhkaaGreatDoor
