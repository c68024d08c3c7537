import Derived.Test.YtpjhjefjbkjhkaaGreatDoorInstOneTxtZ
/- The text of an instruction tells it. -/
namespace Go.Proofs.YtpjhjefjbkjhkaaGreatDoor
open Go.RowKit
theorem take_word : ∀ (wd rest : List UInt8), (∀ c ∈ wd, c ≠ 32) → (rest = [] ∨ ∃ r, rest = 32 :: r) → (wd ++ rest).takeWhile (fun c => c != 32) = wd
  | [], rest, _, hr => by
    rcases hr with rfl | ⟨r, rfl⟩
    · rfl
    · simp
  | c :: wd, rest, h, hr => by
    have h0 : (c != 32) = true := by simpa using h c (by simp)
    rw [List.cons_append, List.takeWhile_cons, if_pos h0, take_word wd rest (fun x hx => h x (by simp [hx])) hr]
theorem suf_form (n : Int) (has ir : Bool) : sufL n has ir = [] ∨ ∃ r, sufL n has ir = 32 :: r := by
  unfold sufL
  cases has <;> cases ir <;> simp
theorem form_app {x y : List UInt8} (hx : x = [] ∨ ∃ r, x = 32 :: r) (hy : y = [] ∨ ∃ r, y = 32 :: r) : x ++ y = [] ∨ ∃ r, x ++ y = 32 :: r := by
  rcases hx with rfl | ⟨r, rfl⟩
  · simpa using hy
  · exact .inr ⟨_, rfl⟩
theorem word_no : ∀ k, k < 23 → ∀ c ∈ wordL k, c ≠ 32 := by decide
theorem word_inj : ∀ k, k < 23 → ∀ l, l < 23 → wordL k = wordL l → k = l := by decide
theorem suf_reg_len (n : Int) (h0 : 0 ≤ n) (h1 : n < 8) (has : Bool) : (sufL n has true).length = if has then 3 else 0 := by
  obtain ⟨k, rfl⟩ := Int.eq_ofNat_of_zero_le h0
  have e : Lib.itoa (k : Int) = Lib.decDigits k := by unfold Lib.itoa; rw [if_neg (by omega)]; simp
  unfold sufL
  rw [e, Lib.decDigits_one (by omega)]
  cases has <;> rfl
theorem suf_inj {m n : Int} {has ir : Bool} (hh : has = true) (h : sufL m has ir = sufL n has ir) : m = n := by
  subst hh
  unfold sufL at h
  cases ir
  · simp at h; exact itoa_inj h
  · simp at h; exact itoa_inj h
end Go.Proofs.YtpjhjefjbkjhkaaGreatDoor
