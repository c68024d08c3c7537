/- What perm.Text tells and perm.Read reads: plain lists. -/
import Derived.Laws.Runes
import Derived.Laws.RangeAny
namespace Go.Proofs.YtpjhjefjbkjhkaaGreatDoor
open Go
set_option linter.unusedVariables false
set_option linter.unusedSimpArgs false
def signsL : List UInt8 := [114, 119, 120, 82, 87, 115, 117]
/-- The place of a sign. -/
def signI (x : Nat) : Option Nat := signsL.findIdx? (fun c => c.toNat == x)
def keptS (p : Nat) (c : UInt8) : Bool := match signI c.toNat with
  | some k => p.testBit k
  | none => false
def permT (p : Nat) : List UInt8 := if (signsL.filter (keptS p)).isEmpty then [45] else signsL.filter (keptS p)
/-- One rune read. -/
def runeP (p x : Nat) : Nat := match signI x with
  | some k => p ||| 2 ^ k
  | none => p
def permOf (l : List UInt8) : Nat := l.foldl (fun p c => runeP p c.toNat) 0
theorem permOf_text : ∀ q, q < 128 → permOf (permT q) = q := by decide +kernel
theorem permT_ascii : ∀ q, q < 128 → ∀ c ∈ permT q, c.toNat < 128 := by decide +kernel
theorem permT_len : ∀ q, q < 128 → (permT q).length ≤ 7 ∧ 1 ≤ (permT q).length := by decide +kernel
theorem signI_lt {x k : Nat} (h : signI x = some k) : k < 7 := by
  unfold signI at h
  have := List.findIdx?_eq_some_iff_findIdx_eq.1 h
  exact this.1
theorem signI_hi {x : Nat} (h : 128 ≤ x) : signI x = none := by
  unfold signI
  rw [List.findIdx?_eq_none_iff]
  intro c hc
  have hb : c.toNat < 128 := (by decide : ∀ c ∈ signsL, c.toNat < 128) c hc
  simp; omega
theorem runeP_lt {p x : Nat} (h : p < 128) : runeP p x < 128 := by
  unfold runeP
  cases hs : signI x with
  | none => exact h
  | some k =>
    have hk := signI_lt hs
    exact Nat.or_lt_two_pow (n := 7) h (Nat.pow_lt_pow_right (by omega) hk)
theorem permOf_app (a : List UInt8) (c : UInt8) : permOf (a ++ [c]) = runeP (permOf a) c.toNat := by
  unfold permOf
  rw [List.foldl_append]
  rfl
/-- What perm.Read answers. -/
def permR (s : List UInt8) : Int × Int := if permT (permOf s) = s then ((permOf s : Nat), 0) else (0, 3)
theorem permOf_lt (l : List UInt8) : permOf l < 128 := by
  unfold permOf
  have : ∀ (l : List UInt8) (p : Nat), p < 128 → l.foldl (fun p c => runeP p c.toNat) p < 128 := by
    intro l
    induction l with
    | nil => intro p h; exact h
    | cons c l ih => intro p h; exact ih _ (runeP_lt h)
  exact this l 0 (by decide)
theorem permR_text {q : Nat} (h : q < 128) : permR (permT q) = ((q : Int), 0) := by
  unfold permR
  rw [permOf_text q h, if_pos rfl]
end Go.Proofs.YtpjhjefjbkjhkaaGreatDoor
