import Derived.Test.YtpjhjefjbkjhkaaGreatDoorFileLawZ
/- A file of which one byte is another one: plain lists. -/
namespace Go.Proofs.YtpjhjefjbkjhkaaGreatDoor
open Go Go.RowKit
set_option linter.unusedVariables false
set_option linter.unusedSimpArgs false
theorem sumN_app (a b : List UInt8) : sumN (a ++ b) = sumN a + sumN b := by unfold sumN; simp
theorem sumN_set : ∀ {l : List UInt8} {i : Nat} {c : UInt8} (h : i < l.length), sumN (l.set i c) + (l[i]).toNat = sumN l + c.toNat
  | [], i, c, h => by simp at h
  | x :: l, 0, c, h => by
    have e1 : sumN (c :: l) = c.toNat + sumN l := by unfold sumN; simp
    have e2 : sumN (x :: l) = x.toNat + sumN l := by unfold sumN; simp
    rw [List.set_cons_zero, e1, e2]
    simp only [List.getElem_cons_zero]
    omega
  | x :: l, i + 1, c, h => by
    have h' : i < l.length := by simpa using h
    have e1 : sumN (x :: l.set i c) = x.toNat + sumN (l.set i c) := by unfold sumN; simp
    have e2 : sumN (x :: l) = x.toNat + sumN l := by unfold sumN; simp
    have := sumN_set (c := c) h'
    rw [List.set_cons_succ, e1, e2]
    simp only [List.getElem_cons_succ]
    omega
theorem byteN_eq {a b : Int} (h : byteN a = byteN b) : a % 256 = b % 256 := by
  have h1 := byteN_nat a
  have h2 := byteN_nat b
  rw [h] at h1
  omega
theorem sumL_inj {a b : List UInt8} (h : sumL a = sumL b) : sumN a % 65536 = sumN b % 65536 := by
  unfold sumL at h
  injection h with h1 h2
  injection h2 with h2 _
  have e1 := byteN_eq h1
  have e2 := byteN_eq h2
  omega
/-- Another byte: another sum. -/
theorem turned_bad {B : List UInt8} {i : Nat} {c : UInt8} (h : i < (B ++ sumL B).length) (hc : (B ++ sumL B)[i] ≠ c) : ¬ SumOk ((B ++ sumL B).set i c) := by
  intro hs
  unfold SumOk at hs
  have hl : ((B ++ sumL B).set i c).length - 2 = B.length := by rw [List.length_set, List.length_append]; show B.length + 2 - 2 = _; omega
  rw [hl] at hs
  rcases Nat.lt_or_ge i B.length with hi | hi
  · have e : (B ++ sumL B).set i c = B.set i c ++ sumL B := List.set_append_left _ _ hi
    rw [e] at hs
    rw [List.take_left' (by rw [List.length_set])] at hs
    have h2 := sumL_inj (List.append_cancel_left hs)
    have h3 := sumN_set (c := c) hi
    have h4 : (B ++ sumL B)[i] = B[i] := List.getElem_append_left hi
    rw [h4] at hc
    have h5 : (B[i]).toNat ≠ c.toNat := fun e => hc (UInt8.toNat_inj.1 e)
    have := c.toNat_lt
    have := (B[i]).toNat_lt
    omega
  · have e : (B ++ sumL B).set i c = B ++ (sumL B).set (i - B.length) c := List.set_append_right _ _ hi
    rw [e] at hs
    rw [List.take_left] at hs
    have h2 := List.append_cancel_left hs
    have h4 : (B ++ sumL B)[i] = (sumL B)[i - B.length]'(by rw [List.length_append] at h; omega) := List.getElem_append_right hi
    rw [h4] at hc
    have h5 := congrArg (fun l => l[i - B.length]?) h2
    have hlt : i - B.length < (sumL B).length := by rw [List.length_append] at h; omega
    simp only [List.getElem?_set_self hlt, List.getElem?_eq_getElem hlt] at h5
    injection h5 with h5
    exact hc h5
end Go.Proofs.YtpjhjefjbkjhkaaGreatDoor
