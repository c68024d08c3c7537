/- Memory as plain data: no program in sight. -/
import Derived.Test.YtcdcmbehnccicaaCellMath
namespace Go.Proofs.Ytcdcmbehnccicaa
open Go.RowKit
set_option linter.unusedVariables false

instance : Inhabited ValV := ⟨zeroV⟩
/-- The first that is wrong with one of some values. -/
def firstErr : List ValV → Int
  | [] => 0
  | v :: vs => if valCheck v = 0 then firstErr vs else valCheck v
/-- What is wrong with a memory. -/
def memCheck (m : List ValV) : Int := if 400 < m.length then 2 else firstErr m
theorem firstErr_zero (m : List ValV) : firstErr m = 0 ↔ ∀ v ∈ m, v.Ok := by
  induction m with
  | nil => simp [firstErr]
  | cons v m ih =>
    unfold firstErr
    by_cases h : valCheck v = 0
    · rw [if_pos h, ih]
      have := (valCheck_zero v).1 h
      simp [this]
    · rw [if_neg h]
      have h2 : ¬ v.Ok := fun k => h ((valCheck_zero v).2 k)
      simp [h, h2]
theorem memCheck_zero (m : List ValV) : memCheck m = 0 ↔ m.length ≤ 400 ∧ ∀ v ∈ m, v.Ok := by
  unfold memCheck
  by_cases h : 400 < m.length
  · rw [if_pos h]; simp; omega
  · rw [if_neg h, firstErr_zero]; simp; omega
/-- Which cell. -/
def atF (n : Nat) (k : KeyV) (off p : Int) : Int × Int :=
  if okB k = false then (0, 1) else if k.seal_ ≠ 0 then (0, 11) else if andI k.perm p = 0 then (0, 12)
  else if off < -400 ∨ 400 < off ∨ covB k.base k.len (k.at_ + off) = false ∨ (n : Int) ≤ k.at_ + off then (0, 13) else (k.at_ + off, 0)
/-- What lies there. -/
def getF (m : List ValV) (k : KeyV) (off : Int) : ValV × Int :=
  let r := atF m.length k off 1
  if r.2 ≠ 0 then (zeroV, r.2) else if (m.getD r.1.toNat zeroV).is = true ∧ andI k.perm 8 = 0 then (zeroV, 0) else (m.getD r.1.toNat zeroV, 0)
def loadF (m : List ValV) (k : KeyV) (off : Int) : ValV × Int := if memCheck m ≠ 0 then (zeroV, memCheck m) else getF m k off
/-- What a store leaves: none if there is an error. -/
def putE (n : Nat) (k : KeyV) (off : Int) (v : ValV) : Int :=
  let r := atF n k off 2
  if r.2 ≠ 0 then r.2 else if v.is = true ∧ andI k.perm 16 = 0 then 12 else 0
def storeE (m : List ValV) (k : KeyV) (off : Int) (v : ValV) : Int :=
  if memCheck m ≠ 0 then memCheck m else if valCheck v ≠ 0 then valCheck v else putE m.length k off v
def storeM (m : List ValV) (k : KeyV) (off : Int) (v : ValV) : List ValV := m.set (k.at_ + off).toNat v
theorem atF_ok {n : Nat} {k : KeyV} {off p : Int} : (atF n k off p).2 = 0 ↔ k.Ok ∧ k.seal_ = 0 ∧ andI k.perm p ≠ 0 ∧ -400 ≤ off ∧ off ≤ 400 ∧ covB k.base k.len (k.at_ + off) = true ∧ k.at_ + off < n := by
  unfold atF
  rw [← okB_iff]
  cases okB k
  · simp
  · simp only [Bool.true_eq_false, if_false]
    by_cases h1 : k.seal_ = 0
    · by_cases h2 : andI k.perm p = 0
      · simp [h1, h2]
      · by_cases h3 : off < -400 ∨ 400 < off ∨ covB k.base k.len (k.at_ + off) = false ∨ (n : Int) ≤ k.at_ + off
        · rw [if_neg (by simp [h1]), if_neg h2, if_pos h3]
          simp only [show (13 : Int) ≠ 0 by decide, false_iff]
          rintro ⟨-, -, -, a, b, c, d⟩
          rcases h3 with h | h | h | h
          · omega
          · omega
          · rw [h] at c; cases c
          · omega
        · rw [if_neg (by simp [h1]), if_neg h2, if_neg h3]
          have hc : covB k.base k.len (k.at_ + off) = true := by
            cases hx : covB k.base k.len (k.at_ + off)
            · exact absurd (.inr (.inr (.inl hx))) h3
            · rfl
          simp only [true_iff]
          refine ⟨trivial, h1, h2, ?_, ?_, hc, ?_⟩ <;> · apply Classical.byContradiction; intro h; apply h3; omega
    · simp [h1]
theorem atF_val {n : Nat} {k : KeyV} {off p : Int} (h : (atF n k off p).2 = 0) : (atF n k off p).1 = k.at_ + off ∧ 0 ≤ k.at_ + off ∧ k.at_ + off < n := by
  have h2 := atF_ok.1 h
  obtain ⟨ok, s, a, o1, o2, c, l⟩ := h2
  have hb := ok.b0
  have := covB_iff.1 c
  refine ⟨?_, by omega, l⟩
  unfold atF at h ⊢
  rw [if_neg (by rw [(okB_iff k).2 ok]; simp), if_neg (by simp [s]), if_neg a, if_neg]
  rintro (h | h | h | h)
  · omega
  · omega
  · rw [h] at c; cases c
  · omega
theorem getF_err {m : List ValV} {k : KeyV} {off : Int} (h : (atF m.length k off 1).2 ≠ 0) : getF m k off = (zeroV, (atF m.length k off 1).2) := by
  simp only [getF]; rw [if_pos h]
theorem getF_ok {m : List ValV} {k : KeyV} {off : Int} {j : Nat} (h : (atF m.length k off 1).2 = 0) (hj : k.at_ + off = j) :
    getF m k off = if (m.getD j zeroV).is = true ∧ andI k.perm 8 = 0 then (zeroV, 0) else (m.getD j zeroV, 0) := by
  simp only [getF]
  rw [if_neg (by simp [h]), (atF_val h).1, hj, Int.toNat_natCast]
theorem putE_err {n : Nat} {k : KeyV} {off : Int} {v : ValV} (h : (atF n k off 2).2 ≠ 0) : putE n k off v = (atF n k off 2).2 := by
  simp only [putE]; rw [if_pos h]
theorem putE_ok {n : Nat} {k : KeyV} {off : Int} {v : ValV} (h : (atF n k off 2).2 = 0) : putE n k off v = if v.is = true ∧ andI k.perm 16 = 0 then 12 else 0 := by
  simp only [putE]
  rw [if_neg (by simp [h])]
end Go.Proofs.Ytcdcmbehnccicaa
