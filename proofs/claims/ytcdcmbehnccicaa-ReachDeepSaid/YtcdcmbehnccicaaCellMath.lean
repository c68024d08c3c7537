/- Values of the machine (numbers and keys) as plain data, and their bytes: no program in sight. -/
import Derived.Test.YtcdcmbehnccicaaKeysMath
namespace Go.Proofs.Ytcdcmbehnccicaa
open Go.RowKit
set_option linter.unusedVariables false

/-- A number, or a key. -/
@[ext] structure ValV where
  is : Bool
  n : Int
  k : KeyV
deriving DecidableEq
def ValV.val (v : ValV) : Value := .agg #[.bool v.is, .int .i64 v.n, .int .i64 v.k.perm, .int .i64 v.k.base, .int .i64 v.k.len, .int .i64 v.k.at_, .int .i64 v.k.seal_]
def ValV.num (n : Int) : ValV := ⟨false, n, zeroK⟩
structure ValV.wf (v : ValV) : Prop where
  n : I64 v.n
  k : v.k.wf
def zeroV : ValV := ⟨false, 0, zeroK⟩
/-- What is wrong with a value. -/
def valCheck (v : ValV) : Int :=
  if v.is then (if okB v.k then (if v.n = 0 then 0 else 5) else 1) else (if v.n < -2147483648 ∨ 2147483647 < v.n then 1 else if v.k = zeroK then 0 else 5)
/-- May a value be? -/
def ValV.Ok (v : ValV) : Prop := (v.is = true ∧ v.k.Ok ∧ v.n = 0) ∨ (v.is = false ∧ -2147483648 ≤ v.n ∧ v.n ≤ 2147483647 ∧ v.k = zeroK)
theorem valCheck_zero (v : ValV) : valCheck v = 0 ↔ v.Ok := by
  obtain ⟨is, n, k⟩ := v
  unfold valCheck ValV.Ok
  cases is
  · simp only [Bool.false_eq_true, if_false, false_and, false_or, true_and]
    by_cases h1 : n < -2147483648 ∨ 2147483647 < n
    · rw [if_pos h1]; simp; intro h2 h3; omega
    · rw [if_neg h1]
      by_cases h2 : k = zeroK
      · rw [if_pos h2]; simp [h2]; omega
      · rw [if_neg h2]; simp [h2]
  · simp only [if_true, true_and, Bool.true_eq_false, false_and, or_false]
    rw [← okB_iff]
    cases okB k
    · simp
    · by_cases h : n = 0 <;> simp [h]
theorem ValV.Ok.wf {v : ValV} (h : v.Ok) : v.wf := by
  rcases h with ⟨_, hk, hn⟩ | ⟨_, h1, h2, hk⟩
  · exact ⟨by rw [hn]; constructor <;> omega, hk.wf⟩
  · exact ⟨by constructor <;> omega, by rw [hk]; exact zeroK_ok.wf⟩
theorem zeroK_eq {p b l a s : Int} : (⟨p, b, l, a, s⟩ : KeyV) = zeroK ↔ p = 0 ∧ b = 0 ∧ l = 0 ∧ a = 0 ∧ s = 0 := by
  unfold zeroK; rw [KeyV.mk.injEq]
end Go.Proofs.Ytcdcmbehnccicaa
