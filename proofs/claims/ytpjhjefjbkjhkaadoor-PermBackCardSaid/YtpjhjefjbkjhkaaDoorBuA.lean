import Derived.Below
import Derived.Lib.Hide
import Derived.WalkKit
/- Plain arithmetic of wrapping and remainders: no program in sight. -/
namespace Go.Proofs.YtpjhjefjbkjhkaaDoor
open Go.RowKit

def I64' (n : Int) : Prop := -9223372036854775808 ≤ n ∧ n ≤ 9223372036854775807
theorem ret_int {k : IntKind} {a b : Int} (h : a = b) : Ending.returned (.int k a) = .returned (.int k b) := by rw [h]
theorem ret_bool {a b : Bool} (h : a = b) : Ending.returned (.bool a) = .returned (.bool b) := by rw [h]
theorem vint {k : IntKind} {a b : Int} (h : a = b) : Value.int k a = .int k b := by rw [h]
theorem vbool {a b : Bool} (h : a = b) : Value.bool a = .bool b := by rw [h]
theorem ret2 {a b c d : Value} (h : a = c) (k : b = d) : Ending.returned (.tuple #[a, b]) = .returned (.tuple #[c, d]) := by rw [h, k]
theorem ret3 {a b c d e f : Value} (h : a = d) (k : b = e) (l : c = f) : Ending.returned (.tuple #[a, b, c]) = .returned (.tuple #[d, e, f]) := by rw [h, k, l]
theorem w32_bd (n : Int) : -2147483648 ≤ wrap32 n ∧ wrap32 n ≤ 2147483647 := by unfold wrap32; omega
theorem w64_bd (n : Int) : -9223372036854775808 ≤ wrap64 n ∧ wrap64 n ≤ 9223372036854775807 := by unfold wrap64; omega
theorem w64_32 (n : Int) : wrap64 (wrap32 n) = wrap32 n := by unfold wrap64 wrap32; omega
theorem w32_64 (n : Int) : wrap32 (wrap64 n) = wrap32 n := by unfold wrap64 wrap32; omega
theorem w32_32 (n : Int) : wrap32 (wrap32 n) = wrap32 n := by unfold wrap32; omega
theorem w64_of {n : Int} (h : -9223372036854775808 ≤ n) (h2 : n ≤ 9223372036854775807) : wrap64 n = n := by unfold wrap64; omega
theorem w32_of {n : Int} (h : -2147483648 ≤ n) (h2 : n ≤ 2147483647) : wrap32 n = n := by unfold wrap32; omega
/-- Two numbers wrap to the same if they differ by a multiple. -/
theorem w32_congr {a b k : Int} (h : a = b + k * 4294967296) : wrap32 a = wrap32 b := by subst h; unfold wrap32; omega
theorem w32_diff (n : Int) : ∃ k : Int, wrap32 n = n + k * 4294967296 := ⟨-((n + 2147483648) / 4294967296), by unfold wrap32; omega⟩
theorem wf_bd {n : Int} (h : (Lit.int .i64 n).wf = true) : -9223372036854775808 ≤ n ∧ n ≤ 9223372036854775807 := by
  simp [Lit.wf, IntKind.min, IntKind.max, IntKind.signed, IntKind.bits] at h
  omega
theorem rest_fix (n m : Int) (hm : 0 < m) : (if n.tmod m < 0 then n.tmod m + m else n.tmod m) = n % m := by
  have h0 := Int.emod_nonneg n (by omega : m ≠ 0)
  have h1 := Int.emod_lt_of_pos n hm
  have h2 : (m.natAbs : Int) = m := by omega
  rw [Int.tmod_eq_emod]
  by_cases h : 0 ≤ n ∨ m ∣ n
  · simp only [h, if_true]
    rw [if_neg (by omega)]; omega
  · simp only [h, if_false]
    rw [h2, if_pos (by omega)]; omega
theorem tmod_bd (n m : Int) (hm : 0 < m) : -m < n.tmod m ∧ n.tmod m < m := by
  have h1 := Int.tmod_lt_of_pos n hm
  have h2 := Int.lt_tmod_of_pos n hm
  omega

/-- The sum, the difference, the product, the quotient of two numbers within 32 bits; 1 if one is less. -/
def addF (a b : Int) : Int := wrap32 (wrap32 a + wrap32 b)
def subF (a b : Int) : Int := wrap32 (wrap32 a - wrap32 b)
def mulF (a b : Int) : Int := wrap32 (wrap32 a * wrap32 b)
def divF (a b : Int) : Int := wrap32 ((wrap32 a).tdiv (wrap32 b))
def lessF (a b : Int) : Int := if wrap32 a < wrap32 b then 1 else 0
theorem w32_eq_of_dvd {a b : Int} (h : (4294967296 : Int) ∣ a - b) : wrap32 a = wrap32 b := by
  obtain ⟨k, hk⟩ := h
  exact w32_congr (k := k) (by omega)
theorem w32_dvd (a : Int) : (4294967296 : Int) ∣ a - wrap32 a := by unfold wrap32; omega
theorem w32_dvd' (a : Int) : (4294967296 : Int) ∣ wrap32 a - a := by unfold wrap32; omega
theorem addF_comm (a b : Int) : addF a b = addF b a := by unfold addF; rw [Int.add_comm]
theorem mulF_comm (a b : Int) : mulF a b = mulF b a := by unfold mulF; rw [Int.mul_comm]
theorem addF_assoc (a b c : Int) : addF (addF a b) c = addF a (addF b c) := by unfold addF wrap32; omega
theorem mul_dvd {n a b c d : Int} (h : n ∣ a - b) (k : n ∣ c - d) : n ∣ a * c - b * d := by
  obtain ⟨x, hx⟩ := h
  obtain ⟨y, hy⟩ := k
  refine ⟨x * c + b * y, ?_⟩
  have : a * c - b * d = (a - b) * c + b * (c - d) := by rw [Int.sub_mul, Int.mul_sub]; omega
  rw [this, hx, hy, Int.mul_add, Int.mul_assoc, Int.mul_left_comm b n y]
theorem mulF_eq (a b : Int) : mulF a b = wrap32 (a * b) := w32_eq_of_dvd (mul_dvd (w32_dvd' a) (w32_dvd' b))
theorem addF_eq (a b : Int) : addF a b = wrap32 (a + b) := by unfold addF wrap32; omega
theorem subF_eq (a b : Int) : subF a b = wrap32 (a - b) := by unfold subF wrap32; omega
theorem w32_mul_l (a b : Int) : wrap32 (wrap32 a * b) = wrap32 (a * b) := w32_eq_of_dvd (mul_dvd (w32_dvd' a) (by simp))
theorem w32_mul_r (a b : Int) : wrap32 (a * wrap32 b) = wrap32 (a * b) := w32_eq_of_dvd (mul_dvd (by simp) (w32_dvd' b))
theorem mulF_assoc (a b c : Int) : mulF (mulF a b) c = mulF a (mulF b c) := by
  rw [mulF_eq a b, mulF_eq b c, mulF_eq, mulF_eq, w32_mul_l, w32_mul_r, Int.mul_assoc]
theorem w32_add (a b : Int) : wrap32 (wrap32 a + wrap32 b) = wrap32 (a + b) := by unfold wrap32; omega
theorem w32_sub (a b : Int) : wrap32 (wrap32 a - wrap32 b) = wrap32 (a - b) := by unfold wrap32; omega
theorem mulF_add (a b c : Int) : mulF a (addF b c) = addF (mulF a b) (mulF a c) := by
  rw [addF_eq b c, mulF_eq, mulF_eq, mulF_eq, addF_eq, w32_mul_r, w32_add, Int.mul_add]
theorem subF_addF (a b : Int) : subF (addF a b) b = wrap32 a := by unfold subF addF wrap32; omega
theorem mulF_neg1 (b : Int) : mulF b (-1) = wrap32 (-b) := by rw [mulF_eq, Int.mul_neg, Int.mul_one]
theorem subF_neg (a b : Int) : subF a b = addF a (mulF b (-1)) := by
  rw [mulF_neg1]; unfold subF addF wrap32; omega
theorem mul_bd {a b : Int} {n : Int} (ha : -n ≤ a ∧ a ≤ n) (hb : -n ≤ b ∧ b ≤ n) : -(n * n) ≤ a * b ∧ a * b ≤ n * n := by
  have hn : 0 ≤ n := by omega
  have h1 : (a * b).natAbs = a.natAbs * b.natAbs := Int.natAbs_mul a b
  have h2 : a.natAbs * b.natAbs ≤ n.natAbs * n.natAbs := Nat.mul_le_mul (by omega) (by omega)
  have h3 : ((n.natAbs * n.natAbs : Nat) : Int) = n * n := by rw [Int.natCast_mul]; have : (n.natAbs : Int) = n := by omega
                                                              rw [this]
  omega
theorem mul32_bd (a b : Int) : -9223372036854775808 ≤ wrap32 a * wrap32 b ∧ wrap32 a * wrap32 b ≤ 9223372036854775807 := by
  have ha := w32_bd a
  have hb := w32_bd b
  have := mul_bd (n := 2147483648) (a := wrap32 a) (b := wrap32 b) (by omega) (by omega)
  omega
end Go.Proofs.YtpjhjefjbkjhkaaDoor
