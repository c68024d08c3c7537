/- Bits of 64-bit numbers: no program in sight. -/
import Derived.Test.YtcdcmbehnccicaaMath
import Derived.Laws.BitsAllLaws
import Derived.Laws.BitsLemmas
namespace Go.Proofs.Ytcdcmbehnccicaa
open Go.RowKit

/-- The 64 bits of a number. -/
def bv (a : Int) : BitVec 64 := BitVec.ofInt 64 a
theorem bv_toInt (x : BitVec 64) : bv x.toInt = x := by unfold bv; exact BitVec.ofInt_toInt
theorem toInt_bv {a : Int} (h : -9223372036854775808 ≤ a ∧ a ≤ 9223372036854775807) : (bv a).toInt = a := by
  unfold bv
  rw [BitVec.toInt_ofInt]
  exact Int.bmod_eq_of_le (by omega) (by omega)
theorem wrap_toNat (x : BitVec 64) : IntKind.i64.wrap (x.toNat : Int) = x.toInt := by
  rw [IntKind.wrap_i64, BitVec.toInt_eq_toNat_cond]
  have := x.isLt
  split <;> omega
theorem bits_and_bv (a b : Int) : bits .and .i64 a b = (bv a &&& bv b).toInt := wrap_toNat _
theorem bits_or_bv (a b : Int) : bits .or .i64 a b = (bv a ||| bv b).toInt := wrap_toNat _
theorem bits_xor_bv (a b : Int) : bits .xor .i64 a b = (bv a ^^^ bv b).toInt := wrap_toNat _
theorem bits_andNot_bv (a b : Int) : bits .andNot .i64 a b = (bv a &&& ~~~ bv b).toInt := wrap_toNat _
theorem toInt_range (x : BitVec 64) : -9223372036854775808 ≤ x.toInt ∧ x.toInt ≤ 9223372036854775807 := by
  have := x.isLt
  rw [BitVec.toInt_eq_toNat_cond]
  split <;> omega
/-- The bits of a and of b; of a or of b; of a and not of b. -/
def andI (a b : Int) : Int := (bv a &&& bv b).toInt
def orI (a b : Int) : Int := (bv a ||| bv b).toInt
def andNotI (a b : Int) : Int := (bv a &&& ~~~ bv b).toInt
theorem toInt_zero (x : BitVec 64) : x.toInt = 0 ↔ x = 0#64 := by
  constructor
  · intro h
    have := bv_toInt x
    rw [h] at this
    exact this.symm
  · rintro rfl; rfl
/-- Has b all bits of a? -/
def withinB (a b : Int) : Bool := decide (andNotI a b = 0)
theorem withinB_iff (a b : Int) : withinB a b = true ↔ ∀ i : Nat, (bv a).getLsbD i = true → (bv b).getLsbD i = true := by
  unfold withinB andNotI
  rw [decide_eq_true_iff, toInt_zero]
  constructor
  · intro h i hi
    have := congrArg (fun x => BitVec.getLsbD x i) h
    have hi64 : i < 64 := BitVec.lt_of_getLsbD hi
    simp [hi, hi64] at this
    exact this
  · intro h
    apply BitVec.eq_of_getLsbD_eq
    intro i hi
    have := h i
    simp [hi]
    intro h1
    exact this h1
theorem bv_andI (a b : Int) (i : Nat) : (bv (andI a b)).getLsbD i = ((bv a).getLsbD i && (bv b).getLsbD i) := by
  unfold andI; rw [bv_toInt, BitVec.getLsbD_and]
theorem bv_orI (a b : Int) (i : Nat) : (bv (orI a b)).getLsbD i = ((bv a).getLsbD i || (bv b).getLsbD i) := by
  unfold orI; rw [bv_toInt, BitVec.getLsbD_or]
theorem eq_of_bits {a b : Int} (ha : -9223372036854775808 ≤ a ∧ a ≤ 9223372036854775807) (hb : -9223372036854775808 ≤ b ∧ b ≤ 9223372036854775807)
    (h : ∀ i : Nat, (bv a).getLsbD i = (bv b).getLsbD i) : a = b := by
  have : bv a = bv b := BitVec.eq_of_getLsbD_eq fun i _ => h i
  rw [← toInt_bv ha, ← toInt_bv hb, this]
theorem withinB_refl (a : Int) : withinB a a = true := (withinB_iff a a).2 fun _ h => h
theorem withinB_trans {a b c : Int} (h : withinB a b = true) (k : withinB b c = true) : withinB a c = true :=
  (withinB_iff a c).2 fun i hi => (withinB_iff b c).1 k i ((withinB_iff a b).1 h i hi)
theorem withinB_anti {a b : Int} (ha : -9223372036854775808 ≤ a ∧ a ≤ 9223372036854775807) (hb : -9223372036854775808 ≤ b ∧ b ≤ 9223372036854775807)
    (h : withinB a b = true) (k : withinB b a = true) : a = b := by
  refine eq_of_bits ha hb fun i => ?_
  have h1 := (withinB_iff a b).1 h i
  have h2 := (withinB_iff b a).1 k i
  revert h1 h2
  cases (bv a).getLsbD i <;> cases (bv b).getLsbD i <;> simp
theorem withinB_and_l (a b : Int) : withinB (andI a b) a = true := (withinB_iff _ _).2 fun i h => by
  rw [bv_andI] at h; simp at h; exact h.1
theorem withinB_and_r (a b : Int) : withinB (andI a b) b = true := (withinB_iff _ _).2 fun i h => by
  rw [bv_andI] at h; simp at h; exact h.2
theorem withinB_or_l (a b : Int) : withinB a (orI a b) = true := (withinB_iff _ _).2 fun i h => by
  rw [bv_orI, h]; rfl
theorem withinB_or_r (a b : Int) : withinB b (orI a b) = true := (withinB_iff _ _).2 fun i h => by
  rw [bv_orI, h]; simp
theorem bool_ext {a b : Bool} (h : a = true ↔ b = true) : a = b := by cases a <;> cases b <;> simp_all
theorem withinB_meet (a b c : Int) : (withinB c a && withinB c b) = withinB c (andI a b) := by
  refine bool_ext ?_
  rw [Bool.and_eq_true, withinB_iff, withinB_iff, withinB_iff]
  constructor
  · rintro ⟨h, k⟩ i hi
    rw [bv_andI, h i hi, k i hi]; rfl
  · intro h
    refine ⟨fun i hi => ?_, fun i hi => ?_⟩ <;> (have := h i hi; rw [bv_andI] at this; simp at this; first | exact this.1 | exact this.2)
theorem withinB_join (a b c : Int) : (withinB a c && withinB b c) = withinB (orI a b) c := by
  refine bool_ext ?_
  rw [Bool.and_eq_true, withinB_iff, withinB_iff, withinB_iff]
  constructor
  · rintro ⟨h, k⟩ i hi
    rw [bv_orI] at hi
    simp at hi
    rcases hi with hi | hi
    · exact h i hi
    · exact k i hi
  · intro h
    refine ⟨fun i hi => h i ?_, fun i hi => h i ?_⟩ <;> (rw [bv_orI, hi]; simp)
theorem wraps_i64 (n : Int) (h₀ : 0 ≤ n) (h₁ : n < 2 ^ 62) : IntKind.i64.wrap n = n := by rw [IntKind.wrap_i64]; omega
theorem join_i64 (i : Nat) (x y : Int) (hx₀ : 0 ≤ x) (hx : x % 2 ^ i = 0) (hx₁ : x < 2 ^ 62) (hy₀ : 0 ≤ y) (hy : y < 2 ^ i) (hy₁ : y < 2 ^ 62) : bits .or .i64 x y = x + y :=
  bits_join .i64 62 (by decide) wraps_i64 i x y hx₀ hx hx₁ hy₀ hy hy₁
theorem mask_i64 (i : Nat) (hi : i ≤ 62) (x : Int) (h₀ : 0 ≤ x) (h₁ : x < 2 ^ 62) : bits .and .i64 x (2 ^ i - 1) = x % 2 ^ i :=
  bits_mask .i64 62 (by decide) wraps_i64 i hi x h₀ h₁
end Go.Proofs.Ytcdcmbehnccicaa
