import Derived.Below
import Derived.Laws.BitsAllLaws
import Derived.Laws.BitsLemmas
import Derived.Lib.Hide
import Derived.WalkKit
import Derived.WideShapes
/- Plain arithmetic of wrapping and remainders: no program in sight. -/
namespace Go.Proofs.YtpjhjefjbkjhkaaGreatDoor
open Go.RowKit

def I64' (n : Int) : Prop := -9223372036854775808 ≤ n ∧ n ≤ 9223372036854775807
theorem ret_int {k : IntKind} {a b : Int} (h : a = b) : Ending.returned (.int k a) = .returned (.int k b) := by rw [h]
theorem ret_bool {a b : Bool} (h : a = b) : Ending.returned (.bool a) = .returned (.bool b) := by rw [h]
theorem vint {k : IntKind} {a b : Int} (h : a = b) : Value.int k a = .int k b := by rw [h]
theorem vbool {a b : Bool} (h : a = b) : Value.bool a = .bool b := by rw [h]
theorem ret2 {a b c d : Value} (h : a = c) (k : b = d) : Ending.returned (.tuple #[a, b]) = .returned (.tuple #[c, d]) := by rw [h, k]
theorem ret3 {a b c d e f : Value} (h : a = d) (k : b = e) (l : c = f) : Ending.returned (.tuple #[a, b, c]) = .returned (.tuple #[d, e, f]) := by rw [h, k, l]
theorem w32_bd (n : Int) : -2147483648 ≤ wrap32 n ∧ wrap32 n ≤ 2147483647 := by unfold wrap32; omega
theorem w64_bd (n : Int) : -9223372036854775808 ≤ wrap64 n ∧ wrap64 n ≤ 9223372036854775807 := by unfold wrap64; omega
theorem w64_32 (n : Int) : wrap64 (wrap32 n) = wrap32 n := by unfold wrap64 wrap32; omega
theorem w32_64 (n : Int) : wrap32 (wrap64 n) = wrap32 n := by unfold wrap64 wrap32; omega
theorem w32_32 (n : Int) : wrap32 (wrap32 n) = wrap32 n := by unfold wrap32; omega
theorem w64_of {n : Int} (h : -9223372036854775808 ≤ n) (h2 : n ≤ 9223372036854775807) : wrap64 n = n := by unfold wrap64; omega
theorem w32_of {n : Int} (h : -2147483648 ≤ n) (h2 : n ≤ 2147483647) : wrap32 n = n := by unfold wrap32; omega
/-- Two numbers wrap to the same if they differ by a multiple. -/
theorem w32_congr {a b k : Int} (h : a = b + k * 4294967296) : wrap32 a = wrap32 b := by subst h; unfold wrap32; omega
theorem w32_diff (n : Int) : ∃ k : Int, wrap32 n = n + k * 4294967296 := ⟨-((n + 2147483648) / 4294967296), by unfold wrap32; omega⟩
theorem wf_bd {n : Int} (h : (Lit.int .i64 n).wf = true) : -9223372036854775808 ≤ n ∧ n ≤ 9223372036854775807 := by
  simp [Lit.wf, IntKind.min, IntKind.max, IntKind.signed, IntKind.bits] at h
  omega
theorem rest_fix (n m : Int) (hm : 0 < m) : (if n.tmod m < 0 then n.tmod m + m else n.tmod m) = n % m := by
  have h0 := Int.emod_nonneg n (by omega : m ≠ 0)
  have h1 := Int.emod_lt_of_pos n hm
  have h2 : (m.natAbs : Int) = m := by omega
  rw [Int.tmod_eq_emod]
  by_cases h : 0 ≤ n ∨ m ∣ n
  · simp only [h, if_true]
    rw [if_neg (by omega)]; omega
  · simp only [h, if_false]
    rw [h2, if_pos (by omega)]; omega
theorem tmod_bd (n m : Int) (hm : 0 < m) : -m < n.tmod m ∧ n.tmod m < m := by
  have h1 := Int.tmod_lt_of_pos n hm
  have h2 := Int.lt_tmod_of_pos n hm
  omega

/-- The sum, the difference, the product, the quotient of two numbers within 32 bits; 1 if one is less. -/
def addF (a b : Int) : Int := wrap32 (wrap32 a + wrap32 b)
def subF (a b : Int) : Int := wrap32 (wrap32 a - wrap32 b)
def mulF (a b : Int) : Int := wrap32 (wrap32 a * wrap32 b)
def divF (a b : Int) : Int := wrap32 ((wrap32 a).tdiv (wrap32 b))
def lessF (a b : Int) : Int := if wrap32 a < wrap32 b then 1 else 0
theorem w32_eq_of_dvd {a b : Int} (h : (4294967296 : Int) ∣ a - b) : wrap32 a = wrap32 b := by
  obtain ⟨k, hk⟩ := h
  exact w32_congr (k := k) (by omega)
theorem w32_dvd (a : Int) : (4294967296 : Int) ∣ a - wrap32 a := by unfold wrap32; omega
theorem w32_dvd' (a : Int) : (4294967296 : Int) ∣ wrap32 a - a := by unfold wrap32; omega
theorem addF_comm (a b : Int) : addF a b = addF b a := by unfold addF; rw [Int.add_comm]
theorem mulF_comm (a b : Int) : mulF a b = mulF b a := by unfold mulF; rw [Int.mul_comm]
theorem addF_assoc (a b c : Int) : addF (addF a b) c = addF a (addF b c) := by unfold addF wrap32; omega
theorem mul_dvd {n a b c d : Int} (h : n ∣ a - b) (k : n ∣ c - d) : n ∣ a * c - b * d := by
  obtain ⟨x, hx⟩ := h
  obtain ⟨y, hy⟩ := k
  refine ⟨x * c + b * y, ?_⟩
  have : a * c - b * d = (a - b) * c + b * (c - d) := by rw [Int.sub_mul, Int.mul_sub]; omega
  rw [this, hx, hy, Int.mul_add, Int.mul_assoc, Int.mul_left_comm b n y]
theorem mulF_eq (a b : Int) : mulF a b = wrap32 (a * b) := w32_eq_of_dvd (mul_dvd (w32_dvd' a) (w32_dvd' b))
theorem addF_eq (a b : Int) : addF a b = wrap32 (a + b) := by unfold addF wrap32; omega
theorem subF_eq (a b : Int) : subF a b = wrap32 (a - b) := by unfold subF wrap32; omega
theorem w32_mul_l (a b : Int) : wrap32 (wrap32 a * b) = wrap32 (a * b) := w32_eq_of_dvd (mul_dvd (w32_dvd' a) (by simp))
theorem w32_mul_r (a b : Int) : wrap32 (a * wrap32 b) = wrap32 (a * b) := w32_eq_of_dvd (mul_dvd (by simp) (w32_dvd' b))
theorem mulF_assoc (a b c : Int) : mulF (mulF a b) c = mulF a (mulF b c) := by
  rw [mulF_eq a b, mulF_eq b c, mulF_eq, mulF_eq, w32_mul_l, w32_mul_r, Int.mul_assoc]
theorem w32_add (a b : Int) : wrap32 (wrap32 a + wrap32 b) = wrap32 (a + b) := by unfold wrap32; omega
theorem w32_sub (a b : Int) : wrap32 (wrap32 a - wrap32 b) = wrap32 (a - b) := by unfold wrap32; omega
theorem mulF_add (a b c : Int) : mulF a (addF b c) = addF (mulF a b) (mulF a c) := by
  rw [addF_eq b c, mulF_eq, mulF_eq, mulF_eq, addF_eq, w32_mul_r, w32_add, Int.mul_add]
theorem subF_addF (a b : Int) : subF (addF a b) b = wrap32 a := by unfold subF addF wrap32; omega
theorem mulF_neg1 (b : Int) : mulF b (-1) = wrap32 (-b) := by rw [mulF_eq, Int.mul_neg, Int.mul_one]
theorem subF_neg (a b : Int) : subF a b = addF a (mulF b (-1)) := by
  rw [mulF_neg1]; unfold subF addF wrap32; omega
theorem mul_bd {a b : Int} {n : Int} (ha : -n ≤ a ∧ a ≤ n) (hb : -n ≤ b ∧ b ≤ n) : -(n * n) ≤ a * b ∧ a * b ≤ n * n := by
  have hn : 0 ≤ n := by omega
  have h1 : (a * b).natAbs = a.natAbs * b.natAbs := Int.natAbs_mul a b
  have h2 : a.natAbs * b.natAbs ≤ n.natAbs * n.natAbs := Nat.mul_le_mul (by omega) (by omega)
  have h3 : ((n.natAbs * n.natAbs : Nat) : Int) = n * n := by rw [Int.natCast_mul]; have : (n.natAbs : Int) = n := by omega
                                                              rw [this]
  omega
theorem mul32_bd (a b : Int) : -9223372036854775808 ≤ wrap32 a * wrap32 b ∧ wrap32 a * wrap32 b ≤ 9223372036854775807 := by
  have ha := w32_bd a
  have hb := w32_bd b
  have := mul_bd (n := 2147483648) (a := wrap32 a) (b := wrap32 b) (by omega) (by omega)
  omega
end Go.Proofs.YtpjhjefjbkjhkaaGreatDoor
/- Bits of 64-bit numbers: no program in sight. -/
namespace Go.Proofs.YtpjhjefjbkjhkaaGreatDoor
open Go.RowKit

/-- The 64 bits of a number. -/
def bv (a : Int) : BitVec 64 := BitVec.ofInt 64 a
theorem bv_toInt (x : BitVec 64) : bv x.toInt = x := by unfold bv; exact BitVec.ofInt_toInt
theorem toInt_bv {a : Int} (h : -9223372036854775808 ≤ a ∧ a ≤ 9223372036854775807) : (bv a).toInt = a := by
  unfold bv
  rw [BitVec.toInt_ofInt]
  exact Int.bmod_eq_of_le (by omega) (by omega)
theorem wrap_toNat (x : BitVec 64) : IntKind.i64.wrap (x.toNat : Int) = x.toInt := by
  rw [IntKind.wrap_i64, BitVec.toInt_eq_toNat_cond]
  have := x.isLt
  split <;> omega
theorem bits_and_bv (a b : Int) : bits .and .i64 a b = (bv a &&& bv b).toInt := wrap_toNat _
theorem bits_or_bv (a b : Int) : bits .or .i64 a b = (bv a ||| bv b).toInt := wrap_toNat _
theorem bits_xor_bv (a b : Int) : bits .xor .i64 a b = (bv a ^^^ bv b).toInt := wrap_toNat _
theorem bits_andNot_bv (a b : Int) : bits .andNot .i64 a b = (bv a &&& ~~~ bv b).toInt := wrap_toNat _
theorem toInt_range (x : BitVec 64) : -9223372036854775808 ≤ x.toInt ∧ x.toInt ≤ 9223372036854775807 := by
  have := x.isLt
  rw [BitVec.toInt_eq_toNat_cond]
  split <;> omega
/-- The bits of a and of b; of a or of b; of a and not of b. -/
def andI (a b : Int) : Int := (bv a &&& bv b).toInt
def orI (a b : Int) : Int := (bv a ||| bv b).toInt
def andNotI (a b : Int) : Int := (bv a &&& ~~~ bv b).toInt
theorem toInt_zero (x : BitVec 64) : x.toInt = 0 ↔ x = 0#64 := by
  constructor
  · intro h
    have := bv_toInt x
    rw [h] at this
    exact this.symm
  · rintro rfl; rfl
/-- Has b all bits of a? -/
def withinB (a b : Int) : Bool := decide (andNotI a b = 0)
theorem withinB_iff (a b : Int) : withinB a b = true ↔ ∀ i : Nat, (bv a).getLsbD i = true → (bv b).getLsbD i = true := by
  unfold withinB andNotI
  rw [decide_eq_true_iff, toInt_zero]
  constructor
  · intro h i hi
    have := congrArg (fun x => BitVec.getLsbD x i) h
    have hi64 : i < 64 := BitVec.lt_of_getLsbD hi
    simp [hi, hi64] at this
    exact this
  · intro h
    apply BitVec.eq_of_getLsbD_eq
    intro i hi
    have := h i
    simp [hi]
    intro h1
    exact this h1
theorem bv_andI (a b : Int) (i : Nat) : (bv (andI a b)).getLsbD i = ((bv a).getLsbD i && (bv b).getLsbD i) := by
  unfold andI; rw [bv_toInt, BitVec.getLsbD_and]
theorem bv_orI (a b : Int) (i : Nat) : (bv (orI a b)).getLsbD i = ((bv a).getLsbD i || (bv b).getLsbD i) := by
  unfold orI; rw [bv_toInt, BitVec.getLsbD_or]
theorem eq_of_bits {a b : Int} (ha : -9223372036854775808 ≤ a ∧ a ≤ 9223372036854775807) (hb : -9223372036854775808 ≤ b ∧ b ≤ 9223372036854775807)
    (h : ∀ i : Nat, (bv a).getLsbD i = (bv b).getLsbD i) : a = b := by
  have : bv a = bv b := BitVec.eq_of_getLsbD_eq fun i _ => h i
  rw [← toInt_bv ha, ← toInt_bv hb, this]
theorem withinB_refl (a : Int) : withinB a a = true := (withinB_iff a a).2 fun _ h => h
theorem withinB_trans {a b c : Int} (h : withinB a b = true) (k : withinB b c = true) : withinB a c = true :=
  (withinB_iff a c).2 fun i hi => (withinB_iff b c).1 k i ((withinB_iff a b).1 h i hi)
theorem withinB_anti {a b : Int} (ha : -9223372036854775808 ≤ a ∧ a ≤ 9223372036854775807) (hb : -9223372036854775808 ≤ b ∧ b ≤ 9223372036854775807)
    (h : withinB a b = true) (k : withinB b a = true) : a = b := by
  refine eq_of_bits ha hb fun i => ?_
  have h1 := (withinB_iff a b).1 h i
  have h2 := (withinB_iff b a).1 k i
  revert h1 h2
  cases (bv a).getLsbD i <;> cases (bv b).getLsbD i <;> simp
theorem withinB_and_l (a b : Int) : withinB (andI a b) a = true := (withinB_iff _ _).2 fun i h => by
  rw [bv_andI] at h; simp at h; exact h.1
theorem withinB_and_r (a b : Int) : withinB (andI a b) b = true := (withinB_iff _ _).2 fun i h => by
  rw [bv_andI] at h; simp at h; exact h.2
theorem withinB_or_l (a b : Int) : withinB a (orI a b) = true := (withinB_iff _ _).2 fun i h => by
  rw [bv_orI, h]; rfl
theorem withinB_or_r (a b : Int) : withinB b (orI a b) = true := (withinB_iff _ _).2 fun i h => by
  rw [bv_orI, h]; simp
theorem bool_ext {a b : Bool} (h : a = true ↔ b = true) : a = b := by cases a <;> cases b <;> simp_all
theorem withinB_meet (a b c : Int) : (withinB c a && withinB c b) = withinB c (andI a b) := by
  refine bool_ext ?_
  rw [Bool.and_eq_true, withinB_iff, withinB_iff, withinB_iff]
  constructor
  · rintro ⟨h, k⟩ i hi
    rw [bv_andI, h i hi, k i hi]; rfl
  · intro h
    refine ⟨fun i hi => ?_, fun i hi => ?_⟩ <;> (have := h i hi; rw [bv_andI] at this; simp at this; first | exact this.1 | exact this.2)
theorem withinB_join (a b c : Int) : (withinB a c && withinB b c) = withinB (orI a b) c := by
  refine bool_ext ?_
  rw [Bool.and_eq_true, withinB_iff, withinB_iff, withinB_iff]
  constructor
  · rintro ⟨h, k⟩ i hi
    rw [bv_orI] at hi
    simp at hi
    rcases hi with hi | hi
    · exact h i hi
    · exact k i hi
  · intro h
    refine ⟨fun i hi => h i ?_, fun i hi => h i ?_⟩ <;> (rw [bv_orI, hi]; simp)
theorem wraps_i64 (n : Int) (h₀ : 0 ≤ n) (h₁ : n < 2 ^ 62) : IntKind.i64.wrap n = n := by rw [IntKind.wrap_i64]; omega
theorem join_i64 (i : Nat) (x y : Int) (hx₀ : 0 ≤ x) (hx : x % 2 ^ i = 0) (hx₁ : x < 2 ^ 62) (hy₀ : 0 ≤ y) (hy : y < 2 ^ i) (hy₁ : y < 2 ^ 62) : bits .or .i64 x y = x + y :=
  bits_join .i64 62 (by decide) wraps_i64 i x y hx₀ hx hx₁ hy₀ hy hy₁
theorem mask_i64 (i : Nat) (hi : i ≤ 62) (x : Int) (h₀ : 0 ≤ x) (h₁ : x < 2 ^ 62) : bits .and .i64 x (2 ^ i - 1) = x % 2 ^ i :=
  bits_mask .i64 62 (by decide) wraps_i64 i hi x h₀ h₁
end Go.Proofs.YtpjhjefjbkjhkaaGreatDoor
/- Numbers of 32 bits; names alike. -/
namespace Go.Proofs.YtpjhjefjbkjhkaaGreatDoor
open Go Go.RowKit
theorem name_eq {a b : ByteArray} : a.toList = b.toList ↔ a = b := by
  rw [ByteArray.toList_eq, ByteArray.toList_eq]
  exact ⟨fun h => Go.WideShapes.bytes_inj h, fun h => by rw [h]⟩
def num32B (n : Int) : Bool := decide (-2147483648 ≤ n ∧ n ≤ 2147483647)
theorem wrap32_fix' {n : Int} : n = wrap32 n ↔ -2147483648 ≤ n ∧ n ≤ 2147483647 := by unfold wrap32; omega
theorem num32B_iff {n : Int} : num32B n = true ↔ n = wrap32 n := by unfold num32B; rw [wrap32_fix']; simp
end Go.Proofs.YtpjhjefjbkjhkaaGreatDoor
/- Keys as plain data, and what may be said of them: no program in sight. -/
namespace Go.Proofs.YtpjhjefjbkjhkaaGreatDoor
open Go.RowKit
set_option linter.unusedVariables false

/-- A key. -/
@[ext] structure KeyV where
  perm : Int
  base : Int
  len : Int
  at_ : Int
  seal_ : Int
deriving DecidableEq
/-- The key as a value of the machine. -/
def KeyV.val (k : KeyV) : Value := .agg #[.int .i64 k.perm, .int .i64 k.base, .int .i64 k.len, .int .i64 k.at_, .int .i64 k.seal_]
def I64 (n : Int) : Prop := -9223372036854775808 ≤ n ∧ n ≤ 9223372036854775807
structure KeyV.wf (k : KeyV) : Prop where
  perm : I64 k.perm
  base : I64 k.base
  len : I64 k.len
  at_ : I64 k.at_
  seal_ : I64 k.seal_
/-- Is a number from low to high? -/
def inB (n lo hi : Int) : Bool := decide (lo ≤ n ∧ n ≤ hi)
theorem inB_iff {n lo hi : Int} : inB n lo hi = true ↔ lo ≤ n ∧ n ≤ hi := by unfold inB; simp
theorem inB_no {n lo hi : Int} : inB n lo hi = false ↔ ¬ (lo ≤ n ∧ n ≤ hi) := by unfold inB; simp
/-- May a key be? -/
def okB (k : KeyV) : Bool := inB k.perm 0 127 && (inB k.base 0 400 && inB k.len 0 (400 - k.base)) && inB k.at_ 0 400 && inB k.seal_ 0 63
structure KeyV.Ok (k : KeyV) : Prop where
  p0 : 0 ≤ k.perm
  p1 : k.perm ≤ 127
  b0 : 0 ≤ k.base
  b1 : k.base ≤ 400
  l0 : 0 ≤ k.len
  l1 : k.base + k.len ≤ 400
  a0 : 0 ≤ k.at_
  a1 : k.at_ ≤ 400
  s0 : 0 ≤ k.seal_
  s1 : k.seal_ ≤ 63
theorem okB_iff (k : KeyV) : okB k = true ↔ k.Ok := by
  unfold okB
  simp only [Bool.and_eq_true, inB_iff]
  constructor
  · rintro ⟨⟨⟨⟨_, _⟩, ⟨_, _⟩, _, _⟩, _, _⟩, _, _⟩
    constructor <;> omega
  · rintro ⟨_, _, _, _, _, _, _, _, _, _⟩
    refine ⟨⟨⟨⟨?_, ?_⟩, ⟨?_, ?_⟩, ?_, ?_⟩, ?_, ?_⟩, ?_, ?_⟩ <;> omega
/-- Is it one of the cells of a key? -/
def covB (b l n : Int) : Bool := decide (b ≤ n ∧ n - b < max l 0)
theorem covB_iff {b l n : Int} : covB b l n = true ↔ b ≤ n ∧ n < b + l := by
  unfold covB; simp; omega
theorem covB_no {b l n : Int} : covB b l n = false ↔ ¬ (b ≤ n ∧ n < b + l) := by
  rw [← covB_iff]; simp
/-- Is a key no more than another one? -/
def underB (a b : KeyV) : Bool :=
  (decide (a.len ≤ 0) || covB b.base b.len a.base && covB b.base b.len (wrap64 (wrap64 (a.base + a.len) - 1))) && withinB a.perm b.perm && (a.seal_ == b.seal_ || b.seal_ == 0)
def zeroK : KeyV := ⟨0, 0, 0, 0, 0⟩
/-- What is wrong with a key. -/
def keyCheck (k : KeyV) : Int := if okB k then 0 else 1
def plainF (k : KeyV) : Int := if okB k then (if k.seal_ = 0 then 0 else 11) else 1
def moveF (k : KeyV) (n : Int) : KeyV × Int :=
  if plainF k = 0 then (if inB n (-k.at_) (400 - k.at_) then ({ k with at_ := k.at_ + n }, 0) else (zeroK, 13)) else (zeroK, plainF k)
def narrowF (k : KeyV) (n : Int) : KeyV × Int :=
  if plainF k = 0 then (if k.base ≤ k.at_ ∧ inB n 0 (k.base + k.len - k.at_) = true then (⟨k.perm, k.at_, n, k.at_, k.seal_⟩, 0) else (zeroK, 13)) else (zeroK, plainF k)
def dropF (k : KeyV) (p : Int) : KeyV × Int := if plainF k = 0 then ({ k with perm := andI k.perm p }, 0) else (zeroK, plainF k)
def mayF (k : KeyV) (p : Int) : Int := if k.seal_ = 0 then (if andI k.perm p = 0 then 12 else if covB k.base k.len k.at_ then 0 else 13) else 11
def bothF (k c : KeyV) : Int := if okB k then keyCheck c else 1
def sealF (k c : KeyV) : KeyV × Int :=
  if bothF k c = 0 then (if plainF k = 0 then (if mayF c 32 = 0 then (if inB c.at_ 1 63 then ({ k with seal_ := c.at_ }, 0) else (zeroK, 13)) else (zeroK, mayF c 32)) else (zeroK, plainF k)) else (zeroK, bothF k c)
def openF (k c : KeyV) : KeyV × Int :=
  if bothF k c = 0 then (if k.seal_ = 0 then (zeroK, 11) else if mayF c 64 = 0 then (if k.seal_ = c.at_ then ({ k with seal_ := 0 }, 0) else (zeroK, 11)) else (zeroK, mayF c 64)) else (zeroK, bothF k c)
theorem plainF_zero (k : KeyV) : plainF k = 0 ↔ k.Ok ∧ k.seal_ = 0 := by
  rw [← okB_iff]; unfold plainF
  cases okB k
  · simp
  · by_cases h : k.seal_ = 0 <;> simp [h]
theorem keyCheck_zero (k : KeyV) : keyCheck k = 0 ↔ k.Ok := by
  rw [← okB_iff]; unfold keyCheck
  cases okB k <;> simp
/-- A key and what went wrong, as a result. -/
def KeyV.res (r : KeyV × Int) : Value := .tuple #[.agg #[.int .i64 r.1.perm, .int .i64 r.1.base, .int .i64 r.1.len, .int .i64 r.1.at_, .int .i64 r.1.seal_], .int .i64 r.2]
theorem KeyV.Ok.wf {k : KeyV} (h : k.Ok) : k.wf := by
  obtain ⟨_, _, _, _, _, _, _, _, _, _⟩ := h
  constructor <;> constructor <;> omega
theorem zeroK_ok : zeroK.Ok := by constructor <;> simp [zeroK]
theorem narrowF_cases (k : KeyV) (n : Int) : (∃ c, narrowF k n = (zeroK, c) ∧ c ≠ 0) ∨
    (narrowF k n = (⟨k.perm, k.at_, n, k.at_, 0⟩, 0) ∧ k.Ok ∧ k.seal_ = 0 ∧ k.base ≤ k.at_ ∧ 0 ≤ n ∧ n ≤ k.base + k.len - k.at_) := by
  by_cases hp : plainF k = 0
  · obtain ⟨hok, hs⟩ := (plainF_zero k).1 hp
    by_cases hc : k.base ≤ k.at_ ∧ inB n 0 (k.base + k.len - k.at_) = true
    · have := inB_iff.1 hc.2
      right
      refine ⟨?_, hok, hs, hc.1, this.1, this.2⟩
      unfold narrowF
      rw [if_pos hp, if_pos hc, hs]
    · left
      refine ⟨13, ?_, by decide⟩
      unfold narrowF
      rw [if_pos hp, if_neg hc]
  · left
    refine ⟨plainF k, ?_, hp⟩
    unfold narrowF
    rw [if_neg hp]
theorem narrowF_ok {k : KeyV} {n : Int} (h : k.Ok) (hs : k.seal_ = 0) (h1 : k.base ≤ k.at_) (h2 : 0 ≤ n) (h3 : n ≤ k.base + k.len - k.at_) : narrowF k n = (⟨k.perm, k.at_, n, k.at_, 0⟩, 0) := by
  unfold narrowF
  rw [if_pos ((plainF_zero k).2 ⟨h, hs⟩), if_pos ⟨h1, inB_iff.2 ⟨h2, h3⟩⟩, hs]
theorem narrowF_out {k : KeyV} {n : Int} (h : k.Ok) (hs : k.seal_ = 0) (h3 : k.base + k.len - k.at_ < n) : narrowF k n = (zeroK, 13) := by
  unfold narrowF
  rw [if_pos ((plainF_zero k).2 ⟨h, hs⟩), if_neg]
  rintro ⟨_, h4⟩
  have := inB_iff.1 h4
  omega
/-- To be no more than another one, of keys that may be. -/
def underP (a b : KeyV) : Prop := (a.len = 0 ∨ (b.base ≤ a.base ∧ a.base + a.len ≤ b.base + b.len)) ∧ withinB a.perm b.perm = true ∧ (a.seal_ = b.seal_ ∨ b.seal_ = 0)
theorem underB_iff {a b : KeyV} (ha : a.Ok) (hb : b.Ok) : underB a b = true ↔ underP a b := by
  obtain ⟨_, _, b0, b1, l0, l1, _, _, _, _⟩ := ha
  obtain ⟨_, _, _, _, _, _, _, _, _, _⟩ := hb
  have e1 : wrap64 (a.base + a.len) = a.base + a.len := w64_of (by omega) (by omega)
  have e2 : wrap64 (a.base + a.len - 1) = a.base + a.len - 1 := w64_of (by omega) (by omega)
  unfold underB underP
  rw [e1, e2]
  simp only [Bool.and_eq_true, Bool.or_eq_true, decide_eq_true_iff, covB_iff, beq_iff_eq]
  constructor
  · rintro ⟨⟨h1, h2⟩, h3⟩
    exact ⟨by omega, h2, h3⟩
  · rintro ⟨h1, h2, h3⟩
    exact ⟨⟨by omega, h2⟩, h3⟩
theorem underB_refl {a : KeyV} (ha : a.Ok) : underB a a = true :=
  (underB_iff ha ha).2 ⟨.inr ⟨Int.le_refl _, Int.le_refl _⟩, withinB_refl _, .inl rfl⟩
theorem underB_trans {a b c : KeyV} (ha : a.Ok) (hb : b.Ok) (hc : c.Ok) (h : underB a b = true) (k : underB b c = true) : underB a c = true := by
  obtain ⟨h1, h2, h3⟩ := (underB_iff ha hb).1 h
  obtain ⟨k1, k2, k3⟩ := (underB_iff hb hc).1 k
  have := ha.l0
  refine (underB_iff ha hc).2 ⟨by omega, withinB_trans h2 k2, by omega⟩
/-- Are two keys for the same cells, and do they allow the same? -/
def sameB (a b : KeyV) : Bool := (a.len == b.len && (a.len == 0 || a.base == b.base)) && a.perm == b.perm && a.seal_ == b.seal_
theorem underB_anti {a b : KeyV} (ha : a.Ok) (hb : b.Ok) : (underB a b && underB b a) = sameB a b := by
  refine bool_ext ?_
  rw [Bool.and_eq_true, underB_iff ha hb, underB_iff hb ha]
  have wa := ha.wf.perm
  have wb := hb.wf.perm
  obtain ⟨_, _, _, _, _, _, _, _, _, _⟩ := ha
  obtain ⟨_, _, _, _, _, _, _, _, _, _⟩ := hb
  unfold sameB underP
  simp only [Bool.and_eq_true, Bool.or_eq_true, beq_iff_eq]
  constructor
  · rintro ⟨⟨h1, h2, h3⟩, k1, k2, k3⟩
    exact ⟨⟨by omega, withinB_anti wa wb h2 k2⟩, by omega⟩
  · rintro ⟨⟨h1, h2⟩, h3⟩
    rw [h2]
    exact ⟨⟨by omega, withinB_refl _, by omega⟩, by omega, withinB_refl _, by omega⟩
theorem moveF_cases (k : KeyV) (n : Int) : (∃ c, moveF k n = (zeroK, c) ∧ c ≠ 0) ∨
    (moveF k n = (⟨k.perm, k.base, k.len, k.at_ + n, 0⟩, 0) ∧ k.Ok ∧ k.seal_ = 0 ∧ -k.at_ ≤ n ∧ n ≤ 400 - k.at_) := by
  by_cases hp : plainF k = 0
  · obtain ⟨hok, hs⟩ := (plainF_zero k).1 hp
    by_cases hc : inB n (-k.at_) (400 - k.at_) = true
    · have := inB_iff.1 hc
      right
      refine ⟨?_, hok, hs, this.1, this.2⟩
      unfold moveF
      rw [if_pos hp, if_pos hc, hs]
    · left
      refine ⟨13, ?_, by decide⟩
      unfold moveF
      rw [if_pos hp, if_neg hc]
  · left
    refine ⟨plainF k, ?_, hp⟩
    unfold moveF
    rw [if_neg hp]
theorem moveF_ok {k : KeyV} {n : Int} (h : k.Ok) (hs : k.seal_ = 0) (h2 : -k.at_ ≤ n) (h3 : n ≤ 400 - k.at_) : moveF k n = (⟨k.perm, k.base, k.len, k.at_ + n, 0⟩, 0) := by
  unfold moveF
  rw [if_pos ((plainF_zero k).2 ⟨h, hs⟩), if_pos (inB_iff.2 ⟨h2, h3⟩), hs]
theorem moveF_out {k : KeyV} {n : Int} (h : k.Ok) (hs : k.seal_ = 0) (h3 : ¬ (-k.at_ ≤ n ∧ n ≤ 400 - k.at_)) : moveF k n = (zeroK, 13) := by
  unfold moveF
  rw [if_pos ((plainF_zero k).2 ⟨h, hs⟩), if_neg (fun h4 => h3 (inB_iff.1 h4))]
theorem dropF_cases (k : KeyV) (n : Int) : (∃ c, dropF k n = (zeroK, c) ∧ c ≠ 0) ∨ (dropF k n = (⟨andI k.perm n, k.base, k.len, k.at_, 0⟩, 0) ∧ k.Ok ∧ k.seal_ = 0) := by
  by_cases hp : plainF k = 0
  · obtain ⟨hok, hs⟩ := (plainF_zero k).1 hp
    right
    refine ⟨?_, hok, hs⟩
    unfold dropF
    rw [if_pos hp, hs]
  · left
    refine ⟨plainF k, ?_, hp⟩
    unfold dropF
    rw [if_neg hp]
theorem dropF_ok {k : KeyV} {n : Int} (h : k.Ok) (hs : k.seal_ = 0) : dropF k n = (⟨andI k.perm n, k.base, k.len, k.at_, 0⟩, 0) := by
  unfold dropF
  rw [if_pos ((plainF_zero k).2 ⟨h, hs⟩), hs]
theorem andI_le {a : Int} (h0 : 0 ≤ a) (h1 : a ≤ 127) (b : Int) : 0 ≤ andI a b ∧ andI a b ≤ 127 := by
  obtain ⟨n, rfl⟩ := Int.eq_ofNat_of_zero_le h0
  have e : (bv (n : Int)).toNat = n := by
    unfold bv
    rw [BitVec.ofInt_natCast, BitVec.toNat_ofNat]
    omega
  have h2 : (bv (n : Int) &&& bv b).toNat ≤ n := by
    rw [BitVec.toNat_and, e]
    exact Nat.and_le_left
  unfold andI
  rw [BitVec.toInt_eq_toNat_cond]
  split <;> omega
theorem andI_assoc (a b c : Int) : andI (andI a b) c = andI a (andI b c) := by
  unfold andI
  rw [bv_toInt, bv_toInt, BitVec.and_assoc]
theorem andI_comm (a b : Int) : andI a b = andI b a := by unfold andI; rw [BitVec.and_comm]
theorem andI_range (a b : Int) : I64 (andI a b) := toInt_range _
theorem orI_le {a b : Int} (h0 : 0 ≤ a) (h1 : a ≤ 127) (g0 : 0 ≤ b) (g1 : b ≤ 127) : 0 ≤ orI a b ∧ orI a b ≤ 127 := by
  obtain ⟨n, rfl⟩ := Int.eq_ofNat_of_zero_le h0
  obtain ⟨m, rfl⟩ := Int.eq_ofNat_of_zero_le g0
  have e : (bv (n : Int)).toNat = n := by
    unfold bv
    rw [BitVec.ofInt_natCast, BitVec.toNat_ofNat]
    omega
  have e' : (bv (m : Int)).toNat = m := by
    unfold bv
    rw [BitVec.ofInt_natCast, BitVec.toNat_ofNat]
    omega
  have h2 : (bv (n : Int) ||| bv (m : Int)).toNat < 2 ^ 7 := by
    rw [BitVec.toNat_or, e, e']
    exact Nat.or_lt_two_pow (by omega) (by omega)
  unfold orI
  rw [BitVec.toInt_eq_toNat_cond]
  split <;> omega
theorem andI_orI (a b : Int) : andI (orI a b) b = andI b b := by
  unfold andI orI
  rw [bv_toInt]
  congr 1
  apply BitVec.eq_of_getLsbD_eq
  intro i _
  simp
  intro h
  exact .inr h
theorem mayF_zero (k : KeyV) (p : Int) : mayF k p = 0 ↔ k.seal_ = 0 ∧ andI k.perm p ≠ 0 ∧ covB k.base k.len k.at_ = true := by
  unfold mayF
  by_cases h1 : k.seal_ = 0
  · by_cases h2 : andI k.perm p = 0
    · simp [h1, h2]
    · cases h3 : covB k.base k.len k.at_ <;> simp [h1, h2]
  · simp [h1]
theorem bothF_zero (k c : KeyV) : bothF k c = 0 ↔ k.Ok ∧ c.Ok := by
  unfold bothF
  cases h : okB k
  · have : ¬ k.Ok := fun h' => by rw [(okB_iff k).2 h'] at h; cases h
    simp [this]
  · have := (okB_iff k).1 h
    simp [this, keyCheck_zero]
theorem sealF_cases (k c : KeyV) : (∃ e, sealF k c = (zeroK, e) ∧ e ≠ 0) ∨
    (sealF k c = (⟨k.perm, k.base, k.len, k.at_, c.at_⟩, 0) ∧ k.Ok ∧ c.Ok ∧ k.seal_ = 0 ∧ c.seal_ = 0 ∧ andI c.perm 32 ≠ 0 ∧ covB c.base c.len c.at_ = true ∧ 1 ≤ c.at_ ∧ c.at_ ≤ 63) := by
  by_cases hb : bothF k c = 0
  · obtain ⟨ok, oc⟩ := (bothF_zero k c).1 hb
    by_cases hp : plainF k = 0
    · by_cases hm : mayF c 32 = 0
      · obtain ⟨m1, m2, m3⟩ := (mayF_zero c 32).1 hm
        cases hi : inB c.at_ 1 63
        · exact .inl ⟨13, by simp [sealF, hb, hp, hm, hi], by decide⟩
        · obtain ⟨i1, i2⟩ := inB_iff.1 hi
          exact .inr ⟨by simp [sealF, hb, hp, hm, hi], ok, oc, ((plainF_zero k).1 hp).2, m1, m2, m3, i1, i2⟩
      · exact .inl ⟨_, by simp only [sealF, hb, hp, hm, if_true, if_false], hm⟩
    · exact .inl ⟨_, by simp only [sealF, hb, hp, if_true, if_false], hp⟩
  · exact .inl ⟨_, by simp only [sealF, hb, if_false], hb⟩
theorem openF_cases (k c : KeyV) : (∃ e, openF k c = (zeroK, e) ∧ e ≠ 0) ∨
    (openF k c = (⟨k.perm, k.base, k.len, k.at_, 0⟩, 0) ∧ k.Ok ∧ c.Ok ∧ k.seal_ ≠ 0 ∧ k.seal_ = c.at_ ∧ c.seal_ = 0 ∧ andI c.perm 64 ≠ 0 ∧ covB c.base c.len c.at_ = true) := by
  by_cases hb : bothF k c = 0
  · obtain ⟨ok, oc⟩ := (bothF_zero k c).1 hb
    by_cases hs : k.seal_ = 0
    · exact .inl ⟨11, by simp only [openF, hb, if_true]; rw [if_pos hs], by decide⟩
    · by_cases hm : mayF c 64 = 0
      · obtain ⟨m1, m2, m3⟩ := (mayF_zero c 64).1 hm
        by_cases ht : k.seal_ = c.at_
        · exact .inr ⟨by simp only [openF, hb, hs, hm, if_true, if_false]; rw [if_pos ht], ok, oc, hs, ht, m1, m2, m3⟩
        · exact .inl ⟨11, by simp only [openF, hb, hs, hm, if_true, if_false]; rw [if_neg ht], by decide⟩
      · exact .inl ⟨_, by simp only [openF, hb, hs, hm, if_true, if_false], hm⟩
  · exact .inl ⟨_, by simp only [openF, hb, if_false], hb⟩
theorem openF_ok {k c : KeyV} (ok : k.Ok) (oc : c.Ok) (hs : k.seal_ ≠ 0) (ht : k.seal_ = c.at_) (h1 : c.seal_ = 0) (h2 : andI c.perm 64 ≠ 0) (h3 : covB c.base c.len c.at_ = true) :
    openF k c = (⟨k.perm, k.base, k.len, k.at_, 0⟩, 0) := by
  have hb := (bothF_zero k c).2 ⟨ok, oc⟩
  have hm := (mayF_zero c 64).2 ⟨h1, h2, h3⟩
  simp only [openF, hb, hs, hm, if_true, if_false]
  rw [if_pos ht]
end Go.Proofs.YtpjhjefjbkjhkaaGreatDoor
/- Values of the machine (numbers and keys) as plain data, and their bytes: no program in sight. -/
namespace Go.Proofs.YtpjhjefjbkjhkaaGreatDoor
open Go.RowKit
set_option linter.unusedVariables false

/-- A number, or a key. -/
@[ext] structure ValV where
  is : Bool
  n : Int
  k : KeyV
deriving DecidableEq
def ValV.val (v : ValV) : Value := .agg #[.bool v.is, .int .i64 v.n, .int .i64 v.k.perm, .int .i64 v.k.base, .int .i64 v.k.len, .int .i64 v.k.at_, .int .i64 v.k.seal_]
def ValV.num (n : Int) : ValV := ⟨false, n, zeroK⟩
structure ValV.wf (v : ValV) : Prop where
  n : I64 v.n
  k : v.k.wf
def zeroV : ValV := ⟨false, 0, zeroK⟩
/-- What is wrong with a value. -/
def valCheck (v : ValV) : Int :=
  if v.is then (if okB v.k then (if v.n = 0 then 0 else 5) else 1) else (if v.n < -2147483648 ∨ 2147483647 < v.n then 1 else if v.k = zeroK then 0 else 5)
/-- May a value be? -/
def ValV.Ok (v : ValV) : Prop := (v.is = true ∧ v.k.Ok ∧ v.n = 0) ∨ (v.is = false ∧ -2147483648 ≤ v.n ∧ v.n ≤ 2147483647 ∧ v.k = zeroK)
theorem valCheck_zero (v : ValV) : valCheck v = 0 ↔ v.Ok := by
  obtain ⟨is, n, k⟩ := v
  unfold valCheck ValV.Ok
  cases is
  · simp only [Bool.false_eq_true, if_false, false_and, false_or, true_and]
    by_cases h1 : n < -2147483648 ∨ 2147483647 < n
    · rw [if_pos h1]; simp; intro h2 h3; omega
    · rw [if_neg h1]
      by_cases h2 : k = zeroK
      · rw [if_pos h2]; simp [h2]; omega
      · rw [if_neg h2]; simp [h2]
  · simp only [if_true, true_and, Bool.true_eq_false, false_and, or_false]
    rw [← okB_iff]
    cases okB k
    · simp
    · by_cases h : n = 0 <;> simp [h]
theorem ValV.Ok.wf {v : ValV} (h : v.Ok) : v.wf := by
  rcases h with ⟨_, hk, hn⟩ | ⟨_, h1, h2, hk⟩
  · exact ⟨by rw [hn]; constructor <;> omega, hk.wf⟩
  · exact ⟨by constructor <;> omega, by rw [hk]; exact zeroK_ok.wf⟩
theorem zeroK_eq {p b l a s : Int} : (⟨p, b, l, a, s⟩ : KeyV) = zeroK ↔ p = 0 ∧ b = 0 ∧ l = 0 ∧ a = 0 ∧ s = 0 := by
  unfold zeroK; rw [KeyV.mk.injEq]
end Go.Proofs.YtpjhjefjbkjhkaaGreatDoor
/- Memory as plain data: no program in sight. -/
namespace Go.Proofs.YtpjhjefjbkjhkaaGreatDoor
open Go.RowKit
set_option linter.unusedVariables false

instance : Inhabited ValV := ⟨zeroV⟩
/-- The first that is wrong with one of some values. -/
def firstErr : List ValV → Int
  | [] => 0
  | v :: vs => if valCheck v = 0 then firstErr vs else valCheck v
/-- What is wrong with a memory. -/
def memCheck (m : List ValV) : Int := if 400 < m.length then 2 else firstErr m
theorem firstErr_zero (m : List ValV) : firstErr m = 0 ↔ ∀ v ∈ m, v.Ok := by
  induction m with
  | nil => simp [firstErr]
  | cons v m ih =>
    unfold firstErr
    by_cases h : valCheck v = 0
    · rw [if_pos h, ih]
      have := (valCheck_zero v).1 h
      simp [this]
    · rw [if_neg h]
      have h2 : ¬ v.Ok := fun k => h ((valCheck_zero v).2 k)
      simp [h, h2]
theorem memCheck_zero (m : List ValV) : memCheck m = 0 ↔ m.length ≤ 400 ∧ ∀ v ∈ m, v.Ok := by
  unfold memCheck
  by_cases h : 400 < m.length
  · rw [if_pos h]; simp; omega
  · rw [if_neg h, firstErr_zero]; simp; omega
/-- Which cell. -/
def atF (n : Nat) (k : KeyV) (off p : Int) : Int × Int :=
  if okB k = false then (0, 1) else if k.seal_ ≠ 0 then (0, 11) else if andI k.perm p = 0 then (0, 12)
  else if off < -400 ∨ 400 < off ∨ covB k.base k.len (k.at_ + off) = false ∨ (n : Int) ≤ k.at_ + off then (0, 13) else (k.at_ + off, 0)
/-- What lies there. -/
def getF (m : List ValV) (k : KeyV) (off : Int) : ValV × Int :=
  let r := atF m.length k off 1
  if r.2 ≠ 0 then (zeroV, r.2) else if (m.getD r.1.toNat zeroV).is = true ∧ andI k.perm 8 = 0 then (zeroV, 0) else (m.getD r.1.toNat zeroV, 0)
def loadF (m : List ValV) (k : KeyV) (off : Int) : ValV × Int := if memCheck m ≠ 0 then (zeroV, memCheck m) else getF m k off
/-- What a store leaves: none if there is an error. -/
def putE (n : Nat) (k : KeyV) (off : Int) (v : ValV) : Int :=
  let r := atF n k off 2
  if r.2 ≠ 0 then r.2 else if v.is = true ∧ andI k.perm 16 = 0 then 12 else 0
def storeE (m : List ValV) (k : KeyV) (off : Int) (v : ValV) : Int :=
  if memCheck m ≠ 0 then memCheck m else if valCheck v ≠ 0 then valCheck v else putE m.length k off v
def storeM (m : List ValV) (k : KeyV) (off : Int) (v : ValV) : List ValV := m.set (k.at_ + off).toNat v
theorem atF_ok {n : Nat} {k : KeyV} {off p : Int} : (atF n k off p).2 = 0 ↔ k.Ok ∧ k.seal_ = 0 ∧ andI k.perm p ≠ 0 ∧ -400 ≤ off ∧ off ≤ 400 ∧ covB k.base k.len (k.at_ + off) = true ∧ k.at_ + off < n := by
  unfold atF
  rw [← okB_iff]
  cases okB k
  · simp
  · simp only [Bool.true_eq_false, if_false]
    by_cases h1 : k.seal_ = 0
    · by_cases h2 : andI k.perm p = 0
      · simp [h1, h2]
      · by_cases h3 : off < -400 ∨ 400 < off ∨ covB k.base k.len (k.at_ + off) = false ∨ (n : Int) ≤ k.at_ + off
        · rw [if_neg (by simp [h1]), if_neg h2, if_pos h3]
          simp only [show (13 : Int) ≠ 0 by decide, false_iff]
          rintro ⟨-, -, -, a, b, c, d⟩
          rcases h3 with h | h | h | h
          · omega
          · omega
          · rw [h] at c; cases c
          · omega
        · rw [if_neg (by simp [h1]), if_neg h2, if_neg h3]
          have hc : covB k.base k.len (k.at_ + off) = true := by
            cases hx : covB k.base k.len (k.at_ + off)
            · exact absurd (.inr (.inr (.inl hx))) h3
            · rfl
          simp only [true_iff]
          refine ⟨trivial, h1, h2, ?_, ?_, hc, ?_⟩ <;> · apply Classical.byContradiction; intro h; apply h3; omega
    · simp [h1]
theorem atF_val {n : Nat} {k : KeyV} {off p : Int} (h : (atF n k off p).2 = 0) : (atF n k off p).1 = k.at_ + off ∧ 0 ≤ k.at_ + off ∧ k.at_ + off < n := by
  have h2 := atF_ok.1 h
  obtain ⟨ok, s, a, o1, o2, c, l⟩ := h2
  have hb := ok.b0
  have := covB_iff.1 c
  refine ⟨?_, by omega, l⟩
  unfold atF at h ⊢
  rw [if_neg (by rw [(okB_iff k).2 ok]; simp), if_neg (by simp [s]), if_neg a, if_neg]
  rintro (h | h | h | h)
  · omega
  · omega
  · rw [h] at c; cases c
  · omega
theorem getF_err {m : List ValV} {k : KeyV} {off : Int} (h : (atF m.length k off 1).2 ≠ 0) : getF m k off = (zeroV, (atF m.length k off 1).2) := by
  simp only [getF]; rw [if_pos h]
theorem getF_ok {m : List ValV} {k : KeyV} {off : Int} {j : Nat} (h : (atF m.length k off 1).2 = 0) (hj : k.at_ + off = j) :
    getF m k off = if (m.getD j zeroV).is = true ∧ andI k.perm 8 = 0 then (zeroV, 0) else (m.getD j zeroV, 0) := by
  simp only [getF]
  rw [if_neg (by simp [h]), (atF_val h).1, hj, Int.toNat_natCast]
theorem putE_err {n : Nat} {k : KeyV} {off : Int} {v : ValV} (h : (atF n k off 2).2 ≠ 0) : putE n k off v = (atF n k off 2).2 := by
  simp only [putE]; rw [if_pos h]
theorem putE_ok {n : Nat} {k : KeyV} {off : Int} {v : ValV} (h : (atF n k off 2).2 = 0) : putE n k off v = if v.is = true ∧ andI k.perm 16 = 0 then 12 else 0 := by
  simp only [putE]
  rw [if_neg (by simp [h])]
end Go.Proofs.YtpjhjefjbkjhkaaGreatDoor
/- Instructions as plain data: no program in sight. -/
namespace Go.Proofs.YtpjhjefjbkjhkaaGreatDoor
open Go.RowKit
set_option linter.unusedVariables false
@[ext] structure InstV where
  op : Int
  a : Int
  b : Int
  c : Int
deriving DecidableEq
def InstV.val (i : InstV) : Value := .agg #[.int .i64 i.op, .int .i64 i.a, .int .i64 i.b, .int .i64 i.c]
def zeroI : InstV := ⟨0, 0, 0, 0⟩
/-- Which of A and B an Op has, and what C is. -/
def shA (op : Int) : Bool := !(op == 0 || op == 19 || op == 8 || op == 21)
def shB (op : Int) : Bool := !(op == 0 || op == 19 || op == 20 || op == 22 || op == 1 || op == 9 || op == 8 || op == 21)
def shC (op : Int) : Int :=
  if op = 0 ∨ op = 19 ∨ op = 20 ∨ op = 22 ∨ op = 2 ∨ op = 18 then 0 else if op = 1 ∨ op = 9 ∨ op = 8 ∨ op = 10 ∨ op = 11 then 110
  else if op = 21 then 109 else if op = 14 then 112 else if op = 17 then 113 else 114
def loC (c : Int) : Int := if c = 110 then -2048 else 0
def hiC (c : Int) : Int := if c = 110 then 2047 else if c = 114 then 7 else if c = 112 then 127 else if c = 113 then 5 else if c = 109 then 255 else 0
def regB (n : Int) (has : Bool) : Bool := if has then decide (0 ≤ n ∧ n < 8) else decide (n = 0)
def opB (op : Int) : Bool := decide (0 ≤ op ∧ op < 23)
def instOk (i : InstV) : Bool := opB i.op && (regB i.a (shA i.op) && (regB i.b (shB i.op) && decide (loC (shC i.op) ≤ i.c ∧ i.c ≤ hiC (shC i.op))))
def packF (i : InstV) : Int := i.op + i.a * 32 + i.b * 256 + (i.c + 2048) * 2048
def unpack (n : Int) : InstV := ⟨n % 32, n / 32 % 8, n / 256 % 8, n / 2048 - 2048⟩
theorem pack_unpack (n : Int) : packF (unpack n) = n := by unfold packF unpack; simp only; omega
/-- The words of the instructions, and each of them. -/
def wordsL : List UInt8 := [104, 97, 108, 116, 32, 115, 101, 116, 32, 99, 111, 112, 121, 32, 97, 100, 100, 32, 115, 117, 98, 32, 109, 117, 108, 32, 100, 105, 118, 32, 108, 101, 115, 115, 32, 106, 117, 109, 112, 32, 105, 102, 32, 108, 111, 97, 100, 32, 115, 116, 111, 114, 101, 32, 109, 111, 118, 101, 32, 110, 97, 114, 114, 111, 119, 32, 100, 114, 111, 112, 32, 115, 101, 97, 108, 32, 111, 112, 101, 110, 32, 97, 115, 107, 32, 99, 97, 108, 108, 32, 98, 97, 99, 107, 32, 104, 101, 114, 101, 32, 99, 108, 101, 97, 114, 32, 116, 101, 108, 108]
def wordL (op : Nat) : List UInt8 := ([[104, 97, 108, 116], [115, 101, 116], [99, 111, 112, 121], [97, 100, 100], [115, 117, 98], [109, 117, 108], [100, 105, 118], [108, 101, 115, 115], [106, 117, 109, 112], [105, 102], [108, 111, 97, 100], [115, 116, 111, 114, 101], [109, 111, 118, 101], [110, 97, 114, 114, 111, 119], [100, 114, 111, 112], [115, 101, 97, 108], [111, 112, 101, 110], [97, 115, 107], [99, 97, 108, 108], [98, 97, 99, 107], [104, 101, 114, 101], [99, 108, 101, 97, 114], [116, 101, 108, 108]] : List (List UInt8)).getD op []
end Go.Proofs.YtpjhjefjbkjhkaaGreatDoor
