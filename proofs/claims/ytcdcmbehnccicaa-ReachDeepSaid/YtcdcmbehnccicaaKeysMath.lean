/- Keys as plain data, and what may be said of them: no program in sight. -/
import Derived.Test.YtcdcmbehnccicaaBits
namespace Go.Proofs.Ytcdcmbehnccicaa
open Go.RowKit
set_option linter.unusedVariables false

/-- A key. -/
@[ext] structure KeyV where
  perm : Int
  base : Int
  len : Int
  at_ : Int
  seal_ : Int
deriving DecidableEq
/-- The key as a value of the machine. -/
def KeyV.val (k : KeyV) : Value := .agg #[.int .i64 k.perm, .int .i64 k.base, .int .i64 k.len, .int .i64 k.at_, .int .i64 k.seal_]
def I64 (n : Int) : Prop := -9223372036854775808 ≤ n ∧ n ≤ 9223372036854775807
structure KeyV.wf (k : KeyV) : Prop where
  perm : I64 k.perm
  base : I64 k.base
  len : I64 k.len
  at_ : I64 k.at_
  seal_ : I64 k.seal_
/-- Is a number from low to high? -/
def inB (n lo hi : Int) : Bool := decide (lo ≤ n ∧ n ≤ hi)
theorem inB_iff {n lo hi : Int} : inB n lo hi = true ↔ lo ≤ n ∧ n ≤ hi := by unfold inB; simp
theorem inB_no {n lo hi : Int} : inB n lo hi = false ↔ ¬ (lo ≤ n ∧ n ≤ hi) := by unfold inB; simp
/-- May a key be? -/
def okB (k : KeyV) : Bool := inB k.perm 0 127 && (inB k.base 0 400 && inB k.len 0 (400 - k.base)) && inB k.at_ 0 400 && inB k.seal_ 0 63
structure KeyV.Ok (k : KeyV) : Prop where
  p0 : 0 ≤ k.perm
  p1 : k.perm ≤ 127
  b0 : 0 ≤ k.base
  b1 : k.base ≤ 400
  l0 : 0 ≤ k.len
  l1 : k.base + k.len ≤ 400
  a0 : 0 ≤ k.at_
  a1 : k.at_ ≤ 400
  s0 : 0 ≤ k.seal_
  s1 : k.seal_ ≤ 63
theorem okB_iff (k : KeyV) : okB k = true ↔ k.Ok := by
  unfold okB
  simp only [Bool.and_eq_true, inB_iff]
  constructor
  · rintro ⟨⟨⟨⟨_, _⟩, ⟨_, _⟩, _, _⟩, _, _⟩, _, _⟩
    constructor <;> omega
  · rintro ⟨_, _, _, _, _, _, _, _, _, _⟩
    refine ⟨⟨⟨⟨?_, ?_⟩, ⟨?_, ?_⟩, ?_, ?_⟩, ?_, ?_⟩, ?_, ?_⟩ <;> omega
/-- Is it one of the cells of a key? -/
def covB (b l n : Int) : Bool := decide (b ≤ n ∧ n - b < max l 0)
theorem covB_iff {b l n : Int} : covB b l n = true ↔ b ≤ n ∧ n < b + l := by
  unfold covB; simp; omega
theorem covB_no {b l n : Int} : covB b l n = false ↔ ¬ (b ≤ n ∧ n < b + l) := by
  rw [← covB_iff]; simp
/-- Is a key no more than another one? -/
def underB (a b : KeyV) : Bool :=
  (decide (a.len ≤ 0) || covB b.base b.len a.base && covB b.base b.len (wrap64 (wrap64 (a.base + a.len) - 1))) && withinB a.perm b.perm && (a.seal_ == b.seal_ || b.seal_ == 0)
def zeroK : KeyV := ⟨0, 0, 0, 0, 0⟩
/-- What is wrong with a key. -/
def keyCheck (k : KeyV) : Int := if okB k then 0 else 1
def plainF (k : KeyV) : Int := if okB k then (if k.seal_ = 0 then 0 else 11) else 1
def moveF (k : KeyV) (n : Int) : KeyV × Int :=
  if plainF k = 0 then (if inB n (-k.at_) (400 - k.at_) then ({ k with at_ := k.at_ + n }, 0) else (zeroK, 13)) else (zeroK, plainF k)
def narrowF (k : KeyV) (n : Int) : KeyV × Int :=
  if plainF k = 0 then (if k.base ≤ k.at_ ∧ inB n 0 (k.base + k.len - k.at_) = true then (⟨k.perm, k.at_, n, k.at_, k.seal_⟩, 0) else (zeroK, 13)) else (zeroK, plainF k)
def dropF (k : KeyV) (p : Int) : KeyV × Int := if plainF k = 0 then ({ k with perm := andI k.perm p }, 0) else (zeroK, plainF k)
def mayF (k : KeyV) (p : Int) : Int := if k.seal_ = 0 then (if andI k.perm p = 0 then 12 else if covB k.base k.len k.at_ then 0 else 13) else 11
def bothF (k c : KeyV) : Int := if okB k then keyCheck c else 1
def sealF (k c : KeyV) : KeyV × Int :=
  if bothF k c = 0 then (if plainF k = 0 then (if mayF c 32 = 0 then (if inB c.at_ 1 63 then ({ k with seal_ := c.at_ }, 0) else (zeroK, 13)) else (zeroK, mayF c 32)) else (zeroK, plainF k)) else (zeroK, bothF k c)
def openF (k c : KeyV) : KeyV × Int :=
  if bothF k c = 0 then (if k.seal_ = 0 then (zeroK, 11) else if mayF c 64 = 0 then (if k.seal_ = c.at_ then ({ k with seal_ := 0 }, 0) else (zeroK, 11)) else (zeroK, mayF c 64)) else (zeroK, bothF k c)
theorem plainF_zero (k : KeyV) : plainF k = 0 ↔ k.Ok ∧ k.seal_ = 0 := by
  rw [← okB_iff]; unfold plainF
  cases okB k
  · simp
  · by_cases h : k.seal_ = 0 <;> simp [h]
theorem keyCheck_zero (k : KeyV) : keyCheck k = 0 ↔ k.Ok := by
  rw [← okB_iff]; unfold keyCheck
  cases okB k <;> simp
/-- A key and what went wrong, as a result. -/
def KeyV.res (r : KeyV × Int) : Value := .tuple #[.agg #[.int .i64 r.1.perm, .int .i64 r.1.base, .int .i64 r.1.len, .int .i64 r.1.at_, .int .i64 r.1.seal_], .int .i64 r.2]
theorem KeyV.Ok.wf {k : KeyV} (h : k.Ok) : k.wf := by
  obtain ⟨_, _, _, _, _, _, _, _, _, _⟩ := h
  constructor <;> constructor <;> omega
theorem zeroK_ok : zeroK.Ok := by constructor <;> simp [zeroK]
theorem narrowF_cases (k : KeyV) (n : Int) : (∃ c, narrowF k n = (zeroK, c) ∧ c ≠ 0) ∨
    (narrowF k n = (⟨k.perm, k.at_, n, k.at_, 0⟩, 0) ∧ k.Ok ∧ k.seal_ = 0 ∧ k.base ≤ k.at_ ∧ 0 ≤ n ∧ n ≤ k.base + k.len - k.at_) := by
  by_cases hp : plainF k = 0
  · obtain ⟨hok, hs⟩ := (plainF_zero k).1 hp
    by_cases hc : k.base ≤ k.at_ ∧ inB n 0 (k.base + k.len - k.at_) = true
    · have := inB_iff.1 hc.2
      right
      refine ⟨?_, hok, hs, hc.1, this.1, this.2⟩
      unfold narrowF
      rw [if_pos hp, if_pos hc, hs]
    · left
      refine ⟨13, ?_, by decide⟩
      unfold narrowF
      rw [if_pos hp, if_neg hc]
  · left
    refine ⟨plainF k, ?_, hp⟩
    unfold narrowF
    rw [if_neg hp]
theorem narrowF_ok {k : KeyV} {n : Int} (h : k.Ok) (hs : k.seal_ = 0) (h1 : k.base ≤ k.at_) (h2 : 0 ≤ n) (h3 : n ≤ k.base + k.len - k.at_) : narrowF k n = (⟨k.perm, k.at_, n, k.at_, 0⟩, 0) := by
  unfold narrowF
  rw [if_pos ((plainF_zero k).2 ⟨h, hs⟩), if_pos ⟨h1, inB_iff.2 ⟨h2, h3⟩⟩, hs]
theorem narrowF_out {k : KeyV} {n : Int} (h : k.Ok) (hs : k.seal_ = 0) (h3 : k.base + k.len - k.at_ < n) : narrowF k n = (zeroK, 13) := by
  unfold narrowF
  rw [if_pos ((plainF_zero k).2 ⟨h, hs⟩), if_neg]
  rintro ⟨_, h4⟩
  have := inB_iff.1 h4
  omega
/-- To be no more than another one, of keys that may be. -/
def underP (a b : KeyV) : Prop := (a.len = 0 ∨ (b.base ≤ a.base ∧ a.base + a.len ≤ b.base + b.len)) ∧ withinB a.perm b.perm = true ∧ (a.seal_ = b.seal_ ∨ b.seal_ = 0)
theorem underB_iff {a b : KeyV} (ha : a.Ok) (hb : b.Ok) : underB a b = true ↔ underP a b := by
  obtain ⟨_, _, b0, b1, l0, l1, _, _, _, _⟩ := ha
  obtain ⟨_, _, _, _, _, _, _, _, _, _⟩ := hb
  have e1 : wrap64 (a.base + a.len) = a.base + a.len := w64_of (by omega) (by omega)
  have e2 : wrap64 (a.base + a.len - 1) = a.base + a.len - 1 := w64_of (by omega) (by omega)
  unfold underB underP
  rw [e1, e2]
  simp only [Bool.and_eq_true, Bool.or_eq_true, decide_eq_true_iff, covB_iff, beq_iff_eq]
  constructor
  · rintro ⟨⟨h1, h2⟩, h3⟩
    exact ⟨by omega, h2, h3⟩
  · rintro ⟨h1, h2, h3⟩
    exact ⟨⟨by omega, h2⟩, h3⟩
theorem underB_refl {a : KeyV} (ha : a.Ok) : underB a a = true :=
  (underB_iff ha ha).2 ⟨.inr ⟨Int.le_refl _, Int.le_refl _⟩, withinB_refl _, .inl rfl⟩
theorem underB_trans {a b c : KeyV} (ha : a.Ok) (hb : b.Ok) (hc : c.Ok) (h : underB a b = true) (k : underB b c = true) : underB a c = true := by
  obtain ⟨h1, h2, h3⟩ := (underB_iff ha hb).1 h
  obtain ⟨k1, k2, k3⟩ := (underB_iff hb hc).1 k
  have := ha.l0
  refine (underB_iff ha hc).2 ⟨by omega, withinB_trans h2 k2, by omega⟩
/-- Are two keys for the same cells, and do they allow the same? -/
def sameB (a b : KeyV) : Bool := (a.len == b.len && (a.len == 0 || a.base == b.base)) && a.perm == b.perm && a.seal_ == b.seal_
theorem underB_anti {a b : KeyV} (ha : a.Ok) (hb : b.Ok) : (underB a b && underB b a) = sameB a b := by
  refine bool_ext ?_
  rw [Bool.and_eq_true, underB_iff ha hb, underB_iff hb ha]
  have wa := ha.wf.perm
  have wb := hb.wf.perm
  obtain ⟨_, _, _, _, _, _, _, _, _, _⟩ := ha
  obtain ⟨_, _, _, _, _, _, _, _, _, _⟩ := hb
  unfold sameB underP
  simp only [Bool.and_eq_true, Bool.or_eq_true, beq_iff_eq]
  constructor
  · rintro ⟨⟨h1, h2, h3⟩, k1, k2, k3⟩
    exact ⟨⟨by omega, withinB_anti wa wb h2 k2⟩, by omega⟩
  · rintro ⟨⟨h1, h2⟩, h3⟩
    rw [h2]
    exact ⟨⟨by omega, withinB_refl _, by omega⟩, by omega, withinB_refl _, by omega⟩
theorem moveF_cases (k : KeyV) (n : Int) : (∃ c, moveF k n = (zeroK, c) ∧ c ≠ 0) ∨
    (moveF k n = (⟨k.perm, k.base, k.len, k.at_ + n, 0⟩, 0) ∧ k.Ok ∧ k.seal_ = 0 ∧ -k.at_ ≤ n ∧ n ≤ 400 - k.at_) := by
  by_cases hp : plainF k = 0
  · obtain ⟨hok, hs⟩ := (plainF_zero k).1 hp
    by_cases hc : inB n (-k.at_) (400 - k.at_) = true
    · have := inB_iff.1 hc
      right
      refine ⟨?_, hok, hs, this.1, this.2⟩
      unfold moveF
      rw [if_pos hp, if_pos hc, hs]
    · left
      refine ⟨13, ?_, by decide⟩
      unfold moveF
      rw [if_pos hp, if_neg hc]
  · left
    refine ⟨plainF k, ?_, hp⟩
    unfold moveF
    rw [if_neg hp]
theorem moveF_ok {k : KeyV} {n : Int} (h : k.Ok) (hs : k.seal_ = 0) (h2 : -k.at_ ≤ n) (h3 : n ≤ 400 - k.at_) : moveF k n = (⟨k.perm, k.base, k.len, k.at_ + n, 0⟩, 0) := by
  unfold moveF
  rw [if_pos ((plainF_zero k).2 ⟨h, hs⟩), if_pos (inB_iff.2 ⟨h2, h3⟩), hs]
theorem moveF_out {k : KeyV} {n : Int} (h : k.Ok) (hs : k.seal_ = 0) (h3 : ¬ (-k.at_ ≤ n ∧ n ≤ 400 - k.at_)) : moveF k n = (zeroK, 13) := by
  unfold moveF
  rw [if_pos ((plainF_zero k).2 ⟨h, hs⟩), if_neg (fun h4 => h3 (inB_iff.1 h4))]
theorem dropF_cases (k : KeyV) (n : Int) : (∃ c, dropF k n = (zeroK, c) ∧ c ≠ 0) ∨ (dropF k n = (⟨andI k.perm n, k.base, k.len, k.at_, 0⟩, 0) ∧ k.Ok ∧ k.seal_ = 0) := by
  by_cases hp : plainF k = 0
  · obtain ⟨hok, hs⟩ := (plainF_zero k).1 hp
    right
    refine ⟨?_, hok, hs⟩
    unfold dropF
    rw [if_pos hp, hs]
  · left
    refine ⟨plainF k, ?_, hp⟩
    unfold dropF
    rw [if_neg hp]
theorem dropF_ok {k : KeyV} {n : Int} (h : k.Ok) (hs : k.seal_ = 0) : dropF k n = (⟨andI k.perm n, k.base, k.len, k.at_, 0⟩, 0) := by
  unfold dropF
  rw [if_pos ((plainF_zero k).2 ⟨h, hs⟩), hs]
theorem andI_le {a : Int} (h0 : 0 ≤ a) (h1 : a ≤ 127) (b : Int) : 0 ≤ andI a b ∧ andI a b ≤ 127 := by
  obtain ⟨n, rfl⟩ := Int.eq_ofNat_of_zero_le h0
  have e : (bv (n : Int)).toNat = n := by
    unfold bv
    rw [BitVec.ofInt_natCast, BitVec.toNat_ofNat]
    omega
  have h2 : (bv (n : Int) &&& bv b).toNat ≤ n := by
    rw [BitVec.toNat_and, e]
    exact Nat.and_le_left
  unfold andI
  rw [BitVec.toInt_eq_toNat_cond]
  split <;> omega
theorem andI_assoc (a b c : Int) : andI (andI a b) c = andI a (andI b c) := by
  unfold andI
  rw [bv_toInt, bv_toInt, BitVec.and_assoc]
theorem andI_comm (a b : Int) : andI a b = andI b a := by unfold andI; rw [BitVec.and_comm]
theorem andI_range (a b : Int) : I64 (andI a b) := toInt_range _
theorem orI_le {a b : Int} (h0 : 0 ≤ a) (h1 : a ≤ 127) (g0 : 0 ≤ b) (g1 : b ≤ 127) : 0 ≤ orI a b ∧ orI a b ≤ 127 := by
  obtain ⟨n, rfl⟩ := Int.eq_ofNat_of_zero_le h0
  obtain ⟨m, rfl⟩ := Int.eq_ofNat_of_zero_le g0
  have e : (bv (n : Int)).toNat = n := by
    unfold bv
    rw [BitVec.ofInt_natCast, BitVec.toNat_ofNat]
    omega
  have e' : (bv (m : Int)).toNat = m := by
    unfold bv
    rw [BitVec.ofInt_natCast, BitVec.toNat_ofNat]
    omega
  have h2 : (bv (n : Int) ||| bv (m : Int)).toNat < 2 ^ 7 := by
    rw [BitVec.toNat_or, e, e']
    exact Nat.or_lt_two_pow (by omega) (by omega)
  unfold orI
  rw [BitVec.toInt_eq_toNat_cond]
  split <;> omega
theorem andI_orI (a b : Int) : andI (orI a b) b = andI b b := by
  unfold andI orI
  rw [bv_toInt]
  congr 1
  apply BitVec.eq_of_getLsbD_eq
  intro i _
  simp
  intro h
  exact .inr h
theorem mayF_zero (k : KeyV) (p : Int) : mayF k p = 0 ↔ k.seal_ = 0 ∧ andI k.perm p ≠ 0 ∧ covB k.base k.len k.at_ = true := by
  unfold mayF
  by_cases h1 : k.seal_ = 0
  · by_cases h2 : andI k.perm p = 0
    · simp [h1, h2]
    · cases h3 : covB k.base k.len k.at_ <;> simp [h1, h2]
  · simp [h1]
theorem bothF_zero (k c : KeyV) : bothF k c = 0 ↔ k.Ok ∧ c.Ok := by
  unfold bothF
  cases h : okB k
  · have : ¬ k.Ok := fun h' => by rw [(okB_iff k).2 h'] at h; cases h
    simp [this]
  · have := (okB_iff k).1 h
    simp [this, keyCheck_zero]
theorem sealF_cases (k c : KeyV) : (∃ e, sealF k c = (zeroK, e) ∧ e ≠ 0) ∨
    (sealF k c = (⟨k.perm, k.base, k.len, k.at_, c.at_⟩, 0) ∧ k.Ok ∧ c.Ok ∧ k.seal_ = 0 ∧ c.seal_ = 0 ∧ andI c.perm 32 ≠ 0 ∧ covB c.base c.len c.at_ = true ∧ 1 ≤ c.at_ ∧ c.at_ ≤ 63) := by
  by_cases hb : bothF k c = 0
  · obtain ⟨ok, oc⟩ := (bothF_zero k c).1 hb
    by_cases hp : plainF k = 0
    · by_cases hm : mayF c 32 = 0
      · obtain ⟨m1, m2, m3⟩ := (mayF_zero c 32).1 hm
        cases hi : inB c.at_ 1 63
        · exact .inl ⟨13, by simp [sealF, hb, hp, hm, hi], by decide⟩
        · obtain ⟨i1, i2⟩ := inB_iff.1 hi
          exact .inr ⟨by simp [sealF, hb, hp, hm, hi], ok, oc, ((plainF_zero k).1 hp).2, m1, m2, m3, i1, i2⟩
      · exact .inl ⟨_, by simp only [sealF, hb, hp, hm, if_true, if_false], hm⟩
    · exact .inl ⟨_, by simp only [sealF, hb, hp, if_true, if_false], hp⟩
  · exact .inl ⟨_, by simp only [sealF, hb, if_false], hb⟩
theorem openF_cases (k c : KeyV) : (∃ e, openF k c = (zeroK, e) ∧ e ≠ 0) ∨
    (openF k c = (⟨k.perm, k.base, k.len, k.at_, 0⟩, 0) ∧ k.Ok ∧ c.Ok ∧ k.seal_ ≠ 0 ∧ k.seal_ = c.at_ ∧ c.seal_ = 0 ∧ andI c.perm 64 ≠ 0 ∧ covB c.base c.len c.at_ = true) := by
  by_cases hb : bothF k c = 0
  · obtain ⟨ok, oc⟩ := (bothF_zero k c).1 hb
    by_cases hs : k.seal_ = 0
    · exact .inl ⟨11, by simp only [openF, hb, if_true]; rw [if_pos hs], by decide⟩
    · by_cases hm : mayF c 64 = 0
      · obtain ⟨m1, m2, m3⟩ := (mayF_zero c 64).1 hm
        by_cases ht : k.seal_ = c.at_
        · exact .inr ⟨by simp only [openF, hb, hs, hm, if_true, if_false]; rw [if_pos ht], ok, oc, hs, ht, m1, m2, m3⟩
        · exact .inl ⟨11, by simp only [openF, hb, hs, hm, if_true, if_false]; rw [if_neg ht], by decide⟩
      · exact .inl ⟨_, by simp only [openF, hb, hs, hm, if_true, if_false], hm⟩
  · exact .inl ⟨_, by simp only [openF, hb, if_false], hb⟩
theorem openF_ok {k c : KeyV} (ok : k.Ok) (oc : c.Ok) (hs : k.seal_ ≠ 0) (ht : k.seal_ = c.at_) (h1 : c.seal_ = 0) (h2 : andI c.perm 64 ≠ 0) (h3 : covB c.base c.len c.at_ = true) :
    openF k c = (⟨k.perm, k.base, k.len, k.at_, 0⟩, 0) := by
  have hb := (bothF_zero k c).2 ⟨ok, oc⟩
  have hm := (mayF_zero c 64).2 ⟨h1, h2, h3⟩
  simp only [openF, hb, hs, hm, if_true, if_false]
  rw [if_pos ht]
end Go.Proofs.Ytcdcmbehnccicaa
