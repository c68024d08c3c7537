/- What the laws of memory say of the plain functions: no program in sight. -/
import Derived.Test.YtlbhnkbchiklnaaMemMath
namespace Go.Proofs.Ytlbhnkbchiklnaa
open Go.RowKit
set_option linter.unusedVariables false
theorem andI_zero_le {a b c : Int} (h : andI b c = 0) : andI (andI a b) c = 0 := by rw [andI_assoc, h]; unfold andI; simp [bv]
theorem andI_pos {a b : Int} (h0 : 0 ≤ a) (h1 : a ≤ 127) (h : andI a b ≠ 0) : 0 < andI a b := by have := andI_le h0 h1 b; omega
theorem andNotI_and {p q : Int} (r : Int) (h : bv q &&& bv r = bv r) : andI (andNotI p q) r = 0 := by
  unfold andI andNotI
  rw [toInt_zero, bv_toInt, BitVec.and_assoc]
  have e : ~~~ bv q &&& bv r = 0#64 := by
    apply BitVec.eq_of_getLsbD_eq
    intro i hi
    have := congrArg (fun x => BitVec.getLsbD x i) h
    simp at this
    simp [hi]
    intro h2
    cases h3 : (bv r)[i]
    · rfl
    · have h4 : (bv r).getLsbD i = true := by rw [BitVec.getLsbD_eq_getElem hi]; exact h3
      have h5 := this h4
      rw [BitVec.getLsbD_eq_getElem hi, h2] at h5; cases h5
  rw [e]
  simp
theorem andNotI_range (a b : Int) : I64 (andNotI a b) := toInt_range _
theorem loadF_zero {m : List ValV} {k : KeyV} {off : Int} (h : (loadF m k off).2 ≠ 0) : (loadF m k off).1 = zeroV := by
  unfold loadF at h ⊢
  by_cases hc : memCheck m = 0
  · rw [if_neg (by simp [hc])] at h ⊢
    by_cases ha : (atF m.length k off 1).2 = 0
    · rw [getF_ok ha (Int.toNat_of_nonneg (atF_val ha).2.1).symm] at h
      split at h <;> simp at h
    · rw [getF_err ha]
  · rw [if_pos hc]
theorem loadF_ok {m : List ValV} {k : KeyV} {off : Int} (h : (loadF m k off).2 = 0) : memCheck m = 0 ∧ (atF m.length k off 1).2 = 0 ∧
    (loadF m k off).1 = if (m.getD (k.at_ + off).toNat zeroV).is = true ∧ andI k.perm 8 = 0 then zeroV else m.getD (k.at_ + off).toNat zeroV := by
  unfold loadF at h ⊢
  by_cases hc : memCheck m = 0
  · rw [if_neg (by simp [hc])] at h ⊢
    by_cases ha : (atF m.length k off 1).2 = 0
    · refine ⟨hc, ha, ?_⟩
      rw [getF_ok ha (Int.toNat_of_nonneg (atF_val ha).2.1).symm]
      split <;> rfl
    · rw [getF_err ha] at h; exact absurd h ha
  · rw [if_pos hc] at h; exact absurd h hc
theorem loadF_of {m : List ValV} {k : KeyV} {off : Int} (h1 : memCheck m = 0) (h2 : (atF m.length k off 1).2 = 0) : (loadF m k off).2 = 0 := by
  unfold loadF
  rw [if_neg (by simp [h1]), getF_ok h2 (Int.toNat_of_nonneg (atF_val h2).2.1).symm]
  split <;> rfl
theorem loadF_untake {m : List ValV} {k : KeyV} {off : Int} (h8 : andI k.perm 8 = 0) (h : (loadF m k off).2 = 0) : (loadF m k off).1.is = false := by
  obtain ⟨_, _, e⟩ := loadF_ok h
  rw [e]
  cases hx : (m.getD (k.at_ + off).toNat zeroV).is
  · rw [if_neg (by simp)]; exact hx
  · rw [if_pos ⟨rfl, h8⟩]; rfl
theorem storeE_ok {m : List ValV} {k : KeyV} {off : Int} {v : ValV} : storeE m k off v = 0 ↔ memCheck m = 0 ∧ valCheck v = 0 ∧ (atF m.length k off 2).2 = 0 ∧ ¬ (v.is = true ∧ andI k.perm 16 = 0) := by
  unfold storeE
  by_cases hc : memCheck m = 0
  · rw [if_neg (by simp [hc])]
    by_cases hv : valCheck v = 0
    · rw [if_neg (by simp [hv])]
      by_cases ha : (atF m.length k off 2).2 = 0
      · rw [putE_ok ha]
        split
        · rename_i h
          simp [h]
        · rename_i h
          simp only [true_iff]
          exact ⟨hc, hv, ha, h⟩
      · rw [putE_err ha]; simp [ha]
    · rw [if_pos hv]; simp [hv]
  · rw [if_pos hc]; simp [hc]
theorem storeE_unput {m : List ValV} {k : KeyV} {off : Int} {v : ValV} (h16 : andI k.perm 16 = 0) (h : storeE m k off v = 0) : v.is = false := by
  obtain ⟨_, _, _, h4⟩ := storeE_ok.1 h
  cases hv : v.is
  · rfl
  · exact absurd ⟨hv, h16⟩ h4
theorem storeM_length (m : List ValV) (k : KeyV) (off : Int) (v : ValV) : (storeM m k off v).length = m.length := by unfold storeM; simp
/-- A key that grants no more loads no more. -/
theorem narrow_law {m : List ValV} {p b l a n q off : Int} (hk : (⟨p, b, l, a, 0⟩ : KeyV).Ok) (h1 : b ≤ a) (h2 : 0 ≤ n) (h3 : a + n ≤ b + l) (h : (loadF m ⟨andI p q, a, n, a, 0⟩ off).2 = 0) :
    (loadF m ⟨p, b, l, a, 0⟩ off).2 = 0 ∧ ((loadF m ⟨andI p q, a, n, a, 0⟩ off).1 = (loadF m ⟨p, b, l, a, 0⟩ off).1 ∨ ((loadF m ⟨p, b, l, a, 0⟩ off).1.is = true ∧ (loadF m ⟨andI p q, a, n, a, 0⟩ off).1 = zeroV)) := by
  obtain ⟨c1, c2, c3⟩ := loadF_ok h
  obtain ⟨d1, d2, d3, d4, d5, d6, d7⟩ := atF_ok.1 c2
  simp only at d3 d6 d7
  have e6 := covB_iff.1 d6
  have c2' : (atF m.length ⟨p, b, l, a, 0⟩ off 1).2 = 0 := by
    refine atF_ok.2 ⟨hk, rfl, ?_, d4, d5, covB_iff.2 ?_, d7⟩
    · intro h0
      simp only at h0
      apply d3
      rw [andI_assoc, andI_comm q, ← andI_assoc, h0]
      unfold andI; simp [bv]
    · simp only; omega
  have h' := loadF_of (m := m) c1 c2'
  obtain ⟨_, _, f3⟩ := loadF_ok h'
  refine ⟨h', ?_⟩
  have t8 : andI p 8 = 0 → andI (andI p q) 8 = 0 := fun h8 => by
    rw [andI_assoc, andI_comm q, ← andI_assoc, h8]
    unfold andI; simp [bv]
  simp only at c3 f3
  rw [c3, f3]
  generalize m.getD (a + off).toNat zeroV = x
  by_cases hx : x.is = true
  · by_cases h8 : andI p 8 = 0
    · left; simp [h8, t8 h8]
    · by_cases h8' : andI (andI p q) 8 = 0
      · right; simp [h8, h8', hx]
      · left; simp [h8, h8']
  · left; simp [hx]
theorem orI_and {p q : Int} (r : Int) (h : bv q &&& bv r = bv r) : andI (orI p q) r = (bv r).toInt := by
  unfold andI orI
  rw [bv_toInt]
  congr 1
  apply BitVec.eq_of_getLsbD_eq
  intro i hi
  have := congrArg (fun x => BitVec.getLsbD x i) h
  simp only [BitVec.getLsbD_and, BitVec.getLsbD_or] at this ⊢
  cases h1 : (bv p).getLsbD i <;> cases h2 : (bv q).getLsbD i <;> cases h3 : (bv r).getLsbD i <;> simp_all
theorem orI_range (a b : Int) : I64 (orI a b) := toInt_range _
theorem memCheck_set {m : List ValV} (h : memCheck m = 0) {v : ValV} (hv : valCheck v = 0) (i : Nat) : memCheck (m.set i v) = 0 := by
  obtain ⟨h1, h2⟩ := (memCheck_zero m).1 h
  refine (memCheck_zero _).2 ⟨by rw [List.length_set]; exact h1, fun x hx => ?_⟩
  rcases List.mem_or_eq_of_mem_set hx with hx | rfl
  · exact h2 x hx
  · exact (valCheck_zero _).1 hv
/-- What was stored is loaded. -/
theorem last_law {m : List ValV} {p b l a s off : Int} {v : ValV} (h : storeE m ⟨p, b, l, a, s⟩ off v = 0) : loadF (storeM m ⟨p, b, l, a, s⟩ off v) ⟨orI p 9, b, l, a, s⟩ off = (v, 0) := by
  obtain ⟨h1, h2, h3, h4⟩ := storeE_ok.1 h
  obtain ⟨d1, d2, d3, d4, d5, d6, d7⟩ := atF_ok.1 h3
  obtain ⟨e1, e2, e3⟩ := atF_val h3
  have hp := orI_le d1.p0 d1.p1 (b := 9) (by decide) (by decide)
  have hc : (atF (storeM m ⟨p, b, l, a, s⟩ off v).length ⟨orI p 9, b, l, a, s⟩ off 1).2 = 0 := by
    rw [storeM_length]
    refine atF_ok.2 ⟨⟨hp.1, hp.2, d1.b0, d1.b1, d1.l0, d1.l1, d1.a0, d1.a1, d1.s0, d1.s1⟩, d2, ?_, d4, d5, d6, d7⟩
    simp only
    rw [orI_and 1 (by decide)]
    decide
  have h0 := loadF_of (m := storeM m ⟨p, b, l, a, s⟩ off v) (memCheck_set h1 h2 _) hc
  refine Prod.ext ?_ h0
  rw [(loadF_ok h0).2.2]
  simp only at e2 e3 ⊢
  have hg : (storeM m ⟨p, b, l, a, s⟩ off v).getD (a + off).toNat zeroV = v := by
    unfold storeM
    simp only
    have : (a + off).toNat < m.length := by omega
    simp [List.getD, this]
  rw [hg, if_neg]
  rintro ⟨-, h8⟩
  rw [orI_and 8 (by decide)] at h8
  revert h8
  decide
end Go.Proofs.Ytlbhnkbchiklnaa
