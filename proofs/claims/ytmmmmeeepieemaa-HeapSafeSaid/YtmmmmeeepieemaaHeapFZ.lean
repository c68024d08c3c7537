import Derived.Test.YtmmmmeeepieemaaAllOfZ
import Derived.Test.YtmmmmeeepieemaaBuF
import Derived.Test.YtmmmmeeepieemaaHeapMathZ
/- Heaps behind calls: the plain law; ranged. -/
namespace Go.Proofs.Ytmmmmeeepieemaa
open Go.RowKit
set_option linter.unusedVariables false
set_option linter.unusedSimpArgs false
def gk (x : Int × Int) : KeyV := gkey x.1 x.2
/-- A heap and the keys that are given. -/
structure HInv (base n : Int) (ps : List PieceV) (K : List KeyV) : Prop where
  err : hErr none ps = 0
  len : ps.length ≤ 30
  cov : cov base ps (base + n)
  keys : K.Perm ((gl ps).map gk)
theorem HInv.check {base n : Int} {ps : List PieceV} {K : List KeyV} (h : HInv base n ps K) : heapCheck ps = 0 := heapCheck_zero.2 ⟨h.len, h.err⟩
theorem gl_length (ps : List PieceV) : (gl ps).length ≤ ps.length := by
  unfold gl
  rw [List.length_map]
  exact List.length_filter_le _ _
theorem HInv.many {base n : Int} {ps : List PieceV} {K : List KeyV} (h : HInv base n ps K) : K.length ≤ 30 := by
  have h1 := h.keys.length_eq
  have h2 := gl_length ps
  have h3 := h.len
  rw [List.length_map] at h1
  omega
theorem hinv_new {base n : Int} (h1 : mayB ⟨base, n, 0⟩ = true) : HInv base n [⟨base, n, 0⟩] [] :=
  ⟨hErr_cons.2 ⟨h1, rfl, rfl⟩, by simp, ⟨rfl, rfl⟩, by simp [gl]⟩
theorem hinv_give {base n sz c : Int} {ps m : List PieceV} {K : List KeyV} {k : KeyV} (h : HInv base n ps K) (hg : giveF ps sz = (m, k, c)) (hc : c = 0) : ∃ b, 1 ≤ sz ∧ k = gkey b sz ∧ gv sz ps = some (m, b) ∧ HInv base n m (K ++ [k]) := by
  unfold giveF at hg
  rw [if_neg (by simp [h.check])] at hg
  by_cases hs : sz < 1
  · rw [if_pos hs] at hg
    injection hg with _ hg
    injection hg with _ hg
    omega
  · rw [if_neg hs] at hg
    cases hv : gv sz ps with
    | none =>
      rw [hv] at hg
      injection hg with _ hg
      injection hg with _ hg
      omega
    | some r =>
      obtain ⟨m', b⟩ := r
      rw [hv] at hg
      simp only at hg
      by_cases hm : m'.length = 31
      · rw [if_pos hm] at hg
        injection hg with _ hg
        injection hg with _ hg
        omega
      · rw [if_neg hm] at hg
        injection hg with h1 hg
        injection hg with h2 _
        subst h1 h2
        obtain ⟨i1, i2, i3, i4, _, _⟩ := gv_ok (by omega) h.err h.cov hv
        refine ⟨b, by omega, rfl, rfl, i1, by have := h.len; omega, i2, ?_⟩
        have := (i3.map gk).symm
        rw [List.map_cons] at this
        exact (List.perm_append_comm.trans ((List.Perm.cons _ h.keys))).trans this
theorem hinv_back {base n : Int} {ps : List PieceV} {K : List KeyV} (h : HInv base n ps K) {j : Nat} {k : KeyV} (hj : K[j]? = some k) : ∃ m, backF ps k.base = (m, 0) ∧ HInv base n m (K.take j ++ K.drop (j + 1)) := by
  have hl : j < K.length := (List.getElem?_eq_some_iff.1 hj).1
  have hk : k ∈ (gl ps).map gk := h.keys.subset (List.mem_of_getElem? hj)
  obtain ⟨⟨b, s⟩, hm, rfl⟩ := List.mem_map.1 hk
  obtain ⟨m, e1, e2, e3, e4, e5⟩ := bk_ok h.err h.cov hm
  refine ⟨m, ?_, e2, by have := h.len; omega, e3, ?_⟩
  · unfold backF
    rw [if_neg (by simp [h.check])]
    have e0 : (gk (b, s)).base = b := rfl
    rw [e0, e1]
  · have hs : K = K.take j ++ gk (b, s) :: K.drop (j + 1) := by
      have hg : K[j] = gk (b, s) := (List.getElem?_eq_some_iff.1 hj).2
      rw [← hg, List.getElem_cons_drop, List.take_append_drop]
    have h1 := h.keys
    rw [hs] at h1
    have h2 := (List.perm_middle.symm.trans h1).trans ((e4.map gk).symm)
    rw [List.map_cons] at h2
    exact h2.cons_inv
theorem hinv_clean {base n : Int} {ps : List PieceV} {K : List KeyV} (h : HInv base n ps K) (hb : 0 ≤ base) : cleanF ps = (cleanL ps, 0) ∧ HInv base n (cleanL ps) K := by
  obtain ⟨i1, i2, i3, i4, _⟩ := clean_ok h.err hb h.cov
  refine ⟨by unfold cleanF; rw [if_neg (by simp [h.check])], i1, by have := h.len; omega, i2, by rw [i3]; exact h.keys⟩
theorem ranged_any (b n : Int) (w : World) : Calls Try.prog 26 #[.int .i64 b, .int .i64 n] w fun e w' => e = .returned (.tuple #[.int .i64 (b % 390), .int .i64 (n % (400 - b % 390) + 1)]) ∧ w = w' := by
  have h0 : 0 ≤ b % 390 := by omega
  have h1 : b % 390 < 390 := by omega
  have h2 : 0 ≤ n % (400 - b % 390) := Int.emod_nonneg _ (by omega)
  have h3 : n % (400 - b % 390) < 400 - b % 390 := Int.emod_lt_of_pos _ (by omega)
  go_enter Try.func26, Try.ntmps26
  go_wp2_with (go_at_call 13; refine (rest_any _ _ _ (by omega) (by omega)).mono ?_; rintro e w' ⟨rfl, rfl⟩)
  go_ret2
  exact ⟨rfl, rfl⟩
end Go.Proofs.Ytmmmmeeepieemaa
