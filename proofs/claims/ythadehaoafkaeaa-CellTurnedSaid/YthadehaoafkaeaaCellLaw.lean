/- What Read tells, in plain terms, and the laws of packing: read back, one text, one byte turned. -/
import Derived.Test.YthadehaoafkaeaaCellRead
namespace Go.Proofs.Ythadehaoafkaeaa
open Go.RowKit
set_option linter.unusedVariables false

def tellV (l : List UInt8) : ValV :=
  match l with
  | [c0, c1, c2, c3, c4, c5, c6, c7, c8, _] => if c0 = 1 then ⟨true, 0, ⟨c1.toNat, getN [c3, c4], getN [c5, c6], getN [c7, c8], c2.toNat⟩⟩ else ⟨false, (getN [c1, c2, c3, c4] : Int) + -2147483648, zeroK⟩
  | _ => zeroV
/-- What Read answers. -/
def readR (s : ByteArray) : ValV × Int :=
  if s.size < 10 then (zeroV, 4) else if 10 < s.size then (zeroV, 5) else if sumB (s.data.toList.take 9) ≠ (s.data.toList.getD 9 0).toNat then (zeroV, 6) else readF s (tellV s.data.toList)
theorem ten_bytes (s : ByteArray) (h : s.size = 10) : ∃ c0 c1 c2 c3 c4 c5 c6 c7 c8 c9 : UInt8, s = ⟨⟨[c0, c1, c2, c3, c4, c5, c6, c7, c8, c9]⟩⟩ := by
  obtain ⟨⟨l⟩⟩ := s
  have hl : l.length = 10 := h
  match l, hl with
  | [c0, c1, c2, c3, c4, c5, c6, c7, c8, c9], _ => exact ⟨c0, c1, c2, c3, c4, c5, c6, c7, c8, c9, rfl⟩
theorem getN4 (a b c d : UInt8) : getN [a, b, c, d] = ((a.toNat * 256 + b.toNat) * 256 + c.toNat) * 256 + d.toNat := by simp [getN]
theorem getN2 (a b : UInt8) : getN [a, b] = a.toNat * 256 + b.toNat := by simp [getN]
theorem getN_be2 {n : Int} (h0 : 0 ≤ n) (h1 : n < 65536) : (getN (be2 n) : Int) = n := by
  rw [be2, getN2]
  have := bN_nat (n / 256)
  have := bN_nat n
  omega
theorem getN_be4 {n : Int} (h0 : 0 ≤ n) (h1 : n < 4294967296) : (getN (be4 n) : Int) = n := by
  rw [be4, getN4]
  have := bN_nat (n / 16777216)
  have := bN_nat (n / 65536)
  have := bN_nat (n / 256)
  have := bN_nat n
  omega
theorem tell_pack {v : ValV} (h : v.Ok) : tellV (packS v).data.toList = v := by
  obtain ⟨is, n, p, b, l, a, s⟩ := v
  rcases h with ⟨h1, h2, h3⟩ | ⟨h1, h2, h3, h4⟩
  · simp only at h1 h3
    subst h1 h3
    obtain ⟨p0, p1, b0, b1, l0, l1, a0, a1, s0, s1⟩ := h2
    simp only at p0 p1 b0 b1 l0 l1 a0 a1 s0 s1
    have e : tellV (packS ⟨true, 0, ⟨p, b, l, a, s⟩⟩).data.toList = ⟨true, 0, ⟨(bN p).toNat, getN (be2 b), getN (be2 l), getN (be2 a), (bN s).toNat⟩⟩ := rfl
    rw [e, getN_be2 b0 (by omega), getN_be2 l0 (by omega), getN_be2 a0 (by omega), bN_id p0 (by omega), bN_id s0 (by omega)]
  · simp only [zeroK_eq] at h1 h4 h2 h3
    obtain ⟨rfl, rfl, rfl, rfl, rfl⟩ := h4
    subst h1
    have e : tellV (packS ⟨false, n, ⟨0, 0, 0, 0, 0⟩⟩).data.toList = ⟨false, (getN (be4 (n + 2147483648)) : Int) + -2147483648, zeroK⟩ := rfl
    rw [e, getN_be4 (by omega) (by omega), ValV.mk.injEq]
    exact ⟨rfl, by omega, rfl⟩
theorem pack_inj {v w : ValV} (hv : v.Ok) (hw : w.Ok) : packS v = packS w ↔ v = w := by
  refine ⟨fun h => ?_, fun h => by rw [h]⟩
  rw [← tell_pack hv, ← tell_pack hw, h]
theorem pack_last (v : ValV) : (packS v).data.toList = bodyL v ++ [UInt8.ofNat (sumB (bodyL v))] := rfl
theorem take9 {l : List UInt8} {c : UInt8} (h : l.length = 9) : (l ++ [c]).take 9 = l := by rw [List.take_append_of_le_length (by omega), List.take_of_length_le (by omega)]
theorem get9 {l : List UInt8} {c : UInt8} (h : l.length = 9) : (l ++ [c]).getD 9 0 = c := by simp [← h]
theorem sum_byte (l : List UInt8) : (UInt8.ofNat (sumB l)).toNat = sumB l := by
  have := sumB_lt l
  simp; omega
theorem read_pack {v : ValV} (h : v.Ok) : readR (packS v) = (v, 0) := by
  unfold readR
  rw [packS_size, if_neg (by omega), if_neg (by omega), tell_pack h]
  rw [pack_last, take9 (bodyL_len v), get9 (bodyL_len v), sum_byte]
  simp [readF, (valCheck_zero v).2 h]
theorem read_zero {s : ByteArray} (h : (readR s).2 = 0) : (readR s).1.Ok ∧ packS (readR s).1 = s := by
  unfold readR at h ⊢
  split at h
  · simp at h
  · rename_i h1
    rw [if_neg h1]
    split at h
    · simp at h
    · rename_i h2
      rw [if_neg h2]
      split at h
      · simp at h
      · rename_i h3
        rw [if_neg h3]
        unfold readF at h ⊢
        split at h
        · rename_i h4
          rw [if_pos h4]
          exact ⟨(valCheck_zero _).1 h4.1, h4.2⟩
        · simp at h
theorem read_none {s : ByteArray} (h : (readR s).2 ≠ 0) : (readR s).1 = zeroV := by
  unfold readR at h ⊢
  split
  · rfl
  · split
    · rfl
    · split
      · rfl
      · unfold readF at h ⊢
        split
        · rename_i h1 h2 h3 h4
          rw [if_neg h1, if_neg h2, if_neg h3, if_pos h4] at h
          simp at h
        · rfl
/-- A sum with one byte another. -/
theorem sum_set (l : List UInt8) (i : Nat) (c : UInt8) (h : i < l.length) : sumB (l.set i c) = sumB l ↔ l[i] = c := by
  have key : ∀ (l : List UInt8) (i : Nat) (h : i < l.length), ((l.set i c).map UInt8.toNat).sum + l[i].toNat = (l.map UInt8.toNat).sum + c.toNat := by
    intro l
    induction l with
    | nil => intro i h; simp at h
    | cons a l ih =>
      intro i h
      cases i with
      | zero => simp; omega
      | succ i =>
        have := ih i (by simpa using h)
        simp at this ⊢
        omega
  have k := key l i h
  have h1 := l[i].toNat_lt
  have h2 := c.toNat_lt
  unfold sumB
  rw [← UInt8.toNat_inj]
  constructor
  · intro e; omega
  · intro e; congr 1; omega
/-- One byte of a packed value is another one. -/
theorem read_turned {v : ValV} (h : v.Ok) (i : Nat) (hi : i < 10) (c : UInt8) (hc : (packS v).data.toList.getD i 0 ≠ c) : (readR ⟨((packS v).data.toList.set i c).toArray⟩).2 = 6 := by
  unfold readR
  have hsz : (⟨((packS v).data.toList.set i c).toArray⟩ : ByteArray).size = 10 := by
    show ((packS v).data.toList.set i c).toArray.size = 10
    have := packS_size v
    simpa using this
  rw [hsz, if_neg (by omega), if_neg (by omega), if_pos]
  show sumB (((packS v).data.toList.set i c).take 9) ≠ (((packS v).data.toList.set i c).getD 9 0).toNat
  rw [pack_last] at hc ⊢
  have hl := bodyL_len v
  generalize bodyL v = l at *
  rcases Nat.lt_or_ge i 9 with h9 | h9
  · rw [List.set_append_left _ _ (by omega), take9 (by simp [hl]), get9 (by simp [hl]), sum_byte]
    intro e
    have := (sum_set l i c (by omega)).1 e
    refine hc ?_
    rw [← this]
    simp [List.getD, List.getElem?_append_left (show i < l.length by omega), show i < l.length by omega]
  · obtain rfl : i = 9 := by omega
    rw [List.set_append_right _ _ (by omega), hl]
    simp only [Nat.sub_self, List.set_cons_zero]
    rw [take9 hl, get9 hl]
    rw [get9 hl] at hc
    intro e
    refine hc ?_
    rw [← UInt8.toNat_inj, sum_byte]
    exact e
end Go.Proofs.Ythadehaoafkaeaa
