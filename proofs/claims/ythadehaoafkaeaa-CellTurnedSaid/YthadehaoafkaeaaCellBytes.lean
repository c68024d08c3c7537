/- A value's bytes as plain data: no program in sight. -/
import Derived.Test.YthadehaoafkaeaaCellMath
import Derived.Test.YthadehaoafkaeaaCellStr
import Derived.Test.YthadehaoafkaeaaCellPut
namespace Go.Proofs.Ythadehaoafkaeaa
open Go.RowKit
set_option linter.unusedVariables false

def bN (n : Int) : UInt8 := UInt8.ofNat (n % 256).toNat
def bV (c : UInt8) : Value := .int .u8 c.toNat
theorem bN_nat (n : Int) : ((bN n).toNat : Int) = n % 256 := by
  unfold bN
  have : (UInt8.ofNat (n % 256).toNat).toNat = (n % 256).toNat % 256 := by simp
  rw [this]; omega
theorem bN_id {n : Int} (h : 0 ≤ n) (h2 : n < 256) : ((bN n).toNat : Int) = n := by rw [bN_nat]; omega
def be2 (n : Int) : List UInt8 := [bN (n / 256), bN n]
def be4 (n : Int) : List UInt8 := [bN (n / 16777216), bN (n / 65536), bN (n / 256), bN n]
theorem up2 (n : Int) : bytesUp n 2 0 = (be2 n).map bV := by simp [bytesUp, List.range_succ, be2, bV, bN_nat]
theorem up4 (n : Int) : bytesUp n 4 0 = (be4 n).map bV := by simp [bytesUp, List.range_succ, be4, bV, bN_nat]
theorem be4_zero : be4 0 = [0, 0, 0, 0] := by decide
/-- A value's bytes, less the sum. -/
def keyL (k : KeyV) : List UInt8 := [1, bN k.perm, bN k.seal_] ++ be2 k.base ++ be2 k.len ++ be2 k.at_
def numL (n : Int) : List UInt8 := [0] ++ be4 (n + 2147483648) ++ [0, 0, 0, 0]
def bodyL (v : ValV) : List UInt8 := if v.is then keyL v.k else numL v.n
def sealL (l : List UInt8) : List UInt8 := l ++ [UInt8.ofNat (sumB l)]
/-- A value's bytes. -/
def packS (v : ValV) : ByteArray := ⟨(sealL (bodyL v)).toArray⟩
theorem bodyL_len (v : ValV) : (bodyL v).length = 9 := by unfold bodyL; split <;> rfl
theorem sealL_map (l : List UInt8) : (sealL l).map bV = l.map bV ++ [.int .u8 (sumB l)] := by
  have := sumB_lt l
  simp [sealL, bV]
  omega
theorem sealL_len (l : List UInt8) : (sealL l).length = l.length + 1 := by simp [sealL]
theorem packS_size (v : ValV) : (packS v).size = 10 := by
  show ((sealL (bodyL v)).toArray).size = 10
  simp [sealL_len, bodyL_len]
/-- An own row of bytes, read as a string. -/
theorem row_string {P : Program} {w : World} {B : Nat} {src dst e : TypeId} {g cap n : Nat} {l : List UInt8} (h : w.ownsRow B e 1 (.slice (some ⟨g, 0, none⟩) n cap) n (l.map bV))
    (hs : P.underlying src = some (.slice e)) (he : P.underlying e = some (.int .u8)) (hd : P.underlying dst = some .string) : (convert src dst (.slice (some ⟨g, 0, none⟩) n cap)).run P w = .ok (.string ⟨l.toArray⟩) w := by
  have hl : l.length = n := by have := h.1; simpa using this
  subst hl
  refine run_convert_bytes_back w src dst e ⟨g, 0, none⟩ cap l hs he hd fun j hj => ?_
  rcases h.2 with ⟨h0, _⟩ | ⟨g', cap', cur, hv, _, hg, _, _, _, hc⟩
  · cases h0
  · injection hv with hv
    injection hv with hv
    injection hv with hv
    subst hv
    have hx : (l.map bV)[j]? = some (bV l[j]) := by simp [hj]
    rw [← hc] at hx
    have hx' : cur[j]? = some (bV l[j]) := by
      rw [List.getElem?_take] at hx
      split at hx
      · simpa using hx
      · cases hx
    have := cell_of_row w g j cur e (0, 0) hg
    have e : (Addr.mk g 0 none).add j = ⟨g, j, none⟩ := by
      rcases Nat.eq_zero_or_pos j with h0 | h0
      · subst h0; simp [Addr.add]
      · have : j ≠ 0 := by omega
        simp [Addr.add, this]
    rw [e, this, hx']
    rfl
end Go.Proofs.Ythadehaoafkaeaa
