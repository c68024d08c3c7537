/- What sum and get of package cell compute: loops over a string's bytes. -/
import Derived.Test.YthadehaoafkaeaaRows
import Derived.Test.YthadehaoafkaeaaBits
import Derived.WalkKit
import Derived.WalkSpells
import Derived.Deep.Light
namespace Go.Proofs.Ythadehaoafkaeaa
open Go.RowKit
set_option linter.unusedVariables false

/-- The sum of bytes, modulo 256. -/
def sumB (l : List UInt8) : Nat := (l.map UInt8.toNat).sum % 256
theorem sumB_snoc (l : List UInt8) (c : UInt8) : sumB (l ++ [c]) = (sumB l + c.toNat) % 256 := by
  unfold sumB
  simp
theorem sumB_lt (l : List UInt8) : sumB l < 256 := Nat.mod_lt _ (by decide)
theorem take_snoc (s : ByteArray) (k : Nat) (h : k < s.size) : s.data.toList.take (k + 1) = s.data.toList.take k ++ [s[k]] := by
  rw [List.take_succ_eq_append_getElem (by simpa using h)]; rfl

theorem sum_any (s : ByteArray) (w : World) (hs : s.size ≤ maxLen) :
    Calls Try.prog 45 #[.string s] w fun e w' => e = .returned (.int .u8 (sumB s.data.toList)) ∧ w = w' := by
  unfold maxLen at hs
  go_enter Try.func45, Try.ntmps45
  go_wp2
  go_loop [2, 3, 6] (fun n _ i => ∃ k : Nat, k ≤ s.size ∧ i = .int .i64 k ∧ n = .int .u8 (sumB (s.data.toList.take k))) (fun _ _ i => s.size - (intOf i).toNat)
  case atStart => exact ⟨0, Nat.zero_le _, rfl, rfl⟩
  case round =>
    obtain ⟨k, hk, rfl, rfl⟩ := hrel
    have hd := sumB_lt (s.data.toList.take k)
    by_cases hlt : k < s.size
    · have hsn := sumB_snoc (s.data.toList.take k) s[k]
      have hts := take_snoc s k hlt
      have h2 : sumB (s.data.toList.take (k + 1)) = (sumB (s.data.toList.take k) + s[k].toNat) % 256 := by rw [hts]; exact hsn
      have HS := Lib.hid h2
      clear hsn hts h2
      go_wp2
      go_round
      case rel => exact ⟨k + 1, by omega, by go_num, vint (by rw [HS.out]; omega)⟩
      case measure => simp [intOf]; omega
    · go_wp2
      go_ret
      exact ⟨ret_int (by rw [List.take_of_length_le (by simp; omega)]), rfl⟩

/-- The number that bytes tell, the greatest first. -/
def getN (l : List UInt8) : Nat := l.foldl (fun n c => n * 256 + c.toNat) 0
theorem getN_snoc (l : List UInt8) (c : UInt8) : getN (l ++ [c]) = getN l * 256 + c.toNat := by unfold getN; simp
theorem getN_fold (l : List UInt8) : ∀ a : Nat, l.foldl (fun n c => n * 256 + c.toNat) a < (a + 1) * 256 ^ l.length := by
  induction l with
  | nil => intro a; simp
  | cons c l ih =>
    intro a
    have h1 := ih (a * 256 + c.toNat)
    have hc := c.toNat_lt
    have h2 : (a * 256 + c.toNat + 1) * 256 ^ l.length ≤ ((a + 1) * 256) * 256 ^ l.length := Nat.mul_le_mul_right _ (by omega)
    rw [List.foldl_cons, List.length_cons, Nat.pow_succ, Nat.mul_comm (256 ^ l.length) 256, ← Nat.mul_assoc]
    omega
theorem getN_lt (l : List UInt8) : getN l < 256 ^ l.length := by
  have := getN_fold l 0
  simpa [getN] using this
theorem get_any (s : ByteArray) (w : World) (hs : s.size ≤ 4) :
    Calls Try.prog 46 #[.string s] w fun e w' => e = .returned (.int .i64 (getN s.data.toList)) ∧ w = w' := by
  go_enter Try.func46, Try.ntmps46
  go_wp2
  go_loop [3, 4, 7] (fun n _ i => ∃ k : Nat, k ≤ s.size ∧ i = .int .i64 k ∧ n = .int .i64 (getN (s.data.toList.take k))) (fun _ _ i => s.size - (intOf i).toNat)
  case atStart => exact ⟨0, Nat.zero_le _, rfl, rfl⟩
  case round =>
    obtain ⟨k, hk, rfl, rfl⟩ := hrel
    by_cases hlt : k < s.size
    · have hd := getN_lt (s.data.toList.take k)
      have hl : (s.data.toList.take k).length = k := by simp; omega
      rw [hl] at hd
      have hp : 256 ^ k ≤ 256 ^ 3 := Nat.pow_le_pow_right (by decide) (by omega)
      have hd2 : getN (s.data.toList.take k) < 16777216 := by omega
      have hc := s[k].toNat_lt
      have hts := take_snoc s k hlt
      have h2 : getN (s.data.toList.take (k + 1)) = getN (s.data.toList.take k) * 256 + s[k].toNat := by rw [hts, getN_snoc]
      have h3 : bits .or .i64 ((getN (s.data.toList.take k) : Int) * 256) (s[k].toNat : Int) = (getN (s.data.toList.take k) : Int) * 256 + (s[k].toNat : Int) :=
        join_i64 8 _ _ (by omega) (by omega) (by omega) (by omega) (by omega) (by omega)
      have HS := Lib.hid h2
      have H3 := Lib.hid h3
      clear hts h2 h3 hd hl hp
      go_wp2
      go_round
      case rel => exact ⟨k + 1, by omega, by go_num, vint (by rw [HS.out]; first | (rw [H3.out]; omega) | (rw [wrap64_byte, H3.out]; omega))⟩
      case measure => simp [intOf]; omega
    · go_wp2
      go_ret
      exact ⟨ret_int (by rw [List.take_of_length_le (by simp; omega)]), rfl⟩
end Go.Proofs.Ythadehaoafkaeaa
