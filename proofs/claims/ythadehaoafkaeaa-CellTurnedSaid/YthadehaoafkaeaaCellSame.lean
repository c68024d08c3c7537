/- What Same of package cell computes; Read, whole. -/
import Derived.Test.YthadehaoafkaeaaCellLaw
namespace Go.Proofs.Ythadehaoafkaeaa
open Go.RowKit
set_option linter.unusedVariables false

theorem same_any (v x : ValV) (w : World) : Calls Try.prog 27 #[v.val, x.val] w fun e w' => e = .returned (.bool (decide (v = x))) ∧ Below w.heap.size w w' := by
  obtain ⟨is, n, p, b, l, a, s⟩ := v
  obtain ⟨is2, n2, p2, b2, l2, a2, s2⟩ := x
  simp only [ValV.val, ValV.mk.injEq, KeyV.mk.injEq]
  go_enter Try.func27, Try.ntmps27
  go_wp2
  all_goals (go_ret; exact ⟨congrArg (fun b => Ending.returned (Value.bool b)) (by simp [*]), ext_alloc (ext_alloc (Below.refl _ _) _) _⟩)
theorem read_any (s : ByteArray) (hs : s.size ≤ maxLen) (w : World) : Calls Try.prog 28 #[.string s] w fun e w' => e = .returned (.tuple #[(readR s).1.val, .int .i64 (readR s).2]) ∧ Below w.heap.size w w' := by
  by_cases h1 : s.size < 10
  · have e : readR s = (zeroV, 4) := by unfold readR; rw [if_pos h1]
    rw [e]
    exact read_short s h1 w
  · by_cases h2 : 10 < s.size
    · have e : readR s = (zeroV, 5) := by unfold readR; rw [if_neg h1, if_pos h2]
      rw [e]
      exact read_long s h2 hs w
    · have h10 : s.size = 10 := by omega
      have hx : (s.extract 0 9).data.toList = s.data.toList.take 9 := by
        obtain ⟨c0, c1, c2, c3, c4, c5, c6, c7, c8, c9, rfl⟩ := ten_bytes s h10
        rfl
      have h9 : s.data.toList.getD 9 0 = s[9]'(by omega) := by
        obtain ⟨c0, c1, c2, c3, c4, c5, c6, c7, c8, c9, rfl⟩ := ten_bytes s h10
        rfl
      by_cases h3 : sumB (s.extract 0 9).data.toList = (s[9]'(by omega)).toNat
      · have e : readR s = readF s (tellV s.data.toList) := by
          unfold readR
          rw [if_neg h1, if_neg h2, if_neg]
          rw [← hx, h9]; simpa using h3
        rw [e]
        cases h0 : (((s[0]'(by omega)).toNat : Int) == 1)
        · have et : tellV s.data.toList = ⟨false, (getN (s.extract 1 5).data.toList : Int) + -2147483648, zeroK⟩ := by
            obtain ⟨c0, c1, c2, c3, c4, c5, c6, c7, c8, c9, rfl⟩ := ten_bytes s h10
            have hc : c0 ≠ 1 := by
              rintro rfl
              simp at h0
              exact h0 rfl
            show (if c0 = 1 then _ else _) = _
            rw [if_neg hc]
            rfl
          rw [et]
          exact read_num s h10 h3 h0 w
        · have et : tellV s.data.toList = ⟨true, 0, ⟨(s[1]'(by omega)).toNat, getN (s.extract 3 5).data.toList, getN (s.extract 5 7).data.toList, getN (s.extract 7 9).data.toList, (s[2]'(by omega)).toNat⟩⟩ := by
            obtain ⟨c0, c1, c2, c3, c4, c5, c6, c7, c8, c9, rfl⟩ := ten_bytes s h10
            have hc : c0 = 1 := by
              have h0' : c0.toNat = 1 := by
                have := eq_of_beq h0
                exact Int.ofNat.inj this
              exact UInt8.toNat_inj.1 h0'
            show (if c0 = 1 then _ else _) = _
            rw [if_pos hc]
            rfl
          rw [et]
          exact read_key s h10 h3 h0 w
      · have e : readR s = (zeroV, 6) := by
          unfold readR
          rw [if_neg h1, if_neg h2, if_pos]
          rw [← hx, h9]; exact h3
        rw [e]
        exact read_sum s h10 h3 w
end Go.Proofs.Ythadehaoafkaeaa
