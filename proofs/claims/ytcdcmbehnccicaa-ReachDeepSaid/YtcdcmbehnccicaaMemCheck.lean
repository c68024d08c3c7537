/- What Check of package mem computes. -/
import Derived.Test.YtcdcmbehnccicaaMemRow
import Derived.Test.YtcdcmbehnccicaaCellCheck
namespace Go.Proofs.Ytcdcmbehnccicaa
open Go.RowKit
set_option linter.unusedVariables false
theorem firstErr_drop {m : List ValV} {k : Nat} (hk : k < m.length) : firstErr (m.drop k) = if valCheck (m.getD k zeroV) = 0 then firstErr (m.drop (k + 1)) else valCheck (m.getD k zeroV) := by
  rw [List.drop_eq_getElem_cons hk]
  simp [firstErr, hk]
set_option maxHeartbeats 1000000 in
theorem mcheck_any (ao : Option Addr) (n cap : Nat) (vs : List ValV) (w : World) (h : Sl w ao n vs) :
    Calls Try.prog 26 #[.slice ao n cap] w fun e w' => e = .returned (.int .i64 (memCheck vs)) ∧ Below w.heap.size w w' := by
  have hl := h.len
  have hm := h.max
  unfold maxLen at hm
  by_cases h4 : 400 < n
  · have e : memCheck vs = 2 := by unfold memCheck; rw [if_pos (by omega)]
    rw [e]
    clear e
    go_enter Try.func26, Try.ntmps26
    go_wp2
    go_ret
    exact ⟨rfl, Below.refl _ _⟩
  · have e : memCheck vs = firstErr (vs.drop 0) := by unfold memCheck; rw [if_neg (by omega), List.drop_zero]
    rw [e]
    clear e
    go_enter Try.func26, Try.ntmps26
    go_wp2
    go_loopw [11] (fun i wr => ∃ k : Nat, k ≤ n ∧ i = .int .i64 k ∧ firstErr (vs.drop 0) = firstErr (vs.drop k) ∧ Below w.heap.size w wr) (fun i _ => n - (intOf i).toNat)
    case atStart => exact ⟨0, Nat.zero_le _, rfl, rfl, Below.refl _ _⟩
    case round =>
      obtain ⟨k, hk, rfl, hf, hb⟩ := hrel
      by_cases hlt : k < n
      · have hs := h
        obtain ⟨a, rfl, ha, e0, e1, e2, e3, e4, e5, e6⟩ := sl_val (hs.below hb) hlt
        clear hs
        have hd := firstErr_drop (m := vs) (k := k) (by omega)
        generalize vs.getD k zeroV = x at *
        obtain ⟨is, nn, p, b, l, at_, s⟩ := x
        simp only at e0 e1 e2 e3 e4 e5 e6
        have cc := fun W => ccheck_any is nn p b l at_ s W
        by_cases hc : valCheck ⟨is, nn, ⟨p, b, l, at_, s⟩⟩ = 0
        · rw [if_pos hc] at hd
          rw [hc] at cc
          have CC := Lib.hid cc
          have HF := Lib.hid (hf.trans hd)
          have HB := Lib.hid hb
          clear cc hf hd hc hb h
          go_wp2_with (go_at_call 24; ((with_reducible refine (CC.out _).mono ?_); rintro e w1 ⟨rfl, hb1⟩))
          have HBN := Lib.hid (show Below w.heap.size w w1 from ext_trans (ext_alloc HB.out _) hb1)
          go_roundw
          case rel => exact ⟨k + 1, by omega, by go_num, HF.out, HBN.out⟩
          case measure => simp [intOf]; omega
        · rw [if_neg hc] at hd
          generalize valCheck ⟨is, nn, ⟨p, b, l, at_, s⟩⟩ = c at *
          have g1 : (c == 0) = false := by simpa using hc
          have g2 : (c != 0) = true := by simpa using hc
          have CC := Lib.hid cc
          have HF := Lib.hid (hf.trans hd)
          have HB := Lib.hid hb
          clear cc hf hd hc hb h
          go_wp2_with (go_at_call 24; ((with_reducible refine (CC.out _).mono ?_); rintro e w1 ⟨rfl, hb1⟩))
          go_ret
          exact ⟨ret_int HF.out.symm, ext_trans (ext_alloc HB.out _) hb1⟩
      · have HF := Lib.hid hf
        have HB := Lib.hid hb
        have hz : firstErr (vs.drop k) = 0 := by rw [List.drop_of_length_le (by omega)]; rfl
        have HZ := Lib.hid hz
        clear hf hb h hz
        go_wp2
        go_ret
        exact ⟨ret_int (HZ.out.symm.trans HF.out.symm), HB.out⟩
end Go.Proofs.Ytcdcmbehnccicaa
