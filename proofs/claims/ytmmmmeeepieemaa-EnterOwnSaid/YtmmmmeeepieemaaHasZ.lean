import Derived.Test.YtmmmmeeepieemaaBuU
/- Is a number in a list? -/
namespace Go.Proofs.Ytmmmmeeepieemaa
open Go.RowKit
set_option linter.unusedVariables false
set_option linter.unusedSimpArgs false
theorem calls_flip3 {P : Program} {f : FuncId} {args : Array Value} {w : World} {r : Ending} (h : Calls P f args w fun e w' => e = r ∧ w = w') : Calls P f args w fun e w' => e = r ∧ w' = w := h.mono fun _ _ ⟨a, b⟩ => ⟨a, b.symm⟩
set_option maxHeartbeats 2000000 in
theorem has_numR (ao : Option Addr) (n c : Nat) (xs : List Int) (y : Int) (w : World) (hx : Sl w ao n xs) :
    Calls Try.prog 25 #[.slice ao n c, .int .i64 y] w fun e w' => e = .returned (.bool (decide (y ∈ xs))) ∧ w = w' := by
  have hlx := hx.len
  have hm := hx.max
  unfold maxLen at hm
  have HLX := Lib.hid hlx
  have HX := Lib.hid hx
  clear hlx hx
  go_enter Try.func25, Try.ntmps25
  go_wp2
  go_loopw [9] (fun i wr => ∃ k : Nat, k ≤ n ∧ i = .int .i64 k ∧ (y ∉ xs.take k) ∧ wr = w) (fun i _ => n - (intOf i).toNat)
  case atStart => exact ⟨0, Nat.zero_le _, rfl, by simp, rfl⟩
  case round =>
    obtain ⟨k, hk, rfl, hf, rfl⟩ := hrel
    by_cases hlt : k < n
    · have q0 : (0 : Int) ≤ k := by omega
      have q1 : (k : Int) < n := by omega
      obtain ⟨x, hgx⟩ : ∃ x, xs[k]? = some x := ⟨_, List.getElem?_eq_getElem (by have := HLX.out; omega)⟩
      obtain ⟨ad, rfl, bx, e0⟩ := sl_int HX.out hlt hgx
      have htk : xs.take (k + 1) = xs.take k ++ [x] := by rw [List.take_add_one, hgx]; rfl
      by_cases hxy : y = x
      · subst hxy
        have hin : y ∈ xs := List.mem_of_getElem? hgx
        have HIN := Lib.hid hin
        clear hgx hin htk hf
        have g1 : (y == y) = true := by simp
        go_wp2
        go_ret
        exact ⟨ret_bool (by simp [HIN.out]), rfl⟩
      · have g1 : (y == x) = false := by simpa using hxy
        have hf2 : y ∉ xs.take (k + 1) := by rw [htk]; simp [hf, hxy]
        have HF := Lib.hid hf2
        clear hgx hxy hf hf2 htk
        go_wp2
        go_roundw
        case rel => exact ⟨k + 1, by omega, by go_num, HF.out, by first | rfl | trivial⟩
        case measure => simp [intOf]; omega
    · obtain rfl : k = n := by omega
      rw [List.take_of_length_le (by rw [HLX.out]; exact Nat.le_refl _)] at hf
      have HF := Lib.hid hf
      clear hf
      go_wp2
      go_ret
      exact ⟨ret_bool (by simp [HF.out]), rfl⟩
end Go.Proofs.Ytmmmmeeepieemaa
