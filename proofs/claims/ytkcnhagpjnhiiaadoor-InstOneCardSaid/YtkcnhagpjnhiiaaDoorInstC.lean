/- What Pack and Read of package inst compute. -/
import Derived.Test.YtkcnhagpjnhiiaaDoorKeysMath
import Derived.Test.YtkcnhagpjnhiiaaDoorBits
import Derived.Test.YtkcnhagpjnhiiaaDoorInstB
namespace Go.Proofs.YtkcnhagpjnhiiaaDoor
open Go.RowKit
set_option linter.unusedVariables false
set_option linter.unusedSimpArgs false
theorem instOk_bd {op a b c : Int} (h : instOk ⟨op, a, b, c⟩ = true) : 0 ≤ op ∧ op < 23 ∧ 0 ≤ a ∧ a < 8 ∧ 0 ≤ b ∧ b < 8 ∧ -2048 ≤ c ∧ c ≤ 2047 := by
  unfold instOk at h
  simp only [Bool.and_eq_true, decide_eq_true_eq] at h
  obtain ⟨h1, h2, h3, h4, h5⟩ := h
  have hr : ∀ n has, regB n has = true → 0 ≤ n ∧ n < 8 := by
    intro n has h
    unfold regB at h
    cases has
    · simp at h; omega
    · simpa using h
  have ha := hr _ _ h2
  have hb := hr _ _ h3
  unfold opB at h1
  simp only [decide_eq_true_eq] at h1
  have hlo : -2048 ≤ loC (shC op) := by unfold loC; split <;> omega
  have hhi : hiC (shC op) ≤ 2047 := by unfold hiC; repeat' split
                                       all_goals omega
  omega
set_option maxHeartbeats 2000000 in
theorem ipack_any (op a b c : Int) (w : World) (ht : Tab w) : Calls Tryd.prog 7 #[.agg #[.int .i64 op, .int .i64 a, .int .i64 b, .int .i64 c]] w fun e w' => e = .returned (.tuple #[.int .i64 (if instOk ⟨op, a, b, c⟩ then packF ⟨op, a, b, c⟩ else 0), .int .i64 (if instOk ⟨op, a, b, c⟩ then 0 else 1)]) ∧ Below w.heap.size w w' := by
  obtain ⟨w1, hw1⟩ : ∃ w1, w1 = w.alloc (.cells #[.int .i64 op, .int .i64 a, .int .i64 b, .int .i64 c] 27) := ⟨_, rfl⟩
  have hB : Bk w1 w.heap.size 27 #[.int .i64 op, .int .i64 a, .int .i64 b, .int .i64 c] := by rw [hw1]; exact bk_new _ _ _
  have h1w : Below w.heap.size w w1 := by rw [hw1]; exact ext_alloc (Below.refl _ _) _
  have p0 := hB.cell 0
  have p1 := hB.cell 1
  have p2 := hB.cell 2
  have p3 := hB.cell 3
  simp only [List.getElem?_toArray, List.getElem?_cons_succ, List.getElem?_cons_zero] at p0 p1 p2 p3
  have q0 : ∀ x : Later w1, x.val.cell? ⟨w.heap.size, 0, none⟩ = some (.int .i64 op) := fun x => (x.bk hB).cell 0
  have q1 : ∀ x : Later w1, x.val.cell? ⟨w.heap.size, 1, none⟩ = some (.int .i64 a) := fun x => (x.bk hB).cell 1
  have q2 : ∀ x : Later w1, x.val.cell? ⟨w.heap.size, 2, none⟩ = some (.int .i64 b) := fun x => (x.bk hB).cell 2
  have q3 : ∀ x : Later w1, x.val.cell? ⟨w.heap.size, 3, none⟩ = some (.int .i64 c) := fun x => (x.bk hB).cell 3
  have qL : ∀ x : Later w1, w.heap.size < x.val.heap.size := fun x => x.lt hB.lt
  have ck := icheck_any op a b c w1 (ht.below h1w)
  have HW1 := Lib.hid hw1
  have H1W := Lib.hid h1w
  cases hk : instOk ⟨op, a, b, c⟩
  · rw [hk] at ck
    simp only [Bool.false_eq_true, if_false] at ck ⊢
    have CK := Lib.hid ck
    clear ck hk hw1 h1w ht hB
    go_enter Tryd.func7, Tryd.ntmps7
    go_upto_region 1 with (fail)
    rw [← HW1.out]
    go_wp2_with (go_at_call 11; ((with_reducible refine CK.out.mono ?_); rintro e w' ⟨rfl, hb⟩; obtain ⟨y, rfl⟩ := later_call (Below.refl _ _) hb; clear hb))
    go_ret2
    exact ⟨rfl, ext_trans H1W.out y.ok⟩
  · rw [hk] at ck
    simp only [if_true] at ck ⊢
    obtain ⟨o0, o1, a0, a1, b0, b1, c0, c1⟩ := instOk_bd hk
    have CK := Lib.hid ck
    clear ck hk hw1 h1w ht hB
    go_enter Tryd.func7, Tryd.ntmps7
    go_upto_region 1 with (fail)
    rw [← HW1.out]
    go_wp2_with (go_at_call 11; ((with_reducible refine CK.out.mono ?_); rintro e w' ⟨rfl, hb⟩; obtain ⟨y, rfl⟩ := later_call (Below.refl _ _) hb; clear hb))
    go_ret2
    exact ⟨ret2 (vint (by unfold packF; simp only; omega)) rfl, ext_trans H1W.out y.ok⟩
/-- The low bits of a number are its remainder. -/
theorem and_mod (n : Int) (k : Nat) (hk : k < 62) (hn : I64 n) : bits .and .i64 n (2 ^ k - 1 : Nat) = n % (2 ^ k : Nat) := by
  have hp : 0 < 2 ^ k := Nat.two_pow_pos k
  have hp2 : 2 ^ k ≤ 2 ^ 62 := Nat.pow_le_pow_right (by omega) (by omega)
  have hm : bv ((2 ^ k - 1 : Nat) : Int) = BitVec.ofNat 64 (2 ^ k - 1) := by unfold bv; exact BitVec.ofInt_natCast _ _
  rw [bits_and_bv, hm]
  have h1 : (bv n &&& BitVec.ofNat 64 (2 ^ k - 1)).toNat = (bv n).toNat % 2 ^ k := by
    rw [BitVec.toNat_and, BitVec.toNat_ofNat, Nat.mod_eq_of_lt (by omega), Nat.and_two_pow_sub_one_eq_mod]
  have h2 : (bv n).toNat = (n % 2 ^ 64).toNat := by unfold bv; rw [BitVec.toNat_ofInt]; rfl
  have hl := Nat.mod_lt (bv n).toNat hp
  rw [BitVec.toInt_eq_toNat_of_lt (by rw [h1]; omega), h1, h2, Int.natCast_emod, Int.toNat_of_nonneg (Int.emod_nonneg _ (by decide))]
  refine Int.emod_emod_of_dvd n ?_
  refine ⟨(2 ^ (64 - k) : Nat), ?_⟩
  have : (2 : Nat) ^ 64 = 2 ^ k * 2 ^ (64 - k) := by rw [← Nat.pow_add]; congr 1; omega
  exact_mod_cast this
theorem and_31 (n : Int) (hn : I64 n) : bits .and .i64 n 31 = n % 32 := and_mod n 5 (by omega) hn
theorem and_7 (n : Int) (hn : I64 n) : bits .and .i64 n 7 = n % 8 := and_mod n 3 (by omega) hn
end Go.Proofs.YtkcnhagpjnhiiaaDoor
