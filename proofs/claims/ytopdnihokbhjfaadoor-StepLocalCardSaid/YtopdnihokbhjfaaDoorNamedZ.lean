import Derived.Test.YtopdnihokbhjfaaDoorBuP
/- What named says. -/
namespace Go.Proofs.YtopdnihokbhjfaaDoor
open Go.RowKit
set_option linter.unusedVariables false
set_option linter.unusedSimpArgs false
/-- Yes or no; if no, the register is apart. -/
def NamedPost (i : InstV) (r : Nat) (W : World) (e : Ending) (w' : World) : Prop := ∃ x : Bool, e = .returned (.bool x) ∧ (x = false → Apart i r) ∧ Below W.heap.size W w'
set_option maxHeartbeats 8000000 in
set_option maxRecDepth 100000 in
theorem named_any (i : InstV) (hi : instOk i = true) (r : Nat) (hr : r < 8) (W : World) : Calls Tryd.prog 20 #[instVal i, .int .i64 r] W (NamedPost i r W) := by
  have hc21 : i.op = 21 → 0 ≤ i.c ∧ i.c ≤ 255 := fun h => by
    have := inst_c hi
    rw [h] at this
    exact this
  obtain ⟨op, a, b, c⟩ := i
  unfold instVal
  simp only at hc21 ⊢
  clear hi
  obtain ⟨w1, hw1⟩ : ∃ w1, w1 = W.alloc (.cells #[.int .i64 op, .int .i64 a, .int .i64 b, .int .i64 c] 40) := ⟨_, rfl⟩
  have h1 : Below W.heap.size W w1 := by rw [hw1]; exact ext_alloc (Below.refl _ _) _
  have k1 : Bk w1 W.heap.size 40 #[.int .i64 op, .int .i64 a, .int .i64 b, .int .i64 c] := by rw [hw1]; exact bk_new _ _ _
  obtain ⟨z0, z1, z2, z3⟩ := cells4 k1
  have kL := k1.lt
  have HW1 := Lib.hid hw1
  have H1 := Lib.hid h1
  clear hw1 h1 k1
  by_cases h18 : op = 18
  · subst h18
    go_enter Tryd.func20, Tryd.ntmps20
    go_upto_region 1 with (fail)
    rw [← HW1.out]
    go_wp2
    go_ret
    exact ⟨true, rfl, (fun h => by cases h), H1.out⟩
  by_cases h19 : op = 19
  · subst h19
    go_enter Tryd.func20, Tryd.ntmps20
    go_upto_region 1 with (fail)
    rw [← HW1.out]
    go_wp2
    go_ret
    exact ⟨true, rfl, (fun h => by cases h), H1.out⟩
  by_cases h21 : op = 21
  · obtain ⟨c0, c1⟩ := hc21 h21
    subst h21
    have q0 : (0 : Int) ≤ (r : Int) := by omega
    have q1 : (r : Int) < 8 := by omega
    have hp2 : (2 : Int) ^ r = ((2 ^ r : Nat) : Int) := by push_cast; rfl
    have hq0 : 0 ≤ c / 2 ^ r := Int.ediv_nonneg c0 (by rw [hp2]; exact Int.natCast_nonneg _)
    have hq1 : c / 2 ^ r ≤ c := Int.ediv_le_self _ c0
    have hbit : bits .and .i64 (c / 2 ^ r) 1 = c / 2 ^ r % 2 := and_mod _ 1 (by decide) ⟨Int.le_trans (by decide) hq0, Int.le_trans hq1 (by omega)⟩
    by_cases hb : c / (2 ^ r : Nat) % 2 = 1
    · have g1 : (c / 2 ^ r % 2 == 1) = true := by rw [hp2]; simpa using hb
      have HB := Lib.hid hb
      clear hb hp2 hc21
      go_enter Tryd.func20, Tryd.ntmps20
      go_upto_region 1 with (fail)
      rw [← HW1.out]
      go_wp2
      go_ret
      exact ⟨true, rfl, (fun h => by cases h), H1.out⟩
    · have g1 : (c / 2 ^ r % 2 == 1) = false := by rw [hp2]; simpa using hb
      have HB := Lib.hid hb
      clear hb hp2 hc21
      go_enter Tryd.func20, Tryd.ntmps20
      go_upto_region 1 with (fail)
      rw [← HW1.out]
      go_wp2
      go_ret
      exact ⟨false, rfl, fun _ => ⟨by simp only; decide, by simp only; decide, fun _ => HB.out, fun h => absurd rfl h, fun h => absurd rfl h, fun h => by simp only at h; omega⟩, H1.out⟩
  cases ra : ((r : Int) == a)
  case true =>
    clear hc21
    by_cases h3 : op = 3
    · subst h3
      go_enter Tryd.func20, Tryd.ntmps20
      go_upto_region 1 with (fail)
      rw [← HW1.out]
      go_wp2
      go_ret
      exact ⟨true, rfl, (fun h => by cases h), H1.out⟩
    by_cases h4 : op = 4
    · subst h4
      go_enter Tryd.func20, Tryd.ntmps20
      go_upto_region 1 with (fail)
      rw [← HW1.out]
      go_wp2
      go_ret
      exact ⟨true, rfl, (fun h => by cases h), H1.out⟩
    by_cases h5 : op = 5
    · subst h5
      go_enter Tryd.func20, Tryd.ntmps20
      go_upto_region 1 with (fail)
      rw [← HW1.out]
      go_wp2
      go_ret
      exact ⟨true, rfl, (fun h => by cases h), H1.out⟩
    by_cases h6 : op = 6
    · subst h6
      go_enter Tryd.func20, Tryd.ntmps20
      go_upto_region 1 with (fail)
      rw [← HW1.out]
      go_wp2
      go_ret
      exact ⟨true, rfl, (fun h => by cases h), H1.out⟩
    by_cases h7 : op = 7
    · subst h7
      go_enter Tryd.func20, Tryd.ntmps20
      go_upto_region 1 with (fail)
      rw [← HW1.out]
      go_wp2
      go_ret
      exact ⟨true, rfl, (fun h => by cases h), H1.out⟩
    by_cases h12 : op = 12
    · subst h12
      go_enter Tryd.func20, Tryd.ntmps20
      go_upto_region 1 with (fail)
      rw [← HW1.out]
      go_wp2
      go_ret
      exact ⟨true, rfl, (fun h => by cases h), H1.out⟩
    by_cases h13 : op = 13
    · subst h13
      go_enter Tryd.func20, Tryd.ntmps20
      go_upto_region 1 with (fail)
      rw [← HW1.out]
      go_wp2
      go_ret
      exact ⟨true, rfl, (fun h => by cases h), H1.out⟩
    by_cases h15 : op = 15
    · subst h15
      go_enter Tryd.func20, Tryd.ntmps20
      go_upto_region 1 with (fail)
      rw [← HW1.out]
      go_wp2
      go_ret
      exact ⟨true, rfl, (fun h => by cases h), H1.out⟩
    by_cases h16 : op = 16
    · subst h16
      go_enter Tryd.func20, Tryd.ntmps20
      go_upto_region 1 with (fail)
      rw [← HW1.out]
      go_wp2
      go_ret
      exact ⟨true, rfl, (fun h => by cases h), H1.out⟩
    have n18 : (op == 18) = false := beq_eq_false_iff_ne.2 h18
    have n19 : (op == 19) = false := beq_eq_false_iff_ne.2 h19
    have n21 : (op == 21) = false := beq_eq_false_iff_ne.2 h21
    have n3 : (op == 3) = false := beq_eq_false_iff_ne.2 h3
    have n4 : (op == 4) = false := beq_eq_false_iff_ne.2 h4
    have n5 : (op == 5) = false := beq_eq_false_iff_ne.2 h5
    have n6 : (op == 6) = false := beq_eq_false_iff_ne.2 h6
    have n7 : (op == 7) = false := beq_eq_false_iff_ne.2 h7
    have n12 : (op == 12) = false := beq_eq_false_iff_ne.2 h12
    have n13 : (op == 13) = false := beq_eq_false_iff_ne.2 h13
    have n15 : (op == 15) = false := beq_eq_false_iff_ne.2 h15
    have n16 : (op == 16) = false := beq_eq_false_iff_ne.2 h16
    go_enter Tryd.func20, Tryd.ntmps20
    go_upto_region 1 with (fail)
    rw [← HW1.out]
    go_wp2
    go_ret
    exact ⟨true, rfl, (fun h => by cases h), H1.out⟩
  case false =>
    have ea : (r : Int) ≠ a := by simpa using ra
    clear hc21
    cases rb : ((r : Int) == b)
    case true =>
      by_cases h3 : op = 3
      · subst h3
        go_enter Tryd.func20, Tryd.ntmps20
        go_upto_region 1 with (fail)
        rw [← HW1.out]
        go_wp2
        go_ret
        exact ⟨true, rfl, (fun h => by cases h), H1.out⟩
      by_cases h4 : op = 4
      · subst h4
        go_enter Tryd.func20, Tryd.ntmps20
        go_upto_region 1 with (fail)
        rw [← HW1.out]
        go_wp2
        go_ret
        exact ⟨true, rfl, (fun h => by cases h), H1.out⟩
      by_cases h5 : op = 5
      · subst h5
        go_enter Tryd.func20, Tryd.ntmps20
        go_upto_region 1 with (fail)
        rw [← HW1.out]
        go_wp2
        go_ret
        exact ⟨true, rfl, (fun h => by cases h), H1.out⟩
      by_cases h6 : op = 6
      · subst h6
        go_enter Tryd.func20, Tryd.ntmps20
        go_upto_region 1 with (fail)
        rw [← HW1.out]
        go_wp2
        go_ret
        exact ⟨true, rfl, (fun h => by cases h), H1.out⟩
      by_cases h7 : op = 7
      · subst h7
        go_enter Tryd.func20, Tryd.ntmps20
        go_upto_region 1 with (fail)
        rw [← HW1.out]
        go_wp2
        go_ret
        exact ⟨true, rfl, (fun h => by cases h), H1.out⟩
      by_cases h12 : op = 12
      · subst h12
        go_enter Tryd.func20, Tryd.ntmps20
        go_upto_region 1 with (fail)
        rw [← HW1.out]
        go_wp2
        go_ret
        exact ⟨true, rfl, (fun h => by cases h), H1.out⟩
      by_cases h13 : op = 13
      · subst h13
        go_enter Tryd.func20, Tryd.ntmps20
        go_upto_region 1 with (fail)
        rw [← HW1.out]
        go_wp2
        go_ret
        exact ⟨true, rfl, (fun h => by cases h), H1.out⟩
      by_cases h15 : op = 15
      · subst h15
        go_enter Tryd.func20, Tryd.ntmps20
        go_upto_region 1 with (fail)
        rw [← HW1.out]
        go_wp2
        go_ret
        exact ⟨true, rfl, (fun h => by cases h), H1.out⟩
      by_cases h16 : op = 16
      · subst h16
        go_enter Tryd.func20, Tryd.ntmps20
        go_upto_region 1 with (fail)
        rw [← HW1.out]
        go_wp2
        go_ret
        exact ⟨true, rfl, (fun h => by cases h), H1.out⟩
      have n18 : (op == 18) = false := beq_eq_false_iff_ne.2 h18
      have n19 : (op == 19) = false := beq_eq_false_iff_ne.2 h19
      have n21 : (op == 21) = false := beq_eq_false_iff_ne.2 h21
      have n3 : (op == 3) = false := beq_eq_false_iff_ne.2 h3
      have n4 : (op == 4) = false := beq_eq_false_iff_ne.2 h4
      have n5 : (op == 5) = false := beq_eq_false_iff_ne.2 h5
      have n6 : (op == 6) = false := beq_eq_false_iff_ne.2 h6
      have n7 : (op == 7) = false := beq_eq_false_iff_ne.2 h7
      have n12 : (op == 12) = false := beq_eq_false_iff_ne.2 h12
      have n13 : (op == 13) = false := beq_eq_false_iff_ne.2 h13
      have n15 : (op == 15) = false := beq_eq_false_iff_ne.2 h15
      have n16 : (op == 16) = false := beq_eq_false_iff_ne.2 h16
      go_enter Tryd.func20, Tryd.ntmps20
      go_upto_region 1 with (fail)
      rw [← HW1.out]
      go_wp2
      go_ret
      exact ⟨true, rfl, (fun h => by cases h), H1.out⟩
    case false =>
      have eb : (r : Int) ≠ b := by simpa using rb
      cases rc : ((r : Int) == c)
      case true =>
        by_cases h3 : op = 3
        · subst h3
          go_enter Tryd.func20, Tryd.ntmps20
          go_upto_region 1 with (fail)
          rw [← HW1.out]
          go_wp2
          go_ret
          exact ⟨true, rfl, (fun h => by cases h), H1.out⟩
        by_cases h4 : op = 4
        · subst h4
          go_enter Tryd.func20, Tryd.ntmps20
          go_upto_region 1 with (fail)
          rw [← HW1.out]
          go_wp2
          go_ret
          exact ⟨true, rfl, (fun h => by cases h), H1.out⟩
        by_cases h5 : op = 5
        · subst h5
          go_enter Tryd.func20, Tryd.ntmps20
          go_upto_region 1 with (fail)
          rw [← HW1.out]
          go_wp2
          go_ret
          exact ⟨true, rfl, (fun h => by cases h), H1.out⟩
        by_cases h6 : op = 6
        · subst h6
          go_enter Tryd.func20, Tryd.ntmps20
          go_upto_region 1 with (fail)
          rw [← HW1.out]
          go_wp2
          go_ret
          exact ⟨true, rfl, (fun h => by cases h), H1.out⟩
        by_cases h7 : op = 7
        · subst h7
          go_enter Tryd.func20, Tryd.ntmps20
          go_upto_region 1 with (fail)
          rw [← HW1.out]
          go_wp2
          go_ret
          exact ⟨true, rfl, (fun h => by cases h), H1.out⟩
        by_cases h12 : op = 12
        · subst h12
          go_enter Tryd.func20, Tryd.ntmps20
          go_upto_region 1 with (fail)
          rw [← HW1.out]
          go_wp2
          go_ret
          exact ⟨true, rfl, (fun h => by cases h), H1.out⟩
        by_cases h13 : op = 13
        · subst h13
          go_enter Tryd.func20, Tryd.ntmps20
          go_upto_region 1 with (fail)
          rw [← HW1.out]
          go_wp2
          go_ret
          exact ⟨true, rfl, (fun h => by cases h), H1.out⟩
        by_cases h15 : op = 15
        · subst h15
          go_enter Tryd.func20, Tryd.ntmps20
          go_upto_region 1 with (fail)
          rw [← HW1.out]
          go_wp2
          go_ret
          exact ⟨true, rfl, (fun h => by cases h), H1.out⟩
        by_cases h16 : op = 16
        · subst h16
          go_enter Tryd.func20, Tryd.ntmps20
          go_upto_region 1 with (fail)
          rw [← HW1.out]
          go_wp2
          go_ret
          exact ⟨true, rfl, (fun h => by cases h), H1.out⟩
        have n18 : (op == 18) = false := beq_eq_false_iff_ne.2 h18
        have n19 : (op == 19) = false := beq_eq_false_iff_ne.2 h19
        have n21 : (op == 21) = false := beq_eq_false_iff_ne.2 h21
        have n3 : (op == 3) = false := beq_eq_false_iff_ne.2 h3
        have n4 : (op == 4) = false := beq_eq_false_iff_ne.2 h4
        have n5 : (op == 5) = false := beq_eq_false_iff_ne.2 h5
        have n6 : (op == 6) = false := beq_eq_false_iff_ne.2 h6
        have n7 : (op == 7) = false := beq_eq_false_iff_ne.2 h7
        have n12 : (op == 12) = false := beq_eq_false_iff_ne.2 h12
        have n13 : (op == 13) = false := beq_eq_false_iff_ne.2 h13
        have n15 : (op == 15) = false := beq_eq_false_iff_ne.2 h15
        have n16 : (op == 16) = false := beq_eq_false_iff_ne.2 h16
        go_enter Tryd.func20, Tryd.ntmps20
        go_upto_region 1 with (fail)
        rw [← HW1.out]
        go_wp2
        go_ret
        exact ⟨false, rfl, fun _ => ⟨h18, h19, fun h => absurd h h21, fun _ => ea, fun _ => eb, fun h => by simp only at h; omega⟩, H1.out⟩
      case false =>
        have ec : (r : Int) ≠ c := by simpa using rc
        by_cases h3 : op = 3
        · subst h3
          go_enter Tryd.func20, Tryd.ntmps20
          go_upto_region 1 with (fail)
          rw [← HW1.out]
          go_wp2
          go_ret
          exact ⟨false, rfl, fun _ => ⟨by simp only; decide, by simp only; decide, fun h => by simp only at h; omega, fun _ => ea, fun _ => eb, fun _ => ec⟩, H1.out⟩
        by_cases h4 : op = 4
        · subst h4
          go_enter Tryd.func20, Tryd.ntmps20
          go_upto_region 1 with (fail)
          rw [← HW1.out]
          go_wp2
          go_ret
          exact ⟨false, rfl, fun _ => ⟨by simp only; decide, by simp only; decide, fun h => by simp only at h; omega, fun _ => ea, fun _ => eb, fun _ => ec⟩, H1.out⟩
        by_cases h5 : op = 5
        · subst h5
          go_enter Tryd.func20, Tryd.ntmps20
          go_upto_region 1 with (fail)
          rw [← HW1.out]
          go_wp2
          go_ret
          exact ⟨false, rfl, fun _ => ⟨by simp only; decide, by simp only; decide, fun h => by simp only at h; omega, fun _ => ea, fun _ => eb, fun _ => ec⟩, H1.out⟩
        by_cases h6 : op = 6
        · subst h6
          go_enter Tryd.func20, Tryd.ntmps20
          go_upto_region 1 with (fail)
          rw [← HW1.out]
          go_wp2
          go_ret
          exact ⟨false, rfl, fun _ => ⟨by simp only; decide, by simp only; decide, fun h => by simp only at h; omega, fun _ => ea, fun _ => eb, fun _ => ec⟩, H1.out⟩
        by_cases h7 : op = 7
        · subst h7
          go_enter Tryd.func20, Tryd.ntmps20
          go_upto_region 1 with (fail)
          rw [← HW1.out]
          go_wp2
          go_ret
          exact ⟨false, rfl, fun _ => ⟨by simp only; decide, by simp only; decide, fun h => by simp only at h; omega, fun _ => ea, fun _ => eb, fun _ => ec⟩, H1.out⟩
        by_cases h12 : op = 12
        · subst h12
          go_enter Tryd.func20, Tryd.ntmps20
          go_upto_region 1 with (fail)
          rw [← HW1.out]
          go_wp2
          go_ret
          exact ⟨false, rfl, fun _ => ⟨by simp only; decide, by simp only; decide, fun h => by simp only at h; omega, fun _ => ea, fun _ => eb, fun _ => ec⟩, H1.out⟩
        by_cases h13 : op = 13
        · subst h13
          go_enter Tryd.func20, Tryd.ntmps20
          go_upto_region 1 with (fail)
          rw [← HW1.out]
          go_wp2
          go_ret
          exact ⟨false, rfl, fun _ => ⟨by simp only; decide, by simp only; decide, fun h => by simp only at h; omega, fun _ => ea, fun _ => eb, fun _ => ec⟩, H1.out⟩
        by_cases h15 : op = 15
        · subst h15
          go_enter Tryd.func20, Tryd.ntmps20
          go_upto_region 1 with (fail)
          rw [← HW1.out]
          go_wp2
          go_ret
          exact ⟨false, rfl, fun _ => ⟨by simp only; decide, by simp only; decide, fun h => by simp only at h; omega, fun _ => ea, fun _ => eb, fun _ => ec⟩, H1.out⟩
        by_cases h16 : op = 16
        · subst h16
          go_enter Tryd.func20, Tryd.ntmps20
          go_upto_region 1 with (fail)
          rw [← HW1.out]
          go_wp2
          go_ret
          exact ⟨false, rfl, fun _ => ⟨by simp only; decide, by simp only; decide, fun h => by simp only at h; omega, fun _ => ea, fun _ => eb, fun _ => ec⟩, H1.out⟩
        have n18 : (op == 18) = false := beq_eq_false_iff_ne.2 h18
        have n19 : (op == 19) = false := beq_eq_false_iff_ne.2 h19
        have n21 : (op == 21) = false := beq_eq_false_iff_ne.2 h21
        have n3 : (op == 3) = false := beq_eq_false_iff_ne.2 h3
        have n4 : (op == 4) = false := beq_eq_false_iff_ne.2 h4
        have n5 : (op == 5) = false := beq_eq_false_iff_ne.2 h5
        have n6 : (op == 6) = false := beq_eq_false_iff_ne.2 h6
        have n7 : (op == 7) = false := beq_eq_false_iff_ne.2 h7
        have n12 : (op == 12) = false := beq_eq_false_iff_ne.2 h12
        have n13 : (op == 13) = false := beq_eq_false_iff_ne.2 h13
        have n15 : (op == 15) = false := beq_eq_false_iff_ne.2 h15
        have n16 : (op == 16) = false := beq_eq_false_iff_ne.2 h16
        go_enter Tryd.func20, Tryd.ntmps20
        go_upto_region 1 with (fail)
        rw [← HW1.out]
        go_wp2
        go_ret
        exact ⟨false, rfl, fun _ => ⟨h18, h19, fun h => absurd h h21, fun _ => ea, fun _ => eb, fun h => by simp only at h; omega⟩, H1.out⟩
end Go.Proofs.YtopdnihokbhjfaaDoor
