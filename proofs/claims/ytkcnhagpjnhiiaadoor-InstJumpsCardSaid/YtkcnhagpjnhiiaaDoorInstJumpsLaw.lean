/- The walk of InstJumps. -/
import Derived.Test.YtkcnhagpjnhiiaaDoorInstC
import Derived.Test.YtkcnhagpjnhiiaaDoorNum
namespace Go.Proofs.YtkcnhagpjnhiiaaDoor
open Go.RowKit
set_option linter.unusedVariables false
set_option linter.unusedSimpArgs false
theorem jump_ok (p : Int) (h0 : 0 ≤ p) (h1 : p < 4096) : instOk ⟨8, 0, 0, p - 2048⟩ = true := by
  unfold instOk opB regB shA shB shC loC hiC
  simp
  omega
theorem jump_any (p : Int) (h0 : 0 ≤ p) (h1 : p < 4096) (w : World) (ht : Tab w) : Calls Tryd.prog 7 #[.agg #[.int .i64 8, .int .i64 0, .int .i64 0, .int .i64 (p - 2048)]] w fun e w' => e = .returned (.tuple #[.int .i64 (8 + p * 2048), .int .i64 0]) ∧ Below w.heap.size w w' := by
  refine (ipack_any 8 0 0 (p - 2048) w ht).mono ?_
  rintro e w' ⟨rfl, hb⟩
  rw [jump_ok p h0 h1]
  simp only [if_true]
  have e : packF ⟨8, 0, 0, p - 2048⟩ = 8 + p * 2048 := by unfold packF; simp only; omega
  rw [e]
  exact ⟨rfl, hb⟩
set_option maxHeartbeats 600000 in
theorem instJumps_walk (a b : Int) (ia : I64 a) (ib : I64 b) (w : World) (ht : Tab w) : Calls Tryd.prog 3 #[.int .i64 a, .int .i64 b] w fun e w' => e = .returned (.bool true) ∧ Below w.heap.size w w' := by
  have ra := fun W => rest_any a 4096 W (by decide) (by decide)
  have rb := fun W => rest_any b 4096 W (by decide) (by decide)
  have p0 : 0 ≤ a % 4096 := by omega
  have p1 : a % 4096 < 4096 := by omega
  have q0 : 0 ≤ b % 4096 := by omega
  have q1 : b % 4096 < 4096 := by omega
  generalize a % 4096 = p at *
  generalize b % 4096 = q at *
  have JA := Lib.hid (fun (x : Later w) => jump_any p p0 p1 x.val (ht.below x.ok))
  have JB := Lib.hid (fun (x : Later w) => jump_any q q0 q1 x.val (ht.below x.ok))
  have RA := Lib.hid ra
  have RB := Lib.hid rb
  have t3 : (8 + p * 2048).tmod 32 = 8 := by rw [Int.tmod_eq_emod_of_nonneg (by omega)]; omega
  have t4 : (8 + p * 2048 - (8 + q * 2048) == 2048 * (p - 2048 - (q - 2048))) = true := by simp; omega
  have t5 : decide (8 + p * 2048 < 8 + q * 2048) = decide (p - 2048 < q - 2048) := by rw [decide_eq_decide]; omega
  have w0 : Later w := ⟨w, Below.refl _ _⟩
  clear ra rb ht ia ib
  by_cases h : p < q
  · have u1 : decide (8 + p * 2048 < 8 + q * 2048) = true := by simp; omega
    have u2 : decide (p - 2048 < q - 2048) = true := by simp; omega
    clear t5
    go_enter Tryd.func3, Tryd.ntmps3
    go_wp2_with (first
      | (go_at_call 6; (with_reducible refine (RA.out _).mono ?_); rintro e w' ⟨rfl, rfl⟩)
      | (go_at_call 6; (with_reducible refine (RB.out _).mono ?_); rintro e w' ⟨rfl, rfl⟩)
      | (go_at_call 7; (with_reducible refine (JA.out ⟨w, Below.refl _ _⟩).mono ?_); rintro e w' ⟨rfl, hb⟩; obtain ⟨y, rfl⟩ := later_call (Below.refl _ _) hb; clear hb)
      | (go_at_call 7; (with_reducible refine (JB.out y).mono ?_); rintro e w' ⟨rfl, hb⟩; obtain ⟨z, rfl⟩ := later_call y.ok hb; clear hb))
    go_ret
    exact ⟨rfl, z.ok⟩
  · have u1 : decide (8 + p * 2048 < 8 + q * 2048) = false := by simp; omega
    have u2 : decide (p - 2048 < q - 2048) = false := by simp; omega
    clear t5
    go_enter Tryd.func3, Tryd.ntmps3
    go_wp2_with (first
      | (go_at_call 6; (with_reducible refine (RA.out _).mono ?_); rintro e w' ⟨rfl, rfl⟩)
      | (go_at_call 6; (with_reducible refine (RB.out _).mono ?_); rintro e w' ⟨rfl, rfl⟩)
      | (go_at_call 7; (with_reducible refine (JA.out ⟨w, Below.refl _ _⟩).mono ?_); rintro e w' ⟨rfl, hb⟩; obtain ⟨y, rfl⟩ := later_call (Below.refl _ _) hb; clear hb)
      | (go_at_call 7; (with_reducible refine (JB.out y).mono ?_); rintro e w' ⟨rfl, hb⟩; obtain ⟨z, rfl⟩ := later_call y.ok hb; clear hb))
    go_ret
    exact ⟨rfl, z.ok⟩
end Go.Proofs.YtkcnhagpjnhiiaaDoor
