/- What bounds, reg, Check, Pack and Read of package inst compute. -/
import Derived.Test.YtkcnhagpjnhiiaaDoorInstA
import Derived.Test.YtkcnhagpjnhiiaaDoorLater
import Derived.Test.YtkcnhagpjnhiiaaDoorBits
import Derived.IntWalk
namespace Go.Proofs.YtkcnhagpjnhiiaaDoor
open Go.RowKit
set_option linter.unusedVariables false
set_option linter.unusedSimpArgs false
theorem bounds_0 (w : World) : Calls Tryd.prog 18 #[.int .u8 0] w fun e w' => e = .returned (.tuple #[.int .i64 (loC 0), .int .i64 (hiC 0)]) ∧ w = w' := by
  go_enter Tryd.func18, Tryd.ntmps18
  go_wp2
  go_ret2
  exact ⟨rfl, rfl⟩
theorem bounds_109 (w : World) : Calls Tryd.prog 18 #[.int .u8 109] w fun e w' => e = .returned (.tuple #[.int .i64 (loC 109), .int .i64 (hiC 109)]) ∧ w = w' := by
  go_enter Tryd.func18, Tryd.ntmps18
  go_wp2
  go_ret2
  exact ⟨rfl, rfl⟩
theorem bounds_110 (w : World) : Calls Tryd.prog 18 #[.int .u8 110] w fun e w' => e = .returned (.tuple #[.int .i64 (loC 110), .int .i64 (hiC 110)]) ∧ w = w' := by
  go_enter Tryd.func18, Tryd.ntmps18
  go_wp2
  go_ret2
  exact ⟨rfl, rfl⟩
theorem bounds_112 (w : World) : Calls Tryd.prog 18 #[.int .u8 112] w fun e w' => e = .returned (.tuple #[.int .i64 (loC 112), .int .i64 (hiC 112)]) ∧ w = w' := by
  go_enter Tryd.func18, Tryd.ntmps18
  go_wp2
  go_ret2
  exact ⟨rfl, rfl⟩
theorem bounds_113 (w : World) : Calls Tryd.prog 18 #[.int .u8 113] w fun e w' => e = .returned (.tuple #[.int .i64 (loC 113), .int .i64 (hiC 113)]) ∧ w = w' := by
  go_enter Tryd.func18, Tryd.ntmps18
  go_wp2
  go_ret2
  exact ⟨rfl, rfl⟩
theorem bounds_114 (w : World) : Calls Tryd.prog 18 #[.int .u8 114] w fun e w' => e = .returned (.tuple #[.int .i64 (loC 114), .int .i64 (hiC 114)]) ∧ w = w' := by
  go_enter Tryd.func18, Tryd.ntmps18
  go_wp2
  go_ret2
  exact ⟨rfl, rfl⟩
theorem shC_cases (op : Int) : shC op = 0 ∨ shC op = 109 ∨ shC op = 110 ∨ shC op = 112 ∨ shC op = 113 ∨ shC op = 114 := by
  unfold shC
  repeat' split
  all_goals simp
theorem bounds_any (op : Int) (w : World) : Calls Tryd.prog 18 #[.int .u8 (shC op)] w fun e w' => e = .returned (.tuple #[.int .i64 (loC (shC op)), .int .i64 (hiC (shC op))]) ∧ w = w' := by
  rcases shC_cases op with h | h | h | h | h | h <;> rw [h]
  · exact bounds_0 w
  · exact bounds_109 w
  · exact bounds_110 w
  · exact bounds_112 w
  · exact bounds_113 w
  · exact bounds_114 w
theorem reg_any (n : Int) (has : Bool) (w : World) : Calls Tryd.prog 19 #[.int .i64 n, .bool has] w fun e w' => e = .returned (.bool (regB n has)) ∧ w = w' := by
  cases has
  · have e : regB n false = (n == 0) := by unfold regB; simp; rfl
    rw [e]
    go_enter Tryd.func19, Tryd.ntmps19
    go_wp2
    go_ret
    exact ⟨rfl, rfl⟩
  · by_cases h : 0 ≤ n
    · have e : regB n true = decide (n < 8) := by unfold regB; simp [h]
      rw [e]
      go_enter Tryd.func19, Tryd.ntmps19
      go_wp2
      go_ret
      exact ⟨rfl, rfl⟩
    · have e : regB n true = false := by unfold regB; simp; omega
      rw [e]
      go_enter Tryd.func19, Tryd.ntmps19
      go_wp2
      go_ret
      exact ⟨rfl, rfl⟩
set_option maxHeartbeats 2000000 in
theorem icheck_any (op a b c : Int) (w : World) (ht : Tab w) : Calls Tryd.prog 11 #[.agg #[.int .i64 op, .int .i64 a, .int .i64 b, .int .i64 c]] w fun e w' => e = .returned (.int .i64 (if instOk ⟨op, a, b, c⟩ then 0 else 1)) ∧ Below w.heap.size w w' := by
  obtain ⟨w1, hw1⟩ : ∃ w1, w1 = w.alloc (.cells #[.int .i64 op, .int .i64 a, .int .i64 b, .int .i64 c] 27) := ⟨_, rfl⟩
  have hB : Bk w1 w.heap.size 27 #[.int .i64 op, .int .i64 a, .int .i64 b, .int .i64 c] := by rw [hw1]; exact bk_new _ _ _
  have h1w : Below w.heap.size w w1 := by rw [hw1]; exact ext_alloc (Below.refl _ _) _
  have p0 := hB.cell 0
  simp only [List.getElem?_toArray, List.getElem?_cons_succ, List.getElem?_cons_zero] at p0
  have q1 : ∀ x : Later w1, x.val.cell? ⟨w.heap.size, 1, none⟩ = some (.int .i64 a) := fun x => (x.bk hB).cell 1
  have q2 : ∀ x : Later w1, x.val.cell? ⟨w.heap.size, 2, none⟩ = some (.int .i64 b) := fun x => (x.bk hB).cell 2
  have q3 : ∀ x : Later w1, x.val.cell? ⟨w.heap.size, 3, none⟩ = some (.int .i64 c) := fun x => (x.bk hB).cell 3
  have qL : ∀ x : Later w1, w.heap.size < x.val.heap.size := fun x => x.lt hB.lt
  have sh := shape_any op w1 (ht.below h1w)
  unfold ShPost at sh
  have e0 : instOk ⟨op, a, b, c⟩ = (opB op && (regB a (shA op) && (regB b (shB op) && decide (loC (shC op) ≤ c ∧ c ≤ hiC (shC op))))) := rfl
  rw [e0]
  have bd := fun W => bounds_any op W
  have ra := fun W => reg_any a (shA op) W
  have rb := fun W => reg_any b (shB op) W
  generalize shA op = sa at *
  generalize shB op = sb at *
  generalize loC (shC op) = lo at *
  generalize hiC (shC op) = hi at *
  generalize shC op = sc at *
  generalize regB a sa = A at *
  generalize regB b sb = B at *
  generalize (if opB op = true then wordL op.toNat else []) = wd at *
  have bd0 := fun W => bounds_0 W
  have l0 : loC 0 = 0 := rfl
  have h0 : hiC 0 = 0 := rfl
  rw [l0, h0] at bd0
  have HW1 := Lib.hid hw1
  have H1W := Lib.hid h1w
  have RA := Lib.hid ra
  have RB := Lib.hid rb
  cases ho : opB op
  · rw [ho] at sh
    simp only [Bool.false_and, Bool.false_eq_true, if_false] at sh ⊢
    have SH := Lib.hid sh
    have BD := Lib.hid bd0
    clear sh bd bd0 ra rb l0 h0 e0 ho hw1 h1w ht hB
    go_enter Tryd.func11, Tryd.ntmps11
    go_upto_region 1 with (fail)
    rw [← HW1.out]
    go_wp2_with (first
      | (go_at_call 15; ((with_reducible refine SH.out.mono ?_); rintro e w' ⟨rfl, hb⟩; obtain ⟨y, rfl⟩ := later_call (Below.refl _ _) hb; clear hb))
      | (go_at_call 18; ((with_reducible refine (BD.out _).mono ?_); rintro e w' ⟨rfl, rfl⟩)))
    go_ret
    exact ⟨rfl, ext_alloc (ext_trans H1W.out y.ok) _⟩
  · rw [ho] at sh
    simp only [Bool.true_and, if_true] at sh ⊢
    have SH := Lib.hid sh
    have BD := Lib.hid bd
    clear sh bd bd0 ra rb l0 h0 e0 ho hw1 h1w ht hB
    cases A
    · simp only [Bool.false_and, Bool.false_eq_true, if_false]
      go_enter Tryd.func11, Tryd.ntmps11
      go_upto_region 1 with (fail)
      rw [← HW1.out]
      go_wp2_with (first
        | (go_at_call 15; ((with_reducible refine SH.out.mono ?_); rintro e w' ⟨rfl, hb⟩; obtain ⟨y, rfl⟩ := later_call (Below.refl _ _) hb; clear hb))
        | (go_at_call 18; ((with_reducible refine (BD.out _).mono ?_); rintro e w' ⟨rfl, rfl⟩))
        | (go_at_call 19; ((with_reducible refine (RA.out _).mono ?_); rintro e w' ⟨rfl, rfl⟩))
        | (go_at_call 19; ((with_reducible refine (RB.out _).mono ?_); rintro e w' ⟨rfl, rfl⟩)))
      go_ret
      exact ⟨rfl, ext_alloc (ext_trans H1W.out y.ok) _⟩
    · cases B
      · simp only [Bool.true_and, Bool.false_and, Bool.false_eq_true, if_false]
        go_enter Tryd.func11, Tryd.ntmps11
        go_upto_region 1 with (fail)
        rw [← HW1.out]
        go_wp2_with (first
          | (go_at_call 15; ((with_reducible refine SH.out.mono ?_); rintro e w' ⟨rfl, hb⟩; obtain ⟨y, rfl⟩ := later_call (Below.refl _ _) hb; clear hb))
          | (go_at_call 18; ((with_reducible refine (BD.out _).mono ?_); rintro e w' ⟨rfl, rfl⟩))
          | (go_at_call 19; ((with_reducible refine (RA.out _).mono ?_); rintro e w' ⟨rfl, rfl⟩))
          | (go_at_call 19; ((with_reducible refine (RB.out _).mono ?_); rintro e w' ⟨rfl, rfl⟩)))
        go_ret
        exact ⟨rfl, ext_alloc (ext_trans H1W.out y.ok) _⟩
      · simp only [Bool.true_and]
        by_cases c1 : c < lo
        · have e1 : decide (lo ≤ c ∧ c ≤ hi) = false := by simp; omega
          rw [e1]
          clear e1
          simp only [Bool.false_eq_true, if_false]
          go_enter Tryd.func11, Tryd.ntmps11
          go_upto_region 1 with (fail)
          rw [← HW1.out]
          go_wp2_with (first
            | (go_at_call 15; ((with_reducible refine SH.out.mono ?_); rintro e w' ⟨rfl, hb⟩; obtain ⟨y, rfl⟩ := later_call (Below.refl _ _) hb; clear hb))
            | (go_at_call 18; ((with_reducible refine (BD.out _).mono ?_); rintro e w' ⟨rfl, rfl⟩))
            | (go_at_call 19; ((with_reducible refine (RA.out _).mono ?_); rintro e w' ⟨rfl, rfl⟩))
            | (go_at_call 19; ((with_reducible refine (RB.out _).mono ?_); rintro e w' ⟨rfl, rfl⟩)))
          go_ret
          exact ⟨rfl, ext_alloc (ext_trans H1W.out y.ok) _⟩
        · by_cases c2 : hi < c
          · have e1 : decide (lo ≤ c ∧ c ≤ hi) = false := by simp; omega
            rw [e1]
            clear e1
            simp only [Bool.false_eq_true, if_false]
            go_enter Tryd.func11, Tryd.ntmps11
            go_upto_region 1 with (fail)
            rw [← HW1.out]
            go_wp2_with (first
              | (go_at_call 15; ((with_reducible refine SH.out.mono ?_); rintro e w' ⟨rfl, hb⟩; obtain ⟨y, rfl⟩ := later_call (Below.refl _ _) hb; clear hb))
              | (go_at_call 18; ((with_reducible refine (BD.out _).mono ?_); rintro e w' ⟨rfl, rfl⟩))
              | (go_at_call 19; ((with_reducible refine (RA.out _).mono ?_); rintro e w' ⟨rfl, rfl⟩))
              | (go_at_call 19; ((with_reducible refine (RB.out _).mono ?_); rintro e w' ⟨rfl, rfl⟩)))
            go_ret
            exact ⟨rfl, ext_alloc (ext_trans H1W.out y.ok) _⟩
          · have e1 : decide (lo ≤ c ∧ c ≤ hi) = true := by simp; omega
            rw [e1]
            clear e1
            simp only [if_true]
            go_enter Tryd.func11, Tryd.ntmps11
            go_upto_region 1 with (fail)
            rw [← HW1.out]
            go_wp2_with (first
              | (go_at_call 15; ((with_reducible refine SH.out.mono ?_); rintro e w' ⟨rfl, hb⟩; obtain ⟨y, rfl⟩ := later_call (Below.refl _ _) hb; clear hb))
              | (go_at_call 18; ((with_reducible refine (BD.out _).mono ?_); rintro e w' ⟨rfl, rfl⟩))
              | (go_at_call 19; ((with_reducible refine (RA.out _).mono ?_); rintro e w' ⟨rfl, rfl⟩))
              | (go_at_call 19; ((with_reducible refine (RB.out _).mono ?_); rintro e w' ⟨rfl, rfl⟩)))
            go_ret
            exact ⟨rfl, ext_alloc (ext_trans H1W.out y.ok) _⟩
end Go.Proofs.YtkcnhagpjnhiiaaDoor
