/- The walk of InstOne. -/
import Derived.Test.YtkcnhagpjnhiiaaDoorInstTextB
import Derived.Test.YtkcnhagpjnhiiaaDoorInstOneLaw
namespace Go.Proofs.YtkcnhagpjnhiiaaDoor
open Go.RowKit
set_option linter.unusedVariables false
set_option linter.unusedSimpArgs false
theorem str_eq1 {a b : ByteArray} : a.toList = b.toList ↔ a = b := by
  rw [ByteArray.toList_eq, ByteArray.toList_eq]
  exact ⟨fun h => Go.WideShapes.bytes_inj h, fun h => by rw [h]⟩
theorem run_eql_inst (x y : InstV) (W : World) : (binOp .eql 27 x.val y.val).run Tryd.prog W = .ok (.bool (decide (x = y))) W := by
  obtain ⟨op, a, b, c⟩ := x
  obtain ⟨op2, a2, b2, c2⟩ := y
  simp only [InstV.val, InstV.mk.injEq]
  rw [run_eql_struct]
  go_simp
  repeat' split
  all_goals simp [*]
theorem itext_any (op a b c : Int) (w : World) (ht : Tab w) (h10 : Tab10 w) : Calls Tryd.prog 10 #[.agg #[.int .i64 op, .int .i64 a, .int .i64 b, .int .i64 c]] w fun e w' => e = .returned (.tuple #[.string (if instOk ⟨op, a, b, c⟩ then ⟨(textL ⟨op, a, b, c⟩).toArray⟩ else ⟨#[]⟩), .int .i64 (if instOk ⟨op, a, b, c⟩ then 0 else 1)]) ∧ Below w.heap.size w w' := by
  cases hk : instOk ⟨op, a, b, c⟩
  · simpa using itext_bad op a b c hk w ht
  · simpa using itext_ok op a b c hk w ht h10
set_option maxHeartbeats 2000000 in
theorem instOne_walk (op a b c op2 a2 b2 c2 : Int) (w : World) (ht : Tab w) (h10 : Tab10 w) : Calls Tryd.prog 5 #[.agg #[.int .i64 op, .int .i64 a, .int .i64 b, .int .i64 c], .agg #[.int .i64 op2, .int .i64 a2, .int .i64 b2, .int .i64 c2]] w fun e w' => e = .returned (.bool true) ∧ Below w.heap.size w w' := by
  obtain ⟨w1, hw1⟩ : ∃ w1, w1 = w.alloc (.cells #[.int .i64 op, .int .i64 a, .int .i64 b, .int .i64 c] 27) := ⟨_, rfl⟩
  have hB : Bk w1 w.heap.size 27 #[.int .i64 op, .int .i64 a, .int .i64 b, .int .i64 c] := by rw [hw1]; exact bk_new _ _ _
  have h1w : Below w.heap.size w w1 := by rw [hw1]; exact ext_alloc (Below.refl _ _) _
  have s1 : w1.heap.size = w.heap.size + 1 := by rw [hw1]; simp
  obtain ⟨w2, hw2⟩ : ∃ w2, w2 = w1.alloc (.cells #[.int .i64 op2, .int .i64 a2, .int .i64 b2, .int .i64 c2] 27) := ⟨_, rfl⟩
  have hC : Bk w2 (w.heap.size + 1) 27 #[.int .i64 op2, .int .i64 a2, .int .i64 b2, .int .i64 c2] := by rw [hw2, ← s1]; exact bk_new _ _ _
  have h12 : Below w1.heap.size w1 w2 := by rw [hw2]; exact ext_alloc (Below.refl _ _) _
  have hB2 := bk_keep h12 hB
  have h2w : Below w.heap.size w w2 := ext_trans h1w h12
  have p0 : ∀ x : Later w2, x.val.cell? ⟨w.heap.size, 0, none⟩ = some (.int .i64 op) := fun x => (x.bk hB2).cell 0
  have p1 : ∀ x : Later w2, x.val.cell? ⟨w.heap.size, 1, none⟩ = some (.int .i64 a) := fun x => (x.bk hB2).cell 1
  have p2 : ∀ x : Later w2, x.val.cell? ⟨w.heap.size, 2, none⟩ = some (.int .i64 b) := fun x => (x.bk hB2).cell 2
  have p3 : ∀ x : Later w2, x.val.cell? ⟨w.heap.size, 3, none⟩ = some (.int .i64 c) := fun x => (x.bk hB2).cell 3
  have pL : ∀ x : Later w2, w.heap.size < x.val.heap.size := fun x => x.lt hB2.lt
  have q0 : ∀ x : Later w2, x.val.cell? ⟨w.heap.size + 1, 0, none⟩ = some (.int .i64 op2) := fun x => (x.bk hC).cell 0
  have q1 : ∀ x : Later w2, x.val.cell? ⟨w.heap.size + 1, 1, none⟩ = some (.int .i64 a2) := fun x => (x.bk hC).cell 1
  have q2 : ∀ x : Later w2, x.val.cell? ⟨w.heap.size + 1, 2, none⟩ = some (.int .i64 b2) := fun x => (x.bk hC).cell 2
  have q3 : ∀ x : Later w2, x.val.cell? ⟨w.heap.size + 1, 3, none⟩ = some (.int .i64 c2) := fun x => (x.bk hC).cell 3
  have qL : ∀ x : Later w2, w.heap.size + 1 < x.val.heap.size := fun x => x.lt hC.lt
  have t2 : Tab w2 := ht.below h2w
  have u2 : Tab10 w2 := h10.below h2w
  have pi := fun x : Later w2 => ipack_any op a b c x.val (t2.below x.ok)
  have pj := fun x : Later w2 => ipack_any op2 a2 b2 c2 x.val (t2.below x.ok)
  have ti := fun x : Later w2 => itext_any op a b c x.val (t2.below x.ok) (u2.below x.ok)
  have tj := fun x : Later w2 => itext_any op2 a2 b2 c2 x.val (t2.below x.ok) (u2.below x.ok)
  have pl := fun x : Later w2 => ipack_any 1 2 0 (-1) x.val (t2.below x.ok)
  have el : instOk ⟨1, 2, 0, -1⟩ = true := by decide
  have ep : packF ⟨1, 2, 0, -1⟩ = 4192321 := by decide
  simp only [el, ep, if_true] at pl
  have eqI := fun W => run_eql_inst ⟨op, a, b, c⟩ ⟨op2, a2, b2, c2⟩ W
  simp only [InstV.val] at eqI
  have inj1 : instOk ⟨op, a, b, c⟩ = true → instOk ⟨op2, a2, b2, c2⟩ = true → (packF ⟨op, a, b, c⟩ == packF ⟨op2, a2, b2, c2⟩) = decide ((⟨op, a, b, c⟩ : InstV) = ⟨op2, a2, b2, c2⟩) := fun h1 h2 => by
    rw [Bool.eq_iff_iff, beq_iff_eq, decide_eq_true_iff]; exact ⟨packF_inj h1 h2, fun h => by rw [h]⟩
  have inj2 : instOk ⟨op, a, b, c⟩ = true → instOk ⟨op2, a2, b2, c2⟩ = true → ((⟨(textL ⟨op, a, b, c⟩).toArray⟩ : ByteArray).toList == (⟨(textL ⟨op2, a2, b2, c2⟩).toArray⟩ : ByteArray).toList) = decide ((⟨op, a, b, c⟩ : InstV) = ⟨op2, a2, b2, c2⟩) := fun h1 h2 => by
    rw [Bool.eq_iff_iff, beq_iff_eq, str_eq1, decide_eq_true_iff]
    refine ⟨fun h => textL_inj h1 h2 ?_, fun h => by rw [h]⟩
    have h3 := congrArg (fun s : ByteArray => s.data.toList) h
    simpa using h3
  have bd := fun h => packF_bd (i := ⟨op, a, b, c⟩) h
  generalize hD : decide ((⟨op, a, b, c⟩ : InstV) = ⟨op2, a2, b2, c2⟩) = D at *
  generalize packF ⟨op, a, b, c⟩ = P1 at *
  generalize packF ⟨op2, a2, b2, c2⟩ = P2 at *
  generalize (⟨(textL ⟨op, a, b, c⟩).toArray⟩ : ByteArray) = S1 at *
  generalize (⟨(textL ⟨op2, a2, b2, c2⟩).toArray⟩ : ByteArray) = S2 at *
  generalize instOk ⟨op, a, b, c⟩ = k1 at *
  generalize instOk ⟨op2, a2, b2, c2⟩ = k2 at *
  have HW1 := Lib.hid hw1
  have HW2 := Lib.hid hw2
  have fin := Lib.hid (fun x : Later w2 => ext_trans h2w x.ok)
  have EQI := Lib.hid eqI
  clear hw1 hw2 hB hC h12 hB2 h1w h2w t2 u2 ht h10 el ep hD eqI s1
  cases k1
  · cases k2
    all_goals
      simp only [Bool.false_eq_true, if_false, if_true] at pi pj ti tj
      have PI := Lib.hid pi
      have PJ := Lib.hid pj
      have TI := Lib.hid ti
      have TJ := Lib.hid tj
      have PL := Lib.hid pl
      clear pi pj ti tj pl inj1 inj2 bd EQI
      go_enter Tryd.func5, Tryd.ntmps5
      go_upto_region 1 with (fail)
      rw [← HW1.out, ← HW2.out]
      obtain ⟨x0, hx0⟩ := later_self (w0 := w2) rfl
      rw [hx0]
      go_wp2_with (first
      | (go_at_call 7; ((with_reducible refine (PI.out x0).mono ?_); rintro e w10 ⟨rfl, hb⟩; obtain ⟨y0, rfl⟩ := later_call x0.ok hb; clear hb))
      | (go_at_call 7; ((with_reducible refine (PJ.out y0).mono ?_); rintro e w11 ⟨rfl, hb⟩; obtain ⟨y1, rfl⟩ := later_call y0.ok hb; clear hb))
      | (go_at_call 10; ((with_reducible refine (TI.out y1).mono ?_); rintro e w12 ⟨rfl, hb⟩; obtain ⟨y2, rfl⟩ := later_call y1.ok hb; clear hb))
      | (go_at_call 10; ((with_reducible refine (TJ.out y2).mono ?_); rintro e w13 ⟨rfl, hb⟩; obtain ⟨y3, rfl⟩ := later_call y2.ok hb; clear hb))
      | (go_at_call 7; ((with_reducible refine (PL.out y3).mono ?_); rintro e w14 ⟨rfl, hb⟩; obtain ⟨y4, rfl⟩ := later_call y3.ok hb; clear hb)))
      go_ret
      exact ⟨rfl, fin.out y4⟩
  · cases k2
    · simp only [Bool.false_eq_true, if_false, if_true] at pi pj ti tj
      have PI := Lib.hid pi
      have PJ := Lib.hid pj
      have TI := Lib.hid ti
      have TJ := Lib.hid tj
      have PL := Lib.hid pl
      clear pi pj ti tj pl inj1 inj2 bd EQI
      go_enter Tryd.func5, Tryd.ntmps5
      go_upto_region 1 with (fail)
      rw [← HW1.out, ← HW2.out]
      obtain ⟨x0, hx0⟩ := later_self (w0 := w2) rfl
      rw [hx0]
      go_wp2_with (first
      | (go_at_call 7; ((with_reducible refine (PI.out x0).mono ?_); rintro e w10 ⟨rfl, hb⟩; obtain ⟨y0, rfl⟩ := later_call x0.ok hb; clear hb))
      | (go_at_call 7; ((with_reducible refine (PJ.out y0).mono ?_); rintro e w11 ⟨rfl, hb⟩; obtain ⟨y1, rfl⟩ := later_call y0.ok hb; clear hb))
      | (go_at_call 10; ((with_reducible refine (TI.out y1).mono ?_); rintro e w12 ⟨rfl, hb⟩; obtain ⟨y2, rfl⟩ := later_call y1.ok hb; clear hb))
      | (go_at_call 10; ((with_reducible refine (TJ.out y2).mono ?_); rintro e w13 ⟨rfl, hb⟩; obtain ⟨y3, rfl⟩ := later_call y2.ok hb; clear hb))
      | (go_at_call 7; ((with_reducible refine (PL.out y3).mono ?_); rintro e w14 ⟨rfl, hb⟩; obtain ⟨y4, rfl⟩ := later_call y3.ok hb; clear hb)))
      go_ret
      exact ⟨rfl, fin.out y4⟩
    · simp only [if_true] at pi pj ti tj
      have PI := Lib.hid pi
      have PJ := Lib.hid pj
      have TI := Lib.hid ti
      have TJ := Lib.hid tj
      have PL := Lib.hid pl
      have e1 := inj1 rfl rfl
      have e2 := inj2 rfl rfl
      obtain ⟨b1, b2⟩ := bd rfl
      have eqJ := EQI.out
      clear pi pj ti tj pl inj1 inj2 bd EQI
      cases D
      all_goals
        go_enter Tryd.func5, Tryd.ntmps5
        go_upto_region 1 with (fail)
        rw [← HW1.out, ← HW2.out]
        obtain ⟨x0, hx0⟩ := later_self (w0 := w2) rfl
        rw [hx0]
        go_wp2_with (first
      | (go_at_call 7; ((with_reducible refine (PI.out x0).mono ?_); rintro e w10 ⟨rfl, hb⟩; obtain ⟨y0, rfl⟩ := later_call x0.ok hb; clear hb))
      | (go_at_call 7; ((with_reducible refine (PJ.out y0).mono ?_); rintro e w11 ⟨rfl, hb⟩; obtain ⟨y1, rfl⟩ := later_call y0.ok hb; clear hb))
      | (go_at_call 10; ((with_reducible refine (TI.out y1).mono ?_); rintro e w12 ⟨rfl, hb⟩; obtain ⟨y2, rfl⟩ := later_call y1.ok hb; clear hb))
      | (go_at_call 10; ((with_reducible refine (TJ.out y2).mono ?_); rintro e w13 ⟨rfl, hb⟩; obtain ⟨y3, rfl⟩ := later_call y2.ok hb; clear hb))
      | (go_at_call 7; ((with_reducible refine (PL.out y3).mono ?_); rintro e w14 ⟨rfl, hb⟩; obtain ⟨y4, rfl⟩ := later_call y3.ok hb; clear hb)))
        go_ret
        exact ⟨rfl, fin.out y4⟩

end Go.Proofs.YtkcnhagpjnhiiaaDoor
