import Derived.Test.YtmmmmeeepieemaaDoorBuG
import Derived.Test.YtmmmmeeepieemaaDoorModCheck2Z
/- The reference's DoneEq at what is the same. -/
namespace Go.Proofs.YtmmmmeeepieemaaDoor
open Go Go.RowKit Go.Shelf
set_option linter.unusedVariables false
set_option linter.unusedSimpArgs false
set_option maxHeartbeats 4000000 in
theorem doneeq_same (e n f : Int) (oa ob : Option Addr) (on c d : Nat) (out : List Int) (w : World) (h1 : Sl w oa on out) (h2 : Sl w ob on out) :
    Calls Tryd.prog 19 #[.agg #[.int .i64 e, .int .i64 n, .slice oa on c, .int .i64 f], .agg #[.int .i64 e, .int .i64 n, .slice ob on d, .int .i64 f]] w fun r w' => r = .returned (.bool true) ∧ Below w.heap.size w w' := by
  obtain ⟨w1, hw1⟩ : ∃ w1, w1 = (w.alloc (.cells #[.int .i64 e, .int .i64 n, .slice oa on c, .int .i64 f] 59)).alloc (.cells #[.int .i64 e, .int .i64 n, .slice ob on d, .int .i64 f] 59) := ⟨_, rfl⟩
  have h1w : Below w.heap.size w w1 := by rw [hw1]; exact ext_alloc (ext_alloc (Below.refl _ _) _) _
  have b1 : Bk w1 w.heap.size 59 #[.int .i64 e, .int .i64 n, .slice oa on c, .int .i64 f] := by rw [hw1]; exact bk_old _ (bk_new _ _ _)
  have b2 : Bk w1 (w.heap.size + 1) 59 #[.int .i64 e, .int .i64 n, .slice ob on d, .int .i64 f] := by rw [hw1]; exact bk_new' _ _ (by simp)
  have eq := eq_int oa ob on on c d out out w1 (h1.below h1w) (h2.below h1w)
  simp only [decide_true] at eq
  obtain ⟨c0, c1, c2, c3⟩ := cellsM4 b1
  obtain ⟨d0, d1, d2, d3⟩ := cellsM4 b2
  have cL := b1.lt
  have dL := b2.lt
  have g1 : (e == e) = true := by simp
  have g2 : (n == n) = true := by simp
  have g3 : (f == f) = true := by simp
  have EQ := Lib.hid eq
  have HW1 := Lib.hid hw1
  have H1W := Lib.hid h1w
  clear eq hw1 h1w b1 b2 h1 h2
  go_enter Tryd.func19, Tryd.ntmps19
  go_upto_region 1 with (fail)
  rw [← HW1.out]
  go_wp2_with (go_at_call 36; ((with_reducible refine (EQ.out).mono ?_); rintro e w2 ⟨rfl, hb2⟩; have HB2 := Lib.hid hb2; clear hb2))
  go_ret
  exact ⟨rfl, ext_trans H1W.out HB2.out⟩
end Go.Proofs.YtmmmmeeepieemaaDoor
