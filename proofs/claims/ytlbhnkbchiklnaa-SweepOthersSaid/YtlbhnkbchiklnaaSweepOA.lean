/- The closures of SweepOthers. -/
import Derived.Test.YtlbhnkbchiklnaaSweepNone
namespace Go.Proofs.Ytlbhnkbchiklnaa
open Go.RowKit
set_option linter.unusedVariables false
set_option linter.unusedSimpArgs false
/-- One more was counted, or nothing has turned. -/
def CntPost (w : World) (g : Nat) (cnt : Int) (h : Bool) (w' : World) : Prop := ∃ w1, Below w.heap.size w w1 ∧ w' = if h then w1.setCell ⟨g, 0, none⟩ (.int .i64 (cnt + 1)) else w1
set_option maxHeartbeats 1000000 in
theorem hits1_any (g4 g5 : Nat) (b n p kb l a s : Int) (w : World) (c0 : w.cell? ⟨g4, 0, none⟩ = some (.int .i64 b)) (c1 : w.cell? ⟨g5, 0, none⟩ = some (.int .i64 n)) (hg : g4 < w.heap.size) (hg5 : g5 < w.heap.size)
    (b0 : 0 ≤ b) (b1 : b ≤ 400) (n0 : 0 ≤ n) (n1 : n ≤ 400) (k0 : 0 ≤ kb) (k1 : kb ≤ 400) (l0 : 0 ≤ l) (l1 : l ≤ 400) :
    Calls Try.prog 32 #[.agg #[.int .i64 p, .int .i64 kb, .int .i64 l, .int .i64 a, .int .i64 s], .pointer (some ⟨g5, 0, none⟩), .pointer (some ⟨g4, 0, none⟩)] w fun e w' => e = .returned (.bool (hitsB b n ⟨p, kb, l, a, s⟩)) ∧ Below w.heap.size w w' := by
  by_cases h0 : 0 < l
  · by_cases h1 : 0 < n
    · by_cases h2 : kb < b + n
      · by_cases h3 : b < kb + l
        · have e : hitsB b n ⟨p, kb, l, a, s⟩ = true := by unfold hitsB; simp; try omega
          rw [e]
          clear e
          go_enter Try.func32, Try.ntmps32
          go_wp2
          go_ret
          exact ⟨rfl, by repeat (first | with_reducible exact Below.refl _ _ | with_reducible refine ext_alloc ?_ _)⟩
        · have e : hitsB b n ⟨p, kb, l, a, s⟩ = false := by unfold hitsB; simp; try omega
          rw [e]
          clear e
          go_enter Try.func32, Try.ntmps32
          go_wp2
          go_ret
          exact ⟨rfl, by repeat (first | with_reducible exact Below.refl _ _ | with_reducible refine ext_alloc ?_ _)⟩
      · have e : hitsB b n ⟨p, kb, l, a, s⟩ = false := by unfold hitsB; simp; try omega
        rw [e]
        clear e
        go_enter Try.func32, Try.ntmps32
        go_wp2
        go_ret
        exact ⟨rfl, by repeat (first | with_reducible exact Below.refl _ _ | with_reducible refine ext_alloc ?_ _)⟩
    · have e : hitsB b n ⟨p, kb, l, a, s⟩ = false := by unfold hitsB; simp; try omega
      rw [e]
      clear e
      go_enter Try.func32, Try.ntmps32
      go_wp2
      go_ret
      exact ⟨rfl, by repeat (first | with_reducible exact Below.refl _ _ | with_reducible refine ext_alloc ?_ _)⟩
  · have e : hitsB b n ⟨p, kb, l, a, s⟩ = false := by unfold hitsB; simp; try omega
    rw [e]
    clear e
    go_enter Try.func32, Try.ntmps32
    go_wp2
    go_ret
    exact ⟨rfl, by repeat (first | with_reducible exact Below.refl _ _ | with_reducible refine ext_alloc ?_ _)⟩
set_option maxHeartbeats 2000000 in
theorem swo_val (g4 g5 g10 g11 : Nat) (b n cnt : Int) (xi yi : Bool) (xn xp xb xl xa xs yn yp yb yl ya ys : Int) (w : World) (T0 T1 T2 : TypeId) (h4 : Bk w g4 T0 #[.int .i64 b]) (h5 : Bk w g5 T0 #[.int .i64 n]) (h10 : Bk w g10 T1 #[.func (.func 32) #[] #[.pointer (some ⟨g5, 0, none⟩), .pointer (some ⟨g4, 0, none⟩)]]) (h11 : Bk w g11 T2 #[.int .i64 cnt])
    (b0 : 0 ≤ b) (b1 : b ≤ 400) (n0 : 0 ≤ n) (n1 : n ≤ 400) (m0 : 0 ≤ cnt) (m1 : cnt ≤ 10000)
    (k0 : 0 ≤ xb) (k1 : xb ≤ 400) (l0 : 0 ≤ xl) (l1 : xl ≤ 400) (hY : (⟨yi, yn, ⟨yp, yb, yl, ya, ys⟩⟩ : ValV) = swV b n ⟨xi, xn, ⟨xp, xb, xl, xa, xs⟩⟩) :
    Calls Try.prog 33 #[.agg #[.bool xi, .int .i64 xn, .int .i64 xp, .int .i64 xb, .int .i64 xl, .int .i64 xa, .int .i64 xs], .agg #[.bool yi, .int .i64 yn, .int .i64 yp, .int .i64 yb, .int .i64 yl, .int .i64 ya, .int .i64 ys], .pointer (some ⟨g10, 0, none⟩), .pointer (some ⟨g11, 0, none⟩)] w fun e w' => e = .returned (.bool true) ∧ CntPost w g11 cnt (xi && hitsB b n ⟨xp, xb, xl, xa, xs⟩) w' := by
  obtain ⟨w1, hw1⟩ : ∃ w1, w1 = (w.alloc (.cells #[.bool xi, .int .i64 xn, .int .i64 xp, .int .i64 xb, .int .i64 xl, .int .i64 xa, .int .i64 xs] 26)).alloc (.cells #[.bool yi, .int .i64 yn, .int .i64 yp, .int .i64 yb, .int .i64 yl, .int .i64 ya, .int .i64 ys] 26) := ⟨_, rfl⟩
  have h1w : Below w.heap.size w w1 := by rw [hw1]; exact ext_alloc (ext_alloc (Below.refl _ _) _) _
  have hBx : Bk w1 w.heap.size 26 #[.bool xi, .int .i64 xn, .int .i64 xp, .int .i64 xb, .int .i64 xl, .int .i64 xa, .int .i64 xs] := by rw [hw1]; exact bk_old _ (bk_new _ _ _)
  have hBy : Bk w1 (w.heap.size + 1) 26 #[.bool yi, .int .i64 yn, .int .i64 yp, .int .i64 yb, .int .i64 yl, .int .i64 ya, .int .i64 ys] := by rw [hw1]; exact bk_new' _ _ (by simp)
  have hl11 := h11.lt
  have ne1 : ¬ (w.heap.size + 1 = g11) := by omega
  have ne2 : ¬ (g11 = w.heap.size + 1) := by omega
  have ne3 : ¬ (w.heap.size = g11) := by omega
  have ne4 : ¬ (g11 = w.heap.size) := by omega
  have k10 := bk_keep h1w h10
  have k11 := bk_keep h1w h11
  have hi := fun x : Later w1 => hits1_any g4 g5 b n xp xb xl xa xs x.val ((x.bk (bk_keep h1w h4)).cell 0) ((x.bk (bk_keep h1w h5)).cell 0) (x.lt (bk_keep h1w h4).lt) (x.lt (bk_keep h1w h5).lt) b0 b1 n0 n1 k0 k1 l0 l1
  have q10 : ∀ x : Later w1, x.val.cell? ⟨g10, 0, none⟩ = some (.func (.func 32) #[] #[.pointer (some ⟨g5, 0, none⟩), .pointer (some ⟨g4, 0, none⟩)]) := fun x => (x.bk k10).cell 0
  have q11 : ∀ x : Later w1, x.val.cell? ⟨g11, 0, none⟩ = some (.int .i64 cnt) := fun x => (x.bk k11).cell 0
  have f11 : ∀ x : Later w1, x.val.frozen? ⟨g11, 0, none⟩ = false := fun x => (x.bk k11).frozen 0
  have L11 : ∀ x : Later w1, g11 < x.val.heap.size := fun x => x.lt k11.lt
  have x0 : ∀ x : Later w1, x.val.cell? ⟨w.heap.size, 0, none⟩ = some (.bool xi) := fun x => (x.bk hBx).cell 0
  have x1 : ∀ x : Later w1, x.val.cell? ⟨w.heap.size, 1, none⟩ = some (.int .i64 xn) := fun x => (x.bk hBx).cell 1
  have x2 : ∀ x : Later w1, x.val.cell? ⟨w.heap.size, 2, none⟩ = some (.int .i64 xp) := fun x => (x.bk hBx).cell 2
  have x3 : ∀ x : Later w1, x.val.cell? ⟨w.heap.size, 3, none⟩ = some (.int .i64 xb) := fun x => (x.bk hBx).cell 3
  have x4 : ∀ x : Later w1, x.val.cell? ⟨w.heap.size, 4, none⟩ = some (.int .i64 xl) := fun x => (x.bk hBx).cell 4
  have x5 : ∀ x : Later w1, x.val.cell? ⟨w.heap.size, 5, none⟩ = some (.int .i64 xa) := fun x => (x.bk hBx).cell 5
  have x6 : ∀ x : Later w1, x.val.cell? ⟨w.heap.size, 6, none⟩ = some (.int .i64 xs) := fun x => (x.bk hBx).cell 6
  have Lx : ∀ x : Later w1, w.heap.size < x.val.heap.size := fun x => x.lt hBx.lt
  have y0 : ∀ x : Later w1, x.val.cell? ⟨w.heap.size + 1, 0, none⟩ = some (.bool yi) := fun x => (x.bk hBy).cell 0
  have y1 : ∀ x : Later w1, x.val.cell? ⟨w.heap.size + 1, 1, none⟩ = some (.int .i64 yn) := fun x => (x.bk hBy).cell 1
  have y2 : ∀ x : Later w1, x.val.cell? ⟨w.heap.size + 1, 2, none⟩ = some (.int .i64 yp) := fun x => (x.bk hBy).cell 2
  have y3 : ∀ x : Later w1, x.val.cell? ⟨w.heap.size + 1, 3, none⟩ = some (.int .i64 yb) := fun x => (x.bk hBy).cell 3
  have y4 : ∀ x : Later w1, x.val.cell? ⟨w.heap.size + 1, 4, none⟩ = some (.int .i64 yl) := fun x => (x.bk hBy).cell 4
  have y5 : ∀ x : Later w1, x.val.cell? ⟨w.heap.size + 1, 5, none⟩ = some (.int .i64 ya) := fun x => (x.bk hBy).cell 5
  have y6 : ∀ x : Later w1, x.val.cell? ⟨w.heap.size + 1, 6, none⟩ = some (.int .i64 ys) := fun x => (x.bk hBy).cell 6
  have Ly : ∀ x : Later w1, w.heap.size + 1 < x.val.heap.size := fun x => x.lt hBy.lt
  have P10 : w1.cell? ⟨g10, 0, none⟩ = some (.func (.func 32) #[] #[.pointer (some ⟨g5, 0, none⟩), .pointer (some ⟨g4, 0, none⟩)]) := k10.cell 0
  have Px0 := hBx.cell 0
  have Py0 := hBy.cell 0
  have Px1 := hBx.cell 1
  have Py1 := hBy.cell 1
  have Px2 := hBx.cell 2
  have Py2 := hBy.cell 2
  have Px3 := hBx.cell 3
  have Py3 := hBy.cell 3
  have Px4 := hBx.cell 4
  have Py4 := hBy.cell 4
  have Px5 := hBx.cell 5
  have Py5 := hBy.cell 5
  have Px6 := hBx.cell 6
  have Py6 := hBy.cell 6
  simp only [List.getElem?_toArray, List.getElem?_cons_succ, List.getElem?_cons_zero] at Px0 Py0 Px1 Py1 Px2 Py2 Px3 Py3 Px4 Py4 Px5 Py5 Px6 Py6
  have HW1 := Lib.hid hw1
  have H1W := Lib.hid h1w
  have HI := Lib.hid hi
  clear hw1 h1w hi hBx hBy k10 k11 h4 h5 h10 h11
  cases xi
  · simp only [Bool.false_and]
    have ey : (⟨yi, yn, ⟨yp, yb, yl, ya, ys⟩⟩ : ValV) = ⟨false, xn, ⟨xp, xb, xl, xa, xs⟩⟩ := by rw [hY]; unfold swV; simp
    have q := fun W => run_eql_val ⟨false, xn, ⟨xp, xb, xl, xa, xs⟩⟩ ⟨yi, yn, ⟨yp, yb, yl, ya, ys⟩⟩ W
    simp only [decide_eq_true ey.symm] at q
    simp only [ValV.val] at q
    clear hY ey
    go_enter Try.func33, Try.ntmps33
    go_upto_region 1 with (fail)
    rw [← HW1.out]
    go_wp2
    go_ret
    exact ⟨rfl, w1, H1W.out, rfl⟩
  · simp only [Bool.true_and]
    cases hh : hitsB b n ⟨xp, xb, xl, xa, xs⟩
    · have hi2 := fun W (h : Below w1.heap.size w1 W) => HI.out ⟨W, h⟩
      rw [hh] at hi2
      have HI2 := Lib.hid hi2
      have ey : (⟨yi, yn, ⟨yp, yb, yl, ya, ys⟩⟩ : ValV) = ⟨true, xn, ⟨xp, xb, xl, xa, xs⟩⟩ := by rw [hY]; unfold swV; simp only [hh, Bool.true_and, Bool.and_false, Bool.false_eq_true, if_false]
      have q := fun W => run_eql_val ⟨true, xn, ⟨xp, xb, xl, xa, xs⟩⟩ ⟨yi, yn, ⟨yp, yb, yl, ya, ys⟩⟩ W
      simp only [decide_eq_true ey.symm] at q
      simp only [ValV.val] at q
      clear hi2 hh hY ey
      go_enter Try.func33, Try.ntmps33
      go_upto_region 1 with (fail)
      rw [← HW1.out]
      go_wp2_with (go_at_call 32; ((with_reducible refine (HI2.out _ (Below.refl _ _)).mono ?_); rintro e w2 ⟨rfl, hb⟩; obtain ⟨y2, rfl⟩ := later_call (Below.refl _ _) hb; clear hb))
      go_ret
      exact ⟨rfl, y2.val, ext_trans H1W.out y2.ok, rfl⟩
    · have hi2 := fun W (h : Below w1.heap.size w1 W) => HI.out ⟨W, h⟩
      rw [hh] at hi2
      have HI2 := Lib.hid hi2
      have ey : (⟨yi, yn, ⟨yp, yb, yl, ya, ys⟩⟩ : ValV) = zeroV := by rw [hY]; unfold swV; simp only [hh, Bool.true_and, if_true]
      have q := fun W => run_eql_val ⟨yi, yn, ⟨yp, yb, yl, ya, ys⟩⟩ zeroV W
      simp only [decide_eq_true ey] at q
      simp only [ValV.val, zeroV, zeroK] at q
      clear hi2 hh hY ey
      go_enter Try.func33, Try.ntmps33
      go_upto_region 1 with (fail)
      rw [← HW1.out]
      go_wp2_with (go_at_call 32; ((with_reducible refine (HI2.out _ (Below.refl _ _)).mono ?_); rintro e w2 ⟨rfl, hb⟩; obtain ⟨y2, rfl⟩ := later_call (Below.refl _ _) hb; clear hb))
      go_ret
      exact ⟨rfl, y2.val, ext_trans H1W.out y2.ok, rfl⟩
set_option maxHeartbeats 2000000 in
theorem swo_key (g4 g5 g10 g11 : Nat) (b n cnt : Int) (xp xb xl xa xs yp yb yl ya ys : Int) (w : World) (T0 T1 T2 : TypeId) (h4 : Bk w g4 T0 #[.int .i64 b]) (h5 : Bk w g5 T0 #[.int .i64 n]) (h10 : Bk w g10 T1 #[.func (.func 32) #[] #[.pointer (some ⟨g5, 0, none⟩), .pointer (some ⟨g4, 0, none⟩)]]) (h11 : Bk w g11 T2 #[.int .i64 cnt])
    (b0 : 0 ≤ b) (b1 : b ≤ 400) (n0 : 0 ≤ n) (n1 : n ≤ 400) (m0 : 0 ≤ cnt) (m1 : cnt ≤ 10000)
    (k0 : 0 ≤ xb) (k1 : xb ≤ 400) (l0 : 0 ≤ xl) (l1 : xl ≤ 400) (hY : (⟨yp, yb, yl, ya, ys⟩ : KeyV) = swK b n ⟨xp, xb, xl, xa, xs⟩) :
    Calls Try.prog 35 #[.agg #[.int .i64 xp, .int .i64 xb, .int .i64 xl, .int .i64 xa, .int .i64 xs], .agg #[.int .i64 yp, .int .i64 yb, .int .i64 yl, .int .i64 ya, .int .i64 ys], .pointer (some ⟨g10, 0, none⟩), .pointer (some ⟨g11, 0, none⟩)] w fun e w' => e = .returned (.bool true) ∧ CntPost w g11 cnt (hitsB b n ⟨xp, xb, xl, xa, xs⟩) w' := by
  obtain ⟨w1, hw1⟩ : ∃ w1, w1 = (w.alloc (.cells #[.int .i64 xp, .int .i64 xb, .int .i64 xl, .int .i64 xa, .int .i64 xs] 24)).alloc (.cells #[.int .i64 yp, .int .i64 yb, .int .i64 yl, .int .i64 ya, .int .i64 ys] 24) := ⟨_, rfl⟩
  have h1w : Below w.heap.size w w1 := by rw [hw1]; exact ext_alloc (ext_alloc (Below.refl _ _) _) _
  have hBx : Bk w1 w.heap.size 24 #[.int .i64 xp, .int .i64 xb, .int .i64 xl, .int .i64 xa, .int .i64 xs] := by rw [hw1]; exact bk_old _ (bk_new _ _ _)
  have hBy : Bk w1 (w.heap.size + 1) 24 #[.int .i64 yp, .int .i64 yb, .int .i64 yl, .int .i64 ya, .int .i64 ys] := by rw [hw1]; exact bk_new' _ _ (by simp)
  have hl11 := h11.lt
  have ne1 : ¬ (w.heap.size + 1 = g11) := by omega
  have ne2 : ¬ (g11 = w.heap.size + 1) := by omega
  have ne3 : ¬ (w.heap.size = g11) := by omega
  have ne4 : ¬ (g11 = w.heap.size) := by omega
  have k10 := bk_keep h1w h10
  have k11 := bk_keep h1w h11
  have hi := fun x : Later w1 => hits1_any g4 g5 b n xp xb xl xa xs x.val ((x.bk (bk_keep h1w h4)).cell 0) ((x.bk (bk_keep h1w h5)).cell 0) (x.lt (bk_keep h1w h4).lt) (x.lt (bk_keep h1w h5).lt) b0 b1 n0 n1 k0 k1 l0 l1
  have q10 : ∀ x : Later w1, x.val.cell? ⟨g10, 0, none⟩ = some (.func (.func 32) #[] #[.pointer (some ⟨g5, 0, none⟩), .pointer (some ⟨g4, 0, none⟩)]) := fun x => (x.bk k10).cell 0
  have q11 : ∀ x : Later w1, x.val.cell? ⟨g11, 0, none⟩ = some (.int .i64 cnt) := fun x => (x.bk k11).cell 0
  have f11 : ∀ x : Later w1, x.val.frozen? ⟨g11, 0, none⟩ = false := fun x => (x.bk k11).frozen 0
  have L11 : ∀ x : Later w1, g11 < x.val.heap.size := fun x => x.lt k11.lt
  have x0 : ∀ x : Later w1, x.val.cell? ⟨w.heap.size, 0, none⟩ = some (.int .i64 xp) := fun x => (x.bk hBx).cell 0
  have x1 : ∀ x : Later w1, x.val.cell? ⟨w.heap.size, 1, none⟩ = some (.int .i64 xb) := fun x => (x.bk hBx).cell 1
  have x2 : ∀ x : Later w1, x.val.cell? ⟨w.heap.size, 2, none⟩ = some (.int .i64 xl) := fun x => (x.bk hBx).cell 2
  have x3 : ∀ x : Later w1, x.val.cell? ⟨w.heap.size, 3, none⟩ = some (.int .i64 xa) := fun x => (x.bk hBx).cell 3
  have x4 : ∀ x : Later w1, x.val.cell? ⟨w.heap.size, 4, none⟩ = some (.int .i64 xs) := fun x => (x.bk hBx).cell 4
  have Lx : ∀ x : Later w1, w.heap.size < x.val.heap.size := fun x => x.lt hBx.lt
  have y0 : ∀ x : Later w1, x.val.cell? ⟨w.heap.size + 1, 0, none⟩ = some (.int .i64 yp) := fun x => (x.bk hBy).cell 0
  have y1 : ∀ x : Later w1, x.val.cell? ⟨w.heap.size + 1, 1, none⟩ = some (.int .i64 yb) := fun x => (x.bk hBy).cell 1
  have y2 : ∀ x : Later w1, x.val.cell? ⟨w.heap.size + 1, 2, none⟩ = some (.int .i64 yl) := fun x => (x.bk hBy).cell 2
  have y3 : ∀ x : Later w1, x.val.cell? ⟨w.heap.size + 1, 3, none⟩ = some (.int .i64 ya) := fun x => (x.bk hBy).cell 3
  have y4 : ∀ x : Later w1, x.val.cell? ⟨w.heap.size + 1, 4, none⟩ = some (.int .i64 ys) := fun x => (x.bk hBy).cell 4
  have Ly : ∀ x : Later w1, w.heap.size + 1 < x.val.heap.size := fun x => x.lt hBy.lt
  have P10 : w1.cell? ⟨g10, 0, none⟩ = some (.func (.func 32) #[] #[.pointer (some ⟨g5, 0, none⟩), .pointer (some ⟨g4, 0, none⟩)]) := k10.cell 0
  have Px0 := hBx.cell 0
  have Py0 := hBy.cell 0
  have Px1 := hBx.cell 1
  have Py1 := hBy.cell 1
  have Px2 := hBx.cell 2
  have Py2 := hBy.cell 2
  have Px3 := hBx.cell 3
  have Py3 := hBy.cell 3
  have Px4 := hBx.cell 4
  have Py4 := hBy.cell 4
  simp only [List.getElem?_toArray, List.getElem?_cons_succ, List.getElem?_cons_zero] at Px0 Py0 Px1 Py1 Px2 Py2 Px3 Py3 Px4 Py4
  have HW1 := Lib.hid hw1
  have H1W := Lib.hid h1w
  have HI := Lib.hid hi
  clear hw1 h1w hi hBx hBy k10 k11 h4 h5 h10 h11
  cases hh : hitsB b n ⟨xp, xb, xl, xa, xs⟩
  · have hi2 := fun W (h : Below w1.heap.size w1 W) => HI.out ⟨W, h⟩
    rw [hh] at hi2
    have HI2 := Lib.hid hi2
    have ey : (⟨yp, yb, yl, ya, ys⟩ : KeyV) = ⟨xp, xb, xl, xa, xs⟩ := by rw [hY]; unfold swK; rw [hh]; rfl
    have q := fun W => run_eql_key ⟨xp, xb, xl, xa, xs⟩ ⟨yp, yb, yl, ya, ys⟩ W
    simp only [decide_eq_true ey.symm] at q
    simp only [KeyV.val] at q
    clear hi2 hh hY ey
    go_enter Try.func35, Try.ntmps35
    go_upto_region 1 with (fail)
    rw [← HW1.out]
    go_wp2_with (go_at_call 32; ((with_reducible refine (HI2.out _ (Below.refl _ _)).mono ?_); rintro e w2 ⟨rfl, hb⟩; obtain ⟨y2, rfl⟩ := later_call (Below.refl _ _) hb; clear hb))
    go_ret
    exact ⟨rfl, y2.val, ext_trans H1W.out y2.ok, rfl⟩
  · have hi2 := fun W (h : Below w1.heap.size w1 W) => HI.out ⟨W, h⟩
    rw [hh] at hi2
    have HI2 := Lib.hid hi2
    have ey : (⟨yp, yb, yl, ya, ys⟩ : KeyV) = zeroK := by rw [hY]; unfold swK; rw [hh]; rfl
    have q := fun W => run_eql_key ⟨yp, yb, yl, ya, ys⟩ zeroK W
    simp only [decide_eq_true ey] at q
    simp only [KeyV.val, zeroK] at q
    clear hi2 hh hY ey
    go_enter Try.func35, Try.ntmps35
    go_upto_region 1 with (fail)
    rw [← HW1.out]
    go_wp2_with (go_at_call 32; ((with_reducible refine (HI2.out _ (Below.refl _ _)).mono ?_); rintro e w2 ⟨rfl, hb⟩; obtain ⟨y2, rfl⟩ := later_call (Below.refl _ _) hb; clear hb))
    go_ret
    exact ⟨rfl, y2.val, ext_trans H1W.out y2.ok, rfl⟩
end Go.Proofs.Ytlbhnkbchiklnaa
