import Derived.Test.YtopdnihokbhjfaaDoorMOwnZ
import Derived.Test.YtopdnihokbhjfaaDoorMachCopyZ
import Derived.Test.YtopdnihokbhjfaaDoorLiftMachZZ
/- StepOne. -/
namespace Go.Proofs.YtopdnihokbhjfaaDoor
open Go.RowKit
set_option linter.unusedVariables false
set_option linter.unusedSimpArgs false
theorem stepF_h8o {m : MV} (h8 : m.R.length = 8) : (stepF m).1.R.length = 8 := by
  by_cases he : (stepF m).2 = 0
  · obtain ⟨hk, h1, _⟩ := stepF_ok h8 he
    exact (one_ok hk h1).2
  · rw [stepF_bad he]; rfl
theorem copy_own {g : Nat} {m : MV} {cs : Array Value} {W : World} (h : MBox g m cs W) (zm : m.mem.length * 56 ≤ 140737488351232) (zs : m.stk.length * 96 ≤ 140737488351232) (zo : m.out.length * 8 ≤ 140737488351232) :
    Calls Tryd.prog 12 #[.agg cs] W fun e w' => ∃ cs', e = .returned (.agg cs') ∧ MOwn W.heap.size m cs' w' ∧ Below W.heap.size W w' := by
  obtain ⟨ma, sa, oa, mc, sc, oc, rfl, h1, h2, h3⟩ := h.row
  refine (rcopy_any m.R m.c m.mem m.stk m.out ma sa oa mc sc oc W h.h8 h1 h2 h3 (by omega) (by omega) (by omega)).mono ?_
  rintro e w' ⟨vm, vs, vo, rfl, om, os, oo, hb⟩
  exact ⟨_, rfl, ⟨h.h8, vm, vs, vo, rfl, om, os, oo⟩, hb⟩
theorem meq_zero {g : Nat} {cs : Array Value} {W : World} (h : MBox g zeroMV cs W) :
    Calls Tryd.prog 15 #[.agg cs, .agg #[.bool false, .int .i64 0, .int .i64 0, .int .i64 0, .int .i64 0, .int .i64 0, .int .i64 0, .bool false, .int .i64 0, .int .i64 0, .int .i64 0, .int .i64 0, .int .i64 0, .int .i64 0, .bool false, .int .i64 0, .int .i64 0, .int .i64 0, .int .i64 0, .int .i64 0, .int .i64 0, .bool false, .int .i64 0, .int .i64 0, .int .i64 0, .int .i64 0, .int .i64 0, .int .i64 0, .bool false, .int .i64 0, .int .i64 0, .int .i64 0, .int .i64 0, .int .i64 0, .int .i64 0, .bool false, .int .i64 0, .int .i64 0, .int .i64 0, .int .i64 0, .int .i64 0, .int .i64 0, .bool false, .int .i64 0, .int .i64 0, .int .i64 0, .int .i64 0, .int .i64 0, .int .i64 0, .bool false, .int .i64 0, .int .i64 0, .int .i64 0, .int .i64 0, .int .i64 0, .int .i64 0, .int .i64 0, .int .i64 0, .int .i64 0, .int .i64 0, .int .i64 0, .slice none 0 0, .slice none 0 0, .slice none 0 0]] W fun e w' => e = .returned (.bool true) ∧ Below W.heap.size W w' := by
  obtain ⟨ma, sa, oa, mc, sc, oc, rfl, h1, h2, h3⟩ := h.row
  have := meq_any zeroMV.R zeroR zeroMV.c zeroK zeroMV.mem [] zeroMV.stk [] zeroMV.out [] ma sa oa none none none mc sc oc 0 0 0 W h.h8 rfl h1 h2 h3 (Sl.nil _ _) (Sl.nil _ _) (Sl.nil _ _)
  rw [decide_eq_true (show zeroMV.R = zeroR ∧ zeroMV.c = zeroK ∧ zeroMV.mem = [] ∧ zeroMV.stk = [] ∧ zeroMV.out = [] from ⟨rfl, rfl, rfl, rfl, rfl⟩)] at this
  exact this
set_option maxHeartbeats 8000000 in
set_option maxRecDepth 100000 in
theorem one_ok' (m : MV) (cs : Array Value) (w : World) (hbox : MBox w.heap.size m cs (w.alloc (.cells cs 31))) (ht : Tab w) (zm : m.mem.length * 56 ≤ 140737488351232) (zs : m.stk.length * 96 ≤ 140737488351232) (zo : m.out.length * 8 ≤ 140737488351232)
    (he : (stepF m).2 = 0) : Calls Tryd.prog 3 #[.agg cs] w fun e w' => e = .returned (.bool true) ∧ Below w.heap.size w w' := by
  have h8 := hbox.h8
  have hX8 := stepF_h8o h8
  obtain ⟨⟨X, er⟩, s1⟩ : ∃ x, stepF m = x := ⟨_, rfl⟩
  rw [s1] at he hX8
  simp only at he hX8
  subst he
  obtain ⟨w1, hw1⟩ : ∃ w1, w1 = w.alloc (.cells cs 31) := ⟨_, rfl⟩
  have h1w : Below w.heap.size w w1 := by rw [hw1]; exact ext_alloc (Below.refl _ _) _
  rw [← hw1] at hbox
  have SD := Lib.hid (fun W (h : Below w.heap.size w W) => stepped_any W (ht.below h))
  have MX := Lib.hid hbox
  have S1 := Lib.hid s1
  have HX8 := Lib.hid hX8
  have HW1 := Lib.hid hw1
  have H1W := Lib.hid h1w
  have HT := Lib.hid ht
  have ZM := Lib.hid zm
  have ZS := Lib.hid zs
  have ZO := Lib.hid zo
  clear hbox s1 hX8 hw1 h1w ht zm zs zo h8
  go_enter Tryd.func3, Tryd.ntmps3
  go_upto_region 1 with (fail)
  rw [← HW1.out]
  go_upto_region 2 with (first
    | (refine wpList_load_sub rfl 31 (.tmp 1) rfl w.heap.size 0 64 rfl 31 _ _ MX.out.bk Tryd.underlying31 rfl (by kernel_rfl) MX.out.size _ MX.out.all ?_)
    | (go_at_call 12; ((with_reducible refine (copy_own MX.out ZM.out ZS.out ZO.out).mono ?_); rintro e u1 ⟨cs1, rfl, mo, hb⟩; have MO1 := Lib.hid mo; have MX1 := Lib.hid mo.alloc; have HB1 := Lib.hid hb; clear hb mo))
    | (refine wpList_store_fresh rfl 31 (.tmp 3) (.tmp 9) rfl rfl cs1 31 _ rfl rfl (by rw [MO1.out.sz]; kernel_rfl) (by rw [MO1.out.sz]; kernel_rfl) MO1.out.one ?_))
  go_upto_region 3 with (first
    | (refine wpList_load_sub rfl 31 (.tmp 1) rfl w.heap.size 0 64 rfl 31 _ _ (MX.out.below (ext_alloc HB1.out _)).bk Tryd.underlying31 rfl (by kernel_rfl) MX.out.size _ MX.out.all ?_)
    | (go_at_call 13; ((with_reducible refine (step_own (MX.out.below (ext_alloc HB1.out _)) (HT.out.below (ext_trans H1W.out (ext_alloc HB1.out _))) S1.out HX8.out).mono ?_); rintro e u2 ⟨cs2, rfl, mo, hb⟩; have MO2 := Lib.hid mo; have MX2 := Lib.hid mo.alloc; have HB2 := Lib.hid hb; clear hb mo))
    | (refine wpList_store_fresh rfl 31 (.tmp 4) (.tmp 13) rfl rfl cs2 31 _ rfl rfl (by rw [MO2.out.sz]; kernel_rfl) (by rw [MO2.out.sz]; kernel_rfl) MO2.out.one ?_))
  go_upto_region 4 with (first
    | (refine wpList_load_sub rfl 31 (.tmp 3) rfl u1.heap.size 0 64 rfl 31 _ _ (MX1.out.below (ext_alloc HB2.out _)).bk Tryd.underlying31 rfl (by kernel_rfl) MX1.out.size _ MX1.out.all ?_)
    | (go_at_call 13; ((with_reducible refine (step_own (MX1.out.below (ext_alloc HB2.out _)) (HT.out.below (ext_trans H1W.out (ext_alloc (ext_trans (ext_alloc HB1.out _) HB2.out) _))) S1.out HX8.out).mono ?_); rintro e u3 ⟨cs3, rfl, mo, hb⟩; have MO3 := Lib.hid mo; have MX3 := Lib.hid mo.alloc; have HB3 := Lib.hid hb; clear hb mo))
    | (refine wpList_store_fresh rfl 31 (.tmp 6) (.tmp 18) rfl rfl cs3 31 _ rfl rfl (by rw [MO3.out.sz]; kernel_rfl) (by rw [MO3.out.sz]; kernel_rfl) MO3.out.one ?_))
  go_wp2_with (first
    | (go_at_call 14; ((with_reducible refine (SD.out _ (ext_trans H1W.out (ext_alloc (ext_trans (ext_alloc (ext_trans (ext_alloc HB1.out _) HB2.out) _) HB3.out) _))).mono ?_); rintro e u4 ⟨rfl, hb⟩; have HB4 := Lib.hid hb; clear hb))
    | (refine wpList_load_sub_w rfl 31 (.tmp 1) rfl w.heap.size 0 64 rfl 31 _ _ (MX.out.below (ext_trans (ext_alloc (ext_trans (ext_alloc (ext_trans (ext_alloc HB1.out _) HB2.out) _) HB3.out) _) HB4.out)).bk Tryd.underlying31 rfl (by kernel_rfl) MX.out.size _ MX.out.all ?_)
    | (refine wpList_load_sub_w rfl 31 (.tmp 3) rfl u1.heap.size 0 64 rfl 31 _ _ (MX1.out.below (ext_trans (ext_alloc (ext_trans (ext_alloc HB2.out _) HB3.out) _) HB4.out)).bk Tryd.underlying31 rfl (by kernel_rfl) MX1.out.size _ MX1.out.all ?_)
    | (go_at_call 15; ((with_reducible refine (meq_box (MX.out.below (ext_trans (ext_alloc (ext_trans (ext_alloc (ext_trans (ext_alloc HB1.out _) HB2.out) _) HB3.out) _) HB4.out)) (MX1.out.below (ext_trans (ext_alloc (ext_trans (ext_alloc HB2.out _) HB3.out) _) HB4.out))).mono ?_); rintro e u5 ⟨rfl, hb⟩; have HB5 := Lib.hid hb; clear hb))
    | (refine wpList_load_sub_w rfl 31 (.tmp 4) rfl u2.heap.size 0 64 rfl 31 _ _ (MX2.out.below (ext_trans (ext_trans (ext_alloc HB3.out _) HB4.out) HB5.out)).bk Tryd.underlying31 rfl (by kernel_rfl) MX2.out.size _ MX2.out.all ?_)
    | (refine wpList_load_sub_w rfl 31 (.tmp 6) rfl u3.heap.size 0 64 rfl 31 _ _ (MX3.out.below (ext_trans HB4.out HB5.out)).bk Tryd.underlying31 rfl (by kernel_rfl) MX3.out.size _ MX3.out.all ?_)
    | (go_at_call 15; ((with_reducible refine (meq_box (MX2.out.below (ext_trans (ext_trans (ext_alloc HB3.out _) HB4.out) HB5.out)) (MX3.out.below (ext_trans HB4.out HB5.out))).mono ?_); rintro e u6 ⟨rfl, hb⟩; have HB6 := Lib.hid hb; clear hb)))
  go_ret
  exact ⟨rfl, ext_trans H1W.out (ext_trans (ext_trans (ext_trans (ext_alloc (ext_trans (ext_alloc (ext_trans (ext_alloc HB1.out _) HB2.out) _) HB3.out) _) HB4.out) HB5.out) HB6.out)⟩
set_option maxHeartbeats 8000000 in
set_option maxRecDepth 100000 in
theorem one_bad (m : MV) (cs : Array Value) (w : World) (hbox : MBox w.heap.size m cs (w.alloc (.cells cs 31))) (ht : Tab w) (zm : m.mem.length * 56 ≤ 140737488351232) (zs : m.stk.length * 96 ≤ 140737488351232) (zo : m.out.length * 8 ≤ 140737488351232)
    (he : (stepF m).2 ≠ 0) : Calls Tryd.prog 3 #[.agg cs] w fun e w' => e = .returned (.bool true) ∧ Below w.heap.size w w' := by
  have h8 := hbox.h8
  have hX8 := stepF_h8o h8
  have hz := stepF_bad he
  obtain ⟨⟨X, er⟩, s1⟩ : ∃ x, stepF m = x := ⟨_, rfl⟩
  rw [s1] at he hX8
  simp only at he hX8
  rw [s1] at hz
  simp only at hz
  subst hz
  have g1 : (er == 0) = false := by simpa using he
  have g2 : (er != 0) = true := by simpa using he
  obtain ⟨w1, hw1⟩ : ∃ w1, w1 = w.alloc (.cells cs 31) := ⟨_, rfl⟩
  have h1w : Below w.heap.size w w1 := by rw [hw1]; exact ext_alloc (Below.refl _ _) _
  rw [← hw1] at hbox
  have SD := Lib.hid (fun W (h : Below w.heap.size w W) => stepped_any W (ht.below h))
  have MX := Lib.hid hbox
  have S1 := Lib.hid s1
  have HX8 := Lib.hid hX8
  have HW1 := Lib.hid hw1
  have H1W := Lib.hid h1w
  have HT := Lib.hid ht
  have ZM := Lib.hid zm
  have ZS := Lib.hid zs
  have ZO := Lib.hid zo
  clear hbox s1 hX8 hw1 h1w ht zm zs zo h8
  go_enter Tryd.func3, Tryd.ntmps3
  go_upto_region 1 with (fail)
  rw [← HW1.out]
  go_upto_region 2 with (first
    | (refine wpList_load_sub rfl 31 (.tmp 1) rfl w.heap.size 0 64 rfl 31 _ _ MX.out.bk Tryd.underlying31 rfl (by kernel_rfl) MX.out.size _ MX.out.all ?_)
    | (go_at_call 12; ((with_reducible refine (copy_own MX.out ZM.out ZS.out ZO.out).mono ?_); rintro e u1 ⟨cs1, rfl, mo, hb⟩; have MO1 := Lib.hid mo; have MX1 := Lib.hid mo.alloc; have HB1 := Lib.hid hb; clear hb mo))
    | (refine wpList_store_fresh rfl 31 (.tmp 3) (.tmp 9) rfl rfl cs1 31 _ rfl rfl (by rw [MO1.out.sz]; kernel_rfl) (by rw [MO1.out.sz]; kernel_rfl) MO1.out.one ?_))
  go_upto_region 3 with (first
    | (refine wpList_load_sub rfl 31 (.tmp 1) rfl w.heap.size 0 64 rfl 31 _ _ (MX.out.below (ext_alloc HB1.out _)).bk Tryd.underlying31 rfl (by kernel_rfl) MX.out.size _ MX.out.all ?_)
    | (go_at_call 13; ((with_reducible refine (step_own (MX.out.below (ext_alloc HB1.out _)) (HT.out.below (ext_trans H1W.out (ext_alloc HB1.out _))) S1.out HX8.out).mono ?_); rintro e u2 ⟨cs2, rfl, mo, hb⟩; have MO2 := Lib.hid mo; have MX2 := Lib.hid mo.alloc; have HB2 := Lib.hid hb; clear hb mo))
    | (refine wpList_store_fresh rfl 31 (.tmp 4) (.tmp 13) rfl rfl cs2 31 _ rfl rfl (by rw [MO2.out.sz]; kernel_rfl) (by rw [MO2.out.sz]; kernel_rfl) MO2.out.one ?_))
  go_upto_region 4 with (first
    | (refine wpList_load_sub rfl 31 (.tmp 3) rfl u1.heap.size 0 64 rfl 31 _ _ (MX1.out.below (ext_alloc HB2.out _)).bk Tryd.underlying31 rfl (by kernel_rfl) MX1.out.size _ MX1.out.all ?_)
    | (go_at_call 13; ((with_reducible refine (step_own (MX1.out.below (ext_alloc HB2.out _)) (HT.out.below (ext_trans H1W.out (ext_alloc (ext_trans (ext_alloc HB1.out _) HB2.out) _))) S1.out HX8.out).mono ?_); rintro e u3 ⟨cs3, rfl, mo, hb⟩; have MO3 := Lib.hid mo; have MX3 := Lib.hid mo.alloc; have HB3 := Lib.hid hb; clear hb mo))
    | (refine wpList_store_fresh rfl 31 (.tmp 6) (.tmp 18) rfl rfl cs3 31 _ rfl rfl (by rw [MO3.out.sz]; kernel_rfl) (by rw [MO3.out.sz]; kernel_rfl) MO3.out.one ?_))
  go_wp2_with (first
    | (go_at_call 14; ((with_reducible refine (SD.out _ (ext_trans H1W.out (ext_alloc (ext_trans (ext_alloc (ext_trans (ext_alloc HB1.out _) HB2.out) _) HB3.out) _))).mono ?_); rintro e u4 ⟨rfl, hb⟩; have HB4 := Lib.hid hb; clear hb))
    | (refine wpList_load_sub_w rfl 31 (.tmp 1) rfl w.heap.size 0 64 rfl 31 _ _ (MX.out.below (ext_trans (ext_alloc (ext_trans (ext_alloc (ext_trans (ext_alloc HB1.out _) HB2.out) _) HB3.out) _) HB4.out)).bk Tryd.underlying31 rfl (by kernel_rfl) MX.out.size _ MX.out.all ?_)
    | (refine wpList_load_sub_w rfl 31 (.tmp 3) rfl u1.heap.size 0 64 rfl 31 _ _ (MX1.out.below (ext_trans (ext_alloc (ext_trans (ext_alloc HB2.out _) HB3.out) _) HB4.out)).bk Tryd.underlying31 rfl (by kernel_rfl) MX1.out.size _ MX1.out.all ?_)
    | (go_at_call 15; ((with_reducible refine (meq_box (MX.out.below (ext_trans (ext_alloc (ext_trans (ext_alloc (ext_trans (ext_alloc HB1.out _) HB2.out) _) HB3.out) _) HB4.out)) (MX1.out.below (ext_trans (ext_alloc (ext_trans (ext_alloc HB2.out _) HB3.out) _) HB4.out))).mono ?_); rintro e u5 ⟨rfl, hb⟩; have HB5 := Lib.hid hb; clear hb))
    | (refine wpList_load_sub_w rfl 31 (.tmp 4) rfl u2.heap.size 0 64 rfl 31 _ _ (MX2.out.below (ext_trans (ext_trans (ext_alloc HB3.out _) HB4.out) HB5.out)).bk Tryd.underlying31 rfl (by kernel_rfl) MX2.out.size _ MX2.out.all ?_)
    | (refine wpList_load_sub_w rfl 31 (.tmp 6) rfl u3.heap.size 0 64 rfl 31 _ _ (MX3.out.below (ext_trans HB4.out HB5.out)).bk Tryd.underlying31 rfl (by kernel_rfl) MX3.out.size _ MX3.out.all ?_)
    | (go_at_call 15; ((with_reducible refine (meq_box (MX2.out.below (ext_trans (ext_trans (ext_alloc HB3.out _) HB4.out) HB5.out)) (MX3.out.below (ext_trans HB4.out HB5.out))).mono ?_); rintro e u6 ⟨rfl, hb⟩; have HB6 := Lib.hid hb; clear hb))
    | (refine wpList_load_sub_w rfl 31 (.tmp 4) rfl u2.heap.size 0 64 rfl 31 _ _ (MX2.out.below (ext_trans (ext_trans (ext_trans (ext_alloc HB3.out _) HB4.out) HB5.out) HB6.out)).bk Tryd.underlying31 rfl (by kernel_rfl) MX2.out.size _ MX2.out.all ?_)
    | (go_at_call 15; ((with_reducible refine (meq_zero (MX2.out.below (ext_trans (ext_trans (ext_trans (ext_alloc HB3.out _) HB4.out) HB5.out) HB6.out))).mono ?_); rintro e u7 ⟨rfl, hb⟩; have HB7 := Lib.hid hb; clear hb)))
  go_ret
  exact ⟨rfl, ext_trans H1W.out (ext_trans (ext_trans (ext_trans (ext_trans (ext_alloc (ext_trans (ext_alloc (ext_trans (ext_alloc HB1.out _) HB2.out) _) HB3.out) _) HB4.out) HB5.out) HB6.out) HB7.out)⟩
theorem stepOne_walk (x : MachA) {w : World} (hx : x.ok w) (hz : x.zOk) (ht : Tab w) : Calls Tryd.prog 3 #[x.val] w fun e w' => e = .returned (.bool true) ∧ Below w.heap.size w w' := by
  by_cases he : (stepF x.mv).2 = 0
  · exact one_ok' x.mv _ w (mbox_arg hx) ht hz.mem hz.stk hz.out he
  · exact one_bad x.mv _ w (mbox_arg hx) ht hz.mem hz.stk hz.out he
end Go.Proofs.YtopdnihokbhjfaaDoor
