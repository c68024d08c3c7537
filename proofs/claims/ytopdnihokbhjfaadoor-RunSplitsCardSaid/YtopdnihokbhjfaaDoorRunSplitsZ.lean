import Derived.Test.YtopdnihokbhjfaaDoorBuR
/- RunSplits. -/
namespace Go.Proofs.YtopdnihokbhjfaaDoor
open Go.RowKit
set_option linter.unusedVariables false
set_option linter.unusedSimpArgs false
set_option maxHeartbeats 8000000 in
set_option maxRecDepth 100000 in
theorem splits_halt (m : MV) (cs : Array Value) (pa pb : Int) (na nb : Nat) (w : World) (hbox : MBox w.heap.size m cs (w.alloc (.cells cs 31))) (ht : Tab w)
    (hna : pa % 2000 = na) (hnb : pb % 2000 = nb) (ha : na < 2000) (hb : nb < 2000) (he : (runF m na).2.2 ≠ 15) : Calls Tryd.prog 8 #[.agg cs, .int .i64 pa, .int .i64 pb] w fun e w' => e = .returned (.bool true) ∧ Below w.heap.size w w' := by
  have h8 := hbox.h8
  have law := splits_law h8 ha hb
  obtain ⟨l1, l2, l3, l4, l5⟩ := law
  have r2 := l4 he
  clear l4 l5
  obtain ⟨⟨X, n, er⟩, r1⟩ : ∃ r, runF m na = r := ⟨_, rfl⟩
  rw [r1] at r2 l1 l2 l3 he
  simp only at *
  obtain ⟨w1, hw1⟩ : ∃ w1, w1 = w.alloc (.cells cs 31) := ⟨_, rfl⟩
  have h1w : Below w.heap.size w w1 := by rw [hw1]; exact ext_alloc (Below.refl _ _) _
  rw [← hw1] at hbox
  have sd := stepped_any w1 (ht.below h1w)
  have ra := fun W => rest_any pa 2000 W (by decide) (by decide)
  have rb := fun W => rest_any pb 2000 W (by decide) (by decide)
  rw [hna] at ra
  rw [hnb] at rb
  have hwr : wrap64 ((na : Int) + nb) = (na : Int) + nb := IntWalk.wrap64_in _ ⟨by omega, by omega⟩
  have b1 : decide ((na : Int) < n) = false := by simpa using l1
  have b2 : decide (n < 0) = false := by simpa using l2
  have b3 : (er == 0) = false := by simpa using l3
  have b4 : (er == 15) = false := by simpa using he
  have b5 : (er != 15) = true := by simpa using he
  have SD := Lib.hid sd
  have RA := Lib.hid ra
  have RB := Lib.hid rb
  have R1 := Lib.hid r1
  have R2 := Lib.hid r2
  have MX := Lib.hid hbox
  have HW1 := Lib.hid hw1
  have H1W := Lib.hid h1w
  have HT := Lib.hid ht
  clear sd ra rb r1 r2 hbox hw1 h1w ht h8 ha hb hna hnb l1 l2 l3 he
  go_enter Tryd.func8, Tryd.ntmps8
  go_upto_region 1 with (fail)
  rw [← HW1.out]
  go_upto_region 5 with (first
    | (go_at_call 14; ((with_reducible refine (SD.out).mono ?_); rintro e u1 ⟨rfl, hb⟩; have HB1 := Lib.hid hb; clear hb))
    | (go_at_call 19; ((with_reducible refine (RA.out _).mono ?_); rintro e w' ⟨rfl, rfl⟩; clear RA))
    | (go_at_call 19; ((with_reducible refine (RB.out _).mono ?_); rintro e w' ⟨rfl, rfl⟩; clear RB))
    | (refine wpList_load_sub rfl 31 (.tmp 3) rfl w.heap.size 0 64 rfl 31 _ _ (MX.out.below HB1.out).bk Tryd.underlying31 rfl (by kernel_rfl) MX.out.size _ MX.out.all ?_)
    | (go_at_call 23; ((with_reducible refine (run_box (MX.out.below HB1.out) (HT.out.below (ext_trans H1W.out HB1.out)) _ R1.out).mono ?_); rintro e u2 ⟨cs2, rfl, mx, hb⟩; have MX2 := Lib.hid mx; have HB2 := Lib.hid hb; clear hb mx))
    | (refine wpList_store_fresh rfl 31 (.tmp 7) (.tmp 26) rfl rfl cs2 31 _ rfl rfl (by rw [MX2.out.sz]; kernel_rfl) (by rw [MX2.out.sz]; kernel_rfl) MX2.out.one ?_))
  go_upto_region 8 with (first
    | (refine wpList_load_sub rfl 31 (.tmp 3) rfl w.heap.size 0 64 rfl 31 _ _ (MX.out.below (ext_alloc (ext_trans HB1.out HB2.out) _)).bk Tryd.underlying31 rfl (by kernel_rfl) MX.out.size _ MX.out.all ?_)
    | (go_at_call 23; ((with_reducible refine (run_box (MX.out.below (ext_alloc (ext_trans HB1.out HB2.out) _)) (HT.out.below (ext_trans H1W.out (ext_alloc (ext_trans HB1.out HB2.out) _))) _ R2.out).mono ?_); rintro e u3 ⟨cs3, rfl, mx, hb⟩; have MX3 := Lib.hid mx; have HB3 := Lib.hid hb; clear hb mx))
    | (refine wpList_store_fresh rfl 31 (.tmp 10) (.tmp 46) rfl rfl cs3 31 _ rfl rfl (by rw [MX3.out.sz]; kernel_rfl) (by rw [MX3.out.sz]; kernel_rfl) MX3.out.one ?_))
  go_wp2_with (first
    | (refine wpList_load_sub rfl 31 (.tmp 7) rfl u2.heap.size 0 64 rfl 31 _ _ (MX2.out.below (ext_alloc HB3.out _)).bk Tryd.underlying31 rfl (by kernel_rfl) MX2.out.size _ MX2.out.all ?_)
    | (refine wpList_load_sub rfl 31 (.tmp 10) rfl u3.heap.size 0 64 rfl 31 _ _ MX3.out.bk Tryd.underlying31 rfl (by kernel_rfl) MX3.out.size _ MX3.out.all ?_)
    | (go_at_call 15; ((with_reducible refine (meq_box (MX2.out.below (ext_alloc HB3.out _)) MX3.out).mono ?_); rintro e u4 ⟨rfl, hb⟩; have HB4 := Lib.hid hb; clear hb)))
  go_ret
  exact ⟨rfl, ext_trans H1W.out (ext_trans (ext_alloc (ext_trans (ext_alloc (ext_trans HB1.out HB2.out) _) HB3.out) _) HB4.out)⟩
set_option maxHeartbeats 8000000 in
set_option maxRecDepth 100000 in
theorem splits_more (m : MV) (cs : Array Value) (pa pb : Int) (na nb : Nat) (w : World) (hbox : MBox w.heap.size m cs (w.alloc (.cells cs 31))) (ht : Tab w)
    (hna : pa % 2000 = na) (hnb : pb % 2000 = nb) (ha : na < 2000) (hb : nb < 2000) (he : (runF m na).2.2 = 15) : Calls Tryd.prog 8 #[.agg cs, .int .i64 pa, .int .i64 pb] w fun e w' => e = .returned (.bool true) ∧ Below w.heap.size w w' := by
  have h8 := hbox.h8
  have law := splits_law h8 ha hb
  obtain ⟨l1, l2, l3, l5, l4⟩ := law
  obtain ⟨l6, r2⟩ := l4 he
  clear l4 l5 l1 l2 l3
  obtain ⟨j1, j2, j3⟩ := splits_law (runF_h8 h8 (na : Int)) hb (show 0 < 2000 by decide)
  clear j3
  obtain ⟨⟨X, n, er1⟩, r1⟩ : ∃ r, runF m na = r := ⟨_, rfl⟩
  rw [r1] at r2 l6 he j1 j2
  simp only at l6 he r2 j1 j2
  subst l6 he
  obtain ⟨⟨Z, jn, er⟩, r3⟩ : ∃ r, runF X nb = r := ⟨_, rfl⟩
  rw [r3] at r2 j1 j2
  simp only at *
  obtain ⟨w1, hw1⟩ : ∃ w1, w1 = w.alloc (.cells cs 31) := ⟨_, rfl⟩
  have h1w : Below w.heap.size w w1 := by rw [hw1]; exact ext_alloc (Below.refl _ _) _
  rw [← hw1] at hbox
  have sd := stepped_any w1 (ht.below h1w)
  have ra := fun W => rest_any pa 2000 W (by decide) (by decide)
  have rb := fun W => rest_any pb 2000 W (by decide) (by decide)
  rw [hna] at ra
  rw [hnb] at rb
  have hwr : wrap64 ((na : Int) + nb) = (na : Int) + nb := IntWalk.wrap64_in _ ⟨by omega, by omega⟩
  have b1 : decide ((na : Int) < na) = false := by simp
  have b2 : decide ((na : Int) < 0) = false := by simp
  have hwj : wrap64 ((na : Int) + jn) = (na : Int) + jn := IntWalk.wrap64_in _ ⟨by omega, by omega⟩
  have SD := Lib.hid sd
  have RA := Lib.hid ra
  have RB := Lib.hid rb
  have R1 := Lib.hid r1
  have R2 := Lib.hid r2
  have MX := Lib.hid hbox
  have HW1 := Lib.hid hw1
  have H1W := Lib.hid h1w
  have HT := Lib.hid ht
  have R3 := Lib.hid r3
  clear sd ra rb r1 r2 hbox hw1 h1w ht h8 ha hb hna hnb r3 j1 j2
  go_enter Tryd.func8, Tryd.ntmps8
  go_upto_region 1 with (fail)
  rw [← HW1.out]
  go_upto_region 5 with (first
    | (go_at_call 14; ((with_reducible refine (SD.out).mono ?_); rintro e u1 ⟨rfl, hb⟩; have HB1 := Lib.hid hb; clear hb))
    | (go_at_call 19; ((with_reducible refine (RA.out _).mono ?_); rintro e w' ⟨rfl, rfl⟩; clear RA))
    | (go_at_call 19; ((with_reducible refine (RB.out _).mono ?_); rintro e w' ⟨rfl, rfl⟩; clear RB))
    | (refine wpList_load_sub rfl 31 (.tmp 3) rfl w.heap.size 0 64 rfl 31 _ _ (MX.out.below HB1.out).bk Tryd.underlying31 rfl (by kernel_rfl) MX.out.size _ MX.out.all ?_)
    | (go_at_call 23; ((with_reducible refine (run_box (MX.out.below HB1.out) (HT.out.below (ext_trans H1W.out HB1.out)) _ R1.out).mono ?_); rintro e u2 ⟨cs2, rfl, mx, hb⟩; have MX2 := Lib.hid mx; have HB2 := Lib.hid hb; clear hb mx))
    | (refine wpList_store_fresh rfl 31 (.tmp 7) (.tmp 26) rfl rfl cs2 31 _ rfl rfl (by rw [MX2.out.sz]; kernel_rfl) (by rw [MX2.out.sz]; kernel_rfl) MX2.out.one ?_))
  go_upto_region 8 with (first
    | (refine wpList_load_sub rfl 31 (.tmp 3) rfl w.heap.size 0 64 rfl 31 _ _ (MX.out.below (ext_alloc (ext_trans HB1.out HB2.out) _)).bk Tryd.underlying31 rfl (by kernel_rfl) MX.out.size _ MX.out.all ?_)
    | (go_at_call 23; ((with_reducible refine (run_box (MX.out.below (ext_alloc (ext_trans HB1.out HB2.out) _)) (HT.out.below (ext_trans H1W.out (ext_alloc (ext_trans HB1.out HB2.out) _))) _ R2.out).mono ?_); rintro e u3 ⟨cs3, rfl, mx, hb⟩; have MX3 := Lib.hid mx; have HB3 := Lib.hid hb; clear hb mx))
    | (refine wpList_store_fresh rfl 31 (.tmp 10) (.tmp 46) rfl rfl cs3 31 _ rfl rfl (by rw [MX3.out.sz]; kernel_rfl) (by rw [MX3.out.sz]; kernel_rfl) MX3.out.one ?_))
  go_upto_region 11 with (first
    | (refine wpList_load_sub rfl 31 (.tmp 7) rfl u2.heap.size 0 64 rfl 31 _ _ (MX2.out.below (ext_alloc HB3.out _)).bk Tryd.underlying31 rfl (by kernel_rfl) MX2.out.size _ MX2.out.all ?_)
    | (go_at_call 23; ((with_reducible refine (run_box (MX2.out.below (ext_alloc HB3.out _)) (HT.out.below (ext_trans H1W.out (ext_alloc (ext_trans (ext_alloc (ext_trans HB1.out HB2.out) _) HB3.out) _))) _ R3.out).mono ?_); rintro e u4 ⟨cs4, rfl, mx, hb⟩; have MX4 := Lib.hid mx; have HB4 := Lib.hid hb; clear hb mx))
    | (refine wpList_store_fresh rfl 31 (.tmp 13) (.tmp 68) rfl rfl cs4 31 _ rfl rfl (by rw [MX4.out.sz]; kernel_rfl) (by rw [MX4.out.sz]; kernel_rfl) MX4.out.one ?_))
  go_wp2_with (first
    | (refine wpList_load_sub_w rfl 31 (.tmp 10) rfl u3.heap.size 0 64 rfl 31 _ _ (MX3.out.below (ext_alloc HB4.out _)).bk Tryd.underlying31 rfl (by kernel_rfl) MX3.out.size _ MX3.out.all ?_)
    | (refine wpList_load_sub_w rfl 31 (.tmp 13) rfl u4.heap.size 0 64 rfl 31 _ _ MX4.out.bk Tryd.underlying31 rfl (by kernel_rfl) MX4.out.size _ MX4.out.all ?_)
    | (go_at_call 15; ((with_reducible refine (meq_box (MX3.out.below (ext_alloc HB4.out _)) MX4.out).mono ?_); rintro e u5 ⟨rfl, hb⟩; have HB5 := Lib.hid hb; clear hb)))
  go_ret
  exact ⟨rfl, ext_trans H1W.out (ext_trans (ext_alloc (ext_trans (ext_alloc (ext_trans (ext_alloc (ext_trans HB1.out HB2.out) _) HB3.out) _) HB4.out) _) HB5.out)⟩
theorem runSplits_walk (x : MachA) (a b : Int) {w : World} (hx : x.ok w) (ha : I64 a) (hb : I64 b) (ht : Tab w) : Calls Tryd.prog 8 #[x.val, .int .i64 a, .int .i64 b] w fun e w' => e = .returned (.bool true) ∧ Below w.heap.size w w' := by
  obtain ⟨na, hna⟩ := Int.eq_ofNat_of_zero_le (Int.emod_nonneg a (show (2000 : Int) ≠ 0 by decide))
  obtain ⟨nb, hnb⟩ := Int.eq_ofNat_of_zero_le (Int.emod_nonneg b (show (2000 : Int) ≠ 0 by decide))
  have l1 := Int.emod_lt_of_pos a (show (0 : Int) < 2000 by decide)
  have l2 := Int.emod_lt_of_pos b (show (0 : Int) < 2000 by decide)
  by_cases he : (runF x.mv na).2.2 = 15
  · exact splits_more x.mv _ a b na nb w (mbox_arg hx) ht hna hnb (by omega) (by omega) he
  · exact splits_halt x.mv _ a b na nb w (mbox_arg hx) ht hna hnb (by omega) (by omega) he
end Go.Proofs.YtopdnihokbhjfaaDoor
