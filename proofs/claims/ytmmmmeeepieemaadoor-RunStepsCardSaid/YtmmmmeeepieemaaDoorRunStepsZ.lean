import Derived.BigQuiet
import Derived.Deep.QuietTactic
import Derived.Test.YtmmmmeeepieemaaDoorMOwnZ
import Derived.Test.YtmmmmeeepieemaaDoorPlacesBadZ
import Derived.Test.YtmmmmeeepieemaaDoorRunStepsMathZ
/- RunSteps. -/
namespace Go.Proofs.YtmmmmeeepieemaaDoor
open Go.RowKit
set_option linter.unusedVariables false
set_option linter.unusedSimpArgs false
theorem stepF_at {m : MV} (h : m.Ok) (i : Nat) : stepF (m.at_ i) = if (m.at_ i).err = 0 then (m.at_ (i + 1), 0) else (zeroMV, (m.at_ i).err) := by
  unfold stepF
  rw [if_neg (by simp [check_of_ok (at_ok h i)])]
  by_cases he : (m.at_ i).err = 0
  · rw [if_neg (by simp [he]), if_pos he]; rfl
  · rw [if_pos he, if_neg he]
theorem MOwn.setRowS {base g : Nat} {m : MV} {cs ds old : Array Value} {W : World} (h : MOwn base m cs W) (hg : Bk W g 38 old) : MOwn base m cs (W.setRow g ds) := by
  obtain ⟨vm, vs, vo, e, h1, h2, h3⟩ := h.own
  exact ⟨h.h8, vm, vs, vo, e, own_setRow h1 hg (by decide) ds, own_setRow h2 hg (by decide) ds, own_setRow h3 hg (by decide) ds⟩
theorem MBox.c59 {g : Nat} {m : MV} {cs : Array Value} {W : World} (h : MBox g m cs W) : W.cell? ⟨g, 59, none⟩ = some (.int .i64 m.c.at_) := by
  obtain ⟨ma, sa, oa, mc, sc, oc, rfl, _⟩ := h.row
  exact (h.bk.cell 59).trans (mcs_hi h.h8 3)
theorem stepF_h8 {m : MV} (h : m.Ok) : (stepF m).1.R.length = 8 := by
  unfold stepF
  split
  · rfl
  · split
    · rfl
    · exact (after_ok h).2
theorem MBox.places_at {g : Nat} {m : MV} {cs : Array Value} {W : World} (h : MBox g m cs W) (hok : m.Ok) (ht : Tab W) {fu : Nat} (hfu : fu ≤ 5000) : Calls Tryd.prog 13 #[.agg cs, .int .i64 fu] W fun e w' => ∃ v, e = .returned (.tuple #[v, .int .i64 0]) ∧ Own w' W.heap.size 3 v (m.places fu) ∧ Below W.heap.size W w' := by
  obtain ⟨ma, sa, oa, mc, sc, oc, rfl, h1, h2, h3⟩ := h.row
  exact places_good m ma sa oa mc sc oc fu W h.h8 h1 h2 h3 hok ht hfu
set_option maxHeartbeats 8000000 in
set_option maxRecDepth 100000 in
theorem steps_bad (m : MV) (cs : Array Value) (pa : Int) (na : Nat) (w : World) (hbox : MBox w.heap.size m cs (w.alloc (.cells cs 38))) (ht : Tab w)
    (hna : pa % 60 = na) (ha : na < 60) (hc : m.check ≠ 0) : Calls Tryd.prog 4 #[.agg cs, .int .i64 pa] w fun e w' => e = .returned (.bool true) ∧ Below w.heap.size w w' := by
  have h8 := hbox.h8
  have r1 := runF_bad (m := m) (f := na) (by omega) hc
  obtain ⟨ec, hec⟩ : ∃ ec, m.check = ec := ⟨_, rfl⟩
  rw [hec] at r1 hc
  have b1 : (ec == 0) = false := by simpa using hc
  have b2 : (ec != 0) = true := by simpa using hc
  have b3 : (ec == ec) = true := by simp
  obtain ⟨w1, hw1⟩ : ∃ w1, w1 = w.alloc (.cells cs 38) := ⟨_, rfl⟩
  have h1w : Below w.heap.size w w1 := by rw [hw1]; exact ext_alloc (Below.refl _ _) _
  rw [← hw1] at hbox
  have sd := stepped_any w1 (ht.below h1w)
  have ra := fun W => rest_any pa 60 W (by decide) (by decide)
  rw [hna] at ra
  have SD := Lib.hid sd
  have RA := Lib.hid ra
  have R1 := Lib.hid r1
  have MX := Lib.hid hbox
  have HW1 := Lib.hid hw1
  have H1W := Lib.hid h1w
  have HT := Lib.hid ht
  have HC := Lib.hid hec
  clear sd ra r1 hbox hw1 h1w ht h8 hna hc hec
  go_enter Tryd.func4, Tryd.ntmps4
  go_upto_region 1 with (fail)
  rw [← HW1.out]
  go_upto_region 5 with (first
    | (go_at_call 10; ((with_reducible refine (SD.out).mono ?_); rintro e u1 ⟨rfl, hb⟩; have HB1 := Lib.hid hb; clear hb))
    | (go_at_call 7; ((with_reducible refine (RA.out _).mono ?_); rintro e w' ⟨rfl, rfl⟩; clear RA))
    | (refine wpList_load_sub rfl 38 (.tmp 2) rfl w.heap.size 0 64 rfl 38 _ _ (MX.out.below HB1.out).bk Tryd.underlying38 rfl (by kernel_rfl) MX.out.size _ MX.out.all ?_)
    | (go_at_call 11; ((with_reducible refine (run_own (MX.out.below HB1.out) (HT.out.below (ext_trans H1W.out HB1.out)) _ R1.out).mono ?_); rintro e u2 ⟨cs2, rfl, mo, hb⟩; have MO2 := Lib.hid mo; have MX2 := Lib.hid mo.alloc; have HB2 := Lib.hid hb; clear hb mo))
    | (refine wpList_store_fresh rfl 38 (.tmp 5) (.tmp 23) rfl rfl cs2 38 _ rfl rfl (by rw [MX2.out.sz]; kernel_rfl) (by rw [MX2.out.sz]; kernel_rfl) MX2.out.one ?_))
  go_upto_region 6 with (first
    | (refine wpList_load_sub rfl 38 (.tmp 2) rfl w.heap.size 0 64 rfl 38 _ _ (MX.out.below (ext_alloc (ext_trans HB1.out HB2.out) _)).bk Tryd.underlying38 rfl (by kernel_rfl) MX.out.size _ MX.out.all ?_)
    | (go_at_call 12; ((with_reducible refine (check_box (MX.out.below (ext_alloc (ext_trans HB1.out HB2.out) _))).mono ?_); rintro e u3 ⟨rfl, hb⟩; rw [HC.out]; have HB3 := Lib.hid hb; clear hb)))
  go_wp2_with (first
    | (refine wpList_load_sub rfl 38 (.tmp 2) rfl w.heap.size 0 64 rfl 38 _ _ (MX.out.below (ext_trans (ext_alloc (ext_trans HB1.out HB2.out) _) HB3.out)).bk Tryd.underlying38 rfl (by kernel_rfl) MX.out.size _ MX.out.all ?_)
    | (go_at_call 12; ((with_reducible refine (check_box (MX.out.below (ext_trans (ext_alloc (ext_trans HB1.out HB2.out) _) HB3.out))).mono ?_); rintro e u4 ⟨rfl, hb⟩; rw [HC.out]; have HB4 := Lib.hid hb; clear hb)))
  go_ret
  exact ⟨rfl, ext_trans H1W.out (ext_trans (ext_trans (ext_alloc (ext_trans HB1.out HB2.out) _) HB3.out) HB4.out)⟩
set_option maxHeartbeats 8000000 in
set_option maxRecDepth 100000 in
theorem steps_good (m : MV) (cs : Array Value) (pa : Int) (na : Nat) (w : World) (hbox : MBox w.heap.size m cs (w.alloc (.cells cs 38))) (ht : Tab w)
    (hna : pa % 60 = na) (ha : na < 60) (hc : m.check = 0) : Calls Tryd.prog 4 #[.agg cs, .int .i64 pa] w fun e w' => e = .returned (.bool true) ∧ Below w.heap.size w w' := by
  have h8 := hbox.h8
  have hok := ok_of_check h8 hc
  obtain ⟨l1, l2, l3, l4⟩ := run_steps na m
  have r1 := runF_good (m := m) (f := na) (by omega) hc
  have hXok := run_okM na m hok
  have hpl := places_len na m
  obtain ⟨n, hn⟩ : ∃ n, (m.run na).2.1 = n := ⟨_, rfl⟩
  obtain ⟨er, hr⟩ : ∃ er, (m.run na).2.2 = er := ⟨_, rfl⟩
  obtain ⟨X, hX⟩ : ∃ X, (m.run na).1 = X := ⟨_, rfl⟩
  obtain ⟨L, hL⟩ : ∃ L, m.places na = L := ⟨_, rfl⟩
  rw [hn, hX] at l1
  rw [hn] at l2
  rw [hn, hL] at l3
  rw [hn, hr] at l4
  rw [hn, hr, hX] at r1
  rw [hL, hn] at hpl
  rw [hX] at hXok
  clear hn hr hX
  obtain ⟨w1, hw1⟩ : ∃ w1, w1 = w.alloc (.cells cs 38) := ⟨_, rfl⟩
  have h1w : Below w.heap.size w w1 := by rw [hw1]; exact ext_alloc (Below.refl _ _) _
  rw [← hw1] at hbox
  have sd := stepped_any w1 (ht.below h1w)
  have ra := fun W => rest_any pa 60 W (by decide) (by decide)
  rw [hna] at ra
  have SD := Lib.hid sd
  have RA := Lib.hid ra
  have R1 := Lib.hid r1
  have MX := Lib.hid hbox
  have HW1 := Lib.hid hw1
  have H1W := Lib.hid h1w
  have HT := Lib.hid ht
  have HOK := Lib.hid hok
  have L1 := Lib.hid l1
  have L3 := Lib.hid l3
  have L4 := Lib.hid l4
  have HL := Lib.hid hL
  have HXK := Lib.hid hXok
  clear sd ra r1 hbox hw1 h1w ht h8 hna hc hok l1 l3 l4 hL hXok
  go_enter Tryd.func4, Tryd.ntmps4
  go_upto_region 1 with (fail)
  rw [← HW1.out]
  go_upto_region 5 with (first
    | (go_at_call 10; ((with_reducible refine (SD.out).mono ?_); rintro e u1 ⟨rfl, hb⟩; have HB1 := Lib.hid hb; clear hb))
    | (go_at_call 7; ((with_reducible refine (RA.out _).mono ?_); rintro e w' ⟨rfl, rfl⟩; clear RA))
    | (refine wpList_load_sub rfl 38 (.tmp 2) rfl w.heap.size 0 64 rfl 38 _ _ (MX.out.below HB1.out).bk Tryd.underlying38 rfl (by kernel_rfl) MX.out.size _ MX.out.all ?_)
    | (go_at_call 11; ((with_reducible refine (run_own (MX.out.below HB1.out) (HT.out.below (ext_trans H1W.out HB1.out)) _ R1.out).mono ?_); rintro e u2 ⟨cs2, rfl, mo, hb⟩; have MO2 := Lib.hid mo; have MX2 := Lib.hid mo.alloc; have HB2 := Lib.hid hb; clear hb mo))
    | (refine wpList_store_fresh rfl 38 (.tmp 5) (.tmp 23) rfl rfl cs2 38 _ rfl rfl (by rw [MX2.out.sz]; kernel_rfl) (by rw [MX2.out.sz]; kernel_rfl) MX2.out.one ?_))
  go_upto_region 7 with (first
    | (refine wpList_load_sub rfl 38 (.tmp 2) rfl w.heap.size 0 64 rfl 38 _ _ (MX.out.below (ext_alloc (ext_trans HB1.out HB2.out) _)).bk Tryd.underlying38 rfl (by kernel_rfl) MX.out.size _ MX.out.all ?_)
    | (go_at_call 12; ((with_reducible refine (check_box (MX.out.below (ext_alloc (ext_trans HB1.out HB2.out) _))).mono ?_); rintro e u3 ⟨rfl, hb⟩; rw [check_of_ok HOK.out]; have HB3 := Lib.hid hb; clear hb)))
  go_upto_region 8 with (first
    | (refine wpList_load_sub rfl 38 (.tmp 2) rfl w.heap.size 0 64 rfl 38 _ _ (MX.out.below (ext_trans (ext_alloc (ext_trans HB1.out HB2.out) _) HB3.out)).bk Tryd.underlying38 rfl (by kernel_rfl) MX.out.size _ MX.out.all ?_)
    | (go_at_call 13; ((with_reducible refine (MBox.places_at (MX.out.below (ext_trans (ext_alloc (ext_trans HB1.out HB2.out) _) HB3.out)) HOK.out (HT.out.below (ext_trans H1W.out (ext_trans (ext_alloc (ext_trans HB1.out HB2.out) _) HB3.out))) (by omega)).mono ?_); rintro e u4 ⟨vl, rfl, ol, hb⟩; rw [HL.out] at ol; obtain ⟨al, kl, rfl, sl, _⟩ := ol.sl; have OL := Lib.hid ol; have HB4 := Lib.hid hb; clear hb ol sl)))
  obtain ⟨gx, hgx⟩ : ∃ gx, gx = u2.heap.size := ⟨_, rfl⟩
  rw [← hgx]
  have kx0 : Bk (u2.alloc (.cells cs2 38)) gx 38 cs2 := by rw [hgx]; exact bk_new _ _ _
  have hne : gx ≠ w.heap.size := by have h1 := H1W.out.size; have h2 := HB2.out.size; have h3 := ((ext_trans HB1.out HB2.out)).size; have h4 := MX.out.bk.lt; omega
  have KX0 := Lib.hid kx0
  have HNE := Lib.hid hne
  clear kx0 hne hgx
  go_wp2
  go_loopw [52] (fun i wr => ∃ (j : Nat) (csj : Array Value), j ≤ n ∧ i = .int .i64 j ∧ MBox w.heap.size (m.at_ j) csj wr ∧ MOwn u1.heap.size X cs2 wr ∧ Bk wr gx 38 cs2 ∧ Own wr u3.heap.size 3 (.slice al n kl) L ∧ Below w.heap.size w wr) (fun i _ => n - (intOf i).toNat)
  case atStart => exact ⟨0, cs, Nat.zero_le _, rfl, (MX.out.below (ext_trans (ext_trans (ext_alloc (ext_trans HB1.out HB2.out) _) HB3.out) HB4.out)), MO2.out.below (ext_trans (ext_trans (ext_alloc (Below.refl _ _) _) HB3.out) HB4.out), bk_keep (ext_trans HB3.out HB4.out) KX0.out, by rw [← hpl]; exact OL.out, ext_trans H1W.out (ext_trans (ext_trans (ext_alloc (ext_trans HB1.out HB2.out) _) HB3.out) HB4.out)⟩
  case round =>
    obtain ⟨i, csi, hi, rfl, hm, hx, kx, ol, hbw⟩ := hrel
    have HM := Lib.hid hm
    have HX := Lib.hid hx
    have KX := Lib.hid kx
    have OLR := Lib.hid ol
    have HBW := Lib.hid hbw
    by_cases hlt : i < n
    · obtain ⟨e1, e2⟩ := L3.out i hlt
      have st := stepF_at HOK.out i
      rw [if_pos e1] at st
      have hx8 := (at_ok HOK.out (i + 1)).2
      have q0 : (0 : Int) ≤ i := by omega
      have q1 : (i : Int) < n := by omega
      obtain ⟨al2, kl2, he, sl, _⟩ := ol.sl
      rw [hpl] at he sl
      injection he with he1 he2 he3
      subst he1
      obtain ⟨ad, rfl, hab, e0⟩ := sl_int sl hlt e2
      have c59 := hm.c59
      have hml := hm.bk.lt
      have f0 : ((m.at_ i).c.at_ != (m.at_ i).c.at_) = false := by simp
      have STI := Lib.hid st
      have HX8 := Lib.hid hx8
      clear hm hx kx ol hbw st hx8 sl he2 he3 e1 e2
      go_upto_region 13 with (fail)
      go_quiet (fail)
      clear e0 c59
      obtain ⟨wd, hwd⟩ : ∃ wd, wd = wr.drewN nq := ⟨_, rfl⟩
      rw [← hwd]
      have dd : Below wr.heap.size wr wd := by rw [hwd]; exact ext_drewN (Below.refl _ _) _
      replace HM := Lib.hid (HM.out.below dd)
      replace HX := Lib.hid (HX.out.below dd)
      replace KX := Lib.hid (bk_keep dd KX.out)
      replace OLR := Lib.hid (OLR.out.below dd)
      replace HBW := Lib.hid (ext_trans HBW.out dd)
      clear dd hwd
      go_upto_region 16 with (first
        | (refine wpList_load_sub rfl 38 (.tmp 2) rfl w.heap.size 0 64 rfl 38 _ _ HM.out.bk Tryd.underlying38 rfl (by kernel_rfl) HM.out.size _ HM.out.all ?_)
        | (go_at_call 14; ((with_reducible refine (step_own HM.out (HT.out.below HBW.out) STI.out HX8.out).mono ?_); rintro e v5 ⟨cs5, rfl, mo, hb⟩; have MO5 := Lib.hid mo; have MX5 := Lib.hid mo.alloc; have HB5 := Lib.hid hb; clear hb mo))
        | (refine wpList_store_fresh rfl 38 (.tmp 11) (.tmp 66) rfl rfl cs5 38 _ rfl rfl (by rw [MX5.out.sz]; kernel_rfl) (by rw [MX5.out.sz]; kernel_rfl) MX5.out.one ?_))
      have hgy := MX5.out.bk.lt
      go_wp2_with (first
        | (refine wpList_load_sub rfl 38 (.tmp 11) rfl v5.heap.size 0 64 rfl 38 _ _ MX5.out.bk Tryd.underlying38 rfl (by kernel_rfl) MX5.out.size _ MX5.out.all ?_)
        | (refine wpList_store_rowTo rfl 38 (.tmp 2) (.tmp 70) rfl rfl w.heap.size cs5 rfl rfl 38 _ (bk_keep (ext_alloc HB5.out _) HM.out.bk) (by rw [MX5.out.sz]; kernel_rfl) (by rw [HM.out.sz, MX5.out.sz]) MX5.out.one ?_))
      go_roundw
      case rel => exact ⟨i + 1, cs5, by omega, by go_num, (MO5.out.below (ext_alloc (Below.refl _ _) _)).setRow (bk_keep (ext_alloc HB5.out _) HM.out.bk), (HX.out.below (ext_alloc HB5.out _)).setRowS (bk_keep (ext_alloc HB5.out _) HM.out.bk), (setRow_other _ _ _ _ HNE.out).trans (bk_keep (ext_alloc HB5.out _) KX.out), own_setRow (OLR.out.below (ext_alloc HB5.out _)) (bk_keep (ext_alloc HB5.out _) HM.out.bk) (by decide) _, ext_setRow (ext_trans HBW.out (ext_alloc HB5.out _)) (Nat.le_refl _) _⟩
      case measure => simp [intOf]; omega
    · have q1 : ¬ ((i : Int) < n) := by omega
      have hin : i = n := by omega
      subst hin
      have st := stepF_at HOK.out i
      obtain ⟨⟨Y, g⟩, hY⟩ : ∃ p, stepF (m.at_ i) = p := ⟨_, rfl⟩
      have hx8 : Y.R.length = 8 := by have := stepF_h8 (at_ok HOK.out i); rw [hY] at this; exact this
      rw [L1.out] at hx
      have mxx := hx.box kx
      have MXX := Lib.hid mxx
      have STI := Lib.hid hY
      have HX8 := Lib.hid hx8
      rcases L4.out with ⟨a1, rfl⟩ | ⟨a1, a2, rfl⟩
      · have b1 : ((i : Int) == na) = true := by simp; omega
        clear hm hx kx ol hbw st hx8 mxx hY
        go_upto_region 21 with (first
          | (refine wpList_load_sub rfl 38 (.tmp 2) rfl w.heap.size 0 64 rfl 38 _ _ HM.out.bk Tryd.underlying38 rfl (by kernel_rfl) HM.out.size _ HM.out.all ?_)
          | (go_at_call 14; ((with_reducible refine (step_own HM.out (HT.out.below HBW.out) STI.out HX8.out).mono ?_); rintro e v5 ⟨cs5, rfl, mo, hb⟩; have MO5 := Lib.hid mo; have MX5 := Lib.hid mo.alloc; have HB5 := Lib.hid hb; clear hb mo))
          | (refine wpList_store_fresh rfl 38 (.tmp 13) (.tmp 75) rfl rfl cs5 38 _ rfl rfl (by rw [MX5.out.sz]; kernel_rfl) (by rw [MX5.out.sz]; kernel_rfl) MX5.out.one ?_))
        go_wp2_with (first
          | (refine wpList_load_sub rfl 38 (.tmp 2) rfl w.heap.size 0 64 rfl 38 _ _ (HM.out.below (ext_alloc HB5.out _)).bk Tryd.underlying38 rfl (by kernel_rfl) HM.out.size _ HM.out.all ?_)
          | (refine wpList_load_sub rfl 38 (.tmp 5) rfl gx 0 64 rfl 38 _ _ (MXX.out.below (ext_alloc HB5.out _)).bk Tryd.underlying38 rfl (by kernel_rfl) MXX.out.size _ MXX.out.all ?_)
          | (go_at_call 15; ((with_reducible refine (meq_box (HM.out.below (ext_alloc HB5.out _)) (MXX.out.below (ext_alloc HB5.out _))).mono ?_); rintro e v6 ⟨rfl, hb⟩; have HB6 := Lib.hid hb; clear hb)))
        go_ret
        exact ⟨rfl, ext_trans HBW.out (ext_trans (ext_alloc HB5.out _) HB6.out)⟩
      · rw [hY, if_neg a2] at st
        injection st with st1 st2
        subst st2
        generalize (m.at_ i).err = er at *
        have b1 : ((i : Int) == na) = false := beq_eq_false_iff_ne.2 (by omega)
        have b2 : (er == er) = true := by simp
        have q2 : (i : Int) < na := by omega
        clear hm hx kx ol hbw hx8 mxx hY
        by_cases h15 : er = 15
        · subst h15
          go_upto_region 21 with (first
            | (refine wpList_load_sub rfl 38 (.tmp 2) rfl w.heap.size 0 64 rfl 38 _ _ HM.out.bk Tryd.underlying38 rfl (by kernel_rfl) HM.out.size _ HM.out.all ?_)
            | (go_at_call 14; ((with_reducible refine (step_own HM.out (HT.out.below HBW.out) STI.out HX8.out).mono ?_); rintro e v5 ⟨cs5, rfl, mo, hb⟩; have MO5 := Lib.hid mo; have MX5 := Lib.hid mo.alloc; have HB5 := Lib.hid hb; clear hb mo))
            | (refine wpList_store_fresh rfl 38 (.tmp 13) (.tmp 75) rfl rfl cs5 38 _ rfl rfl (by rw [MX5.out.sz]; kernel_rfl) (by rw [MX5.out.sz]; kernel_rfl) MX5.out.one ?_))
          go_wp2_with (first
            | (refine wpList_load_sub rfl 38 (.tmp 2) rfl w.heap.size 0 64 rfl 38 _ _ (HM.out.below (ext_alloc HB5.out _)).bk Tryd.underlying38 rfl (by kernel_rfl) HM.out.size _ HM.out.all ?_)
            | (refine wpList_load_sub rfl 38 (.tmp 5) rfl gx 0 64 rfl 38 _ _ (MXX.out.below (ext_alloc HB5.out _)).bk Tryd.underlying38 rfl (by kernel_rfl) MXX.out.size _ MXX.out.all ?_)
            | (go_at_call 15; ((with_reducible refine (meq_box (HM.out.below (ext_alloc HB5.out _)) (MXX.out.below (ext_alloc HB5.out _))).mono ?_); rintro e v6 ⟨rfl, hb⟩; have HB6 := Lib.hid hb; clear hb)))
          go_ret
          exact ⟨rfl, ext_trans HBW.out (ext_trans (ext_alloc HB5.out _) HB6.out)⟩
        · have b3 : (er == 15) = false := beq_eq_false_iff_ne.2 h15
          go_upto_region 21 with (first
            | (refine wpList_load_sub rfl 38 (.tmp 2) rfl w.heap.size 0 64 rfl 38 _ _ HM.out.bk Tryd.underlying38 rfl (by kernel_rfl) HM.out.size _ HM.out.all ?_)
            | (go_at_call 14; ((with_reducible refine (step_own HM.out (HT.out.below HBW.out) STI.out HX8.out).mono ?_); rintro e v5 ⟨cs5, rfl, mo, hb⟩; have MO5 := Lib.hid mo; have MX5 := Lib.hid mo.alloc; have HB5 := Lib.hid hb; clear hb mo))
            | (refine wpList_store_fresh rfl 38 (.tmp 13) (.tmp 75) rfl rfl cs5 38 _ rfl rfl (by rw [MX5.out.sz]; kernel_rfl) (by rw [MX5.out.sz]; kernel_rfl) MX5.out.one ?_))
          go_wp2_with (first
            | (refine wpList_load_sub rfl 38 (.tmp 2) rfl w.heap.size 0 64 rfl 38 _ _ (HM.out.below (ext_alloc HB5.out _)).bk Tryd.underlying38 rfl (by kernel_rfl) HM.out.size _ HM.out.all ?_)
            | (refine wpList_load_sub rfl 38 (.tmp 5) rfl gx 0 64 rfl 38 _ _ (MXX.out.below (ext_alloc HB5.out _)).bk Tryd.underlying38 rfl (by kernel_rfl) MXX.out.size _ MXX.out.all ?_)
            | (go_at_call 15; ((with_reducible refine (meq_box (HM.out.below (ext_alloc HB5.out _)) (MXX.out.below (ext_alloc HB5.out _))).mono ?_); rintro e v6 ⟨rfl, hb⟩; have HB6 := Lib.hid hb; clear hb)))
          go_ret
          exact ⟨rfl, ext_trans HBW.out (ext_trans (ext_alloc HB5.out _) HB6.out)⟩
theorem runSteps_walk (x : MachA) (a : Int) {w : World} (hx : x.ok w) (ha : I64 a) (ht : Tab w) : Calls Tryd.prog 4 #[x.val, .int .i64 a] w fun e w' => e = .returned (.bool true) ∧ Below w.heap.size w w' := by
  obtain ⟨na, hna⟩ := Int.eq_ofNat_of_zero_le (Int.emod_nonneg a (show (60 : Int) ≠ 0 by decide))
  have l1 := Int.emod_lt_of_pos a (show (0 : Int) < 60 by decide)
  by_cases hc : x.mv.check = 0
  · exact steps_good x.mv _ a na w (mbox_arg hx) ht hna (by omega) hc
  · exact steps_bad x.mv _ a na w (mbox_arg hx) ht hna (by omega) hc
end Go.Proofs.YtmmmmeeepieemaaDoor
