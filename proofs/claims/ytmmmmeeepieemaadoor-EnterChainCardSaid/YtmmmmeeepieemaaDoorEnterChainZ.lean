import Derived.Test.YtmmmmeeepieemaaDoorBuG
import Derived.Test.YtmmmmeeepieemaaDoorDoneEqZ
import Derived.Test.YtmmmmeeepieemaaDoorLiftJobsZ
import Derived.Test.YtmmmmeeepieemaaDoorLinkTwoZ
import Derived.Test.YtmmmmeeepieemaaDoorLinkedZ
import Derived.Test.YtmmmmeeepieemaaDoorPlayZ
/- The walk of EnterChain. -/
namespace Go.Proofs.YtmmmmeeepieemaaDoor
open Go Go.RowKit Go.Shelf
set_option linter.unusedVariables false
set_option linter.unusedSimpArgs false
set_option maxHeartbeats 8000000 in
set_option maxRecDepth 100000 in
theorem chain_bad (x : ModsA) (y : JobsA) (w : World) (hx : x.ok w) (hy : y.ok w) (hT : Tab w) (hno : ¬ LinkOk isNameB x.ms) : Calls Tryd.prog 6 #[x.val, y.val] w fun e w' => e = .returned (.bool true) ∧ Below w.heap.size w w' := by
  obtain ⟨ao, N, c0, rs, ms⟩ := x
  obtain ⟨hm, hle⟩ := hx
  obtain ⟨jo, J, jc, jr, js⟩ := y
  obtain ⟨hj, hjc⟩ := hy
  simp only [ModsA.val, JobsA.val] at *
  have hn := hm.n
  have hmx := hm.sl.max
  unfold maxLen at hmx
  have hjn := hj.n
  have hjx := hj.sl.max
  unfold maxLen at hjx
  have lk := link_bad ao N c0 rs ms w hm hno
  have LK := Lib.hid lk
  clear lk hm hj
  go_enter Tryd.func6, Tryd.ntmps6
  go_upto_region 2 with (go_at_call 16; ((with_reducible refine (LK.out).mono ?_); rintro e w1 ⟨er, her, rfl, hb1⟩; have HB1 := Lib.hid hb1; clear hb1))
  have q1 : (er != 0) = true := by simpa using her
  obtain ⟨w2, hw2⟩ : ∃ w2, w2 = w1.alloc (.cells #[.slice none 0 0, .slice none 0 0, .slice none 0 0] 55) := ⟨_, rfl⟩
  rw [← hw2]
  have HB2 := Lib.hid (show Below w.heap.size w w2 by rw [hw2]; exact ext_alloc HB1.out _)
  clear hw2
  go_wp2_with (go_at_call 17; ((with_reducible refine (linked_any _).mono ?_); rintro e w3 ⟨rfl, hb3⟩; have HB3 := Lib.hid hb3; clear hb3))
  go_ret
  exact ⟨rfl, ext_trans HB2.out HB3.out⟩
set_option maxHeartbeats 16000000 in
set_option maxRecDepth 100000 in
theorem chain_good (x : ModsA) (y : JobsA) (w : World) (hx : x.ok w) (hy : y.ok w) (hT : Tab w) (hok : LinkOk isNameB x.ms) : Calls Tryd.prog 6 #[x.val, y.val] w fun e w' => e = .returned (.bool true) ∧ Below w.heap.size w w' := by
  obtain ⟨ao, N, c0, rs, ms⟩ := x
  obtain ⟨hm, hle⟩ := hx
  obtain ⟨jo, J, jc, jr, js⟩ := y
  obtain ⟨hj, hjc⟩ := hy
  simp only [ModsA.val, JobsA.val] at *
  have hn := hm.n
  have hmx := hm.sl.max
  unfold maxLen at hmx
  have hjn := hj.n
  have hjx := hj.sl.max
  unfold maxLen at hjx
  have lk := link_good ao N c0 rs ms w hm hok
  unfold LinkRes at lk
  have hio := hok.im_ok
  have hm400 := ((memCheck_zero (linkMem ms)).1 hio.m).1
  generalize linkMem ms = M at *
  generalize placesF 0 0 ms = P at *
  generalize entriesF 0 0 ms = E at *
  have LK := Lib.hid lk
  have HJ := Lib.hid hj
  have HIO := Lib.hid hio
  have HT := Lib.hid hT
  clear lk hm hj hio hT hok
  go_enter Tryd.func6, Tryd.ntmps6
  go_upto_region 2 with (go_at_call 16; ((with_reducible refine (LK.out).mono ?_); rintro e w1 ⟨vm, vp, ve, rfl, om, op, oe, hb1⟩; obtain ⟨ma, mn, mc, rfl⟩ := own_shape om; obtain ⟨pa, pn, pc, rfl⟩ := own_shape op; obtain ⟨ea, en, ec, rfl⟩ := own_shape oe; have OM1 := Lib.hid om; have OE1 := Lib.hid oe; have HB1 := Lib.hid hb1; clear om op oe hb1))
  obtain ⟨w2, hw2⟩ : ∃ w2, w2 = w1.alloc (.cells #[.slice ma mn mc, .slice pa pn pc, .slice ea en ec] 55) := ⟨_, rfl⟩
  rw [← hw2]
  obtain ⟨gi, hgi⟩ : ∃ g, w1.heap.size = g := ⟨_, rfl⟩
  try rw [hgi]
  have b12 : Below w1.heap.size w1 w2 := by rw [hw2]; exact ext_alloc (Below.refl _ _) _
  have i2 : Bk w2 gi 55 #[.slice ma mn mc, .slice pa pn pc, .slice ea en ec] := by rw [hw2, ← hgi]; exact bk_new _ _ _
  have hs1 := HB1.out.size
  have hgw : w.heap.size ≤ gi := by omega
  have I2 := Lib.hid i2
  have OM2 := Lib.hid (OM1.out.below b12)
  have OE2 := Lib.hid (OE1.out.below b12)
  have B2 := Lib.hid (ext_trans HB1.out b12)
  clear hw2 hgi b12 i2 OM1 OE1 LK HB1
  go_upto_region 4 with (go_at_call 17; ((with_reducible refine (linked_any _).mono ?_); rintro e w3 ⟨rfl, hb3⟩; have HB3 := Lib.hid hb3; clear hb3))
  have b23 := HB3.out
  obtain ⟨i0, i1, i2⟩ := cells3 (bk_keep b23 I2.out)
  have iL := (bk_keep b23 I2.out).lt
  have I3 := Lib.hid (bk_keep b23 I2.out)
  have OM3 := Lib.hid (OM2.out.below b23)
  have OE3 := Lib.hid (OE2.out.below b23)
  have B3 := Lib.hid (ext_trans B2.out b23)
  have hnz : ((0 : Int) != 0) = false := by decide
  clear b23 I2 OM2 OE2 B2 HB3
  by_cases hbig : 60 < J
  · have q1 : (60 : Int) < J := by omega
    go_wp2
    go_ret
    exact ⟨rfl, B3.out⟩
  have q1 : ¬ ((60 : Int) < J) := by omega
  have lm := own_ln OM3.out
  have cp := copy_val ma mn mc M w3 (own_sl' OM3.out) (by omega)
  have CP := Lib.hid cp
  have LM := Lib.hid lm
  clear cp lm
  go_upto_region 7 with (go_at_call 21; ((with_reducible refine (CP.out).mono ?_); rintro e w4 ⟨v, rfl, ho, hb4⟩; obtain ⟨ca, cn, cc, rfl⟩ := own_shape ho; have HO4 := Lib.hid ho; have HB4 := Lib.hid hb4; clear ho hb4))
  have I4 := Lib.hid (bk_keep HB4.out I3.out)
  have OM4 := Lib.hid (OM3.out.below HB4.out)
  have OE4 := Lib.hid (OE3.out.below HB4.out)
  have B4 := Lib.hid (ext_trans B3.out HB4.out)
  have OC4 := Lib.hid (HO4.out.mono B3.out.size)
  clear i0 i1 i2 iL I3 OM3 OE3 B3 HB4 HO4 CP
  obtain ⟨i0, i1, i2⟩ := cells3 I4.out
  have iL := I4.out.lt
  have pl := play_any ma pa ea jo mn mc pn pc en ec J jc M E jr js w4 (own_sl' OM4.out) (own_sl' OE4.out) (HJ.out.below B4.out) (by omega) HIO.out (HT.out.below B4.out)
  unfold PlayRes at pl
  have PL := Lib.hid pl
  clear pl
  go_upto_region 8 with (go_at_call 22; ((with_reducible refine (PL.out).mono ?_); rintro e w5 ⟨vo, vm, rr, rfl, oo, hd, om, hb5⟩; obtain ⟨oa, on, oc, rfl⟩ := own_shape oo; obtain ⟨fa, fn, fc, rfl⟩ := own_shape om; have OO5' := Lib.hid oo; have HD5' := Lib.hid hd; have OF5' := Lib.hid om; have HB5 := Lib.hid hb5; clear oo hd om hb5))
  have hs4 := B4.out.size
  have I5 := Lib.hid (bk_keep HB5.out I4.out)
  have OM5 := Lib.hid (OM4.out.below HB5.out)
  have OE5 := Lib.hid (OE4.out.below HB5.out)
  have OC5 := Lib.hid (OC4.out.below HB5.out)
  have B5 := Lib.hid (ext_trans B4.out HB5.out)
  have OO5 := Lib.hid (OO5'.out.mono hs4)
  have HD5 := Lib.hid (HD5'.out.mono hs4)
  have OF5 := Lib.hid (OF5'.out.mono hs4)
  have lo := own_ln OO5.out
  have ld := HD5.out.len
  rw [donesK_len] at ld
  have hoj : on = J := by omega
  have lc := own_ln OC5.out
  have lm := LM.out
  have hcn : cn = mn := by omega
  subst hcn hoj
  clear i0 i1 i2 iL I4 OM4 OE4 B4 HB5 OC4 OO5' HD5' OF5' PL lo ld lc lm
  obtain ⟨i0, i1, i2⟩ := cells3 I5.out
  have iL := I5.out.lt
  have eq := eq_val ma ca cn cn mc cc M M w5 (own_sl' OM5.out) (own_sl' OC5.out)
  simp only [decide_true] at eq
  have EQ := Lib.hid eq
  have g1 : ((on : Int) != (on : Int)) = false := by simp
  clear eq
  go_upto_region 10 with (go_at_call 20; ((with_reducible refine (EQ.out).mono ?_); rintro e w6 ⟨rfl, hb6⟩; have HB6 := Lib.hid hb6; clear hb6))
  have I6 := Lib.hid (bk_keep HB6.out I5.out)
  have OM6 := Lib.hid (OM5.out.below HB6.out)
  have OE6 := Lib.hid (OE5.out.below HB6.out)
  have OO6 := Lib.hid (OO5.out.below HB6.out)
  have HD6 := Lib.hid (HD5.out.below HB6.out)
  have OF6 := Lib.hid (OF5.out.below HB6.out)
  have B6 := Lib.hid (ext_trans B5.out HB6.out)
  clear i0 i1 i2 iL I5 OM5 OE5 OC5 B5 HB6 OO5 HD5 OF5 EQ g1
  go_wp2
  go_loopw [57] (fun i wr => ∃ (k : Nat) (xa : Option Addr) (xn xc : Nat), k ≤ on ∧ i = .int .i64 k ∧ Bk wr gi 55 #[.slice xa xn xc, .slice pa pn pc, .slice ea en ec] ∧ Own wr w.heap.size 32 (.slice xa xn xc) (memK E M (js.take k)) ∧ Own wr w.heap.size 104 (.slice ea en ec) E ∧ Own wr w.heap.size 59 (.slice oa on oc) rr ∧ Dones wr w.heap.size rr (donesK E M js) ∧ Own wr w.heap.size 32 (.slice fa fn fc) (memK E M js) ∧ Below w.heap.size w wr) (fun i _ => on - (intOf i).toNat)
  case atStart => exact ⟨0, ma, cn, mc, Nat.zero_le _, rfl, I6.out, OM6.out, OE6.out, OO6.out, HD6.out, OF6.out, B6.out⟩
  case round =>
    obtain ⟨k, xa, xn, xc, hk, rfl, hi, hxm, hoe, hoo, hdd, hof, hb⟩ := hrel
    have HI := Lib.hid hi
    have HXM := Lib.hid hxm
    have HOE := Lib.hid hoe
    have HOO := Lib.hid hoo
    have HDD := Lib.hid hdd
    have HOF := Lib.hid hof
    have HB := Lib.hid hb
    clear hi hxm hoe hoo hdd hof hb I6 OM6 OE6 OO6 HD6 OF6 B6
    by_cases hlt : k < on
    · have q0 : (0 : Int) ≤ k := by omega
      have q2 : (k : Int) < on := by omega
      obtain ⟨r, j, hr, hjj, hhas⟩ := HJ.out.get hlt
      obtain ⟨ad, hao, hab, e0, e1, e2⟩ := sl_JobR (HJ.out.sl.below HB.out) hlt hr
      subst hao
      have hmn := memK_next (E := E) (M := M) hjj
      have hdn := donesK_at (E := E) (M := M) hjj
      have hok2 := memK_ok (E := E) (js := js.take k) HIO.out
      obtain ⟨nm, ⟨aa, an, ac⟩, F⟩ := r
      obtain ⟨s, args, F'⟩ := j
      obtain ⟨f1, f2, ha, hac, hai, hF⟩ := hhas
      simp only at f1 f2 ha hac hai hF e0 e1 e2 hmn hdn
      subst f1 f2
      obtain ⟨w7, hw7⟩ : ∃ w7, w7 = wr.alloc (.cells #[.string s, .slice aa an ac, .int .i64 F'] 51) := ⟨_, rfl⟩
      obtain ⟨g12, hg12⟩ : ∃ g, g = wr.heap.size := ⟨_, rfl⟩
      have b7 : Below wr.heap.size wr w7 := by rw [hw7]; exact ext_alloc (Below.refl _ _) _
      have j7 : Bk w7 g12 51 #[.string s, .slice aa an ac, .int .i64 F'] := by rw [hw7, hg12]; exact bk_new _ _ _
      have b07 := ext_trans HB.out b7
      have hs0 := HB.out.size
      have dd := do_any xa pa ea aa xn xc pn pc en ec an ac (memK E M (js.take k)) E s args F' w7 (own_sl' (HXM.out.below b7)) (own_sl' (HOE.out.below b7)) (ha.below b07) hok2 hai (HT.out.below b07)
      generalize doF (memK E M (js.take k)) E s args F' = D at dd hmn hdn
      obtain ⟨⟨de, dn, dout, df⟩, M2⟩ := D
      simp only at hmn hdn
      unfold DoRes at dd
      obtain ⟨q, hq⟩ : ∃ q, rr[k]? = some q := ⟨_, List.getElem?_eq_getElem (by have h1 := HDD.out.len; rw [donesK_len] at h1; omega)⟩
      have HW7 := Lib.hid hw7
      have HG12 := Lib.hid hg12
      have J7 := Lib.hid j7
      have B7 := Lib.hid b7
      have B07 := Lib.hid b07
      have DO := Lib.hid dd
      have HMN := Lib.hid hmn
      have HDN := Lib.hid hdn
      have HQ := Lib.hid hq
      clear hw7 hg12 j7 b7 b07 dd hmn hdn hok2 hr hjj ha hac hai hF hq
      go_upto_region 13 with (fail)
      try rw [← HG12.out]
      rw [← HW7.out]
      clear e0 e1 e2 hab HW7 HG12
      obtain ⟨i0, i1, i2⟩ := cells3 (bk_keep B7.out HI.out)
      have iL := (bk_keep B7.out HI.out).lt
      obtain ⟨k0, k1, k2⟩ := cells3 J7.out
      have kL := J7.out.lt
      go_upto_region 14 with (go_at_call 18; ((with_reducible refine (DO.out).mono ?_); rintro e w8 ⟨vo, vm, rfl, oo, ox, hb⟩; obtain ⟨ya, yn, yc, rfl⟩ := own_shape oo; obtain ⟨za, zn, zc, rfl⟩ := own_shape ox; have OY8 := Lib.hid oo; have OZ8 := Lib.hid ox; have HB8 := Lib.hid hb; clear oo ox hb))
      obtain ⟨w9, hw9⟩ : ∃ w9, w9 = w8.alloc (.cells #[.int .i64 de, .int .i64 dn, .slice ya yn yc, .int .i64 df] 59) := ⟨_, rfl⟩
      rw [← hw9]
      obtain ⟨g13, hg13⟩ : ∃ g, w8.heap.size = g := ⟨_, rfl⟩
      try rw [hg13]
      have b89 : Below w8.heap.size w8 w9 := by rw [hw9]; exact ext_alloc (Below.refl _ _) _
      have d9 : Bk w9 g13 59 #[.int .i64 de, .int .i64 dn, .slice ya yn yc, .int .i64 df] := by rw [hw9, ← hg13]; exact bk_new _ _ _
      have b79 := ext_trans HB8.out b89
      have b9 := ext_trans B7.out b79
      have hs7 := B07.out.size
      have I9 := Lib.hid (bk_keep b9 HI.out)
      have XM9 := Lib.hid (HXM.out.below b9)
      have OE9 := Lib.hid (HOE.out.below b9)
      have OO9 := Lib.hid (HOO.out.below b9)
      have DD9 := Lib.hid (HDD.out.below b9)
      have OF9 := Lib.hid (HOF.out.below b9)
      have OY9 := Lib.hid ((OY8.out.below b89).mono hs7)
      have OZ9 := Lib.hid ((OZ8.out.below b89).mono hs7)
      have B9 := Lib.hid (ext_trans HB.out b9)
      have D9 := Lib.hid d9
      clear hw9 hg13 b89 d9 b79 b9 i0 i1 i2 iL k0 k1 k2 kL OY8 OZ8 HB8 DO J7 B7 B07 HI HXM HOE HOO HDD HOF HB
      obtain ⟨d0, d1, d2, d3⟩ := cellsM4 D9.out
      have dL := D9.out.lt
      obtain ⟨⟨ge, gn, ⟨ga, gm, gc⟩, gf⟩, hq⟩ : ∃ q', q = q' := ⟨q, rfl⟩
      subst hq
      obtain ⟨r1, r2, r3, r4⟩ := DD9.out.at_ k _ _ HQ.out HDN.out
      simp only at r1 r2 r3 r4
      subst r1 r2 r3
      obtain ⟨od, hod, hob, f0, f1, f2, f3⟩ := sl_DoneR (own_sl' OO9.out) hlt HQ.out
      subst hod
      simp only at f0 f1 f2 f3
      have l1 := own_ln r4
      have l2 := own_ln OY9.out
      have hyg : yn = gm := by omega
      subst hyg
      have de9 := fun (W : World) (hb : Below w9.heap.size w9 W) => doneeq_same ge gn gf ya ga yn yc gc dout W ((own_sl' OY9.out).below hb) ((own_sl' r4).below hb)
      have DEQ := Lib.hid de9
      clear de9 r4 l1 l2
      go_region_law (go_simp; go_at_call 19; ((with_reducible refine (DEQ.out _ (ext_drew (Below.refl _ _))).mono ?_); rintro e w10 ⟨rfl, hb10⟩))
      all_goals
        have b9a := ext_trans (ext_drew (Below.refl w9.heap.size w9)) hb10
        have I10 := Lib.hid (bk_keep b9a I9.out)
        have OE10 := Lib.hid (OE9.out.below b9a)
        have OO10 := Lib.hid (OO9.out.below b9a)
        have DD10 := Lib.hid (DD9.out.below b9a)
        have OF10 := Lib.hid (OF9.out.below b9a)
        have OZ10 := Lib.hid (OZ9.out.below b9a)
        have B10 := Lib.hid (ext_trans B9.out b9a)
        clear d0 d1 d2 d3 dL f0 f1 f2 f3 hob b9a hb10 I9 XM9 OE9 OO9 DD9 OF9 OY9 OZ9 B9 D9 DEQ
        obtain ⟨i0, i1, i2⟩ := cells3 I10.out
        have iL := I10.out.lt
        have iF := fun i => I10.out.frozen i
        go_wp2
        go_roundw
        case rel =>
          refine ⟨k + 1, za, zn, zc, by omega, by go_num, bk_set' I10.out rfl, ?_, own_cell OE10.out I10.out (by decide) _ _, own_cell OO10.out I10.out (by decide) _ _, DD10.out.cell I10.out (by decide) _ _, own_cell OF10.out I10.out (by decide) _ _, B10.out.grown (grown_setCell w10 gi 0 _) B10.out.size (fun i e => by injection e with e; omega)⟩
          rw [HMN.out]
          exact own_cell OZ10.out I10.out (by decide) _ _
        case measure => simp [intOf]; omega
    · have q2 : ¬ ((k : Int) < on) := by omega
      obtain rfl : k = on := by omega
      obtain ⟨i0, i1, i2⟩ := cells3 HI.out
      have iL := HI.out.lt
      have hxm := HXM.out
      rw [List.take_of_length_le (by omega)] at hxm
      have l1 := own_ln hxm
      have l2 := own_ln HOF.out
      have hxf : fn = xn := by omega
      subst hxf
      have eq := eq_val xa fa fn fn xc fc _ _ wr (own_sl' hxm) (own_sl' HOF.out)
      simp only [decide_true] at eq
      have EQ := Lib.hid eq
      clear eq hxm l1 l2
      go_wp2_with (go_at_call 20; ((with_reducible refine (EQ.out).mono ?_); rintro e w6 ⟨rfl, hb6⟩; have HB6 := Lib.hid hb6; clear hb6))
      go_ret
      exact ⟨rfl, ext_trans HB.out HB6.out⟩
theorem enterChain_walk {w : World} (x : ModsA) (y : JobsA) (hx : x.ok w) (hy : y.ok w) (hT : Tab w) : Calls Tryd.prog 6 #[x.val, y.val] w fun e w' => e = .returned (.bool true) ∧ Below w.heap.size w w' := by
  by_cases h : LinkOk isNameB x.ms
  · exact chain_good x y w hx hy hT h
  · exact chain_bad x y w hx hy hT h
end Go.Proofs.YtmmmmeeepieemaaDoor
