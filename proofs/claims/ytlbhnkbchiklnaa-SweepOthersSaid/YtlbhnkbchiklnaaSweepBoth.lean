/- The walk of SweepBoth. -/
import Derived.Test.YtlbhnkbchiklnaaSweepNone
namespace Go.Proofs.Ytlbhnkbchiklnaa
open Go.RowKit
set_option linter.unusedVariables false
set_option linter.unusedSimpArgs false
/-- Sweep's answer, whatever it is. -/
theorem sweep_some (R : List ValV) (c : KeyV) (mem : List ValV) (stk : List FrameV) (out : List Int) (b n : Int) (wb : I64 b) (wn : I64 n) (h8 : R.length = 8) :
    ∃ (R' : List ValV) (c' : KeyV) (mem' : List ValV) (stk' : List FrameV) (out' : List Int) (cnt er : Int), R'.length = 8 ∧ (er ≠ 0 ∨ (er = 0 ∧ MOk R c mem stk out ∧ 0 ≤ b ∧ b ≤ 400 ∧ 0 ≤ n ∧ n ≤ 400 - b ∧ R' = R.map (swV b n) ∧ c' = swK b n c ∧ mem' = mem.map (swV b n) ∧ stk' = stk.map (swF b n) ∧ out' = out ∧ cnt = swCount b n R c mem stk)) ∧
      ∀ (ma sa oa : Option Addr) (mc sc oc : Nat) W, Sl W ma mem.length mem → Sl W sa stk.length stk → Sl W oa out.length out → Calls Try.prog 30 #[.agg (mcs R c (.slice ma mem.length mc) (.slice sa stk.length sc) (.slice oa out.length oc)), .int .i64 b, .int .i64 n] W (SwPost W R' c' mem' stk' out' cnt er) := by
  rcases sweep_cases R c mem stk out b n wb wn h8 with ⟨ec, hne, hsw⟩ | ⟨hok, b0, b1, n0, n1⟩
  · exact ⟨zeroR, zeroK, [], [], [], 0, ec, rfl, .inl hne, hsw⟩
  · exact ⟨_, _, _, _, _, _, 0, by simpa using h8, .inr ⟨rfl, hok, b0, b1, n0, n1, rfl, rfl, rfl, rfl, rfl, rfl⟩, fun ma sa oa mc sc oc W hm hs ho => sweep_ok R c mem stk out ma sa oa mc sc oc b n W h8 hm hs ho hok b0 b1 n0 n1⟩
theorem swCount_bd (b n : Int) (R : List ValV) (c : KeyV) (mem : List ValV) (stk : List FrameV) : 0 ≤ swCount b n R c mem stk ∧ swCount b n R c mem stk ≤ 1 + R.length + mem.length + 2 * stk.length := by
  have h1 := ctK_bd b n c
  have h2 := sumV_bd b n R
  have h3 := sumV_bd b n mem
  have h4 := sumF_bd b n stk
  unfold swCount
  omega
set_option maxHeartbeats 8000000 in
set_option maxRecDepth 100000 in
theorem sweepBoth_walk {w : World} (m : MachA) (a n b k : Int) (hM : m.ok w) (ha0 : (Lit.int .i64 a).wf = true) (hn0 : (Lit.int .i64 n).wf = true) (hb0 : (Lit.int .i64 b).wf = true) (hk0 : (Lit.int .i64 k).wf = true) :
    Calls Try.prog 8 #[m.val, .int .i64 a, .int .i64 n, .int .i64 b, .int .i64 k] w fun e w' => e = .returned (.bool true) ∧ Below w.heap.size w w' := by
  obtain ⟨R, c, mem, stk, out, ma, sa, oa, mc, sc, oc⟩ := m
  obtain ⟨h8, hm, hs, ho, _, _, _, _, _⟩ := hM
  simp only [MachA.val] at h8 hm hs ho ⊢
  have hsz := mcs_size (c := c) (ms := .slice ma mem.length mc) (ss := .slice sa stk.length sc) (os := .slice oa out.length oc) h8
  obtain ⟨R1, c1, m1, s1, o1, ct1, er1, l1, cs1, sw1⟩ := sweep_some R c mem stk out a n (wf_bd ha0) (wf_bd hn0) h8
  obtain ⟨R2, c2, m2, s2, o2, ct2, er2, l2, cs2, sw2⟩ := sweep_some R c mem stk out b k (wf_bd hb0) (wf_bd hk0) h8
  have hsw := fun W (h : Below w.heap.size w W) => sw1 ma sa oa mc sc oc W (hm.below h) (hs.below h) (ho.below h)
  have hsv := fun W (h : Below w.heap.size w W) => sw2 ma sa oa mc sc oc W (hm.below h) (hs.below h) (ho.below h)
  unfold SwPost at hsw hsv
  obtain ⟨cs, hcs⟩ : ∃ cs, cs = mcs R c (.slice ma mem.length mc) (.slice sa stk.length sc) (.slice oa out.length oc) := ⟨_, rfl⟩
  rw [← hcs] at hsz hsw hsv ⊢
  have hex : cs.extract 0 (0 + 64) = cs := by rw [Array.extract_eq_self_of_le (by rw [hsz]; omega)]
  obtain ⟨w1, hw1⟩ : ∃ w1, w1 = w.alloc (.cells cs 52) := ⟨_, rfl⟩
  have hB : Bk w1 w.heap.size 52 cs := by rw [hw1]; exact bk_new _ _ _
  have h1w : Below w.heap.size w w1 := by rw [hw1]; exact ext_alloc (Below.refl _ _) _
  have HW1 := Lib.hid hw1
  have HSZ := Lib.hid hsz
  have HEX := Lib.hid hex
  have HB := Lib.hid hB
  have H1W := Lib.hid h1w
  have SP := Lib.hid (fun y : Later w1 => hsw y.val (ext_trans h1w y.ok))
  have SV := Lib.hid (fun W (h : Below w1.heap.size w1 W) => hsv W (ext_trans h1w h))
  have L1 := Lib.hid l1
  have L2 := Lib.hid l2
  have CS1 := Lib.hid cs1
  have CS2 := Lib.hid cs2
  have HL8 := Lib.hid h8
  clear hsz hex hB h1w hw1 hm hs ho h8 hsw hsv hcs sw1 sw2 l1 l2 cs1 cs2
  go_enter Try.func8, Try.ntmps8
  go_upto_region 1 with (fail)
  rw [← HW1.out]
  go_upto_region 4 with (first
    | (go_at_call 31; ((with_reducible refine (swept_any _).mono ?_); rintro e w' ⟨rfl, hb⟩; obtain ⟨y1, rfl⟩ := later_call (Below.refl _ _) hb; clear hb))
    | (refine wpList_load_sub rfl 52 (.tmp 5) rfl w.heap.size 0 64 rfl 52 _ _ (y1.bk HB.out) Try.underlying52 rfl (by kernel_rfl) (by rw [HSZ.out]; omega) _ HEX.out ?_)
    | (go_at_call 30; ((with_reducible refine (SP.out y1).mono ?_); rintro e w2 ⟨vm, vs, vo, rfl, om, os, oo, hb⟩; obtain ⟨ma2, mc2, rfl, sm2, _⟩ := om.sl; obtain ⟨sa2, sc2, rfl, ss2, _⟩ := os.sl; obtain ⟨oa2, oc2, rfl, so2, _⟩ := oo.sl; have HO2 := Lib.hid (fun (R : List ValV) (c : KeyV) => mcs_one (R := R) (c := c) (ownsOne om) (ownsOne os) (ownsOne oo)); have SM2 := Lib.hid sm2; have SS2 := Lib.hid ss2; have SO2 := Lib.hid so2; have HB2 := Lib.hid hb; clear om os oo hb sm2 ss2 so2))
    | (refine wpList_store_fresh rfl 52 (.tmp 11) (.tmp 30) rfl rfl (mcs R1 c1 (.slice ma2 m1.length mc2) (.slice sa2 s1.length sc2) (.slice oa2 o1.length oc2)) 52 _ rfl rfl (by rw [mcs_size L1.out]; kernel_rfl) (by rw [mcs_size L1.out]; kernel_rfl) (HO2.out _ _) ?_))
  obtain ⟨gx, hgx⟩ : ∃ gx, gx = w2.heap.size := ⟨_, rfl⟩
  obtain ⟨W3, hW3⟩ : ∃ W3, W3 = w2.alloc (.cells (mcs R1 c1 (.slice ma2 m1.length mc2) (.slice sa2 s1.length sc2) (.slice oa2 o1.length oc2)) 52) := ⟨_, rfl⟩
  have b23 : Below w2.heap.size w2 W3 := by rw [hW3]; exact ext_alloc (Below.refl _ _) _
  have kx : Bk W3 gx 52 (mcs R1 c1 (.slice ma2 m1.length mc2) (.slice sa2 s1.length sc2) (.slice oa2 o1.length oc2)) := by rw [hW3, hgx]; exact bk_new _ _ _
  have b13 : Below w1.heap.size w1 W3 := ext_trans (ext_trans y1.ok HB2.out) b23
  have KM := Lib.hid (bk_keep b13 HB.out)
  have SV3 := Lib.hid (SV.out W3 b13)
  have B13 := Lib.hid b13
  have B23 := Lib.hid b23
  have KX := Lib.hid kx
  rw [← hW3, ← hgx]
  clear kx b13 b23 hW3 hgx
  go_upto_region 5 with (first
    | (refine wpList_load_sub rfl 52 (.tmp 5) rfl w.heap.size 0 64 rfl 52 _ _ KM.out Try.underlying52 rfl (by kernel_rfl) (by rw [HSZ.out]; omega) _ HEX.out ?_)
    | (go_at_call 30; ((with_reducible refine SV3.out.mono ?_); rintro e w4 ⟨vm, vs, vo, rfl, om, os, oo, hb⟩; obtain ⟨ma4, mc4, rfl, sm4, _⟩ := om.sl; obtain ⟨sa4, sc4, rfl, ss4, _⟩ := os.sl; obtain ⟨oa4, oc4, rfl, so4, _⟩ := oo.sl; have HO4 := Lib.hid (fun (R : List ValV) (c : KeyV) => mcs_one (R := R) (c := c) (ownsOne om) (ownsOne os) (ownsOne oo)); have SM4 := Lib.hid sm4; have SS4 := Lib.hid ss4; have SO4 := Lib.hid so4; have HB4 := Lib.hid hb; clear om os oo hb sm4 ss4 so4))
    | (refine wpList_store_fresh rfl 52 (.tmp 14) (.tmp 38) rfl rfl (mcs R2 c2 (.slice ma4 m2.length mc4) (.slice sa4 s2.length sc4) (.slice oa4 o2.length oc4)) 52 _ rfl rfl (by rw [mcs_size L2.out]; kernel_rfl) (by rw [mcs_size L2.out]; kernel_rfl) (HO4.out _ _) ?_))
  have fin : Below w.heap.size w (w4.alloc (.cells (mcs R2 c2 (.slice ma4 m2.length mc4) (.slice sa4 s2.length sc4) (.slice oa4 o2.length oc4)) 52)) := ext_alloc (ext_trans (ext_trans H1W.out B13.out) HB4.out) _
  have FIN := Lib.hid fin
  clear fin
  rcases CS1.out with e1 | ⟨e1, hok, a0, a1, n0, n1, t1, t2, t3, t4, t5, t6⟩
  · have g1 : (er1 == 0) = false := by simpa using e1
    have g2 : (er1 != 0) = true := by simpa using e1
    clear e1
    go_wp2
    go_ret
    exact ⟨rfl, FIN.out⟩
  · rcases CS2.out with e2 | ⟨e2, _, b0, b1, k0, k1, u1, u2, u3, u4, u5, u6⟩
    · have g1 : (er2 == 0) = false := by simpa using e2
      have g2 : (er2 != 0) = true := by simpa using e2
      clear t1 t2 t3 t4 t5 t6 hok
      subst e1
      clear e2
      go_wp2
      go_ret
      exact ⟨rfl, FIN.out⟩
    · subst e1 e2
      have hcomm := swCount_comm a n b k R c mem stk
      have hbd1 := swCount_bd a n R c mem stk
      have hbd2 := swCount_bd b k R c mem stk
      have hok1 : MOk R1 c1 m1 s1 o1 := by rw [t1, t2, t3, t4, t5]; exact swept_ok hok
      have hok2 : MOk R2 c2 m2 s2 o2 := by rw [u1, u2, u3, u4, u5]; exact swept_ok hok
      have hs1 : s1.length = stk.length := by rw [t4]; simp
      have hs2 : s2.length = stk.length := by rw [u4]; simp
      have hm1 : m1.length = mem.length := by rw [t3]; simp
      have hm2 : m2.length = mem.length := by rw [u3]; simp
      have hbd3 := swCount_bd b k R1 c1 m1 s1
      have hbd4 := swCount_bd a n R2 c2 m2 s2
      have hl1 := L1.out
      have hl2 := L2.out
      have hl := HL8.out
      have z1 := hok.len; have z2 := hok.deep; have z3 := hok1.len; have z4 := hok1.deep; have z5 := hok2.len; have z6 := hok2.deep
      have v1 : R2.map (swV a n) = R1.map (swV b k) := by rw [t1, u1, List.map_map, List.map_map]; exact List.map_congr_left (fun v _ => (swV_comm a n b k v).symm)
      have v2 : swK a n c2 = swK b k c1 := by rw [t2, u2]; exact (swK_comm a n b k c).symm
      have v3 : m2.map (swV a n) = m1.map (swV b k) := by rw [t3, u3, List.map_map, List.map_map]; exact List.map_congr_left (fun v _ => (swV_comm a n b k v).symm)
      have v4 : s2.map (swF a n) = s1.map (swF b k) := by rw [t4, u4, List.map_map, List.map_map]; exact List.map_congr_left (fun v _ => (swF_comm a n b k v).symm)
      have v5 : o2 = o1 := by rw [t5, u5]
      rw [← t6, ← u6] at hcomm
      rw [← t6] at hbd1
      rw [← u6] at hbd2
      have hcomm2 : ct1 + swCount b k R1 c1 m1 s1 = ct2 + swCount a n R2 c2 m2 s2 := by rw [t1, t2, t3, t4, u1, u2, u3, u4]; exact hcomm
      have l9 : (R1.map (swV b k)).length = 8 := by simpa using hl1
      obtain ⟨gy, hgy⟩ : ∃ gy, gy = w4.heap.size := ⟨_, rfl⟩
      obtain ⟨W5, hW5⟩ : ∃ W5, W5 = w4.alloc (.cells (mcs R2 c2 (.slice ma4 m2.length mc4) (.slice sa4 s2.length sc4) (.slice oa4 o2.length oc4)) 52) := ⟨_, rfl⟩
      have b45 : Below w4.heap.size w4 W5 := by rw [hW5]; exact ext_alloc (Below.refl _ _) _
      have b35 : Below W3.heap.size W3 W5 := ext_trans HB4.out b45
      have ky : Bk W5 gy 52 (mcs R2 c2 (.slice ma4 m2.length mc4) (.slice sa4 s2.length sc4) (.slice oa4 o2.length oc4)) := by rw [hW5, hgy]; exact bk_new _ _ _
      have sp6 := sweep_ok R1 c1 m1 s1 o1 ma2 sa2 oa2 mc2 sc2 oc2 b k W5 hl1 ((SM2.out.below B23.out).below b35) ((SS2.out.below B23.out).below b35) ((SO2.out.below B23.out).below b35) hok1 b0 b1 k0 k1
      have sp8 := fun W (h : Below W5.heap.size W5 W) => sweep_ok R2 c2 m2 s2 o2 ma4 sa4 oa4 mc4 sc4 oc4 a n W hl2 ((SM4.out.below b45).below h) ((SS4.out.below b45).below h) ((SO4.out.below b45).below h) hok2 a0 a1 n0 n1
      rw [v1, v2, v3, v4, v5] at sp8
      rw [v5] at ky
      unfold SwPost at sp6 sp8
      generalize swCount b k R1 c1 m1 s1 = ct3 at *
      generalize swCount a n R2 c2 m2 s2 = ct4 at *
      have meq := fun (W : World) (ma6 sa6 oa6 ma8 sa8 oa8 : Option Addr) (mc6 sc6 oc6 mc8 sc8 oc8 : Nat) s6 t6 o6 s8 t8 o8 => meq_any (R1.map (swV b k)) (R1.map (swV b k)) (swK b k c1) (swK b k c1) (m1.map (swV b k)) (m1.map (swV b k)) (s1.map (swF b k)) (s1.map (swF b k)) o1 o1 ma6 sa6 oa6 ma8 sa8 oa8 mc6 sc6 oc6 mc8 sc8 oc8 W l9 l9 s6 t6 o6 s8 t8 o8
      simp only [and_self, decide_true] at meq
      have hszx := mcs_size (c := c1) (ms := .slice ma2 m1.length mc2) (ss := .slice sa2 s1.length sc2) (os := .slice oa2 o1.length oc2) hl1
      have hszy := mcs_size (c := c2) (ms := .slice ma4 m2.length mc4) (ss := .slice sa4 s2.length sc4) (os := .slice oa4 o2.length oc4) hl2
      have hexx : (mcs R1 c1 (.slice ma2 m1.length mc2) (.slice sa2 s1.length sc2) (.slice oa2 o1.length oc2)).extract 0 (0 + 64) = (mcs R1 c1 (.slice ma2 m1.length mc2) (.slice sa2 s1.length sc2) (.slice oa2 o1.length oc2)) := by rw [Array.extract_eq_self_of_le (by rw [hszx]; omega)]
      have hexy : (mcs R2 c2 (.slice ma4 m2.length mc4) (.slice sa4 s2.length sc4) (.slice oa4 o2.length oc4)).extract 0 (0 + 64) = (mcs R2 c2 (.slice ma4 m2.length mc4) (.slice sa4 s2.length sc4) (.slice oa4 o2.length oc4)) := by rw [Array.extract_eq_self_of_le (by rw [hszy]; omega)]
      rw [← hW5, ← hgy]
      have h5w : Below w.heap.size w W5 := ext_trans (ext_trans H1W.out B13.out) b35
      generalize R1.map (swV b k) = R9 at *
      generalize swK b k c1 = c9 at *
      generalize m1.map (swV b k) = m9 at *
      generalize s1.map (swF b k) = s9 at *
      have w10 : 0 ≤ ct1 := by omega
      have w11 : ct1 ≤ 500 := by omega
      have w20 : 0 ≤ ct2 := by omega
      have w21 : ct2 ≤ 500 := by omega
      have w30 : 0 ≤ ct3 := by omega
      have w31 : ct3 ≤ 500 := by omega
      have w40 : 0 ≤ ct4 := by omega
      have w41 : ct4 ≤ 500 := by omega
      have L9 := Lib.hid l9
      have SP6 := Lib.hid sp6
      have SP8 := Lib.hid sp8
      have MEQ := Lib.hid meq
      have KX5 := Lib.hid (bk_keep b35 KX.out)
      have KY5 := Lib.hid ky
      have HSX := Lib.hid hszx
      have HSY := Lib.hid hszy
      have HEXX := Lib.hid hexx
      have HEXY := Lib.hid hexy
      have H5W := Lib.hid h5w
      have HC := Lib.hid hcomm2
      clear l9 sp6 sp8 meq ky hszx hszy hexx hexy h5w hcomm hcomm2 hW5 hgy b45 b35 v1 v2 v3 v4 t1 t2 t3 t4 t5 t6 u1 u2 u3 u4 u5 u6 hok hok1 hok2 hl1 hl2 hl z1 z2 z3 z4 z5 z6 hbd1 hbd2 hbd3 hbd4 hs1 hs2 hm1 hm2
      cases v5
      go_upto_region 8 with (first
        | (refine wpList_load_sub rfl 52 (.tmp 11) rfl gx 0 64 rfl 52 _ _ KX5.out Try.underlying52 rfl (by kernel_rfl) (by rw [HSX.out]; omega) _ HEXX.out ?_)
        | (go_at_call 30; ((with_reducible refine SP6.out.mono ?_); rintro e w6 ⟨vm, vs, vo, rfl, om, os, oo, hb⟩; obtain ⟨ma6, mc6, rfl, sm6, _⟩ := om.sl; obtain ⟨sa6, sc6, rfl, ss6, _⟩ := os.sl; obtain ⟨oa6, oc6, rfl, so6, _⟩ := oo.sl; have HO6 := Lib.hid (fun (R : List ValV) (c : KeyV) => mcs_one (R := R) (c := c) (ownsOne om) (ownsOne os) (ownsOne oo)); have SM6 := Lib.hid sm6; have SS6 := Lib.hid ss6; have SO6 := Lib.hid so6; have HB6 := Lib.hid hb; clear om os oo hb sm6 ss6 so6))
        | (refine wpList_store_fresh rfl 52 (.tmp 17) (.tmp 52) rfl rfl (mcs R9 c9 (.slice ma6 m9.length mc6) (.slice sa6 s9.length sc6) (.slice oa6 o1.length oc6)) 52 _ rfl rfl (by rw [mcs_size L9.out]; kernel_rfl) (by rw [mcs_size L9.out]; kernel_rfl) (HO6.out _ _) ?_))
      obtain ⟨gu, hgu⟩ : ∃ gu, gu = w6.heap.size := ⟨_, rfl⟩
      obtain ⟨W7, hW7⟩ : ∃ W7, W7 = w6.alloc (.cells (mcs R9 c9 (.slice ma6 m9.length mc6) (.slice sa6 s9.length sc6) (.slice oa6 o1.length oc6)) 52) := ⟨_, rfl⟩
      have b67 : Below w6.heap.size w6 W7 := by rw [hW7]; exact ext_alloc (Below.refl _ _) _
      have b57 : Below W5.heap.size W5 W7 := ext_trans HB6.out b67
      have KU := Lib.hid (show Bk W7 gu 52 (mcs R9 c9 (.slice ma6 m9.length mc6) (.slice sa6 s9.length sc6) (.slice oa6 o1.length oc6)) by rw [hW7, hgu]; exact bk_new _ _ _)
      have KY7 := Lib.hid (bk_keep b57 KY5.out)
      have SP87 := Lib.hid (SP8.out W7 b57)
      have SM7 := Lib.hid (SM6.out.below b67)
      have SS7 := Lib.hid (SS6.out.below b67)
      have SO7 := Lib.hid (SO6.out.below b67)
      have H7W := Lib.hid (ext_trans H5W.out b57)
      rw [← hW7, ← hgu]
      clear b67 b57 hW7 hgu
      go_upto_region 9 with (first
        | (refine wpList_load_sub rfl 52 (.tmp 14) rfl gy 0 64 rfl 52 _ _ KY7.out Try.underlying52 rfl (by kernel_rfl) (by rw [HSY.out]; omega) _ HEXY.out ?_)
        | (go_at_call 30; ((with_reducible refine SP87.out.mono ?_); rintro e w8 ⟨vm, vs, vo, rfl, om, os, oo, hb⟩; obtain ⟨ma8, mc8, rfl, sm8, _⟩ := om.sl; obtain ⟨sa8, sc8, rfl, ss8, _⟩ := os.sl; obtain ⟨oa8, oc8, rfl, so8, _⟩ := oo.sl; have HO8 := Lib.hid (fun (R : List ValV) (c : KeyV) => mcs_one (R := R) (c := c) (ownsOne om) (ownsOne os) (ownsOne oo)); have SM8 := Lib.hid sm8; have SS8 := Lib.hid ss8; have SO8 := Lib.hid so8; have HB8 := Lib.hid hb; clear om os oo hb sm8 ss8 so8))
        | (refine wpList_store_fresh rfl 52 (.tmp 20) (.tmp 60) rfl rfl (mcs R9 c9 (.slice ma8 m9.length mc8) (.slice sa8 s9.length sc8) (.slice oa8 o1.length oc8)) 52 _ rfl rfl (by rw [mcs_size L9.out]; kernel_rfl) (by rw [mcs_size L9.out]; kernel_rfl) (HO8.out _ _) ?_))
      obtain ⟨gv, hgv⟩ : ∃ gv, gv = w8.heap.size := ⟨_, rfl⟩
      obtain ⟨W9, hW9⟩ : ∃ W9, W9 = w8.alloc (.cells (mcs R9 c9 (.slice ma8 m9.length mc8) (.slice sa8 s9.length sc8) (.slice oa8 o1.length oc8)) 52) := ⟨_, rfl⟩
      have b89 : Below w8.heap.size w8 W9 := by rw [hW9]; exact ext_alloc (Below.refl _ _) _
      have b79 : Below W7.heap.size W7 W9 := ext_trans HB8.out b89
      have KV := Lib.hid (show Bk W9 gv 52 (mcs R9 c9 (.slice ma8 m9.length mc8) (.slice sa8 s9.length sc8) (.slice oa8 o1.length oc8)) by rw [hW9, hgv]; exact bk_new _ _ _)
      have KU9 := Lib.hid (bk_keep b79 KU.out)
      have ME9 := Lib.hid (MEQ.out W9 ma6 sa6 oa6 ma8 sa8 oa8 mc6 sc6 oc6 mc8 sc8 oc8 (SM7.out.below b79) (SS7.out.below b79) (SO7.out.below b79) (SM8.out.below b89) (SS8.out.below b89) (SO8.out.below b89))
      have H9W := Lib.hid (ext_trans H7W.out b79)
      have HSU := Lib.hid (mcs_size (R := R9) (c := c9) (ms := .slice ma6 m9.length mc6) (ss := .slice sa6 s9.length sc6) (os := .slice oa6 o1.length oc6) L9.out)
      have HSV := Lib.hid (mcs_size (R := R9) (c := c9) (ms := .slice ma8 m9.length mc8) (ss := .slice sa8 s9.length sc8) (os := .slice oa8 o1.length oc8) L9.out)
      have HEXU := Lib.hid (show (mcs R9 c9 (.slice ma6 m9.length mc6) (.slice sa6 s9.length sc6) (.slice oa6 o1.length oc6)).extract 0 (0 + 64) = (mcs R9 c9 (.slice ma6 m9.length mc6) (.slice sa6 s9.length sc6) (.slice oa6 o1.length oc6)) by rw [Array.extract_eq_self_of_le (by rw [HSU.out]; omega)])
      have HEXV := Lib.hid (show (mcs R9 c9 (.slice ma8 m9.length mc8) (.slice sa8 s9.length sc8) (.slice oa8 o1.length oc8)).extract 0 (0 + 64) = (mcs R9 c9 (.slice ma8 m9.length mc8) (.slice sa8 s9.length sc8) (.slice oa8 o1.length oc8)) by rw [Array.extract_eq_self_of_le (by rw [HSV.out]; omega)])
      rw [← hW9, ← hgv]
      have gc : (ct1 + ct3 == ct2 + ct4) = true := by have := HC.out; simp; omega
      clear b89 b79 hW9 hgv
      go_wp2_with (first
        | (refine wpList_load_sub_g rfl 52 (.tmp 17) rfl gu 0 64 rfl 52 _ _ KU9.out Try.underlying52 rfl (by kernel_rfl) (by rw [HSU.out]; omega) _ HEXU.out ?_)
        | (refine wpList_load_sub_g rfl 52 (.tmp 20) rfl gv 0 64 rfl 52 _ _ KV.out Try.underlying52 rfl (by kernel_rfl) (by rw [HSV.out]; omega) _ HEXV.out ?_)
        | (go_at_call 36; ((with_reducible refine ME9.out.mono ?_); rintro e w10 ⟨rfl, hb⟩; have HB10 := Lib.hid hb; clear hb)))
      go_ret
      exact ⟨rfl, ext_trans H9W.out HB10.out⟩
end Go.Proofs.Ytlbhnkbchiklnaa
