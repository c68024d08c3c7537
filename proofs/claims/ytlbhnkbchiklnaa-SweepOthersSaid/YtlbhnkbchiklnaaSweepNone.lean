/- The walk of SweepNone. -/
import Derived.Test.YtlbhnkbchiklnaaSweepC
import Derived.Test.YtlbhnkbchiklnaaMachEq
import Derived.Test.YtlbhnkbchiklnaaLiftMach
namespace Go.Proofs.Ytlbhnkbchiklnaa
open Go.RowKit
set_option linter.unusedVariables false
set_option linter.unusedSimpArgs false
theorem wpList_load_sub_g {P : Program} {ops : Array Oper} {rest : List Oper} {o : Oper} {a : Act} {w : World} {Q : Exit → Act → World → Prop} (hw : Region.wanted o (yielded ops a.tmps) = true) (ty : TypeId) (x : Operand) (ho : o.op = .load ty x)
    (g off k : Nat) (hx : a.eval x = .pointer (some ⟨g, off, none⟩)) (t : TypeId) (cs : Array Value) (d : TypeDesc) (hg : w.heap[g]? = some (.cells cs t (0, 0)))
    (hu : P.underlying ty = some d) (hd : (match d with | .struct _ | .array _ _ => true | _ => false) = true) (hi : (P.info? ty).map (·.size) = some k) (hk : off + k ≤ cs.size) (u : Array Value) (he : cs.extract off (off + k) = u)
    (h : wpList P ops Q rest (a.put o.dst (.agg u)) w) : wpList P ops Q (o :: rest) a w :=
  wpList_step fun K hK => by rw [if_pos hw]; exact wp_load_sub ty x ho g off k hx t cs d hg hu hd hi hk (hK _ _ (he ▸ h))
/-- Sweep's two answers. -/
theorem sweep_cases (R : List ValV) (c : KeyV) (mem : List ValV) (stk : List FrameV) (out : List Int) (b n : Int) (wb : I64 b) (wn : I64 n) (h8 : R.length = 8) :
    (∃ ec, ec ≠ 0 ∧ ∀ (ma sa oa : Option Addr) (mc sc oc : Nat) W, Sl W ma mem.length mem → Sl W sa stk.length stk → Sl W oa out.length out → Calls Try.prog 30 #[.agg (mcs R c (.slice ma mem.length mc) (.slice sa stk.length sc) (.slice oa out.length oc)), .int .i64 b, .int .i64 n] W (SwPost W zeroR zeroK [] [] [] 0 ec))
    ∨ (MOk R c mem stk out ∧ 0 ≤ b ∧ b ≤ 400 ∧ 0 ≤ n ∧ n ≤ 400 - b) := by
  by_cases hc : stepCheck R c mem stk out = 0
  · by_cases hb : 0 ≤ b ∧ b ≤ 400 ∧ 0 ≤ n ∧ n ≤ 400 - b
    · exact .inr ⟨stepCheck_zero.1 hc, hb⟩
    · exact .inl ⟨1, by decide, fun ma sa oa mc sc oc W hm hs ho => sweep_bad R c mem stk out ma sa oa mc sc oc b n W h8 hm hs ho hc hb wb wn⟩
  · exact .inl ⟨_, hc, fun ma sa oa mc sc oc W hm hs ho => sweep_err R c mem stk out ma sa oa mc sc oc b n W h8 hm hs ho hc⟩
set_option maxHeartbeats 8000000 in
set_option maxRecDepth 100000 in
theorem sweepNone_walk {w : World} (m : MachA) (b n : Int) (hM : m.ok w) (hb0 : (Lit.int .i64 b).wf = true) (hn0 : (Lit.int .i64 n).wf = true) :
    Calls Try.prog 9 #[m.val, .int .i64 b, .int .i64 n] w fun e w' => e = .returned (.bool true) ∧ Below w.heap.size w w' := by
  obtain ⟨R, c, mem, stk, out, ma, sa, oa, mc, sc, oc⟩ := m
  obtain ⟨h8, hm, hs, ho, _, _, _, _, _⟩ := hM
  simp only [MachA.val] at h8 hm hs ho ⊢
  have hsz := mcs_size (c := c) (ms := .slice ma mem.length mc) (ss := .slice sa stk.length sc) (os := .slice oa out.length oc) h8
  rcases sweep_cases R c mem stk out b n (wf_bd hb0) (wf_bd hn0) h8 with ⟨ec, hne, hsw⟩ | ⟨hok, b0, b1, n0, n1⟩
  · replace hsw := hsw ma sa oa mc sc oc
    unfold SwPost at hsw
    obtain ⟨cs, hcs⟩ : ∃ cs, cs = mcs R c (.slice ma mem.length mc) (.slice sa stk.length sc) (.slice oa out.length oc) := ⟨_, rfl⟩
    rw [← hcs] at hsz hsw ⊢
    have hex : cs.extract 0 (0 + 64) = cs := by rw [Array.extract_eq_self_of_le (by rw [hsz]; omega)]
    obtain ⟨w1, hw1⟩ : ∃ w1, w1 = w.alloc (.cells cs 52) := ⟨_, rfl⟩
    have hB : Bk w1 w.heap.size 52 cs := by rw [hw1]; exact bk_new _ _ _
    have h1w : Below w.heap.size w w1 := by rw [hw1]; exact ext_alloc (Below.refl _ _) _
    have HW1 := Lib.hid hw1
    have HSZ := Lib.hid hsz
    have HEX := Lib.hid hex
    have HB := Lib.hid hB
    have H1W := Lib.hid h1w
    have SP := Lib.hid (hsw w1 (hm.below h1w) (hs.below h1w) (ho.below h1w))
    have g1 : (ec == 0) = false := by simpa using hne
    have g2 : (ec != 0) = true := by simpa using hne
    clear hsz hex hB h1w hw1 hm hs ho h8 hsw hcs hne
    go_enter Try.func9, Try.ntmps9
    go_upto_region 1 with (fail)
    rw [← HW1.out]
    go_upto_region 2 with (first
      | (refine wpList_load_sub rfl 52 (.tmp 3) rfl w.heap.size 0 64 rfl 52 _ _ HB.out Try.underlying52 rfl (by kernel_rfl) (by rw [HSZ.out]; omega) _ HEX.out ?_)
      | (go_at_call 30; ((with_reducible refine SP.out.mono ?_); rintro e w2 ⟨vm, vs, vo, rfl, om, os, oo, hb⟩; obtain ⟨ma2, mc2, rfl, sm2, _⟩ := om.sl; obtain ⟨sa2, sc2, rfl, ss2, _⟩ := os.sl; obtain ⟨oa2, oc2, rfl, so2, _⟩ := oo.sl; have HO2 := Lib.hid (fun (R : List ValV) (c : KeyV) => mcs_one (R := R) (c := c) (ownsOne om) (ownsOne os) (ownsOne oo)); have SM2 := Lib.hid sm2; have SS2 := Lib.hid ss2; have SO2 := Lib.hid so2; have HB2 := Lib.hid hb; clear om os oo hb sm2 ss2 so2))
      | (refine wpList_store_fresh rfl 52 (.tmp 7) (.tmp 20) rfl rfl (mcs zeroR zeroK (.slice ma2 0 mc2) (.slice sa2 0 sc2) (.slice oa2 0 oc2)) 52 _ rfl rfl (by rw [mcs_size rfl]; kernel_rfl) (by rw [mcs_size rfl]; kernel_rfl) (HO2.out _ _) ?_))
    obtain ⟨gx, hgx⟩ : ∃ gx, gx = w2.heap.size := ⟨_, rfl⟩
    obtain ⟨W3, hW3⟩ : ∃ W3, W3 = w2.alloc (.cells (mcs zeroR zeroK (.slice ma2 0 mc2) (.slice sa2 0 sc2) (.slice oa2 0 oc2)) 52) := ⟨_, rfl⟩
    have kx : Bk W3 gx 52 (mcs zeroR zeroK (.slice ma2 0 mc2) (.slice sa2 0 sc2) (.slice oa2 0 oc2)) := by rw [hW3, hgx]; exact bk_new _ _ _
    have h3w : Below w.heap.size w W3 := by rw [hW3]; exact ext_alloc (ext_trans H1W.out HB2.out) _
    have me := fun y : Later W3 => meq_any zeroR zeroR zeroK zeroK [] [] [] [] [] [] ma2 sa2 oa2 none none none mc2 sc2 oc2 0 0 0 y.val rfl rfl (Sl.nil _ _) (Sl.nil _ _) (Sl.nil _ _) (Sl.nil _ _) (Sl.nil _ _) (Sl.nil _ _)
    have me2 : ∀ y : Later W3, Calls Try.prog 36 #[.agg (mcs zeroR zeroK (.slice ma2 0 mc2) (.slice sa2 0 sc2) (.slice oa2 0 oc2)), .agg #[.bool false, .int .i64 0, .int .i64 0, .int .i64 0, .int .i64 0, .int .i64 0, .int .i64 0, .bool false, .int .i64 0, .int .i64 0, .int .i64 0, .int .i64 0, .int .i64 0, .int .i64 0, .bool false, .int .i64 0, .int .i64 0, .int .i64 0, .int .i64 0, .int .i64 0, .int .i64 0, .bool false, .int .i64 0, .int .i64 0, .int .i64 0, .int .i64 0, .int .i64 0, .int .i64 0, .bool false, .int .i64 0, .int .i64 0, .int .i64 0, .int .i64 0, .int .i64 0, .int .i64 0, .bool false, .int .i64 0, .int .i64 0, .int .i64 0, .int .i64 0, .int .i64 0, .int .i64 0, .bool false, .int .i64 0, .int .i64 0, .int .i64 0, .int .i64 0, .int .i64 0, .int .i64 0, .bool false, .int .i64 0, .int .i64 0, .int .i64 0, .int .i64 0, .int .i64 0, .int .i64 0, .int .i64 0, .int .i64 0, .int .i64 0, .int .i64 0, .int .i64 0, .slice none 0 0, .slice none 0 0, .slice none 0 0]] y.val fun e w' => e = .returned (.bool true) ∧ Below y.val.heap.size y.val w' := me
    have ME := Lib.hid me2
    have KX := Lib.hid kx
    have H3W := Lib.hid h3w
    have HSX := Lib.hid (mcs_size (R := zeroR) (c := zeroK) (ms := .slice ma2 0 mc2) (ss := .slice sa2 0 sc2) (os := .slice oa2 0 oc2) rfl)
    have HEXX := Lib.hid (show (mcs zeroR zeroK (.slice ma2 0 mc2) (.slice sa2 0 sc2) (.slice oa2 0 oc2)).extract 0 (0 + 64) = (mcs zeroR zeroK (.slice ma2 0 mc2) (.slice sa2 0 sc2) (.slice oa2 0 oc2)) by rw [Array.extract_eq_self_of_le (by rw [HSX.out]; omega)])
    rw [← hW3, ← hgx]
    clear me me2 kx h3w hW3 hgx
    go_wp2_with (first
      | (go_at_call 31; ((with_reducible refine (swept_any _).mono ?_); rintro e w' ⟨rfl, hb⟩; obtain ⟨y4, rfl⟩ := later_call (Below.refl _ _) hb; clear hb))
      | (refine wpList_load_sub_g rfl 52 (.tmp 7) rfl gx 0 64 rfl 52 _ _ (y4.bk KX.out) Try.underlying52 rfl (by kernel_rfl) (by rw [HSX.out]; omega) _ HEXX.out ?_)
      | (go_at_call 36; ((with_reducible refine (ME.out _).mono ?_); rintro e w' ⟨rfl, hb⟩; obtain ⟨y5, rfl⟩ := later_call y4.ok hb; clear hb)))
    go_ret
    exact ⟨rfl, ext_trans H3W.out y5.ok⟩
  · have hsw := fun W (h : Below w.heap.size w W) => sweep_ok R c mem stk out ma sa oa mc sc oc b n W h8 (hm.below h) (hs.below h) (ho.below h) hok b0 b1 n0 n1
    have hok2 := swept_ok (b := b) (n := n) hok
    have hct2 := swCount_swept b n R c mem stk
    have hRR : (R.map (swV b n)).map (swV b n) = (R.map (swV b n)) := by rw [List.map_map]; exact List.map_congr_left (fun v _ => swV_idem b n v)
    have hMM : (mem.map (swV b n)).map (swV b n) = (mem.map (swV b n)) := by rw [List.map_map]; exact List.map_congr_left (fun v _ => swV_idem b n v)
    have hFF : (stk.map (swF b n)).map (swF b n) = (stk.map (swF b n)) := by rw [List.map_map]; exact List.map_congr_left (fun v _ => swF_idem b n v)
    have hKK := swK_idem b n c
    have h8' : (R.map (swV b n)).length = 8 := by simpa using h8
    unfold SwPost at hsw
    generalize (R.map (swV b n)) = Rs at *
    generalize (mem.map (swV b n)) = ms_ at *
    generalize (stk.map (swF b n)) = st_ at *
    generalize swK b n c = cS at *
    obtain ⟨cs, hcs⟩ : ∃ cs, cs = mcs R c (.slice ma mem.length mc) (.slice sa stk.length sc) (.slice oa out.length oc) := ⟨_, rfl⟩
    rw [← hcs] at hsz hsw ⊢
    have hex : cs.extract 0 (0 + 64) = cs := by rw [Array.extract_eq_self_of_le (by rw [hsz]; omega)]
    obtain ⟨w1, hw1⟩ : ∃ w1, w1 = w.alloc (.cells cs 52) := ⟨_, rfl⟩
    have hB : Bk w1 w.heap.size 52 cs := by rw [hw1]; exact bk_new _ _ _
    have h1w : Below w.heap.size w w1 := by rw [hw1]; exact ext_alloc (Below.refl _ _) _
    have HW1 := Lib.hid hw1
    have HSZ := Lib.hid hsz
    have HEX := Lib.hid hex
    have HB := Lib.hid hB
    have H1W := Lib.hid h1w
    have SP := Lib.hid (hsw w1 h1w)
    have HOK2 := Lib.hid hok2
    have HCT2 := Lib.hid hct2
    have HRR := Lib.hid hRR
    have HMM := Lib.hid hMM
    have HFF := Lib.hid hFF
    have HKK := Lib.hid hKK
    have H8' := Lib.hid h8'
    generalize swCount b n R c mem stk = ct at *
    clear hsz hex hB h1w hw1 hm hs ho h8 hsw hcs hok hok2 hct2 hRR hMM hFF hKK h8'
    go_enter Try.func9, Try.ntmps9
    go_upto_region 1 with (fail)
    rw [← HW1.out]
    go_upto_region 2 with (first
      | (refine wpList_load_sub rfl 52 (.tmp 3) rfl w.heap.size 0 64 rfl 52 _ _ HB.out Try.underlying52 rfl (by kernel_rfl) (by rw [HSZ.out]; omega) _ HEX.out ?_)
      | (go_at_call 30; ((with_reducible refine SP.out.mono ?_); rintro e w2 ⟨vm, vs, vo, rfl, om, os, oo, hb⟩; obtain ⟨ma2, mc2, rfl, sm2, _⟩ := om.sl; obtain ⟨sa2, sc2, rfl, ss2, _⟩ := os.sl; obtain ⟨oa2, oc2, rfl, so2, _⟩ := oo.sl; have HO2 := Lib.hid (fun (R : List ValV) (c : KeyV) => mcs_one (R := R) (c := c) (ownsOne om) (ownsOne os) (ownsOne oo)); have SM2 := Lib.hid sm2; have SS2 := Lib.hid ss2; have SO2 := Lib.hid so2; have HB2 := Lib.hid hb; clear om os oo hb sm2 ss2 so2))
      | (refine wpList_store_fresh rfl 52 (.tmp 7) (.tmp 20) rfl rfl (mcs Rs cS (.slice ma2 ms_.length mc2) (.slice sa2 st_.length sc2) (.slice oa2 out.length oc2)) 52 _ rfl rfl (by rw [mcs_size H8'.out]; kernel_rfl) (by rw [mcs_size H8'.out]; kernel_rfl) (HO2.out _ _) ?_))
    obtain ⟨gx, hgx⟩ : ∃ gx, gx = w2.heap.size := ⟨_, rfl⟩
    obtain ⟨W3, hW3⟩ : ∃ W3, W3 = w2.alloc (.cells (mcs Rs cS (.slice ma2 ms_.length mc2) (.slice sa2 st_.length sc2) (.slice oa2 out.length oc2)) 52) := ⟨_, rfl⟩
    have kx : Bk W3 gx 52 (mcs Rs cS (.slice ma2 ms_.length mc2) (.slice sa2 st_.length sc2) (.slice oa2 out.length oc2)) := by rw [hW3, hgx]; exact bk_new _ _ _
    have h3w : Below w.heap.size w W3 := by rw [hW3]; exact ext_alloc (ext_trans H1W.out HB2.out) _
    have h23 : Below w2.heap.size w2 W3 := by rw [hW3]; exact ext_alloc (Below.refl _ _) _
    have sm3 := SM2.out.below h23
    have ss3 := SS2.out.below h23
    have so3 := SO2.out.below h23
    have hs2 := fun y : Later W3 => has_ok Rs cS ms_ st_ out ma2 sa2 oa2 mc2 sc2 oc2 b n y.val H8'.out (sm3.below y.ok) (ss3.below y.ok) (so3.below y.ok) HOK2.out b0 b1 n0 n1
    have sp2 := fun y : Later W3 => sweep_ok Rs cS ms_ st_ out ma2 sa2 oa2 mc2 sc2 oc2 b n y.val H8'.out (sm3.below y.ok) (ss3.below y.ok) (so3.below y.ok) HOK2.out b0 b1 n0 n1
    rw [HCT2.out] at hs2
    rw [HCT2.out, HRR.out, HMM.out, HFF.out, HKK.out] at sp2
    unfold SwPost at sp2
    have me := fun (y : Later W3) (W : World) (hy : Below y.val.heap.size y.val W) (ma6 sa6 oa6 : Option Addr) (mc6 sc6 oc6 : Nat) (s6 : Sl W ma6 ms_.length ms_) (t6 : Sl W sa6 st_.length st_) (o6 : Sl W oa6 out.length out) =>
      meq_any Rs Rs cS cS ms_ ms_ st_ st_ out out ma2 sa2 oa2 ma6 sa6 oa6 mc2 sc2 oc2 mc6 sc6 oc6 W H8'.out H8'.out ((sm3.below y.ok).below hy) ((ss3.below y.ok).below hy) ((so3.below y.ok).below hy) s6 t6 o6
    simp only [and_self, decide_true] at me
    have hs3 : decide ((0 : Int) < 0) = false := rfl
    simp only [hs3] at hs2
    have ME := Lib.hid me
    have HS2 := Lib.hid hs2
    have SP2 := Lib.hid sp2
    have KX := Lib.hid kx
    have H3W := Lib.hid h3w
    have HSX := Lib.hid (mcs_size (R := Rs) (c := cS) (ms := .slice ma2 ms_.length mc2) (ss := .slice sa2 st_.length sc2) (os := .slice oa2 out.length oc2) H8'.out)
    have HEXX := Lib.hid (show (mcs Rs cS (.slice ma2 ms_.length mc2) (.slice sa2 st_.length sc2) (.slice oa2 out.length oc2)).extract 0 (0 + 64) = (mcs Rs cS (.slice ma2 ms_.length mc2) (.slice sa2 st_.length sc2) (.slice oa2 out.length oc2)) by rw [Array.extract_eq_self_of_le (by rw [HSX.out]; omega)])
    rw [← hW3, ← hgx]
    clear me hs2 hs3 sp2 kx h3w h23 hW3 hgx sm3 ss3 so3
    go_upto_region 8 with (first
      | (go_at_call 31; ((with_reducible refine (swept_any _).mono ?_); rintro e w' ⟨rfl, hb⟩; obtain ⟨y4, rfl⟩ := later_call (Below.refl _ _) hb; clear hb))
      | (refine wpList_load_sub rfl 52 (.tmp 7) rfl gx 0 64 rfl 52 _ _ (y4.bk KX.out) Try.underlying52 rfl (by kernel_rfl) (by rw [HSX.out]; omega) _ HEXX.out ?_)
      | (refine wpList_load_sub rfl 52 (.tmp 7) rfl gx 0 64 rfl 52 _ _ (y5.bk KX.out) Try.underlying52 rfl (by kernel_rfl) (by rw [HSX.out]; omega) _ HEXX.out ?_)
      | (go_at_call 37; ((with_reducible refine (HS2.out _).mono ?_); rintro e w' ⟨rfl, hb⟩; obtain ⟨y5, rfl⟩ := later_call y4.ok hb; clear hb))
      | (go_at_call 30; ((with_reducible refine (SP2.out y5).mono ?_); rintro e w6 ⟨vm, vs, vo, rfl, om, os, oo, hb⟩; obtain ⟨ma6, mc6, rfl, sm6, _⟩ := om.sl; obtain ⟨sa6, sc6, rfl, ss6, _⟩ := os.sl; obtain ⟨oa6, oc6, rfl, so6, _⟩ := oo.sl; have HO6 := Lib.hid (fun (R : List ValV) (c : KeyV) => mcs_one (R := R) (c := c) (ownsOne om) (ownsOne os) (ownsOne oo)); have SM6 := Lib.hid sm6; have SS6 := Lib.hid ss6; have SO6 := Lib.hid so6; have HB6 := Lib.hid hb; clear om os oo hb sm6 ss6 so6))
      | (refine wpList_store_fresh rfl 52 (.tmp 12) (.tmp 46) rfl rfl (mcs Rs cS (.slice ma6 ms_.length mc6) (.slice sa6 st_.length sc6) (.slice oa6 out.length oc6)) 52 _ rfl rfl (by rw [mcs_size H8'.out]; kernel_rfl) (by rw [mcs_size H8'.out]; kernel_rfl) (HO6.out _ _) ?_))
    obtain ⟨gy, hgy⟩ : ∃ gy, gy = w6.heap.size := ⟨_, rfl⟩
    obtain ⟨W7, hW7⟩ : ∃ W7, W7 = w6.alloc (.cells (mcs Rs cS (.slice ma6 ms_.length mc6) (.slice sa6 st_.length sc6) (.slice oa6 out.length oc6)) 52) := ⟨_, rfl⟩
    have b67 : Below w6.heap.size w6 W7 := by rw [hW7]; exact ext_alloc (Below.refl _ _) _
    have ky : Bk W7 gy 52 (mcs Rs cS (.slice ma6 ms_.length mc6) (.slice sa6 st_.length sc6) (.slice oa6 out.length oc6)) := by rw [hW7, hgy]; exact bk_new _ _ _
    have k7 : Bk W7 gx 52 (mcs Rs cS (.slice ma2 ms_.length mc2) (.slice sa2 st_.length sc2) (.slice oa2 out.length oc2)) := bk_keep b67 (bk_keep HB6.out (y5.bk KX.out))
    have h7w : Below w.heap.size w W7 := ext_trans (ext_trans (ext_trans H3W.out y5.ok) HB6.out) b67
    have me7 := ME.out y5 W7 (ext_trans HB6.out b67) ma6 sa6 oa6 mc6 sc6 oc6 (SM6.out.below b67) (SS6.out.below b67) (SO6.out.below b67)
    have ME7 := Lib.hid me7
    have KY := Lib.hid ky
    have K7 := Lib.hid k7
    have H7W := Lib.hid h7w
    have HSY := Lib.hid (mcs_size (R := Rs) (c := cS) (ms := .slice ma6 ms_.length mc6) (ss := .slice sa6 st_.length sc6) (os := .slice oa6 out.length oc6) H8'.out)
    have HEXY := Lib.hid (show (mcs Rs cS (.slice ma6 ms_.length mc6) (.slice sa6 st_.length sc6) (.slice oa6 out.length oc6)).extract 0 (0 + 64) = (mcs Rs cS (.slice ma6 ms_.length mc6) (.slice sa6 st_.length sc6) (.slice oa6 out.length oc6)) by rw [Array.extract_eq_self_of_le (by rw [HSY.out]; omega)])
    rw [← hW7, ← hgy]
    clear me7 ky k7 h7w hW7 hgy b67
    go_wp2_with (first
      | (refine wpList_load_sub_g rfl 52 (.tmp 7) rfl gx 0 64 rfl 52 _ _ K7.out Try.underlying52 rfl (by kernel_rfl) (by rw [HSX.out]; omega) _ HEXX.out ?_)
      | (refine wpList_load_sub_g rfl 52 (.tmp 12) rfl gy 0 64 rfl 52 _ _ KY.out Try.underlying52 rfl (by kernel_rfl) (by rw [HSY.out]; omega) _ HEXY.out ?_)
      | (go_at_call 36; ((with_reducible refine ME7.out.mono ?_); rintro e w8 ⟨rfl, hb⟩; have HB8 := Lib.hid hb; clear hb)))
    go_ret
    exact ⟨rfl, ext_trans H7W.out HB8.out⟩
end Go.Proofs.Ytlbhnkbchiklnaa
