/- The walk of SweepOthers. -/
import Derived.Test.YtlbhnkbchiklnaaSweepOA
import Derived.Test.YtlbhnkbchiklnaaSweepBoth
import Derived.Laws.EntriesVeiled
import Derived.BigRegion
import Derived.Deep.RegionHeld3
namespace Go.Proofs.Ytlbhnkbchiklnaa
open Go.RowKit
set_option linter.unusedVariables false
set_option linter.unusedSimpArgs false
theorem cnt_post {W0 : World} {x : Later W0} {g : Nat} {T : TypeId} {cnt : Int} {h : Bool} {w' : World} (hg : W0.heap.size ≤ g) (hc : Bk x.val g T #[.int .i64 cnt]) (hp : CntPost x.val g cnt h w') :
    ∃ y : Later W0, w' = y.val ∧ Bk y.val g T #[.int .i64 (cnt + if h then 1 else 0)] := by
  obtain ⟨w1, hb, rfl⟩ := hp
  cases h
  · exact ⟨⟨w1, ext_trans x.ok hb⟩, rfl, by simpa using bk_keep hb hc⟩
  · exact ⟨⟨_, ext_set (ext_trans x.ok hb) (p := ⟨g, 0, none⟩) hg _⟩, rfl, bk_set' (bk_keep hb hc) rfl⟩
theorem set_bk {w : World} {g : Nat} {T : TypeId} {v u : Value} (h : Bk w g T #[v]) : Bk (w.setCell ⟨g, 0, none⟩ u) g T #[u] := bk_set' h rfl
set_option maxHeartbeats 16000000 in
set_option maxRecDepth 100000 in
theorem sweepOthers_walk {w : World} (m : MachA) (b n : Int) (hM : m.ok w) (hb0 : (Lit.int .i64 b).wf = true) (hn0 : (Lit.int .i64 n).wf = true) :
    Calls Try.prog 7 #[m.val, .int .i64 b, .int .i64 n] w fun e w' => e = .returned (.bool true) ∧ Below w.heap.size w w' := by
  obtain ⟨R, c, mem, stk, out, ma, sa, oa, mc, sc, oc⟩ := m
  obtain ⟨h8, hm, hs, ho, _, _, _, _, _⟩ := hM
  simp only [MachA.val] at h8 hm hs ho ⊢
  have hsz := mcs_size (c := c) (ms := .slice ma mem.length mc) (ss := .slice sa stk.length sc) (os := .slice oa out.length oc) h8
  have HI0 := fun j => mcs_hi (c := c) (ms := .slice ma mem.length mc) (ss := .slice sa stk.length sc) (os := .slice oa out.length oc) h8 j
  rcases sweep_cases R c mem stk out b n (wf_bd hb0) (wf_bd hn0) h8 with ⟨ec, hne, hsw⟩ | ⟨hok, b0, b1, n0, n1⟩
  · replace hsw := hsw ma sa oa mc sc oc
    unfold SwPost at hsw
    obtain ⟨cs, hcs⟩ : ∃ cs, cs = mcs R c (.slice ma mem.length mc) (.slice sa stk.length sc) (.slice oa out.length oc) := ⟨_, rfl⟩
    rw [← hcs] at hsz hsw HI0 ⊢
    have hex : cs.extract 0 (0 + 64) = cs := by rw [Array.extract_eq_self_of_le (by rw [hsz]; omega)]
    obtain ⟨w1, hw1⟩ : ∃ w1, w1 = ((w.alloc (.cells cs 52)).alloc (.cells #[.int .i64 b] 3)).alloc (.cells #[.int .i64 n] 3) := ⟨_, rfl⟩
    have hB : Bk w1 w.heap.size 52 cs := by rw [hw1]; exact bk_old _ (bk_old _ (bk_new _ _ _))
    have hBb : Bk w1 (w.heap.size + 1) 3 #[.int .i64 b] := by rw [hw1]; exact bk_old _ (bk_new' _ _ (by simp))
    have hBn : Bk w1 (w.heap.size + 2) 3 #[.int .i64 n] := by rw [hw1]; exact bk_new' _ _ (by simp)
    have h1w : Below w.heap.size w w1 := by rw [hw1]; exact ext_alloc (ext_alloc (ext_alloc (Below.refl _ _) _) _) _
    have pb := hBb.cell 0
    have pn := hBn.cell 0
    simp only [List.getElem?_toArray, List.getElem?_cons_succ, List.getElem?_cons_zero] at pb pn
    have HW1 := Lib.hid hw1
    have HSZ := Lib.hid hsz
    have HEX := Lib.hid hex
    have HB := Lib.hid hB
    have HBB := Lib.hid hBb
    have HBN := Lib.hid hBn
    have H1W := Lib.hid h1w
    have SP := Lib.hid (hsw w1 (hm.below h1w) (hs.below h1w) (ho.below h1w))
    have g1 : (ec == 0) = false := by simpa using hne
    have g2 : (ec != 0) = true := by simpa using hne
    clear hsz hex hB hBb hBn h1w hw1 hm hs ho h8 hsw hcs hne HI0
    go_enter Try.func7, Try.ntmps7
    go_upto_region 1 with (fail)
    rw [← HW1.out]
    go_wp2_with (first
      | (refine wpList_load_sub rfl 52 (.tmp 3) rfl w.heap.size 0 64 rfl 52 _ _ HB.out Try.underlying52 rfl (by kernel_rfl) (by rw [HSZ.out]; omega) _ HEX.out ?_)
      | (go_at_call 30; ((with_reducible refine SP.out.mono ?_); rintro e w2 ⟨vm, vs, vo, rfl, om, os, oo, hb⟩; obtain ⟨ma2, mc2, rfl, sm2, _⟩ := om.sl; obtain ⟨sa2, sc2, rfl, ss2, _⟩ := os.sl; obtain ⟨oa2, oc2, rfl, so2, _⟩ := oo.sl; have HO2 := Lib.hid (fun (R : List ValV) (c : KeyV) => mcs_one (R := R) (c := c) (ownsOne om) (ownsOne os) (ownsOne oo)); have SM2 := Lib.hid sm2; have SS2 := Lib.hid ss2; have SO2 := Lib.hid so2; have HB2 := Lib.hid hb; clear om os oo hb sm2 ss2 so2))
      | (refine wpList_store_fresh rfl 52 (.tmp 7) (.tmp 23) rfl rfl (mcs zeroR zeroK (.slice ma2 0 mc2) (.slice sa2 0 sc2) (.slice oa2 0 oc2)) 52 _ rfl rfl (by rw [mcs_size rfl]; kernel_rfl) (by rw [mcs_size rfl]; kernel_rfl) (HO2.out _ _) ?_)
      | (go_at_call 31; ((with_reducible refine (swept_any _).mono ?_); rintro e w' ⟨rfl, hb⟩; obtain ⟨y4, rfl⟩ := later_call (Below.refl _ _) hb; clear hb)))
    go_ret
    exact ⟨rfl, ext_trans (ext_alloc (ext_trans H1W.out HB2.out) _) y4.ok⟩
  · have hsw := fun W (h : Below w.heap.size w W) => sweep_ok R c mem stk out ma sa oa mc sc oc b n W h8 (hm.below h) (hs.below h) (ho.below h) hok b0 b1 n0 n1
    have hbd := swCount_bd b n R c mem stk
    have l9 : (R.map (swV b n)).length = 8 := by simpa using h8
    unfold SwPost at hsw
    obtain ⟨R9, hR9⟩ : ∃ R9, R9 = R.map (swV b n) := ⟨_, rfl⟩
    obtain ⟨c9, hc9⟩ : ∃ c9, c9 = swK b n c := ⟨_, rfl⟩
    obtain ⟨m9, hm9⟩ : ∃ m9, m9 = mem.map (swV b n) := ⟨_, rfl⟩
    obtain ⟨s9, hs9⟩ : ∃ s9, s9 = stk.map (swF b n) := ⟨_, rfl⟩
    obtain ⟨ct, hct⟩ : ∃ ct, ct = swCount b n R c mem stk := ⟨_, rfl⟩
    rw [← hR9] at l9
    rw [← hR9, ← hc9, ← hm9, ← hs9, ← hct] at hsw
    have hlm : m9.length = mem.length := by rw [hm9]; simp
    have hls : s9.length = stk.length := by rw [hs9]; simp
    obtain ⟨cs, hcs⟩ : ∃ cs, cs = mcs R c (.slice ma mem.length mc) (.slice sa stk.length sc) (.slice oa out.length oc) := ⟨_, rfl⟩
    rw [← hcs] at hsz hsw HI0 ⊢
    have hex : cs.extract 0 (0 + 64) = cs := by rw [Array.extract_eq_self_of_le (by rw [hsz]; omega)]
    obtain ⟨w1, hw1⟩ : ∃ w1, w1 = ((w.alloc (.cells cs 52)).alloc (.cells #[.int .i64 b] 3)).alloc (.cells #[.int .i64 n] 3) := ⟨_, rfl⟩
    have hB : Bk w1 w.heap.size 52 cs := by rw [hw1]; exact bk_old _ (bk_old _ (bk_new _ _ _))
    have hBb : Bk w1 (w.heap.size + 1) 3 #[.int .i64 b] := by rw [hw1]; exact bk_old _ (bk_new' _ _ (by simp))
    have hBn : Bk w1 (w.heap.size + 2) 3 #[.int .i64 n] := by rw [hw1]; exact bk_new' _ _ (by simp)
    have h1w : Below w.heap.size w w1 := by rw [hw1]; exact ext_alloc (ext_alloc (ext_alloc (Below.refl _ _) _) _) _
    have pb := hBb.cell 0
    have pn := hBn.cell 0
    simp only [List.getElem?_toArray, List.getElem?_cons_succ, List.getElem?_cons_zero] at pb pn
    have HW1 := Lib.hid hw1
    have HSZ := Lib.hid hsz
    have HEX := Lib.hid hex
    have HB := Lib.hid hB
    have HBB := Lib.hid hBb
    have HBN := Lib.hid hBn
    have H1W := Lib.hid h1w
    have SP := Lib.hid (hsw w1 h1w)
    have L9 := Lib.hid l9
    have HR9 := Lib.hid hR9
    have HC9 := Lib.hid hc9
    have HM9 := Lib.hid hm9
    have HS9 := Lib.hid hs9
    have HCT := Lib.hid hct
    have HLM := Lib.hid hlm
    have HLS := Lib.hid hls
    have HCS := Lib.hid hcs
    have HI := Lib.hid HI0
    have HM := Lib.hid hm
    have HS := Lib.hid hs
    have HO := Lib.hid ho
    have H8 := Lib.hid h8
    have HOK := Lib.hid hok
    have z1 := hok.len
    have z2 := hok.deep
    clear hsz hex hB hBb hBn h1w hw1 hm hs ho h8 hsw hcs HI0 l9 hR9 hc9 hm9 hs9 hct hlm hls hok
    go_enter Try.func7, Try.ntmps7
    go_upto_region 1 with (fail)
    rw [← HW1.out]
    go_upto_region 7 with (first
      | (refine wpList_load_sub rfl 52 (.tmp 3) rfl w.heap.size 0 64 rfl 52 _ _ HB.out Try.underlying52 rfl (by kernel_rfl) (by rw [HSZ.out]; omega) _ HEX.out ?_)
      | (go_at_call 30; ((with_reducible refine SP.out.mono ?_); rintro e w2 ⟨vm, vs, vo, rfl, om, os, oo, hb⟩; obtain ⟨ma2, mc2, rfl, sm2, _⟩ := om.sl; obtain ⟨sa2, sc2, rfl, ss2, _⟩ := os.sl; obtain ⟨oa2, oc2, rfl, so2, _⟩ := oo.sl; have HO2 := Lib.hid (fun (R : List ValV) (c : KeyV) => mcs_one (R := R) (c := c) (ownsOne om) (ownsOne os) (ownsOne oo)); have SM2 := Lib.hid sm2; have SS2 := Lib.hid ss2; have SO2 := Lib.hid so2; have HB2 := Lib.hid hb; clear om os oo hb sm2 ss2 so2))
      | (refine wpList_store_fresh rfl 52 (.tmp 7) (.tmp 23) rfl rfl (mcs R9 c9 (.slice ma2 m9.length mc2) (.slice sa2 s9.length sc2) (.slice oa2 out.length oc2)) 52 _ rfl rfl (by rw [mcs_size L9.out]; kernel_rfl) (by rw [mcs_size L9.out]; kernel_rfl) (HO2.out _ _) ?_)
      | (go_at_call 31; ((with_reducible refine (swept_any _).mono ?_); rintro e w' ⟨rfl, hb⟩; obtain ⟨y4, rfl⟩ := later_call (Below.refl _ _) hb; clear hb)))
    obtain ⟨g10, hg10⟩ : ∃ g, g = y4.val.heap.size := ⟨_, rfl⟩
    obtain ⟨gx, hgx⟩ : ∃ g, g = w2.heap.size := ⟨_, rfl⟩
    obtain ⟨W0, hW0⟩ : ∃ W0, W0 = y4.val.alloc (.cells #[.func (.func 32) #[] #[.pointer (some ⟨w.heap.size + 1 + 1, 0, none⟩), .pointer (some ⟨w.heap.size + 1, 0, none⟩)]] 55) := ⟨_, rfl⟩
    have b2 : Below w2.heap.size w2 W0 := by rw [hW0]; exact ext_alloc (ext_trans (ext_alloc (Below.refl _ _) _) y4.ok) _
    have b1_ : Below w1.heap.size w1 W0 := ext_trans HB2.out b2
    have bw : Below w.heap.size w W0 := ext_trans H1W.out b1_
    have kM := bk_keep b1_ HB.out
    have kb := bk_keep b1_ HBB.out
    have kn : Bk W0 (w.heap.size + 1 + 1) 3 #[.int .i64 n] := bk_keep b1_ HBN.out
    have kX : Bk W0 gx 52 (mcs R9 c9 (.slice ma2 m9.length mc2) (.slice sa2 s9.length sc2) (.slice oa2 out.length oc2)) := by rw [hW0, hgx]; exact bk_old _ (y4.bk (bk_new _ _ _))
    have k10 : Bk W0 g10 55 #[.func (.func 32) #[] #[.pointer (some ⟨w.heap.size + 1 + 1, 0, none⟩), .pointer (some ⟨w.heap.size + 1, 0, none⟩)]] := by rw [hW0, hg10]; exact bk_new _ _ _
    obtain ⟨g11, hg11⟩ : ∃ g, g = W0.heap.size := ⟨_, rfl⟩
    obtain ⟨x0, hx0⟩ : ∃ x0 : Later W0, W0.alloc (.cells #[.int .i64 0] 3) = x0.val := ⟨⟨_, ext_alloc (Below.refl _ _) _⟩, rfl⟩
    have hc0 : Bk x0.val g11 3 #[.int .i64 0] := by rw [← hx0, hg11]; exact bk_new _ _ _
    have lo : ∀ (i : Nat), i < 56 → cs[i]? = (cls R)[i]? := fun i hi => by rw [HCS.out]; exact mcs_lo H8.out hi
    have lo9 : ∀ (i : Nat), i < 56 → (mcs R9 c9 (.slice ma2 m9.length mc2) (.slice sa2 s9.length sc2) (.slice oa2 out.length oc2))[i]? = (cls R9)[i]? := fun i hi => mcs_lo L9.out hi
    have hiM := HI.out
    have hiX := fun j => mcs_hi (c := c9) (ms := .slice ma2 m9.length mc2) (ss := .slice sa2 s9.length sc2) (os := .slice oa2 out.length oc2) L9.out j
    have cM56 : ∀ x : Later W0, x.val.cell? ⟨w.heap.size, 56, none⟩ = some (.int .i64 c.perm) := fun x => ((x.bk kM).cell 56).trans (hiM 0)
    have cM57 : ∀ x : Later W0, x.val.cell? ⟨w.heap.size, 57, none⟩ = some (.int .i64 c.base) := fun x => ((x.bk kM).cell 57).trans (hiM 1)
    have cM58 : ∀ x : Later W0, x.val.cell? ⟨w.heap.size, 58, none⟩ = some (.int .i64 c.len) := fun x => ((x.bk kM).cell 58).trans (hiM 2)
    have cM59 : ∀ x : Later W0, x.val.cell? ⟨w.heap.size, 59, none⟩ = some (.int .i64 c.at_) := fun x => ((x.bk kM).cell 59).trans (hiM 3)
    have cM60 : ∀ x : Later W0, x.val.cell? ⟨w.heap.size, 60, none⟩ = some (.int .i64 c.seal_) := fun x => ((x.bk kM).cell 60).trans (hiM 4)
    have cM61 : ∀ x : Later W0, x.val.cell? ⟨w.heap.size, 61, none⟩ = some (.slice ma mem.length mc) := fun x => ((x.bk kM).cell 61).trans (hiM 5)
    have cM62 : ∀ x : Later W0, x.val.cell? ⟨w.heap.size, 62, none⟩ = some (.slice sa stk.length sc) := fun x => ((x.bk kM).cell 62).trans (hiM 6)
    have cM63 : ∀ x : Later W0, x.val.cell? ⟨w.heap.size, 63, none⟩ = some (.slice oa out.length oc) := fun x => ((x.bk kM).cell 63).trans (hiM 7)
    have cML : ∀ x : Later W0, w.heap.size < x.val.heap.size := fun x => x.lt kM.lt
    have cX56 : ∀ x : Later W0, x.val.cell? ⟨gx, 56, none⟩ = some (.int .i64 c9.perm) := fun x => ((x.bk kX).cell 56).trans (hiX 0)
    have cX57 : ∀ x : Later W0, x.val.cell? ⟨gx, 57, none⟩ = some (.int .i64 c9.base) := fun x => ((x.bk kX).cell 57).trans (hiX 1)
    have cX58 : ∀ x : Later W0, x.val.cell? ⟨gx, 58, none⟩ = some (.int .i64 c9.len) := fun x => ((x.bk kX).cell 58).trans (hiX 2)
    have cX59 : ∀ x : Later W0, x.val.cell? ⟨gx, 59, none⟩ = some (.int .i64 c9.at_) := fun x => ((x.bk kX).cell 59).trans (hiX 3)
    have cX60 : ∀ x : Later W0, x.val.cell? ⟨gx, 60, none⟩ = some (.int .i64 c9.seal_) := fun x => ((x.bk kX).cell 60).trans (hiX 4)
    have cX61 : ∀ x : Later W0, x.val.cell? ⟨gx, 61, none⟩ = some (.slice ma2 m9.length mc2) := fun x => ((x.bk kX).cell 61).trans (hiX 5)
    have cX62 : ∀ x : Later W0, x.val.cell? ⟨gx, 62, none⟩ = some (.slice sa2 s9.length sc2) := fun x => ((x.bk kX).cell 62).trans (hiX 6)
    have cX63 : ∀ x : Later W0, x.val.cell? ⟨gx, 63, none⟩ = some (.slice oa2 out.length oc2) := fun x => ((x.bk kX).cell 63).trans (hiX 7)
    have cXL : ∀ x : Later W0, gx < x.val.heap.size := fun x => x.lt kX.lt
    have sM := HM.out.below bw
    have sS := HS.out.below bw
    have sO := HO.out.below bw
    have tM := SM2.out.below b2
    have tS := SS2.out.below b2
    have tO := SO2.out.below b2
    have ei := fun x : Later W0 => eq_int oa2 oa _ _ oc2 oc out out x.val (tO.below x.ok) (sO.below x.ok)
    simp only [decide_true] at ei
    have fin : ∀ x : Later W0, Below w.heap.size w x.val := fun x => ext_trans bw x.ok
    have hge : W0.heap.size ≤ g11 := by omega
    have cv := fun (xi yi : Bool) (xn xp xb xl xa xs yn yp yb yl ya ys : Int) (hxo : (⟨xi, xn, ⟨xp, xb, xl, xa, xs⟩⟩ : ValV).Ok) (hY : (⟨yi, yn, ⟨yp, yb, yl, ya, ys⟩⟩ : ValV) = swV b n ⟨xi, xn, ⟨xp, xb, xl, xa, xs⟩⟩) (x : Later W0) (cnt : Int) (hc : Bk x.val g11 3 #[.int .i64 cnt]) (m0 : 0 ≤ cnt) (m1 : cnt ≤ 10000) =>
      (swo_val (w.heap.size + 1) (w.heap.size + 1 + 1) g10 g11 b n cnt xi yi xn xp xb xl xa xs yn yp yb yl ya ys x.val 3 55 3 (x.bk kb) (x.bk kn) (x.bk k10) hc b0 b1 n0 (by omega) m0 m1 (kbd hxo).1 (kbd hxo).2.1 (kbd hxo).2.2.1 (kbd hxo).2.2.2 hY).mono (R' := fun e w' => e = .returned (.bool true) ∧ ∃ y : Later W0, w' = y.val ∧ Bk y.val g11 3 #[.int .i64 (cnt + ctV b n ⟨xi, xn, ⟨xp, xb, xl, xa, xs⟩⟩)]) fun e w' ⟨he, hp⟩ => ⟨he, cnt_post hge hc hp⟩
    have ck := fun (xp xb xl xa xs yp yb yl ya ys : Int) (hxo : (⟨xp, xb, xl, xa, xs⟩ : KeyV).Ok) (hY : (⟨yp, yb, yl, ya, ys⟩ : KeyV) = swK b n ⟨xp, xb, xl, xa, xs⟩) (x : Later W0) (cnt : Int) (hc : Bk x.val g11 3 #[.int .i64 cnt]) (m0 : 0 ≤ cnt) (m1 : cnt ≤ 10000) =>
      (swo_key (w.heap.size + 1) (w.heap.size + 1 + 1) g10 g11 b n cnt xp xb xl xa xs yp yb yl ya ys x.val 3 55 3 (x.bk kb) (x.bk kn) (x.bk k10) hc b0 b1 n0 (by omega) m0 m1 hxo.b0 hxo.b1 hxo.l0 (by have := hxo.b0; have := hxo.l1; simp only at *; omega) hY).mono (R' := fun e w' => e = .returned (.bool true) ∧ ∃ y : Later W0, w' = y.val ∧ Bk y.val g11 3 #[.int .i64 (cnt + ctK b n ⟨xp, xb, xl, xa, xs⟩)]) fun e w' ⟨he, hp⟩ => ⟨he, cnt_post hge hc hp⟩
    have hlm := HLM.out
    have hls := HLS.out
    have nM : ((m9.length : Int) != (mem.length : Int)) = false := by rw [hlm]; simp
    have nS : ((s9.length : Int) != (stk.length : Int)) = false := by rw [hls]; simp
    have HX0 := Lib.hid hx0
    have HC0 := Lib.hid hc0
    have LO := Lib.hid lo
    have LO9 := Lib.hid lo9
    have KM := Lib.hid kM
    have KX := Lib.hid kX
    have TS := Lib.hid (And.intro (And.intro sM sS) (And.intro tM tS))
    have EI := Lib.hid ei
    have FIN := Lib.hid fin
    have CV := Lib.hid cv
    have CK := Lib.hid ck
    rw [← hW0, ← hg10, ← hgx]
    clear hx0 hc0 lo lo9 hiM hiX kM kX kb kn k10 sM sS sO tM tS tO ei fin cv ck hW0 hg10 hgx b2 b1_ bw hge hlm hls pb pn
    obtain ⟨cp_, cb, cl_, ca, cs_⟩ := c
    obtain ⟨dp, db, dl, da, ds_⟩ := c9
    simp only at cM56 cM57 cM58 cM59 cM60 cX56 cX57 cX58 cX59 cX60
    have hcK := HC9.out
    have ck0 := CK.out cp_ cb cl_ ca cs_ dp db dl da ds_ HOK.out.code hcK x0 0 HC0.out (by decide) (by decide)
    have CK0 := Lib.hid ck0
    have hckb := ctK_bd b n ⟨cp_, cb, cl_, ca, cs_⟩
    clear ck0 hcK
    go_upto_region 9 with (fail)
    rw [← hg11, HX0.out]
    clear hg11
    go_wp2_with (first
      | (go_at_call 34; ((with_reducible refine (EI.out x0).mono ?_); rintro e w' ⟨rfl, hb⟩; obtain ⟨y5, rfl⟩ := later_call x0.ok hb; have C5 := Lib.hid (bk_keep hb HC0.out); clear hb))
      | (go_at_call 35; ((with_reducible refine (CK.out cp_ cb cl_ ca cs_ dp db dl da ds_ HOK.out.code HC9.out y5 0 C5.out (by decide) (by decide)).mono ?_); rintro e w' ⟨rfl, y6, rfl, hc⟩; have C6 := Lib.hid hc; clear hc)))
    generalize hk0 : ctK b n ⟨cp_, cb, cl_, ca, cs_⟩ = k0 at *
    have HK0 := Lib.hid hk0
    clear hk0
    clear cM56 cM57 cM58 cM59 cM60 cX56 cX57 cX58 cX59 cX60 nM nS CK0
    have l8 := H8.out
    go_loopw [14, 63] (fun g i wr => ∃ (k : Nat) (x : Later W0), k ≤ 8 ∧ i = .int .i64 k ∧ g = .bool true ∧ wr = x.val ∧ Bk x.val g11 3 #[.int .i64 (k0 + sumV b n (R.take k))]) (fun _ i _ => 8 - (intOf i).toNat)
    case atStart => exact ⟨0, y6, by omega, rfl, rfl, rfl, by simpa [sumV] using C6.out⟩
    case round =>
      obtain ⟨k, x, hk, rfl, rfl, rfl, hc⟩ := hrel
      by_cases hlt : k < 8
      · have q1 : (k : Int) < 8 := by omega
        obtain ⟨v, hv⟩ : ∃ v, R[k]? = some v := ⟨_, List.getElem?_eq_getElem (by omega)⟩
        have hv9 : R9[k]? = some (swV b n v) := by rw [HR9.out, List.getElem?_map, hv]; rfl
        have hvo := HOK.out.regs v (List.mem_of_getElem? hv)
        have hst := sumV_take (b := b) (n := n) hv
        have hbd := sumV_bd b n (R.take k)
        have hbl : (R.take k).length ≤ k := List.length_take_le _ _
        obtain ⟨y, hy⟩ : ∃ y, y = swV b n v := ⟨_, rfl⟩
        rw [← hy] at hv9
        obtain ⟨vi, vn, vp, vb, vl, va, vs⟩ := v
        obtain ⟨yi, yn, yp, yb, yl, ya, ys⟩ := y
        have ra0 : ∀ x : Later W0, x.val.cell? ⟨w.heap.size, k * 7, none⟩ = some (.bool vi) := fun x => ((x.bk KM.out).cell (k * 7 + 0)).trans ((LO.out _ (show k * 7 + 0 < 56 by omega)).trans (cls_atq hv (by decide)))
        have ra1 : ∀ x : Later W0, x.val.cell? ⟨w.heap.size, k * 7 + 1, none⟩ = some (.int .i64 vn) := fun x => ((x.bk KM.out).cell (k * 7 + 1)).trans ((LO.out _ (show k * 7 + 1 < 56 by omega)).trans (cls_atq hv (by decide)))
        have ra2 : ∀ x : Later W0, x.val.cell? ⟨w.heap.size, k * 7 + 2, none⟩ = some (.int .i64 vp) := fun x => ((x.bk KM.out).cell (k * 7 + 2)).trans ((LO.out _ (show k * 7 + 2 < 56 by omega)).trans (cls_atq hv (by decide)))
        have ra3 : ∀ x : Later W0, x.val.cell? ⟨w.heap.size, k * 7 + 3, none⟩ = some (.int .i64 vb) := fun x => ((x.bk KM.out).cell (k * 7 + 3)).trans ((LO.out _ (show k * 7 + 3 < 56 by omega)).trans (cls_atq hv (by decide)))
        have ra4 : ∀ x : Later W0, x.val.cell? ⟨w.heap.size, k * 7 + 4, none⟩ = some (.int .i64 vl) := fun x => ((x.bk KM.out).cell (k * 7 + 4)).trans ((LO.out _ (show k * 7 + 4 < 56 by omega)).trans (cls_atq hv (by decide)))
        have ra5 : ∀ x : Later W0, x.val.cell? ⟨w.heap.size, k * 7 + 5, none⟩ = some (.int .i64 va) := fun x => ((x.bk KM.out).cell (k * 7 + 5)).trans ((LO.out _ (show k * 7 + 5 < 56 by omega)).trans (cls_atq hv (by decide)))
        have ra6 : ∀ x : Later W0, x.val.cell? ⟨w.heap.size, k * 7 + 6, none⟩ = some (.int .i64 vs) := fun x => ((x.bk KM.out).cell (k * 7 + 6)).trans ((LO.out _ (show k * 7 + 6 < 56 by omega)).trans (cls_atq hv (by decide)))
        have rb0 : ∀ x : Later W0, x.val.cell? ⟨gx, k * 7, none⟩ = some (.bool yi) := fun x => ((x.bk KX.out).cell (k * 7 + 0)).trans ((LO9.out _ (show k * 7 + 0 < 56 by omega)).trans (cls_atq hv9 (by decide)))
        have rb1 : ∀ x : Later W0, x.val.cell? ⟨gx, k * 7 + 1, none⟩ = some (.int .i64 yn) := fun x => ((x.bk KX.out).cell (k * 7 + 1)).trans ((LO9.out _ (show k * 7 + 1 < 56 by omega)).trans (cls_atq hv9 (by decide)))
        have rb2 : ∀ x : Later W0, x.val.cell? ⟨gx, k * 7 + 2, none⟩ = some (.int .i64 yp) := fun x => ((x.bk KX.out).cell (k * 7 + 2)).trans ((LO9.out _ (show k * 7 + 2 < 56 by omega)).trans (cls_atq hv9 (by decide)))
        have rb3 : ∀ x : Later W0, x.val.cell? ⟨gx, k * 7 + 3, none⟩ = some (.int .i64 yb) := fun x => ((x.bk KX.out).cell (k * 7 + 3)).trans ((LO9.out _ (show k * 7 + 3 < 56 by omega)).trans (cls_atq hv9 (by decide)))
        have rb4 : ∀ x : Later W0, x.val.cell? ⟨gx, k * 7 + 4, none⟩ = some (.int .i64 yl) := fun x => ((x.bk KX.out).cell (k * 7 + 4)).trans ((LO9.out _ (show k * 7 + 4 < 56 by omega)).trans (cls_atq hv9 (by decide)))
        have rb5 : ∀ x : Later W0, x.val.cell? ⟨gx, k * 7 + 5, none⟩ = some (.int .i64 ya) := fun x => ((x.bk KX.out).cell (k * 7 + 5)).trans ((LO9.out _ (show k * 7 + 5 < 56 by omega)).trans (cls_atq hv9 (by decide)))
        have rb6 : ∀ x : Later W0, x.val.cell? ⟨gx, k * 7 + 6, none⟩ = some (.int .i64 ys) := fun x => ((x.bk KX.out).cell (k * 7 + 6)).trans ((LO9.out _ (show k * 7 + 6 < 56 by omega)).trans (cls_atq hv9 (by decide)))
        have cvk := CV.out vi yi vn vp vb vl va vs yn yp yb yl ya ys hvo hy
        obtain ⟨xd, hxd⟩ : ∃ xd : Later W0, x.val.drew = xd.val := ⟨⟨_, ext_drew x.ok⟩, rfl⟩
        have hcd : Bk xd.val g11 3 #[.int .i64 (k0 + sumV b n (R.take k))] := by rw [← hxd]; exact hc
        have cvk2 := cvk xd _ hcd (by omega) (by omega)
        rw [Int.add_assoc, ← hst] at cvk2
        have CVK := Lib.hid cvk2
        have HXD := Lib.hid hxd
        clear cvk cvk2 hxd hcd hst hbd hbl hv hv9 hvo hy hc
        go_upto_region 16 with (fail)
        go_region_with (go_at_call 33; (rw [HXD.out]; (with_reducible refine CVK.out.mono ?_); rintro e w' ⟨rfl, y7, rfl, hc⟩; have C7 := Lib.hid hc; clear hc))
        all_goals
          go_wp2_with fail
          go_roundw
          case rel => exact ⟨k + 1, y7, by omega, by go_num, rfl, rfl, C7.out⟩
          case measure => simp [intOf]; omega
      · have q1 : ¬ ((k : Int) < 8) := by omega
        rw [List.take_of_length_le (by omega)] at hc
        generalize hk1 : k0 + sumV b n R = k1 at *
        have HK1 := Lib.hid hk1
        have hk1b := sumV_bd b n R
        have hk1c : 0 ≤ k1 ∧ k1 ≤ 9 := by omega
        have C8 := Lib.hid hc
        clear hk1 hk1b hc
        obtain ⟨xA, hxA⟩ : ∃ xA : Later W0, xA = x := ⟨_, rfl⟩
        subst hxA
        go_wp2
        go_loopw [14, 83] (fun g i wr => ∃ (k : Nat) (x : Later W0), k ≤ mem.length ∧ i = .int .i64 k ∧ g = .bool true ∧ wr = x.val ∧ Bk x.val g11 3 #[.int .i64 (k1 + sumV b n (mem.take k))]) (fun _ i _ => mem.length - (intOf i).toNat)
        case atStart => exact ⟨0, xA, Nat.zero_le _, rfl, rfl, rfl, by simpa [sumV] using C8.out⟩
        case round =>
          obtain ⟨k, x, hk, rfl, rfl, rfl, hc⟩ := hrel
          by_cases hlt : k < mem.length
          · have q1 : (k : Int) < mem.length := by omega
            have q1' : (k : Int) < m9.length := by have := HLM.out; omega
            have q2 : (k : Int) ≤ 400 := by omega
            obtain ⟨v, hv⟩ : ∃ v, mem[k]? = some v := ⟨_, List.getElem?_eq_getElem hlt⟩
            have hv9 : m9[k]? = some (swV b n v) := by rw [HM9.out, List.getElem?_map, hv]; rfl
            have hvo := HOK.out.mem v (List.mem_of_getElem? hv)
            have hst := sumV_take (b := b) (n := n) hv
            have hbd := sumV_bd b n (mem.take k)
            have hbl : (mem.take k).length ≤ k := List.length_take_le _ _
            obtain ⟨y, hy⟩ : ∃ y, y = swV b n v := ⟨_, rfl⟩
            rw [← hy] at hv9
            obtain ⟨ad, rfl, hab, ema0, ema1, ema2, ema3, ema4, ema5, ema6⟩ := sl_valg TS.out.1.1 hlt hv
            obtain ⟨bd, rfl, hbb, emb0, emb1, emb2, emb3, emb4, emb5, emb6⟩ := sl_valg TS.out.2.1 (by have := HLM.out; omega) hv9
            obtain ⟨vi, vn, vp, vb, vl, va, vs⟩ := v
            obtain ⟨yi, yn, yp, yb, yl, ya, ys⟩ := y
            have hab' : (ad.add (k * 7)).block < W0.heap.size := by rw [el_block]; exact hab
            have hbb' : (bd.add (k * 7)).block < W0.heap.size := by rw [el_block]; exact hbb
            have ma0 : ∀ x : Later W0, x.val.cell? (ad.add (k * 7)) = some (.bool vi) := fun x => (x.ok.cell (p := ad.add (k * 7)) hab').trans ema0
            have ma1 : ∀ x : Later W0, x.val.cell? (⟨(ad.add (k * 7)).block, (ad.add (k * 7)).off + 1, none⟩) = some (.int .i64 vn) := fun x => (x.ok.cell (p := ⟨(ad.add (k * 7)).block, (ad.add (k * 7)).off + 1, none⟩) hab').trans ema1
            have ma2 : ∀ x : Later W0, x.val.cell? (⟨(ad.add (k * 7)).block, (ad.add (k * 7)).off + 2, none⟩) = some (.int .i64 vp) := fun x => (x.ok.cell (p := ⟨(ad.add (k * 7)).block, (ad.add (k * 7)).off + 2, none⟩) hab').trans ema2
            have ma3 : ∀ x : Later W0, x.val.cell? (⟨(ad.add (k * 7)).block, (ad.add (k * 7)).off + 3, none⟩) = some (.int .i64 vb) := fun x => (x.ok.cell (p := ⟨(ad.add (k * 7)).block, (ad.add (k * 7)).off + 3, none⟩) hab').trans ema3
            have ma4 : ∀ x : Later W0, x.val.cell? (⟨(ad.add (k * 7)).block, (ad.add (k * 7)).off + 4, none⟩) = some (.int .i64 vl) := fun x => (x.ok.cell (p := ⟨(ad.add (k * 7)).block, (ad.add (k * 7)).off + 4, none⟩) hab').trans ema4
            have ma5 : ∀ x : Later W0, x.val.cell? (⟨(ad.add (k * 7)).block, (ad.add (k * 7)).off + 5, none⟩) = some (.int .i64 va) := fun x => (x.ok.cell (p := ⟨(ad.add (k * 7)).block, (ad.add (k * 7)).off + 5, none⟩) hab').trans ema5
            have ma6 : ∀ x : Later W0, x.val.cell? (⟨(ad.add (k * 7)).block, (ad.add (k * 7)).off + 6, none⟩) = some (.int .i64 vs) := fun x => (x.ok.cell (p := ⟨(ad.add (k * 7)).block, (ad.add (k * 7)).off + 6, none⟩) hab').trans ema6
            have maL : ∀ x : Later W0, (ad.add (k * 7)).block < x.val.heap.size := fun x => x.lt hab'
            have mb0 : ∀ x : Later W0, x.val.cell? (bd.add (k * 7)) = some (.bool yi) := fun x => (x.ok.cell (p := bd.add (k * 7)) hbb').trans emb0
            have mb1 : ∀ x : Later W0, x.val.cell? (⟨(bd.add (k * 7)).block, (bd.add (k * 7)).off + 1, none⟩) = some (.int .i64 yn) := fun x => (x.ok.cell (p := ⟨(bd.add (k * 7)).block, (bd.add (k * 7)).off + 1, none⟩) hbb').trans emb1
            have mb2 : ∀ x : Later W0, x.val.cell? (⟨(bd.add (k * 7)).block, (bd.add (k * 7)).off + 2, none⟩) = some (.int .i64 yp) := fun x => (x.ok.cell (p := ⟨(bd.add (k * 7)).block, (bd.add (k * 7)).off + 2, none⟩) hbb').trans emb2
            have mb3 : ∀ x : Later W0, x.val.cell? (⟨(bd.add (k * 7)).block, (bd.add (k * 7)).off + 3, none⟩) = some (.int .i64 yb) := fun x => (x.ok.cell (p := ⟨(bd.add (k * 7)).block, (bd.add (k * 7)).off + 3, none⟩) hbb').trans emb3
            have mb4 : ∀ x : Later W0, x.val.cell? (⟨(bd.add (k * 7)).block, (bd.add (k * 7)).off + 4, none⟩) = some (.int .i64 yl) := fun x => (x.ok.cell (p := ⟨(bd.add (k * 7)).block, (bd.add (k * 7)).off + 4, none⟩) hbb').trans emb4
            have mb5 : ∀ x : Later W0, x.val.cell? (⟨(bd.add (k * 7)).block, (bd.add (k * 7)).off + 5, none⟩) = some (.int .i64 ya) := fun x => (x.ok.cell (p := ⟨(bd.add (k * 7)).block, (bd.add (k * 7)).off + 5, none⟩) hbb').trans emb5
            have mb6 : ∀ x : Later W0, x.val.cell? (⟨(bd.add (k * 7)).block, (bd.add (k * 7)).off + 6, none⟩) = some (.int .i64 ys) := fun x => (x.ok.cell (p := ⟨(bd.add (k * 7)).block, (bd.add (k * 7)).off + 6, none⟩) hbb').trans emb6
            have mbL : ∀ x : Later W0, (bd.add (k * 7)).block < x.val.heap.size := fun x => x.lt hbb'
            have cvk := CV.out vi yi vn vp vb vl va vs yn yp yb yl ya ys hvo hy
            obtain ⟨xd, hxd⟩ : ∃ xd : Later W0, x.val.drew = xd.val := ⟨⟨_, ext_drew x.ok⟩, rfl⟩
            have hcd : Bk xd.val g11 3 #[.int .i64 (k1 + sumV b n (mem.take k))] := by rw [← hxd]; exact hc
            have cvk2 := cvk xd _ hcd (by omega) (by omega)
            rw [Int.add_assoc, ← hst] at cvk2
            have CVK := Lib.hid cvk2
            have HXD := Lib.hid hxd
            clear cvk cvk2 hxd hcd hst hbd hbl hv hv9 hvo hy hc ema0 ema1 ema2 ema3 ema4 ema5 ema6 emb0 emb1 emb2 emb3 emb4 emb5 emb6
            go_upto_region 21 with (fail)
            go_region_with (go_at_call 33; (rw [HXD.out]; (with_reducible refine CVK.out.mono ?_); rintro e w' ⟨rfl, y9, rfl, hc⟩; have C9 := Lib.hid hc; clear hc))
            all_goals
              go_wp2_with fail
              go_roundw
              case rel => exact ⟨k + 1, y9, by omega, by go_num, rfl, rfl, C9.out⟩
              case measure => simp [intOf]; omega
          · have q1 : ¬ ((k : Int) < mem.length) := by omega
            rw [List.take_of_length_le (by omega)] at hc
            generalize hk2 : k1 + sumV b n mem = k2 at *
            have HK2 := Lib.hid hk2
            have hk2b := sumV_bd b n mem
            have hk2c : 0 ≤ k2 ∧ k2 ≤ 409 := by omega
            have C10 := Lib.hid hc
            clear hk2 hk2b hc
            obtain ⟨xB, hxB⟩ : ∃ xB : Later W0, xB = x := ⟨_, rfl⟩
            subst hxB
            go_wp2
            go_loopw [14, 105] (fun g i wr => ∃ (k : Nat) (x : Later W0), k ≤ stk.length ∧ i = .int .i64 k ∧ g = .bool true ∧ wr = x.val ∧ Bk x.val g11 3 #[.int .i64 (k2 + sumF b n (stk.take k))]) (fun _ i _ => stk.length - (intOf i).toNat)
            case atStart => exact ⟨0, xB, Nat.zero_le _, rfl, rfl, rfl, by simpa [sumF] using C10.out⟩
            case round =>
              obtain ⟨k, x, hk, rfl, rfl, rfl, hc⟩ := hrel
              by_cases hlt : k < stk.length
              · have q1 : (k : Int) < stk.length := by omega
                have q1' : (k : Int) < s9.length := by have := HLS.out; omega
                have q2 : (k : Int) ≤ 400 := by omega
                obtain ⟨v, hv⟩ : ∃ v, stk[k]? = some v := ⟨_, List.getElem?_eq_getElem hlt⟩
                have hv9 : s9[k]? = some (swF b n v) := by rw [HS9.out, List.getElem?_map, hv]; rfl
                have hvo := HOK.out.stk v (List.mem_of_getElem? hv)
                have hst := sumF_take (b := b) (n := n) hv
                have hbd := sumF_bd b n (stk.take k)
                have hbl : (stk.take k).length ≤ k := List.length_take_le _ _
                obtain ⟨y, hy⟩ : ∃ y, y = swF b n v := ⟨_, rfl⟩
                rw [← hy] at hv9
                have hy1 : y.code = swK b n v.code := by rw [hy]; rfl
                have hy2 : y.data = swV b n v.data := by rw [hy]; rfl
                obtain ⟨ad, rfl, hab', ema0, ema1, ema2, ema3, ema4, ema5, ema6, ema7, ema8, ema9, ema10, ema11⟩ := sl_frame TS.out.1.2 hlt hv
                obtain ⟨bd, rfl, hbb', emb0, emb1, emb2, emb3, emb4, emb5, emb6, emb7, emb8, emb9, emb10, emb11⟩ := sl_frame TS.out.2.2 (by have := HLS.out; omega) hv9
                obtain ⟨⟨kp, kb_, kl, ka, ks⟩, ⟨vi, vn, vp, vb, vl, va, vs⟩⟩ := v
                obtain ⟨⟨jp, jb, jl, ja, js⟩, ⟨yi, yn, yp, yb, yl, ya, ys⟩⟩ := y
                simp only at hy1 hy2 hvo
                have ma0 : ∀ x : Later W0, x.val.cell? (ad.add (k * 12)) = some (.int .i64 kp) := fun x => (x.ok.cell (p := ad.add (k * 12)) hab').trans ema0
                have ma1 : ∀ x : Later W0, x.val.cell? (⟨(ad.add (k * 12)).block, (ad.add (k * 12)).off + 1, none⟩) = some (.int .i64 kb_) := fun x => (x.ok.cell (p := ⟨(ad.add (k * 12)).block, (ad.add (k * 12)).off + 1, none⟩) hab').trans ema1
                have ma2 : ∀ x : Later W0, x.val.cell? (⟨(ad.add (k * 12)).block, (ad.add (k * 12)).off + 2, none⟩) = some (.int .i64 kl) := fun x => (x.ok.cell (p := ⟨(ad.add (k * 12)).block, (ad.add (k * 12)).off + 2, none⟩) hab').trans ema2
                have ma3 : ∀ x : Later W0, x.val.cell? (⟨(ad.add (k * 12)).block, (ad.add (k * 12)).off + 3, none⟩) = some (.int .i64 ka) := fun x => (x.ok.cell (p := ⟨(ad.add (k * 12)).block, (ad.add (k * 12)).off + 3, none⟩) hab').trans ema3
                have ma4 : ∀ x : Later W0, x.val.cell? (⟨(ad.add (k * 12)).block, (ad.add (k * 12)).off + 4, none⟩) = some (.int .i64 ks) := fun x => (x.ok.cell (p := ⟨(ad.add (k * 12)).block, (ad.add (k * 12)).off + 4, none⟩) hab').trans ema4
                have ma5 : ∀ x : Later W0, x.val.cell? (⟨(ad.add (k * 12)).block, (ad.add (k * 12)).off + 5, none⟩) = some (.bool vi) := fun x => (x.ok.cell (p := ⟨(ad.add (k * 12)).block, (ad.add (k * 12)).off + 5, none⟩) hab').trans ema5
                have ma6 : ∀ x : Later W0, x.val.cell? (⟨(ad.add (k * 12)).block, (ad.add (k * 12)).off + 6, none⟩) = some (.int .i64 vn) := fun x => (x.ok.cell (p := ⟨(ad.add (k * 12)).block, (ad.add (k * 12)).off + 6, none⟩) hab').trans ema6
                have ma7 : ∀ x : Later W0, x.val.cell? (⟨(ad.add (k * 12)).block, (ad.add (k * 12)).off + 7, none⟩) = some (.int .i64 vp) := fun x => (x.ok.cell (p := ⟨(ad.add (k * 12)).block, (ad.add (k * 12)).off + 7, none⟩) hab').trans ema7
                have ma8 : ∀ x : Later W0, x.val.cell? (⟨(ad.add (k * 12)).block, (ad.add (k * 12)).off + 8, none⟩) = some (.int .i64 vb) := fun x => (x.ok.cell (p := ⟨(ad.add (k * 12)).block, (ad.add (k * 12)).off + 8, none⟩) hab').trans ema8
                have ma9 : ∀ x : Later W0, x.val.cell? (⟨(ad.add (k * 12)).block, (ad.add (k * 12)).off + 9, none⟩) = some (.int .i64 vl) := fun x => (x.ok.cell (p := ⟨(ad.add (k * 12)).block, (ad.add (k * 12)).off + 9, none⟩) hab').trans ema9
                have ma10 : ∀ x : Later W0, x.val.cell? (⟨(ad.add (k * 12)).block, (ad.add (k * 12)).off + 10, none⟩) = some (.int .i64 va) := fun x => (x.ok.cell (p := ⟨(ad.add (k * 12)).block, (ad.add (k * 12)).off + 10, none⟩) hab').trans ema10
                have ma11 : ∀ x : Later W0, x.val.cell? (⟨(ad.add (k * 12)).block, (ad.add (k * 12)).off + 11, none⟩) = some (.int .i64 vs) := fun x => (x.ok.cell (p := ⟨(ad.add (k * 12)).block, (ad.add (k * 12)).off + 11, none⟩) hab').trans ema11
                have maL : ∀ x : Later W0, (ad.add (k * 12)).block < x.val.heap.size := fun x => x.lt hab'
                have mb0 : ∀ x : Later W0, x.val.cell? (bd.add (k * 12)) = some (.int .i64 jp) := fun x => (x.ok.cell (p := bd.add (k * 12)) hbb').trans emb0
                have mb1 : ∀ x : Later W0, x.val.cell? (⟨(bd.add (k * 12)).block, (bd.add (k * 12)).off + 1, none⟩) = some (.int .i64 jb) := fun x => (x.ok.cell (p := ⟨(bd.add (k * 12)).block, (bd.add (k * 12)).off + 1, none⟩) hbb').trans emb1
                have mb2 : ∀ x : Later W0, x.val.cell? (⟨(bd.add (k * 12)).block, (bd.add (k * 12)).off + 2, none⟩) = some (.int .i64 jl) := fun x => (x.ok.cell (p := ⟨(bd.add (k * 12)).block, (bd.add (k * 12)).off + 2, none⟩) hbb').trans emb2
                have mb3 : ∀ x : Later W0, x.val.cell? (⟨(bd.add (k * 12)).block, (bd.add (k * 12)).off + 3, none⟩) = some (.int .i64 ja) := fun x => (x.ok.cell (p := ⟨(bd.add (k * 12)).block, (bd.add (k * 12)).off + 3, none⟩) hbb').trans emb3
                have mb4 : ∀ x : Later W0, x.val.cell? (⟨(bd.add (k * 12)).block, (bd.add (k * 12)).off + 4, none⟩) = some (.int .i64 js) := fun x => (x.ok.cell (p := ⟨(bd.add (k * 12)).block, (bd.add (k * 12)).off + 4, none⟩) hbb').trans emb4
                have mb5 : ∀ x : Later W0, x.val.cell? (⟨(bd.add (k * 12)).block, (bd.add (k * 12)).off + 5, none⟩) = some (.bool yi) := fun x => (x.ok.cell (p := ⟨(bd.add (k * 12)).block, (bd.add (k * 12)).off + 5, none⟩) hbb').trans emb5
                have mb6 : ∀ x : Later W0, x.val.cell? (⟨(bd.add (k * 12)).block, (bd.add (k * 12)).off + 6, none⟩) = some (.int .i64 yn) := fun x => (x.ok.cell (p := ⟨(bd.add (k * 12)).block, (bd.add (k * 12)).off + 6, none⟩) hbb').trans emb6
                have mb7 : ∀ x : Later W0, x.val.cell? (⟨(bd.add (k * 12)).block, (bd.add (k * 12)).off + 7, none⟩) = some (.int .i64 yp) := fun x => (x.ok.cell (p := ⟨(bd.add (k * 12)).block, (bd.add (k * 12)).off + 7, none⟩) hbb').trans emb7
                have mb8 : ∀ x : Later W0, x.val.cell? (⟨(bd.add (k * 12)).block, (bd.add (k * 12)).off + 8, none⟩) = some (.int .i64 yb) := fun x => (x.ok.cell (p := ⟨(bd.add (k * 12)).block, (bd.add (k * 12)).off + 8, none⟩) hbb').trans emb8
                have mb9 : ∀ x : Later W0, x.val.cell? (⟨(bd.add (k * 12)).block, (bd.add (k * 12)).off + 9, none⟩) = some (.int .i64 yl) := fun x => (x.ok.cell (p := ⟨(bd.add (k * 12)).block, (bd.add (k * 12)).off + 9, none⟩) hbb').trans emb9
                have mb10 : ∀ x : Later W0, x.val.cell? (⟨(bd.add (k * 12)).block, (bd.add (k * 12)).off + 10, none⟩) = some (.int .i64 ya) := fun x => (x.ok.cell (p := ⟨(bd.add (k * 12)).block, (bd.add (k * 12)).off + 10, none⟩) hbb').trans emb10
                have mb11 : ∀ x : Later W0, x.val.cell? (⟨(bd.add (k * 12)).block, (bd.add (k * 12)).off + 11, none⟩) = some (.int .i64 ys) := fun x => (x.ok.cell (p := ⟨(bd.add (k * 12)).block, (bd.add (k * 12)).off + 11, none⟩) hbb').trans emb11
                have mbL : ∀ x : Later W0, (bd.add (k * 12)).block < x.val.heap.size := fun x => x.lt hbb'
                have hkb := ctK_bd b n ⟨kp, kb_, kl, ka, ks⟩
                obtain ⟨xd, hxd⟩ : ∃ xd : Later W0, x.val.drew = xd.val := ⟨⟨_, ext_drew x.ok⟩, rfl⟩
                have hcd : Bk xd.val g11 3 #[.int .i64 (k2 + sumF b n (stk.take k))] := by rw [← hxd]; exact hc
                have ckk := CK.out kp kb_ kl ka ks jp jb jl ja js hvo.1 hy1 xd _ hcd (by omega) (by omega)
                have cvk := fun (z : Later W0) hz => CV.out vi yi vn vp vb vl va vs yn yp yb yl ya ys hvo.2 hy2 z (k2 + sumF b n (stk.take k) + ctK b n ⟨kp, kb_, kl, ka, ks⟩) hz (by omega) (by omega)
                have hsum : k2 + sumF b n (stk.take k) + ctK b n ⟨kp, kb_, kl, ka, ks⟩ + ctV b n ⟨vi, vn, ⟨vp, vb, vl, va, vs⟩⟩ = k2 + sumF b n (stk.take (k + 1)) := by rw [hst]; unfold ctF; simp only; omega
                rw [hsum] at cvk
                have CKK := Lib.hid ckk
                have CVK := Lib.hid cvk
                have HXD := Lib.hid hxd
                clear ckk cvk hxd hcd hst hbd hbl hv hv9 hvo hy hy1 hy2 hc hsum hkb ema0 emb0 ema1 emb1 ema2 emb2 ema3 emb3 ema4 emb4 ema5 emb5 ema6 emb6 ema7 emb7 ema8 emb8 ema9 emb9 ema10 emb10 ema11 emb11
                have HS26 := Lib.hid (show ∀ x : Later W0, x.val.cell? ⟨w.heap.size, 62, none⟩ = some (.slice (some ad) stk.length sc) ∧ x.val.cell? ⟨gx, 62, none⟩ = some (.slice (some bd) s9.length sc2) ∧ x.val.cell? (ad.add (k * 12)) = some (.int .i64 kp) ∧ x.val.cell? ⟨(ad.add (k * 12)).block, (ad.add (k * 12)).off + 1, none⟩ = some (.int .i64 kb_) ∧ x.val.cell? ⟨(ad.add (k * 12)).block, (ad.add (k * 12)).off + 2, none⟩ = some (.int .i64 kl) ∧ x.val.cell? ⟨(ad.add (k * 12)).block, (ad.add (k * 12)).off + 3, none⟩ = some (.int .i64 ka) ∧ x.val.cell? ⟨(ad.add (k * 12)).block, (ad.add (k * 12)).off + 4, none⟩ = some (.int .i64 ks) ∧ x.val.cell? ⟨(ad.add (k * 12)).block, (ad.add (k * 12)).off + 5, none⟩ = some (.bool vi) ∧ x.val.cell? ⟨(ad.add (k * 12)).block, (ad.add (k * 12)).off + 6, none⟩ = some (.int .i64 vn) ∧ x.val.cell? ⟨(ad.add (k * 12)).block, (ad.add (k * 12)).off + 7, none⟩ = some (.int .i64 vp) ∧ x.val.cell? ⟨(ad.add (k * 12)).block, (ad.add (k * 12)).off + 8, none⟩ = some (.int .i64 vb) ∧ x.val.cell? ⟨(ad.add (k * 12)).block, (ad.add (k * 12)).off + 9, none⟩ = some (.int .i64 vl) ∧ x.val.cell? ⟨(ad.add (k * 12)).block, (ad.add (k * 12)).off + 10, none⟩ = some (.int .i64 va) ∧ x.val.cell? ⟨(ad.add (k * 12)).block, (ad.add (k * 12)).off + 11, none⟩ = some (.int .i64 vs) ∧ x.val.cell? (bd.add (k * 12)) = some (.int .i64 jp) ∧ x.val.cell? ⟨(bd.add (k * 12)).block, (bd.add (k * 12)).off + 1, none⟩ = some (.int .i64 jb) ∧ x.val.cell? ⟨(bd.add (k * 12)).block, (bd.add (k * 12)).off + 2, none⟩ = some (.int .i64 jl) ∧ x.val.cell? ⟨(bd.add (k * 12)).block, (bd.add (k * 12)).off + 3, none⟩ = some (.int .i64 ja) ∧ x.val.cell? ⟨(bd.add (k * 12)).block, (bd.add (k * 12)).off + 4, none⟩ = some (.int .i64 js) ∧ x.val.cell? ⟨(bd.add (k * 12)).block, (bd.add (k * 12)).off + 5, none⟩ = some (.bool yi) ∧ x.val.cell? ⟨(bd.add (k * 12)).block, (bd.add (k * 12)).off + 6, none⟩ = some (.int .i64 yn) ∧ x.val.cell? ⟨(bd.add (k * 12)).block, (bd.add (k * 12)).off + 7, none⟩ = some (.int .i64 yp) ∧ x.val.cell? ⟨(bd.add (k * 12)).block, (bd.add (k * 12)).off + 8, none⟩ = some (.int .i64 yb) ∧ x.val.cell? ⟨(bd.add (k * 12)).block, (bd.add (k * 12)).off + 9, none⟩ = some (.int .i64 yl) ∧ x.val.cell? ⟨(bd.add (k * 12)).block, (bd.add (k * 12)).off + 10, none⟩ = some (.int .i64 ya) ∧ x.val.cell? ⟨(bd.add (k * 12)).block, (bd.add (k * 12)).off + 11, none⟩ = some (.int .i64 ys) from fun x => ⟨cM62 x, cX62 x, ma0 x, ma1 x, ma2 x, ma3 x, ma4 x, ma5 x, ma6 x, ma7 x, ma8 x, ma9 x, ma10 x, ma11 x, mb0 x, mb1 x, mb2 x, mb3 x, mb4 x, mb5 x, mb6 x, mb7 x, mb8 x, mb9 x, mb10 x, mb11 x⟩)
                go_upto_region 26 with (fail)
                go_region_held3 (fun W : World => W.cell? ⟨w.heap.size, 62, none⟩ = some (.slice (some ad) stk.length sc) ∧ W.cell? ⟨gx, 62, none⟩ = some (.slice (some bd) s9.length sc2) ∧ W.cell? (ad.add (k * 12)) = some (.int .i64 kp) ∧ W.cell? ⟨(ad.add (k * 12)).block, (ad.add (k * 12)).off + 1, none⟩ = some (.int .i64 kb_) ∧ W.cell? ⟨(ad.add (k * 12)).block, (ad.add (k * 12)).off + 2, none⟩ = some (.int .i64 kl) ∧ W.cell? ⟨(ad.add (k * 12)).block, (ad.add (k * 12)).off + 3, none⟩ = some (.int .i64 ka) ∧ W.cell? ⟨(ad.add (k * 12)).block, (ad.add (k * 12)).off + 4, none⟩ = some (.int .i64 ks) ∧ W.cell? ⟨(ad.add (k * 12)).block, (ad.add (k * 12)).off + 5, none⟩ = some (.bool vi) ∧ W.cell? ⟨(ad.add (k * 12)).block, (ad.add (k * 12)).off + 6, none⟩ = some (.int .i64 vn) ∧ W.cell? ⟨(ad.add (k * 12)).block, (ad.add (k * 12)).off + 7, none⟩ = some (.int .i64 vp) ∧ W.cell? ⟨(ad.add (k * 12)).block, (ad.add (k * 12)).off + 8, none⟩ = some (.int .i64 vb) ∧ W.cell? ⟨(ad.add (k * 12)).block, (ad.add (k * 12)).off + 9, none⟩ = some (.int .i64 vl) ∧ W.cell? ⟨(ad.add (k * 12)).block, (ad.add (k * 12)).off + 10, none⟩ = some (.int .i64 va) ∧ W.cell? ⟨(ad.add (k * 12)).block, (ad.add (k * 12)).off + 11, none⟩ = some (.int .i64 vs) ∧ W.cell? (bd.add (k * 12)) = some (.int .i64 jp) ∧ W.cell? ⟨(bd.add (k * 12)).block, (bd.add (k * 12)).off + 1, none⟩ = some (.int .i64 jb) ∧ W.cell? ⟨(bd.add (k * 12)).block, (bd.add (k * 12)).off + 2, none⟩ = some (.int .i64 jl) ∧ W.cell? ⟨(bd.add (k * 12)).block, (bd.add (k * 12)).off + 3, none⟩ = some (.int .i64 ja) ∧ W.cell? ⟨(bd.add (k * 12)).block, (bd.add (k * 12)).off + 4, none⟩ = some (.int .i64 js) ∧ W.cell? ⟨(bd.add (k * 12)).block, (bd.add (k * 12)).off + 5, none⟩ = some (.bool yi) ∧ W.cell? ⟨(bd.add (k * 12)).block, (bd.add (k * 12)).off + 6, none⟩ = some (.int .i64 yn) ∧ W.cell? ⟨(bd.add (k * 12)).block, (bd.add (k * 12)).off + 7, none⟩ = some (.int .i64 yp) ∧ W.cell? ⟨(bd.add (k * 12)).block, (bd.add (k * 12)).off + 8, none⟩ = some (.int .i64 yb) ∧ W.cell? ⟨(bd.add (k * 12)).block, (bd.add (k * 12)).off + 9, none⟩ = some (.int .i64 yl) ∧ W.cell? ⟨(bd.add (k * 12)).block, (bd.add (k * 12)).off + 10, none⟩ = some (.int .i64 ya) ∧ W.cell? ⟨(bd.add (k * 12)).block, (bd.add (k * 12)).off + 11, none⟩ = some (.int .i64 ys)) (first | exact HS26.out _ | (rw [HXD.out]; exact HS26.out _)) (first
                  | (go_at_call 35; (rw [HXD.out]; (with_reducible refine CKK.out.mono ?_); rintro e w' ⟨rfl, y11, rfl, hc⟩; have C11 := Lib.hid hc; clear hc))
                  | (go_at_call 33; ((with_reducible refine (CVK.out _ C11.out).mono ?_); rintro e w' ⟨rfl, y12, rfl, hc⟩; have C12 := Lib.hid hc; clear hc)))
                all_goals
                  go_wp2_with fail
                  go_roundw
                  case rel => exact ⟨k + 1, y12, by omega, by go_num, rfl, rfl, C12.out⟩
                  case measure => simp [intOf]; omega
              · have q1 : ¬ ((k : Int) < stk.length) := by omega
                rw [List.take_of_length_le (by omega)] at hc
                have htot : k2 + sumF b n stk = ct := by rw [HCT.out, ← HK2.out, ← HK1.out, ← HK0.out]; unfold swCount; omega
                rw [htot] at hc
                have c0 := hc.cell 0
                simp only [List.getElem?_toArray, List.getElem?_cons_succ, List.getElem?_cons_zero] at c0
                have cl0 := hc.lt
                have gE : (ct == ct) = true := by simp
                clear hc htot
                go_wp2
                go_ret
                exact ⟨rfl, FIN.out x⟩
end Go.Proofs.Ytlbhnkbchiklnaa
