import Derived.BigRegion
import Derived.Deep.RegionLaw
import Derived.Test.YtpjhjefjbkjhkaaGreatDoorPk33
import Derived.Test.YtpjhjefjbkjhkaaGreatDoorPk43
import Derived.Test.YtpjhjefjbkjhkaaGreatDoorPk39
set_option maxHeartbeats 40000000
set_option maxRecDepth 100000
set_option linter.unusedVariables false
set_option linter.unusedSimpArgs false
namespace Go.Proofs.YtpjhjefjbkjhkaaGreatDoor
open El (cl)
open Go Go.RowKit Go.Shelf
def DoRes (w : World) (d : DoneV × List ValV) (e : Ending) (w' : World) : Prop :=
 ∃ vo vm, e = .returned (.tuple #[.agg #[.int .i64 d.1.e, .int .i64 d.1.n, vo, .int .i64 d.1.fuel], vm]) ∧ Own w' w.heap.size 3 vo d.1.out ∧ Own w' w.heap.size 68 vm d.2 ∧ Below w.heap.size w w'
theorem MOwn.parts {b : Nat} {m : MV} {cs : Array Value} {W : World} (h : MOwn b m cs W) : ∃ ma mn mc oa on oc, cs[61]? = some (.slice ma mn mc) ∧ cs[63]? = some (.slice oa on oc) ∧ Own W b 68 (.slice ma mn mc) m.mem ∧ Own W b 3 (.slice oa on oc) m.out ∧ cs[0]? = some (.bool (m.R.getD 0 zeroV).is) ∧ cs[1]? = some (.int .i64 (m.R.getD 0 zeroV).n) := by
 obtain ⟨vm, vs, vo, rfl, h1, h2, h3⟩ := h.own
 obtain ⟨ma, mn, mc, rfl⟩ := own_shape h1
 obtain ⟨oa, on, oc, rfl⟩ := own_shape h3
 have h8 := h.h8
 have hx : m.R[0]? = some (m.R.getD 0 zeroV) := by rw [List.getD, List.getElem?_eq_getElem (by omega)]; rfl
 have c : ∀ j, j < 7 → (mcs m.R m.c (.slice ma mn mc) vs (.slice oa on oc))[0 * 7 + j]? = (cl (m.R.getD 0 zeroV))[j]? := fun j hj => by
  rw [mcs_lo h8 (by omega)]
  have h1 := cls_at m.R 0 (by omega) j (by show j < 7; exact hj)
  have e7 : El.k ValV = 7 := rfl
  rw [e7] at h1
  rw [h1, (List.getElem?_eq_some_iff.1 hx).2]
 exact ⟨ma, mn, mc, oa, on, oc, mcs_hi h8 5, mcs_hi h8 7, h1, h3, c 0 (by omega), c 1 (by omega)⟩
theorem entM_own {b : Nat} {M : List ValV} {x : EntryV} {args : List Int} {vm : Value} {W : World} (h : Own W b 68 vm M) : MOwn b (entM M x args) (mcs (entR x args) (entK x) vm (.slice none 0 0) (.slice none 0 0)) W :=
 ⟨entM_8 M x args, vm, .slice none 0 0, .slice none 0 0, rfl, h, Own.nil _ _ _, Own.nil _ _ _⟩
theorem bk_set4 {w : World} {g : Nat} {T : TypeId} {a b c d : Value} (h : Bk w g T #[a, b, c, d]) (a' b' c' d' : Value) : Bk (w.setCells g 0 [a', b', c', d']) g T #[a', b', c', d'] := bk_setCells (w := w) [a', b', c', d'] [a, b, c, d] 0 w h
theorem via_tailD {G : Prop} (h : ∃ T : Prop, T ∧ (T → G)) : G := h.elim fun T hT => hT.2 hT.1
theorem do_any (ma pa ea aa : Option Addr) (mn mc pn pc en ec an ac : Nat) (M : List ValV) (E : List EntryV) (s : ByteArray) (args : List Int) (F : Int) (w : World) (hm : Sl w ma mn M) (he : Sl w ea en E) (ha : Sl w aa an args) (hok : ImOk M E) (hai : ∀ n ∈ args, I64 n) (hT : Tab w) :
  Calls Tryz.prog 17 #[.agg #[.slice ma mn mc, .slice pa pn pc, .slice ea en ec], .agg #[.string s, .slice aa an ac, .int .i64 F]] w (DoRes w (doF M E s args F)) := by
 have hml := hm.len
 have hm400 := ((memCheck_zero M).1 hok.m).1
 obtain ⟨w1, hw1⟩ : ∃ w1, w1 = ((w.alloc (.cells #[.slice ma mn mc, .slice pa pn pc, .slice ea en ec] 36)).alloc (.cells #[.string s, .slice aa an ac, .int .i64 F] 45)).alloc (.cells #[.int .i64 0, .int .i64 0, .slice none 0 0, .int .i64 0] 41) := ⟨_, rfl⟩
 obtain ⟨g2, hg2⟩ : ∃ g2, w.heap.size = g2 := ⟨_, rfl⟩
 obtain ⟨g3, hg3⟩ : ∃ g3, w.heap.size + 1 = g3 := ⟨_, rfl⟩
 obtain ⟨g4, hg4⟩ : ∃ g4, w.heap.size + 1 + 1 = g4 := ⟨_, rfl⟩
 have h1w : Below w.heap.size w w1 := by rw [hw1]; exact ext_alloc (ext_alloc (ext_alloc (Below.refl _ _) _) _) _
 have b1 : Bk w1 g2 36 #[.slice ma mn mc, .slice pa pn pc, .slice ea en ec] := by rw [hw1, ← hg2]; exact bk_old _ (bk_old _ (bk_new _ _ _))
 have j1 : Bk w1 g3 45 #[.string s, .slice aa an ac, .int .i64 F] := by rw [hw1, ← hg3]; exact bk_old _ (bk_new' _ _ (by simp))
 have r1 : Bk w1 g4 41 #[.int .i64 0, .int .i64 0, .slice none 0 0, .int .i64 0] := by rw [hw1, ← hg4]; exact bk_new' _ _ (by simp)
 have en' := enter_any ma pa ea aa mn mc pn pc en ec an ac M E s args w1 (hm.below h1w) (he.below h1w) (ha.below h1w) hok hai
 have hT1 := hT.below h1w
 have hn24 : g2 ≠ g4 := by omega
 have hn34 : g3 ≠ g4 := by omega
 have hs1 : g4 < w1.heap.size := r1.lt
 have hgw : w.heap.size ≤ g4 := by omega
 have HG2 := Lib.hid hg2
 have HG3 := Lib.hid hg3
 have HG4 := Lib.hid hg4
 clear hg2 hg3 hg4
 have HW1 := Lib.hid hw1
 have H1W := Lib.hid h1w
 have B1 := Lib.hid b1
 have J1 := Lib.hid j1
 have R1 := Lib.hid r1
 have HM := Lib.hid hm
 have HT1 := Lib.hid hT1
 have HMC := Lib.hid hok.m
 clear hw1 h1w b1 j1 r1 hm he ha hok hai hT hT1
 obtain ⟨c0, c1, c2⟩ := cells3 B1.out
 have bL := B1.out.lt
 obtain ⟨k0, k1, k2⟩ := cells3 J1.out
 have kL := J1.out.lt
 by_cases hee : enterE E s args = 0
 ·have hsome : ∃ x, findE E s = some x := by
   unfold enterE at hee
   split at hee
   ·cases hee
   ·split at hee
    ·cases hee
    ·split at hee
     ·cases hee
     ·next h => exact Option.ne_none_iff_exists'.1 h
  obtain ⟨x, hf⟩ := hsome
  obtain ⟨m0, hm0⟩ : ∃ m0, entM M x args = m0 := ⟨_, rfl⟩
  have en2 : Calls Tryz.prog 28 #[.agg #[.slice ma mn mc, .slice pa pn pc, .slice ea en ec], .string s, .slice aa an ac] w1 fun e w2 => ∃ cs, e = .returned (.tuple #[.agg cs, .int .i64 0]) ∧ MOwn w1.heap.size m0 cs w2 ∧ Below w1.heap.size w1 w2 := by
   refine en'.mono ?_
   rintro e w2 (⟨h, _⟩ | ⟨_, x', vm, hf', he, ho, hb⟩)
   ·exact absurd hee h
   ·rw [hf] at hf'
    injection hf' with hf'
    subst hf'
    rw [← hm0]
    exact ⟨_, he, entM_own ho, hb⟩
  have hd : doF M E s args F = doX M (runF m0 F) := by unfold doF; rw [if_neg (by simp [hee]), hf, ← hm0]; rfl
  rw [hd]
  obtain ⟨X, n, er, hr⟩ : ∃ X n er, runF m0 F = (X, n, er) := ⟨_, _, _, rfl⟩
  rw [hr]
  have EN := Lib.hid en2
  have HR := Lib.hid hr
  clear en' en2 hd hr hf hee hm0
  go_enter Tryz.func17, Tryz.ntmps17
  go_upto_region 1 with (fail)
  rw [← HW1.out]
  try rw [HG4.out]
  try rw [HG3.out]
  try rw [HG2.out]
  go_upto_region 2 with (first
   | (go_at_call 28; ((with_reducible refine (EN.out).mono ?_); rintro e w2 ⟨cs, rfl, hom, hb2⟩; have HM2 := Lib.hid hom; have HB2 := Lib.hid hb2; clear hb2 hom))
   | (refine wpList_store_fresh rfl 72 (.tmp 6) (.tmp 17) rfl rfl cs 72 _ rfl (by first | rfl | kernel_rfl) (by rw [HM2.out.sz]; kernel_rfl) (by rw [HM2.out.sz]; kernel_rfl) HM2.out.one ?_))
  obtain ⟨w3, hw3⟩ : ∃ w3, w3 = w2.alloc (.cells cs 72) := ⟨_, rfl⟩
  rw [← hw3]
  obtain ⟨g6, hg6⟩ : ∃ g6, w2.heap.size = g6 := ⟨_, rfl⟩
  rw [hg6]
  have b3 : Below w2.heap.size w2 w3 := by rw [hw3]; exact ext_alloc (Below.refl _ _) _
  have m3 : MBox g6 m0 cs w3 := by rw [hw3, ← hg6]; exact HM2.out.alloc
  have b13 := ext_trans HB2.out b3
  have ro := run_own m3 (HT1.out.below b13) F HR.out
  have HRO := Lib.hid ro
  have M3 := Lib.hid m3
  have B13 := Lib.hid b13
  have hs2 := HB2.out.size
  clear c0 c1 c2 bL k0 k1 k2 kL hw3 b3 m3 b13 ro HW1 EN HM2
  obtain ⟨k0, k1, k2⟩ := cells3 (bk_keep B13.out J1.out)
  have kL := (bk_keep B13.out J1.out).lt
  have hnz : ((0 : Int) != 0) = false := by decide
  go_upto_region 5 with (first
   | (refine wpList_load_sub rfl 72 (.tmp 6) rfl g6 0 64 rfl 72 _ _ M3.out.bk Tryz.underlying72 rfl (by kernel_rfl) M3.out.size _ M3.out.all ?_)
   | (go_at_call 29; ((with_reducible refine (HRO.out).mono ?_); rintro e w4 ⟨xs, rfl, hom, hb4⟩; have HM4 := Lib.hid hom; have HB4 := Lib.hid hb4; clear hom hb4))
   | (refine wpList_store_rowTo rfl 72 (.tmp 6) (.tmp 31) rfl rfl g6 xs rfl rfl 72 _ (bk_keep HB4.out M3.out.bk) (by rw [HM4.out.sz]; kernel_rfl) (by rw [HM4.out.sz, M3.out.sz]) HM4.out.one ?_))
  obtain ⟨w5, hw5⟩ : ∃ w5, w5 = w4.setRow g6 xs := ⟨_, rfl⟩
  rw [← hw5]
  have m5 : MBox g6 X xs w5 := by rw [hw5]; exact HM4.out.setRow (bk_keep HB4.out M3.out.bk)
  obtain ⟨xa, xn, xc, oa, on, oc, p61, p63, om, oo, p0, p1⟩ := HM4.out.parts
  have om5 : Own w5 w3.heap.size 68 (.slice xa xn xc) X.mem := by rw [hw5]; exact own_setRow om (bk_keep HB4.out M3.out.bk) (by decide) _
  have oo5 : Own w5 w3.heap.size 3 (.slice oa on oc) X.out := by rw [hw5]; exact own_setRow oo (bk_keep HB4.out M3.out.bk) (by decide) _
  have hg6s : w1.heap.size ≤ g6 := by omega
  have b14 : Below w1.heap.size w1 w5 := by rw [hw5]; exact below_setRow (ext_trans B13.out HB4.out) hg6s _
  have x0 := (m5.bk.cell 0).trans p0
  have x1 := (m5.bk.cell 1).trans p1
  have x61 := (m5.bk.cell 61).trans p61
  have x63 := (m5.bk.cell 63).trans p63
  have xL := m5.bk.lt
  have hs3 := B13.out.size
  have B5 := Lib.hid b14
  have M5 := Lib.hid m5.bk
  have OM := Lib.hid (om5.mono (show w.heap.size ≤ w3.heap.size by have := H1W.out.size; omega))
  have OO := Lib.hid (oo5.mono (show w.heap.size ≤ w3.heap.size by have := H1W.out.size; omega))
  clear hw5 m5 om5 oo5 om oo p0 p1 p61 p63 b14 k0 k1 k2 kL HRO HM4 HB4 HB2 M3
  obtain ⟨rb, hrb⟩ : ∃ rb, (X.R.getD 0 zeroV).is = rb := ⟨_, rfl⟩
  obtain ⟨rn, hrn⟩ : ∃ rn, (X.R.getD 0 zeroV).n = rn := ⟨_, rfl⟩
  rw [hrb] at x0
  rw [hrn] at x1
  by_cases h1 : er = 1
  ·subst h1
   have q1 : ((1 : Int) == 1) = true := by decide
   have hd : doX M (X, n, 1) = (⟨1, 0, [], 0⟩, M) := by unfold doX; rw [if_pos rfl]
   rw [hd]
   obtain ⟨c0, c1, c2⟩ := cells3 (bk_keep B5.out B1.out)
   have bL := (bk_keep B5.out B1.out).lt
   have cl := clone_val ma mn mc M w5 (HM.out.below (ext_trans H1W.out B5.out)) (by omega)
   have CL := Lib.hid cl
   clear cl x0 x1 x61 x63 hd
   go_upto_region 7 with (fail)
   go_wp2_with (first
    | (go_at_call 53; ((with_reducible refine (CL.out).mono ?_); rintro e w7 ⟨v, rfl, ho, hb7⟩; obtain ⟨ca, cn, cc, rfl⟩ := own_shape ho; have HO7 := Lib.hid ho; have HB7 := Lib.hid hb7; have R4 := Lib.hid (bk_keep (ext_trans B5.out hb7) R1.out); have rL := R4.out.lt; clear ho hb7))
    | (refine wpList_store_rowTo rfl 41 (.tmp 4) (.tmp 38) rfl rfl g4 (#[.int .i64 1, .int .i64 0, .slice none 0 0, .int .i64 0]) rfl (by first | rfl | kernel_rfl) 41 _ R4.out (by kernel_rfl) (by kernel_rfl) (by first | rfl | kernel_rfl) ?_))
   refine bodyPost_ret (results_rowE (g := g4) (t := 41) (cs := (#[.int .i64 1, .int .i64 0, .slice none 0 0, .int .i64 0])) (fr := (0, 0)) rfl _ _ _ rfl (bk_setRowE R4.out _) Tryz.underlying41 rfl (by kernel_rfl)) rfl ?_
   have hs5 := B5.out.size
   have hs0 := H1W.out.size
   exact ⟨_, _, rfl, Own.nil _ _ _, own_setRow (HO7.out.mono (by omega)) R4.out (by decide) _, below_setRow (ext_trans H1W.out (ext_trans B5.out HB7.out)) hgw _⟩
  ·have q1 : (er == 1) = false := by simpa using h1
   have r5 := bk_keep B5.out R1.out
   have R5 := Lib.hid r5
   have rL := r5.lt
   clear r5
   by_cases h16 : er = 16
   ·have q2 : (er == 16) = true := by simpa using h16
    have hdd : doX M (X, n, er) = (⟨0, if rb then 0 else rn, X.out, n⟩, X.mem) := by
     unfold doX runD
     rw [if_neg h1]
     simp only
     rw [if_pos h16, hrb, hrn]
    have HD := Lib.hid hdd
    clear hdd h16 h1 hrb hrn
    cases rb
    ·go_upto_region 13 with (fail)
     obtain ⟨w6, hw6⟩ : ∃ w6, w6 = w5.alloc (.cells #[.int .i64 0, .int .i64 rn, .slice oa on oc, .int .i64 n] 41) := ⟨_, rfl⟩
     obtain ⟨g9, hg9⟩ : ∃ g9, w5.heap.size = g9 := ⟨_, rfl⟩
     try rw [hg9]
     rw [← hw6]
     have b6 : Below w5.heap.size w5 w6 := by rw [hw6]; exact ext_alloc (Below.refl _ _) _
     have y6 : Bk w6 g9 41 #[.int .i64 0, .int .i64 rn, .slice oa on oc, .int .i64 n] := by rw [hw6, ← hg9]; exact bk_new _ _ _
     have r6 := bk_keep b6 R5.out
     have om6 := OM.out.below b6
     have oo6 := OO.out.below b6
     have x61' : w6.cell? ⟨g6, 61, none⟩ = some (.slice xa xn xc) := ((bk_keep b6 M5.out).cell 61).trans ((M5.out.cell 61).symm.trans x61)
     have xL' := (bk_keep b6 M5.out).lt
     obtain ⟨y0, y1, y2, y3⟩ := cellsM4 y6
     have yL := y6.lt
     obtain ⟨r0_, r1_, r2_, r3_⟩ := cellsM4 r6
     have rL := r6.lt
     have rF := fun i => r6.frozen i
     have b6w := ext_trans H1W.out (ext_trans B5.out b6)
     have R6 := Lib.hid r6
     have OM6 := Lib.hid om6
     have OO6 := Lib.hid oo6
     have B6 := Lib.hid b6w
     clear hw6 b6 y6 r6 om6 oo6 b6w x0 x1 x61 x63 hg9
     apply via_tailD
     apply Exists.intro
     apply And.intro
     rotate_left
     ·intro tail
      go_region_law (fail)
      all_goals with_reducible exact tail
     obtain ⟨W8, hW8⟩ : ∃ W8, W8 = (w6.setCells g4 0 [.int .i64 0, .int .i64 rn, .slice oa on oc, .int .i64 n]).drew := ⟨_, rfl⟩
     change Exit.then _ _ _ _ ((w6.setCells g4 0 [.int .i64 0, .int .i64 rn, .slice oa on oc, .int .i64 n]).drew)
     rw [← hW8]
     have hg := grown_setCells g4 [.int .i64 0, .int .i64 rn, .slice oa on oc, .int .i64 n] 0 w6
     have r8 : Bk W8 g4 41 #[.int .i64 0, .int .i64 rn, .slice oa on oc, .int .i64 n] := by rw [hW8]; exact bk_drew (bk_set4 R6.out _ _ _ _)
     have om8 : Own W8 w.heap.size 68 (.slice xa xn xc) X.mem := by rw [hW8]; exact (OM6.out.kept hg (.inr (own_not_bk OM6.out R6.out (by decide)))).drew
     have oo8 : Own W8 w.heap.size 3 (.slice oa on oc) X.out := by rw [hW8]; exact (OO6.out.kept hg (.inr (own_not_bk OO6.out R6.out (by decide)))).drew
     have b8 : Below w.heap.size w W8 := by rw [hW8]; exact ext_drew (B6.out.grown hg B6.out.size (fun i e => by injection e with e; omega))
     clear hW8 hg y0 y1 y2 y3 yL r0_ r1_ r2_ r3_ rL rF x61' xL' R6 OM6 OO6 B6
     have R8 := Lib.hid r8
     have OM8 := Lib.hid om8
     have OO8 := Lib.hid oo8
     have B8 := Lib.hid b8
     clear r8 om8 oo8 b8
     go_wp2
     refine bodyPost_ret (results_rowE (g := g4) (t := 41) (cs := #[.int .i64 0, .int .i64 rn, .slice oa on oc, .int .i64 n]) (fr := (0, 0)) rfl _ _ _ rfl R8.out Tryz.underlying41 rfl (by kernel_rfl)) rfl ?_
     rw [HD.out]
     exact ⟨_, _, rfl, OO8.out, OM8.out, B8.out⟩
    ·go_upto_region 13 with (fail)
     obtain ⟨w6, hw6⟩ : ∃ w6, w6 = w5.alloc (.cells #[.int .i64 0, .int .i64 0, .slice oa on oc, .int .i64 n] 41) := ⟨_, rfl⟩
     obtain ⟨g9, hg9⟩ : ∃ g9, w5.heap.size = g9 := ⟨_, rfl⟩
     try rw [hg9]
     rw [← hw6]
     have b6 : Below w5.heap.size w5 w6 := by rw [hw6]; exact ext_alloc (Below.refl _ _) _
     have y6 : Bk w6 g9 41 #[.int .i64 0, .int .i64 0, .slice oa on oc, .int .i64 n] := by rw [hw6, ← hg9]; exact bk_new _ _ _
     have r6 := bk_keep b6 R5.out
     have om6 := OM.out.below b6
     have oo6 := OO.out.below b6
     have x61' : w6.cell? ⟨g6, 61, none⟩ = some (.slice xa xn xc) := ((bk_keep b6 M5.out).cell 61).trans ((M5.out.cell 61).symm.trans x61)
     have xL' := (bk_keep b6 M5.out).lt
     obtain ⟨y0, y1, y2, y3⟩ := cellsM4 y6
     have yL := y6.lt
     obtain ⟨r0_, r1_, r2_, r3_⟩ := cellsM4 r6
     have rL := r6.lt
     have rF := fun i => r6.frozen i
     have b6w := ext_trans H1W.out (ext_trans B5.out b6)
     have R6 := Lib.hid r6
     have OM6 := Lib.hid om6
     have OO6 := Lib.hid oo6
     have B6 := Lib.hid b6w
     clear hw6 b6 y6 r6 om6 oo6 b6w x0 x1 x61 x63 hg9
     apply via_tailD
     apply Exists.intro
     apply And.intro
     rotate_left
     ·intro tail
      go_region_law (fail)
      all_goals with_reducible exact tail
     obtain ⟨W8, hW8⟩ : ∃ W8, W8 = (w6.setCells g4 0 [.int .i64 0, .int .i64 0, .slice oa on oc, .int .i64 n]).drew := ⟨_, rfl⟩
     change Exit.then _ _ _ _ ((w6.setCells g4 0 [.int .i64 0, .int .i64 0, .slice oa on oc, .int .i64 n]).drew)
     rw [← hW8]
     have hg := grown_setCells g4 [.int .i64 0, .int .i64 0, .slice oa on oc, .int .i64 n] 0 w6
     have r8 : Bk W8 g4 41 #[.int .i64 0, .int .i64 0, .slice oa on oc, .int .i64 n] := by rw [hW8]; exact bk_drew (bk_set4 R6.out _ _ _ _)
     have om8 : Own W8 w.heap.size 68 (.slice xa xn xc) X.mem := by rw [hW8]; exact (OM6.out.kept hg (.inr (own_not_bk OM6.out R6.out (by decide)))).drew
     have oo8 : Own W8 w.heap.size 3 (.slice oa on oc) X.out := by rw [hW8]; exact (OO6.out.kept hg (.inr (own_not_bk OO6.out R6.out (by decide)))).drew
     have b8 : Below w.heap.size w W8 := by rw [hW8]; exact ext_drew (B6.out.grown hg B6.out.size (fun i e => by injection e with e; omega))
     clear hW8 hg y0 y1 y2 y3 yL r0_ r1_ r2_ r3_ rL rF x61' xL' R6 OM6 OO6 B6
     have R8 := Lib.hid r8
     have OM8 := Lib.hid om8
     have OO8 := Lib.hid oo8
     have B8 := Lib.hid b8
     clear r8 om8 oo8 b8
     go_wp2
     refine bodyPost_ret (results_rowE (g := g4) (t := 41) (cs := #[.int .i64 0, .int .i64 0, .slice oa on oc, .int .i64 n]) (fr := (0, 0)) rfl _ _ _ rfl R8.out Tryz.underlying41 rfl (by kernel_rfl)) rfl ?_
     rw [HD.out]
     exact ⟨_, _, rfl, OO8.out, OM8.out, B8.out⟩
   ·have q2 : (er == 16) = false := by simpa using h16
    have hdd : doX M (X, n, er) = (⟨er, if rb then 0 else rn, X.out, n⟩, X.mem) := by
     unfold doX runD
     rw [if_neg h1]
     simp only
     rw [if_neg h16, hrb, hrn]
    have HD := Lib.hid hdd
    clear hdd h16 h1 hrb hrn
    cases rb
    ·go_upto_region 13 with (fail)
     obtain ⟨w6, hw6⟩ : ∃ w6, w6 = w5.alloc (.cells #[.int .i64 er, .int .i64 rn, .slice oa on oc, .int .i64 n] 41) := ⟨_, rfl⟩
     obtain ⟨g9, hg9⟩ : ∃ g9, w5.heap.size = g9 := ⟨_, rfl⟩
     try rw [hg9]
     rw [← hw6]
     have b6 : Below w5.heap.size w5 w6 := by rw [hw6]; exact ext_alloc (Below.refl _ _) _
     have y6 : Bk w6 g9 41 #[.int .i64 er, .int .i64 rn, .slice oa on oc, .int .i64 n] := by rw [hw6, ← hg9]; exact bk_new _ _ _
     have r6 := bk_keep b6 R5.out
     have om6 := OM.out.below b6
     have oo6 := OO.out.below b6
     have x61' : w6.cell? ⟨g6, 61, none⟩ = some (.slice xa xn xc) := ((bk_keep b6 M5.out).cell 61).trans ((M5.out.cell 61).symm.trans x61)
     have xL' := (bk_keep b6 M5.out).lt
     obtain ⟨y0, y1, y2, y3⟩ := cellsM4 y6
     have yL := y6.lt
     obtain ⟨r0_, r1_, r2_, r3_⟩ := cellsM4 r6
     have rL := r6.lt
     have rF := fun i => r6.frozen i
     have b6w := ext_trans H1W.out (ext_trans B5.out b6)
     have R6 := Lib.hid r6
     have OM6 := Lib.hid om6
     have OO6 := Lib.hid oo6
     have B6 := Lib.hid b6w
     clear hw6 b6 y6 r6 om6 oo6 b6w x0 x1 x61 x63 hg9
     apply via_tailD
     apply Exists.intro
     apply And.intro
     rotate_left
     ·intro tail
      go_region_law (fail)
      all_goals with_reducible exact tail
     obtain ⟨W8, hW8⟩ : ∃ W8, W8 = (w6.setCells g4 0 [.int .i64 er, .int .i64 rn, .slice oa on oc, .int .i64 n]).drew := ⟨_, rfl⟩
     change Exit.then _ _ _ _ ((w6.setCells g4 0 [.int .i64 er, .int .i64 rn, .slice oa on oc, .int .i64 n]).drew)
     rw [← hW8]
     have hg := grown_setCells g4 [.int .i64 er, .int .i64 rn, .slice oa on oc, .int .i64 n] 0 w6
     have r8 : Bk W8 g4 41 #[.int .i64 er, .int .i64 rn, .slice oa on oc, .int .i64 n] := by rw [hW8]; exact bk_drew (bk_set4 R6.out _ _ _ _)
     have om8 : Own W8 w.heap.size 68 (.slice xa xn xc) X.mem := by rw [hW8]; exact (OM6.out.kept hg (.inr (own_not_bk OM6.out R6.out (by decide)))).drew
     have oo8 : Own W8 w.heap.size 3 (.slice oa on oc) X.out := by rw [hW8]; exact (OO6.out.kept hg (.inr (own_not_bk OO6.out R6.out (by decide)))).drew
     have b8 : Below w.heap.size w W8 := by rw [hW8]; exact ext_drew (B6.out.grown hg B6.out.size (fun i e => by injection e with e; omega))
     clear hW8 hg y0 y1 y2 y3 yL r0_ r1_ r2_ r3_ rL rF x61' xL' R6 OM6 OO6 B6
     have R8 := Lib.hid r8
     have OM8 := Lib.hid om8
     have OO8 := Lib.hid oo8
     have B8 := Lib.hid b8
     clear r8 om8 oo8 b8
     go_wp2
     refine bodyPost_ret (results_rowE (g := g4) (t := 41) (cs := #[.int .i64 er, .int .i64 rn, .slice oa on oc, .int .i64 n]) (fr := (0, 0)) rfl _ _ _ rfl R8.out Tryz.underlying41 rfl (by kernel_rfl)) rfl ?_
     rw [HD.out]
     exact ⟨_, _, rfl, OO8.out, OM8.out, B8.out⟩
    ·go_upto_region 13 with (fail)
     obtain ⟨w6, hw6⟩ : ∃ w6, w6 = w5.alloc (.cells #[.int .i64 er, .int .i64 0, .slice oa on oc, .int .i64 n] 41) := ⟨_, rfl⟩
     obtain ⟨g9, hg9⟩ : ∃ g9, w5.heap.size = g9 := ⟨_, rfl⟩
     try rw [hg9]
     rw [← hw6]
     have b6 : Below w5.heap.size w5 w6 := by rw [hw6]; exact ext_alloc (Below.refl _ _) _
     have y6 : Bk w6 g9 41 #[.int .i64 er, .int .i64 0, .slice oa on oc, .int .i64 n] := by rw [hw6, ← hg9]; exact bk_new _ _ _
     have r6 := bk_keep b6 R5.out
     have om6 := OM.out.below b6
     have oo6 := OO.out.below b6
     have x61' : w6.cell? ⟨g6, 61, none⟩ = some (.slice xa xn xc) := ((bk_keep b6 M5.out).cell 61).trans ((M5.out.cell 61).symm.trans x61)
     have xL' := (bk_keep b6 M5.out).lt
     obtain ⟨y0, y1, y2, y3⟩ := cellsM4 y6
     have yL := y6.lt
     obtain ⟨r0_, r1_, r2_, r3_⟩ := cellsM4 r6
     have rL := r6.lt
     have rF := fun i => r6.frozen i
     have b6w := ext_trans H1W.out (ext_trans B5.out b6)
     have R6 := Lib.hid r6
     have OM6 := Lib.hid om6
     have OO6 := Lib.hid oo6
     have B6 := Lib.hid b6w
     clear hw6 b6 y6 r6 om6 oo6 b6w x0 x1 x61 x63 hg9
     apply via_tailD
     apply Exists.intro
     apply And.intro
     rotate_left
     ·intro tail
      go_region_law (fail)
      all_goals with_reducible exact tail
     obtain ⟨W8, hW8⟩ : ∃ W8, W8 = (w6.setCells g4 0 [.int .i64 er, .int .i64 0, .slice oa on oc, .int .i64 n]).drew := ⟨_, rfl⟩
     change Exit.then _ _ _ _ ((w6.setCells g4 0 [.int .i64 er, .int .i64 0, .slice oa on oc, .int .i64 n]).drew)
     rw [← hW8]
     have hg := grown_setCells g4 [.int .i64 er, .int .i64 0, .slice oa on oc, .int .i64 n] 0 w6
     have r8 : Bk W8 g4 41 #[.int .i64 er, .int .i64 0, .slice oa on oc, .int .i64 n] := by rw [hW8]; exact bk_drew (bk_set4 R6.out _ _ _ _)
     have om8 : Own W8 w.heap.size 68 (.slice xa xn xc) X.mem := by rw [hW8]; exact (OM6.out.kept hg (.inr (own_not_bk OM6.out R6.out (by decide)))).drew
     have oo8 : Own W8 w.heap.size 3 (.slice oa on oc) X.out := by rw [hW8]; exact (OO6.out.kept hg (.inr (own_not_bk OO6.out R6.out (by decide)))).drew
     have b8 : Below w.heap.size w W8 := by rw [hW8]; exact ext_drew (B6.out.grown hg B6.out.size (fun i e => by injection e with e; omega))
     clear hW8 hg y0 y1 y2 y3 yL r0_ r1_ r2_ r3_ rL rF x61' xL' R6 OM6 OO6 B6
     have R8 := Lib.hid r8
     have OM8 := Lib.hid om8
     have OO8 := Lib.hid oo8
     have B8 := Lib.hid b8
     clear r8 om8 oo8 b8
     go_wp2
     refine bodyPost_ret (results_rowE (g := g4) (t := 41) (cs := #[.int .i64 er, .int .i64 0, .slice oa on oc, .int .i64 n]) (fr := (0, 0)) rfl _ _ _ rfl R8.out Tryz.underlying41 rfl (by kernel_rfl)) rfl ?_
     rw [HD.out]
     exact ⟨_, _, rfl, OO8.out, OM8.out, B8.out⟩
 ·have hd : doF M E s args F = (⟨enterE E s args, 0, [], 0⟩, M) := by unfold doF; rw [if_pos hee]
  rw [hd]
  obtain ⟨ee, hE⟩ : ∃ ee, enterE E s args = ee := ⟨_, rfl⟩
  have en2 : Calls Tryz.prog 28 #[.agg #[.slice ma mn mc, .slice pa pn pc, .slice ea en ec], .string s, .slice aa an ac] w1 fun e w2 => e = .returned (.tuple #[.agg zmc, .int .i64 ee]) ∧ Below w1.heap.size w1 w2 := by
   refine en'.mono ?_
   rintro e w2 (⟨_, h, hb⟩ | ⟨h, _⟩)
   ·exact ⟨by rw [h, hE], hb⟩
   ·exact absurd h hee
  rw [hE] at hee
  rw [hE]
  have q1 : (ee != 0) = true := by simpa using hee
  have EN := Lib.hid en2
  clear en' en2 hd
  go_enter Tryz.func17, Tryz.ntmps17
  go_upto_region 1 with (fail)
  rw [← HW1.out]
  try rw [HG4.out]
  try rw [HG3.out]
  try rw [HG2.out]
  go_upto_region 2 with (first
   | (go_at_call 28; ((with_reducible refine (EN.out).mono ?_); rintro e w2 ⟨rfl, hb2⟩; have HB2 := Lib.hid hb2; clear hb2))
   | (refine wpList_store_fresh rfl 72 (.tmp 6) (.tmp 17) rfl rfl zmc 72 _ rfl (by first | rfl | kernel_rfl) (by kernel_rfl) (by kernel_rfl) (by kernel_rfl) ?_))
  obtain ⟨w5, hw5⟩ : ∃ w5, w5 = w2.alloc (.cells zmc 72) := ⟨_, rfl⟩
  rw [← hw5]
  have b14 : Below w1.heap.size w1 w5 := by rw [hw5]; exact ext_alloc HB2.out _
  have cl := clone_val ma mn mc M w5 (HM.out.below (ext_trans H1W.out b14)) (by omega)
  have CL := Lib.hid cl
  have B5 := Lib.hid b14
  clear c0 c1 c2 bL k0 k1 k2 kL hw5 cl b14 HB2 EN HW1
  obtain ⟨c0, c1, c2⟩ := cells3 (bk_keep B5.out B1.out)
  have bL := (bk_keep B5.out B1.out).lt
  go_upto_region 3 with (fail)
  go_wp2_with (first
   | (go_at_call 53; ((with_reducible refine (CL.out).mono ?_); rintro e w7 ⟨v, rfl, ho, hb7⟩; obtain ⟨ca, cn, cc, rfl⟩ := own_shape ho; have HO7 := Lib.hid ho; have HB7 := Lib.hid hb7; have R4 := Lib.hid (bk_keep (ext_trans B5.out hb7) R1.out); have rL := R4.out.lt; clear ho hb7))
   | (refine wpList_store_rowTo rfl 41 (.tmp 4) (.tmp 22) rfl rfl g4 (#[.int .i64 ee, .int .i64 0, .slice none 0 0, .int .i64 0]) rfl (by first | rfl | kernel_rfl) 41 _ R4.out (by kernel_rfl) (by kernel_rfl) (by first | rfl | kernel_rfl) ?_))
  refine bodyPost_ret (results_rowE (g := g4) (t := 41) (cs := (#[.int .i64 ee, .int .i64 0, .slice none 0 0, .int .i64 0])) (fr := (0, 0)) rfl _ _ _ rfl (bk_setRowE R4.out _) Tryz.underlying41 rfl (by kernel_rfl)) rfl ?_
  have hs5 := B5.out.size
  have hs0 := H1W.out.size
  exact ⟨_, _, rfl, Own.nil _ _ _, own_setRow (HO7.out.mono (by omega)) R4.out (by decide) _, below_setRow (ext_trans H1W.out (ext_trans B5.out HB7.out)) hgw _⟩
end Go.Proofs.YtpjhjefjbkjhkaaGreatDoor
