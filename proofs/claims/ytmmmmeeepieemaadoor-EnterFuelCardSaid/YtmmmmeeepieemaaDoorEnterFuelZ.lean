import Derived.Test.YtmmmmeeepieemaaDoorBuG
import Derived.Test.YtmmmmeeepieemaaDoorDoZ
import Derived.Test.YtmmmmeeepieemaaDoorDoneEqZ
import Derived.Test.YtmmmmeeepieemaaDoorLiftJobsZ
import Derived.Test.YtmmmmeeepieemaaDoorLinkTwoZ
import Derived.Test.YtmmmmeeepieemaaDoorLinkedZ
/- The walk of EnterFuel. -/
namespace Go.Proofs.YtmmmmeeepieemaaDoor
open Go Go.RowKit Go.Shelf
set_option linter.unusedVariables false
set_option linter.unusedSimpArgs false
theorem own_sl' {α : Type} [El α] {w : World} {base : Nat} {T : TypeId} {ao : Option Addr} {n c : Nat} {xs : List α} (h : Own w base T (.slice ao n c) xs) : Sl w ao n xs := by
  obtain ⟨a', c', e, hs, _⟩ := h.sl
  injection e with e1 e2 e3
  subst e1 e2
  exact hs
theorem own_ln {α : Type} [El α] {w : World} {base : Nat} {T : TypeId} {ao : Option Addr} {n c : Nat} {xs : List α} (h : Own w base T (.slice ao n c) xs) : n = xs.length := (own_sl' h).len.symm
set_option maxHeartbeats 8000000 in
set_option maxRecDepth 100000 in
theorem fuel_bad (x : ModsA) (j : JobA) (more : Int) (w : World) (hx : x.ok w) (hj : j.ok w) (hmo : I64 more) (hT : Tab w) (hno : ¬ LinkOk isNameB x.ms) : Calls Tryd.prog 5 #[x.val, j.val, .int .i64 more] w fun e w' => e = .returned (.bool true) ∧ Below w.heap.size w w' := by
  obtain ⟨ao, N, c0, rs, ms⟩ := x
  obtain ⟨hm, hle⟩ := hx
  obtain ⟨⟨s0, ⟨aa, an, ac⟩, F0⟩, ⟨s, args, F⟩⟩ := j
  obtain ⟨e1, e2, ha, hac, hai, hF⟩ := hj
  simp only at e1 e2 ha hac hai hF
  subst e1 e2
  simp only [ModsA.val, JobA.val] at *
  have hn := hm.n
  have hmx := hm.sl.max
  unfold maxLen at hmx
  obtain ⟨w1, hw1⟩ : ∃ w1, w1 = w.alloc (.cells #[.string s, .slice aa an ac, .int .i64 F] 51) := ⟨_, rfl⟩
  have b1 : Below w.heap.size w w1 := by rw [hw1]; exact ext_alloc (Below.refl _ _) _
  have j1 : Bk w1 w.heap.size 51 #[.string s, .slice aa an ac, .int .i64 F] := by rw [hw1]; exact bk_new _ _ _
  have lk := link_bad ao N c0 rs ms w1 (hm.below b1) hno
  obtain ⟨g4, hg4⟩ : ∃ g, g = w.heap.size := ⟨_, rfl⟩
  rw [← hg4] at j1
  have LK := Lib.hid lk
  have HW1 := Lib.hid hw1
  have HG4 := Lib.hid hg4
  have B1 := Lib.hid b1
  have J1 := Lib.hid j1
  have HA := Lib.hid ha
  have HAI := Lib.hid hai
  have HT := Lib.hid hT
  clear lk hm hw1 hg4 b1 j1 ha hai hT
  go_enter Tryd.func5, Tryd.ntmps5
  go_upto_region 1 with (fail)
  try rw [← HG4.out]
  rw [← HW1.out]
  clear HW1
  go_upto_region 2 with (go_at_call 16; ((with_reducible refine (LK.out).mono ?_); rintro e w2 ⟨er, her, rfl, hb2⟩; have HB2 := Lib.hid hb2; clear hb2))
  have q1 : (er != 0) = true := by simpa using her
  obtain ⟨w3, hw3⟩ : ∃ w3, w3 = w2.alloc (.cells #[.slice none 0 0, .slice none 0 0, .slice none 0 0] 55) := ⟨_, rfl⟩
  rw [← hw3]
  have b13 : Below w1.heap.size w1 w3 := by rw [hw3]; exact ext_alloc HB2.out _
  have i3 : Bk w3 w2.heap.size 55 #[.slice none 0 0, .slice none 0 0, .slice none 0 0] := by rw [hw3]; exact bk_new _ _ _
  have B3 := Lib.hid b13
  have I3 := Lib.hid i3
  clear hw3 b13 i3
  go_upto_region 4 with (go_at_call 17; ((with_reducible refine (linked_any _).mono ?_); rintro e w4 ⟨rfl, hb4⟩; have HB4 := Lib.hid hb4; clear hb4))
  obtain ⟨i0, i1, i2⟩ := cells3 (bk_keep HB4.out I3.out)
  have iL := (bk_keep HB4.out I3.out).lt
  obtain ⟨k0, k1, k2⟩ := cells3 (bk_keep (ext_trans B3.out HB4.out) J1.out)
  have kL := (bk_keep (ext_trans B3.out HB4.out) J1.out).lt
  have b04 := ext_trans B1.out (ext_trans B3.out HB4.out)
  have dd := do_any none none none aa 0 0 0 0 0 0 an ac [] [] s args F w4 (Sl.nil _ _) (Sl.nil _ _) (HA.out.below b04) im_none HAI.out (HT.out.below b04)
  generalize doF [] [] s args F = D at dd
  obtain ⟨⟨de, dn, dout, df⟩, M2⟩ := D
  unfold DoRes at dd
  have DO := Lib.hid dd
  have B04 := Lib.hid b04
  clear dd b04
  go_upto_region 5 with (go_at_call 18; ((with_reducible refine (DO.out).mono ?_); rintro e w5 ⟨vo, vm, rfl, oo, ox, hb⟩; obtain ⟨oa5, on5, oc5, rfl⟩ := own_shape oo; obtain ⟨xa5, xn5, xc5, rfl⟩ := own_shape ox; have OO5 := Lib.hid oo; have OX5 := Lib.hid ox; have HB5 := Lib.hid hb; clear oo ox hb))
  obtain ⟨w6, hw6⟩ : ∃ w6, w6 = w5.alloc (.cells #[.int .i64 de, .int .i64 dn, .slice oa5 on5 oc5, .int .i64 df] 59) := ⟨_, rfl⟩
  rw [← hw6]
  have HB6 := Lib.hid (show Below w.heap.size w w6 by rw [hw6]; exact ext_alloc (ext_trans B04.out HB5.out) _)
  clear hw6 i0 i1 i2 iL k0 k1 k2 kL
  go_wp2
  go_ret
  exact ⟨rfl, HB6.out⟩
set_option maxHeartbeats 16000000 in
set_option maxRecDepth 100000 in
theorem fuel_good (x : ModsA) (j : JobA) (more : Int) (w : World) (hx : x.ok w) (hj : j.ok w) (hmo : I64 more) (hT : Tab w) (hok : LinkOk isNameB x.ms) : Calls Tryd.prog 5 #[x.val, j.val, .int .i64 more] w fun e w' => e = .returned (.bool true) ∧ Below w.heap.size w w' := by
  obtain ⟨ao, N, c0, rs, ms⟩ := x
  obtain ⟨hm, hle⟩ := hx
  obtain ⟨⟨s0, ⟨aa, an, ac⟩, F0⟩, ⟨s, args, F⟩⟩ := j
  obtain ⟨e1, e2, ha, hac, hai, hF⟩ := hj
  simp only at e1 e2 ha hac hai hF
  subst e1 e2
  simp only [ModsA.val, JobA.val] at *
  have hn := hm.n
  have hmx := hm.sl.max
  unfold maxLen at hmx
  obtain ⟨w1, hw1⟩ : ∃ w1, w1 = w.alloc (.cells #[.string s, .slice aa an ac, .int .i64 F] 51) := ⟨_, rfl⟩
  have b1 : Below w.heap.size w w1 := by rw [hw1]; exact ext_alloc (Below.refl _ _) _
  have j1 : Bk w1 w.heap.size 51 #[.string s, .slice aa an ac, .int .i64 F] := by rw [hw1]; exact bk_new _ _ _
  have lk := link_good ao N c0 rs ms w1 (hm.below b1) hok
  unfold LinkRes at lk
  have hio := hok.im_ok
  generalize linkMem ms = M at *
  generalize placesF 0 0 ms = P at *
  generalize entriesF 0 0 ms = E at *
  obtain ⟨g4, hg4⟩ : ∃ g, g = w.heap.size := ⟨_, rfl⟩
  rw [← hg4] at j1
  have hgw : w.heap.size ≤ g4 := by omega
  have dod := fun (ma pa ea : Option Addr) (mn mc pn pc en ec : Nat) (f : Int) (W : World) (om : Own W w.heap.size 32 (.slice ma mn mc) M) (oe : Own W w.heap.size 104 (.slice ea en ec) E) (hb : Below w.heap.size w W) => do_any ma pa ea aa mn mc pn pc en ec an ac M E s args f W (own_sl' om) (own_sl' oe) (ha.below hb) hio hai (hT.below hb)
  have hfu := fun (hF : 0 ≤ F ∧ F ≤ 5000) => do_fuel (M := M) (E := E) (s := s) (args := args) (f := F.toNat) (by omega)
  have LK := Lib.hid lk
  have HW1 := Lib.hid hw1
  have HG4 := Lib.hid hg4
  have B1 := Lib.hid b1
  have J1 := Lib.hid j1
  have DOD := Lib.hid dod
  have HFU := Lib.hid hfu
  clear lk hm hw1 hg4 b1 j1 ha hai hT hio dod hfu hok
  go_enter Tryd.func5, Tryd.ntmps5
  go_upto_region 1 with (fail)
  try rw [← HG4.out]
  rw [← HW1.out]
  clear HW1
  go_upto_region 2 with (go_at_call 16; ((with_reducible refine (LK.out).mono ?_); rintro e w2 ⟨vm, vp, ve, rfl, om, op, oe, hb2⟩; obtain ⟨ma, mn, mc, rfl⟩ := own_shape om; obtain ⟨pa, pn, pc, rfl⟩ := own_shape op; obtain ⟨ea, en, ec, rfl⟩ := own_shape oe; have OM2 := Lib.hid om; have OE2 := Lib.hid oe; have HB2 := Lib.hid hb2; clear om op oe hb2))
  obtain ⟨w3, hw3⟩ : ∃ w3, w3 = w2.alloc (.cells #[.slice ma mn mc, .slice pa pn pc, .slice ea en ec] 55) := ⟨_, rfl⟩
  rw [← hw3]
  obtain ⟨gi, hgi⟩ : ∃ g, w2.heap.size = g := ⟨_, rfl⟩
  try rw [hgi]
  have b23 : Below w2.heap.size w2 w3 := by rw [hw3]; exact ext_alloc (Below.refl _ _) _
  have i3 : Bk w3 gi 55 #[.slice ma mn mc, .slice pa pn pc, .slice ea en ec] := by rw [hw3, ← hgi]; exact bk_new _ _ _
  have hs1 := B1.out.size
  have hs2 := HB2.out.size
  have j1L := J1.out.lt
  have hgi4 : gi ≠ g4 := by omega
  have B13 := Lib.hid (ext_trans HB2.out b23)
  have I3 := Lib.hid i3
  have OM3 := Lib.hid ((OM2.out.below b23).mono hs1)
  have OE3 := Lib.hid ((OE2.out.below b23).mono hs1)
  clear hw3 b23 i3 hgi OM2 OE2
  go_upto_region 4 with (go_at_call 17; ((with_reducible refine (linked_any _).mono ?_); rintro e w4 ⟨rfl, hb4⟩; have HB4 := Lib.hid hb4; clear hb4))
  have b14 := ext_trans B13.out HB4.out
  obtain ⟨i0, i1, i2⟩ := cells3 (bk_keep HB4.out I3.out)
  have iL := (bk_keep HB4.out I3.out).lt
  obtain ⟨k0, k1, k2⟩ := cells3 (bk_keep b14 J1.out)
  have kL := (bk_keep b14 J1.out).lt
  have B04 := Lib.hid (ext_trans B1.out b14)
  have OM4 := Lib.hid (OM3.out.below HB4.out)
  have OE4 := Lib.hid (OE3.out.below HB4.out)
  have dd := DOD.out ma pa ea mn mc pn pc en ec F w4 OM4.out OE4.out B04.out
  have hfu := fun hF => HFU.out hF
  have hFn : (0 ≤ F ∧ F ≤ 5000) → ((F.toNat : Nat) : Int) = F := fun h => by omega
  obtain ⟨D, hD⟩ : ∃ D, doF M E s args F = D := ⟨_, rfl⟩
  obtain ⟨⟨de, dn, dout, df⟩, M2⟩ := D
  rw [hD] at dd
  have hfu2 : 0 ≤ F ∧ F ≤ 5000 → de ≠ 15 → 0 ≤ df ∧ df ≤ 5000 ∧ (∀ k : Nat, df + 1 + k ≤ 5000 → doF M E s args (df + 1 + k) = (⟨de, dn, dout, df⟩, M2)) ∧ ∃ ye yn yout yf M3, doF M E s args df = (⟨ye, yn, yout, yf⟩, M3) ∧ ((ye = 15 ∧ yf = df) ∨ (ye ≠ 15 ∧ df = 0 ∧ ye = de)) := by
    intro hF h15
    have h := HFU.out hF
    rw [hFn hF, hD] at h
    obtain ⟨h1, h2, h3, h4⟩ := h h15
    simp only at h1 h2 h3 h4
    obtain ⟨Y, hY⟩ : ∃ Y, doF M E s args df = Y := ⟨_, rfl⟩
    rw [hY] at h4
    obtain ⟨⟨ye, yn, yout, yf⟩, M3⟩ := Y
    exact ⟨h1, h2, h3, ye, yn, yout, yf, M3, hY, h4⟩
  unfold DoRes at dd
  have DO := Lib.hid dd
  have HFU2 := Lib.hid hfu2
  clear dd b14 hfu hfu2 hD hFn HFU
  go_upto_region 5 with (go_at_call 18; ((with_reducible refine (DO.out).mono ?_); rintro e w5 ⟨vo, vm, rfl, oo, ox, hb⟩; obtain ⟨oa5, on5, oc5, rfl⟩ := own_shape oo; obtain ⟨xa5, xn5, xc5, rfl⟩ := own_shape ox; have OO5 := Lib.hid oo; have OX5 := Lib.hid ox; have HB5 := Lib.hid hb; clear oo ox hb))
  obtain ⟨w6, hw6⟩ : ∃ w6, w6 = w5.alloc (.cells #[.int .i64 de, .int .i64 dn, .slice oa5 on5 oc5, .int .i64 df] 59) := ⟨_, rfl⟩
  rw [← hw6]
  obtain ⟨g9, hg9⟩ : ∃ g, w5.heap.size = g := ⟨_, rfl⟩
  try rw [hg9]
  have b56 : Below w5.heap.size w5 w6 := by rw [hw6]; exact ext_alloc (Below.refl _ _) _
  have d6 : Bk w6 g9 59 #[.int .i64 de, .int .i64 dn, .slice oa5 on5 oc5, .int .i64 df] := by rw [hw6, ← hg9]; exact bk_new _ _ _
  have b46 := ext_trans HB5.out b56
  have hs4 := B04.out.size
  have hs5 := HB5.out.size
  have hg94 : g9 ≠ g4 := by have := HB4.out.size; have := B13.out.size; omega
  have I6 := Lib.hid (bk_keep (ext_trans HB4.out b46) I3.out)
  have J6 := Lib.hid (bk_keep (ext_trans B13.out (ext_trans HB4.out b46)) J1.out)
  have OM6 := Lib.hid (OM4.out.below b46)
  have OE6 := Lib.hid (OE4.out.below b46)
  have OO6 := Lib.hid ((OO5.out.below b56).mono hs4)
  have OX6 := Lib.hid ((OX5.out.below b56).mono hs4)
  have B6 := Lib.hid (ext_trans B04.out b46)
  have D6 := Lib.hid d6
  clear hw6 hg9 b56 d6 b46 i0 i1 i2 iL k0 k1 k2 kL OM3 OE3 OM4 OE4 OO5 OX5 I3 J1 B13 B04 HB4 HB5 DO
  obtain ⟨d0, d1, d2, d3⟩ := cellsM4 D6.out
  have dL := D6.out.lt
  obtain ⟨k0, k1, k2⟩ := cells3 J6.out
  have kL := J6.out.lt
  have kF := fun i => J6.out.frozen i
  have hnz : ((0 : Int) != 0) = false := by decide
  by_cases h15 : de = 15
  · have q15 : (de == 15) = true := by simp [h15]
    clear h15 HFU2
    go_wp2
    go_ret
    exact ⟨rfl, B6.out⟩
  have q15 : (de == 15) = false := by simp [h15]
  by_cases hF0 : F < 0
  · clear HFU2 h15
    go_wp2
    go_ret
    exact ⟨rfl, B6.out⟩
  by_cases hF5 : 5000 < F
  · clear HFU2 h15
    go_wp2
    go_ret
    exact ⟨rfl, B6.out⟩
  obtain ⟨hf0, hf1, hsame, ye, yn, yout, yf, M3, hY, hlast⟩ := HFU2.out ⟨by omega, by omega⟩ h15
  have rs := fun W => rest_any more 100 W (by decide) (by decide)
  have r0 : 0 ≤ more % 100 := Int.emod_nonneg _ (by decide)
  have r1 : more % 100 < 100 := Int.emod_lt_of_pos _ (by decide)
  obtain ⟨kk, hkk⟩ : ∃ k : Nat, (k : Int) = more % 100 := ⟨(more % 100).toNat, by omega⟩
  rw [← hkk] at rs r1
  have RS := Lib.hid rs
  have HSAME := Lib.hid (hsame kk)
  have HY := Lib.hid hY
  have HLAST := Lib.hid hlast
  clear rs r0 hkk hsame hY hlast h15 HFU2
  go_upto_region 7 with (fail)
  apply via_tailD
  apply Exists.intro
  apply And.intro
  rotate_left
  · intro tail
    go_region_law (go_simp; go_at_call 7; ((with_reducible refine (RS.out _).mono ?_); rintro e w' ⟨rfl, rfl⟩))
    all_goals with_reducible exact tail
  have wr1 : IntKind.i64.wrap (df + 1) = df + 1 := IntWalk.i64_in _ ⟨by omega, by omega⟩
  have wr2 : IntKind.i64.wrap (df + 1 + kk) = df + 1 + kk := IntWalk.i64_in _ ⟨by omega, by omega⟩
  rw [wr1, wr2]
  clear wr1 wr2
  obtain ⟨w7, hw7⟩ : ∃ w7, w7 = (w6.setCell ⟨g4, 2, none⟩ (.int .i64 (df + 1 + kk))).drew := ⟨_, rfl⟩
  rw [← hw7]
  clear d0 d1 d2 d3 dL k0 k1 k2 kL kF
  have j7 : Bk w7 g4 51 #[.string s, .slice aa an ac, .int .i64 (df + 1 + kk)] := by rw [hw7]; exact bk_drew (bk_set' J6.out rfl)
  have i7 : Bk w7 gi 55 #[.slice ma mn mc, .slice pa pn pc, .slice ea en ec] := by rw [hw7]; exact bk_drew (bk_cell I6.out hgi4 _ _)
  have d7 : Bk w7 g9 59 #[.int .i64 de, .int .i64 dn, .slice oa5 on5 oc5, .int .i64 df] := by rw [hw7]; exact bk_drew (bk_cell D6.out hg94 _ _)
  have om7 : Own w7 w.heap.size 32 (.slice ma mn mc) M := by rw [hw7]; exact (own_cell OM6.out J6.out (by decide) _ _).drew
  have oe7 : Own w7 w.heap.size 104 (.slice ea en ec) E := by rw [hw7]; exact (own_cell OE6.out J6.out (by decide) _ _).drew
  have oo7 : Own w7 w.heap.size 3 (.slice oa5 on5 oc5) dout := by rw [hw7]; exact (own_cell OO6.out J6.out (by decide) _ _).drew
  have ox7 : Own w7 w.heap.size 32 (.slice xa5 xn5 xc5) M2 := by rw [hw7]; exact (own_cell OX6.out J6.out (by decide) _ _).drew
  have b7 : Below w.heap.size w w7 := by rw [hw7]; exact ext_drew (B6.out.grown (grown_setCell w6 g4 2 _) B6.out.size (fun i e => by injection e with e; omega))
  have J7 := Lib.hid j7
  have I7 := Lib.hid i7
  have D7 := Lib.hid d7
  have OM7 := Lib.hid om7
  have OE7 := Lib.hid oe7
  have OO7 := Lib.hid oo7
  have OX7 := Lib.hid ox7
  have B7 := Lib.hid b7
  clear hw7 j7 i7 d7 om7 oe7 oo7 ox7 b7 J6 I6 D6 OM6 OE6 OO6 OX6 B6
  obtain ⟨k0, k1, k2⟩ := cells3 J7.out
  have kL := J7.out.lt
  by_cases hbig : 5000 < df + 1 + kk
  · go_wp2
    go_ret
    exact ⟨rfl, B7.out⟩
  have hsm := HSAME.out (by omega)
  obtain ⟨i0, i1, i2⟩ := cells3 I7.out
  have iL := I7.out.lt
  have dd := DOD.out ma pa ea mn mc pn pc en ec (df + 1 + kk) w7 OM7.out OE7.out B7.out
  rw [hsm] at dd
  unfold DoRes at dd
  have DO := Lib.hid dd
  clear dd hsm
  go_upto_region 11 with (go_at_call 18; ((with_reducible refine (DO.out).mono ?_); rintro e w8 ⟨vo, vm, rfl, oo, ox, hb⟩; obtain ⟨oa8, on8, oc8, rfl⟩ := own_shape oo; obtain ⟨xa8, xn8, xc8, rfl⟩ := own_shape ox; have OO8 := Lib.hid oo; have OX8 := Lib.hid ox; have HB8 := Lib.hid hb; clear oo ox hb))
  obtain ⟨w9, hw9⟩ : ∃ w9, w9 = w8.alloc (.cells #[.int .i64 de, .int .i64 dn, .slice oa8 on8 oc8, .int .i64 df] 59) := ⟨_, rfl⟩
  rw [← hw9]
  obtain ⟨g11, hg11⟩ : ∃ g, w8.heap.size = g := ⟨_, rfl⟩
  try rw [hg11]
  have b89 : Below w8.heap.size w8 w9 := by rw [hw9]; exact ext_alloc (Below.refl _ _) _
  have x9 : Bk w9 g11 59 #[.int .i64 de, .int .i64 dn, .slice oa8 on8 oc8, .int .i64 df] := by rw [hw9, ← hg11]; exact bk_new _ _ _
  have b79 := ext_trans HB8.out b89
  have hs7 := B7.out.size
  have J9 := Lib.hid (bk_keep b79 J7.out)
  have I9 := Lib.hid (bk_keep b79 I7.out)
  have D9 := Lib.hid (bk_keep b79 D7.out)
  have X9 := Lib.hid x9
  have OM9 := Lib.hid (OM7.out.below b79)
  have OE9 := Lib.hid (OE7.out.below b79)
  have OO9 := Lib.hid (OO7.out.below b79)
  have OX9 := Lib.hid (OX7.out.below b79)
  have PO9 := Lib.hid (OO8.out.below b89)
  have PX9 := Lib.hid (OX8.out.below b89)
  have B9 := Lib.hid (ext_trans B7.out b79)
  clear hw9 hg11 b89 x9 b79 k0 k1 k2 kL i0 i1 i2 iL J7 I7 D7 OM7 OE7 OO7 OX7 OO8 OX8 B7 HB8 DO
  obtain ⟨d0, d1, d2, d3⟩ := cellsM4 D9.out
  have dL := D9.out.lt
  obtain ⟨y0, y1, y2, y3⟩ := cellsM4 X9.out
  have yL := X9.out.lt
  have ln1 := own_ln OO9.out
  have ln2 := own_ln PO9.out
  have ln3 := own_ln OX9.out
  have ln4 := own_ln PX9.out
  have en1 : on8 = on5 := by omega
  subst en1
  have en2 : xn8 = xn5 := by omega
  subst en2
  have de' := doneeq_same de dn df oa8 oa5 on8 oc8 oc5 dout w9 (own_sl' PO9.out) (own_sl' OO9.out)
  have eqv := fun (W : World) (hb : Below w9.heap.size w9 W) => eq_val xa5 xa8 xn8 xn8 xc5 xc8 M2 M2 W ((own_sl' OX9.out).below hb) ((own_sl' PX9.out).below hb)
  simp only [decide_true] at eqv
  have DEQ := Lib.hid de'
  have EQV := Lib.hid eqv
  clear de' eqv ln1 ln2 ln3 ln4
  go_upto_region 13 with (first
    | (go_at_call 19; ((with_reducible refine (DEQ.out).mono ?_); rintro e w10 ⟨rfl, hb10⟩; have HB10 := Lib.hid hb10; clear hb10))
    | (go_at_call 20; ((with_reducible refine (EQV.out _ HB10.out).mono ?_); rintro e w11 ⟨rfl, hb11⟩; have HB11 := Lib.hid hb11; clear hb11)))
  have b911 := ext_trans HB10.out HB11.out
  have J11 := Lib.hid (bk_keep b911 J9.out)
  have I11 := Lib.hid (bk_keep b911 I9.out)
  have D11 := Lib.hid (bk_keep b911 D9.out)
  have OM11 := Lib.hid (OM9.out.below b911)
  have OE11 := Lib.hid (OE9.out.below b911)
  have B11 := Lib.hid (ext_trans B9.out b911)
  clear d0 d1 d2 d3 dL y0 y1 y2 y3 yL b911 J9 I9 D9 X9 OM9 OE9 OO9 OX9 PO9 PX9 B9 HB10 HB11 DEQ EQV
  obtain ⟨d0, d1, d2, d3⟩ := cellsM4 D11.out
  have dL := D11.out.lt
  obtain ⟨k0, k1, k2⟩ := cells3 J11.out
  have kL := J11.out.lt
  have kF := fun i => J11.out.frozen i
  go_upto_region 14 with (fail)
  obtain ⟨w12, hw12⟩ : ∃ w12, w12 = w11.setCell ⟨g4, 2, none⟩ (.int .i64 df) := ⟨_, rfl⟩
  rw [← hw12]
  clear d0 d1 d2 d3 dL k0 k1 k2 kL kF
  have j12 : Bk w12 g4 51 #[.string s, .slice aa an ac, .int .i64 df] := by rw [hw12]; exact bk_set' J11.out rfl
  have i12 : Bk w12 gi 55 #[.slice ma mn mc, .slice pa pn pc, .slice ea en ec] := by rw [hw12]; exact bk_cell I11.out hgi4 _ _
  have d12 : Bk w12 g9 59 #[.int .i64 de, .int .i64 dn, .slice oa5 on8 oc5, .int .i64 df] := by rw [hw12]; exact bk_cell D11.out hg94 _ _
  have om12 : Own w12 w.heap.size 32 (.slice ma mn mc) M := by rw [hw12]; exact own_cell OM11.out J11.out (by decide) _ _
  have oe12 : Own w12 w.heap.size 104 (.slice ea en ec) E := by rw [hw12]; exact own_cell OE11.out J11.out (by decide) _ _
  have b12 : Below w.heap.size w w12 := by rw [hw12]; exact B11.out.grown (grown_setCell w11 g4 2 _) B11.out.size (fun i e => by injection e with e; omega)
  obtain ⟨i0, i1, i2⟩ := cells3 i12
  have iL := i12.lt
  obtain ⟨k0, k1, k2⟩ := cells3 j12
  have kL := j12.lt
  have dd := DOD.out ma pa ea mn mc pn pc en ec df w12 om12 oe12 b12
  rw [HY.out] at dd
  unfold DoRes at dd
  have DO := Lib.hid dd
  have D12 := Lib.hid d12
  have B12 := Lib.hid b12
  clear dd hw12 j12 i12 d12 om12 oe12 b12 J11 I11 D11 OM11 OE11 B11 DOD
  go_upto_region 15 with (go_at_call 18; ((with_reducible refine (DO.out).mono ?_); rintro e w13 ⟨vo, vm, rfl, oo, ox, hb⟩; obtain ⟨oa13, on13, oc13, rfl⟩ := own_shape oo; obtain ⟨xa13, xn13, xc13, rfl⟩ := own_shape ox; have OO13 := Lib.hid oo; have OX13 := Lib.hid ox; have HB13 := Lib.hid hb; clear oo ox hb))
  obtain ⟨w14, hw14⟩ : ∃ w14, w14 = w13.alloc (.cells #[.int .i64 ye, .int .i64 yn, .slice oa13 on13 oc13, .int .i64 yf] 59) := ⟨_, rfl⟩
  rw [← hw14]
  obtain ⟨g13, hg13⟩ : ∃ g, w13.heap.size = g := ⟨_, rfl⟩
  try rw [hg13]
  have b14 : Below w13.heap.size w13 w14 := by rw [hw14]; exact ext_alloc (Below.refl _ _) _
  have y14 : Bk w14 g13 59 #[.int .i64 ye, .int .i64 yn, .slice oa13 on13 oc13, .int .i64 yf] := by rw [hw14, ← hg13]; exact bk_new _ _ _
  have b1214 := ext_trans HB13.out b14
  have d14 := bk_keep b1214 D12.out
  have B14 := Lib.hid (ext_trans B12.out b1214)
  clear hw14 hg13 b14 b1214 k0 k1 k2 kL i0 i1 i2 iL OO13 OX13 HB13 DO D12 B12
  obtain ⟨d0, d1, d2, d3⟩ := cellsM4 d14
  have dL := d14.lt
  obtain ⟨y0, y1, y2, y3⟩ := cellsM4 y14
  have yL := y14.lt
  rcases HLAST.out with ⟨h1, h2⟩ | ⟨h0, h1, h2⟩
  · subst h1 h2
    have q1 : (yf == yf) = true := by simp
    have q2 : ((15 : Int) == 15) = true := by decide
    clear d14 y14
    go_wp2
    go_ret
    exact ⟨rfl, B14.out⟩
  · subst h1 h2
    have q1 : (ye == 15) = false := by simp [h0]
    have q2 : (ye == ye) = true := by simp
    have q3 : ((0 : Int) == 0) = true := by decide
    clear d14 y14 h0
    go_wp2
    go_ret
    exact ⟨rfl, B14.out⟩
theorem enterFuel_walk {w : World} (x : ModsA) (j : JobA) (more : Int) (hx : x.ok w) (hj : j.ok w) (hmo : I64 more) (hT : Tab w) : Calls Tryd.prog 5 #[x.val, j.val, .int .i64 more] w fun e w' => e = .returned (.bool true) ∧ Below w.heap.size w w' := by
  by_cases h : LinkOk isNameB x.ms
  · exact fuel_good x j more w hx hj hmo hT h
  · exact fuel_bad x j more w hx hj hmo hT h
end Go.Proofs.YtmmmmeeepieemaaDoor
