import Derived.BigQuiet
import Derived.Deep.QuietTactic
import Derived.Test.YtpjhjefjbkjhkaaGreatDoorPk36
set_option maxHeartbeats 40000000
set_option maxRecDepth 100000
set_option linter.unusedVariables false
set_option linter.unusedSimpArgs false
namespace Go.Proofs.YtpjhjefjbkjhkaaGreatDoor
open El (cl)
open Go Go.RowKit Go.Shelf
def part (m : ModV) (t : Nat) : List Int := if t = 0 then [] else if t = 1 then m.code else m.code ++ m.data
def LinkRes (w : World) (ms : List ModV) (e : Ending) (w' : World) : Prop :=
 ∃ vm vp ve, e = .returned (.tuple #[.agg #[vm, vp, ve], .int .i64 0]) ∧ Own w' w.heap.size 68 vm (linkMem ms) ∧ Own w' w.heap.size 100 vp (placesF 0 0 ms) ∧ Own w' w.heap.size 103 ve (entriesF 0 0 ms) ∧ Below w.heap.size w w'
theorem link_good (ao : Option Addr) (n c : Nat) (rs : List ModR) (ms : List ModV) (w : World) (h : Mods w ao n rs ms) (hok : LinkOk isNameB ms) :
  Calls Tryz.prog 16 #[.slice ao n c] w (LinkRes w ms) := by
 have hn := h.n
 have hl8 := hok.l
 have htot := hok.t
 obtain ⟨w1, hw1⟩ : ∃ w1, w1 = w.alloc (.cells #[.slice none 0 0, .slice none 0 0, .slice none 0 0] 36) := ⟨_, rfl⟩
 have h1w : Below w.heap.size w w1 := by rw [hw1]; exact ext_alloc (Below.refl _ _) _
 have b1 : Bk w1 w.heap.size 36 #[.slice none 0 0, .slice none 0 0, .slice none 0 0] := by rw [hw1]; exact bk_new _ _ _
 have ck := linkcheck_any ao n c rs ms w1 (h.below h1w)
 have HOK := Lib.hid hok
 have HM := Lib.hid h
 have CK := Lib.hid ck
 have HW1 := Lib.hid hw1
 have H1W := Lib.hid h1w
 have B1 := Lib.hid b1
 clear ck hw1 h1w b1 h hok
 go_enter Tryz.func16, Tryz.ntmps16
 go_upto_region 1 with (fail)
 rw [← HW1.out]
 go_upto_region 2 with (go_at_call 51; ((with_reducible refine (CK.out).mono ?_); rintro e w2 ⟨er, rfl, her, hb2⟩; have HER := Lib.hid her; have HB2 := Lib.hid hb2; clear hb2 her))
 obtain rfl : er = 0 := HER.out.2 HOK.out
 clear CK HER HW1
 obtain ⟨gI, hgI⟩ : ∃ gI, w2.heap.size = gI := ⟨_, rfl⟩
 obtain ⟨w3, hw3⟩ : ∃ w3, w3 = w2.alloc (.cells #[.slice none 0 0, .slice none 0 0, .slice none 0 0] 36) := ⟨_, rfl⟩
 have b3 : Below w.heap.size w w3 := by rw [hw3]; exact ext_alloc (ext_trans H1W.out HB2.out) _
 have hI1 : w.heap.size < gI := by have h1 := H1W.out.size; have h2 := HB2.out.size; have h3 := B1.out.lt; omega
 have st3 : ImSt w.heap.size gI [] [] [] (.slice none 0 0) (.slice none 0 0) (.slice none 0 0) w3 := by
  rw [hw3, ← hgI]
  exact ⟨bk_new _ _ _, Own.nil _ _ _, Own.nil _ _ _, Own.nil _ _ _⟩
 have rr3 : Bk w3 w.heap.size 36 #[.slice none 0 0, .slice none 0 0, .slice none 0 0] := by rw [hw3]; exact bk_keep (ext_alloc (ext_trans HB2.out (Below.refl _ _)) _) B1.out
 have HW3 := Lib.hid hw3
 have HGI := Lib.hid hgI
 have B3 := Lib.hid b3
 have ST3 := Lib.hid st3
 have RR3 := Lib.hid rr3
 clear hw3 hgI b3 st3 rr3
 go_upto_region 5 with (fail)
 rw [← HW3.out, HGI.out]
 clear HW3 HGI HB2 H1W B1
 obtain ⟨p0, p1, pz0, pz1, pz2⟩ := info_parts info_placeL
 obtain ⟨m0, m1, mz0, mz1, mz2⟩ := info_parts info_valL
 obtain ⟨ee0, ee1, eez0, eez1, eez2⟩ := info_parts info_entryL
 go_wp2
 go_loopw [31] (fun i wr => ∃ (k : Nat) (vm vp ve : Value), k ≤ n ∧ i = .int .i64 k ∧ ImSt w.heap.size gI (mem0 (ms.take k)) (placesF 0 0 (ms.take k)) (entriesF 0 0 (ms.take k)) vm vp ve wr ∧ Bk wr w.heap.size 36 #[.slice none 0 0, .slice none 0 0, .slice none 0 0] ∧ Below w.heap.size w wr) (fun i _ => n - (intOf i).toNat)
 case atStart => exact ⟨0, _, _, _, Nat.zero_le _, rfl, ST3.out, RR3.out, B3.out⟩
 case round =>
  obtain ⟨k, vm, vp, ve, hk, rfl, hst, hrr, hb⟩ := hrel
  by_cases hlt : k < n
  ·have q0 : (0 : Int) ≤ k := by omega
   have q1 : (k : Int) < n := by omega
   obtain ⟨r, m, hr, hm, hhas⟩ := HM.out.get hlt
   obtain ⟨ad, hao, hab, e0, e1, e2, e3⟩ := sl_ModR (HM.out.sl.below hb) hlt hr
   subst hao
   obtain ⟨⟨ca, cn, cc⟩, ⟨da, dn, dc⟩, ⟨ea, en, ec⟩, ⟨ia, jn, ic⟩⟩ := r
   simp only at e0 e1 e2 e3
   have hmo := HOK.out.m m (List.mem_of_getElem? hm)
   have hcn := hhas.code.len
   have hdn := hhas.data.len
   have hen := hhas.ex.len
   simp only at hcn hdn hen
   have h120 := hmo.l1
   have h60 := hmo.l2
   have h20 := hmo.l3
   have hts := total_take_succ hm
   have htl := total_take_le ms (k + 1)
   have hml := mem0_len (ms.take k)
   have hpl := placesF_len (ms.take k) 0 0
   rw [List.length_take] at hpl
   obtain ⟨ma, mc, rfl, _, _⟩ := hst.m.sl
   have hmn : mem0 (ms.take (k + 1)) = mem0 (ms.take k) ++ m.cells.map ValV.num := by rw [List.take_add_one, hm]; exact mem0_snoc _ _
   have hpn : placesF 0 0 (ms.take (k + 1)) = placesF 0 0 (ms.take k) ++ [placeOf (total (ms.take k)) k m] := by
    rw [List.take_add_one, hm]
    refine (placesF_snoc _ _ _ _).trans ?_
    rw [List.length_take, Nat.min_eq_left (by omega), Nat.zero_add, Nat.zero_add]
   have hen2 : entriesF 0 0 (ms.take (k + 1)) = entriesF 0 0 (ms.take k) ++ m.ex.map (entryOf (total (ms.take k)) k m) := by
    rw [List.take_add_one, hm]
    refine (entriesF_snoc _ _ _ _).trans ?_
    rw [List.length_take, Nat.min_eq_left (by omega), Nat.zero_add, Nat.zero_add]
   have hel : (entriesF 0 0 (ms.take k)).length ≤ 160 := by
    have : ∀ (l : List ModV) (b n : Nat), (∀ m ∈ l, ModOk isNameB m) → (entriesF b n l).length ≤ l.length * 20 := by
     intro l
     induction l with
     | nil => intro b n _; exact Nat.le_refl _
     | cons x l ih =>
      intro b n h
      have h1 := ih (b + (x.code.length + x.data.length)) (n + 1) fun m hm => h m (List.mem_cons_of_mem _ hm)
      have h3 := (h x (by simp)).l3
      rw [entriesF, List.length_append, List.length_map, List.length_cons]
      omega
    have := this (ms.take k) 0 0 fun m hm => HOK.out.m m (List.mem_of_mem_take hm)
    rw [List.length_take] at this
    omega
   generalize mem0 (ms.take k) = M at *
   generalize placesF 0 0 (ms.take k) = P at *
   generalize entriesF 0 0 (ms.take k) = E at *
   generalize hT : total (ms.take k) = tk at *
   obtain ⟨w4, hw4⟩ : ∃ w4, w4 = wr.alloc (.cells #[.slice ca cn cc, .slice da dn dc, .slice ea en ec, .slice ia jn ic] 28) := ⟨_, rfl⟩
   have r4 : Below wr.heap.size wr w4 := by rw [hw4]; exact ext_alloc (Below.refl _ _) _
   have x4 : Bk w4 wr.heap.size 28 #[.slice ca cn cc, .slice da dn dc, .slice ea en ec, .slice ia jn ic] := by rw [hw4]; exact bk_new _ _ _
   obtain ⟨gx, hgx⟩ : ∃ gx, gx = wr.heap.size := ⟨_, rfl⟩
   rw [← hgx] at x4
   have st4 := hst.below r4
   have HW4 := Lib.hid hw4
   have HGX := Lib.hid hgx
   have hIx : gI < gx := by rw [hgx]; exact hst.b.lt
   have ST4 := Lib.hid st4
   have X4 := Lib.hid x4
   have HB4 := Lib.hid (ext_trans hb r4)
   have RR4 := Lib.hid (bk_keep r4 hrr)
   have HMM := Lib.hid hm
   have HMO := Lib.hid hmo
   have HCO := Lib.hid hhas.code
   have HDA := Lib.hid hhas.data
   have HEX := Lib.hid hhas.ex
   have HWE := Lib.hid hhas.we
   have HMN := Lib.hid hmn
   have HPN := Lib.hid hpn
   have HEN := Lib.hid hen2
   clear hw4 hgx st4 x4 hst hb hrr hm hmo hhas hr r4 hmn hpn hen2
   go_upto_region 8 with (fail)
   rw [← HW4.out, ← HGX.out]
   clear e0 e1 e2 e3 HW4 HGX hab
   obtain ⟨t0, t1, t2, t3⟩ := cellsM4 X4.out
   have tL := X4.out.lt
   obtain ⟨i0, i1, i2⟩ := cells3 ST4.out.b
   have iL := ST4.out.b.lt
   obtain ⟨w5, hw5⟩ : ∃ w5, w5 = w4.alloc (.cells #[.int .i64 tk, .int .i64 cn, .int .i64 dn, .int .i64 ((k : Int) + 1)] 100) := ⟨_, rfl⟩
   obtain ⟨gp, hgp⟩ : ∃ gp, gp = w4.heap.size := ⟨_, rfl⟩
   have r5 : Below w4.heap.size w4 w5 := by rw [hw5]; exact ext_alloc (Below.refl _ _) _
   have x5 : Bk w5 gp 100 #[.int .i64 tk, .int .i64 cn, .int .i64 dn, .int .i64 ((k : Int) + 1)] := by rw [hw5, hgp]; exact bk_new _ _ _
   have hxp : gx < gp := by rw [hgp]; exact X4.out.lt
   have HW5 := Lib.hid hw5
   have HGP := Lib.hid hgp
   have X5 := Lib.hid x5
   have R5 := Lib.hid r5
   have HBH := Lib.hid (ext_trans HB4.out r5)
   have ST5 := Lib.hid (ST4.out.below r5)
   clear hw5 hgp x5 r5
   go_upto_region 9 with (fail)
   rw [← HW5.out, ← HGP.out]
   clear t0 t1 t2 t3 tL i0 i1 i2 iL
   obtain ⟨s0, s1, s2, s3⟩ := cellsM4 X5.out
   have sL := X5.out.lt
   obtain ⟨i0, i1, i2⟩ := cells3 ST5.out.b
   have iL := ST5.out.b.lt
   go_upto_region 10 with (at_builtin; refine wpList_append_sl rfl (.tmp 49) (.tmp 51) 33 rfl w.heap.size 100 p0 _ 32 Tryz.underlying33 p1 pz0 pz1 pz2 rfl vp P rfl (ST5.out.p.alloc _) (some ⟨w5.heap.size, 0, none⟩) 1 1 [⟨tk, cn, dn, (k : Int) + 1⟩] rfl (lit_sl1 _ _ rfl) (by unfold maxLen; omega) (by omega) (by have := HBH.out.size; rw [World.size_alloc]; omega) ?_; intro v6 w6 hown6 hgr6 _; obtain ⟨va6, N6, vc6, rfl⟩ := own_shape hown6; have kb := bk_other (bk_old _ ST5.out.b) (ST5.out.p.alloc _) (by decide) hgr6; have c6 := kb.cell 1; have f6 := kb.frozen 1; simp only [List.getElem?_toArray, List.getElem?_cons_succ, List.getElem?_cons_zero] at c6; have k6L := kb.lt; have HG6 := Lib.hid hgr6; have HO6 := Lib.hid hown6; clear kb hown6 hgr6)
   have hPl : P.length = k := by omega
   obtain ⟨v6, hv6⟩ : ∃ v6, v6 = Value.slice va6 N6 vc6 := ⟨_, rfl⟩
   obtain ⟨W6, hW6⟩ : ∃ W6, W6 = w6.setCell ⟨gI, 1, none⟩ v6 := ⟨_, rfl⟩
   rw [← hv6, ← hW6]
   have ho6 := HO6.out
   rw [← hv6] at ho6
   have hpe : P ++ [(⟨tk, cn, dn, (k : Int) + 1⟩ : PlaceV)] = placesF 0 0 (ms.take (k + 1)) := by
    rw [HPN.out]; unfold placeOf; rw [hcn, hdn]
   obtain ⟨P6, hP6⟩ : ∃ P6, P6 = placesF 0 0 (ms.take (k + 1)) := ⟨_, rfl⟩
   rw [hpe, ← hP6] at ho6
   have st6 : ImSt w.heap.size gI M P6 E (.slice ma tk mc) v6 ve W6 := by
    rw [hW6]
    have := (ST5.out.below (ext_alloc (Below.refl _ _) _)).places HG6.out ho6
    rwa [hml] at this
   have k6x : Bk W6 gx 28 #[.slice ca cn cc, .slice da dn dc, .slice ea en ec, .slice ia jn ic] := by rw [hW6]; exact bk_cell (bk_other (bk_old _ (bk_keep R5.out X4.out)) (ST5.out.p.alloc _) (by decide) HG6.out) (by omega) _ _
   have k6p : Bk W6 gp 100 #[.int .i64 tk, .int .i64 cn, .int .i64 dn, .int .i64 ((k : Int) + 1)] := by
    rw [hW6]
    refine bk_cell (bk_grown (bk_old _ X5.out) HG6.out (fun e => ?_)) (by omega) _ _
    have := (own_span ST4.out.p e).2
    have := HGP.out
    omega
   have k6r : Bk W6 w.heap.size 36 #[.slice none 0 0, .slice none 0 0, .slice none 0 0] := by rw [hW6]; exact bk_cell (bk_other (bk_old _ (bk_keep R5.out RR4.out)) (ST5.out.p.alloc _) (by decide) HG6.out) (by omega) _ _
   have b6 : Below w.heap.size w W6 := by rw [hW6]; exact ImSt.under (ST5.out.p.alloc _) (ext_alloc HBH.out _) HG6.out (by omega) 1 _
   obtain ⟨W7, hW7⟩ : ∃ W7, W7 = W6.alloc (.cells #[.slice ca cn cc, .slice da dn dc] 22) := ⟨_, rfl⟩
   obtain ⟨g7, hg7⟩ : ∃ g7, W6.heap.size = g7 := ⟨_, rfl⟩
   have r7 : Below W6.heap.size W6 W7 := by rw [hW7]; exact ext_alloc (Below.refl _ _) _
   have a7 : Bk W7 g7 22 #[.slice ca cn cc, .slice da dn dc] := by rw [hW7, ← hg7]; exact bk_new _ _ _
   have hIL := st6.b.lt
   have H7I := Lib.hid (show g7 ≠ gI by omega)
   have ST7 := Lib.hid (st6.below r7)
   have X7 := Lib.hid (bk_keep r7 k6x)
   have P7 := Lib.hid (bk_keep r7 k6p)
   have RR7 := Lib.hid (bk_keep r7 k6r)
   have B7 := Lib.hid (ext_trans b6 r7)
   have A7 := Lib.hid a7
   have HW7 := Lib.hid hW7
   have HP6 := Lib.hid hP6
   have X6 := Lib.hid k6x
   clear hW6 hv6 ho6 hpe hP6 st6 k6p k6r b6 hW7 r7 a7 c6 f6 k6L HG6 HO6 s0 s1 s2 s3 sL i0 i1 i2 iL k6x
   obtain ⟨t0, t1, t2, t3⟩ := cellsM4 X6.out
   have tL := X6.out.lt
   go_wp2
   clear t0 t1 t2 t3 tL
   rw [← HW7.out]
   go_loopw [60] (fun i wr => ∃ (t : Nat) (vm : Value), t ≤ 2 ∧ i = .int .i64 t ∧ ImSt w.heap.size gI (M ++ (part m t).map ValV.num) P6 E vm v6 ve wr ∧ Kept gI W7 wr ∧ Below w.heap.size w wr) (fun i _ => 2 - (intOf i).toNat)
   case atStart => exact ⟨0, _, Nat.zero_le _, rfl, by simpa [part] using ST7.out, Kept.refl _ _, B7.out⟩
   case round =>
    obtain ⟨t, vm, ht, rfl, hst, hkp, hb⟩ := hrel
    obtain rfl | rfl | rfl : t = 0 ∨ t = 1 ∨ t = 2 := by omega
    ·rw [show ((0 : Nat) : Int) = 0 from rfl]
     obtain ⟨M0, hM0⟩ : ∃ M0, M0 = M ++ (part m 0).map ValV.num := ⟨_, rfl⟩
     obtain ⟨L0, hL0⟩ : ∃ L0, L0 = m.code := ⟨_, rfl⟩
     have hl0 : L0.length = cn := by rw [hL0]; omega
     have hm0 : M0.length ≤ 240 + tk := by rw [hM0, List.length_append, List.length_map]; have : (part m 0).length ≤ 120 := by unfold part; simp; try omega
                                           omega
     rw [← hM0] at hst
     have HC0 := Lib.hid (show Sl w _ cn L0 from hL0 ▸ HCO.out)
     have ya := hkp.bk g7 _ _ A7.out (by decide) (by decide) H7I.out
     have y := ya.cell 0
     simp only [List.getElem?_toArray, List.getElem?_cons_succ, List.getElem?_cons_zero] at y
     have yL := ya.lt
     have HST := Lib.hid hst
     have HKP := Lib.hid hkp
     have HBB := Lib.hid hb
     clear ya hst hkp hb
     go_wp2
     clear y yL
     go_loopw [66] (fun i wr => ∃ (j : Nat) (vm : Value), j ≤ cn ∧ i = .int .i64 j ∧ ImSt w.heap.size gI (M0 ++ (L0.take j).map ValV.num) P6 E vm v6 ve wr ∧ Kept gI W7 wr ∧ Below w.heap.size w wr) (fun i _ => cn - (intOf i).toNat)
     case atStart => exact ⟨0, _, Nat.zero_le _, rfl, by simpa using HST.out, HKP.out, HBB.out⟩
     case round =>
      obtain ⟨j, vm, hj, rfl, hst, hkp, hb⟩ := hrel
      by_cases hlj : j < cn
      ·have o0 : (0 : Int) ≤ j := by omega
       have o1 : (j : Int) < cn := by omega
       obtain ⟨x, hx⟩ : ∃ x, L0[j]? = some x := ⟨_, List.getElem?_eq_getElem (by omega)⟩
       obtain ⟨ad, hao, hab, e0⟩ := sl_int (HC0.out.below hb) hlj hx
       subst hao
       obtain ⟨ma8, mc8, rfl, _, _⟩ := hst.m.sl
       obtain ⟨N8, hN8⟩ : ∃ N8, (M0 ++ (L0.take j).map ValV.num).length = N8 := ⟨_, rfl⟩
       have hN8b : N8 ≤ 1000 := by rw [← hN8, List.length_append, List.length_map, List.length_take]; omega
       rw [hN8] at hst
       have HN8 := Lib.hid hN8
       clear hN8
       have htk : (L0.take (j + 1)).map ValV.num = (L0.take j).map ValV.num ++ [ValV.num x] := by rw [List.take_add_one, hx, List.map_append]; rfl
       have ST8 := Lib.hid hst
       have KP8 := Lib.hid hkp
       have HB8 := Lib.hid hb
       have HTK := Lib.hid htk
       clear hst hkp hb htk hx
       obtain ⟨i0, i1, i2⟩ := cells3 ST8.out.b
       have iL := ST8.out.b.lt
       go_wp2_with (at_builtin; refine wpList_append_sl rfl (.tmp 71) (.tmp 74) 32 rfl w.heap.size 68 m0 _ 56 Tryz.underlying32 m1 mz0 mz1 mz2 rfl (.slice ma8 N8 mc8) (M0 ++ (L0.take j).map ValV.num) rfl (ST8.out.m.alloc _) (some ⟨wr.heap.size, 0, none⟩) 1 1 [ValV.num x] rfl (lit_sl1 _ _ rfl) (by rw [HN8.out]; unfold maxLen; omega) (by rw [HN8.out]; omega) (by have := HB8.out.size; rw [World.size_alloc]; omega) ?_; intro v9 w9 hown9 hgr9 _; obtain ⟨va9, N9, vc9, rfl⟩ := own_shape hown9; have kb := bk_other (bk_old _ ST8.out.b) (ST8.out.m.alloc _) (by decide) hgr9; have c9 := kb.cell 0; have f9 := kb.frozen 0; simp only [List.getElem?_toArray, List.getElem?_cons_succ, List.getElem?_cons_zero] at c9; have k9L := kb.lt; have HG9 := Lib.hid hgr9; have HO9 := Lib.hid hown9; clear kb hown9 hgr9)
       go_roundw
       case rel =>
        refine ⟨j + 1, .slice va9 N9 vc9, by omega, by go_num, ?_, ?_, ?_⟩
        ·have := (ST8.out.below (ext_alloc (Below.refl _ _) _)).mem HG9.out HO9.out
         rw [HTK.out, ← List.append_assoc]
         exact this
        ·exact (KP8.out.below (ext_alloc (Below.refl _ _) _)).own (ST8.out.m.alloc _) (.inl rfl) HG9.out _ _
        ·exact ImSt.under (ST8.out.m.alloc _) (ext_alloc HB8.out _) HG9.out (by omega) _ _
       case measure => simp [intOf]; omega
      ·have o1 : ¬ ((j : Int) < cn) := by omega
       obtain rfl : j = cn := by omega
       rw [List.take_of_length_le (by omega)] at hst
       have ST8 := Lib.hid hst
       have KP8 := Lib.hid hkp
       have HB8 := Lib.hid hb
       clear hst hkp hb
       go_wp2
       go_roundw
       case rel =>
        refine ⟨1, vm, by omega, by go_num, ?_, KP8.out, HB8.out⟩
        have := ST8.out
        rw [hM0, hL0, List.append_assoc, ← List.map_append] at this
        exact this
       case measure => simp [intOf]; try omega
    ·rw [show ((1 : Nat) : Int) = 1 from rfl]
     obtain ⟨M0, hM0⟩ : ∃ M0, M0 = M ++ (part m 1).map ValV.num := ⟨_, rfl⟩
     obtain ⟨L0, hL0⟩ : ∃ L0, L0 = m.data := ⟨_, rfl⟩
     have hl0 : L0.length = dn := by rw [hL0]; omega
     have hm0 : M0.length ≤ 240 + tk := by rw [hM0, List.length_append, List.length_map]; have : (part m 1).length ≤ 120 := by unfold part; simp; try omega
                                           omega
     rw [← hM0] at hst
     have HC0 := Lib.hid (show Sl w _ dn L0 from hL0 ▸ HDA.out)
     have ya := hkp.bk g7 _ _ A7.out (by decide) (by decide) H7I.out
     have y := ya.cell 1
     simp only [List.getElem?_toArray, List.getElem?_cons_succ, List.getElem?_cons_zero] at y
     have yL := ya.lt
     have HST := Lib.hid hst
     have HKP := Lib.hid hkp
     have HBB := Lib.hid hb
     clear ya hst hkp hb
     go_wp2
     clear y yL
     go_loopw [66] (fun i wr => ∃ (j : Nat) (vm : Value), j ≤ dn ∧ i = .int .i64 j ∧ ImSt w.heap.size gI (M0 ++ (L0.take j).map ValV.num) P6 E vm v6 ve wr ∧ Kept gI W7 wr ∧ Below w.heap.size w wr) (fun i _ => dn - (intOf i).toNat)
     case atStart => exact ⟨0, _, Nat.zero_le _, rfl, by simpa using HST.out, HKP.out, HBB.out⟩
     case round =>
      obtain ⟨j, vm, hj, rfl, hst, hkp, hb⟩ := hrel
      by_cases hlj : j < dn
      ·have o0 : (0 : Int) ≤ j := by omega
       have o1 : (j : Int) < dn := by omega
       obtain ⟨x, hx⟩ : ∃ x, L0[j]? = some x := ⟨_, List.getElem?_eq_getElem (by omega)⟩
       obtain ⟨ad, hao, hab, e0⟩ := sl_int (HC0.out.below hb) hlj hx
       subst hao
       obtain ⟨ma8, mc8, rfl, _, _⟩ := hst.m.sl
       obtain ⟨N8, hN8⟩ : ∃ N8, (M0 ++ (L0.take j).map ValV.num).length = N8 := ⟨_, rfl⟩
       have hN8b : N8 ≤ 1000 := by rw [← hN8, List.length_append, List.length_map, List.length_take]; omega
       rw [hN8] at hst
       have HN8 := Lib.hid hN8
       clear hN8
       have htk : (L0.take (j + 1)).map ValV.num = (L0.take j).map ValV.num ++ [ValV.num x] := by rw [List.take_add_one, hx, List.map_append]; rfl
       have ST8 := Lib.hid hst
       have KP8 := Lib.hid hkp
       have HB8 := Lib.hid hb
       have HTK := Lib.hid htk
       clear hst hkp hb htk hx
       obtain ⟨i0, i1, i2⟩ := cells3 ST8.out.b
       have iL := ST8.out.b.lt
       go_wp2_with (at_builtin; refine wpList_append_sl rfl (.tmp 71) (.tmp 74) 32 rfl w.heap.size 68 m0 _ 56 Tryz.underlying32 m1 mz0 mz1 mz2 rfl (.slice ma8 N8 mc8) (M0 ++ (L0.take j).map ValV.num) rfl (ST8.out.m.alloc _) (some ⟨wr.heap.size, 0, none⟩) 1 1 [ValV.num x] rfl (lit_sl1 _ _ rfl) (by rw [HN8.out]; unfold maxLen; omega) (by rw [HN8.out]; omega) (by have := HB8.out.size; rw [World.size_alloc]; omega) ?_; intro v9 w9 hown9 hgr9 _; obtain ⟨va9, N9, vc9, rfl⟩ := own_shape hown9; have kb := bk_other (bk_old _ ST8.out.b) (ST8.out.m.alloc _) (by decide) hgr9; have c9 := kb.cell 0; have f9 := kb.frozen 0; simp only [List.getElem?_toArray, List.getElem?_cons_succ, List.getElem?_cons_zero] at c9; have k9L := kb.lt; have HG9 := Lib.hid hgr9; have HO9 := Lib.hid hown9; clear kb hown9 hgr9)
       go_roundw
       case rel =>
        refine ⟨j + 1, .slice va9 N9 vc9, by omega, by go_num, ?_, ?_, ?_⟩
        ·have := (ST8.out.below (ext_alloc (Below.refl _ _) _)).mem HG9.out HO9.out
         rw [HTK.out, ← List.append_assoc]
         exact this
        ·exact (KP8.out.below (ext_alloc (Below.refl _ _) _)).own (ST8.out.m.alloc _) (.inl rfl) HG9.out _ _
        ·exact ImSt.under (ST8.out.m.alloc _) (ext_alloc HB8.out _) HG9.out (by omega) _ _
       case measure => simp [intOf]; omega
      ·have o1 : ¬ ((j : Int) < dn) := by omega
       obtain rfl : j = dn := by omega
       rw [List.take_of_length_le (by omega)] at hst
       have ST8 := Lib.hid hst
       have KP8 := Lib.hid hkp
       have HB8 := Lib.hid hb
       clear hst hkp hb
       go_wp2
       go_roundw
       case rel =>
        refine ⟨2, vm, by omega, by go_num, ?_, KP8.out, HB8.out⟩
        have := ST8.out
        rw [hM0, hL0, List.append_assoc, ← List.map_append] at this
        exact this
       case measure => simp [intOf]; try omega
    ·rw [show ((2 : Nat) : Int) = 2 from rfl]
     have hp2 : M ++ (part m 2).map ValV.num = mem0 (ms.take (k + 1)) := by rw [HMN.out]; rfl
     rw [hp2] at hst
     clear hp2
     obtain ⟨M1, hM1⟩ : ∃ M1, M1 = mem0 (ms.take (k + 1)) := ⟨_, rfl⟩
     rw [← hM1] at hst
     have HM1 := Lib.hid hM1
     clear hM1
     have xk := hkp.bk gx _ _ X7.out (by decide) (by decide) (by omega)
     obtain ⟨t0, t1, t2, t3⟩ := cellsM4 xk
     have tL := xk.lt
     have HST := Lib.hid hst
     have HKP := Lib.hid hkp
     have HBB := Lib.hid hb
     clear hst hkp hb xk
     go_wp2
     clear t0 t1 t2 t3 tL
     go_loopw [82] (fun i wr => ∃ (j : Nat) (ve : Value), j ≤ en ∧ i = .int .i64 j ∧ ImSt w.heap.size gI M1 P6 (E ++ (m.ex.take j).map (entryOf tk k m)) vm v6 ve wr ∧ Kept gI W7 wr ∧ Below w.heap.size w wr) (fun i _ => en - (intOf i).toNat)
     case atStart => exact ⟨0, ve, Nat.zero_le _, rfl, by simpa using HST.out, HKP.out, HBB.out⟩
     case round =>
      obtain ⟨j, ve, hj, rfl, hst, hkp, hb⟩ := hrel
      by_cases hlj : j < en
      ·have o0 : (0 : Int) ≤ j := by omega
       have o1 : (j : Int) < en := by omega
       obtain ⟨x, hx⟩ : ∃ x, m.ex[j]? = some x := ⟨_, List.getElem?_eq_getElem (by omega)⟩
       obtain ⟨ad, hao, hab, f0, f1⟩ := sl_NamV (HEX.out.below hb) hlj hx
       subst hao
       obtain ⟨_, x1, x2⟩ := HMO.out.e1 x (List.mem_of_getElem? hx)
       obtain ⟨w8, hw8⟩ : ∃ w8, w8 = wr.alloc (.cells #[.string x.name, .int .i64 x.at_] 83) := ⟨_, rfl⟩
       have r8 : Below wr.heap.size wr w8 := by rw [hw8]; exact ext_alloc (Below.refl _ _) _
       have x8 : Bk w8 wr.heap.size 83 #[.string x.name, .int .i64 x.at_] := by rw [hw8]; exact bk_new _ _ _
       obtain ⟨gy, hgy⟩ : ∃ gy, gy = wr.heap.size := ⟨_, rfl⟩
       rw [← hgy] at x8
       have hle : (E ++ (m.ex.take j).map (entryOf tk k m)).length ≤ 1000 := by rw [List.length_append, List.length_map, List.length_take]; omega
       have htk : (m.ex.take (j + 1)).map (entryOf tk k m) = (m.ex.take j).map (entryOf tk k m) ++ [entryOf tk k m x] := by rw [List.take_add_one, hx, List.map_append]; rfl
       have hent : entryOf tk k m x = ⟨x.name, ⟨5, tk, cn, (tk : Int) + x.at_, (k : Int) + 1⟩, ⟨27, (tk : Int) + cn, dn, (tk : Int) + cn, (k : Int) + 1⟩⟩ := by unfold entryOf; rw [hcn, hdn]
       rw [hent] at htk
       have HW8 := Lib.hid hw8
       have HGY := Lib.hid hgy
       have X8 := Lib.hid x8
       have ST8 := Lib.hid (hst.below r8)
       have KP8 := Lib.hid (hkp.below r8)
       have HB8 := Lib.hid (ext_trans hb r8)
       have HTK := Lib.hid htk
       clear hw8 hgy x8 hst hkp hb r8 hx htk hent
       go_upto_region 22 with (fail)
       rw [← HW8.out, ← HGY.out]
       clear f0 f1 hab HW8 HGY
       have pk := KP8.out.bk gp _ _ P7.out (by decide) (by decide) (by omega)
       obtain ⟨s0, s1, s2, s3⟩ := cellsM4 pk
       have sL := pk.lt
       obtain ⟨t0, t1⟩ := cellsM2 X8.out
       have tL := X8.out.lt
       obtain ⟨i0, i1, i2⟩ := cells3 ST8.out.b
       have iL := ST8.out.b.lt
       clear pk
       go_wp2_with (at_builtin; refine wpList_append_sl rfl (.tmp 92) (.tmp 115) 34 rfl w.heap.size 103 ee0 _ 96 Tryz.underlying34 ee1 eez0 eez1 eez2 rfl ve (E ++ (m.ex.take j).map (entryOf tk k m)) rfl (ST8.out.e.alloc _) (some ⟨w8.heap.size, 0, none⟩) 1 1 [⟨x.name, ⟨5, tk, cn, (tk : Int) + x.at_, (k : Int) + 1⟩, ⟨27, (tk : Int) + cn, dn, (tk : Int) + cn, (k : Int) + 1⟩⟩] rfl (lit_sl1 _ _ rfl) (by unfold maxLen; omega) (by omega) (by have := HB8.out.size; rw [World.size_alloc]; omega) ?_; intro v9 w9 hown9 hgr9 _; obtain ⟨va9, N9, vc9, rfl⟩ := own_shape hown9; have kb := bk_other (bk_old _ ST8.out.b) (ST8.out.e.alloc _) (by decide) hgr9; have c9 := kb.cell 2; have f9 := kb.frozen 2; simp only [List.getElem?_toArray, List.getElem?_cons_succ, List.getElem?_cons_zero] at c9; have k9L := kb.lt; have HG9 := Lib.hid hgr9; have HO9 := Lib.hid hown9; clear kb hown9 hgr9)
       go_roundw
       case rel =>
        refine ⟨j + 1, .slice va9 N9 vc9, by omega, by go_num, ?_, ?_, ?_⟩
        ·have := (ST8.out.below (ext_alloc (Below.refl _ _) _)).entries HG9.out HO9.out
         rw [HTK.out, ← List.append_assoc]
         exact this
        ·exact (KP8.out.below (ext_alloc (Below.refl _ _) _)).own (ST8.out.e.alloc _) (.inr rfl) HG9.out _ _
        ·exact ImSt.under (ST8.out.e.alloc _) (ext_alloc HB8.out _) HG9.out (by omega) _ _
       case measure => simp [intOf]; omega
      ·have o1 : ¬ ((j : Int) < en) := by omega
       obtain rfl : j = en := by omega
       rw [List.take_of_length_le (by omega), ← HEN.out, HP6.out, HM1.out] at hst
       have ST8 := Lib.hid hst
       have KP8 := Lib.hid hkp
       have HB8 := Lib.hid hb
       clear hst hkp hb
       go_wp2
       go_roundw
       case rel => exact ⟨k + 1, vm, v6, ve, by omega, by go_num, ST8.out, KP8.out.bk _ _ _ RR7.out (by decide) (by decide) (by omega), HB8.out⟩
       case measure => simp [intOf]; try omega
  ·have q1 : ¬ ((k : Int) < n) := by omega
   obtain rfl : k = n := by omega
   rw [List.take_of_length_le (by omega)] at hst
   obtain ⟨wq, hwq⟩ : ∃ wq : World, wq = wr := ⟨_, rfl⟩
   subst hwq
   obtain ⟨E, hE⟩ : ∃ E, E = entriesF 0 0 ms := ⟨_, rfl⟩
   obtain ⟨P, hP⟩ : ∃ P, P = placesF 0 0 ms := ⟨_, rfl⟩
   obtain ⟨N, hN⟩ : ∃ N, N = total ms := ⟨_, rfl⟩
   have hN0 : (mem0 ms).length = N := by rw [mem0_len, hN]
   have hPl : P.length = k := by rw [hP, placesF_len]; omega
   have hPat : ∀ (t : Nat) (m : ModV), ms[t]? = some m → P[t]? = some (placeOf (total (ms.take t)) t m) := fun t m h => by
    have := placesF_at ms 0 0 t m h
    rw [Nat.zero_add, Nat.zero_add] at this
    rw [hP]; exact this
   have hls : linkMem ms = wireF E 0 (mem0 ms) ms := by rw [hE]; rfl
   rw [← hE, ← hP] at hst
   obtain ⟨ma, mn, mc, rfl⟩ := own_shape hst.m
   obtain ⟨pa, pc, rfl, hps, _⟩ := hst.p.sl
   obtain ⟨ea, ec, rfl, hes, _⟩ := hst.e.sl
   obtain ⟨pn, hpn⟩ : ∃ pn, P.length = pn := ⟨_, rfl⟩
   obtain ⟨en, hen⟩ : ∃ en, E.length = en := ⟨_, rfl⟩
   rw [hpn] at hst
   rw [hen] at hst
   have HST := Lib.hid hst
   have HRR := Lib.hid hrr
   have HBB := Lib.hid hb
   have HN := Lib.hid hN
   have HN0 := Lib.hid hN0
   have HE := Lib.hid hE
   have HP := Lib.hid hP
   have HPAT := Lib.hid hPat
   have HLS := Lib.hid hls
   have HPN := Lib.hid hpn
   have HEN := Lib.hid hen
   have hpk : pn = k := by rw [← hpn]; exact hPl
   have HPK := Lib.hid hpk
   clear hst hrr hb hN hN0 hE hP hPat hls hPl hps hes hpn hen hpk
   go_wp2
   go_loopw [122] (fun i wr => ∃ t : Nat, t ≤ k ∧ i = .int .i64 t ∧ ImSt w.heap.size gI (wireF E 0 (mem0 ms) (ms.take t)) P E (.slice ma mn mc) (.slice pa pn pc) (.slice ea en ec) wr ∧ Bk wr w.heap.size 36 #[.slice none 0 0, .slice none 0 0, .slice none 0 0] ∧ Below w.heap.size w wr) (fun i _ => k - (intOf i).toNat)
   case atStart => exact ⟨0, Nat.zero_le _, rfl, HST.out, HRR.out, HBB.out⟩
   case round =>
    obtain ⟨t, ht, rfl, hst, hrr, hb⟩ := hrel
    by_cases hlt2 : t < k
    ·have p0 : (0 : Int) ≤ t := by omega
     have p1 : (t : Int) < k := by omega
     obtain ⟨r, m, hr, hm, hhas⟩ := HM.out.get hlt2
     obtain ⟨ad, hao, hab, e0, e1, e2, e3⟩ := sl_ModR (HM.out.sl.below hb) hlt2 hr
     subst hao
     obtain ⟨⟨ca, cn, cc⟩, ⟨da, dn, dc⟩, ⟨xa, xn, xc⟩, ⟨ia, jn, ic⟩⟩ := r
     simp only at e0 e1 e2 e3
     have hmo := HOK.out.m m (List.mem_of_getElem? hm)
     have hcn := hhas.code.len
     have hdn := hhas.data.len
     have hjn := hhas.im.len
     simp only at hcn hdn hjn
     have h120 := hmo.l1
     have h60 := hmo.l2
     have h20 := hmo.l4
     have hts := total_take_succ hm
     have htl := total_take_le ms (t + 1)
     have hpt := HPAT.out t m hm
     obtain ⟨b, hbt⟩ : ∃ b, total (ms.take t) = b := ⟨_, rfl⟩
     obtain ⟨B0, hB0⟩ : ∃ B0, b + cn = B0 := ⟨_, rfl⟩
     have hbN : B0 + dn ≤ N := by rw [HN.out]; omega
     have hNb : N ≤ 400 := by rw [HN.out]; exact htot
     have hwn : wireF E 0 (mem0 ms) (ms.take (t + 1)) = wireM E B0 (wireF E 0 (mem0 ms) (ms.take t)) m.im := by
      rw [List.take_add_one, hm]
      refine (wireF_snoc E m _ _ _).trans ?_
      rw [Nat.zero_add, hbt, hcn, hB0]
     have hml : (wireF E 0 (mem0 ms) (ms.take t)).length = N := by rw [wireF_len, HN0.out]
     rw [hbt] at hpt
     generalize wireF E 0 (mem0 ms) (ms.take t) = M at *
     obtain ⟨w4, hw4⟩ : ∃ w4, w4 = wr.alloc (.cells #[.slice ca cn cc, .slice da dn dc, .slice xa xn xc, .slice ia jn ic] 28) := ⟨_, rfl⟩
     have r4 : Below wr.heap.size wr w4 := by rw [hw4]; exact ext_alloc (Below.refl _ _) _
     have x4 : Bk w4 wr.heap.size 28 #[.slice ca cn cc, .slice da dn dc, .slice xa xn xc, .slice ia jn ic] := by rw [hw4]; exact bk_new _ _ _
     obtain ⟨gx, hgx⟩ : ∃ gx, gx = wr.heap.size := ⟨_, rfl⟩
     rw [← hgx] at x4
     have HW4 := Lib.hid hw4
     have HGX := Lib.hid hgx
     have X4 := Lib.hid x4
     have ST4 := Lib.hid (hst.below r4)
     have RR4 := Lib.hid (bk_keep r4 hrr)
     have HB4 := Lib.hid (ext_trans hb r4)
     have HMO := Lib.hid hmo
     have HIM := Lib.hid hhas.im
     have HWI := Lib.hid hhas.wi
     have HWN := Lib.hid hwn
     have HML := Lib.hid hml
     have HPT := Lib.hid hpt
     have HB0 := Lib.hid hB0
     clear hw4 hgx x4 hst hrr hb hmo hhas hwn hml hpt r4 hm hr hbt hts htl hB0
     go_upto_region 29 with (fail)
     rw [← HW4.out, ← HGX.out]
     clear e0 e1 e2 e3 HW4 HGX hab
     obtain ⟨t0, t1, t2, t3⟩ := cellsM4 X4.out
     have tL := X4.out.lt
     go_wp2
     clear t0 t1 t2 t3 tL
     go_loopw [130] (fun i wr => ∃ j : Nat, j ≤ jn ∧ i = .int .i64 j ∧ ImSt w.heap.size gI (wireM E B0 M (m.im.take j)) P E (.slice ma mn mc) (.slice pa pn pc) (.slice ea en ec) wr ∧ Bk wr w.heap.size 36 #[.slice none 0 0, .slice none 0 0, .slice none 0 0] ∧ Below w.heap.size w wr) (fun i _ => jn - (intOf i).toNat)
     case atStart => exact ⟨0, Nat.zero_le _, rfl, ST4.out, RR4.out, HB4.out⟩
     case round =>
      obtain ⟨j, hj, rfl, hst, hrr, hb⟩ := hrel
      by_cases hlj : j < jn
      ·have o0 : (0 : Int) ≤ j := by omega
       have o1 : (j : Int) < jn := by omega
       obtain ⟨⟨xs, xt⟩, hx⟩ : ∃ x, m.im[j]? = some x := ⟨_, List.getElem?_eq_getElem (by omega)⟩
       obtain ⟨ad, hao, hab, f0, f1⟩ := sl_NamV (HIM.out.below hb) hlj hx
       subst hao
       obtain ⟨x1, x2⟩ := (HMO.out.i1 _ (List.mem_of_getElem? hx)).2
       simp only at f0 f1 x1 x2
       obtain ⟨a, rfl⟩ := Int.eq_ofNat_of_zero_le x1
       obtain ⟨Bi, hBi⟩ : ∃ Bi, B0 + a = Bi := ⟨_, rfl⟩
       have hBN : Bi + 1 < N := by omega
       obtain ⟨w8, hw8⟩ : ∃ w8, w8 = wr.alloc (.cells #[.string xs, .int .i64 a] 118) := ⟨_, rfl⟩
       have r8 : Below wr.heap.size wr w8 := by rw [hw8]; exact ext_alloc (Below.refl _ _) _
       have x8 : Bk w8 wr.heap.size 118 #[.string xs, .int .i64 a] := by rw [hw8]; exact bk_new _ _ _
       obtain ⟨gy, hgy⟩ : ∃ gy, gy = wr.heap.size := ⟨_, rfl⟩
       rw [← hgy] at x8
       obtain ⟨M1, hM1⟩ : ∃ M1, wireM E B0 M (m.im.take j) = M1 := ⟨_, rfl⟩
       have hM1l : M1.length = N := by rw [← hM1, wireM_len, HML.out]
       have hnx : wireM E B0 M (m.im.take (j + 1)) = wire1 E B0 M1 ⟨xs, (a : Int)⟩ := by
        rw [List.take_add_one, hx]
        exact (wireM_snoc _ _ _ _ _).trans (by rw [hM1])
       rw [hM1] at hst
       obtain ⟨eao, ecp, he, hes, _⟩ := (hst.below r8).e.sl
       rw [HEN.out] at he hes
       injection he with he1 _ he3
       subst he1 he3
       have fn := find_any ma pa ea mn mc pn pc en ec E xs w8 hes
       simp only [EntryV.val, EntryV.cs] at fn
       obtain ⟨y, hy⟩ : ∃ y, (findE E xs).getD zeroE = y := ⟨_, rfl⟩
       rw [hy] at fn
       generalize (findE E xs).isSome = fb at fn
       have HW8 := Lib.hid hw8
       have HGY := Lib.hid hgy
       have X8 := Lib.hid x8
       have ST8 := Lib.hid (hst.below r8)
       have RR8 := Lib.hid (bk_keep r8 hrr)
       have HB8 := Lib.hid (ext_trans hb r8)
       have HNX := Lib.hid hnx
       have HY := Lib.hid hy
       have FN := Lib.hid fn
       have HM1L := Lib.hid hM1l
       have HBI := Lib.hid hBi
       clear hw8 hgy x8 hst hrr hb r8 hx hnx hy fn hes hM1 hM1l hBi
       go_upto_region 32 with (fail)
       rw [← HW8.out, ← HGY.out]
       clear f0 f1 hab HW8 HGY
       obtain ⟨t0, t1⟩ := cellsM2 X8.out
       have tL := X8.out.lt
       obtain ⟨i0, i1, i2⟩ := cells3 ST8.out.b
       have iL := ST8.out.b.lt
       go_upto_region 33 with (go_at_call 52; ((with_reducible refine (FN.out).mono ?_); rintro e w9 ⟨rfl, hb9⟩; have HB9 := Lib.hid hb9; clear hb9))
       clear t0 t1 tL i0 i1 i2 iL
       obtain ⟨w10, hw10⟩ : ∃ w10, w10 = w9.alloc (.cells #[.string y.name, .int .i64 y.code.perm, .int .i64 y.code.base, .int .i64 y.code.len, .int .i64 y.code.at_, .int .i64 y.code.seal_, .int .i64 y.data.perm, .int .i64 y.data.base, .int .i64 y.data.len, .int .i64 y.data.at_, .int .i64 y.data.seal_] 103) := ⟨_, rfl⟩
       obtain ⟨ge, hge⟩ : ∃ ge, ge = w9.heap.size := ⟨_, rfl⟩
       rw [← hw10, ← hge]
       have r10 : Below w8.heap.size w8 w10 := by rw [hw10]; exact ext_alloc HB9.out _
       have y10 : Bk w10 ge 103 #[.string y.name, .int .i64 y.code.perm, .int .i64 y.code.base, .int .i64 y.code.len, .int .i64 y.code.at_, .int .i64 y.code.seal_, .int .i64 y.data.perm, .int .i64 y.data.base, .int .i64 y.data.len, .int .i64 y.data.at_, .int .i64 y.data.seal_] := by rw [hw10, hge]; exact bk_new _ _ _
       have Y10 := Lib.hid y10
       have X10 := Lib.hid (bk_keep r10 X8.out)
       have ST10 := Lib.hid (ST8.out.below r10)
       have RR10 := Lib.hid (bk_keep r10 RR8.out)
       have HB10 := Lib.hid (ext_trans HB8.out r10)
       clear hw10 hge y10 r10 HB9
       obtain ⟨pao, pcp, hpe, hps, _⟩ := ST10.out.p.sl
       rw [HPN.out] at hpe hps
       injection hpe with hp1 _ hp3
       subst hp1 hp3
       obtain ⟨ad, hao, hab, f0, f1, f2, f3⟩ := sl_PlaceV hps (i := t) (by have := HPK.out; omega) HPT.out
       subst hao
       unfold placeOf at f0 f1 f2 f3
       simp only [hcn] at f0 f1
       have g1 : (t : Int) < pn := by have := HPK.out; omega
       obtain ⟨t0, t1⟩ := cellsM2 X10.out
       have tL := X10.out.lt
       obtain ⟨i0, i1, i2⟩ := cells3 ST10.out.b
       have iL := ST10.out.b.lt
       have hsum : (b : Int) + cn + a = (Bi : Int) := by have h1 := HB0.out; have h2 := HBI.out; omega
       clear hps f2 f3
       go_quiet (fail)
       clear t0 t1 tL i0 i1 i2 iL f0 f1 hab
       obtain ⟨w11, hw11⟩ : ∃ w11, w11 = w10.drewN nq := ⟨_, rfl⟩
       rw [← hw11]
       have r11 : Below w10.heap.size w10 w11 := by rw [hw11]; exact ext_drewN (Below.refl _ _) _
       have Y11 := Lib.hid (bk_keep r11 Y10.out)
       have ST11 := Lib.hid (ST10.out.below r11)
       have RR11 := Lib.hid (bk_keep r11 RR10.out)
       have HB11 := Lib.hid (ext_trans HB10.out r11)
       clear hw11 r11 Y10 X10 ST10 RR10 HB10
       obtain ⟨gm, hma, hmn⟩ : ∃ gm, ma = some ⟨gm, 0, none⟩ ∧ mn = N := by
        have h0 := HM1L.out
        rcases ST11.out.m.form with ⟨_, h⟩ | ⟨g, cap, h, _⟩
        ·rw [h] at h0; simp at h0; omega
        ·injection h with h1 h2 h3
         exact ⟨g, h1, by omega⟩
       subst hma hmn
       have g2 : (Bi : Int) < mn := by omega
       obtain ⟨B1, hB1⟩ : ∃ B1, Bi + 1 = B1 := ⟨_, rfl⟩
       have hs2 : (Bi : Int) + 1 = (B1 : Int) := by omega
       have g3 : (B1 : Int) < mn := by omega
       have hwire : wire1 E B0 M1 ⟨xs, (a : Int)⟩ = (M1.set Bi ⟨true, 0, y.code⟩).set B1 ⟨true, 0, y.data⟩ := by
        unfold wire1
        simp only [HY.out, Int.toNat_natCast, HBI.out, hB1]
       have HWR := Lib.hid hwire
       have HB1 := Lib.hid hB1
       clear hwire hB1
       obtain ⟨i0, i1, i2⟩ := cells3 ST11.out.b
       have iL := ST11.out.b.lt
       obtain ⟨s0, s1, s2, s3, s4, s5, s6, s7, s8, s9, s10⟩ := cells11 Y11.out
       have sL := Y11.out.lt
       obtain ⟨gL, gF, v0, v1, v2, v3, v4, v5, v6, m0_, m1_, m2_, m3_, m4_, m5_, m6_⟩ := ST11.out.cells HM1L.out (i := Bi) (by omega)
       go_upto_region 35 with (fail)
       clear i0 i1 i2 iL s0 s1 s2 s3 s4 s5 s6 s7 s8 s9 s10 sL gL gF m0_ m1_ m2_ m3_ m4_ m5_ m6_
       obtain ⟨w12, hw12⟩ : ∃ w12, w12 = w11.setCells gm (Bi * 7) (cl (⟨true, 0, y.code⟩ : ValV)) := ⟨_, rfl⟩
       change Code.wp _ _ _ _ (w11.setCells gm (Bi * 7) (cl (⟨true, 0, y.code⟩ : ValV)))
       rw [← hw12]
       have st12 : ImSt w.heap.size gI (M1.set Bi ⟨true, 0, y.code⟩) P E (.slice (some ⟨gm, 0, none⟩) mn mc) (.slice (some ad) pn pc) (.slice ea en ec) w12 := by rw [hw12]; exact ST11.out.set HM1L.out (by omega) _
       have y12 : Bk w12 ge 103 #[.string y.name, .int .i64 y.code.perm, .int .i64 y.code.base, .int .i64 y.code.len, .int .i64 y.code.at_, .int .i64 y.code.seal_, .int .i64 y.data.perm, .int .i64 y.data.base, .int .i64 y.data.len, .int .i64 y.data.at_, .int .i64 y.data.seal_] := by rw [hw12]; exact ST11.out.setBk HM1L.out (by omega) _ Y11.out (by decide)
       have rr12 : Bk w12 w.heap.size 36 #[.slice none 0 0, .slice none 0 0, .slice none 0 0] := by rw [hw12]; exact ST11.out.setBk HM1L.out (by omega) _ RR11.out (by decide)
       have b12 : Below w.heap.size w w12 := by rw [hw12]; exact ST11.out.setUnder HM1L.out (by omega) _ HB11.out
       have hl12 : (M1.set Bi (⟨true, 0, y.code⟩ : ValV)).length = mn := by rw [List.length_set]; exact HM1L.out
       have ST12 := Lib.hid st12
       have RR12 := Lib.hid rr12
       have HB12 := Lib.hid b12
       have HL12 := Lib.hid hl12
       obtain ⟨i0, i1, i2⟩ := cells3 st12.b
       have iL := st12.b.lt
       obtain ⟨s0, s1, s2, s3, s4, s5, s6, s7, s8, s9, s10⟩ := cells11 y12
       have sL := y12.lt
       obtain ⟨gL, gF, v0, v1, v2, v3, v4, v5, v6, m0_, m1_, m2_, m3_, m4_, m5_, m6_⟩ := st12.cells hl12 (i := B1) (by omega)
       clear hw12 st12 y12 rr12 b12 hl12 ST11 RR11 HB11 Y11
       go_wp2
       go_roundw
       case rel =>
        refine ⟨j + 1, by omega, by go_num, ?_, ?_, ?_⟩
        ·rw [HNX.out, HWR.out]; exact ST12.out.set HL12.out (by omega) ⟨true, 0, y.data⟩
        ·exact ST12.out.setBk HL12.out (by omega) ⟨true, 0, y.data⟩ RR12.out (by decide)
        ·exact ST12.out.setUnder HL12.out (by omega) ⟨true, 0, y.data⟩ HB12.out
       case measure => simp [intOf]; omega
      ·have o1 : ¬ ((j : Int) < jn) := by omega
       obtain rfl : j = jn := by omega
       rw [List.take_of_length_le (by omega), ← HWN.out] at hst
       have ST8 := Lib.hid hst
       have RR8 := Lib.hid hrr
       have HB8 := Lib.hid hb
       clear hst hrr hb
       go_wp2
       go_roundw
       case rel => exact ⟨t + 1, by omega, by go_num, ST8.out, RR8.out, HB8.out⟩
       case measure => simp [intOf]; try omega
    ·have p1 : ¬ ((t : Int) < k) := by omega
     obtain rfl : t = k := by omega
     rw [List.take_of_length_le (by omega), ← HLS.out, HP.out, HE.out] at hst
     obtain ⟨i0, i1, i2⟩ := cells3 hst.b
     have iL := hst.b.lt
     have rL := hrr.lt
     have ST := Lib.hid hst
     have RR := Lib.hid hrr
     have BB := Lib.hid hb
     clear hst hrr hb
     go_wp2_with (refine wpList_store_rowTo rfl 36 (.tmp 2) (.tmp 174) rfl rfl w.heap.size #[.slice ma mn mc, .slice pa pn pc, .slice ea en ec] rfl rfl 36 _ RR.out (by kernel_rfl) rfl (by kernel_rfl) ?_)
     refine bodyPost_ret (results_rowE (g := w.heap.size) (t := 36) (cs := #[.slice ma mn mc, .slice pa pn pc, .slice ea en ec]) (fr := (0, 0)) rfl _ _ _ rfl (bk_setRowE RR.out _) Tryz.underlying36 rfl (by kernel_rfl)) rfl ?_
     have hg : wr.grownBy (wr.setRow w.heap.size #[.slice ma mn mc, .slice pa pn pc, .slice ea en ec]) (some w.heap.size) := ⟨rfl, rfl, rfl, by simp, fun k _ hk => setRow_other wr w.heap.size k _ (fun e => hk (by rw [e]))⟩
     exact ⟨_, _, _, rfl, ST.out.m.kept hg (.inr (own_not_bk ST.out.m RR.out (by decide))), ST.out.p.kept hg (.inr (own_not_bk ST.out.p RR.out (by decide))), ST.out.e.kept hg (.inr (own_not_bk ST.out.e RR.out (by decide))), below_setRow BB.out (Nat.le_refl _) _⟩
end Go.Proofs.YtpjhjefjbkjhkaaGreatDoor
