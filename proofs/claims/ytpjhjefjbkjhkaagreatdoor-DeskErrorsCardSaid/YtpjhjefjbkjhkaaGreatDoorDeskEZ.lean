import Derived.Test.YtpjhjefjbkjhkaaGreatDoorDeskDZ
/- What several computes: round. -/
namespace Go.Proofs.YtpjhjefjbkjhkaaGreatDoor
open Go Go.RowKit Go.Shelf
set_option linter.unusedVariables false
set_option linter.unusedSimpArgs false
theorem itoa0D : Lib.itoa 0 = [48] := by kernel_rfl
set_option maxHeartbeats 40000000 in
set_option maxRecDepth 100000 in
theorem several_round (wd : ByteArray) (ao : Option Addr) (n c : Nat) (l : List ByteArray) (w : World) (he : PEnv w) (hl : Sl w ao n l) (hs : ∀ s ∈ l, s.size ≤ 1000) (hrd : wd.data.toList = wRound) :
    Calls Tryz.prog 135 #[.string wd, .slice ao n c] w (SevPost w (severalF wd.data.toList (bysL l))) := by
  have hq : (wd.toList == [114, 111, 117, 110, 100]) = true := by rw [toL_eq, hrd]; decide
  have hq2 : (wd.toList == [99, 97, 108, 99]) = false := by rw [toL_eq, hrd]; decide
  have hln := hl.len
  obtain ⟨R, hR⟩ : ∃ R, severalF wd.data.toList (bysL l) = R := ⟨_, rfl⟩
  rw [hR]
  have HR0 := Lib.hid hR
  have HE := Lib.hid he
  have HLs0 := Lib.hid hs
  have HL := Lib.hid hl
  clear hR he hs hl
  go_enter Tryz.func135, Tryz.ntmps135
  go_upto_region 1 with (fail)
  go_cut [6] (fun s6 wx => s6 = .map (some w.heap.size) ∧ wx.heap[w.heap.size]? = some (.map sumEs 4) ∧ Below w.heap.size w wx)
  case first =>
    go_wp2_with (first
      | (refine wpList_mkm rfl 268 rfl ?_)
      | (refine wpList_ins rfl 268 9 170 (.tmp 18) (.const (.string ⟨#[97, 100, 100]⟩)) (.func 178) rfl rfl sumU Tryz.underlying9 w.heap.size 0 #[] ⟨#[97, 100, 100]⟩ (.func (.func 178) #[] #[]) rfl rfl rfl (World.alloc_heap_new w (.map #[] 0)) rfl ?_)
      | (refine wpList_ins rfl 268 9 170 (.tmp 18) (.const (.string ⟨#[115, 117, 98]⟩)) (.func 179) rfl rfl sumU Tryz.underlying9 w.heap.size 1 #[⟨.string ⟨#[97, 100, 100]⟩, .func (.func 178) #[] #[], 0⟩] ⟨#[115, 117, 98]⟩ (.func (.func 179) #[] #[]) rfl rfl rfl (World.putObj_heap_same (by simp [World.putObj])) rfl ?_)
      | (refine wpList_ins rfl 268 9 170 (.tmp 18) (.const (.string ⟨#[109, 117, 108]⟩)) (.func 180) rfl rfl sumU Tryz.underlying9 w.heap.size 2 #[⟨.string ⟨#[97, 100, 100]⟩, .func (.func 178) #[] #[], 0⟩, ⟨.string ⟨#[115, 117, 98]⟩, .func (.func 179) #[] #[], 1⟩] ⟨#[109, 117, 108]⟩ (.func (.func 180) #[] #[]) rfl rfl rfl (World.putObj_heap_same (by simp [World.putObj])) rfl ?_)
      | (refine wpList_ins rfl 268 9 170 (.tmp 18) (.const (.string ⟨#[108, 101, 115, 115]⟩)) (.func 181) rfl rfl sumU Tryz.underlying9 w.heap.size 3 #[⟨.string ⟨#[97, 100, 100]⟩, .func (.func 178) #[] #[], 0⟩, ⟨.string ⟨#[115, 117, 98]⟩, .func (.func 179) #[] #[], 1⟩, ⟨.string ⟨#[109, 117, 108]⟩, .func (.func 180) #[] #[], 2⟩] ⟨#[108, 101, 115, 115]⟩ (.func (.func 181) #[] #[]) rfl rfl rfl (World.putObj_heap_same (by simp [World.putObj])) rfl ?_))
    go_meet
    exact ⟨rfl, World.putObj_heap_same (by simp [World.putObj]), below_putObj (below_putObj (below_putObj (below_putObj (ext_alloc (Below.refl _ _) _) (Nat.le_refl _)) (Nat.le_refl _)) (Nat.le_refl _)) (Nat.le_refl _)⟩
  case rest =>
    obtain ⟨rfl, hm, hb⟩ := hcut
    obtain ⟨w4, hw4⟩ : ∃ w4, w4 = wc := ⟨_, rfl⟩
    rw [← hw4] at hm hb ⊢
    have HM4 := Lib.hid hm
    have HBW := Lib.hid hb
    clear hm hb hw4
    by_cases h2 : n = 2
    · subst h2
      match l, hln with
      | [x, z], _ =>
        have SL0 := Lib.hid (HL.out.below HBW.out)
        clear hln
        obtain ⟨ad0, rfl, b0, e0⟩ := sl_str (i := 0) (x := x) SL0.out (by decide) rfl
        obtain ⟨ad1, hadd, b1, e1⟩ := sl_str (i := 1) (x := z) SL0.out (by decide) rfl
        injection hadd with hadd
        subst hadd
        rw [show ad0.add 0 = ad0 by unfold Addr.add; rfl] at b0 e0
        have n1 : ad0.add 1 = ⟨ad0.block, ad0.off + 1, none⟩ := by unfold Addr.add; rw [if_neg (by decide)]
        have e2 : w4.cell? ⟨ad0.block, ad0.off + 1, none⟩ = some (.string z) := n1 ▸ e1
        go_upto_region 3 with (fail)
        go_cut [1] (fun s1 wx => ∃ ad, s1 = .slice (some ad) 3 3 ∧ Sl wx (some ad) 3 [x, ByteArray.empty, z] ∧ Below w4.heap.size w4 wx)
        case first =>
          go_region_law (fail)
          all_goals (
            go_wp2
            go_meet
            refine ⟨⟨w4.heap.size, 0, none⟩, rfl, ?_, ?_⟩
            · exact (lit_slD (w := w4) (T := 9) #[.string x, .string ByteArray.empty, .string z] [x, ByteArray.empty, z] (by simp) rfl).keep (Nat.le_refl _) (fun a ha => rfl)
            · exact ext_drew (ext_alloc (Below.refl _ _) _))
        case rest =>
          obtain ⟨ad9, rfl, sl9, hb9⟩ := hcut
          obtain ⟨ao9, hao⟩ : ∃ a, some ad9 = a := ⟨_, rfl⟩
          rw [hao] at sl9 ⊢
          obtain ⟨w9, hw9⟩ : ∃ w9, w9 = w4 := ⟨_, rfl⟩
          have HM9 := (hb9.block _ (Array.getElem?_eq_some_iff.1 HM4.out).1).trans HM4.out
          have HBW9 := ext_trans HBW.out hb9
          clear HM4 HBW
          obtain ⟨w4, hw4⟩ : ∃ w4, w4 = wc := ⟨_, rfl⟩
          rw [← hw4] at HM9 HBW9 sl9 ⊢
          have HM4 := Lib.hid HM9
          have HBW := Lib.hid HBW9
          have SL := Lib.hid sl9
          obtain ⟨y, hy0⟩ : ∃ y : ByteArray, ByteArray.empty = y := ⟨_, rfl⟩
          rw [hy0] at SL
          have HLs := Lib.hid (show ∀ s ∈ [x, y, z], s.size ≤ 1000 from fun s hs => by
            simp at hs
            rcases hs with rfl | rfl | rfl
            · exact HLs0.out _ (by simp)
            · rw [← hy0]; decide
            · exact HLs0.out _ (by simp))
          have HR := Lib.hid (show threeF wd.data.toList (bysL [x, y, z]) = R from by
            rw [← HR0.out, ← hy0]
            unfold severalF
            rw [if_pos ⟨hrd, rfl⟩]
            rfl)
          clear HM9 HBW9 sl9 hb9 hw4 hw9 HR0 e0 e1 e2 b0 b1 hy0
          obtain ⟨ad, rfl, b0, e0⟩ := sl_str (i := 0) (x := x) SL.out (by decide) rfl
          have LC := Lib.hid (fun W (h : Below w4.heap.size w4 W) => cells3L (SL.out.below h))
          have NX := Lib.hid (fun W (h : Below w4.heap.size w4 W) => number_any x W (HE.out.below (ext_trans HBW.out h)) (by have := HLs.out x (by simp); omega))
          have NZ := Lib.hid (fun W (h : Below w4.heap.size w4 W) => number_any z W (HE.out.below (ext_trans HBW.out h)) (by have := HLs.out z (by simp); omega))
          obtain ⟨d0, d1, d2, dL, d3, d4⟩ := LC.out _ (Below.refl _ _)
          clear b0 e0
          by_cases hy : y.data.toList = []
          · have y1 : y.toList.isEmpty = true := by rw [toL_empty]; exact decide_eq_true hy
            obtain ⟨lv, lb, lkk⟩ := sum_look y
            have LK := Lib.hid (fun W (h : Below w4.heap.size w4 W) => lkk W w.heap.size ((h.block _ (Array.getElem?_eq_some_iff.1 HM4.out).1).trans HM4.out))
            clear lkk
            cases hx : numB x.data.toList with
            | false =>
              have hr : R = ([], 3) := by rw [← HR.out]; exact three_bad _ (fun h => by rw [hx] at h; cases h.1)
              subst hr
              rw [hx] at NX
              go_wp2_with (first
                | (go_at_call 138; ((with_reducible refine (NX.out _ (Below.refl _ _)).mono ?_); rintro e w5 ⟨v1, rfl, hv1, hb5⟩; skip; obtain ⟨c0, c1, c2', cL, c3, c4⟩ := LC.out _ hb5; have HB5 := Lib.hid hb5; clear hb5))
                | (go_at_call 138; ((with_reducible refine (NZ.out _ HB5.out).mono ?_); rintro e w6 ⟨v2, rfl, hv2, hb6⟩; skip; obtain ⟨c0, c1, c2', cL, c3, c4⟩ := LC.out _ (ext_trans HB5.out hb6); have lk := LK.out _ (ext_trans HB5.out hb6); have HB6 := Lib.hid (ext_trans HB5.out hb6); clear hb6)))
              go_ret2
              exact ⟨_, rfl, fun h => (by cases h), ext_trans HBW.out HB6.out⟩
            | true =>
              cases hz : numB z.data.toList with
              | false =>
                have hr : R = ([], 3) := by rw [← HR.out]; exact three_bad _ (fun h => by rw [hz] at h; cases h.2)
                subst hr
                rw [hx] at NX
                rw [hz] at NZ
                go_wp2_with (first
                  | (go_at_call 138; ((with_reducible refine (NX.out _ (Below.refl _ _)).mono ?_); rintro e w5 ⟨v1, rfl, hv1, hb5⟩; skip; obtain ⟨c0, c1, c2', cL, c3, c4⟩ := LC.out _ hb5; have HB5 := Lib.hid hb5; clear hb5))
                  | (go_at_call 138; ((with_reducible refine (NZ.out _ HB5.out).mono ?_); rintro e w6 ⟨v2, rfl, hv2, hb6⟩; skip; obtain ⟨c0, c1, c2', cL, c3, c4⟩ := LC.out _ (ext_trans HB5.out hb6); have lk := LK.out _ (ext_trans HB5.out hb6); have HB6 := Lib.hid (ext_trans HB5.out hb6); clear hb6)))
                go_ret2
                exact ⟨_, rfl, fun h => (by cases h), ext_trans HBW.out HB6.out⟩
              | true =>
                rw [hx] at NX
                rw [hz] at NZ
                obtain ⟨m1, hm1⟩ : ∃ m, atoiV x.data.toList = m := ⟨_, rfl⟩
                obtain ⟨m2, hm2⟩ : ∃ m, atoiV z.data.toList = m := ⟨_, rfl⟩
                have im1 : I64 m1 := hm1 ▸ numB_i64 hx
                have im2 : I64 m2 := hm2 ▸ numB_i64 hz
                rw [hm1] at NX
                rw [hm2] at NZ
                clear LK
                have LK := Lib.hid (fun W (h : Below w4.heap.size w4 W) => sum_none (W := W) (b := w.heap.size) (x := y) ((h.block _ (Array.getElem?_eq_some_iff.1 HM4.out).1).trans HM4.out) (by rw [hy]; decide) (by rw [hy]; decide) (by rw [hy]; decide) (by rw [hy]; decide))
                have ro := fun W => rout_any m1 m2 W
                cases hrg : isRangeB m1 m2 with
                | false =>
                  have hr : R = ([], 1) := by
                    rw [← HR.out]
                    exact three_round hrd hx hz hy (by rw [hm1, hm2]; unfold roundS; rw [hrg]; rfl)
                  subst hr
                  rw [hrg] at ro
                  simp only [Bool.false_eq_true, if_false] at ro
                  have it := fun W (hW : Tab10 W) => itoa_any 0 ⟨by decide, by decide⟩ W hW
                  obtain ⟨Z, hZ⟩ : ∃ Z : ByteArray, (⟨(Lib.itoa 0).toArray⟩ : ByteArray) = Z := ⟨_, rfl⟩
                  rw [hZ] at it
                  have hZ1 : Z = ba [48] := by rw [← hZ, itoa0D]; rfl
                  have a1 : Op.stringOp .add Z ⟨#[32]⟩ = pure (.string (ba [48, 32])) := by rw [hZ1]; exact baD_add [48] [32] (by decide)
                  have a2 : Op.stringOp .add (ba [48, 32]) Z = pure (.string (ba [48, 32, 48])) := by rw [hZ1]; exact baD_add [48, 32] [48] (by decide)
                  have IT := Lib.hid it
                  have RO := Lib.hid ro
                  clear it ro hZ hZ1
                  go_wp2_with (first
                    | (go_at_call 138; ((with_reducible refine (NX.out _ (Below.refl _ _)).mono ?_); rintro e w5 ⟨v1, rfl, hv1, hb5⟩; obtain rfl := (hv1 (by first | rfl | trivial)).symm; obtain ⟨c0, c1, c2', cL, c3, c4⟩ := LC.out _ hb5; have HB5 := Lib.hid hb5; clear hb5))
                    | (go_at_call 138; ((with_reducible refine (NZ.out _ HB5.out).mono ?_); rintro e w6 ⟨v2, rfl, hv2, hb6⟩; obtain rfl := (hv2 (by first | rfl | trivial)).symm; obtain ⟨c0, c1, c2', cL, c3, c4⟩ := LC.out _ (ext_trans HB5.out hb6); have lk := LK.out _ (ext_trans HB5.out hb6); have HB6 := Lib.hid (ext_trans HB5.out hb6); clear hb6))
                    | (go_at_call 182; ((with_reducible refine (RO.out _).mono ?_); rintro e w7 ⟨rfl, hw7⟩; subst hw7))
                    | (go_at_call 108; ((with_reducible refine (IT.out _ (HE.out.below (ext_trans HBW.out HB6.out)).ten).mono ?_); rintro e w8 ⟨rfl, hb8⟩; have HB8 := Lib.hid (ext_trans HB6.out hb8); clear hb8))
                    | (go_at_call 108; ((with_reducible refine (IT.out _ (HE.out.below (ext_trans HBW.out HB8.out)).ten).mono ?_); rintro e w9 ⟨rfl, hb9⟩; have HB9 := Lib.hid (ext_trans HB8.out hb9); clear hb9)))
                  go_ret2
                  exact ⟨_, rfl, fun h => (by cases h), ext_trans HBW.out HB9.out⟩
                | true =>
                  obtain ⟨p1, hp1⟩ : ∃ p, dnI (2 ^ leastN m1 m2) m1 = p := ⟨_, rfl⟩
                  obtain ⟨p2, hp2⟩ : ∃ p, szI (leastN m1 m2) m1 m2 = p := ⟨_, rfl⟩
                  have hr : R = (Lib.itoa p1 ++ 32 :: Lib.itoa p2, 0) := by
                    rw [← HR.out]
                    exact three_round hrd hx hz hy (by rw [hm1, hm2]; unfold roundS; rw [hrg, hp1, hp2]; rfl)
                  subst hr
                  obtain ⟨ip1, ip2⟩ := round_i64 hrg
                  rw [hrg] at ro
                  simp only [if_true] at ro
                  rw [hp1, hp2] at ro
                  rw [hp1] at ip1
                  rw [hp2] at ip2
                  have it1 := fun W (hW : Tab10 W) => itoa_any p1 ip1 W hW
                  have it2 := fun W (hW : Tab10 W) => itoa_any p2 ip2 W hW
                  have g1 := itoa_lenD ip1
                  have g2 := itoa_lenD ip2
                  obtain ⟨Z1, hZ1⟩ : ∃ Z : ByteArray, (⟨(Lib.itoa p1).toArray⟩ : ByteArray) = Z := ⟨_, rfl⟩
                  obtain ⟨Z2, hZ2⟩ : ∃ Z : ByteArray, (⟨(Lib.itoa p2).toArray⟩ : ByteArray) = Z := ⟨_, rfl⟩
                  rw [hZ1] at it1
                  rw [hZ2] at it2
                  obtain ⟨Y1, hY1⟩ : ∃ Y, ba (Lib.itoa p1 ++ [32]) = Y := ⟨_, rfl⟩
                  obtain ⟨Y2, hY2⟩ : ∃ Y, ba (Lib.itoa p1 ++ 32 :: Lib.itoa p2) = Y := ⟨_, rfl⟩
                  have a1 : Op.stringOp .add Z1 ⟨#[32]⟩ = pure (.string Y1) := by rw [← hZ1, ← hY1]; exact baD_add (Lib.itoa p1) [32] (by simp only [List.length_cons, List.length_nil]; omega)
                  have a2 : Op.stringOp .add Y1 Z2 = pure (.string Y2) := by
                    have e : Lib.itoa p1 ++ 32 :: Lib.itoa p2 = (Lib.itoa p1 ++ [32]) ++ Lib.itoa p2 := by simp
                    rw [← hZ2, ← hY1, ← hY2, e]
                    exact baD_add (Lib.itoa p1 ++ [32]) (Lib.itoa p2) (by rw [List.length_append]; simp only [List.length_cons, List.length_nil]; omega)
                  have HY2 := Lib.hid hY2
                  have IT1 := Lib.hid it1
                  have IT2 := Lib.hid it2
                  have RO := Lib.hid ro
                  clear it1 it2 ro hZ1 hZ2 hY1 hY2 g1 g2
                  go_wp2_with (first
                    | (go_at_call 138; ((with_reducible refine (NX.out _ (Below.refl _ _)).mono ?_); rintro e w5 ⟨v1, rfl, hv1, hb5⟩; obtain rfl := (hv1 (by first | rfl | trivial)).symm; obtain ⟨c0, c1, c2', cL, c3, c4⟩ := LC.out _ hb5; have HB5 := Lib.hid hb5; clear hb5))
                    | (go_at_call 138; ((with_reducible refine (NZ.out _ HB5.out).mono ?_); rintro e w6 ⟨v2, rfl, hv2, hb6⟩; obtain rfl := (hv2 (by first | rfl | trivial)).symm; obtain ⟨c0, c1, c2', cL, c3, c4⟩ := LC.out _ (ext_trans HB5.out hb6); have lk := LK.out _ (ext_trans HB5.out hb6); have HB6 := Lib.hid (ext_trans HB5.out hb6); clear hb6))
                    | (go_at_call 182; ((with_reducible refine (RO.out _).mono ?_); rintro e w7 ⟨rfl, hw7⟩; subst hw7))
                    | (go_at_call 108; ((with_reducible refine (IT1.out _ (HE.out.below (ext_trans HBW.out HB6.out)).ten).mono ?_); rintro e w8 ⟨rfl, hb8⟩; have HB8 := Lib.hid (ext_trans HB6.out hb8); clear hb8))
                    | (go_at_call 108; ((with_reducible refine (IT2.out _ (HE.out.below (ext_trans HBW.out HB8.out)).ten).mono ?_); rintro e w9 ⟨rfl, hb9⟩; have HB9 := Lib.hid (ext_trans HB8.out hb9); clear hb9)))
                  go_ret2
                  exact ⟨_, rfl, fun _ => HY2.out.symm, ext_trans HBW.out HB9.out⟩
          · have y1 : y.toList.isEmpty = false := by rw [toL_empty]; exact decide_eq_false hy
            have hr : R = ([], 3) := by rw [← HR.out]; exact three_round_bad hrd hy
            subst hr
            go_wp2
            go_ret2
            exact ⟨_, rfl, fun h => (by cases h), HBW.out⟩
    · have q2 : ((n : Int) == 2) = false := beq_false_of_ne (by omega)
      have HR := Lib.hid (show threeF wd.data.toList (bysL l) = R from by
        rw [← HR0.out]
        unfold severalF
        rw [if_neg (fun h => h2 (by have := h.2; unfold bysL at this; rw [List.length_map] at this; omega))])
      by_cases h3 : n = 3
      · subst h3
        match l, hln with
        | [x, y, z], _ =>
          have SL := Lib.hid (HL.out.below HBW.out)
          have HLs := HLs0
          clear hln
          obtain ⟨ad, rfl, b0, e0⟩ := sl_str (i := 0) (x := x) SL.out (by decide) rfl
          have LC := Lib.hid (fun W (h : Below w4.heap.size w4 W) => cells3L (SL.out.below h))
          have NX := Lib.hid (fun W (h : Below w4.heap.size w4 W) => number_any x W (HE.out.below (ext_trans HBW.out h)) (by have := HLs.out x (by simp); omega))
          have NZ := Lib.hid (fun W (h : Below w4.heap.size w4 W) => number_any z W (HE.out.below (ext_trans HBW.out h)) (by have := HLs.out z (by simp); omega))
          obtain ⟨d0, d1, d2, dL, d3, d4⟩ := LC.out _ (Below.refl _ _)
          clear b0 e0
          by_cases hy : y.data.toList = []
          · have y1 : y.toList.isEmpty = true := by rw [toL_empty]; exact decide_eq_true hy
            obtain ⟨lv, lb, lkk⟩ := sum_look y
            have LK := Lib.hid (fun W (h : Below w4.heap.size w4 W) => lkk W w.heap.size ((h.block _ (Array.getElem?_eq_some_iff.1 HM4.out).1).trans HM4.out))
            clear lkk
            cases hx : numB x.data.toList with
            | false =>
              have hr : R = ([], 3) := by rw [← HR.out]; exact three_bad _ (fun h => by rw [hx] at h; cases h.1)
              subst hr
              rw [hx] at NX
              go_wp2_with (first
                | (go_at_call 138; ((with_reducible refine (NX.out _ (Below.refl _ _)).mono ?_); rintro e w5 ⟨v1, rfl, hv1, hb5⟩; skip; obtain ⟨c0, c1, c2', cL, c3, c4⟩ := LC.out _ hb5; have HB5 := Lib.hid hb5; clear hb5))
                | (go_at_call 138; ((with_reducible refine (NZ.out _ HB5.out).mono ?_); rintro e w6 ⟨v2, rfl, hv2, hb6⟩; skip; obtain ⟨c0, c1, c2', cL, c3, c4⟩ := LC.out _ (ext_trans HB5.out hb6); have lk := LK.out _ (ext_trans HB5.out hb6); have HB6 := Lib.hid (ext_trans HB5.out hb6); clear hb6)))
              go_ret2
              exact ⟨_, rfl, fun h => (by cases h), ext_trans HBW.out HB6.out⟩
            | true =>
              cases hz : numB z.data.toList with
              | false =>
                have hr : R = ([], 3) := by rw [← HR.out]; exact three_bad _ (fun h => by rw [hz] at h; cases h.2)
                subst hr
                rw [hx] at NX
                rw [hz] at NZ
                go_wp2_with (first
                  | (go_at_call 138; ((with_reducible refine (NX.out _ (Below.refl _ _)).mono ?_); rintro e w5 ⟨v1, rfl, hv1, hb5⟩; skip; obtain ⟨c0, c1, c2', cL, c3, c4⟩ := LC.out _ hb5; have HB5 := Lib.hid hb5; clear hb5))
                  | (go_at_call 138; ((with_reducible refine (NZ.out _ HB5.out).mono ?_); rintro e w6 ⟨v2, rfl, hv2, hb6⟩; skip; obtain ⟨c0, c1, c2', cL, c3, c4⟩ := LC.out _ (ext_trans HB5.out hb6); have lk := LK.out _ (ext_trans HB5.out hb6); have HB6 := Lib.hid (ext_trans HB5.out hb6); clear hb6)))
                go_ret2
                exact ⟨_, rfl, fun h => (by cases h), ext_trans HBW.out HB6.out⟩
              | true =>
                rw [hx] at NX
                rw [hz] at NZ
                obtain ⟨m1, hm1⟩ : ∃ m, atoiV x.data.toList = m := ⟨_, rfl⟩
                obtain ⟨m2, hm2⟩ : ∃ m, atoiV z.data.toList = m := ⟨_, rfl⟩
                have im1 : I64 m1 := hm1 ▸ numB_i64 hx
                have im2 : I64 m2 := hm2 ▸ numB_i64 hz
                rw [hm1] at NX
                rw [hm2] at NZ
                clear LK
                have LK := Lib.hid (fun W (h : Below w4.heap.size w4 W) => sum_none (W := W) (b := w.heap.size) (x := y) ((h.block _ (Array.getElem?_eq_some_iff.1 HM4.out).1).trans HM4.out) (by rw [hy]; decide) (by rw [hy]; decide) (by rw [hy]; decide) (by rw [hy]; decide))
                have ro := fun W => rout_any m1 m2 W
                cases hrg : isRangeB m1 m2 with
                | false =>
                  have hr : R = ([], 1) := by
                    rw [← HR.out]
                    exact three_round hrd hx hz hy (by rw [hm1, hm2]; unfold roundS; rw [hrg]; rfl)
                  subst hr
                  rw [hrg] at ro
                  simp only [Bool.false_eq_true, if_false] at ro
                  have it := fun W (hW : Tab10 W) => itoa_any 0 ⟨by decide, by decide⟩ W hW
                  obtain ⟨Z, hZ⟩ : ∃ Z : ByteArray, (⟨(Lib.itoa 0).toArray⟩ : ByteArray) = Z := ⟨_, rfl⟩
                  rw [hZ] at it
                  have hZ1 : Z = ba [48] := by rw [← hZ, itoa0D]; rfl
                  have a1 : Op.stringOp .add Z ⟨#[32]⟩ = pure (.string (ba [48, 32])) := by rw [hZ1]; exact baD_add [48] [32] (by decide)
                  have a2 : Op.stringOp .add (ba [48, 32]) Z = pure (.string (ba [48, 32, 48])) := by rw [hZ1]; exact baD_add [48, 32] [48] (by decide)
                  have IT := Lib.hid it
                  have RO := Lib.hid ro
                  clear it ro hZ hZ1
                  go_wp2_with (first
                    | (go_at_call 138; ((with_reducible refine (NX.out _ (Below.refl _ _)).mono ?_); rintro e w5 ⟨v1, rfl, hv1, hb5⟩; obtain rfl := (hv1 (by first | rfl | trivial)).symm; obtain ⟨c0, c1, c2', cL, c3, c4⟩ := LC.out _ hb5; have HB5 := Lib.hid hb5; clear hb5))
                    | (go_at_call 138; ((with_reducible refine (NZ.out _ HB5.out).mono ?_); rintro e w6 ⟨v2, rfl, hv2, hb6⟩; obtain rfl := (hv2 (by first | rfl | trivial)).symm; obtain ⟨c0, c1, c2', cL, c3, c4⟩ := LC.out _ (ext_trans HB5.out hb6); have lk := LK.out _ (ext_trans HB5.out hb6); have HB6 := Lib.hid (ext_trans HB5.out hb6); clear hb6))
                    | (go_at_call 182; ((with_reducible refine (RO.out _).mono ?_); rintro e w7 ⟨rfl, hw7⟩; subst hw7))
                    | (go_at_call 108; ((with_reducible refine (IT.out _ (HE.out.below (ext_trans HBW.out HB6.out)).ten).mono ?_); rintro e w8 ⟨rfl, hb8⟩; have HB8 := Lib.hid (ext_trans HB6.out hb8); clear hb8))
                    | (go_at_call 108; ((with_reducible refine (IT.out _ (HE.out.below (ext_trans HBW.out HB8.out)).ten).mono ?_); rintro e w9 ⟨rfl, hb9⟩; have HB9 := Lib.hid (ext_trans HB8.out hb9); clear hb9)))
                  go_ret2
                  exact ⟨_, rfl, fun h => (by cases h), ext_trans HBW.out HB9.out⟩
                | true =>
                  obtain ⟨p1, hp1⟩ : ∃ p, dnI (2 ^ leastN m1 m2) m1 = p := ⟨_, rfl⟩
                  obtain ⟨p2, hp2⟩ : ∃ p, szI (leastN m1 m2) m1 m2 = p := ⟨_, rfl⟩
                  have hr : R = (Lib.itoa p1 ++ 32 :: Lib.itoa p2, 0) := by
                    rw [← HR.out]
                    exact three_round hrd hx hz hy (by rw [hm1, hm2]; unfold roundS; rw [hrg, hp1, hp2]; rfl)
                  subst hr
                  obtain ⟨ip1, ip2⟩ := round_i64 hrg
                  rw [hrg] at ro
                  simp only [if_true] at ro
                  rw [hp1, hp2] at ro
                  rw [hp1] at ip1
                  rw [hp2] at ip2
                  have it1 := fun W (hW : Tab10 W) => itoa_any p1 ip1 W hW
                  have it2 := fun W (hW : Tab10 W) => itoa_any p2 ip2 W hW
                  have g1 := itoa_lenD ip1
                  have g2 := itoa_lenD ip2
                  obtain ⟨Z1, hZ1⟩ : ∃ Z : ByteArray, (⟨(Lib.itoa p1).toArray⟩ : ByteArray) = Z := ⟨_, rfl⟩
                  obtain ⟨Z2, hZ2⟩ : ∃ Z : ByteArray, (⟨(Lib.itoa p2).toArray⟩ : ByteArray) = Z := ⟨_, rfl⟩
                  rw [hZ1] at it1
                  rw [hZ2] at it2
                  obtain ⟨Y1, hY1⟩ : ∃ Y, ba (Lib.itoa p1 ++ [32]) = Y := ⟨_, rfl⟩
                  obtain ⟨Y2, hY2⟩ : ∃ Y, ba (Lib.itoa p1 ++ 32 :: Lib.itoa p2) = Y := ⟨_, rfl⟩
                  have a1 : Op.stringOp .add Z1 ⟨#[32]⟩ = pure (.string Y1) := by rw [← hZ1, ← hY1]; exact baD_add (Lib.itoa p1) [32] (by simp only [List.length_cons, List.length_nil]; omega)
                  have a2 : Op.stringOp .add Y1 Z2 = pure (.string Y2) := by
                    have e : Lib.itoa p1 ++ 32 :: Lib.itoa p2 = (Lib.itoa p1 ++ [32]) ++ Lib.itoa p2 := by simp
                    rw [← hZ2, ← hY1, ← hY2, e]
                    exact baD_add (Lib.itoa p1 ++ [32]) (Lib.itoa p2) (by rw [List.length_append]; simp only [List.length_cons, List.length_nil]; omega)
                  have HY2 := Lib.hid hY2
                  have IT1 := Lib.hid it1
                  have IT2 := Lib.hid it2
                  have RO := Lib.hid ro
                  clear it1 it2 ro hZ1 hZ2 hY1 hY2 g1 g2
                  go_wp2_with (first
                    | (go_at_call 138; ((with_reducible refine (NX.out _ (Below.refl _ _)).mono ?_); rintro e w5 ⟨v1, rfl, hv1, hb5⟩; obtain rfl := (hv1 (by first | rfl | trivial)).symm; obtain ⟨c0, c1, c2', cL, c3, c4⟩ := LC.out _ hb5; have HB5 := Lib.hid hb5; clear hb5))
                    | (go_at_call 138; ((with_reducible refine (NZ.out _ HB5.out).mono ?_); rintro e w6 ⟨v2, rfl, hv2, hb6⟩; obtain rfl := (hv2 (by first | rfl | trivial)).symm; obtain ⟨c0, c1, c2', cL, c3, c4⟩ := LC.out _ (ext_trans HB5.out hb6); have lk := LK.out _ (ext_trans HB5.out hb6); have HB6 := Lib.hid (ext_trans HB5.out hb6); clear hb6))
                    | (go_at_call 182; ((with_reducible refine (RO.out _).mono ?_); rintro e w7 ⟨rfl, hw7⟩; subst hw7))
                    | (go_at_call 108; ((with_reducible refine (IT1.out _ (HE.out.below (ext_trans HBW.out HB6.out)).ten).mono ?_); rintro e w8 ⟨rfl, hb8⟩; have HB8 := Lib.hid (ext_trans HB6.out hb8); clear hb8))
                    | (go_at_call 108; ((with_reducible refine (IT2.out _ (HE.out.below (ext_trans HBW.out HB8.out)).ten).mono ?_); rintro e w9 ⟨rfl, hb9⟩; have HB9 := Lib.hid (ext_trans HB8.out hb9); clear hb9)))
                  go_ret2
                  exact ⟨_, rfl, fun _ => HY2.out.symm, ext_trans HBW.out HB9.out⟩
          · have y1 : y.toList.isEmpty = false := by rw [toL_empty]; exact decide_eq_false hy
            have hr : R = ([], 3) := by rw [← HR.out]; exact three_round_bad hrd hy
            subst hr
            go_wp2
            go_ret2
            exact ⟨_, rfl, fun h => (by cases h), HBW.out⟩
      · have q3 : ((n : Int) != 3) = true := by simp; omega
        have hr : R = ([], 3) := by rw [← HR.out]; exact three_len _ (by omega)
        subst hr
        go_wp2
        go_ret2
        exact ⟨_, rfl, fun h => (by cases h), HBW.out⟩
theorem several_any (wd : ByteArray) (ao : Option Addr) (n c : Nat) (l : List ByteArray) (w : World) (he : PEnv w) (hl : Sl w ao n l) (hs : ∀ s ∈ l, s.size ≤ 1000) (hw : wd.data.toList = wRound ∨ wd.data.toList = wCalc) :
    Calls Tryz.prog 135 #[.string wd, .slice ao n c] w (SevPost w (severalF wd.data.toList (bysL l))) := by
  rcases hw with h | h
  · exact several_round wd ao n c l w he hl hs h
  · have e : severalF wd.data.toList (bysL l) = threeF wd.data.toList (bysL l) := by
      unfold severalF
      rw [if_neg (fun h2 => by rw [h] at h2; exact absurd h2.1 (by decide))]
    rw [e]
    exact several_calc wd ao n c l w he hl hs h
end Go.Proofs.YtpjhjefjbkjhkaaGreatDoor
