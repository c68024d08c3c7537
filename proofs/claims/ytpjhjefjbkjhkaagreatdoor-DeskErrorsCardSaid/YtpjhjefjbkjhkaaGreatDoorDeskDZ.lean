import Derived.Test.YtpjhjefjbkjhkaaGreatDoorDeskCZ
/- What several computes. -/
namespace Go.Proofs.YtpjhjefjbkjhkaaGreatDoor
open Go Go.RowKit Go.Shelf
set_option linter.unusedVariables false
set_option linter.unusedSimpArgs false
theorem w32_i64 (n : Int) : I64 (wrap32 n) := by have := w32_bd n; constructor <;> omega
theorem round_i64 {a b : Int} (h : isRangeB a b = true) : I64 (dnI (2 ^ leastN a b) a) ∧ I64 (szI (leastN a b) a b) := by
  have h1 : 0 ≤ a ∧ a < 65536 ∧ 0 ≤ b ∧ b ≤ 65536 - a := of_decide_eq_true h
  obtain ⟨L, hL⟩ := least_ex (b := a) (n := b) h1.1 (by omega)
  rw [leastN_is hL]
  have := around_bd hL.le h1.1 (by omega) h1.2.2.1
  constructor <;> constructor <;> omega
theorem sum_look (y : ByteArray) : ∃ v bb, ∀ (W : World) (b : Nat), W.heap[b]? = some (.map sumEs 4) → (Instr.lookup 268 (.map (some b)) (.string y) true).run Tryz.prog W = .ok (.tuple #[v, .bool bb]) W := by
  by_cases k1 : y.data.toList = wAdd
  · exact ⟨_, _, fun W b h => sum_add h k1⟩
  by_cases k2 : y.data.toList = wSub
  · exact ⟨_, _, fun W b h => sum_sub h k2⟩
  by_cases k3 : y.data.toList = wMul
  · exact ⟨_, _, fun W b h => sum_mul h k3⟩
  by_cases k4 : y.data.toList = wLess
  · exact ⟨_, _, fun W b h => sum_less h k4⟩
  exact ⟨_, _, fun W b h => sum_none h k1 k2 k3 k4⟩
theorem three_bad {x y z : ByteArray} (wd : Bys) (h : ¬ (numB x.data.toList = true ∧ numB z.data.toList = true)) : threeF wd (bysL [x, y, z]) = ([], 3) := by
  unfold threeF bysL
  simp only [List.map_cons, List.map_nil, List.length_cons, List.length_nil, List.getD_cons_zero, List.getD_cons_succ]
  rw [if_pos trivial, if_neg h]
theorem three_len {l : List ByteArray} (wd : Bys) (h : l.length ≠ 3) : threeF wd (bysL l) = ([], 3) := by
  unfold threeF
  rw [if_neg (by unfold bysL; rw [List.length_map]; exact h)]
theorem three_round {x y z : ByteArray} {wd : Bys} {r : Bys × Int} (hw : wd = wRound) (hx : numB x.data.toList = true) (hz : numB z.data.toList = true) (hy : y.data.toList = []) (hr : roundS (atoiV x.data.toList) (atoiV z.data.toList) = r) : threeF wd (bysL [x, y, z]) = r := by
  unfold threeF bysL
  simp only [List.map_cons, List.map_nil, List.length_cons, List.length_nil, List.getD_cons_zero, List.getD_cons_succ]
  rw [if_pos trivial, if_pos ⟨hx, hz⟩, if_pos hw, if_pos hy, hr]
theorem three_round_bad {x y z : ByteArray} {wd : Bys} (hw : wd = wRound) (hy : y.data.toList ≠ []) : threeF wd (bysL [x, y, z]) = ([], 3) := by
  unfold threeF bysL
  simp only [List.map_cons, List.map_nil, List.length_cons, List.length_nil, List.getD_cons_zero, List.getD_cons_succ]
  rw [if_pos trivial, if_pos hw, if_neg hy]
  split <;> rfl
theorem three_calc {x y z : ByteArray} {wd : Bys} {r : Bys × Int} (hw : wd = wCalc) (hx : numB x.data.toList = true) (hz : numB z.data.toList = true) (hr : calcF (atoiV x.data.toList) (atoiV z.data.toList) y.data.toList = r) : threeF wd (bysL [x, y, z]) = r := by
  unfold threeF bysL
  simp only [List.map_cons, List.map_nil, List.length_cons, List.length_nil, List.getD_cons_zero, List.getD_cons_succ]
  rw [if_pos trivial, if_pos ⟨hx, hz⟩, if_neg (by rw [hw]; decide), hr]
theorem cells3L {W : World} {ad : Addr} {x y z : ByteArray} (h : Sl W (some ad) 3 [x, y, z]) : W.cell? ad = some (.string x) ∧ W.cell? (ad.add 1) = some (.string y) ∧ W.cell? (ad.add 2) = some (.string z) ∧ ad.block < W.heap.size ∧ W.cell? ⟨ad.block, ad.off + 1, none⟩ = some (.string y) ∧ W.cell? ⟨ad.block, ad.off + 2, none⟩ = some (.string z) := by
  obtain ⟨a0, e0, b0, c0⟩ := sl_str (i := 0) (x := x) h (by decide) rfl
  obtain ⟨a1, e1, b1, c1⟩ := sl_str (i := 1) (x := y) h (by decide) rfl
  obtain ⟨a2, e2, b2, c2⟩ := sl_str (i := 2) (x := z) h (by decide) rfl
  injection e0 with e0
  injection e1 with e1
  injection e2 with e2
  subst e0 e1 e2
  rw [show ad.add 0 = ad by unfold Addr.add; rfl] at b0 c0
  have n1 : ad.add 1 = ⟨ad.block, ad.off + 1, none⟩ := by unfold Addr.add; rw [if_neg (by decide)]
  have n2 : ad.add 2 = ⟨ad.block, ad.off + 2, none⟩ := by unfold Addr.add; rw [if_neg (by decide)]
  exact ⟨c0, c1, c2, b0, n1 ▸ c1, n2 ▸ c2⟩
set_option maxHeartbeats 40000000 in
set_option maxRecDepth 100000 in
theorem several_calc (wd : ByteArray) (ao : Option Addr) (n c : Nat) (L : List ByteArray) (w : World) (he : PEnv w) (hl : Sl w ao n L) (hs : ∀ s ∈ L, s.size ≤ 1000) (hrc : wd.data.toList = wCalc) :
    Calls Tryz.prog 135 #[.string wd, .slice ao n c] w (SevPost w (threeF wd.data.toList (bysL L))) := by
  have hq : (wd.toList == [114, 111, 117, 110, 100]) = false := by rw [toL_eq, hrc]; decide
  have hq2 : (wd.toList == [99, 97, 108, 99]) = true := by rw [toL_eq, hrc]; decide
  have hln := hl.len
  obtain ⟨R, hR⟩ : ∃ R, threeF wd.data.toList (bysL L) = R := ⟨_, rfl⟩
  rw [hR]
  have HR := Lib.hid hR
  have HE := Lib.hid he
  have HLs := Lib.hid hs
  have HL := Lib.hid hl
  clear hR he hs hl
  go_enter Tryz.func135, Tryz.ntmps135
  go_upto_region 1 with (fail)
  go_cut [6] (fun s6 wx => s6 = .map (some w.heap.size) ∧ wx.heap[w.heap.size]? = some (.map sumEs 4) ∧ Below w.heap.size w wx)
  case first =>
    go_wp2_with (first
      | (refine wpList_mkm rfl 268 rfl ?_)
      | (refine wpList_ins rfl 268 9 170 (.tmp 18) (.const (.string ⟨#[97, 100, 100]⟩)) (.func 178) rfl rfl sumU Tryz.underlying9 w.heap.size 0 #[] ⟨#[97, 100, 100]⟩ (.func (.func 178) #[] #[]) rfl rfl rfl (World.alloc_heap_new w (.map #[] 0)) rfl ?_)
      | (refine wpList_ins rfl 268 9 170 (.tmp 18) (.const (.string ⟨#[115, 117, 98]⟩)) (.func 179) rfl rfl sumU Tryz.underlying9 w.heap.size 1 #[⟨.string ⟨#[97, 100, 100]⟩, .func (.func 178) #[] #[], 0⟩] ⟨#[115, 117, 98]⟩ (.func (.func 179) #[] #[]) rfl rfl rfl (World.putObj_heap_same (by simp [World.putObj])) rfl ?_)
      | (refine wpList_ins rfl 268 9 170 (.tmp 18) (.const (.string ⟨#[109, 117, 108]⟩)) (.func 180) rfl rfl sumU Tryz.underlying9 w.heap.size 2 #[⟨.string ⟨#[97, 100, 100]⟩, .func (.func 178) #[] #[], 0⟩, ⟨.string ⟨#[115, 117, 98]⟩, .func (.func 179) #[] #[], 1⟩] ⟨#[109, 117, 108]⟩ (.func (.func 180) #[] #[]) rfl rfl rfl (World.putObj_heap_same (by simp [World.putObj])) rfl ?_)
      | (refine wpList_ins rfl 268 9 170 (.tmp 18) (.const (.string ⟨#[108, 101, 115, 115]⟩)) (.func 181) rfl rfl sumU Tryz.underlying9 w.heap.size 3 #[⟨.string ⟨#[97, 100, 100]⟩, .func (.func 178) #[] #[], 0⟩, ⟨.string ⟨#[115, 117, 98]⟩, .func (.func 179) #[] #[], 1⟩, ⟨.string ⟨#[109, 117, 108]⟩, .func (.func 180) #[] #[], 2⟩] ⟨#[108, 101, 115, 115]⟩ (.func (.func 181) #[] #[]) rfl rfl rfl (World.putObj_heap_same (by simp [World.putObj])) rfl ?_))
    go_meet
    exact ⟨rfl, World.putObj_heap_same (by simp [World.putObj]), below_putObj (below_putObj (below_putObj (below_putObj (ext_alloc (Below.refl _ _) _) (Nat.le_refl _)) (Nat.le_refl _)) (Nat.le_refl _)) (Nat.le_refl _)⟩
  case rest =>
    obtain ⟨rfl, hm, hb⟩ := hcut
    obtain ⟨w4, hw4⟩ : ∃ w4, w4 = wc := ⟨_, rfl⟩
    rw [← hw4] at hm hb ⊢
    have HM4 := Lib.hid hm
    have HBW := Lib.hid hb
    clear hm hb hw4
    by_cases h3 : n = 3
    · subst h3
      match L, hln with
      | [x, y, z], _ =>
        have SL := Lib.hid (HL.out.below HBW.out)
        clear hln
        obtain ⟨ad, rfl, b0, e0⟩ := sl_str (i := 0) (x := x) SL.out (by decide) rfl
        have LC := Lib.hid (fun W (h : Below w4.heap.size w4 W) => cells3L (SL.out.below h))
        have NX := Lib.hid (fun W (h : Below w4.heap.size w4 W) => number_any x W (HE.out.below (ext_trans HBW.out h)) (by have := HLs.out x (by simp); omega))
        have NZ := Lib.hid (fun W (h : Below w4.heap.size w4 W) => number_any z W (HE.out.below (ext_trans HBW.out h)) (by have := HLs.out z (by simp); omega))
        obtain ⟨d0, d1, d2, dL, d3, d4⟩ := LC.out _ (Below.refl _ _)
        clear b0 e0
        obtain ⟨lv, lb, lkk⟩ := sum_look y
        have LK := Lib.hid (fun W (h : Below w4.heap.size w4 W) => lkk W w.heap.size ((h.block _ (Array.getElem?_eq_some_iff.1 HM4.out).1).trans HM4.out))
        clear lkk
        cases hx : numB x.data.toList with
        | false =>
          have hr : R = ([], 3) := by rw [← HR.out]; exact three_bad _ (fun h => by rw [hx] at h; cases h.1)
          subst hr
          rw [hx] at NX
          go_wp2_with (first
            | (go_at_call 138; ((with_reducible refine (NX.out _ (Below.refl _ _)).mono ?_); rintro e w5 ⟨v1, rfl, hv1, hb5⟩; skip; obtain ⟨c0, c1, c2', cL, c3, c4⟩ := LC.out _ hb5; have HB5 := Lib.hid hb5; clear hb5))
            | (go_at_call 138; ((with_reducible refine (NZ.out _ HB5.out).mono ?_); rintro e w6 ⟨v2, rfl, hv2, hb6⟩; skip; obtain ⟨c0, c1, c2', cL, c3, c4⟩ := LC.out _ (ext_trans HB5.out hb6); have lk := LK.out _ (ext_trans HB5.out hb6); have HB6 := Lib.hid (ext_trans HB5.out hb6); clear hb6)))
          go_ret2
          exact ⟨_, rfl, fun h => (by cases h), ext_trans HBW.out HB6.out⟩
        | true =>
          cases hz : numB z.data.toList with
          | false =>
            have hr : R = ([], 3) := by rw [← HR.out]; exact three_bad _ (fun h => by rw [hz] at h; cases h.2)
            subst hr
            rw [hx] at NX
            rw [hz] at NZ
            go_wp2_with (first
              | (go_at_call 138; ((with_reducible refine (NX.out _ (Below.refl _ _)).mono ?_); rintro e w5 ⟨v1, rfl, hv1, hb5⟩; skip; obtain ⟨c0, c1, c2', cL, c3, c4⟩ := LC.out _ hb5; have HB5 := Lib.hid hb5; clear hb5))
              | (go_at_call 138; ((with_reducible refine (NZ.out _ HB5.out).mono ?_); rintro e w6 ⟨v2, rfl, hv2, hb6⟩; skip; obtain ⟨c0, c1, c2', cL, c3, c4⟩ := LC.out _ (ext_trans HB5.out hb6); have lk := LK.out _ (ext_trans HB5.out hb6); have HB6 := Lib.hid (ext_trans HB5.out hb6); clear hb6)))
            go_ret2
            exact ⟨_, rfl, fun h => (by cases h), ext_trans HBW.out HB6.out⟩
          | true =>
            rw [hx] at NX
            rw [hz] at NZ
            obtain ⟨m1, hm1⟩ : ∃ m, atoiV x.data.toList = m := ⟨_, rfl⟩
            obtain ⟨m2, hm2⟩ : ∃ m, atoiV z.data.toList = m := ⟨_, rfl⟩
            have im1 : I64 m1 := hm1 ▸ numB_i64 hx
            have im2 : I64 m2 := hm2 ▸ numB_i64 hz
            rw [hm1] at NX
            rw [hm2] at NZ
            by_cases k1 : y.data.toList = wAdd
            · have hr : R = (Lib.itoa (addF m1 m2), 0) := by
                rw [← HR.out]
                exact three_calc hrc hx hz (by rw [hm1, hm2, k1]; unfold calcF; rw [if_pos rfl])
              subst hr
              have LK := Lib.hid (fun W (h : Below w4.heap.size w4 W) => sum_add (W := W) (b := w.heap.size) ((h.block _ (Array.getElem?_eq_some_iff.1 HM4.out).1).trans HM4.out) k1)
              have op := fun W => add_any m1 m2 W
              obtain ⟨q, hq9⟩ : ∃ q, addF m1 m2 = q := ⟨_, rfl⟩
              have iq : I64 q := by rw [← hq9]; unfold addF; exact w32_i64 _
              rw [hq9] at op
              have it := fun W (hW : Tab10 W) => itoa_any q iq W hW
              have IT := Lib.hid it
              have OP := Lib.hid op
              clear it op
              go_wp2_with (first
                | (go_at_call 138; ((with_reducible refine (NX.out _ (Below.refl _ _)).mono ?_); rintro e w5 ⟨v1, rfl, hv1, hb5⟩; obtain rfl := (hv1 (by first | rfl | trivial)).symm; obtain ⟨c0, c1, c2', cL, c3, c4⟩ := LC.out _ hb5; have HB5 := Lib.hid hb5; clear hb5))
                | (go_at_call 138; ((with_reducible refine (NZ.out _ HB5.out).mono ?_); rintro e w6 ⟨v2, rfl, hv2, hb6⟩; obtain rfl := (hv2 (by first | rfl | trivial)).symm; obtain ⟨c0, c1, c2', cL, c3, c4⟩ := LC.out _ (ext_trans HB5.out hb6); have lk := LK.out _ (ext_trans HB5.out hb6); have HB6 := Lib.hid (ext_trans HB5.out hb6); clear hb6))
                | (go_at_call 178; ((with_reducible refine (OP.out _).mono ?_); rintro e w7 ⟨rfl, hw7⟩; subst hw7))
                | (go_at_call 108; ((with_reducible refine (IT.out _ (HE.out.below (ext_trans HBW.out HB6.out)).ten).mono ?_); rintro e w8 ⟨rfl, hb8⟩; have HB8 := Lib.hid (ext_trans HB6.out hb8); clear hb8)))
              go_ret2
              exact ⟨_, rfl, fun _ => by rw [hq9]; rfl, ext_trans HBW.out HB8.out⟩
            by_cases k2 : y.data.toList = wSub
            · have hr : R = (Lib.itoa (subF m1 m2), 0) := by
                rw [← HR.out]
                exact three_calc hrc hx hz (by rw [hm1, hm2, k2]; unfold calcF; rw [if_neg (by decide), if_pos rfl])
              subst hr
              have LK := Lib.hid (fun W (h : Below w4.heap.size w4 W) => sum_sub (W := W) (b := w.heap.size) ((h.block _ (Array.getElem?_eq_some_iff.1 HM4.out).1).trans HM4.out) k2)
              have op := fun W => sub_any m1 m2 W
              obtain ⟨q, hq9⟩ : ∃ q, subF m1 m2 = q := ⟨_, rfl⟩
              have iq : I64 q := by rw [← hq9]; unfold subF; exact w32_i64 _
              rw [hq9] at op
              have it := fun W (hW : Tab10 W) => itoa_any q iq W hW
              have IT := Lib.hid it
              have OP := Lib.hid op
              clear it op
              go_wp2_with (first
                | (go_at_call 138; ((with_reducible refine (NX.out _ (Below.refl _ _)).mono ?_); rintro e w5 ⟨v1, rfl, hv1, hb5⟩; obtain rfl := (hv1 (by first | rfl | trivial)).symm; obtain ⟨c0, c1, c2', cL, c3, c4⟩ := LC.out _ hb5; have HB5 := Lib.hid hb5; clear hb5))
                | (go_at_call 138; ((with_reducible refine (NZ.out _ HB5.out).mono ?_); rintro e w6 ⟨v2, rfl, hv2, hb6⟩; obtain rfl := (hv2 (by first | rfl | trivial)).symm; obtain ⟨c0, c1, c2', cL, c3, c4⟩ := LC.out _ (ext_trans HB5.out hb6); have lk := LK.out _ (ext_trans HB5.out hb6); have HB6 := Lib.hid (ext_trans HB5.out hb6); clear hb6))
                | (go_at_call 179; ((with_reducible refine (OP.out _).mono ?_); rintro e w7 ⟨rfl, hw7⟩; subst hw7))
                | (go_at_call 108; ((with_reducible refine (IT.out _ (HE.out.below (ext_trans HBW.out HB6.out)).ten).mono ?_); rintro e w8 ⟨rfl, hb8⟩; have HB8 := Lib.hid (ext_trans HB6.out hb8); clear hb8)))
              go_ret2
              exact ⟨_, rfl, fun _ => by rw [hq9]; rfl, ext_trans HBW.out HB8.out⟩
            by_cases k3 : y.data.toList = wMul
            · have hr : R = (Lib.itoa (mulF m1 m2), 0) := by
                rw [← HR.out]
                exact three_calc hrc hx hz (by rw [hm1, hm2, k3]; unfold calcF; rw [if_neg (by decide), if_neg (by decide), if_pos rfl])
              subst hr
              have LK := Lib.hid (fun W (h : Below w4.heap.size w4 W) => sum_mul (W := W) (b := w.heap.size) ((h.block _ (Array.getElem?_eq_some_iff.1 HM4.out).1).trans HM4.out) k3)
              have op := fun W => mul_any m1 m2 W
              obtain ⟨q, hq9⟩ : ∃ q, mulF m1 m2 = q := ⟨_, rfl⟩
              have iq : I64 q := by rw [← hq9]; unfold mulF; exact w32_i64 _
              rw [hq9] at op
              have it := fun W (hW : Tab10 W) => itoa_any q iq W hW
              have IT := Lib.hid it
              have OP := Lib.hid op
              clear it op
              go_wp2_with (first
                | (go_at_call 138; ((with_reducible refine (NX.out _ (Below.refl _ _)).mono ?_); rintro e w5 ⟨v1, rfl, hv1, hb5⟩; obtain rfl := (hv1 (by first | rfl | trivial)).symm; obtain ⟨c0, c1, c2', cL, c3, c4⟩ := LC.out _ hb5; have HB5 := Lib.hid hb5; clear hb5))
                | (go_at_call 138; ((with_reducible refine (NZ.out _ HB5.out).mono ?_); rintro e w6 ⟨v2, rfl, hv2, hb6⟩; obtain rfl := (hv2 (by first | rfl | trivial)).symm; obtain ⟨c0, c1, c2', cL, c3, c4⟩ := LC.out _ (ext_trans HB5.out hb6); have lk := LK.out _ (ext_trans HB5.out hb6); have HB6 := Lib.hid (ext_trans HB5.out hb6); clear hb6))
                | (go_at_call 180; ((with_reducible refine (OP.out _).mono ?_); rintro e w7 ⟨rfl, hw7⟩; subst hw7))
                | (go_at_call 108; ((with_reducible refine (IT.out _ (HE.out.below (ext_trans HBW.out HB6.out)).ten).mono ?_); rintro e w8 ⟨rfl, hb8⟩; have HB8 := Lib.hid (ext_trans HB6.out hb8); clear hb8)))
              go_ret2
              exact ⟨_, rfl, fun _ => by rw [hq9]; rfl, ext_trans HBW.out HB8.out⟩
            by_cases k4 : y.data.toList = wLess
            · have hr : R = (Lib.itoa (lessF m1 m2), 0) := by
                rw [← HR.out]
                exact three_calc hrc hx hz (by rw [hm1, hm2, k4]; unfold calcF; rw [if_neg (by decide), if_neg (by decide), if_neg (by decide), if_pos rfl])
              subst hr
              have LK := Lib.hid (fun W (h : Below w4.heap.size w4 W) => sum_less (W := W) (b := w.heap.size) ((h.block _ (Array.getElem?_eq_some_iff.1 HM4.out).1).trans HM4.out) k4)
              have op := fun W => less_any m1 m2 W
              obtain ⟨q, hq9⟩ : ∃ q, lessF m1 m2 = q := ⟨_, rfl⟩
              have iq : I64 q := by rw [← hq9]; unfold lessF; split <;> exact ⟨by decide, by decide⟩
              rw [hq9] at op
              have it := fun W (hW : Tab10 W) => itoa_any q iq W hW
              have IT := Lib.hid it
              have OP := Lib.hid op
              clear it op
              go_wp2_with (first
                | (go_at_call 138; ((with_reducible refine (NX.out _ (Below.refl _ _)).mono ?_); rintro e w5 ⟨v1, rfl, hv1, hb5⟩; obtain rfl := (hv1 (by first | rfl | trivial)).symm; obtain ⟨c0, c1, c2', cL, c3, c4⟩ := LC.out _ hb5; have HB5 := Lib.hid hb5; clear hb5))
                | (go_at_call 138; ((with_reducible refine (NZ.out _ HB5.out).mono ?_); rintro e w6 ⟨v2, rfl, hv2, hb6⟩; obtain rfl := (hv2 (by first | rfl | trivial)).symm; obtain ⟨c0, c1, c2', cL, c3, c4⟩ := LC.out _ (ext_trans HB5.out hb6); have lk := LK.out _ (ext_trans HB5.out hb6); have HB6 := Lib.hid (ext_trans HB5.out hb6); clear hb6))
                | (go_at_call 181; ((with_reducible refine (OP.out _).mono ?_); rintro e w7 ⟨rfl, hw7⟩; subst hw7))
                | (go_at_call 108; ((with_reducible refine (IT.out _ (HE.out.below (ext_trans HBW.out HB6.out)).ten).mono ?_); rintro e w8 ⟨rfl, hb8⟩; have HB8 := Lib.hid (ext_trans HB6.out hb8); clear hb8)))
              go_ret2
              exact ⟨_, rfl, fun _ => by rw [hq9]; rfl, ext_trans HBW.out HB8.out⟩
            have LK := Lib.hid (fun W (h : Below w4.heap.size w4 W) => sum_none (W := W) (b := w.heap.size) (x := y) ((h.block _ (Array.getElem?_eq_some_iff.1 HM4.out).1).trans HM4.out) k1 k2 k3 k4)
            by_cases k5 : y.data.toList = wDiv
            · have y5 : (y.toList == [100, 105, 118]) = true := by rw [toL_eq]; exact decide_eq_true k5
              by_cases hd : wrap32 m2 = 0
              · have hr : R = ([], 14) := by
                  rw [← HR.out]
                  exact three_calc hrc hx hz (by rw [hm1, hm2, k5]; unfold calcF; rw [if_neg (by decide), if_neg (by decide), if_neg (by decide), if_neg (by decide), if_pos rfl, if_pos hd])
                subst hr
                have dv := fun W => div_zero m1 m2 hd W
                have it := fun W (hW : Tab10 W) => itoa_any 0 ⟨by decide, by decide⟩ W hW
                have IT := Lib.hid it
                have DV := Lib.hid dv
                clear it dv
                go_wp2_with (first
                  | (go_at_call 138; ((with_reducible refine (NX.out _ (Below.refl _ _)).mono ?_); rintro e w5 ⟨v1, rfl, hv1, hb5⟩; obtain rfl := (hv1 (by first | rfl | trivial)).symm; obtain ⟨c0, c1, c2', cL, c3, c4⟩ := LC.out _ hb5; have HB5 := Lib.hid hb5; clear hb5))
                  | (go_at_call 138; ((with_reducible refine (NZ.out _ HB5.out).mono ?_); rintro e w6 ⟨v2, rfl, hv2, hb6⟩; obtain rfl := (hv2 (by first | rfl | trivial)).symm; obtain ⟨c0, c1, c2', cL, c3, c4⟩ := LC.out _ (ext_trans HB5.out hb6); have lk := LK.out _ (ext_trans HB5.out hb6); have HB6 := Lib.hid (ext_trans HB5.out hb6); clear hb6))
                  | (go_at_call 183; ((with_reducible refine (DV.out _).mono ?_); rintro e w7 ⟨rfl, hw7⟩; subst hw7))
                  | (go_at_call 108; ((with_reducible refine (IT.out _ (HE.out.below (ext_trans HBW.out HB6.out)).ten).mono ?_); rintro e w8 ⟨rfl, hb8⟩; have HB8 := Lib.hid (ext_trans HB6.out hb8); clear hb8)))
                go_ret2
                exact ⟨_, rfl, fun h => (by cases h), ext_trans HBW.out HB8.out⟩
              · have hr : R = (Lib.itoa (divF m1 m2), 0) := by
                  rw [← HR.out]
                  exact three_calc hrc hx hz (by rw [hm1, hm2, k5]; unfold calcF; rw [if_neg (by decide), if_neg (by decide), if_neg (by decide), if_neg (by decide), if_pos rfl, if_neg hd])
                subst hr
                have dv := fun W => div_any m1 m2 hd W
                obtain ⟨q, hq9⟩ : ∃ q, divF m1 m2 = q := ⟨_, rfl⟩
                have iq : I64 q := by rw [← hq9]; unfold divF; exact w32_i64 _
                rw [hq9] at dv
                have it := fun W (hW : Tab10 W) => itoa_any q iq W hW
                have IT := Lib.hid it
                have DV := Lib.hid dv
                clear it dv
                go_wp2_with (first
                  | (go_at_call 138; ((with_reducible refine (NX.out _ (Below.refl _ _)).mono ?_); rintro e w5 ⟨v1, rfl, hv1, hb5⟩; obtain rfl := (hv1 (by first | rfl | trivial)).symm; obtain ⟨c0, c1, c2', cL, c3, c4⟩ := LC.out _ hb5; have HB5 := Lib.hid hb5; clear hb5))
                  | (go_at_call 138; ((with_reducible refine (NZ.out _ HB5.out).mono ?_); rintro e w6 ⟨v2, rfl, hv2, hb6⟩; obtain rfl := (hv2 (by first | rfl | trivial)).symm; obtain ⟨c0, c1, c2', cL, c3, c4⟩ := LC.out _ (ext_trans HB5.out hb6); have lk := LK.out _ (ext_trans HB5.out hb6); have HB6 := Lib.hid (ext_trans HB5.out hb6); clear hb6))
                  | (go_at_call 183; ((with_reducible refine (DV.out _).mono ?_); rintro e w7 ⟨rfl, hw7⟩; subst hw7))
                  | (go_at_call 108; ((with_reducible refine (IT.out _ (HE.out.below (ext_trans HBW.out HB6.out)).ten).mono ?_); rintro e w8 ⟨rfl, hb8⟩; have HB8 := Lib.hid (ext_trans HB6.out hb8); clear hb8)))
                go_ret2
                exact ⟨_, rfl, fun _ => by rw [hq9]; rfl, ext_trans HBW.out HB8.out⟩
            · have y5 : (y.toList == [100, 105, 118]) = false := by rw [toL_eq]; exact decide_eq_false k5
              have hr : R = ([], 3) := by
                rw [← HR.out]
                exact three_calc hrc hx hz (by unfold calcF; rw [if_neg k1, if_neg k2, if_neg k3, if_neg k4, if_neg k5])
              subst hr
              go_wp2_with (first
                | (go_at_call 138; ((with_reducible refine (NX.out _ (Below.refl _ _)).mono ?_); rintro e w5 ⟨v1, rfl, hv1, hb5⟩; obtain rfl := (hv1 (by first | rfl | trivial)).symm; obtain ⟨c0, c1, c2', cL, c3, c4⟩ := LC.out _ hb5; have HB5 := Lib.hid hb5; clear hb5))
                | (go_at_call 138; ((with_reducible refine (NZ.out _ HB5.out).mono ?_); rintro e w6 ⟨v2, rfl, hv2, hb6⟩; obtain rfl := (hv2 (by first | rfl | trivial)).symm; obtain ⟨c0, c1, c2', cL, c3, c4⟩ := LC.out _ (ext_trans HB5.out hb6); have lk := LK.out _ (ext_trans HB5.out hb6); have HB6 := Lib.hid (ext_trans HB5.out hb6); clear hb6)))
              go_ret2
              exact ⟨_, rfl, fun h => (by cases h), ext_trans HBW.out HB6.out⟩
    · have q3 : ((n : Int) != 3) = true := by simp; omega
      have hr : R = ([], 3) := by rw [← HR.out]; exact three_len _ (by omega)
      subst hr
      go_wp2
      go_ret2
      exact ⟨_, rfl, fun h => (by cases h), HBW.out⟩
end Go.Proofs.YtpjhjefjbkjhkaaGreatDoor
