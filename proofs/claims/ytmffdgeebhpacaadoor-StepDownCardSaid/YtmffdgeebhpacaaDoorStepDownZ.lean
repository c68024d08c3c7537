import Derived.Test.YtmffdgeebhpacaaDoorBuP
import Derived.Test.YtmffdgeebhpacaaDoorMOwnZ
import Derived.Test.YtmffdgeebhpacaaDoorWithinZ
/- StepDown. -/
namespace Go.Proofs.YtmffdgeebhpacaaDoor
open Go.RowKit
set_option linter.unusedVariables false
set_option linter.unusedSimpArgs false
set_option maxHeartbeats 8000000 in
set_option maxRecDepth 100000 in
theorem down_err (m : MV) (cs : Array Value)  (w : World) (hbox : MBox w.heap.size m cs (w.alloc (.cells cs 31))) (ht : Tab w)
     (he : (stepF m).2 ≠ 0) : Calls Tryd.prog 10 #[.agg cs] w fun e w' => e = .returned (.bool true) ∧ Below w.heap.size w w' := by
  have h8 := hbox.h8
  have hX8 : (stepF m).1.R.length = 8 := by rw [stepF_bad he]; rfl
  obtain ⟨⟨X, er⟩, s1⟩ : ∃ x, stepF m = x := ⟨_, rfl⟩
  rw [s1] at he hX8
  simp only at he hX8
  have g1 : (er == 0) = false := by simpa using he
  have g2 : (er != 0) = true := by simpa using he
  obtain ⟨w1, hw1⟩ : ∃ w1, w1 = w.alloc (.cells cs 31) := ⟨_, rfl⟩
  have h1w : Below w.heap.size w w1 := by rw [hw1]; exact ext_alloc (Below.refl _ _) _
  rw [← hw1] at hbox
  have SD := Lib.hid (fun W (h : Below w.heap.size w W) => stepped_any W (ht.below h))
  have S1 := Lib.hid s1
  have HX8 := Lib.hid hX8
  have MX := Lib.hid hbox
  have HW1 := Lib.hid hw1
  have H1W := Lib.hid h1w
  have HT := Lib.hid ht
  clear s1 hX8 hbox hw1 h1w ht h8 he
  go_enter Tryd.func10, Tryd.ntmps10
  go_upto_region 1 with (fail)
  rw [← HW1.out]
  go_wp2_with (first
    | (refine wpList_load_sub rfl 31 (.tmp 1) rfl w.heap.size 0 64 rfl 31 _ _ MX.out.bk Tryd.underlying31 rfl (by kernel_rfl) MX.out.size _ MX.out.all ?_)
    | (go_at_call 18; ((with_reducible refine (step_own MX.out (HT.out.below H1W.out) S1.out HX8.out).mono ?_); rintro e u1 ⟨cs1, rfl, mo, hb⟩; have MX1 := Lib.hid mo.alloc; have HB1 := Lib.hid hb; clear hb mo))
    | (refine wpList_store_fresh rfl 31 (.tmp 3) (.tmp 12) rfl rfl cs1 31 _ rfl rfl (by rw [MX1.out.sz]; kernel_rfl) (by rw [MX1.out.sz]; kernel_rfl) MX1.out.one ?_)
    | (go_at_call 13; ((with_reducible refine (SD.out _ (ext_trans H1W.out (ext_alloc HB1.out _))).mono ?_); rintro e u2 ⟨rfl, hb⟩; have HB2 := Lib.hid hb; clear hb)))
  go_ret
  exact ⟨rfl, ext_trans H1W.out (ext_trans (ext_alloc HB1.out _) HB2.out)⟩
set_option maxHeartbeats 8000000 in
set_option maxRecDepth 100000 in
theorem down_good (m : MV) (cs : Array Value)  (w : World) (hbox : MBox w.heap.size m cs (w.alloc (.cells cs 31))) (ht : Tab w)
     (he : (stepF m).2 = 0) : Calls Tryd.prog 10 #[.agg cs] w fun e w' => e = .returned (.bool true) ∧ Below w.heap.size w w' := by
  have h8 := hbox.h8
  obtain ⟨hk, h1, i0, h2, h3⟩ := stepF_ok h8 he
  have hXk := one_ok hk h1
  have hX8 := hXk.2
  have hd : ∀ k, allK (stepF m).1 k → DomT (allK m) k := fun k hk => down_law ((allK_safe m).one (allK_whole m) h1) hk
  obtain ⟨⟨X, er⟩, s1⟩ : ∃ x, stepF m = x := ⟨_, rfl⟩
  rw [s1] at he hX8 hXk hd
  simp only at he hX8 hXk hd
  subst he
  clear h1 h2 h3
  obtain ⟨w1, hw1⟩ : ∃ w1, w1 = w.alloc (.cells cs 31) := ⟨_, rfl⟩
  have h1w : Below w.heap.size w w1 := by rw [hw1]; exact ext_alloc (Below.refl _ _) _
  rw [← hw1] at hbox
  have SD := Lib.hid (fun W (h : Below w.heap.size w W) => stepped_any W (ht.below h))
  have S1 := Lib.hid s1
  have HX8 := Lib.hid hX8
  have MX := Lib.hid hbox
  have HW1 := Lib.hid hw1
  have H1W := Lib.hid h1w
  have HT := Lib.hid ht
  have HK := Lib.hid hk
  have HXK := Lib.hid hXk
  have HD := Lib.hid hd
  clear s1 hX8 hbox hw1 h1w ht h8 hk hXk hd
  go_enter Tryd.func10, Tryd.ntmps10
  go_upto_region 1 with (fail)
  rw [← HW1.out]
  go_upto_region 6 with (first
    | (refine wpList_load_sub rfl 31 (.tmp 1) rfl w.heap.size 0 64 rfl 31 _ _ MX.out.bk Tryd.underlying31 rfl (by kernel_rfl) MX.out.size _ MX.out.all ?_)
    | (go_at_call 18; ((with_reducible refine (step_own MX.out (HT.out.below H1W.out) S1.out HX8.out).mono ?_); rintro e u1 ⟨cs1, rfl, mo, hb⟩; have MX1 := Lib.hid mo.alloc; have HB1 := Lib.hid hb; clear hb mo))
    | (refine wpList_store_fresh rfl 31 (.tmp 3) (.tmp 12) rfl rfl cs1 31 _ rfl rfl (by rw [MX1.out.sz]; kernel_rfl) (by rw [MX1.out.sz]; kernel_rfl) MX1.out.one ?_)
    | (go_at_call 13; ((with_reducible refine (SD.out _ (ext_trans H1W.out (ext_alloc HB1.out _))).mono ?_); rintro e u2 ⟨rfl, hb⟩; have HB2 := Lib.hid hb; clear hb)))
  go_upto_region 7 with (first
    | (refine wpList_load_sub rfl 31 (.tmp 1) rfl w.heap.size 0 64 rfl 31 _ _ (MX.out.below (ext_trans (ext_alloc HB1.out _) HB2.out)).bk Tryd.underlying31 rfl (by kernel_rfl) MX.out.size _ MX.out.all ?_)
    | (go_at_call 38; ((with_reducible refine (keys_box (MX.out.below (ext_trans (ext_alloc HB1.out _) HB2.out)) HK.out).mono ?_); rintro e uA ⟨oA, cA, tA, rfl, ls, li, lk, ⟨lp, ll⟩, hb⟩; have LSA := Lib.hid ls; have LIA := Lib.hid li; have LKA := Lib.hid lk; have LPA := Lib.hid lp; have HBA := Lib.hid hb; clear hb ls li lk lp ll)))
  go_upto_region 8 with (first
    | (refine wpList_load_sub rfl 31 (.tmp 3) rfl u1.heap.size 0 64 rfl 31 _ _ (MX1.out.below (ext_trans HB2.out HBA.out)).bk Tryd.underlying31 rfl (by kernel_rfl) MX1.out.size _ MX1.out.all ?_)
    | (go_at_call 38; ((with_reducible refine (keys_box (MX1.out.below (ext_trans HB2.out HBA.out)) HXK.out).mono ?_); rintro e uB ⟨oB, cB, tB, rfl, ls, li, lk, ⟨lp, ll⟩, hb⟩; have LSB := Lib.hid ls; have LIB := Lib.hid li; have LKB := Lib.hid lk; have LPB := Lib.hid lp; have HBB := Lib.hid hb; clear hb ls li lk lp ll)))
  have hwt := withinAll_any oB oA tB.length tA.length cB cA tB tA _ LSB.out (LSA.out.below HBB.out) LKB.out LKA.out (fun k hk => by
    obtain ⟨g, g1, g2⟩ := HD.out k ((LIB.out k).1 hk)
    exact ⟨g, (LIA.out g).2 g1, g2⟩)
  have lp := LPB.out
  obtain ⟨lb, hlb⟩ : ∃ lb, tB.length = lb := ⟨_, rfl⟩
  obtain ⟨la, hla⟩ : ∃ la, tA.length = la := ⟨_, rfl⟩
  rw [hlb] at hwt lp ⊢
  rw [hla] at hwt ⊢
  have g9 : decide ((0 : Int) < (lb : Int)) = true := by simpa using lp
  have q9 : (0 : Int) < (lb : Int) := by omega
  have HWT := Lib.hid hwt
  clear hwt hlb hla LSA LSB LIA LIB LKA LKB LPA LPB
  go_wp2_with (first
    | (go_at_call 39; ((with_reducible refine HWT.out.mono ?_); rintro e u6 ⟨rfl, hb⟩; have HB6 := Lib.hid hb; clear hb)))
  go_ret
  exact ⟨rfl, ext_trans H1W.out (ext_trans (ext_trans (ext_trans (ext_trans (ext_alloc HB1.out _) HB2.out) HBA.out) HBB.out) HB6.out)⟩
theorem stepDown_walk (x : MachA) {w : World} (hx : x.ok w) (ht : Tab w) : Calls Tryd.prog 10 #[x.val] w fun e w' => e = .returned (.bool true) ∧ Below w.heap.size w w' := by
  by_cases he : (stepF x.mv).2 = 0
  · exact down_good x.mv _ w (mbox_arg hx) ht he
  · exact down_err x.mv _ w (mbox_arg hx) ht he
end Go.Proofs.YtmffdgeebhpacaaDoor
