import Derived.Test.YtmffdgeebhpacaaDoorWithinZ
/- RunDown. -/
namespace Go.Proofs.YtmffdgeebhpacaaDoor
open Go.RowKit
set_option linter.unusedVariables false
set_option linter.unusedSimpArgs false
set_option maxHeartbeats 8000000 in
set_option maxRecDepth 100000 in
theorem rdown_bad (m : MV) (cs : Array Value) (pa : Int) (na : Nat) (w : World) (hbox : MBox w.heap.size m cs (w.alloc (.cells cs 31))) (ht : Tab w)
    (hna : pa % 2000 = na) (ha : na < 2000) (hc : m.check ≠ 0) : Calls Tryd.prog 11 #[.agg cs, .int .i64 pa] w fun e w' => e = .returned (.bool true) ∧ Below w.heap.size w w' := by
  have h8 := hbox.h8
  have r1 := runF_bad (m := m) (f := na) (by omega) hc
  obtain ⟨ec, hec⟩ : ∃ ec, m.check = ec := ⟨_, rfl⟩
  rw [hec] at r1 hc
  have b1 : (ec == 0) = false := by simpa using hc
  have b2 : (ec != 0) = true := by simpa using hc
  obtain ⟨w1, hw1⟩ : ∃ w1, w1 = w.alloc (.cells cs 31) := ⟨_, rfl⟩
  have h1w : Below w.heap.size w w1 := by rw [hw1]; exact ext_alloc (Below.refl _ _) _
  rw [← hw1] at hbox
  have sd := stepped_any w1 (ht.below h1w)
  have ra := fun W => rest_any pa 2000 W (by decide) (by decide)
  rw [hna] at ra
  have SD := Lib.hid sd
  have RA := Lib.hid ra
  have R1 := Lib.hid r1
  have MX := Lib.hid hbox
  have HW1 := Lib.hid hw1
  have H1W := Lib.hid h1w
  have HT := Lib.hid ht
  have HC := Lib.hid hec
  have HE := Lib.hid hc
  clear sd ra r1 hbox hw1 h1w ht h8 hna hc ha hec
  go_enter Tryd.func11, Tryd.ntmps11
  go_upto_region 1 with (fail)
  rw [← HW1.out]
  go_upto_region 5 with (first
    | (go_at_call 13; ((with_reducible refine (SD.out).mono ?_); rintro e u1 ⟨rfl, hb⟩; have HB1 := Lib.hid hb; clear hb))
    | (go_at_call 14; ((with_reducible refine (RA.out _).mono ?_); rintro e w' ⟨rfl, rfl⟩; clear RA))
    | (refine wpList_load_sub rfl 31 (.tmp 2) rfl w.heap.size 0 64 rfl 31 _ _ (MX.out.below HB1.out).bk Tryd.underlying31 rfl (by kernel_rfl) MX.out.size _ MX.out.all ?_)
    | (go_at_call 38; ((with_reducible refine (keys_boxb (MX.out.below HB1.out) HC.out HE.out).mono ?_); rintro e u2 ⟨rfl, hb⟩; have HB2 := Lib.hid hb; clear hb)))
  go_wp2_with (first
    | (refine wpList_load_sub rfl 31 (.tmp 2) rfl w.heap.size 0 64 rfl 31 _ _ (MX.out.below (ext_trans HB1.out HB2.out)).bk Tryd.underlying31 rfl (by kernel_rfl) MX.out.size _ MX.out.all ?_)
    | (go_at_call 15; ((with_reducible refine (run_box (MX.out.below (ext_trans HB1.out HB2.out)) (HT.out.below (ext_trans H1W.out (ext_trans HB1.out HB2.out))) _ R1.out).mono ?_); rintro e u3 ⟨cs3, rfl, mx, hb⟩; have MX3 := Lib.hid mx; have HB3 := Lib.hid hb; clear hb mx))
    | (refine wpList_store_fresh rfl 31 (.tmp 7) (.tmp 25) rfl rfl cs3 31 _ rfl rfl (by rw [MX3.out.sz]; kernel_rfl) (by rw [MX3.out.sz]; kernel_rfl) MX3.out.one ?_))
  go_ret
  exact ⟨rfl, ext_trans H1W.out (ext_alloc (ext_trans (ext_trans HB1.out HB2.out) HB3.out) _)⟩
set_option maxHeartbeats 8000000 in
set_option maxRecDepth 100000 in
theorem rdown_good (m : MV) (cs : Array Value) (pa : Int) (na : Nat) (w : World) (hbox : MBox w.heap.size m cs (w.alloc (.cells cs 31))) (ht : Tab w)
    (hna : pa % 2000 = na) (ha : na < 2000) (hc : m.check = 0) : Calls Tryd.prog 11 #[.agg cs, .int .i64 pa] w fun e w' => e = .returned (.bool true) ∧ Below w.heap.size w w' := by
  have h8 := hbox.h8
  have hok := ok_of_check h8 hc
  have r1 := runF_good (m := m) (f := na) (by omega) hc
  have hXok := run_okM na m hok
  have hd : ∀ k, allK (m.run na).1 k → DomT (allK m) k := fun k hk => down_law ((allK_safe m).run (allK_whole m) na m) hk
  obtain ⟨X, hX⟩ : ∃ X, (m.run na).1 = X := ⟨_, rfl⟩
  rw [hX] at r1 hXok hd
  generalize ((m.run na).2.1 : Int) = n at r1
  generalize (m.run na).2.2 = er at r1
  clear hX
  obtain ⟨w1, hw1⟩ : ∃ w1, w1 = w.alloc (.cells cs 31) := ⟨_, rfl⟩
  have h1w : Below w.heap.size w w1 := by rw [hw1]; exact ext_alloc (Below.refl _ _) _
  rw [← hw1] at hbox
  have sd := stepped_any w1 (ht.below h1w)
  have ra := fun W => rest_any pa 2000 W (by decide) (by decide)
  rw [hna] at ra
  have SD := Lib.hid sd
  have RA := Lib.hid ra
  have R1 := Lib.hid r1
  have MX := Lib.hid hbox
  have HW1 := Lib.hid hw1
  have H1W := Lib.hid h1w
  have HT := Lib.hid ht
  have HC := Lib.hid hok
  have HXK := Lib.hid hXok
  have HD := Lib.hid hd
  clear sd ra r1 hbox hw1 h1w ht h8 hna hc ha hok hXok hd
  go_enter Tryd.func11, Tryd.ntmps11
  go_upto_region 1 with (fail)
  rw [← HW1.out]
  go_upto_region 5 with (first
    | (go_at_call 13; ((with_reducible refine (SD.out).mono ?_); rintro e u1 ⟨rfl, hb⟩; have HB1 := Lib.hid hb; clear hb))
    | (go_at_call 14; ((with_reducible refine (RA.out _).mono ?_); rintro e w' ⟨rfl, rfl⟩; clear RA))
    | (refine wpList_load_sub rfl 31 (.tmp 2) rfl w.heap.size 0 64 rfl 31 _ _ (MX.out.below HB1.out).bk Tryd.underlying31 rfl (by kernel_rfl) MX.out.size _ MX.out.all ?_)
    | (go_at_call 38; ((with_reducible refine (keys_box (MX.out.below HB1.out) HC.out).mono ?_); rintro e uA ⟨oA, cA, tA, rfl, ls, li, lk, ⟨lp, ll⟩, hb⟩; have LSA := Lib.hid ls; have LIA := Lib.hid li; have LKA := Lib.hid lk; have LPA := Lib.hid lp; have HBA := Lib.hid hb; clear hb ls li lk lp ll)))
  go_upto_region 8 with (first
    | (refine wpList_load_sub rfl 31 (.tmp 2) rfl w.heap.size 0 64 rfl 31 _ _ (MX.out.below (ext_trans HB1.out HBA.out)).bk Tryd.underlying31 rfl (by kernel_rfl) MX.out.size _ MX.out.all ?_)
    | (go_at_call 15; ((with_reducible refine (run_box (MX.out.below (ext_trans HB1.out HBA.out)) (HT.out.below (ext_trans H1W.out (ext_trans HB1.out HBA.out))) _ R1.out).mono ?_); rintro e u3 ⟨cs3, rfl, mx, hb⟩; have MX3 := Lib.hid mx; have HB3 := Lib.hid hb; clear hb mx))
    | (refine wpList_store_fresh rfl 31 (.tmp 7) (.tmp 25) rfl rfl cs3 31 _ rfl rfl (by rw [MX3.out.sz]; kernel_rfl) (by rw [MX3.out.sz]; kernel_rfl) MX3.out.one ?_))
  go_upto_region 9 with (first
    | (refine wpList_load_sub rfl 31 (.tmp 7) rfl u3.heap.size 0 64 rfl 31 _ _ MX3.out.bk Tryd.underlying31 rfl (by kernel_rfl) MX3.out.size _ MX3.out.all ?_)
    | (go_at_call 38; ((with_reducible refine (keys_box MX3.out HXK.out).mono ?_); rintro e uB ⟨oB, cB, tB, rfl, ls, li, lk, ⟨lp, ll⟩, hb⟩; have LSB := Lib.hid ls; have LIB := Lib.hid li; have LKB := Lib.hid lk; have LPB := Lib.hid lp; have HBB := Lib.hid hb; clear hb ls li lk lp ll)))
  have hwt := withinAll_any oB oA tB.length tA.length cB cA tB tA _ LSB.out (LSA.out.below (ext_trans (ext_alloc HB3.out _) HBB.out)) LKB.out LKA.out (fun k hk => by
    obtain ⟨g, g1, g2⟩ := HD.out k ((LIB.out k).1 hk)
    exact ⟨g, (LIA.out g).2 g1, g2⟩)
  have lp := LPB.out
  obtain ⟨lb, hlb⟩ : ∃ lb, tB.length = lb := ⟨_, rfl⟩
  obtain ⟨la, hla⟩ : ∃ la, tA.length = la := ⟨_, rfl⟩
  rw [hlb] at hwt lp ⊢
  rw [hla] at hwt ⊢
  have g9 : decide ((0 : Int) < (lb : Int)) = true := by simpa using lp
  have q9 : (0 : Int) < (lb : Int) := by omega
  have HWT := Lib.hid hwt
  clear hwt hlb hla LSA LSB LIA LIB LKA LKB LPA LPB
  go_wp2_with (first
    | (go_at_call 39; ((with_reducible refine HWT.out.mono ?_); rintro e u6 ⟨rfl, hb⟩; have HB6 := Lib.hid hb; clear hb)))
  go_ret
  exact ⟨rfl, ext_trans H1W.out (ext_trans (ext_trans (ext_alloc (ext_trans (ext_trans HB1.out HBA.out) HB3.out) _) HBB.out) HB6.out)⟩
theorem runDown_walk (x : MachA) (a : Int) {w : World} (hx : x.ok w) (ha : I64 a) (ht : Tab w) : Calls Tryd.prog 11 #[x.val, .int .i64 a] w fun e w' => e = .returned (.bool true) ∧ Below w.heap.size w w' := by
  obtain ⟨na, hna⟩ := Int.eq_ofNat_of_zero_le (Int.emod_nonneg a (show (2000 : Int) ≠ 0 by decide))
  have l1 := Int.emod_lt_of_pos a (show (0 : Int) < 2000 by decide)
  by_cases hc : x.mv.check = 0
  · exact rdown_good x.mv _ a na w (mbox_arg hx) ht hna (by omega) hc
  · exact rdown_bad x.mv _ a na w (mbox_arg hx) ht hna (by omega) hc
end Go.Proofs.YtmffdgeebhpacaaDoor
