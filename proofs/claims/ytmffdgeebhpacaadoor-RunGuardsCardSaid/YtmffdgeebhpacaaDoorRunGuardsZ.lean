import Derived.BigQuiet
import Derived.Deep.QuietTactic
import Derived.Test.YtmffdgeebhpacaaDoorBuV
import Derived.Test.YtmffdgeebhpacaaDoorHasIntZ
/- RunGuards. -/
namespace Go.Proofs.YtmffdgeebhpacaaDoor
open Go.RowKit
set_option linter.unusedVariables false
set_option linter.unusedSimpArgs false
set_option maxHeartbeats 8000000 in
set_option maxRecDepth 100000 in
theorem guards_bad (m : MV) (cs : Array Value) (pa : Int) (na : Nat) (w : World) (hbox : MBox w.heap.size m cs (w.alloc (.cells cs 31))) (ht : Tab w)
    (hna : pa % 2000 = na) (ha : na < 2000) (hc : m.check ≠ 0) : Calls Tryd.prog 6 #[.agg cs, .int .i64 pa] w fun e w' => e = .returned (.bool true) ∧ Below w.heap.size w w' := by
  have h8 := hbox.h8
  have r1 := runF_bad (m := m) (f := na) (by omega) hc
  obtain ⟨ec, hec⟩ : ∃ ec, m.check = ec := ⟨_, rfl⟩
  rw [hec] at r1 hc
  have b1 : (ec == 0) = false := by simpa using hc
  have b2 : (ec != 0) = true := by simpa using hc
  obtain ⟨w1, hw1⟩ : ∃ w1, w1 = w.alloc (.cells cs 31) := ⟨_, rfl⟩
  have h1w : Below w.heap.size w w1 := by rw [hw1]; exact ext_alloc (Below.refl _ _) _
  rw [← hw1] at hbox
  have sd := stepped_any w1 (ht.below h1w)
  have ra := fun W => rest_any pa 2000 W (by decide) (by decide)
  rw [hna] at ra
  have SD := Lib.hid sd
  have RA := Lib.hid ra
  have R1 := Lib.hid r1
  have MX := Lib.hid hbox
  have HW1 := Lib.hid hw1
  have H1W := Lib.hid h1w
  have HT := Lib.hid ht
  have HC := Lib.hid hec
  have HE := Lib.hid hc
  clear sd ra r1 hbox hw1 h1w ht h8 hna hc ha hec
  go_enter Tryd.func6, Tryd.ntmps6
  go_upto_region 1 with (fail)
  rw [← HW1.out]
  go_upto_region 5 with (first
    | (go_at_call 13; ((with_reducible refine (SD.out).mono ?_); rintro e u1 ⟨rfl, hb⟩; have HB1 := Lib.hid hb; clear hb))
    | (go_at_call 14; ((with_reducible refine (RA.out _).mono ?_); rintro e w' ⟨rfl, rfl⟩; clear RA))
    | (refine wpList_load_sub rfl 31 (.tmp 2) rfl w.heap.size 0 64 rfl 31 _ _ (MX.out.below HB1.out).bk Tryd.underlying31 rfl (by kernel_rfl) MX.out.size _ MX.out.all ?_)
    | (go_at_call 21; ((with_reducible refine (cells_boxb (MX.out.below HB1.out) true _ HC.out HE.out).mono ?_); rintro e u2 ⟨rfl, hb⟩; have HB2 := Lib.hid hb; clear hb)))
  go_upto_region 6 with (first
    | (refine wpList_load_sub rfl 31 (.tmp 2) rfl w.heap.size 0 64 rfl 31 _ _ (MX.out.below (ext_trans HB1.out HB2.out)).bk Tryd.underlying31 rfl (by kernel_rfl) MX.out.size _ MX.out.all ?_)
    | (go_at_call 15; ((with_reducible refine (run_box (MX.out.below (ext_trans HB1.out HB2.out)) (HT.out.below (ext_trans H1W.out (ext_trans HB1.out HB2.out))) _ R1.out).mono ?_); rintro e u3 ⟨cs3, rfl, mx, hb⟩; have MX3 := Lib.hid mx; have HB3 := Lib.hid hb; clear hb mx))
    | (refine wpList_store_fresh rfl 31 (.tmp 7) (.tmp 24) rfl rfl cs3 31 _ rfl rfl (by rw [MX3.out.sz]; kernel_rfl) (by rw [MX3.out.sz]; kernel_rfl) MX3.out.one ?_))
  obtain ⟨ao2, c2, q61, _⟩ := MX3.out.memC
  have q61' : (u3.alloc (.cells cs3 31)).cell? ⟨u3.heap.size, 61, none⟩ = some (.slice ao2 0 c2) := q61
  clear q61
  go_wp2
  go_ret
  exact ⟨rfl, ext_trans H1W.out (ext_alloc (ext_trans (ext_trans HB1.out HB2.out) HB3.out) _)⟩
set_option maxHeartbeats 8000000 in
set_option maxRecDepth 100000 in
theorem guards_good (m : MV) (cs : Array Value) (pa : Int) (na : Nat) (w : World) (hbox : MBox w.heap.size m cs (w.alloc (.cells cs 31))) (ht : Tab w)
    (hna : pa % 2000 = na) (ha : na < 2000) (hc : m.check = 0) : Calls Tryd.prog 6 #[.agg cs, .int .i64 pa] w fun e w' => e = .returned (.bool true) ∧ Below w.heap.size w w' := by
  have h8 := hbox.h8
  have hok := ok_of_check h8 hc
  obtain ⟨gl, g2⟩ := guards_law m na
  have r1 := runF_good (m := m) (f := na) (by omega) hc
  have hXok := run_okM na m hok
  obtain ⟨X, hX⟩ : ∃ X, (m.run na).1 = X := ⟨_, rfl⟩
  rw [hX] at gl g2 r1 hXok
  generalize ((m.run na).2.1 : Int) = n at r1
  generalize (m.run na).2.2 = er at r1
  obtain ⟨l, hl⟩ : ∃ l, m.hits true 2 = l := ⟨_, rfl⟩
  have hsame : ∀ k : Nat, k < m.mem.length → (k : Int) ∉ l → X.mem[k]? = m.mem[k]? := fun k hk hn => by
    have e := g2 k (fun h => hn (by rw [← hl]; exact mem_hit.2 ⟨by omega, h⟩))
    rw [List.getD_eq_getElem?_getD, List.getD_eq_getElem?_getD, List.getElem?_eq_getElem (by omega), List.getElem?_eq_getElem hk] at e
    rw [List.getElem?_eq_getElem (by omega), List.getElem?_eq_getElem hk]
    exact congrArg some e
  have l400 := hok.1.len
  clear g2 hX
  obtain ⟨w1, hw1⟩ : ∃ w1, w1 = w.alloc (.cells cs 31) := ⟨_, rfl⟩
  have h1w : Below w.heap.size w w1 := by rw [hw1]; exact ext_alloc (Below.refl _ _) _
  rw [← hw1] at hbox
  have sd := stepped_any w1 (ht.below h1w)
  have ra := fun W => rest_any pa 2000 W (by decide) (by decide)
  rw [hna] at ra
  have SD := Lib.hid sd
  have RA := Lib.hid ra
  have R1 := Lib.hid r1
  have MX := Lib.hid hbox
  have HW1 := Lib.hid hw1
  have H1W := Lib.hid h1w
  have HT := Lib.hid ht
  have HC := Lib.hid hok
  have HL := Lib.hid hl
  have HS := Lib.hid hsame
  have GL := Lib.hid gl
  clear sd ra r1 hbox hw1 h1w ht h8 hna hc ha hok hl hsame gl hXok
  go_enter Tryd.func6, Tryd.ntmps6
  go_upto_region 1 with (fail)
  rw [← HW1.out]
  go_upto_region 5 with (first
    | (go_at_call 13; ((with_reducible refine (SD.out).mono ?_); rintro e u1 ⟨rfl, hb⟩; have HB1 := Lib.hid hb; clear hb))
    | (go_at_call 14; ((with_reducible refine (RA.out _).mono ?_); rintro e w' ⟨rfl, rfl⟩; clear RA))
    | (refine wpList_load_sub rfl 31 (.tmp 2) rfl w.heap.size 0 64 rfl 31 _ _ (MX.out.below HB1.out).bk Tryd.underlying31 rfl (by kernel_rfl) MX.out.size _ MX.out.all ?_)
    | (go_at_call 21; ((with_reducible refine (cells_box (MX.out.below HB1.out) true _ HC.out HL.out).mono ?_); rintro e u2 ⟨lo, lc, rfl, ls, hb⟩; have LS := Lib.hid ls; have HB2 := Lib.hid hb; clear hb ls)))
  go_upto_region 6 with (first
    | (refine wpList_load_sub rfl 31 (.tmp 2) rfl w.heap.size 0 64 rfl 31 _ _ (MX.out.below (ext_trans HB1.out HB2.out)).bk Tryd.underlying31 rfl (by kernel_rfl) MX.out.size _ MX.out.all ?_)
    | (go_at_call 15; ((with_reducible refine (run_box (MX.out.below (ext_trans HB1.out HB2.out)) (HT.out.below (ext_trans H1W.out (ext_trans HB1.out HB2.out))) _ R1.out).mono ?_); rintro e u3 ⟨cs3, rfl, mx, hb⟩; have MX3 := Lib.hid mx; have HB3 := Lib.hid hb; clear hb mx))
    | (refine wpList_store_fresh rfl 31 (.tmp 7) (.tmp 24) rfl rfl cs3 31 _ rfl rfl (by rw [MX3.out.sz]; kernel_rfl) (by rw [MX3.out.sz]; kernel_rfl) MX3.out.one ?_))
  have hxb : MBox u3.heap.size X cs3 (u3.alloc (.cells cs3 31)) := MX3.out
  have hmb : MBox w.heap.size m cs (u3.alloc (.cells cs3 31)) := (MX.out.below (ext_alloc (ext_trans (ext_trans HB1.out HB2.out) HB3.out) _))
  obtain ⟨xo, xc, x61, xsl⟩ := hxb.memC
  obtain ⟨mo, mc, m61, msl⟩ := hmb.memC
  have xlt := hxb.bk.lt
  have mlt := hmb.bk.lt
  clear hxb hmb
  have hfin : Below w.heap.size w (u3.alloc (.cells cs3 31)) := ext_trans H1W.out (ext_alloc (ext_trans (ext_trans HB1.out HB2.out) HB3.out) _)
  have lsl : Sl (u3.alloc (.cells cs3 31)) lo l.length l := LS.out.below (ext_alloc HB3.out _)
  obtain ⟨W5, hW5⟩ : ∃ W5, W5 = u3.alloc (.cells cs3 31) := ⟨_, rfl⟩
  rw [← hW5] at x61 xsl m61 msl xlt mlt hfin lsl ⊢
  rw [GL.out] at x61 xsl
  have hll := hits_lenM m true 2
  rw [HL.out] at hll
  obtain ⟨gx, hgx⟩ : ∃ gx, gx = u3.heap.size := ⟨_, rfl⟩
  rw [← hgx] at x61 xlt ⊢
  obtain ⟨gm, hgm⟩ : ∃ gm, gm = w.heap.size := ⟨_, rfl⟩
  have hfin' := hfin
  rw [← hgm] at m61 mlt ⊢
  obtain ⟨nm, hMl⟩ : ∃ nm, m.mem.length = nm := ⟨_, rfl⟩
  rw [hMl] at x61 xsl m61 msl hll l400
  have hXl := xsl.len
  have hsm := HS.out
  rw [hMl] at hsm
  clear HS GL
  have HS := Lib.hid hsm
  clear hsm
  have hcl : ∀ W, Below W5.heap.size W5 W → W.cell? ⟨gx, 61, none⟩ = some (.slice xo nm xc) ∧ W.cell? ⟨gm, 61, none⟩ = some (.slice mo nm mc) := fun W hb => ⟨(hb.cell (p := ⟨gx, 61, none⟩) xlt).trans x61, (hb.cell (p := ⟨gm, 61, none⟩) mlt).trans m61⟩
  have has := fun (y : Int) W (hb : Below W5.heap.size W5 W) => has_int lo l.length lc l y W (lsl.below hb)
  have HCL := Lib.hid hcl
  have HAS := Lib.hid has
  have XS := Lib.hid xsl
  have MS_ := Lib.hid msl
  have FIN := Lib.hid hfin
  obtain ⟨f61, f62⟩ := hcl W5 (Below.refl _ _)
  clear hcl has x61 xsl m61 msl hfin lsl MX3 LS HB1 HB2 HB3 R1 MX HW1 H1W HT SD HC hW5 hgx hgm hfin'
  go_wp2
  go_loopw [48] (fun i wr => ∃ k : Nat, k ≤ nm ∧ i = .int .i64 k ∧ Below W5.heap.size W5 wr) (fun i _ => nm - (intOf i).toNat)
  case atStart => exact ⟨0, Nat.zero_le _, rfl, Below.refl _ _⟩
  case round =>
    obtain ⟨k, hk, rfl, hb⟩ := hrel
    obtain ⟨c1, c2⟩ := HCL.out wr hb
    by_cases hlt : k < nm
    · have q0 : (0 : Int) ≤ k := by omega
      have q1 : (k : Int) < nm := by omega
      have hgx : gx < wr.heap.size := Nat.lt_of_lt_of_le xlt hb.size
      have hgm : gm < wr.heap.size := Nat.lt_of_lt_of_le mlt hb.size
      obtain ⟨x, hx⟩ : ∃ x, X.mem[k]? = some x := ⟨_, List.getElem?_eq_getElem (by omega)⟩
      obtain ⟨y, hy⟩ : ∃ y, m.mem[k]? = some y := ⟨_, List.getElem?_eq_getElem (by omega)⟩
      obtain ⟨ad, rfl, hab, e0, e1, e2, e3, e4, e5, e6⟩ := sl_valg (XS.out.below hb) hlt hx
      obtain ⟨bd, rfl, hbb, f0, f1, f2, f3, f4, f5, f6⟩ := sl_valg (MS_.out.below hb) hlt hy
      have bx : (ad.add (k * 7)).block < wr.heap.size := by rw [el_block]; exact hab
      have by_ : (bd.add (k * 7)).block < wr.heap.size := by rw [el_block]; exact hbb
      have hhas := fun nd => HAS.out k (wr.drewN nd) (ext_drewN hb nd)
      have hxy := HS.out k hlt
      rw [hx, hy] at hxy
      have HB := Lib.hid hb
      by_cases hin : (k : Int) ∈ l
      · simp only [decide_eq_true hin] at hhas
        have HH := Lib.hid hhas
        clear hhas hxy hin hb hx hy
        have q := fun W => run_neq_val x y W
        obtain ⟨xi, xn, xp, xb, xl, xa, xs_⟩ := x
        obtain ⟨yi, yn, yp, yb, yl, ya, ys_⟩ := y
        simp only [ValV.val] at *
        go_wp2
        go_quiet (first | (go_at_call 27; exact Calls.quiet_of_same (calls_flip2 (HH.out _))))
        go_wp2
        go_roundw
        case rel => exact ⟨k + 1, by omega, by go_num, by repeat (first | exact HB.out | with_reducible refine ext_drewN ?_ _ | with_reducible refine ext_drew ?_)⟩
        case measure => simp [intOf]; omega
      · simp only [decide_eq_false hin] at hhas
        have HH := Lib.hid hhas
        obtain rfl : x = y := by injection hxy hin
        clear hhas hxy hin hb hx hy
        have q := fun W => run_neq_val x x W
        simp only [decide_true, Bool.not_true] at q
        obtain ⟨xi, xn, xp, xb, xl, xa, xs_⟩ := x
        simp only [ValV.val] at *
        go_wp2
        go_quiet (first | (go_at_call 27; exact Calls.quiet_of_same (calls_flip2 (HH.out _))))
        go_wp2
        go_roundw
        case rel => exact ⟨k + 1, by omega, by go_num, by repeat (first | exact HB.out | with_reducible refine ext_drewN ?_ _ | with_reducible refine ext_drew ?_)⟩
        case measure => simp [intOf]; omega
    · have q1 : ¬ ((k : Int) < nm) := by omega
      have HB := Lib.hid hb
      clear hb
      go_wp2
      go_ret
      exact ⟨rfl, ext_trans FIN.out HB.out⟩
theorem runGuards_walk (x : MachA) (a : Int) {w : World} (hx : x.ok w) (ha : I64 a) (ht : Tab w) : Calls Tryd.prog 6 #[x.val, .int .i64 a] w fun e w' => e = .returned (.bool true) ∧ Below w.heap.size w w' := by
  obtain ⟨na, hna⟩ := Int.eq_ofNat_of_zero_le (Int.emod_nonneg a (show (2000 : Int) ≠ 0 by decide))
  have l1 := Int.emod_lt_of_pos a (show (0 : Int) < 2000 by decide)
  by_cases hc : x.mv.check = 0
  · exact guards_good x.mv _ a na w (mbox_arg hx) ht hna (by omega) hc
  · exact guards_bad x.mv _ a na w (mbox_arg hx) ht hna (by omega) hc
end Go.Proofs.YtmffdgeebhpacaaDoor
