import Derived.BigQuiet
import Derived.Deep.QuietTactic
import Derived.Test.YtmffdgeebhpacaaDoorBuB
import Derived.Test.YtmffdgeebhpacaaDoorBuG
import Derived.Test.YtmffdgeebhpacaaDoorSafeLawZ
/- SweepSafe. -/
namespace Go.Proofs.YtmffdgeebhpacaaDoor
open El (cl)
open Go.RowKit
set_option linter.unusedVariables false
set_option linter.unusedSimpArgs false
set_option maxHeartbeats 8000000 in
set_option maxRecDepth 100000 in
theorem safe_err (m : MV) (cs : Array Value) (b n : Int) (vo_ : Option Addr) (vn vc : Nat) (vals : List Int) (pa : Int) (na : Nat) (w : World) (hbox : MBox w.heap.size m cs (w.alloc (.cells cs 31))) (ht : Tab w)
    (hb64 : I64 b) (hn64 : I64 n) (hv : Sl w vo_ vn vals) (hna : pa % 2000 = na) (ha : na < 2000) (he : (sweepF m b n).2.2 ≠ 0 ∨ vn = 0) : Calls Tryd.prog 5 #[.agg cs, .int .i64 b, .int .i64 n, .slice vo_ vn vc, .int .i64 pa] w fun e w' => e = .returned (.bool true) ∧ Below w.heap.size w w' := by
  have h8 := hbox.h8
  have hvm : vn ≤ 9223372036854775807 := hv.max
  obtain ⟨⟨X, cnt, er⟩, s1⟩ : ∃ x, sweepF m b n = x := ⟨_, rfl⟩
  rw [s1] at he
  simp only at he
  obtain ⟨w1, hw1⟩ : ∃ w1, w1 = w.alloc (.cells cs 31) := ⟨_, rfl⟩
  have h1w : Below w.heap.size w w1 := by rw [hw1]; exact ext_alloc (Below.refl _ _) _
  rw [← hw1] at hbox
  have ra := fun W => rest_any pa 2000 W (by decide) (by decide)
  rw [hna] at ra
  have hv1 := hv.below h1w
  have RA := Lib.hid ra
  have S1 := Lib.hid s1
  have MX := Lib.hid hbox
  have HW1 := Lib.hid hw1
  have H1W := Lib.hid h1w
  have HT := Lib.hid ht
  have VS := Lib.hid hv1
  have HB64 := Lib.hid hb64
  have HN64 := Lib.hid hn64
  clear ra s1 hbox hw1 h1w ht h8 hna hv hv1 hb64 hn64 
  go_enter Tryd.func5, Tryd.ntmps5
  go_upto_region 1 with (fail)
  rw [← HW1.out]
  go_upto_region 6 with (first
    | (refine wpList_load_sub rfl 31 (.tmp 5) rfl w.heap.size 0 64 rfl 31 _ _ MX.out.bk Tryd.underlying31 rfl (by kernel_rfl) MX.out.size _ MX.out.all ?_)
    | (go_at_call 23; ((with_reducible refine (sweep_own MX.out HB64.out HN64.out S1.out).mono ?_); rintro e u1 ⟨cs1, rfl, mo, hb⟩; have MX1 := Lib.hid mo.alloc; have HB1 := Lib.hid hb; clear hb mo))
    | (refine wpList_store_fresh rfl 31 (.tmp 11) (.tmp 30) rfl rfl cs1 31 _ rfl rfl (by rw [MX1.out.sz]; kernel_rfl) (by rw [MX1.out.sz]; kernel_rfl) MX1.out.one ?_)
    | (go_at_call 24; ((with_reducible refine (swept_any _).mono ?_); rintro e u2 ⟨rfl, hb⟩; have HB2 := Lib.hid hb; clear hb))
    | (go_at_call 14; ((with_reducible refine (RA.out _).mono ?_); rintro e w' ⟨rfl, rfl⟩; clear RA)))
  have BW0 := Lib.hid (ext_trans (ext_alloc HB1.out _) HB2.out)
  go_wp2
  go_loopw [39] (fun i wr => ∃ j : Nat, j ≤ vn ∧ i = .int .i64 j ∧ rngD (vals.take j) = true ∧ Below u2.heap.size u2 wr) (fun i _ => vn - (intOf i).toNat)
  case atStart => exact ⟨0, Nat.zero_le _, rfl, rfl, Below.refl _ _⟩
  case round =>
    obtain ⟨j, hj, rfl, hrg, hb⟩ := hrel
    by_cases hlt : j < vn
    · have q0 : (0 : Int) ≤ j := by omega
      have q1 : (j : Int) < vn := by omega
      obtain ⟨x, hx⟩ : ∃ x, vals[j]? = some x := ⟨_, List.getElem?_eq_getElem (by have := VS.out.len; omega)⟩
      obtain ⟨vd, rfl, vb, ve⟩ := sl_int (VS.out.below (ext_trans BW0.out hb)) hlt hx
      have HB := Lib.hid hb
      by_cases h1 : -2147483648 ≤ x
      · by_cases h2 : x ≤ 2147483647
        · have HRG := Lib.hid (rngD_snoc hx hrg h1 h2)
          have h3 : ¬ (x < -2147483648) := by omega
          have h4 : ¬ (2147483647 < x) := by omega
          clear hb hx hrg
          go_wp2
          go_roundw
          case rel => exact ⟨j + 1, by omega, by go_num, HRG.out, HB.out⟩
          case measure => simp [intOf]; omega
        · have h3 : ¬ (x < -2147483648) := by omega
          have h4 : 2147483647 < x := by omega
          clear hb hx hrg
          go_wp2
          go_ret
          exact ⟨rfl, ext_trans H1W.out (ext_trans BW0.out HB.out)⟩
      · have h3 : x < -2147483648 := by omega
        clear hb hx hrg
        go_wp2
        go_ret
        exact ⟨rfl, ext_trans H1W.out (ext_trans BW0.out HB.out)⟩
    · obtain rfl : j = vn := by omega
      have q1 : ¬ ((j : Int) < j) := by omega
      have hlv := VS.out.len
      rw [List.take_of_length_le (by omega)] at hrg
      have HB := Lib.hid hb
      have HRG := Lib.hid hrg
      clear hb hrg
      by_cases h1 : er = 0
      · subst h1
        rcases he with he | he
        · exact absurd rfl he
        · subst he
          go_wp2
          go_ret
          exact ⟨rfl, ext_trans H1W.out (ext_trans BW0.out HB.out)⟩
      · have g1 : (er == 0) = false := by simpa using h1
        have g2 : (er != 0) = true := by simpa using h1
        clear he
        go_wp2
        go_ret
        exact ⟨rfl, ext_trans H1W.out (ext_trans BW0.out HB.out)⟩
set_option maxHeartbeats 8000000 in
set_option maxRecDepth 100000 in
theorem safe_good (m : MV) (cs : Array Value) (b n : Int) (vo_ : Option Addr) (vn vc : Nat) (vals : List Int) (pa : Int) (na : Nat) (w : World) (hbox : MBox w.heap.size m cs (w.alloc (.cells cs 31))) (ht : Tab w)
    (hb64 : I64 b) (hn64 : I64 n) (hv : Sl w vo_ vn vals) (hna : pa % 2000 = na) (ha : na < 2000) (he : (sweepF m b n).2.2 = 0) (h0 : 0 < vn) : Calls Tryd.prog 5 #[.agg cs, .int .i64 b, .int .i64 n, .slice vo_ vn vc, .int .i64 pa] w fun e w' => e = .returned (.bool true) ∧ Below w.heap.size w w' := by
  have h8 := hbox.h8
  have hvm : vn ≤ 9223372036854775807 := hv.max
  obtain ⟨hk, hbn, hsw⟩ := sweepF_ok h8 he
  have hXk := swept_okM hk b n
  obtain ⟨⟨X, cnt, er⟩, s1⟩ : ∃ x, sweepF m b n = x := ⟨_, rfl⟩
  rw [s1] at he hsw
  simp only at he hsw
  subst he
  rw [← hsw] at hXk
  have r1 := runF_good (m := X) (f := na) (by omega) (check_of_ok hXk)
  obtain ⟨⟨A, kk, er⟩, hA⟩ : ∃ x, X.run na = x := ⟨_, rfl⟩
  have hA8 := (run_okM na X hXk).2
  rw [hA] at r1 hA8
  simp only at r1 hA8
  obtain ⟨bb, rfl⟩ := Int.eq_ofNat_of_zero_le hbn.1
  obtain ⟨nn, rfl⟩ := Int.eq_ofNat_of_zero_le hbn.2.2.1
  have hb4 : bb + nn ≤ 400 := by omega
  clear hbn
  obtain ⟨w1, hw1⟩ : ∃ w1, w1 = w.alloc (.cells cs 31) := ⟨_, rfl⟩
  have h1w : Below w.heap.size w w1 := by rw [hw1]; exact ext_alloc (Below.refl _ _) _
  rw [← hw1] at hbox
  have ra := fun W => rest_any pa 2000 W (by decide) (by decide)
  rw [hna] at ra
  have hv1 := hv.below h1w
  have RA := Lib.hid ra
  have S1 := Lib.hid s1
  have MX := Lib.hid hbox
  have HW1 := Lib.hid hw1
  have H1W := Lib.hid h1w
  have HT := Lib.hid ht
  have VS := Lib.hid hv1
  have HB64 := Lib.hid hb64
  have HN64 := Lib.hid hn64
  have HXK := Lib.hid hXk
  have R1 := Lib.hid r1
  have HA8 := Lib.hid hA8
  have HA := Lib.hid hA
  have HSW := Lib.hid hsw
  clear ra s1 hbox hw1 h1w ht h8 hna hv hv1 hb64 hn64 hXk r1 hA8 hA hsw hk
  go_enter Tryd.func5, Tryd.ntmps5
  go_upto_region 1 with (fail)
  rw [← HW1.out]
  go_upto_region 6 with (first
    | (refine wpList_load_sub rfl 31 (.tmp 5) rfl w.heap.size 0 64 rfl 31 _ _ MX.out.bk Tryd.underlying31 rfl (by kernel_rfl) MX.out.size _ MX.out.all ?_)
    | (go_at_call 23; ((with_reducible refine (sweep_own MX.out HB64.out HN64.out S1.out).mono ?_); rintro e u1 ⟨cs1, rfl, mo, hb⟩; have MX1 := Lib.hid mo.alloc; have HB1 := Lib.hid hb; clear hb mo))
    | (refine wpList_store_fresh rfl 31 (.tmp 11) (.tmp 30) rfl rfl cs1 31 _ rfl rfl (by rw [MX1.out.sz]; kernel_rfl) (by rw [MX1.out.sz]; kernel_rfl) MX1.out.one ?_)
    | (go_at_call 24; ((with_reducible refine (swept_any _).mono ?_); rintro e u2 ⟨rfl, hb⟩; have HB2 := Lib.hid hb; clear hb))
    | (go_at_call 14; ((with_reducible refine (RA.out _).mono ?_); rintro e w' ⟨rfl, rfl⟩; clear RA)))
  have BW0 := Lib.hid (ext_trans (ext_alloc HB1.out _) HB2.out)
  go_wp2
  go_loopw [39] (fun i wr => ∃ j : Nat, j ≤ vn ∧ i = .int .i64 j ∧ rngD (vals.take j) = true ∧ Below u2.heap.size u2 wr) (fun i _ => vn - (intOf i).toNat)
  case atStart => exact ⟨0, Nat.zero_le _, rfl, rfl, Below.refl _ _⟩
  case round =>
    obtain ⟨j, hj, rfl, hrg, hb⟩ := hrel
    by_cases hlt : j < vn
    · have q0 : (0 : Int) ≤ j := by omega
      have q1 : (j : Int) < vn := by omega
      obtain ⟨x, hx⟩ : ∃ x, vals[j]? = some x := ⟨_, List.getElem?_eq_getElem (by have := VS.out.len; omega)⟩
      obtain ⟨vd, rfl, vb, ve⟩ := sl_int (VS.out.below (ext_trans BW0.out hb)) hlt hx
      have HB := Lib.hid hb
      by_cases h1 : -2147483648 ≤ x
      · by_cases h2 : x ≤ 2147483647
        · have HRG := Lib.hid (rngD_snoc hx hrg h1 h2)
          have h3 : ¬ (x < -2147483648) := by omega
          have h4 : ¬ (2147483647 < x) := by omega
          clear hb hx hrg
          go_wp2
          go_roundw
          case rel => exact ⟨j + 1, by omega, by go_num, HRG.out, HB.out⟩
          case measure => simp [intOf]; omega
        · have h3 : ¬ (x < -2147483648) := by omega
          have h4 : 2147483647 < x := by omega
          clear hb hx hrg
          go_wp2
          go_ret
          exact ⟨rfl, ext_trans H1W.out (ext_trans BW0.out HB.out)⟩
      · have h3 : x < -2147483648 := by omega
        clear hb hx hrg
        go_wp2
        go_ret
        exact ⟨rfl, ext_trans H1W.out (ext_trans BW0.out HB.out)⟩
    · obtain rfl : j = vn := by omega
      have q1 : ¬ ((j : Int) < j) := by omega
      have hlv := VS.out.len
      rw [List.take_of_length_le (by omega)] at hrg
      have HB := Lib.hid hb
      have HRG := Lib.hid hrg
      clear hb hrg
      have hne : vals ≠ [] := fun e => by rw [e] at hlv; simp at hlv; omega
      have g0 : ((j : Int) == 0) = false := by simp; omega
      obtain ⟨zl, z1, z2, z3, z4, z5⟩ := safe_fin HSW.out HA.out vals
      have hYk := safe_ok HXK.out bb nn HRG.out hne
      have r2 := runF_good (m := X.mm (safeM bb nn vals X.mem)) (f := na) (by omega) (check_of_ok hYk)
      rw [z1] at r2
      simp only at r2
      have hBl := safe_len bb nn vals X.mem
      have hst := safe_start bb nn vals X.mem
      have hen := fun j (h : bb + nn ≤ j ∨ X.mem.length ≤ j) => safe_end (b := bb) (n := nn) (vals := vals) (M := X.mem) h
      have hat := fun j x (hx : X.mem[j]? = some x) => safe_at (b := bb) (n := nn) (vals := vals) hx
      obtain ⟨B, hB⟩ : ∃ B, safeM bb nn vals X.mem = B := ⟨_, rfl⟩
      rw [hB] at hBl hst r2 z5
      simp only [hB] at hen hat
      have hx2 := MX1.out.below (ext_trans HB2.out HB.out)
      obtain ⟨w2, hw2⟩ : ∃ w2, w2 = wr := ⟨_, rfl⟩
      rw [← hw2] at hx2 ⊢
      have wf2 : Below w1.heap.size w1 w2 := by rw [hw2]; exact ext_trans BW0.out HB.out
      have MX2 := Lib.hid hx2
      have VS2 := Lib.hid (VS.out.below wf2)
      have HT2 := Lib.hid (HT.out.below (ext_trans H1W.out wf2))
      have W02 := Lib.hid (ext_trans H1W.out wf2)
      have R2 := Lib.hid r2
      have HBL := Lib.hid hBl
      have HST0 := Lib.hid hst
      have HEN := Lib.hid hen
      have HAT := Lib.hid hat
      have Z2 := Lib.hid z2
      have Z3 := Lib.hid z3
      have Z4 := Lib.hid z4
      have Z5 := Lib.hid z5
      obtain ⟨gx, hgx⟩ : ∃ gx, gx = u1.heap.size := ⟨_, rfl⟩
      rw [← hgx] at hx2 MX2 ⊢
      clear hx2 hw2 wf2 r2 hBl hst hen hat z1 z2 z3 z4 z5 hB hYk MX MX1 HB1 HB2 HB BW0 H1W VS HT HRG HSW HA HB64 HN64 S1 HW1 hgx
      go_upto_region 15 with (first
        | (refine wpList_load_sub rfl 31 (.tmp 11) rfl gx 0 64 rfl 31 _ _ MX2.out.bk Tryd.underlying31 rfl (by kernel_rfl) MX2.out.size _ MX2.out.all ?_)
        | (go_at_call 25; ((with_reducible refine (rcopy_own MX2.out HXK.out).mono ?_); rintro e u3 ⟨cs3, rfl, mo, hb⟩; have MO3 := Lib.hid mo; have HB3 := Lib.hid hb; clear hb mo))
        | (refine wpList_store_fresh rfl 31 (.tmp 16) (.tmp 58) rfl rfl cs3 31 _ rfl rfl (by rw [MO3.out.sz]; kernel_rfl) (by rw [MO3.out.sz]; kernel_rfl) MO3.out.one ?_))
      obtain ⟨vm, vs, vo, hcs, om, os, oo⟩ := MO3.out.own
      obtain ⟨ma, mc, rfl, _, _⟩ := om.sl
      have hst : SfSt w2 u3.heap.size w2.heap.size X B ma mc vs vo bb (u3.alloc (.cells cs3 31)) :=
        ⟨by rw [← hcs]; exact bk_new _ _ _, by rw [HST0.out]; exact om.below (ext_alloc (Below.refl _ _) _), os.below (ext_alloc (Below.refl _ _) _), oo.below (ext_alloc (Below.refl _ _) _), ext_alloc HB3.out _⟩
      obtain ⟨W3, hW3⟩ : ∃ W3, W3 = u3.alloc (.cells cs3 31) := ⟨_, rfl⟩
      obtain ⟨gy, hgy⟩ : ∃ gy, gy = u3.heap.size := ⟨_, rfl⟩
      rw [← hW3, ← hgy] at hst ⊢
      have HST := Lib.hid hst
      obtain ⟨nm, hnm⟩ : ∃ nm, X.mem.length = nm := ⟨_, rfl⟩
      have HNM := Lib.hid hnm
      have hwb : wrap64 ((bb : Int) + (nn : Int)) = (bb : Int) + (nn : Int) := IntWalk.wrap64_in _ ⟨by omega, by omega⟩
      have hwc : IntKind.i64.wrap ((bb : Int) + (nn : Int)) = (bb : Int) + (nn : Int) := IntWalk.i64_in _ ⟨by omega, by omega⟩
      clear hst om os oo hcs hW3 hgy MO3 HB3 HST0 hnm
      go_wp2
      go_loopw [17] (fun i wr => ∃ k : Nat, bb ≤ k ∧ k ≤ bb + nn ∧ i = .int .i64 k ∧ SfSt w2 gy w2.heap.size X B ma mc vs vo k wr) (fun i _ => bb + nn - (intOf i).toNat)
      case atStart => exact ⟨bb, Nat.le_refl _, Nat.le_add_right _ _, rfl, HST.out⟩
      case round =>
        obtain ⟨k, hk1, hk2, rfl, hs⟩ := hrel
        have hB : B.length = X.mem.length := HBL.out
        have c61 : wr.cell? ⟨gy, 61, none⟩ = some (.slice ma nm mc) := by rw [← HNM.out]; exact (hs.bk.cell _).trans (mcs_hi HXK.out.2 5)
        have kL := hs.bk.lt
        by_cases c1 : k < bb + nn
        · have q2 : (k : Int) < (bb : Int) + (nn : Int) := by omega
          by_cases c2 : k < nm
          · have q3 : (k : Int) < (nm : Int) := by omega
            have q0 : (0 : Int) ≤ k := by omega
            obtain ⟨x, hx⟩ : ∃ x, X.mem[k]? = some x := ⟨_, List.getElem?_eq_getElem (by have := HNM.out; omega)⟩
            have hbj := HAT.out k x hx
            rw [if_pos ⟨hk1, c1⟩, hlv] at hbj
            have hmix := mix_at hB hx
            obtain ⟨gm, hma, hmn, hgm, hgl, hF, hC⟩ := own_at hs.om hmix
            have hst := hs.store hB hma (Nat.le_refl _) hbj
            have hml : k % j < j := Nat.mod_lt _ h0
            obtain ⟨v, hgv⟩ : ∃ v, vals[k % j]? = some v := ⟨_, List.getElem?_eq_getElem (by omega)⟩
            have hvd : vals.getD (k % j) 0 = v := by rw [List.getD_eq_getElem?_getD, hgv]; rfl
            rw [hvd] at hst
            obtain ⟨vd, hvd2, vb, ve⟩ := sl_int (VS2.out.below hs.below) hml hgv
            subst hma hvd2
            have x0 := hC 0 _ rfl; have x1 := hC 1 _ rfl; have x2 := hC 2 _ rfl; have x3 := hC 3 _ rfl; have x4 := hC 4 _ rfl; have x5 := hC 5 _ rfl; have x6 := hC 6 _ rfl
            have e7 : El.k ValV = 7 := rfl
            simp only [e7, Nat.add_zero] at x0 x1 x2 x3 x4 x5 x6
            have hS1 : wr.setCells gm (k * 7) [.bool false, .int .i64 v, .int .i64 0, .int .i64 0, .int .i64 0, .int .i64 0, .int .i64 0] = wr.setCells gm (k * 7) (cl (nV v)) := rfl
            obtain ⟨W5, hW5⟩ : ∃ W5, W5 = wr.setCells gm (k * 7) (cl (nV v)) := ⟨_, rfl⟩
            rw [← hW5] at hst hS1
            have g3 : (j : Int) ≠ 0 := by omega
            have hrem : (k : Int).tmod (j : Int) = ((k % j : Nat) : Int) := by rw [Int.tmod_eq_emod_of_nonneg (by omega)]; exact (Int.natCast_emod k j).symm
            have hr0 : (0 : Int) ≤ ((k % j : Nat) : Int) := by omega
            have hr1 : ((k % j : Nat) : Int) < (j : Int) := by omega
            have hwr : -9223372036854775808 ≤ ((k % j : Nat) : Int) ∧ ((k % j : Nat) : Int) ≤ 9223372036854775807 := ⟨by omega, by omega⟩
            have hwr1 := IntWalk.wrap64_in _ hwr
            have hwr2 := IntWalk.i64_in _ hwr
            have HS' := Lib.hid hst
            have HS1 := Lib.hid hS1
            have HM := Lib.hid hml
            clear hs hst hbj hx hmix hW5 hS1 hC hB hgv hvd hml
            generalize k % j = jr at *
            go_upto_region 17 with (fail)
            go_region
            go_upto_region 16 with (fail)
            rw [setCells7, HS1.out]
            clear x0 x1 x2 x3 x4 x5 x6 HS1 c61
            go_wp2
            go_roundw
            case rel => exact ⟨k + 1, by omega, by omega, by go_num, HS'.out.drew⟩
            case measure => simp [intOf]; omega
          · have q3 : ¬ ((k : Int) < (nm : Int)) := by omega
            have he := HEN.out k (.inr (by have := HNM.out; omega))
            have hby := hs.box HXK.out.2 hB he
            have hbx := MX2.out.below hs.below
            obtain ⟨csy, hcsy⟩ : ∃ csy, csy = mcs X.R X.c (.slice ma X.mem.length mc) vs vo := ⟨_, rfl⟩
            rw [← hcsy] at hby
            have BX := Lib.hid hbx
            have BY := Lib.hid hby
            have HT3 := Lib.hid (HT2.out.below hs.below)
            have W03 := Lib.hid (ext_trans W02.out hs.below)
            clear hs hbx hby hcsy hB he HEN HAT HST MX2 VS2 HT2 W02
            go_upto_region 20 with (first
              | (refine wpList_load_sub rfl 31 (.tmp 11) rfl gx 0 64 rfl 31 _ _ BX.out.bk Tryd.underlying31 rfl (by kernel_rfl) BX.out.size _ BX.out.all ?_)
              | (go_at_call 15; ((with_reducible refine (run_box BX.out HT3.out _ R1.out).mono ?_); rintro e u5 ⟨cs5, rfl, mx, hb⟩; have MX5 := Lib.hid mx; have HB5 := Lib.hid hb; clear hb mx))
              | (refine wpList_store_fresh rfl 31 (.tmp 18) (.tmp 90) rfl rfl cs5 31 _ rfl rfl (by rw [MX5.out.sz]; kernel_rfl) (by rw [MX5.out.sz]; kernel_rfl) MX5.out.one ?_)
              | (refine wpList_load_sub rfl 31 (.tmp 16) rfl gy 0 64 rfl 31 _ _ (BY.out.below (ext_alloc HB5.out _)).bk Tryd.underlying31 rfl (by kernel_rfl) BY.out.size _ BY.out.all ?_)
              | (go_at_call 15; ((with_reducible refine (run_box (BY.out.below (ext_alloc HB5.out _)) (HT3.out.below (ext_alloc HB5.out _)) _ R2.out).mono ?_); rintro e u6 ⟨cs6, rfl, mx, hb⟩; have MX6 := Lib.hid mx; have HB6 := Lib.hid hb; clear hb mx))
              | (refine wpList_store_fresh rfl 31 (.tmp 21) (.tmp 97) rfl rfl cs6 31 _ rfl rfl (by rw [MX6.out.sz]; kernel_rfl) (by rw [MX6.out.sz]; kernel_rfl) MX6.out.one ?_))
            have hax : MBox u5.heap.size A cs5 (u6.alloc (.cells cs6 31)) := (MX5.out.below (ext_alloc HB6.out _))
            have hbx : MBox u6.heap.size (A.mm zl) cs6 (u6.alloc (.cells cs6 31)) := MX6.out
            have hxx : MBox gx X cs1 (u6.alloc (.cells cs6 31)) := (BX.out.below (ext_alloc (ext_trans (ext_alloc HB5.out _) HB6.out) _))
            have hyx : MBox gy (X.mm B) csy (u6.alloc (.cells cs6 31)) := (BY.out.below (ext_alloc (ext_trans (ext_alloc HB5.out _) HB6.out) _))
            have hfin : Below w.heap.size w (u6.alloc (.cells cs6 31)) := ext_trans W03.out (ext_alloc (ext_trans (ext_alloc HB5.out _) HB6.out) _)
            obtain ⟨W5, hW5⟩ : ∃ W5, W5 = (u6.alloc (.cells cs6 31)) := ⟨_, rfl⟩
            rw [← hW5] at hax hbx hxx hyx hfin ⊢
            obtain ⟨ga, hga⟩ : ∃ ga, ga = u5.heap.size := ⟨_, rfl⟩
            obtain ⟨gb, hgb⟩ : ∃ gb, gb = u6.heap.size := ⟨_, rfl⟩
            rw [← hga] at hax ⊢
            rw [← hgb] at hbx ⊢
            have h8x := HA8.out
            have ka := hax.bk
            have kb := hbx.bk
            obtain ⟨ma1, sa1, oa1, mc1, sc1, oc1, ea, hm, hs, ho⟩ := hax.row
            have hrow : ∃ ma sa oa mc sc oc, cs6 = mcs A.R A.c (.slice ma zl.length mc) (.slice sa A.stk.length sc) (.slice oa A.out.length oc) ∧ Sl W5 ma zl.length zl ∧ Sl W5 sa A.stk.length A.stk ∧ Sl W5 oa A.out.length A.out := hbx.row
            obtain ⟨ma2, sa2, oa2, mc2, sc2, oc2, eb, hm2, hs2, ho2⟩ := hrow
            obtain ⟨ma3, mc3, x61, hm3⟩ := hxx.memC
            have hrow : ∃ ao c, W5.cell? ⟨gy, 61, none⟩ = some (.slice ao B.length c) ∧ Sl W5 ao B.length B := hyx.memC
            obtain ⟨ma4, mc4, y61, hm4⟩ := hrow
            have xL := hxx.bk.lt
            have yL := hyx.bk.lt
            have hz2 := Z2.out
            have hz3 := Z3.out
            have hbl := HBL.out
            have l400 := HXK.out.1.len
            rw [HNM.out] at hz2 hz3 hbl x61 hm3 l400
            rw [hz3] at ea hm
            rw [hz2] at eb hm2
            rw [hbl] at y61 hm4
            clear hax hbx hxx hyx
            have hsza : cs5.size = 64 := by rw [ea]; exact mcs_size h8x
            have hszb : cs6.size = 64 := by rw [eb]; exact mcs_size h8x
            have hrga : cs5.extract 0 (0 + 56) = (cls A.R).toArray := by rw [ea]; exact mcs_regs h8x
            have hrgb : cs6.extract 0 (0 + 56) = (cls A.R).toArray := by rw [eb]; exact mcs_regs h8x
            have p56_1 : W5.cell? ⟨ga, 56, none⟩ = some (.int .i64 A.c.perm) := (ka.cell _).trans (by rw [ea]; exact mcs_hi h8x 0)
            have p57_1 : W5.cell? ⟨ga, 57, none⟩ = some (.int .i64 A.c.base) := (ka.cell _).trans (by rw [ea]; exact mcs_hi h8x 1)
            have p58_1 : W5.cell? ⟨ga, 58, none⟩ = some (.int .i64 A.c.len) := (ka.cell _).trans (by rw [ea]; exact mcs_hi h8x 2)
            have p59_1 : W5.cell? ⟨ga, 59, none⟩ = some (.int .i64 A.c.at_) := (ka.cell _).trans (by rw [ea]; exact mcs_hi h8x 3)
            have p60_1 : W5.cell? ⟨ga, 60, none⟩ = some (.int .i64 A.c.seal_) := (ka.cell _).trans (by rw [ea]; exact mcs_hi h8x 4)
            have v61_1 : ∀ z : Later W5, z.val.cell? ⟨ga, 61, none⟩ = some (.slice ma1 nm mc1) := fun z => ((z.bk ka).cell _).trans (by rw [ea]; exact mcs_hi h8x 5)
            have p61_1 : W5.cell? ⟨ga, 61, none⟩ = some (.slice ma1 nm mc1) := (ka.cell _).trans (by rw [ea]; exact mcs_hi h8x 5)
            have p63_1 : W5.cell? ⟨ga, 63, none⟩ = some (.slice oa1 A.out.length oc1) := (ka.cell _).trans (by rw [ea]; exact mcs_hi h8x 7)
            have vL_1 : ∀ z : Later W5, ga < z.val.heap.size := fun z => z.lt ka.lt
            have pL_1 : ga < W5.heap.size := ka.lt
            have p56_2 : W5.cell? ⟨gb, 56, none⟩ = some (.int .i64 A.c.perm) := (kb.cell _).trans (by rw [eb]; exact mcs_hi h8x 0)
            have p57_2 : W5.cell? ⟨gb, 57, none⟩ = some (.int .i64 A.c.base) := (kb.cell _).trans (by rw [eb]; exact mcs_hi h8x 1)
            have p58_2 : W5.cell? ⟨gb, 58, none⟩ = some (.int .i64 A.c.len) := (kb.cell _).trans (by rw [eb]; exact mcs_hi h8x 2)
            have p59_2 : W5.cell? ⟨gb, 59, none⟩ = some (.int .i64 A.c.at_) := (kb.cell _).trans (by rw [eb]; exact mcs_hi h8x 3)
            have p60_2 : W5.cell? ⟨gb, 60, none⟩ = some (.int .i64 A.c.seal_) := (kb.cell _).trans (by rw [eb]; exact mcs_hi h8x 4)
            have v61_2 : ∀ z : Later W5, z.val.cell? ⟨gb, 61, none⟩ = some (.slice ma2 nm mc2) := fun z => ((z.bk kb).cell _).trans (by rw [eb]; exact mcs_hi h8x 5)
            have p61_2 : W5.cell? ⟨gb, 61, none⟩ = some (.slice ma2 nm mc2) := (kb.cell _).trans (by rw [eb]; exact mcs_hi h8x 5)
            have p63_2 : W5.cell? ⟨gb, 63, none⟩ = some (.slice oa2 A.out.length oc2) := (kb.cell _).trans (by rw [eb]; exact mcs_hi h8x 7)
            have vL_2 : ∀ z : Later W5, gb < z.val.heap.size := fun z => z.lt kb.lt
            have pL_2 : gb < W5.heap.size := kb.lt
            have v61_3 : ∀ z : Later W5, z.val.cell? ⟨gx, 61, none⟩ = some (.slice ma3 nm mc3) := fun z => (z.ok.cell (p := ⟨gx, 61, none⟩) xL).trans x61
            have vL_3 : ∀ z : Later W5, gx < z.val.heap.size := fun z => z.lt xL
            have v61_4 : ∀ z : Later W5, z.val.cell? ⟨gy, 61, none⟩ = some (.slice ma4 nm mc4) := fun z => (z.ok.cell (p := ⟨gy, 61, none⟩) yL).trans y61
            have vL_4 : ∀ z : Later W5, gy < z.val.heap.size := fun z => z.lt yL
            have ei := fun W (hb : Below W5.heap.size W5 W) => eq_int oa1 oa2 _ _ oc1 oc2 A.out A.out W (ho.below hb) (ho2.below hb)
            have qr := fun W => run_neq_regs A.R A.R h8x h8x W
            have qk := fun W => run_neq_key A.c A.c W
            simp only [KeyV.val, decide_true, Bool.not_true] at ei qr qk
            have g1 : (kk != kk) = false := by simp
            have g2 : (er != er) = false := by simp
            have g3 : (((nm : Nat) : Int) != nm) = false := by simp
            generalize A.out.length = no at *
            generalize A.stk.length = ns at *
            have EI := Lib.hid ei
            have KA := Lib.hid ka
            have KB := Lib.hid kb
            have SA := Lib.hid hsza
            have SB := Lib.hid hszb
            have RA := Lib.hid hrga
            have RB := Lib.hid hrgb
            have M1 := Lib.hid hm
            have M2 := Lib.hid hm2
            have M3 := Lib.hid hm3
            have M4 := Lib.hid hm4
            have FIN := Lib.hid hfin
            clear ei ka kb hsza hszb hrga hrgb hm hm2 hm3 hm4 hfin ea eb hs ho hs2 ho2 hW5 hga hgb h8x hz2 hz3 hbl MX5 MX6 HB5 HB6 HT3 W03 R1 R2 Z2 Z3 HA8 BX BY HBL x61 y61 xL yL
            go_upto_region 22 with (first
              | (refine wpList_load_sub_q 26 (.tmp 109) rfl rfl ga 0 56 rfl 31 _ _ KA.out Tryd.underlying26 rfl (by kernel_rfl) (by have := SA.out; omega) _ RA.out ?_)
              | (refine wpList_load_sub_q 26 (.tmp 111) rfl rfl gb 0 56 rfl 31 _ _ KB.out Tryd.underlying26 rfl (by kernel_rfl) (by have := SB.out; omega) _ RB.out ?_)
              | (go_at_call 26; ((with_reducible refine (EI.out _ (Below.refl _ _)).mono ?_); rintro e w' ⟨rfl, hb⟩; obtain ⟨y1, rfl⟩ := later_call (Below.refl _ _) hb; clear hb)))
            clear p56_1 p57_1 p58_1 p59_1 p60_1 p61_1 p63_1 p56_2 p57_2 p58_2 p59_2 p60_2 p61_2 p63_2 qr qk EI KA KB SA SB RA RB
            go_wp2
            go_loopw [151] (fun i wr => ∃ t : Nat, t ≤ nm ∧ i = .int .i64 t ∧ Below W5.heap.size W5 wr) (fun i _ => nm - (intOf i).toNat)
            case atStart => exact ⟨0, Nat.zero_le _, rfl, y1.ok⟩
            case round =>
              obtain ⟨t, ht, rfl, hb⟩ := hrel
              obtain ⟨z, hz⟩ : ∃ z : Later W5, wr = z.val := ⟨⟨wr, hb⟩, rfl⟩
              subst hz
              have ZB := Lib.hid z.ok
              by_cases hlt : t < nm
              · have t0 : (0 : Int) ≤ t := by omega
                have t1 : (t : Int) < nm := by omega
                have d1 := v61_1 z
                have d2 := v61_2 z
                have d3 := v61_3 z
                have d4 := v61_4 z
                have l1 := vL_1 z
                have l2 := vL_2 z
                have l3 := vL_3 z
                have l4 := vL_4 z
                obtain ⟨x, hx⟩ : ∃ x, A.mem[t]? = some x := ⟨_, List.getElem?_eq_getElem (by have := M1.out.len; omega)⟩
                obtain ⟨ad, rfl, hab, e0, e1, e2, e3, e4, e5, e6⟩ := sl_valg (M1.out.below z.ok) hlt hx
                have ba : (ad.add (t * 7)).block < z.val.heap.size := by rw [el_block]; exact hab
                by_cases hin : bb ≤ t ∧ t < bb + nn
                · obtain ⟨h5, h6⟩ := Z5.out t hin
                  have n1 : (bb : Int) ≤ (t : Int) := by omega
                  have n2 : (t : Int) < (bb : Int) + (nn : Int) := by omega
                  obtain ⟨y, hy⟩ : ∃ y, zl[t]? = some y := ⟨_, List.getElem?_eq_getElem (by have := M2.out.len; omega)⟩
                  rw [hx] at h6
                  rw [hy] at h5
                  obtain ⟨bd, rfl, hbb, f0, f1, f2, f3, f4, f5, f6⟩ := sl_valg (M2.out.below z.ok) hlt hy
                  obtain ⟨cd, rfl, hcb, i0, i1, i2, i3, i4, i5, i6⟩ := sl_valg (M3.out.below z.ok) hlt h6.symm
                  obtain ⟨dd, rfl, hdb, j0, j1, j2, j3, j4, j5, j6⟩ := sl_valg (M4.out.below z.ok) hlt h5.symm
                  have bb_ : (bd.add (t * 7)).block < z.val.heap.size := by rw [el_block]; exact hbb
                  have bc : (cd.add (t * 7)).block < z.val.heap.size := by rw [el_block]; exact hcb
                  have bd_ : (dd.add (t * 7)).block < z.val.heap.size := by rw [el_block]; exact hdb
                  have o1 := fun W => run_neq_val x x W
                  have o2 := fun W => run_neq_val y y W
                  simp only [decide_true, Bool.not_true] at o1 o2
                  clear hb hx hy h5 h6
                  obtain ⟨xi, xn, xp, xb, xl, xa, xs_⟩ := x
                  obtain ⟨yi, yn, yp, yb, yl, ya, ys_⟩ := y
                  simp only [ValV.val] at *
                  go_wp2
                  go_quiet (fail)
                  go_wp2
                  go_roundw
                  case rel => exact ⟨t + 1, by omega, by go_num, by repeat (first | exact ZB.out | with_reducible refine ext_drewN ?_ _ | with_reducible refine ext_drew ?_)⟩
                  case measure => simp [intOf]; omega
                · have h4 := Z4.out t hin
                  rw [hx] at h4
                  obtain ⟨bd, rfl, hbb, f0, f1, f2, f3, f4, f5, f6⟩ := sl_valg (M2.out.below z.ok) hlt h4
                  have bb_ : (bd.add (t * 7)).block < z.val.heap.size := by rw [el_block]; exact hbb
                  have o1 := fun W => run_neq_val x x W
                  simp only [decide_true, Bool.not_true] at o1
                  clear hb hx h4
                  obtain ⟨xi, xn, xp, xb, xl, xa, xs_⟩ := x
                  simp only [ValV.val] at *
                  by_cases n1 : (bb : Int) ≤ (t : Int)
                  · have n2 : ¬ ((t : Int) < (bb : Int) + (nn : Int)) := by omega
                    go_wp2
                    go_quiet (fail)
                    go_wp2
                    go_roundw
                    case rel => exact ⟨t + 1, by omega, by go_num, by repeat (first | exact ZB.out | with_reducible refine ext_drewN ?_ _ | with_reducible refine ext_drew ?_)⟩
                    case measure => simp [intOf]; omega
                  · have n2 : ¬ ((bb : Int) ≤ (t : Int)) := n1
                    go_wp2
                    go_quiet (fail)
                    go_wp2
                    go_roundw
                    case rel => exact ⟨t + 1, by omega, by go_num, by repeat (first | exact ZB.out | with_reducible refine ext_drewN ?_ _ | with_reducible refine ext_drew ?_)⟩
                    case measure => simp [intOf]; omega
              · have t1 : ¬ ((t : Int) < nm) := by omega
                clear hb
                go_wp2
                go_ret
                exact ⟨rfl, ext_trans FIN.out ZB.out⟩
        · have q2 : ¬ ((k : Int) < (bb : Int) + (nn : Int)) := by omega
          have he := HEN.out k (.inl (by omega))
          have hby := hs.box HXK.out.2 hB he
          have hbx := MX2.out.below hs.below
          obtain ⟨csy, hcsy⟩ : ∃ csy, csy = mcs X.R X.c (.slice ma X.mem.length mc) vs vo := ⟨_, rfl⟩
          rw [← hcsy] at hby
          have BX := Lib.hid hbx
          have BY := Lib.hid hby
          have HT3 := Lib.hid (HT2.out.below hs.below)
          have W03 := Lib.hid (ext_trans W02.out hs.below)
          clear hs hbx hby hcsy hB he HEN HAT HST MX2 VS2 HT2 W02
          go_upto_region 20 with (first
            | (refine wpList_load_sub rfl 31 (.tmp 11) rfl gx 0 64 rfl 31 _ _ BX.out.bk Tryd.underlying31 rfl (by kernel_rfl) BX.out.size _ BX.out.all ?_)
            | (go_at_call 15; ((with_reducible refine (run_box BX.out HT3.out _ R1.out).mono ?_); rintro e u5 ⟨cs5, rfl, mx, hb⟩; have MX5 := Lib.hid mx; have HB5 := Lib.hid hb; clear hb mx))
            | (refine wpList_store_fresh rfl 31 (.tmp 18) (.tmp 90) rfl rfl cs5 31 _ rfl rfl (by rw [MX5.out.sz]; kernel_rfl) (by rw [MX5.out.sz]; kernel_rfl) MX5.out.one ?_)
            | (refine wpList_load_sub rfl 31 (.tmp 16) rfl gy 0 64 rfl 31 _ _ (BY.out.below (ext_alloc HB5.out _)).bk Tryd.underlying31 rfl (by kernel_rfl) BY.out.size _ BY.out.all ?_)
            | (go_at_call 15; ((with_reducible refine (run_box (BY.out.below (ext_alloc HB5.out _)) (HT3.out.below (ext_alloc HB5.out _)) _ R2.out).mono ?_); rintro e u6 ⟨cs6, rfl, mx, hb⟩; have MX6 := Lib.hid mx; have HB6 := Lib.hid hb; clear hb mx))
            | (refine wpList_store_fresh rfl 31 (.tmp 21) (.tmp 97) rfl rfl cs6 31 _ rfl rfl (by rw [MX6.out.sz]; kernel_rfl) (by rw [MX6.out.sz]; kernel_rfl) MX6.out.one ?_))
          have hax : MBox u5.heap.size A cs5 (u6.alloc (.cells cs6 31)) := (MX5.out.below (ext_alloc HB6.out _))
          have hbx : MBox u6.heap.size (A.mm zl) cs6 (u6.alloc (.cells cs6 31)) := MX6.out
          have hxx : MBox gx X cs1 (u6.alloc (.cells cs6 31)) := (BX.out.below (ext_alloc (ext_trans (ext_alloc HB5.out _) HB6.out) _))
          have hyx : MBox gy (X.mm B) csy (u6.alloc (.cells cs6 31)) := (BY.out.below (ext_alloc (ext_trans (ext_alloc HB5.out _) HB6.out) _))
          have hfin : Below w.heap.size w (u6.alloc (.cells cs6 31)) := ext_trans W03.out (ext_alloc (ext_trans (ext_alloc HB5.out _) HB6.out) _)
          obtain ⟨W5, hW5⟩ : ∃ W5, W5 = (u6.alloc (.cells cs6 31)) := ⟨_, rfl⟩
          rw [← hW5] at hax hbx hxx hyx hfin ⊢
          obtain ⟨ga, hga⟩ : ∃ ga, ga = u5.heap.size := ⟨_, rfl⟩
          obtain ⟨gb, hgb⟩ : ∃ gb, gb = u6.heap.size := ⟨_, rfl⟩
          rw [← hga] at hax ⊢
          rw [← hgb] at hbx ⊢
          have h8x := HA8.out
          have ka := hax.bk
          have kb := hbx.bk
          obtain ⟨ma1, sa1, oa1, mc1, sc1, oc1, ea, hm, hs, ho⟩ := hax.row
          have hrow : ∃ ma sa oa mc sc oc, cs6 = mcs A.R A.c (.slice ma zl.length mc) (.slice sa A.stk.length sc) (.slice oa A.out.length oc) ∧ Sl W5 ma zl.length zl ∧ Sl W5 sa A.stk.length A.stk ∧ Sl W5 oa A.out.length A.out := hbx.row
          obtain ⟨ma2, sa2, oa2, mc2, sc2, oc2, eb, hm2, hs2, ho2⟩ := hrow
          obtain ⟨ma3, mc3, x61, hm3⟩ := hxx.memC
          have hrow : ∃ ao c, W5.cell? ⟨gy, 61, none⟩ = some (.slice ao B.length c) ∧ Sl W5 ao B.length B := hyx.memC
          obtain ⟨ma4, mc4, y61, hm4⟩ := hrow
          have xL := hxx.bk.lt
          have yL := hyx.bk.lt
          have hz2 := Z2.out
          have hz3 := Z3.out
          have hbl := HBL.out
          have l400 := HXK.out.1.len
          rw [HNM.out] at hz2 hz3 hbl x61 hm3 l400
          rw [hz3] at ea hm
          rw [hz2] at eb hm2
          rw [hbl] at y61 hm4
          clear hax hbx hxx hyx
          have hsza : cs5.size = 64 := by rw [ea]; exact mcs_size h8x
          have hszb : cs6.size = 64 := by rw [eb]; exact mcs_size h8x
          have hrga : cs5.extract 0 (0 + 56) = (cls A.R).toArray := by rw [ea]; exact mcs_regs h8x
          have hrgb : cs6.extract 0 (0 + 56) = (cls A.R).toArray := by rw [eb]; exact mcs_regs h8x
          have p56_1 : W5.cell? ⟨ga, 56, none⟩ = some (.int .i64 A.c.perm) := (ka.cell _).trans (by rw [ea]; exact mcs_hi h8x 0)
          have p57_1 : W5.cell? ⟨ga, 57, none⟩ = some (.int .i64 A.c.base) := (ka.cell _).trans (by rw [ea]; exact mcs_hi h8x 1)
          have p58_1 : W5.cell? ⟨ga, 58, none⟩ = some (.int .i64 A.c.len) := (ka.cell _).trans (by rw [ea]; exact mcs_hi h8x 2)
          have p59_1 : W5.cell? ⟨ga, 59, none⟩ = some (.int .i64 A.c.at_) := (ka.cell _).trans (by rw [ea]; exact mcs_hi h8x 3)
          have p60_1 : W5.cell? ⟨ga, 60, none⟩ = some (.int .i64 A.c.seal_) := (ka.cell _).trans (by rw [ea]; exact mcs_hi h8x 4)
          have v61_1 : ∀ z : Later W5, z.val.cell? ⟨ga, 61, none⟩ = some (.slice ma1 nm mc1) := fun z => ((z.bk ka).cell _).trans (by rw [ea]; exact mcs_hi h8x 5)
          have p61_1 : W5.cell? ⟨ga, 61, none⟩ = some (.slice ma1 nm mc1) := (ka.cell _).trans (by rw [ea]; exact mcs_hi h8x 5)
          have p63_1 : W5.cell? ⟨ga, 63, none⟩ = some (.slice oa1 A.out.length oc1) := (ka.cell _).trans (by rw [ea]; exact mcs_hi h8x 7)
          have vL_1 : ∀ z : Later W5, ga < z.val.heap.size := fun z => z.lt ka.lt
          have pL_1 : ga < W5.heap.size := ka.lt
          have p56_2 : W5.cell? ⟨gb, 56, none⟩ = some (.int .i64 A.c.perm) := (kb.cell _).trans (by rw [eb]; exact mcs_hi h8x 0)
          have p57_2 : W5.cell? ⟨gb, 57, none⟩ = some (.int .i64 A.c.base) := (kb.cell _).trans (by rw [eb]; exact mcs_hi h8x 1)
          have p58_2 : W5.cell? ⟨gb, 58, none⟩ = some (.int .i64 A.c.len) := (kb.cell _).trans (by rw [eb]; exact mcs_hi h8x 2)
          have p59_2 : W5.cell? ⟨gb, 59, none⟩ = some (.int .i64 A.c.at_) := (kb.cell _).trans (by rw [eb]; exact mcs_hi h8x 3)
          have p60_2 : W5.cell? ⟨gb, 60, none⟩ = some (.int .i64 A.c.seal_) := (kb.cell _).trans (by rw [eb]; exact mcs_hi h8x 4)
          have v61_2 : ∀ z : Later W5, z.val.cell? ⟨gb, 61, none⟩ = some (.slice ma2 nm mc2) := fun z => ((z.bk kb).cell _).trans (by rw [eb]; exact mcs_hi h8x 5)
          have p61_2 : W5.cell? ⟨gb, 61, none⟩ = some (.slice ma2 nm mc2) := (kb.cell _).trans (by rw [eb]; exact mcs_hi h8x 5)
          have p63_2 : W5.cell? ⟨gb, 63, none⟩ = some (.slice oa2 A.out.length oc2) := (kb.cell _).trans (by rw [eb]; exact mcs_hi h8x 7)
          have vL_2 : ∀ z : Later W5, gb < z.val.heap.size := fun z => z.lt kb.lt
          have pL_2 : gb < W5.heap.size := kb.lt
          have v61_3 : ∀ z : Later W5, z.val.cell? ⟨gx, 61, none⟩ = some (.slice ma3 nm mc3) := fun z => (z.ok.cell (p := ⟨gx, 61, none⟩) xL).trans x61
          have vL_3 : ∀ z : Later W5, gx < z.val.heap.size := fun z => z.lt xL
          have v61_4 : ∀ z : Later W5, z.val.cell? ⟨gy, 61, none⟩ = some (.slice ma4 nm mc4) := fun z => (z.ok.cell (p := ⟨gy, 61, none⟩) yL).trans y61
          have vL_4 : ∀ z : Later W5, gy < z.val.heap.size := fun z => z.lt yL
          have ei := fun W (hb : Below W5.heap.size W5 W) => eq_int oa1 oa2 _ _ oc1 oc2 A.out A.out W (ho.below hb) (ho2.below hb)
          have qr := fun W => run_neq_regs A.R A.R h8x h8x W
          have qk := fun W => run_neq_key A.c A.c W
          simp only [KeyV.val, decide_true, Bool.not_true] at ei qr qk
          have g1 : (kk != kk) = false := by simp
          have g2 : (er != er) = false := by simp
          have g3 : (((nm : Nat) : Int) != nm) = false := by simp
          generalize A.out.length = no at *
          generalize A.stk.length = ns at *
          have EI := Lib.hid ei
          have KA := Lib.hid ka
          have KB := Lib.hid kb
          have SA := Lib.hid hsza
          have SB := Lib.hid hszb
          have RA := Lib.hid hrga
          have RB := Lib.hid hrgb
          have M1 := Lib.hid hm
          have M2 := Lib.hid hm2
          have M3 := Lib.hid hm3
          have M4 := Lib.hid hm4
          have FIN := Lib.hid hfin
          clear ei ka kb hsza hszb hrga hrgb hm hm2 hm3 hm4 hfin ea eb hs ho hs2 ho2 hW5 hga hgb h8x hz2 hz3 hbl MX5 MX6 HB5 HB6 HT3 W03 R1 R2 Z2 Z3 HA8 BX BY HBL x61 y61 xL yL
          go_upto_region 22 with (first
            | (refine wpList_load_sub_q 26 (.tmp 109) rfl rfl ga 0 56 rfl 31 _ _ KA.out Tryd.underlying26 rfl (by kernel_rfl) (by have := SA.out; omega) _ RA.out ?_)
            | (refine wpList_load_sub_q 26 (.tmp 111) rfl rfl gb 0 56 rfl 31 _ _ KB.out Tryd.underlying26 rfl (by kernel_rfl) (by have := SB.out; omega) _ RB.out ?_)
            | (go_at_call 26; ((with_reducible refine (EI.out _ (Below.refl _ _)).mono ?_); rintro e w' ⟨rfl, hb⟩; obtain ⟨y1, rfl⟩ := later_call (Below.refl _ _) hb; clear hb)))
          clear p56_1 p57_1 p58_1 p59_1 p60_1 p61_1 p63_1 p56_2 p57_2 p58_2 p59_2 p60_2 p61_2 p63_2 qr qk EI KA KB SA SB RA RB
          go_wp2
          go_loopw [151] (fun i wr => ∃ t : Nat, t ≤ nm ∧ i = .int .i64 t ∧ Below W5.heap.size W5 wr) (fun i _ => nm - (intOf i).toNat)
          case atStart => exact ⟨0, Nat.zero_le _, rfl, y1.ok⟩
          case round =>
            obtain ⟨t, ht, rfl, hb⟩ := hrel
            obtain ⟨z, hz⟩ : ∃ z : Later W5, wr = z.val := ⟨⟨wr, hb⟩, rfl⟩
            subst hz
            have ZB := Lib.hid z.ok
            by_cases hlt : t < nm
            · have t0 : (0 : Int) ≤ t := by omega
              have t1 : (t : Int) < nm := by omega
              have d1 := v61_1 z
              have d2 := v61_2 z
              have d3 := v61_3 z
              have d4 := v61_4 z
              have l1 := vL_1 z
              have l2 := vL_2 z
              have l3 := vL_3 z
              have l4 := vL_4 z
              obtain ⟨x, hx⟩ : ∃ x, A.mem[t]? = some x := ⟨_, List.getElem?_eq_getElem (by have := M1.out.len; omega)⟩
              obtain ⟨ad, rfl, hab, e0, e1, e2, e3, e4, e5, e6⟩ := sl_valg (M1.out.below z.ok) hlt hx
              have ba : (ad.add (t * 7)).block < z.val.heap.size := by rw [el_block]; exact hab
              by_cases hin : bb ≤ t ∧ t < bb + nn
              · obtain ⟨h5, h6⟩ := Z5.out t hin
                have n1 : (bb : Int) ≤ (t : Int) := by omega
                have n2 : (t : Int) < (bb : Int) + (nn : Int) := by omega
                obtain ⟨y, hy⟩ : ∃ y, zl[t]? = some y := ⟨_, List.getElem?_eq_getElem (by have := M2.out.len; omega)⟩
                rw [hx] at h6
                rw [hy] at h5
                obtain ⟨bd, rfl, hbb, f0, f1, f2, f3, f4, f5, f6⟩ := sl_valg (M2.out.below z.ok) hlt hy
                obtain ⟨cd, rfl, hcb, i0, i1, i2, i3, i4, i5, i6⟩ := sl_valg (M3.out.below z.ok) hlt h6.symm
                obtain ⟨dd, rfl, hdb, j0, j1, j2, j3, j4, j5, j6⟩ := sl_valg (M4.out.below z.ok) hlt h5.symm
                have bb_ : (bd.add (t * 7)).block < z.val.heap.size := by rw [el_block]; exact hbb
                have bc : (cd.add (t * 7)).block < z.val.heap.size := by rw [el_block]; exact hcb
                have bd_ : (dd.add (t * 7)).block < z.val.heap.size := by rw [el_block]; exact hdb
                have o1 := fun W => run_neq_val x x W
                have o2 := fun W => run_neq_val y y W
                simp only [decide_true, Bool.not_true] at o1 o2
                clear hb hx hy h5 h6
                obtain ⟨xi, xn, xp, xb, xl, xa, xs_⟩ := x
                obtain ⟨yi, yn, yp, yb, yl, ya, ys_⟩ := y
                simp only [ValV.val] at *
                go_wp2
                go_quiet (fail)
                go_wp2
                go_roundw
                case rel => exact ⟨t + 1, by omega, by go_num, by repeat (first | exact ZB.out | with_reducible refine ext_drewN ?_ _ | with_reducible refine ext_drew ?_)⟩
                case measure => simp [intOf]; omega
              · have h4 := Z4.out t hin
                rw [hx] at h4
                obtain ⟨bd, rfl, hbb, f0, f1, f2, f3, f4, f5, f6⟩ := sl_valg (M2.out.below z.ok) hlt h4
                have bb_ : (bd.add (t * 7)).block < z.val.heap.size := by rw [el_block]; exact hbb
                have o1 := fun W => run_neq_val x x W
                simp only [decide_true, Bool.not_true] at o1
                clear hb hx h4
                obtain ⟨xi, xn, xp, xb, xl, xa, xs_⟩ := x
                simp only [ValV.val] at *
                by_cases n1 : (bb : Int) ≤ (t : Int)
                · have n2 : ¬ ((t : Int) < (bb : Int) + (nn : Int)) := by omega
                  go_wp2
                  go_quiet (fail)
                  go_wp2
                  go_roundw
                  case rel => exact ⟨t + 1, by omega, by go_num, by repeat (first | exact ZB.out | with_reducible refine ext_drewN ?_ _ | with_reducible refine ext_drew ?_)⟩
                  case measure => simp [intOf]; omega
                · have n2 : ¬ ((bb : Int) ≤ (t : Int)) := n1
                  go_wp2
                  go_quiet (fail)
                  go_wp2
                  go_roundw
                  case rel => exact ⟨t + 1, by omega, by go_num, by repeat (first | exact ZB.out | with_reducible refine ext_drewN ?_ _ | with_reducible refine ext_drew ?_)⟩
                  case measure => simp [intOf]; omega
            · have t1 : ¬ ((t : Int) < nm) := by omega
              clear hb
              go_wp2
              go_ret
              exact ⟨rfl, ext_trans FIN.out ZB.out⟩
theorem sweepSafe_walk (x : MachA) (b n : Int) (v : SlV Int) (a : Int) {w : World} (hx : x.ok w) (hb : I64 b) (hn : I64 n) (hv : v.ok I64 w) (ha : I64 a) (ht : Tab w) : Calls Tryd.prog 5 #[x.val, .int .i64 b, .int .i64 n, v.val, .int .i64 a] w fun e w' => e = .returned (.bool true) ∧ Below w.heap.size w w' := by
  obtain ⟨na, hna⟩ := Int.eq_ofNat_of_zero_le (Int.emod_nonneg a (show (2000 : Int) ≠ 0 by decide))
  have l1 := Int.emod_lt_of_pos a (show (0 : Int) < 2000 by decide)
  by_cases he : (sweepF x.mv b n).2.2 = 0
  · by_cases h0 : v.n = 0
    · exact safe_err x.mv _ b n v.ao v.n v.cap v.vs a na w (mbox_arg hx) ht hb hn hv.sl hna (by omega) (.inr h0)
    · exact safe_good x.mv _ b n v.ao v.n v.cap v.vs a na w (mbox_arg hx) ht hb hn hv.sl hna (by omega) he (by omega)
  · exact safe_err x.mv _ b n v.ao v.n v.cap v.vs a na w (mbox_arg hx) ht hb hn hv.sl hna (by omega) (.inl he)
end Go.Proofs.YtmffdgeebhpacaaDoor
