import Derived.BigQuiet
import Derived.Deep.QuietTactic
import Derived.Test.YtmffdgeebhpacaaDoorBlindLawZ
import Derived.Test.YtmffdgeebhpacaaDoorBuB
import Derived.Test.YtmffdgeebhpacaaDoorBuG
import Derived.Test.YtmffdgeebhpacaaDoorKeyEqZ
/- RunBlind. -/
namespace Go.Proofs.YtmffdgeebhpacaaDoor
open Go.RowKit
set_option linter.unusedVariables false
set_option linter.unusedSimpArgs false
set_option maxHeartbeats 8000000 in
set_option maxRecDepth 100000 in
theorem blind_bad (m : MV) (cs : Array Value) (vo_ : Option Addr) (vn vc : Nat) (vals : List Int) (pa : Int) (na : Nat) (w : World) (hbox : MBox w.heap.size m cs (w.alloc (.cells cs 31))) (ht : Tab w)
    (hv : Sl w vo_ vn vals) (hna : pa % 2000 = na) (ha : na < 2000) (hc : m.check ≠ 0) : Calls Tryd.prog 7 #[.agg cs, .slice vo_ vn vc, .int .i64 pa] w fun e w' => e = .returned (.bool true) ∧ Below w.heap.size w w' := by
  have h8 := hbox.h8
  have hvm : vn ≤ 9223372036854775807 := hv.max
  obtain ⟨ec, hec⟩ : ∃ ec, m.check = ec := ⟨_, rfl⟩
  rw [hec] at hc
  obtain ⟨is0, his⟩ : ∃ b : Bool, b = false := ⟨_, rfl⟩
  obtain ⟨w1, hw1⟩ : ∃ w1, w1 = w.alloc (.cells cs 31) := ⟨_, rfl⟩
  have h1w : Below w.heap.size w w1 := by rw [hw1]; exact ext_alloc (Below.refl _ _) _
  rw [← hw1] at hbox
  have sd := stepped_any w1 (ht.below h1w)
  have ra := fun W => rest_any pa 2000 W (by decide) (by decide)
  rw [hna] at ra
  have hv1 := hv.below h1w
  have SD := Lib.hid sd
  have RA := Lib.hid ra
  have MX := Lib.hid hbox
  have HW1 := Lib.hid hw1
  have H1W := Lib.hid h1w
  have HT := Lib.hid ht
  have VS := Lib.hid hv1
  have HIS := Lib.hid his
  have HC := Lib.hid hec
  have HE := Lib.hid hc
  clear sd ra hbox hw1 h1w ht h8 hna hc ha hv hv1 his hec
  go_enter Tryd.func7, Tryd.ntmps7
  go_upto_region 1 with (fail)
  rw [← HW1.out]
  go_upto_region 5 with (first
    | (go_at_call 13; ((with_reducible refine (SD.out).mono ?_); rintro e u1 ⟨rfl, hb⟩; have HB1 := Lib.hid hb; clear hb))
    | (go_at_call 14; ((with_reducible refine (RA.out _).mono ?_); rintro e w' ⟨rfl, rfl⟩; clear RA))
    | (refine wpList_load_sub rfl 31 (.tmp 3) rfl w.heap.size 0 64 rfl 31 _ _ (MX.out.below HB1.out).bk Tryd.underlying31 rfl (by kernel_rfl) MX.out.size _ MX.out.all ?_)
    | (go_at_call 28; ((with_reducible refine (seen_bad (MX.out.below HB1.out) HC.out HE.out).mono ?_); rintro e u2 ⟨lo, ln, lc, rfl, hb⟩; have HB2 := Lib.hid hb; clear hb; rw [← HIS.out])))
  have BW0 := Lib.hid (ext_trans HB1.out HB2.out)
  go_wp2
  go_loopw [8, 30] (fun b i wr => ∃ j : Nat, j ≤ vn ∧ i = .int .i64 j ∧ b = .bool (is0 && rngs (vals.take j)) ∧ Below u2.heap.size u2 wr) (fun _ i _ => vn - (intOf i).toNat)
  case atStart => exact ⟨0, Nat.zero_le _, rfl, by show _ = Value.bool (is0 && true); rw [Bool.and_true], Below.refl _ _⟩
  case round =>
    obtain ⟨j, hj, rfl, rfl, hb⟩ := hrel
    by_cases hlt : j < vn
    · have q0 : (0 : Int) ≤ j := by omega
      have q1 : (j : Int) < vn := by omega
      obtain ⟨x, hx⟩ : ∃ x, vals[j]? = some x := ⟨_, List.getElem?_eq_getElem (by have := VS.out.len; omega)⟩
      obtain ⟨vd, rfl, vb, ve⟩ := sl_int (VS.out.below (ext_trans BW0.out hb)) hlt hx
      have htk := rngs_take hx
      obtain ⟨b, hbe⟩ : ∃ b, (is0 && rngs (vals.take j)) = b := ⟨_, rfl⟩
      have hnx : (is0 && rngs (vals.take (j + 1))) = (b && rngB x) := by rw [htk, ← Bool.and_assoc, hbe]
      rw [hbe]
      have HNX := Lib.hid hnx
      have HB := Lib.hid hb
      clear hb hx htk hnx hbe
      have fin : ∀ (W : World), W = wr → Below u2.heap.size u2 W := fun W e => by rw [e]; exact HB.out
      cases b with
      | false =>
        go_wp2
        go_roundw
        case rel => exact ⟨j + 1, by omega, by go_num, by rw [HNX.out]; rfl, HB.out⟩
        case measure => simp [intOf]; omega
      | true =>
        by_cases h1 : -2147483648 ≤ x
        · by_cases h2 : x ≤ 2147483647
          · have hr : rngB x = true := by unfold rngB; simp [h1, h2]
            go_wp2
            go_roundw
            case rel => exact ⟨j + 1, by omega, by go_num, by rw [HNX.out, hr]; rfl, HB.out⟩
            case measure => simp [intOf]; omega
          · have hr : rngB x = false := by unfold rngB; simp [h2]
            go_wp2
            go_roundw
            case rel => exact ⟨j + 1, by omega, by go_num, by rw [HNX.out, hr]; rfl, HB.out⟩
            case measure => simp [intOf]; omega
        · have hr : rngB x = false := by unfold rngB; simp [h1]
          go_wp2
          go_roundw
          case rel => exact ⟨j + 1, by omega, by go_num, by rw [HNX.out, hr]; rfl, HB.out⟩
          case measure => simp [intOf]; omega
    · obtain rfl : j = vn := by omega
      have q1 : ¬ ((j : Int) < j) := by omega
      have hall : rngs (vals.take j) = rngs vals := by rw [List.take_of_length_le (by have := VS.out.len; omega)]
      have HB := Lib.hid hb
      rw [hall]
      clear hb hall
      have hfin : (is0 && rngs vals) = false := by rw [HIS.out]; rfl
      rw [hfin]
      go_wp2
      go_ret
      exact ⟨rfl, ext_trans H1W.out (ext_trans BW0.out HB.out)⟩
set_option maxHeartbeats 8000000 in
set_option maxRecDepth 100000 in
theorem blind_no (m : MV) (cs : Array Value) (vo_ : Option Addr) (vn vc : Nat) (vals : List Int) (pa : Int) (na : Nat) (w : World) (hbox : MBox w.heap.size m cs (w.alloc (.cells cs 31))) (ht : Tab w)
    (hv : Sl w vo_ vn vals) (hna : pa % 2000 = na) (ha : na < 2000) (hc : m.check = 0) (hno : rngs vals = false) : Calls Tryd.prog 7 #[.agg cs, .slice vo_ vn vc, .int .i64 pa] w fun e w' => e = .returned (.bool true) ∧ Below w.heap.size w w' := by
  have h8 := hbox.h8
  have hvm : vn ≤ 9223372036854775807 := hv.max
  have hok := ok_of_check h8 hc
  obtain ⟨l, hl⟩ : ∃ l, m.hits true 1 ++ m.hits true 4 = l := ⟨_, rfl⟩
  obtain ⟨is0, his⟩ : ∃ b : Bool, b = true := ⟨_, rfl⟩
  obtain ⟨w1, hw1⟩ : ∃ w1, w1 = w.alloc (.cells cs 31) := ⟨_, rfl⟩
  have h1w : Below w.heap.size w w1 := by rw [hw1]; exact ext_alloc (Below.refl _ _) _
  rw [← hw1] at hbox
  have sd := stepped_any w1 (ht.below h1w)
  have ra := fun W => rest_any pa 2000 W (by decide) (by decide)
  rw [hna] at ra
  have hv1 := hv.below h1w
  have SD := Lib.hid sd
  have RA := Lib.hid ra
  have MX := Lib.hid hbox
  have HW1 := Lib.hid hw1
  have H1W := Lib.hid h1w
  have HT := Lib.hid ht
  have VS := Lib.hid hv1
  have HIS := Lib.hid his
  have HK := Lib.hid hok
  have HL := Lib.hid hl
  have HNO := Lib.hid hno
  clear sd ra hbox hw1 h1w ht h8 hna hc ha hv hv1 his hok hl hno
  go_enter Tryd.func7, Tryd.ntmps7
  go_upto_region 1 with (fail)
  rw [← HW1.out]
  go_upto_region 5 with (first
    | (go_at_call 13; ((with_reducible refine (SD.out).mono ?_); rintro e u1 ⟨rfl, hb⟩; have HB1 := Lib.hid hb; clear hb))
    | (go_at_call 14; ((with_reducible refine (RA.out _).mono ?_); rintro e w' ⟨rfl, rfl⟩; clear RA))
    | (refine wpList_load_sub rfl 31 (.tmp 3) rfl w.heap.size 0 64 rfl 31 _ _ (MX.out.below HB1.out).bk Tryd.underlying31 rfl (by kernel_rfl) MX.out.size _ MX.out.all ?_)
    | (go_at_call 28; ((with_reducible refine (seen_ok (MX.out.below HB1.out) HK.out HL.out).mono ?_); rintro e u2 ⟨lo, lc, rfl, ls, hb⟩; have LS := Lib.hid ls; have HB2 := Lib.hid hb; clear hb ls; rw [← HIS.out])))
  have BW0 := Lib.hid (ext_trans HB1.out HB2.out)
  go_wp2
  go_loopw [8, 30] (fun b i wr => ∃ j : Nat, j ≤ vn ∧ i = .int .i64 j ∧ b = .bool (is0 && rngs (vals.take j)) ∧ Below u2.heap.size u2 wr) (fun _ i _ => vn - (intOf i).toNat)
  case atStart => exact ⟨0, Nat.zero_le _, rfl, by show _ = Value.bool (is0 && true); rw [Bool.and_true], Below.refl _ _⟩
  case round =>
    obtain ⟨j, hj, rfl, rfl, hb⟩ := hrel
    by_cases hlt : j < vn
    · have q0 : (0 : Int) ≤ j := by omega
      have q1 : (j : Int) < vn := by omega
      obtain ⟨x, hx⟩ : ∃ x, vals[j]? = some x := ⟨_, List.getElem?_eq_getElem (by have := VS.out.len; omega)⟩
      obtain ⟨vd, rfl, vb, ve⟩ := sl_int (VS.out.below (ext_trans BW0.out hb)) hlt hx
      have htk := rngs_take hx
      obtain ⟨b, hbe⟩ : ∃ b, (is0 && rngs (vals.take j)) = b := ⟨_, rfl⟩
      have hnx : (is0 && rngs (vals.take (j + 1))) = (b && rngB x) := by rw [htk, ← Bool.and_assoc, hbe]
      rw [hbe]
      have HNX := Lib.hid hnx
      have HB := Lib.hid hb
      clear hb hx htk hnx hbe
      have fin : ∀ (W : World), W = wr → Below u2.heap.size u2 W := fun W e => by rw [e]; exact HB.out
      cases b with
      | false =>
        go_wp2
        go_roundw
        case rel => exact ⟨j + 1, by omega, by go_num, by rw [HNX.out]; rfl, HB.out⟩
        case measure => simp [intOf]; omega
      | true =>
        by_cases h1 : -2147483648 ≤ x
        · by_cases h2 : x ≤ 2147483647
          · have hr : rngB x = true := by unfold rngB; simp [h1, h2]
            go_wp2
            go_roundw
            case rel => exact ⟨j + 1, by omega, by go_num, by rw [HNX.out, hr]; rfl, HB.out⟩
            case measure => simp [intOf]; omega
          · have hr : rngB x = false := by unfold rngB; simp [h2]
            go_wp2
            go_roundw
            case rel => exact ⟨j + 1, by omega, by go_num, by rw [HNX.out, hr]; rfl, HB.out⟩
            case measure => simp [intOf]; omega
        · have hr : rngB x = false := by unfold rngB; simp [h1]
          go_wp2
          go_roundw
          case rel => exact ⟨j + 1, by omega, by go_num, by rw [HNX.out, hr]; rfl, HB.out⟩
          case measure => simp [intOf]; omega
    · obtain rfl : j = vn := by omega
      have q1 : ¬ ((j : Int) < j) := by omega
      have hall : rngs (vals.take j) = rngs vals := by rw [List.take_of_length_le (by have := VS.out.len; omega)]
      have HB := Lib.hid hb
      rw [hall]
      clear hb hall
      have hfin : (is0 && rngs vals) = false := by rw [HIS.out, HNO.out]; rfl
      rw [hfin]
      go_wp2
      go_ret
      exact ⟨rfl, ext_trans H1W.out (ext_trans BW0.out HB.out)⟩
set_option maxHeartbeats 8000000 in
set_option maxRecDepth 100000 in
theorem blind_yes (m : MV) (cs : Array Value) (vo_ : Option Addr) (vn vc : Nat) (vals : List Int) (pa : Int) (na : Nat) (w : World) (hbox : MBox w.heap.size m cs (w.alloc (.cells cs 31))) (ht : Tab w)
    (hv : Sl w vo_ vn vals) (hna : pa % 2000 = na) (ha : na < 2000) (hc : m.check = 0) (hyes : rngs vals = true) : Calls Tryd.prog 7 #[.agg cs, .slice vo_ vn vc, .int .i64 pa] w fun e w' => e = .returned (.bool true) ∧ Below w.heap.size w w' := by
  have h8 := hbox.h8
  have hvm : vn ≤ 9223372036854775807 := hv.max
  have hok := ok_of_check h8 hc
  obtain ⟨l, hl⟩ : ∃ l, m.hits true 1 ++ m.hits true 4 = l := ⟨_, rfl⟩
  obtain ⟨is0, his⟩ : ∃ b : Bool, b = true := ⟨_, rfl⟩
  obtain ⟨y, b1, b2, b3, b4⟩ := blind_law vals na hl
  have hok2 := blind_ok (l := l) hok hyes
  have r1 := runF_good (m := m) (f := na) (by omega) hc
  have r2 := runF_good (m := m.mm (blindM l vals m.mem)) (f := na) (by omega) (check_of_ok hok2)
  rw [b1] at r2
  have hXok := run_okM na m hok
  obtain ⟨X, hX⟩ : ∃ X, (m.run na).1 = X := ⟨_, rfl⟩
  rw [hX] at r1 r2 b3 b4 hXok
  generalize ((m.run na).2.1 : Int) = n at r1 r2
  generalize (m.run na).2.2 = er at r1 r2
  have hX8 := hXok.2
  clear hX hXok b1
  obtain ⟨w1, hw1⟩ : ∃ w1, w1 = w.alloc (.cells cs 31) := ⟨_, rfl⟩
  have h1w : Below w.heap.size w w1 := by rw [hw1]; exact ext_alloc (Below.refl _ _) _
  rw [← hw1] at hbox
  have sd := stepped_any w1 (ht.below h1w)
  have ra := fun W => rest_any pa 2000 W (by decide) (by decide)
  rw [hna] at ra
  have hv1 := hv.below h1w
  have SD := Lib.hid sd
  have RA := Lib.hid ra
  have MX := Lib.hid hbox
  have HW1 := Lib.hid hw1
  have H1W := Lib.hid h1w
  have HT := Lib.hid ht
  have VS := Lib.hid hv1
  have HIS := Lib.hid his
  have HK := Lib.hid hok
  have HL := Lib.hid hl
  have HYES := Lib.hid hyes
  have R1 := Lib.hid r1
  have R2 := Lib.hid r2
  have Y2 := Lib.hid b2
  have X2 := Lib.hid b3
  have XY := Lib.hid b4
  have HX8 := Lib.hid hX8
  clear sd ra hbox hw1 h1w ht h8 hna hc ha hv hv1 his hok hl hyes r1 r2 b2 b3 b4 hX8 hok2
  go_enter Tryd.func7, Tryd.ntmps7
  go_upto_region 1 with (fail)
  rw [← HW1.out]
  go_upto_region 5 with (first
    | (go_at_call 13; ((with_reducible refine (SD.out).mono ?_); rintro e u1 ⟨rfl, hb⟩; have HB1 := Lib.hid hb; clear hb))
    | (go_at_call 14; ((with_reducible refine (RA.out _).mono ?_); rintro e w' ⟨rfl, rfl⟩; clear RA))
    | (refine wpList_load_sub rfl 31 (.tmp 3) rfl w.heap.size 0 64 rfl 31 _ _ (MX.out.below HB1.out).bk Tryd.underlying31 rfl (by kernel_rfl) MX.out.size _ MX.out.all ?_)
    | (go_at_call 28; ((with_reducible refine (seen_ok (MX.out.below HB1.out) HK.out HL.out).mono ?_); rintro e u2 ⟨lo, lc, rfl, ls, hb⟩; have LS := Lib.hid ls; have HB2 := Lib.hid hb; clear hb ls; rw [← HIS.out])))
  have BW0 := Lib.hid (ext_trans HB1.out HB2.out)
  go_wp2
  go_loopw [8, 30] (fun b i wr => ∃ j : Nat, j ≤ vn ∧ i = .int .i64 j ∧ b = .bool (is0 && rngs (vals.take j)) ∧ Below u2.heap.size u2 wr) (fun _ i _ => vn - (intOf i).toNat)
  case atStart => exact ⟨0, Nat.zero_le _, rfl, by show _ = Value.bool (is0 && true); rw [Bool.and_true], Below.refl _ _⟩
  case round =>
    obtain ⟨j, hj, rfl, rfl, hb⟩ := hrel
    by_cases hlt : j < vn
    · have q0 : (0 : Int) ≤ j := by omega
      have q1 : (j : Int) < vn := by omega
      obtain ⟨x, hx⟩ : ∃ x, vals[j]? = some x := ⟨_, List.getElem?_eq_getElem (by have := VS.out.len; omega)⟩
      obtain ⟨vd, rfl, vb, ve⟩ := sl_int (VS.out.below (ext_trans BW0.out hb)) hlt hx
      have htk := rngs_take hx
      obtain ⟨b, hbe⟩ : ∃ b, (is0 && rngs (vals.take j)) = b := ⟨_, rfl⟩
      have hnx : (is0 && rngs (vals.take (j + 1))) = (b && rngB x) := by rw [htk, ← Bool.and_assoc, hbe]
      rw [hbe]
      have HNX := Lib.hid hnx
      have HB := Lib.hid hb
      clear hb hx htk hnx hbe
      have fin : ∀ (W : World), W = wr → Below u2.heap.size u2 W := fun W e => by rw [e]; exact HB.out
      cases b with
      | false =>
        go_wp2
        go_roundw
        case rel => exact ⟨j + 1, by omega, by go_num, by rw [HNX.out]; rfl, HB.out⟩
        case measure => simp [intOf]; omega
      | true =>
        by_cases h1 : -2147483648 ≤ x
        · by_cases h2 : x ≤ 2147483647
          · have hr : rngB x = true := by unfold rngB; simp [h1, h2]
            go_wp2
            go_roundw
            case rel => exact ⟨j + 1, by omega, by go_num, by rw [HNX.out, hr]; rfl, HB.out⟩
            case measure => simp [intOf]; omega
          · have hr : rngB x = false := by unfold rngB; simp [h2]
            go_wp2
            go_roundw
            case rel => exact ⟨j + 1, by omega, by go_num, by rw [HNX.out, hr]; rfl, HB.out⟩
            case measure => simp [intOf]; omega
        · have hr : rngB x = false := by unfold rngB; simp [h1]
          go_wp2
          go_roundw
          case rel => exact ⟨j + 1, by omega, by go_num, by rw [HNX.out, hr]; rfl, HB.out⟩
          case measure => simp [intOf]; omega
    · obtain rfl : j = vn := by omega
      have q1 : ¬ ((j : Int) < j) := by omega
      have hall : rngs (vals.take j) = rngs vals := by rw [List.take_of_length_le (by have := VS.out.len; omega)]
      have HB := Lib.hid hb
      rw [hall]
      clear hb hall
      have hfin : (is0 && rngs vals) = true := by rw [HIS.out, HYES.out]; rfl
      rw [hfin]
      have WR := Lib.hid (ext_trans BW0.out HB.out)
      have hlr : Sl wr lo l.length l := LS.out.below HB.out
      obtain ⟨w2, hw2⟩ : ∃ w2, w2 = wr := ⟨_, rfl⟩
      rw [← hw2] at hlr ⊢
      have WR := Lib.hid (show Below w1.heap.size w1 w2 by rw [hw2]; exact WR.out)
      have LS := Lib.hid hlr
      clear hlr hw2 hfin HB
      have MX2 := Lib.hid (MX.out.below WR.out)
      have HT2 := Lib.hid (HT.out.below (ext_trans H1W.out WR.out))
      have VS2 := Lib.hid (VS.out.below WR.out)
      have W02 := Lib.hid (ext_trans H1W.out WR.out)
      clear MX HT VS WR H1W BW0
      go_upto_region 14 with (first
        | (refine wpList_load_sub rfl 31 (.tmp 3) rfl w.heap.size 0 64 rfl 31 _ _ MX2.out.bk Tryd.underlying31 rfl (by kernel_rfl) MX2.out.size _ MX2.out.all ?_)
        | (go_at_call 15; ((with_reducible refine (run_box MX2.out HT2.out _ R1.out).mono ?_); rintro e u3 ⟨cs3, rfl, mx, hb⟩; have MX3 := Lib.hid mx; have HB3 := Lib.hid hb; clear hb mx))
        | (refine wpList_store_fresh rfl 31 (.tmp 11) (.tmp 50) rfl rfl cs3 31 _ rfl rfl (by rw [MX3.out.sz]; kernel_rfl) (by rw [MX3.out.sz]; kernel_rfl) MX3.out.one ?_)
        | (refine wpList_load_sub rfl 31 (.tmp 3) rfl w.heap.size 0 64 rfl 31 _ _ (MX2.out.below (ext_alloc HB3.out _)).bk Tryd.underlying31 rfl (by kernel_rfl) MX2.out.size _ MX2.out.all ?_)
        | (go_at_call 29; ((with_reducible refine (other_any (MX2.out.below (ext_alloc HB3.out _)) HK.out lo vo_ l.length lc _ vc l vals (LS.out.below (ext_alloc HB3.out _)) (VS2.out.below (ext_alloc HB3.out _))).mono ?_); rintro e u4 ⟨cs4, rfl, mo, hb⟩; have MO4 := Lib.hid mo; have HB4 := Lib.hid hb; clear hb mo))
        | (go_at_call 15; ((with_reducible refine (run_mo MO4.out (HT2.out.below (ext_trans (ext_alloc HB3.out _) HB4.out)) _ R2.out).mono ?_); rintro e u5 ⟨cs5, rfl, mx, hb⟩; have MX5 := Lib.hid mx; have HB5 := Lib.hid hb; clear hb mx))
        | (refine wpList_store_fresh rfl 31 (.tmp 14) (.tmp 60) rfl rfl cs5 31 _ rfl rfl (by rw [MX5.out.sz]; kernel_rfl) (by rw [MX5.out.sz]; kernel_rfl) MX5.out.one ?_))
      have hxb : MBox u3.heap.size X cs3 (u5.alloc (.cells cs5 31)) := (MX3.out.below (ext_alloc (ext_trans HB4.out HB5.out) _))
      have hyb : MBox u5.heap.size (X.mm y) cs5 (u5.alloc (.cells cs5 31)) := MX5.out
      have hfin : Below w.heap.size w (u5.alloc (.cells cs5 31)) := ext_trans W02.out (ext_alloc (ext_trans (ext_trans (ext_alloc HB3.out _) HB4.out) HB5.out) _)
      have hl5 : Sl (u5.alloc (.cells cs5 31)) lo l.length l := LS.out.below (ext_alloc (ext_trans (ext_trans (ext_alloc HB3.out _) HB4.out) HB5.out) _)
      obtain ⟨W5, hW5⟩ : ∃ W5, W5 = u5.alloc (.cells cs5 31) := ⟨_, rfl⟩
      rw [← hW5] at hxb hyb hfin hl5 ⊢
      obtain ⟨gx, hgx⟩ : ∃ gx, gx = u3.heap.size := ⟨_, rfl⟩
      obtain ⟨gy, hgy⟩ : ∃ gy, gy = u5.heap.size := ⟨_, rfl⟩
      rw [← hgx] at hxb ⊢
      rw [← hgy] at hyb ⊢
      have h8x := HX8.out
      have kx := hxb.bk
      have ky := hyb.bk
      obtain ⟨ma, sa, oa, mc, sc, oc, ex, hm, hs, ho⟩ := hxb.row
      have hrow : ∃ ma sa oa mc sc oc, cs5 = mcs X.R X.c (.slice ma y.length mc) (.slice sa X.stk.length sc) (.slice oa X.out.length oc) ∧ Sl W5 ma y.length y ∧ Sl W5 sa X.stk.length X.stk ∧ Sl W5 oa X.out.length X.out := hyb.row
      obtain ⟨ma', sa', oa', mc', sc', oc', ey, hm', hs', ho'⟩ := hrow
      clear hxb hyb
      rw [Y2.out] at ey hm'
      rw [X2.out] at ex hm
      obtain ⟨nm, hnm⟩ : ∃ nm, m.mem.length = nm := ⟨_, rfl⟩
      have hxy := XY.out
      rw [hnm] at ex hm ey hm' hxy
      have l400 := HK.out.1.len
      rw [hnm] at l400
      have XY := Lib.hid hxy
      clear hxy
      have hszx : cs3.size = 64 := by rw [ex]; exact mcs_size h8x
      have hszy : cs5.size = 64 := by rw [ey]; exact mcs_size h8x
      have hrgx : cs3.extract 0 (0 + 56) = (cls X.R).toArray := by rw [ex]; exact mcs_regs h8x
      have hrgy : cs5.extract 0 (0 + 56) = (cls X.R).toArray := by rw [ey]; exact mcs_regs h8x
      have q56 : ∀ z : Later W5, z.val.cell? ⟨gx, 56, none⟩ = some (.int .i64 X.c.perm) := fun z => ((z.bk kx).cell _).trans (by rw [ex]; exact mcs_hi h8x 0)
      have p56 : W5.cell? ⟨gx, 56, none⟩ = some (.int .i64 X.c.perm) := (kx.cell _).trans (by rw [ex]; exact mcs_hi h8x 0)
      have q57 : ∀ z : Later W5, z.val.cell? ⟨gx, 57, none⟩ = some (.int .i64 X.c.base) := fun z => ((z.bk kx).cell _).trans (by rw [ex]; exact mcs_hi h8x 1)
      have p57 : W5.cell? ⟨gx, 57, none⟩ = some (.int .i64 X.c.base) := (kx.cell _).trans (by rw [ex]; exact mcs_hi h8x 1)
      have q58 : ∀ z : Later W5, z.val.cell? ⟨gx, 58, none⟩ = some (.int .i64 X.c.len) := fun z => ((z.bk kx).cell _).trans (by rw [ex]; exact mcs_hi h8x 2)
      have p58 : W5.cell? ⟨gx, 58, none⟩ = some (.int .i64 X.c.len) := (kx.cell _).trans (by rw [ex]; exact mcs_hi h8x 2)
      have q59 : ∀ z : Later W5, z.val.cell? ⟨gx, 59, none⟩ = some (.int .i64 X.c.at_) := fun z => ((z.bk kx).cell _).trans (by rw [ex]; exact mcs_hi h8x 3)
      have p59 : W5.cell? ⟨gx, 59, none⟩ = some (.int .i64 X.c.at_) := (kx.cell _).trans (by rw [ex]; exact mcs_hi h8x 3)
      have q60 : ∀ z : Later W5, z.val.cell? ⟨gx, 60, none⟩ = some (.int .i64 X.c.seal_) := fun z => ((z.bk kx).cell _).trans (by rw [ex]; exact mcs_hi h8x 4)
      have p60 : W5.cell? ⟨gx, 60, none⟩ = some (.int .i64 X.c.seal_) := (kx.cell _).trans (by rw [ex]; exact mcs_hi h8x 4)
      have q61 : ∀ z : Later W5, z.val.cell? ⟨gx, 61, none⟩ = some (.slice ma nm mc) := fun z => ((z.bk kx).cell _).trans (by rw [ex]; exact mcs_hi h8x 5)
      have p61 : W5.cell? ⟨gx, 61, none⟩ = some (.slice ma nm mc) := (kx.cell _).trans (by rw [ex]; exact mcs_hi h8x 5)
      have q62 : ∀ z : Later W5, z.val.cell? ⟨gx, 62, none⟩ = some (.slice sa X.stk.length sc) := fun z => ((z.bk kx).cell _).trans (by rw [ex]; exact mcs_hi h8x 6)
      have p62 : W5.cell? ⟨gx, 62, none⟩ = some (.slice sa X.stk.length sc) := (kx.cell _).trans (by rw [ex]; exact mcs_hi h8x 6)
      have p63 : W5.cell? ⟨gx, 63, none⟩ = some (.slice oa X.out.length oc) := (kx.cell _).trans (by rw [ex]; exact mcs_hi h8x 7)
      have qL : ∀ z : Later W5, gx < z.val.heap.size := fun z => z.lt kx.lt
      have pL : gx < W5.heap.size := kx.lt
      have q56' : ∀ z : Later W5, z.val.cell? ⟨gy, 56, none⟩ = some (.int .i64 X.c.perm) := fun z => ((z.bk ky).cell _).trans (by rw [ey]; exact mcs_hi h8x 0)
      have p56' : W5.cell? ⟨gy, 56, none⟩ = some (.int .i64 X.c.perm) := (ky.cell _).trans (by rw [ey]; exact mcs_hi h8x 0)
      have q57' : ∀ z : Later W5, z.val.cell? ⟨gy, 57, none⟩ = some (.int .i64 X.c.base) := fun z => ((z.bk ky).cell _).trans (by rw [ey]; exact mcs_hi h8x 1)
      have p57' : W5.cell? ⟨gy, 57, none⟩ = some (.int .i64 X.c.base) := (ky.cell _).trans (by rw [ey]; exact mcs_hi h8x 1)
      have q58' : ∀ z : Later W5, z.val.cell? ⟨gy, 58, none⟩ = some (.int .i64 X.c.len) := fun z => ((z.bk ky).cell _).trans (by rw [ey]; exact mcs_hi h8x 2)
      have p58' : W5.cell? ⟨gy, 58, none⟩ = some (.int .i64 X.c.len) := (ky.cell _).trans (by rw [ey]; exact mcs_hi h8x 2)
      have q59' : ∀ z : Later W5, z.val.cell? ⟨gy, 59, none⟩ = some (.int .i64 X.c.at_) := fun z => ((z.bk ky).cell _).trans (by rw [ey]; exact mcs_hi h8x 3)
      have p59' : W5.cell? ⟨gy, 59, none⟩ = some (.int .i64 X.c.at_) := (ky.cell _).trans (by rw [ey]; exact mcs_hi h8x 3)
      have q60' : ∀ z : Later W5, z.val.cell? ⟨gy, 60, none⟩ = some (.int .i64 X.c.seal_) := fun z => ((z.bk ky).cell _).trans (by rw [ey]; exact mcs_hi h8x 4)
      have p60' : W5.cell? ⟨gy, 60, none⟩ = some (.int .i64 X.c.seal_) := (ky.cell _).trans (by rw [ey]; exact mcs_hi h8x 4)
      have q61' : ∀ z : Later W5, z.val.cell? ⟨gy, 61, none⟩ = some (.slice ma' nm mc') := fun z => ((z.bk ky).cell _).trans (by rw [ey]; exact mcs_hi h8x 5)
      have p61' : W5.cell? ⟨gy, 61, none⟩ = some (.slice ma' nm mc') := (ky.cell _).trans (by rw [ey]; exact mcs_hi h8x 5)
      have q62' : ∀ z : Later W5, z.val.cell? ⟨gy, 62, none⟩ = some (.slice sa' X.stk.length sc') := fun z => ((z.bk ky).cell _).trans (by rw [ey]; exact mcs_hi h8x 6)
      have p62' : W5.cell? ⟨gy, 62, none⟩ = some (.slice sa' X.stk.length sc') := (ky.cell _).trans (by rw [ey]; exact mcs_hi h8x 6)
      have p63' : W5.cell? ⟨gy, 63, none⟩ = some (.slice oa' X.out.length oc') := (ky.cell _).trans (by rw [ey]; exact mcs_hi h8x 7)
      have qL' : ∀ z : Later W5, gy < z.val.heap.size := fun z => z.lt ky.lt
      have pL' : gy < W5.heap.size := ky.lt
      have ef := fun W (hb : Below W5.heap.size W5 W) => eq_frame sa sa' _ _ sc sc' X.stk X.stk W (hs.below hb) (hs'.below hb)
      have ei := fun W (hb : Below W5.heap.size W5 W) => eq_int oa oa' _ _ oc oc' X.out X.out W (ho.below hb) (ho'.below hb)
      have qr := fun W => run_neq_regs X.R X.R h8x h8x W
      have qk := fun W => run_neq_keyS X.c X.c W
      simp only [KeyV.val, decide_true, Bool.not_true] at ef ei qr qk
      have g1 : (n != n) = false := by simp
      have g2 : (er != er) = false := by simp
      have g3 : (((nm : Nat) : Int) != nm) = false := by simp
      generalize X.stk.length = ns at *
      generalize X.out.length = no at *
      have EF := Lib.hid ef
      have EI := Lib.hid ei
      have KX := Lib.hid kx
      have KY := Lib.hid ky
      have SX := Lib.hid hszx
      have SY := Lib.hid hszy
      have RX := Lib.hid hrgx
      have RY := Lib.hid hrgy
      have MX_ := Lib.hid hm
      have MY_ := Lib.hid hm'
      have L5 := Lib.hid hl5
      have FIN := Lib.hid hfin
      clear ef ei kx ky hszx hszy hrgx hrgy hm hm' hl5 hfin ex ey hs ho hs' ho' hW5 hgx hgy h8x MX2 MX3 MX5 HB1 HB2 HB3 HB4 HB5 LS MO4 HT2 VS2 W02 R1 R2 Y2 X2 HX8 HW1 HYES HIS
      go_upto_region 16 with (first
        | (refine wpList_load_sub_w rfl 26 (.tmp 72) rfl gx 0 56 rfl 31 _ _ KX.out Tryd.underlying26 rfl (by kernel_rfl) (by have := SX.out; omega) _ RX.out ?_)
        | (refine wpList_load_sub_w rfl 26 (.tmp 74) rfl gy 0 56 rfl 31 _ _ KY.out Tryd.underlying26 rfl (by kernel_rfl) (by have := SY.out; omega) _ RY.out ?_)
        | (go_at_call 26; ((with_reducible refine (EI.out _ (Below.refl _ _)).mono ?_); rintro e w' ⟨rfl, hb⟩; obtain ⟨y1, rfl⟩ := later_call (Below.refl _ _) hb; clear hb))
        | (go_at_call 30; ((with_reducible refine (EF.out _ y1.ok).mono ?_); rintro e w' ⟨rfl, hb⟩; obtain ⟨y2, rfl⟩ := later_call y1.ok hb; clear hb)))
      have FIN_ := Lib.hid FIN.out
      obtain ⟨ll, hll⟩ : ∃ ll, l.length = ll := ⟨_, rfl⟩
      have hli : ll ≤ 9223372036854775807 := by rw [← hll]; exact L5.out.max
      have hl5 := L5.out
      rw [hll] at hl5 ⊢
      have L5 := Lib.hid hl5
      have HLL := Lib.hid hll
      have c1 := fun (z : Later W5) => q61 z
      have c2 := fun (z : Later W5) => q61' z
      clear hl5 hll q56 q57 q58 q59 q60 q61 q56' q57' q58' q59' q60' q61' p56 p57 p58 p59 p60 p61 p62 p63 p56' p57' p58' p59' p60' p61' p62' p63' qr qk EF EI KX KY SX SY RX RY
      go_wp2
      go_loopw [112] (fun i wr => ∃ k : Nat, k ≤ ll ∧ i = .int .i64 k ∧ Below W5.heap.size W5 wr) (fun i _ => ll - (intOf i).toNat)
      case atStart => exact ⟨0, Nat.zero_le _, rfl, y2.ok⟩
      case round =>
        obtain ⟨k, hk, rfl, hb⟩ := hrel
        obtain ⟨z, hz⟩ : ∃ z : Later W5, wr = z.val := ⟨⟨wr, hb⟩, rfl⟩
        subst hz
        by_cases hlt : k < ll
        · have q0 : (0 : Int) ≤ k := by omega
          have q1 : (k : Int) < ll := by omega
          obtain ⟨a, ha⟩ : ∃ a, l[k]? = some a := ⟨_, List.getElem?_eq_getElem (by rw [HLL.out]; exact hlt)⟩
          obtain ⟨a0, a1, a2⟩ := XY.out a (List.mem_of_getElem? ha)
          obtain ⟨ld, rfl, lb, le⟩ := sl_int (L5.out.below z.ok) hlt ha
          obtain ⟨i, rfl⟩ := Int.eq_ofNat_of_zero_le a0
          rw [Int.toNat_natCast] at a2
          have hin : i < nm := by omega
          obtain ⟨x, hx⟩ : ∃ x, X.mem[i]? = some x := ⟨_, List.getElem?_eq_getElem (by have := MX_.out.len; omega)⟩
          rw [hx] at a2
          obtain ⟨ad, rfl, hab, e0, e1, e2, e3, e4, e5, e6⟩ := sl_valg (MX_.out.below z.ok) hin hx
          obtain ⟨bd, rfl, hbb, f0, f1, f2, f3, f4, f5, f6⟩ := sl_valg (MY_.out.below z.ok) hin a2
          have bx : (ad.add (i * 7)).block < z.val.heap.size := by rw [el_block]; exact hab
          have by_ : (bd.add (i * 7)).block < z.val.heap.size := by rw [el_block]; exact hbb
          have d1 := c1 z
          have d2 := c2 z
          have dL := qL z
          have dL' := qL' z
          have q := fun W => run_neq_val x x W
          simp only [decide_true, Bool.not_true] at q
          have h0 : (0 : Int) ≤ (i : Int) := by omega
          have h1 : (i : Int) < nm := by omega
          have ZB := Lib.hid z.ok
          clear hb ha hx a2 a0 a1
          obtain ⟨xi, xn, xp, xb, xl, xa, xs_⟩ := x
          simp only [ValV.val] at *
          go_wp2
          go_quiet (fail)
          go_wp2
          go_roundw
          case rel => exact ⟨k + 1, by omega, by go_num, by repeat (first | exact ZB.out | with_reducible refine ext_drewN ?_ _ | with_reducible refine ext_drew ?_)⟩
          case measure => simp [intOf]; omega
        · have q1 : ¬ ((k : Int) < ll) := by omega
          have ZB := Lib.hid z.ok
          clear hb
          go_wp2
          go_ret
          exact ⟨rfl, ext_trans FIN_.out ZB.out⟩
theorem runBlind_walk (x : MachA) (v : SlV Int) (a : Int) {w : World} (hx : x.ok w) (hv : v.ok I64 w) (ha : I64 a) (ht : Tab w) : Calls Tryd.prog 7 #[x.val, v.val, .int .i64 a] w fun e w' => e = .returned (.bool true) ∧ Below w.heap.size w w' := by
  obtain ⟨na, hna⟩ := Int.eq_ofNat_of_zero_le (Int.emod_nonneg a (show (2000 : Int) ≠ 0 by decide))
  have l1 := Int.emod_lt_of_pos a (show (0 : Int) < 2000 by decide)
  by_cases hc : x.mv.check = 0
  · cases hr : rngs v.vs with
    | false => exact blind_no x.mv _ v.ao v.n v.cap v.vs a na w (mbox_arg hx) ht hv.sl hna (by omega) hc hr
    | true => exact blind_yes x.mv _ v.ao v.n v.cap v.vs a na w (mbox_arg hx) ht hv.sl hna (by omega) hc hr
  · exact blind_bad x.mv _ v.ao v.n v.cap v.vs a na w (mbox_arg hx) ht hv.sl hna (by omega) hc
end Go.Proofs.YtmffdgeebhpacaaDoor
