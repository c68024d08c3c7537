import Derived.BigRegion
import Derived.Deep.DeepCutAuto
import Derived.Deep.RegionLaw
import Derived.Test.YtpjhjefjbkjhkaaGreatDoorBuDb
import Derived.Test.YtpjhjefjbkjhkaaGreatDoorLiftBulkZ
/- What stands behind new answers as at first. -/
namespace Go.Proofs.YtpjhjefjbkjhkaaGreatDoor
open Go Go.RowKit Go.Shelf
set_option linter.unusedVariables false
set_option linter.unusedSimpArgs false
abbrev NW : ByteArray := ⟨#[110, 101, 119]⟩
theorem run_newD (a b : List ByteArray) : (runD (bysL (a ++ [NW] ++ b))).map ba = (runD (bysL a)).map ba ++ (ba [114, 119, 120, 82, 87, 115, 117, 32, 48, 32, 52, 48, 48, 32, 48, 32, 48] :: (runD (bysL b)).map ba) := by
  have e : bysL (a ++ [NW] ++ b) = bysL a ++ (wNew :: bysL b) := by unfold bysL; simp; rfl
  unfold runD
  rw [e, outsF_app, List.map_append]
  congr 1
  show ba (lineF _ wNew).2 :: (outsF lineF (lineF _ wNew).1 (bysL b)).map ba = _
  rw [lineF_new, told_first]
set_option maxHeartbeats 4000000 in
set_option maxRecDepth 100000 in
theorem deskNew_walk (x y : SlV ByteArray) (w : World) (hx : x.ok (fun s => s.size ≤ maxLen) w) (zx : x.n ≤ 1048576) (hy : y.ok (fun s => s.size ≤ maxLen) w) (zy : y.n ≤ 1048576) (he : PEnv w) :
    Calls Tryz.prog 10 #[x.val, y.val] w fun e w' => e = .returned (.bool true) ∧ Below w.heap.size w w' := by
  obtain ⟨ao, n, c, xs⟩ := x
  obtain ⟨bo, m, d, ys⟩ := y
  obtain ⟨hxs, _, hle⟩ := hx
  obtain ⟨hys, _, hle2⟩ := hy
  simp only [SlV.val] at hxs hle hys hle2 zx zy ⊢
  have hn := hxs.len
  have hm := hys.len
  have XA := Lib.hid hxs
  have XB := Lib.hid hys
  have HE := Lib.hid he
  clear hxs hys he hle hle2
  obtain ⟨i0, i1, z0, z1, z2⟩ := info_parts info_strJ
  obtain ⟨zs, hzs⟩ : ∃ zs, xs ++ [NW] ++ ys = zs := ⟨_, rfl⟩
  have hzl : zs.length = n + 1 + m := by rw [← hzs, List.length_append, List.length_append, hn, hm]; rfl
  have hbz : bysL zs = bysL (xs ++ [NW]) ++ bysL ys := by rw [← hzs]; exact List.map_append
  have Q1 := Lib.hid (show (0 : Nat) + n ≤ maxLen by unfold maxLen; omega)
  have Q2 := Lib.hid (show (0 + n) * 16 ≤ 140737488355328 by omega)
  have Q3 := Lib.hid (show xs.length + 1 ≤ maxLen by rw [hn]; unfold maxLen; omega)
  have Q4 := Lib.hid (show (xs.length + 1) * 16 ≤ 140737488355328 by rw [hn]; omega)
  have Q5 := Lib.hid (show (xs ++ [NW]).length + m ≤ maxLen by rw [List.length_append, hn, List.length_singleton]; unfold maxLen; omega)
  have Q6 := Lib.hid (show ((xs ++ [NW]).length + m) * 16 ≤ 140737488355328 by rw [List.length_append, hn, List.length_singleton]; omega)
  obtain ⟨N, hN⟩ : ∃ N, n + 1 + m = N := ⟨_, rfl⟩
  rw [hN] at hzl
  have HZS := Lib.hid hzs
  have HZL := Lib.hid hzl
  have HBZ := Lib.hid hbz
  have HN := Lib.hid hn
  have HM := Lib.hid hm
  clear hzs hzl hbz hn hm
  cases hok : okLines (bysL zs) with
  | false =>
    have R6 := Lib.hid (fun va vc W (hW : PEnv W) (h : Sl W va N zs) => run_bad va N vc zs W hW h hok)
    have R7 := Lib.hid (fun W (h : Below w.heap.size w W) => run_some bo m d ys W (HE.out.below h) (XB.out.below h))
    clear hok
    go_enter Tryz.func10, Tryz.ntmps10
    go_wp2_with (first
      | (at_builtin; refine wpList_append_sl (α := ByteArray) rfl (.const (.slice none 0 0)) (.tmp 10) 80 rfl w.heap.size 9 i0 _ 16 Tryz.underlying80 i1 z0 z1 z2 rfl (.slice none 0 0) [] rfl (Own.nil _ _ _) ao n c xs rfl XA.out Q1.out Q2.out (Nat.le_refl _) ?_; intro v5 w5 ho5 hg5 _; rw [List.nil_append] at ho5; have O5 := Lib.hid ho5; have B5 := Lib.hid ((Below.refl w.heap.size w).grown hg5 (Nat.le_refl _) (fun k e => by simp [Value.ownBlock] at e)); obtain ⟨va5, vn5, vc5, rfl⟩ := own_shapeD ho5; clear ho5 hg5)
      | (at_builtin; refine wpList_append_sl (α := ByteArray) rfl (.tmp 11) (.tmp 12) 80 rfl w.heap.size 9 i0 _ 16 Tryz.underlying80 i1 z0 z1 z2 rfl (.slice va5 vn5 vc5) xs rfl (O5.out.alloc _) (some ⟨w5.heap.size, 0, none⟩) 1 1 [NW] rfl (lit_slD #[.string NW] [NW] (by simp) rfl) Q3.out Q4.out (by rw [World.size_alloc]; have := B5.out.size; omega) ?_; intro v6 w6 ho6 hg6 _; have O6 := Lib.hid ho6; have B6 := Lib.hid ((ext_alloc B5.out _).grown hg6 (by rw [World.size_alloc]; have := B5.out.size; omega) (fun k e => (own_ltD O5.out e).1)); obtain ⟨va6, vn6, vc6, rfl⟩ := own_shapeD ho6; clear ho6 hg6)
      | (at_builtin; refine wpList_append_sl (α := ByteArray) rfl (.tmp 13) (.tmp 14) 80 rfl w.heap.size 9 i0 _ 16 Tryz.underlying80 i1 z0 z1 z2 rfl (.slice va6 vn6 vc6) (xs ++ [NW]) rfl O6.out bo m d ys rfl (XB.out.below B6.out) Q5.out Q6.out B6.out.size ?_; intro v7 w7 ho7 hg7 _; rw [HZS.out] at ho7; have B7 := Lib.hid (B6.out.grown hg7 B6.out.size (fun k e => (own_ltD O6.out e).1)); obtain ⟨va7, vc7, rfl, hs7, _⟩ := Own.sl ho7; rw [HZL.out] at hs7; (try rw [HZL.out]); have S7 := Lib.hid hs7; clear ho7 hg7 hs7)
      | (go_at_call 37; ((with_reducible refine (R6.out va7 vc7 _ (HE.out.below B7.out) S7.out).mono ?_); rintro e w8 ⟨va8, vc8, rfl, hb8⟩; have HB8 := Lib.hid (ext_trans B7.out hb8); clear hb8))
      | (go_at_call 37; ((with_reducible refine (R7.out _ HB8.out).mono ?_); rintro e w9 ⟨va9, vn9, vc9, er9, rfl, hb9⟩; have HB9 := Lib.hid (ext_trans HB8.out hb9); clear hb9)))
    go_ret
    exact ⟨rfl, HB9.out⟩
  | true =>
    have h2 := hok
    rw [HBZ.out] at h2
    obtain ⟨_, ok1⟩ := okLines_app _ _ h2
    obtain ⟨O1, hO1⟩ : ∃ O1, (runD (bysL ys)).map ba = O1 := ⟨_, rfl⟩
    obtain ⟨O2, hO2⟩ : ∃ O2, (runD (bysL zs)).map ba = O2 := ⟨_, rfl⟩
    obtain ⟨X, hX⟩ : ∃ X, ba [114, 119, 120, 82, 87, 115, 117, 32, 48, 32, 52, 48, 48, 32, 48, 32, 48] = X := ⟨_, rfl⟩
    have hdec : O2 = (runD (bysL xs)).map ba ++ (X :: O1) := by
      rw [← hO1, ← hO2, ← HZS.out, ← hX]
      exact run_newD xs ys
    have hl0 : ((runD (bysL xs)).map ba).length = n := by rw [runD_len, HN.out]
    have hdr : O2.drop (n + 1) = O1 := by
      rw [hdec, ← hl0, List.drop_append]
      simp
    have hat : O2[n]? = some X := by
      rw [hdec, List.getElem?_append_right (by omega), hl0]
      simp
    have qx : (X.toList == [114, 119, 120, 82, 87, 115, 117, 32, 48, 32, 52, 48, 48, 32, 48, 32, 48]) = true := by rw [toL_eq, ← hX]; rfl
    have R6 := Lib.hid (fun va vc W (hW : PEnv W) (h : Sl W va N zs) => run_goodN va N vc zs O2 W hW h hok hO2)
    have R7 := Lib.hid (fun W (h : Below w.heap.size w W) => run_goodN bo m d ys O1 W (HE.out.below h) (XB.out.below h) ok1 hO1)
    have HDR := Lib.hid hdr
    have HAT := Lib.hid hat
    have e1 : IntKind.i64.wrap ((n : Int) + 1) = (n : Int) + 1 := by rw [IntKind.wrap_i64]; omega
    have e2 : IntKind.i64.wrap ((n : Int) + 1 + (m : Int)) = (N : Int) := by rw [IntKind.wrap_i64]; omega
    have e3 : (0 : Int) ≤ (n : Int) + 1 := by omega
    have e4 : (0 : Int) ≤ (n : Int) := by omega
    have e5 : (n : Int) < (N : Int) := by omega
    have e6 : (n : Int) + 1 ≤ (N : Int) := by omega
    have e7 : n + 1 ≤ N := by omega
    clear hok h2 ok1 hO1 hO2 hdr hat hdec hl0 hX
    go_enter Tryz.func10, Tryz.ntmps10
    go_upto_region 5 with (first
      | (at_builtin; refine wpList_append_sl (α := ByteArray) rfl (.const (.slice none 0 0)) (.tmp 10) 80 rfl w.heap.size 9 i0 _ 16 Tryz.underlying80 i1 z0 z1 z2 rfl (.slice none 0 0) [] rfl (Own.nil _ _ _) ao n c xs rfl XA.out Q1.out Q2.out (Nat.le_refl _) ?_; intro v5 w5 ho5 hg5 _; rw [List.nil_append] at ho5; have O5 := Lib.hid ho5; have B5 := Lib.hid ((Below.refl w.heap.size w).grown hg5 (Nat.le_refl _) (fun k e => by simp [Value.ownBlock] at e)); obtain ⟨va5, vn5, vc5, rfl⟩ := own_shapeD ho5; clear ho5 hg5)
      | (at_builtin; refine wpList_append_sl (α := ByteArray) rfl (.tmp 11) (.tmp 12) 80 rfl w.heap.size 9 i0 _ 16 Tryz.underlying80 i1 z0 z1 z2 rfl (.slice va5 vn5 vc5) xs rfl (O5.out.alloc _) (some ⟨w5.heap.size, 0, none⟩) 1 1 [NW] rfl (lit_slD #[.string NW] [NW] (by simp) rfl) Q3.out Q4.out (by rw [World.size_alloc]; have := B5.out.size; omega) ?_; intro v6 w6 ho6 hg6 _; have O6 := Lib.hid ho6; have B6 := Lib.hid ((ext_alloc B5.out _).grown hg6 (by rw [World.size_alloc]; have := B5.out.size; omega) (fun k e => (own_ltD O5.out e).1)); obtain ⟨va6, vn6, vc6, rfl⟩ := own_shapeD ho6; clear ho6 hg6)
      | (at_builtin; refine wpList_append_sl (α := ByteArray) rfl (.tmp 13) (.tmp 14) 80 rfl w.heap.size 9 i0 _ 16 Tryz.underlying80 i1 z0 z1 z2 rfl (.slice va6 vn6 vc6) (xs ++ [NW]) rfl O6.out bo m d ys rfl (XB.out.below B6.out) Q5.out Q6.out B6.out.size ?_; intro v7 w7 ho7 hg7 _; rw [HZS.out] at ho7; have B7 := Lib.hid (B6.out.grown hg7 B6.out.size (fun k e => (own_ltD O6.out e).1)); obtain ⟨va7, vc7, rfl, hs7, _⟩ := Own.sl ho7; rw [HZL.out] at hs7; (try rw [HZL.out]); have S7 := Lib.hid hs7; clear ho7 hg7 hs7)
      | (go_at_call 37; ((with_reducible refine (R6.out va7 vc7 _ (HE.out.below B7.out) S7.out).mono ?_); rintro e w8 ⟨va8, vc8, rfl, hs8, hc8, hb8⟩; have S8 := Lib.hid hs8; have C8 := Lib.hid hc8; have HB8 := Lib.hid (ext_trans B7.out hb8); clear hs8 hc8 hb8))
      | (go_at_call 37; ((with_reducible refine (R7.out _ HB8.out).mono ?_); rintro e w9 ⟨va9, vc9, rfl, hs9, hc9, hb9⟩; have S9 := Lib.hid hs9; have C9 := Lib.hid hc9; have HB9 := Lib.hid (ext_trans HB8.out hb9); have S89 := Lib.hid (S8.out.below hb9); clear hs9 hc9 hb9)))
    obtain ⟨ad, rfl, bx, ex⟩ := sl_str S89.out (by omega) HAT.out
    have e8 : (N : Int) ≤ (vc8 : Int) := by have := C8.out; omega
    have e9 : n + 1 ≤ vc8 := by have := C8.out; omega
    by_cases hc8 : vc8 = n + 1
    · obtain rfl : N = n + 1 := by omega
      obtain rfl : m = 0 := by omega
      subst hc8
      have h0 : O1 = [] := List.eq_nil_of_length_eq_zero S9.out.len
      subst h0
      clear e1 e2 e3 e6 e7 e8 e9 hN
      have e1 : IntKind.i64.wrap ((n : Int) + 1) = (n : Int) + 1 := by rw [IntKind.wrap_i64]; omega
      have e3 : (0 : Int) ≤ (n : Int) + 1 := by omega
      go_wp2_with (go_at_call 38; ((with_reducible refine (eqs_Str _ va9 0 _ vc9 [] _ (Sl.nil _ _) (Sl.nil _ _)).mono ?_); rintro e w10 ⟨rfl, hb10⟩; have ex10 := (hb10.cell (p := ad.add n) bx).trans ex; have bx10 := Nat.lt_of_lt_of_le bx hb10.size; have HB10 := Lib.hid (ext_trans HB9.out hb10); clear hb10))
      go_ret
      exact ⟨rfl, HB10.out⟩
    · have hNm : N - (n + 1) = m := by omega
      have hNM := Lib.hid hNm
      have S9D := Lib.hid (show Sl w9 (some ⟨ad.block, ad.off + (n + 1), none⟩) m O1 from by
        have h := sl_dropD S89.out (j := n + 1) (by omega)
        rw [HDR.out, hNm, show ad.add ((n + 1) * El.k ByteArray) = ⟨ad.block, ad.off + (n + 1), none⟩ from by
          show ad.add ((n + 1) * 1) = _
          rw [Nat.mul_one]
          unfold Addr.add
          rw [if_neg (by omega)]] at h
        exact h)
      have SEL := Lib.hid (fun W (h : Below w9.heap.size w9 W) => h.cell (p := ad.add n) bx)
      clear hNm
      go_wp2_with (go_at_call 38; rw [hNM.out]; ((with_reducible refine (eqs_Str _ va9 m _ vc9 O1 _ S9D.out S9.out).mono ?_); rintro e w10 ⟨rfl, hb10⟩; have ex10 := (hb10.cell (p := ad.add n) bx).trans ex; have bx10 := Nat.lt_of_lt_of_le bx hb10.size; have HB10 := Lib.hid (ext_trans HB9.out hb10); clear hb10))
      go_ret
      exact ⟨rfl, HB10.out⟩
end Go.Proofs.YtpjhjefjbkjhkaaGreatDoor
