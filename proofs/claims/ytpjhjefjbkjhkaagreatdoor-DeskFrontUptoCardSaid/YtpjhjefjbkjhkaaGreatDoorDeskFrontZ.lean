import Derived.BigRegion
import Derived.Deep.DeepCutAuto
import Derived.Deep.RegionLaw
import Derived.Test.YtpjhjefjbkjhkaaGreatDoorBuDb
import Derived.Test.YtpjhjefjbkjhkaaGreatDoorLiftBulkZ
/- The front of what a desk answers. -/
namespace Go.Proofs.YtpjhjefjbkjhkaaGreatDoor
open Go Go.RowKit Go.Shelf
set_option linter.unusedVariables false
set_option linter.unusedSimpArgs false
abbrev LF : List ByteArray := [⟨#[109, 111, 118, 101, 32, 53]⟩, ⟨#[110, 97, 114, 114, 111, 119, 32, 51]⟩, ⟨#[119, 104, 97, 116]⟩, ⟨#[107, 101, 121]⟩]
abbrev LO : List ByteArray := [⟨#[114, 119, 120, 82, 87, 115, 117, 32, 48, 32, 52, 48, 48, 32, 53, 32, 48]⟩, ⟨#[114, 119, 120, 82, 87, 115, 117, 32, 53, 32, 51, 32, 53, 32, 48]⟩, ⟨#[101, 114, 114, 111, 114, 32, 51]⟩, ⟨#[114, 119, 120, 82, 87, 115, 117, 32, 53, 32, 51, 32, 53, 32, 48]⟩]
theorem front_ok : okLines (bysL LF) = true := by decide
theorem front_run : (runD (bysL LF)).map ba = LO := by
  show (runD [[109, 111, 118, 101, 32, 53], [110, 97, 114, 114, 111, 119, 32, 51], [119, 104, 97, 116], [107, 101, 121]]).map ba = LO
  rw [run_front]
  rfl
theorem deskFront_walk (x y : SlV ByteArray) (w : World) (hx : x.ok (fun s => s.size ≤ maxLen) w) (zx : x.n ≤ 1048576) (hy : y.ok (fun s => s.size ≤ maxLen) w) (zy : y.n ≤ 1048576) (he : PEnv w) :
    Calls Tryz.prog 8 #[x.val, y.val] w fun e w' => e = .returned (.bool true) ∧ Below w.heap.size w w' := by
  obtain ⟨ao, n, c, xs⟩ := x
  obtain ⟨bo, m, d, ys⟩ := y
  obtain ⟨hxs, _, hle⟩ := hx
  obtain ⟨hys, _, hle2⟩ := hy
  simp only [SlV.val] at hxs hle hys hle2 zx zy ⊢
  have hn := hxs.len
  have hm := hys.len
  have XA := Lib.hid hxs
  have XB := Lib.hid hys
  have HE := Lib.hid he
  clear hxs hys he hle hle2
  obtain ⟨i0, i1, z0, z1, z2⟩ := info_parts info_strJ
  obtain ⟨zs, hzs⟩ : ∃ zs, xs ++ ys = zs := ⟨_, rfl⟩
  have hzl : zs.length = n + m := by rw [← hzs, List.length_append, hn, hm]
  have hbz : bysL zs = bysL xs ++ bysL ys := by rw [← hzs]; exact List.map_append
  have q1 : (0 : Nat) + n ≤ maxLen := by unfold maxLen; omega
  have q2 : (0 + n) * 16 ≤ 140737488355328 := by omega
  have q3 : n + m ≤ maxLen := by unfold maxLen; omega
  have q4 : (n + m) * 16 ≤ 140737488355328 := by omega
  have Q1 := Lib.hid q1
  have Q2 := Lib.hid q2
  have Q3 := Lib.hid (show ([] ++ xs : List ByteArray).length + m ≤ maxLen by rw [List.nil_append, hn]; exact q3)
  have Q4 := Lib.hid (show (([] ++ xs : List ByteArray).length + m) * 16 ≤ 140737488355328 by rw [List.nil_append, hn]; exact q4)
  have HZS := Lib.hid hzs
  have HZL := Lib.hid hzl
  have HBZ := Lib.hid hbz
  have HN := Lib.hid hn
  have HM := Lib.hid hm
  clear q1 q2 q3 q4 hzs hzl hbz hn hm
  have c1 : Below w.heap.size w (w.alloc (.cells #[.string ⟨#[109, 111, 118, 101, 32, 53]⟩, .string ⟨#[110, 97, 114, 114, 111, 119, 32, 51]⟩, .string ⟨#[119, 104, 97, 116]⟩, .string ⟨#[107, 101, 121]⟩] 9)) := ext_alloc (Below.refl _ _) _
  have F1 := Lib.hid (run_good (some ⟨w.heap.size, 0, none⟩) 4 4 LF LO (w.alloc (.cells #[.string ⟨#[109, 111, 118, 101, 32, 53]⟩, .string ⟨#[110, 97, 114, 114, 111, 119, 32, 51]⟩, .string ⟨#[119, 104, 97, 116]⟩, .string ⟨#[107, 101, 121]⟩] 9)) (HE.out.below c1) (lit_slD #[.string ⟨#[109, 111, 118, 101, 32, 53]⟩, .string ⟨#[110, 97, 114, 114, 111, 119, 32, 51]⟩, .string ⟨#[119, 104, 97, 116]⟩, .string ⟨#[107, 101, 121]⟩] LF (by simp) rfl) front_ok front_run)
  have C1 := Lib.hid c1
  clear c1
  go_enter Tryz.func8, Tryz.ntmps8
  go_upto_region 4 with (first
    | (go_at_call 37; ((with_reducible refine (F1.out).mono ?_); rintro e w2 ⟨va2, vc2, rfl, hs2, hc2, hb2⟩; have S2 := Lib.hid hs2; have C2 := Lib.hid hc2; have HB2 := Lib.hid (ext_trans C1.out hb2); clear hs2 hc2 hb2))
    | (go_at_call 38; ((with_reducible refine (eqs_Str va2 (some ⟨w2.heap.size, 0, none⟩) 4 vc2 4 LO _ (S2.out.below (ext_alloc (Below.refl _ _) _)) (lit_slD #[.string ⟨#[114, 119, 120, 82, 87, 115, 117, 32, 48, 32, 52, 48, 48, 32, 53, 32, 48]⟩, .string ⟨#[114, 119, 120, 82, 87, 115, 117, 32, 53, 32, 51, 32, 53, 32, 48]⟩, .string ⟨#[101, 114, 114, 111, 114, 32, 51]⟩, .string ⟨#[114, 119, 120, 82, 87, 115, 117, 32, 53, 32, 51, 32, 53, 32, 48]⟩] LO (by simp) rfl)).mono ?_); rintro e w3 ⟨rfl, hb3⟩; have HB3 := Lib.hid (ext_trans (ext_alloc HB2.out _) hb3); clear hb3)))
  obtain ⟨N, hN⟩ : ∃ N, n + m = N := ⟨_, rfl⟩
  rw [hN] at HZL
  cases hok : okLines (bysL zs) with
  | false =>
    have R4 := Lib.hid (run_some ao n c xs w3 (HE.out.below HB3.out) (XA.out.below HB3.out))
    have R6 := Lib.hid (fun va vc W (hW : PEnv W) (h : Sl W va N zs) => run_bad va N vc zs W hW h hok)
    clear hok
    go_wp2_with (first
      | (go_at_call 37; ((with_reducible refine R4.out.mono ?_); rintro e w4 ⟨va4, vn4, vc4, er4, rfl, hb4⟩; have HB4 := Lib.hid (ext_trans HB3.out hb4); clear hb4))
      | (at_builtin; refine wpList_append_sl (α := ByteArray) rfl (.const (.slice none 0 0)) (.tmp 30) 80 rfl w4.heap.size 9 i0 _ 16 Tryz.underlying80 i1 z0 z1 z2 rfl (.slice none 0 0) [] rfl (Own.nil _ _ _) ao n c xs rfl (XA.out.below HB4.out) Q1.out Q2.out (Nat.le_refl _) ?_; intro v5 w5 ho5 hg5 _; have O5 := Lib.hid ho5; have B45 := Lib.hid ((Below.refl w4.heap.size w4).grown hg5 (Nat.le_refl _) (fun k e => by simp [Value.ownBlock] at e)); obtain ⟨va5, vn5, vc5, rfl⟩ := own_shapeD ho5; clear ho5 hg5)
      | (at_builtin; refine wpList_append_sl (α := ByteArray) rfl (.tmp 31) (.tmp 32) 80 rfl w4.heap.size 9 i0 _ 16 Tryz.underlying80 i1 z0 z1 z2 rfl (.slice va5 vn5 vc5) ([] ++ xs) rfl O5.out bo m d ys rfl (XB.out.below (ext_trans HB4.out B45.out)) Q3.out Q4.out B45.out.size ?_; intro v6 w6 ho6 hg6 _; rw [List.nil_append, HZS.out] at ho6; have B46 := Lib.hid (B45.out.grown hg6 B45.out.size (fun k e => (own_ltD O5.out e).1)); obtain ⟨va6, vc6, rfl, hs6, _⟩ := Own.sl ho6; rw [HZL.out] at hs6; (try rw [HZL.out]); have S6 := Lib.hid hs6; clear ho6 hg6 hs6)
      | (go_at_call 37; ((with_reducible refine (R6.out va6 vc6 _ (HE.out.below (ext_trans HB4.out B46.out)) S6.out).mono ?_); rintro e w7 ⟨va7, vc7, rfl, hb7⟩; have HB7 := Lib.hid (ext_trans (ext_trans HB4.out B46.out) hb7); clear hb7)))
    go_ret
    exact ⟨rfl, HB7.out⟩
  | true =>
    have h2 := hok
    rw [HBZ.out] at h2
    obtain ⟨ok1, _⟩ := okLines_app _ _ h2
    obtain ⟨O1, hO1⟩ : ∃ O1, (runD (bysL xs)).map ba = O1 := ⟨_, rfl⟩
    obtain ⟨O2, hO2⟩ : ∃ O2, (runD (bysL zs)).map ba = O2 := ⟨_, rfl⟩
    have htk : O2.take n = O1 := by
      rw [← hO1, ← hO2, ← HZS.out, ← HN.out]
      exact run_take xs ys
    have R4 := Lib.hid (run_goodN ao n c xs O1 w3 (HE.out.below HB3.out) (XA.out.below HB3.out) ok1 hO1)
    have R6 := Lib.hid (fun va vc W (hW : PEnv W) (h : Sl W va N zs) => run_goodN va N vc zs O2 W hW h hok hO2)
    have HTK := Lib.hid htk
    have hnN : n ≤ N := by omega
    have e1 : IntKind.i64.wrap ((n : Int) + (m : Int)) = (N : Int) := by rw [IntKind.wrap_i64]; omega
    have e2 : (0 : Int) ≤ (n : Int) := by omega
    have HNN := Lib.hid hnN
    clear hok h2 ok1 hO1 hO2 htk
    go_upto_region 8 with (first
      | (go_at_call 37; ((with_reducible refine (R4.out).mono ?_); rintro e w4 ⟨va4, vc4, rfl, hs4, hc4, hb4⟩; have S4 := Lib.hid hs4; have C4 := Lib.hid hc4; have HB4 := Lib.hid (ext_trans HB3.out hb4); clear hs4 hc4 hb4))
      | (at_builtin; refine wpList_append_sl (α := ByteArray) rfl (.const (.slice none 0 0)) (.tmp 30) 80 rfl w4.heap.size 9 i0 _ 16 Tryz.underlying80 i1 z0 z1 z2 rfl (.slice none 0 0) [] rfl (Own.nil _ _ _) ao n c xs rfl (XA.out.below HB4.out) Q1.out Q2.out (Nat.le_refl _) ?_; intro v5 w5 ho5 hg5 _; have O5 := Lib.hid ho5; have B45 := Lib.hid ((Below.refl w4.heap.size w4).grown hg5 (Nat.le_refl _) (fun k e => by simp [Value.ownBlock] at e)); obtain ⟨va5, vn5, vc5, rfl⟩ := own_shapeD ho5; clear ho5 hg5)
      | (at_builtin; refine wpList_append_sl (α := ByteArray) rfl (.tmp 31) (.tmp 32) 80 rfl w4.heap.size 9 i0 _ 16 Tryz.underlying80 i1 z0 z1 z2 rfl (.slice va5 vn5 vc5) ([] ++ xs) rfl O5.out bo m d ys rfl (XB.out.below (ext_trans HB4.out B45.out)) Q3.out Q4.out B45.out.size ?_; intro v6 w6 ho6 hg6 _; rw [List.nil_append, HZS.out] at ho6; have B46 := Lib.hid (B45.out.grown hg6 B45.out.size (fun k e => (own_ltD O5.out e).1)); obtain ⟨va6, vc6, rfl, hs6, _⟩ := Own.sl ho6; rw [HZL.out] at hs6; (try rw [HZL.out]); have S6 := Lib.hid hs6; clear ho6 hg6 hs6)
      | (go_at_call 37; ((with_reducible refine (R6.out va6 vc6 _ (HE.out.below (ext_trans HB4.out B46.out)) S6.out).mono ?_); rintro e w7 ⟨va7, vc7, rfl, hs7, hc7, hb7⟩; have S7 := Lib.hid hs7; have C7 := Lib.hid hc7; have HB7 := Lib.hid (ext_trans (ext_trans HB4.out B46.out) hb7); have S47 := Lib.hid (S4.out.below (ext_trans B46.out hb7)); clear hs7 hc7 hb7)))
    have e3 : (n : Int) ≤ (vc7 : Int) := by have := C7.out; omega
    have e4 : n ≤ vc7 := by have := C7.out; omega
    have e5 : (n : Int) ≤ (N : Int) := by omega
    have S7T := Lib.hid (show Sl w7 va7 n O1 from by rw [← HTK.out]; exact sl_takeD S7.out HNN.out)
    go_wp2_with (go_at_call 38; ((with_reducible refine (eqs_Str va4 va7 n vc4 _ O1 _ S47.out S7T.out).mono ?_); rintro e w8 ⟨rfl, hb8⟩; have HB8 := Lib.hid (ext_trans HB7.out hb8); clear hb8))
    go_ret
    exact ⟨rfl, HB8.out⟩
end Go.Proofs.YtpjhjefjbkjhkaaGreatDoor
