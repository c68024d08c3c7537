import Derived.Test.YtpjhjefjbkjhkaaGreatDoorPk06
import Derived.Test.YtpjhjefjbkjhkaaGreatDoorPk05
import Derived.Test.YtpjhjefjbkjhkaaGreatDoorPk32
import Derived.Test.YtpjhjefjbkjhkaaGreatDoorPk38
set_option maxHeartbeats 40000000
set_option maxRecDepth 100000
set_option linter.unusedVariables false
set_option linter.unusedSimpArgs false
namespace Go.Proofs.YtpjhjefjbkjhkaaGreatDoor
open El (cl)
open Go Go.RowKit Go.Shelf
theorem via_tailE {G : Prop} (h : ∃ T : Prop, T ∧ (T → G)) : G := h.elim fun T hT => hT.2 hT.1
def EnterRes (w : World) (M : List ValV) (E : List EntryV) (s : ByteArray) (args : List Int) (e : Ending) (w' : World) : Prop :=
 (enterE E s args ≠ 0 ∧ e = .returned (.tuple #[.agg zmc, .int .i64 (enterE E s args)]) ∧ Below w.heap.size w w') ∨
 (enterE E s args = 0 ∧ ∃ x vm, findE E s = some x ∧ e = .returned (.tuple #[.agg (mcs (entR x args) (entK x) vm (.slice none 0 0) (.slice none 0 0)), .int .i64 0]) ∧ Own w' w.heap.size 68 vm M ∧ Below w.heap.size w w')
theorem enter_any (ma pa ea aa : Option Addr) (mn mc pn pc en ec an ac : Nat) (M : List ValV) (E : List EntryV) (s : ByteArray) (args : List Int) (w : World) (hm : Sl w ma mn M) (he : Sl w ea en E) (ha : Sl w aa an args) (hok : ImOk M E) (hai : ∀ n ∈ args, I64 n) :
  Calls Tryz.prog 28 #[.agg #[.slice ma mn mc, .slice pa pn pc, .slice ea en ec], .string s, .slice aa an ac] w (EnterRes w M E s args) := by
 have hal := ha.len
 have hamx := ha.max
 unfold maxLen at hamx
 have hml := hm.len
 have hm400 := ((memCheck_zero M).1 hok.m).1
 obtain ⟨w1, hw1⟩ : ∃ w1, w1 = (w.alloc (.cells #[.slice ma mn mc, .slice pa pn pc, .slice ea en ec] 36)).alloc (.cells #[.bool false, .int .i64 0, .int .i64 0, .int .i64 0, .int .i64 0, .int .i64 0, .int .i64 0, .bool false, .int .i64 0, .int .i64 0, .int .i64 0, .int .i64 0, .int .i64 0, .int .i64 0, .bool false, .int .i64 0, .int .i64 0, .int .i64 0, .int .i64 0, .int .i64 0, .int .i64 0, .bool false, .int .i64 0, .int .i64 0, .int .i64 0, .int .i64 0, .int .i64 0, .int .i64 0, .bool false, .int .i64 0, .int .i64 0, .int .i64 0, .int .i64 0, .int .i64 0, .int .i64 0, .bool false, .int .i64 0, .int .i64 0, .int .i64 0, .int .i64 0, .int .i64 0, .int .i64 0, .bool false, .int .i64 0, .int .i64 0, .int .i64 0, .int .i64 0, .int .i64 0, .int .i64 0, .bool false, .int .i64 0, .int .i64 0, .int .i64 0, .int .i64 0, .int .i64 0, .int .i64 0, .int .i64 0, .int .i64 0, .int .i64 0, .int .i64 0, .int .i64 0, .slice none 0 0, .slice none 0 0, .slice none 0 0] 72) := ⟨_, rfl⟩
 have h1w : Below w.heap.size w w1 := by rw [hw1]; exact ext_alloc (ext_alloc (Below.refl _ _) _) _
 have b1 : Bk w1 w.heap.size 36 #[.slice ma mn mc, .slice pa pn pc, .slice ea en ec] := by rw [hw1]; exact bk_old _ (bk_new _ _ _)
 obtain ⟨g6, hg6⟩ : ∃ g6, w.heap.size + 1 = g6 := ⟨_, rfl⟩
 have r1 : Bk w1 g6 72 zmc := by rw [hw1, ← hg6]; exact bk_new' _ _ (by simp)
 have ck := echeck_any ma pa ea mn mc pn pc en ec M E w1 (hm.below h1w) (he.below h1w) hok
 have CK := Lib.hid ck
 have HW1 := Lib.hid hw1
 have H1W := Lib.hid h1w
 have B1 := Lib.hid b1
 have R1 := Lib.hid r1
 have HM := Lib.hid hm
 have HE := Lib.hid he
 have HA := Lib.hid ha
 have HAI := Lib.hid hai
 clear ck hw1 h1w b1 r1 hm he ha hok hai
 go_enter Tryz.func28, Tryz.ntmps28
 go_upto_region 1 with (fail)
 rw [← HW1.out]
 try rw [hg6]
 obtain ⟨c0, c1, c2⟩ := cells3 B1.out
 have bL := B1.out.lt
 go_upto_region 4 with (go_at_call 57; ((with_reducible refine (CK.out).mono ?_); rintro e w2 ⟨rfl, hb2⟩; have HB2 := Lib.hid hb2; clear hb2))
 clear c0 c1 c2 bL HW1 CK
 have R6 := Lib.hid (bk_keep HB2.out R1.out)
 have B6 := Lib.hid (bk_keep HB2.out B1.out)
 have B2W := Lib.hid (ext_trans H1W.out HB2.out)
 have rL := R6.out.lt
 by_cases h7 : 7 < an
 ·have q7 : (7 : Int) < an := by omega
  have hee : enterE E s args = 2 := by unfold enterE; rw [if_pos (by omega)]
  go_wp2_with (refine wpList_store_rowTo rfl 72 (.tmp 6) (.tmp 23) rfl rfl g6 zmc rfl (by first | rfl | kernel_rfl) 72 _ R6.out (by kernel_rfl) (by kernel_rfl) (by kernel_rfl) ?_)
  refine bodyPost_ret (results_rowE (g := g6) (t := 72) (cs := zmc) (fr := (0, 0)) rfl _ _ _ rfl (bk_setRowE R6.out _) Tryz.underlying72 rfl (by kernel_rfl)) rfl ?_
  refine .inl ⟨by rw [hee]; decide, by rw [hee]; rfl, below_setRow B2W.out (by omega) _⟩
 have q7 : ¬ ((7 : Int) < an) := by omega
 obtain ⟨c0, c1, c2⟩ := cells3 B6.out
 have bL := B6.out.lt
 have cl := clone_val ma mn mc M w2 (HM.out.below B2W.out) (by omega)
 have CL := Lib.hid cl
 clear cl
 go_upto_region 7 with (first
  | (go_at_call 53; ((with_reducible refine (CL.out).mono ?_); rintro e w3 ⟨v, rfl, ho, hb3⟩; obtain ⟨va, vn, vc, rfl⟩ := own_shape ho; have HO3 := Lib.hid ho; have HB3 := Lib.hid hb3; clear ho hb3))
  | (refine wpList_store_fresh rfl 72 (.tmp 9) (.tmp 27) rfl rfl (mcs (List.replicate 8 zeroV) zeroK (.slice va vn vc) (.slice none 0 0) (.slice none 0 0)) 72 _ rfl (by first | rfl | kernel_rfl) (by kernel_rfl) (by kernel_rfl) (by kernel_rfl) ?_))
 obtain ⟨vm, hvm⟩ : ∃ vm, Value.slice va vn vc = vm := ⟨_, rfl⟩
 obtain ⟨w4, hw4⟩ : ∃ w4, w4 = w3.alloc (.cells (mcs (List.replicate 8 zeroV) zeroK (.slice va vn vc) (.slice none 0 0) (.slice none 0 0)) 72) := ⟨_, rfl⟩
 rw [← hw4]
 obtain ⟨g9, hg9⟩ : ∃ g9, w3.heap.size = g9 := ⟨_, rfl⟩
 try rw [hg9]
 have r4 : Below w3.heap.size w3 w4 := by rw [hw4]; exact ext_alloc (Below.refl _ _) _
 have m9 : Bk w4 g9 72 (mcs (argR args 0) zeroK (.slice va vn vc) (.slice none 0 0) (.slice none 0 0)) := by rw [hw4, ← hg9, argR_zero]; exact bk_new _ _ _
 have o9 := HO3.out.below r4
 have b24 : Below w2.heap.size w2 w4 := ext_trans HB3.out r4
 have i9 := bk_keep b24 B6.out
 have z9 := bk_keep b24 R6.out
 have hne : g6 ≠ g9 := by have := R6.out.lt; have := HB3.out.size; omega
 have hgw : w.heap.size < g9 := by have := R6.out.lt; have := HB3.out.size; omega
 have M9 := Lib.hid m9
 have O9 := Lib.hid o9
 have I9 := Lib.hid i9
 have Z9 := Lib.hid z9
 have B9 := Lib.hid (ext_trans B2W.out b24)
 clear c0 c1 c2 bL hw4 hvm r4 m9 o9 b24 i9 z9 HO3 R6 B6 rL
 go_wp2
 go_loopw [30] (fun i wr => ∃ k : Nat, k ≤ an ∧ i = .int .i64 k ∧ (args.take k).all num32B = true ∧ Bk wr g9 72 (mcs (argR args k) zeroK (.slice va vn vc) (.slice none 0 0) (.slice none 0 0)) ∧ Own wr w2.heap.size 68 (.slice va vn vc) M ∧ Bk wr w.heap.size 36 #[.slice ma mn mc, .slice pa pn pc, .slice ea en ec] ∧ Bk wr g6 72 zmc ∧ Below w.heap.size w wr) (fun i _ => an - (intOf i).toNat)
 case atStart => exact ⟨0, Nat.zero_le _, rfl, rfl, M9.out, O9.out, I9.out, Z9.out, B9.out⟩
 case round =>
  obtain ⟨k, hk, rfl, hall, hm9, ho9, hi9, hz9, hb⟩ := hrel
  by_cases hlt : k < an
  ·have q0 : (0 : Int) ≤ k := by omega
   have q1 : (k : Int) < an := by omega
   obtain ⟨n, hn⟩ : ∃ n, args[k]? = some n := ⟨_, List.getElem?_eq_getElem (by omega)⟩
   obtain ⟨ad, hao, hab, e0⟩ := sl_int (HA.out.below hb) hlt hn
   subst hao
   have R6 := Lib.hid hz9
   have HM9 := Lib.hid hm9
   have HO9 := Lib.hid ho9
   have HI9 := Lib.hid hi9
   have HB9 := Lib.hid hb
   have HN := Lib.hid hn
   have HALL := Lib.hid hall
   clear hm9 ho9 hi9 hz9 hb hn hall
   cases hnum : num32B n
   ·have g : (n != wrap32 n) = true := by simp [← num32B_iff, hnum]
    have hee : enterE E s args = 1 := by
     unfold enterE
     rw [if_neg (by omega), if_pos]
     exact List.all_eq_false.2 ⟨n, List.mem_of_getElem? HN.out, by simp [hnum]⟩
    go_wp2_with (first
     | (go_at_call 58; (with_reducible refine (wrap_any _ _).mono ?_); rintro e w' ⟨rfl, rfl⟩)
     | (refine wpList_store_rowTo rfl 72 (.tmp 6) (.tmp 39) rfl rfl g6 zmc rfl (by first | rfl | kernel_rfl) 72 _ R6.out (by kernel_rfl) (by kernel_rfl) (by kernel_rfl) ?_))
    refine bodyPost_ret (results_rowE (g := g6) (t := 72) (cs := zmc) (fr := (0, 0)) rfl _ _ _ rfl (bk_setRowE R6.out _) Tryz.underlying72 rfl (by kernel_rfl)) rfl ?_
    refine .inl ⟨by rw [hee]; decide, by rw [hee]; rfl, below_setRow HB9.out (by omega) _⟩
   ·have g : (n != wrap32 n) = false := by simp [← num32B_iff, hnum]
    have hx : (argR args k)[k]? = some zeroV := by
     unfold argR
     rw [List.getElem?_map, List.getElem?_range (by omega)]
     simp
    have kc : wr.cell? ⟨g9, k * 7 + 1, none⟩ = some (.int .i64 0) := by
     refine (HM9.out.cell (k * 7 + 1)).trans ?_
     rw [mcs_lo (argR_len args k) (by omega)]
     have h1 := cls_at (argR args k) k (by rw [argR_len]; omega) 1 (by show 1 < 7; omega)
     have e7 : El.k ValV = 7 := rfl
     rw [e7] at h1
     rw [h1, (List.getElem?_eq_some_iff.1 hx).2]
     rfl
    have kf := HM9.out.frozen (k * 7 + 1)
    have kL := HM9.out.lt
    have hset := mcs_setN (c := zeroK) (ms := .slice va vn vc) (ss := .slice none 0 0) (os := .slice none 0 0) (argR_len args k) (by omega) hx n
    have hnx : argR args (k + 1) = (argR args k).set k ⟨false, n, zeroK⟩ := argR_next HN.out
    have HX := Lib.hid hset
    have HNX := Lib.hid hnx
    clear hx hset hnx
    go_wp2_with (go_at_call 58; (with_reducible refine (wrap_any _ _).mono ?_); rintro e w' ⟨rfl, rfl⟩)
    go_roundw
    case rel =>
     refine ⟨k + 1, by omega, by go_num, ?_, ?_, ?_, ?_, ?_, ?_⟩
     ·rw [List.take_add_one, HN.out, List.all_append, HALL.out]; simp [hnum]
     ·have := bk_set (k * 7 + 1) (.int .i64 n) HM9.out
      rw [HX.out] at this
      rw [HNX.out]
      exact this
     ·exact own_cell HO9.out HM9.out (by decide) _ _
     ·exact bk_cell HI9.out (by have := HB9.out.size; have h1 := HI9.out.lt; intro e; omega) _ _
     ·exact bk_cell R6.out hne _ _
     ·exact HB9.out.grown (grown_setCell wr g9 (k * 7 + 1) _) HB9.out.size (fun i e => by injection e with e; omega)
    case measure => simp [intOf]; omega
  ·have q1 : ¬ ((k : Int) < an) := by omega
   obtain rfl : k = an := by omega
   rw [List.take_of_length_le (by omega)] at hall
   obtain ⟨i0, i1, i2⟩ := cells3 hi9
   have iL := hi9.lt
   have fn := find_any ma pa ea mn mc pn pc en ec E s wr (HE.out.below hb)
   simp only [EntryV.val, EntryV.cs] at fn
   have HM9 := Lib.hid hm9
   have HO9 := Lib.hid ho9
   have HZ9 := Lib.hid hz9
   have HB9 := Lib.hid hb
   have HALL := Lib.hid hall
   clear hm9 ho9 hi9 hz9 hb hall
   cases hf : findE E s with
   | none =>
    rw [hf] at fn
    simp only [Option.getD_none, Option.isSome_none] at fn
    have hee : enterE E s args = 7 := by
     unfold enterE
     rw [if_neg (by omega), if_neg (by rw [HALL.out]; decide), if_pos hf]
    have FN := Lib.hid fn
    clear fn
    go_upto_region 15 with (go_at_call 52; ((with_reducible refine (FN.out).mono ?_); rintro e w5 ⟨rfl, hb5⟩; have HB5 := Lib.hid hb5; clear hb5))
    obtain ⟨w6, hw6⟩ : ∃ w6, w6 = w5.alloc (.cells #[.string zeroE.name, .int .i64 zeroE.code.perm, .int .i64 zeroE.code.base, .int .i64 zeroE.code.len, .int .i64 zeroE.code.at_, .int .i64 zeroE.code.seal_, .int .i64 zeroE.data.perm, .int .i64 zeroE.data.base, .int .i64 zeroE.data.len, .int .i64 zeroE.data.at_, .int .i64 zeroE.data.seal_] 103) := ⟨_, rfl⟩
    rw [← hw6]
    have r6 : Below wr.heap.size wr w6 := by rw [hw6]; exact ext_alloc HB5.out _
    have R6 := Lib.hid (bk_keep r6 HZ9.out)
    have HB6 := Lib.hid (ext_trans HB9.out r6)
    clear hw6 r6 i0 i1 i2 iL
    go_wp2_with (refine wpList_store_rowTo rfl 72 (.tmp 6) (.tmp 54) rfl rfl g6 zmc rfl (by first | rfl | kernel_rfl) 72 _ R6.out (by kernel_rfl) (by kernel_rfl) (by kernel_rfl) ?_)
    refine bodyPost_ret (results_rowE (g := g6) (t := 72) (cs := zmc) (fr := (0, 0)) rfl _ _ _ rfl (bk_setRowE R6.out _) Tryz.underlying72 rfl (by kernel_rfl)) rfl ?_
    refine .inl ⟨by rw [hee]; decide, by rw [hee]; rfl, below_setRow HB6.out (by omega) _⟩
   | some x =>
    rw [hf] at fn
    simp only [Option.getD_some, Option.isSome_some] at fn
    have hee : enterE E s args = 0 := by
     unfold enterE
     rw [if_neg (by omega), if_neg (by rw [HALL.out]; decide), if_neg (by rw [hf]; exact fun h => by cases h)]
    have FN := Lib.hid fn
    have HF := Lib.hid hf
    clear fn hf
    go_upto_region 15 with (go_at_call 52; ((with_reducible refine (FN.out).mono ?_); rintro e w5 ⟨rfl, hb5⟩; have HB5 := Lib.hid hb5; clear hb5))
    obtain ⟨w6, hw6⟩ : ∃ w6, w6 = w5.alloc (.cells #[.string x.name, .int .i64 x.code.perm, .int .i64 x.code.base, .int .i64 x.code.len, .int .i64 x.code.at_, .int .i64 x.code.seal_, .int .i64 x.data.perm, .int .i64 x.data.base, .int .i64 x.data.len, .int .i64 x.data.at_, .int .i64 x.data.seal_] 103) := ⟨_, rfl⟩
    rw [← hw6]
    obtain ⟨gt, hgt⟩ : ∃ gt, w5.heap.size = gt := ⟨_, rfl⟩
    try rw [hgt]
    have r6 : Below wr.heap.size wr w6 := by rw [hw6]; exact ext_alloc HB5.out _
    have y6 : Bk w6 gt 103 #[.string x.name, .int .i64 x.code.perm, .int .i64 x.code.base, .int .i64 x.code.len, .int .i64 x.code.at_, .int .i64 x.code.seal_, .int .i64 x.data.perm, .int .i64 x.data.base, .int .i64 x.data.len, .int .i64 x.data.at_, .int .i64 x.data.seal_] := by rw [hw6, ← hgt]; exact bk_new _ _ _
    have hn6 : g6 ≠ gt := by have h1 := HZ9.out.lt; have h2 := HB5.out.size; omega
    have hn9 : g9 ≠ gt := by have h1 := HM9.out.lt; have h2 := HB5.out.size; omega
    have Y6 := Lib.hid y6
    have M6 := Lib.hid (bk_keep r6 HM9.out)
    have O6 := Lib.hid (HO9.out.below r6)
    have Z6 := Lib.hid (bk_keep r6 HZ9.out)
    have HB6 := Lib.hid (ext_trans HB9.out r6)
    have hgtw : w.heap.size ≤ gt := by have h1 := HB9.out.size; have h2 := HB5.out.size; omega
    obtain ⟨s0, s1, s2, s3, s4, s5, s6, s7, s8, s9, s10⟩ := cells11 y6
    have sL := y6.lt
    have sF := fun i => y6.frozen i
    clear hw6 r6 i0 i1 i2 iL y6 HM9 HO9 HZ9 HB9
    go_upto_region 18 with (fail)
    obtain ⟨w7, hw7⟩ : ∃ w7, w7 = (w6.setCell ⟨gt, 5, none⟩ (.int .i64 0)).setCell ⟨gt, 10, none⟩ (.int .i64 0) := ⟨_, rfl⟩
    rw [← hw7]
    clear s0 s1 s2 s3 s4 s5 s6 s7 s8 s9 s10 sL sF
    have y7 : Bk w7 gt 103 #[.string x.name, .int .i64 x.code.perm, .int .i64 x.code.base, .int .i64 x.code.len, .int .i64 x.code.at_, .int .i64 0, .int .i64 x.data.perm, .int .i64 x.data.base, .int .i64 x.data.len, .int .i64 x.data.at_, .int .i64 0] := by rw [hw7]; exact bk_set' (bk_set' Y6.out rfl) rfl
    have m7 : Bk w7 g9 72 (mcs (argR args k) zeroK (.slice va vn vc) (.slice none 0 0) (.slice none 0 0)) := by rw [hw7]; exact bk_cell (bk_cell M6.out hn9 _ _) hn9 _ _
    have z7 : Bk w7 g6 72 zmc := by rw [hw7]; exact bk_cell (bk_cell Z6.out hn6 _ _) hn6 _ _
    have o7 : Own w7 w2.heap.size 68 (.slice va vn vc) M := by rw [hw7]; exact own_cell (own_cell O6.out Y6.out (by decide) _ _) (bk_set 5 _ Y6.out) (by decide) _ _
    have b7 : Below w.heap.size w w7 := by
     rw [hw7]
     have h1 := HB6.out.grown (grown_setCell w6 gt 5 (.int .i64 0)) HB6.out.size (fun i e => by injection e with e; omega)
     exact h1.grown (grown_setCell _ gt 10 (.int .i64 0)) h1.size (fun i e => by injection e with e; omega)
    have hk7 : k ≤ 7 := by omega
    have h7z : (argR args k)[7]? = some zeroV := by
     unfold argR
     rw [List.getElem?_map, List.getElem?_range (by omega)]
     simp only [Option.map_some]
     rw [if_neg (by omega)]
    obtain ⟨s0, s1, s2, s3, s4, s5, s6, s7, s8, s9, s10⟩ := cells11 y7
    have sL := y7.lt
    have mL := m7.lt
    have mF := fun i => m7.frozen i
    have rc : ∀ (j : Nat) (u : Value), j < 7 → (cl zeroV)[j]? = some u → w7.cell? ⟨g9, 49 + j, none⟩ = some u := fun j u hj hu => by
     refine (m7.cell (49 + j)).trans ?_
     rw [mcs_lo (argR_len args k) (by omega)]
     have h1 := cls_at (argR args k) 7 (by rw [argR_len]; omega) j (by show j < 7; omega)
     have e7 : El.k ValV = 7 := rfl
     rw [e7] at h1
     rw [h1, (List.getElem?_eq_some_iff.1 h7z).2]
     exact hu
    have r49 := rc 0 (.bool false) (by decide) rfl
    have r50 := rc 1 (.int .i64 0) (by decide) rfl
    have r51 := rc 2 (.int .i64 0) (by decide) rfl
    have r52 := rc 3 (.int .i64 0) (by decide) rfl
    have r53 := rc 4 (.int .i64 0) (by decide) rfl
    have r54 := rc 5 (.int .i64 0) (by decide) rfl
    have r55 := rc 6 (.int .i64 0) (by decide) rfl
    have r56 : w7.cell? ⟨g9, 56, none⟩ = some (.int .i64 0) := (m7.cell 56).trans (mcs_hi (argR_len args k) 0)
    have r57 : w7.cell? ⟨g9, 57, none⟩ = some (.int .i64 0) := (m7.cell 57).trans (mcs_hi (argR_len args k) 1)
    have r58 : w7.cell? ⟨g9, 58, none⟩ = some (.int .i64 0) := (m7.cell 58).trans (mcs_hi (argR_len args k) 2)
    have r59 : w7.cell? ⟨g9, 59, none⟩ = some (.int .i64 0) := (m7.cell 59).trans (mcs_hi (argR_len args k) 3)
    have r60 : w7.cell? ⟨g9, 60, none⟩ = some (.int .i64 0) := (m7.cell 60).trans (mcs_hi (argR_len args k) 4)
    have M7 := Lib.hid m7
    have Z7 := Lib.hid z7
    have O7 := Lib.hid o7
    have B7 := Lib.hid b7
    have H7Z := Lib.hid h7z
    clear hw7 y7 m7 z7 o7 b7 rc h7z
    have hsz : (mcs (entR x args) (entK x) (.slice va vn vc) (.slice none 0 0) (.slice none 0 0)).size = 64 := mcs_size (by unfold entR; rw [List.length_set, argR_len])
    have hex : (mcs (entR x args) (entK x) (.slice va vn vc) (.slice none 0 0) (.slice none 0 0)).extract 0 (0 + 64) = mcs (entR x args) (entK x) (.slice va vn vc) (.slice none 0 0) (.slice none 0 0) := by rw [Array.extract_eq_self_of_le (by rw [hsz]; omega)]
    have hone := mcs_one (R := entR x args) (c := entK x) (ms := .slice va vn vc) (ss := .slice none 0 0) (os := .slice none 0 0) rfl rfl rfl
    have HSZ := Lib.hid hsz
    have HEX := Lib.hid hex
    have HONE := Lib.hid hone
    clear hsz hex hone
    apply via_tailE
    apply Exists.intro
    apply And.intro
    rotate_left
    ·intro tail
     go_region_law (fail)
     all_goals with_reducible exact tail
    obtain ⟨W8, hW8⟩ : ∃ W8, W8 = ((w7.setCells g9 56 [.int .i64 x.code.perm, .int .i64 x.code.base, .int .i64 x.code.len, .int .i64 x.code.at_, .int .i64 0]).setCells g9 49 [.bool true, .int .i64 0, .int .i64 x.data.perm, .int .i64 x.data.base, .int .i64 x.data.len, .int .i64 x.data.at_, .int .i64 0]).drew := ⟨_, rfl⟩
    change Exit.then _ _ _ _ (((w7.setCells g9 56 [.int .i64 x.code.perm, .int .i64 x.code.base, .int .i64 x.code.len, .int .i64 x.code.at_, .int .i64 0]).setCells g9 49 [.bool true, .int .i64 0, .int .i64 x.data.perm, .int .i64 x.data.base, .int .i64 x.data.len, .int .i64 x.data.at_, .int .i64 0]).drew)
    rw [← hW8]
    obtain ⟨m8, W', hg2, hW'⟩ := ent_all hW8 (by omega) H7Z.out M7.out
    clear hW8
    subst hW'
    have z8 : Bk W'.drew g6 72 zmc := bk_drew (bk_grown Z7.out hg2 (fun e => by injection e with e; exact hne e.symm))
    have o8 : Own W'.drew w2.heap.size 68 (.slice va vn vc) M := (O7.out.kept hg2 (.inr (own_not_bk O7.out M7.out (by decide)))).drew
    have b8 : Below w.heap.size w W'.drew := ext_drew (B7.out.grown hg2 B7.out.size (fun i e => by injection e with e; omega))
    obtain ⟨W8, hW8⟩ : ∃ W8, W8 = W'.drew := ⟨_, rfl⟩
    rw [← hW8] at m8 z8 o8 b8 ⊢
    have M8 := Lib.hid m8
    have R6 := Lib.hid z8
    have O8 := Lib.hid o8
    have B8 := Lib.hid b8
    clear m8 hg2 z8 o8 b8 hW8
    go_wp2_with (first
     | (refine wpList_load_sub rfl 72 (.tmp 9) rfl g9 0 64 rfl 72 _ _ M8.out Tryz.underlying72 rfl (by kernel_rfl) (by rw [HSZ.out]; decide) _ HEX.out ?_)
     | (refine wpList_store_rowTo rfl 72 (.tmp 6) (.tmp 67) rfl rfl g6 (mcs (entR x args) (entK x) (.slice va vn vc) (.slice none 0 0) (.slice none 0 0)) rfl rfl 72 _ R6.out (by rw [HSZ.out]; kernel_rfl) (by rw [HSZ.out]; kernel_rfl) HONE.out ?_))
    refine bodyPost_ret (results_rowE (g := g6) (t := 72) (cs := mcs (entR x args) (entK x) (.slice va vn vc) (.slice none 0 0) (.slice none 0 0)) (fr := (0, 0)) rfl _ _ _ rfl (bk_setRowE R6.out _) Tryz.underlying72 rfl (by rw [HSZ.out]; kernel_rfl)) rfl ?_
    have hg : W8.grownBy (W8.setRow g6 (mcs (entR x args) (entK x) (.slice va vn vc) (.slice none 0 0) (.slice none 0 0))) (some g6) := ⟨rfl, rfl, rfl, by simp, fun k _ hk => setRow_other W8 g6 k _ (fun e => hk (by rw [e]))⟩
    exact .inr ⟨hee, x, _, HF.out, rfl, (O8.out.kept hg (.inr (own_not_bk O8.out R6.out (by decide)))).mono B2W.out.size, below_setRow B8.out (by omega) _⟩
end Go.Proofs.YtpjhjefjbkjhkaaGreatDoor
