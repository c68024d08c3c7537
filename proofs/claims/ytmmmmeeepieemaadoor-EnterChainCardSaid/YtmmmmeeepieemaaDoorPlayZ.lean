import Derived.BigQuiet
import Derived.Deep.QuietTactic
import Derived.OwnWalk
import Derived.Test.YtmmmmeeepieemaaDoorBuG
import Derived.Test.YtmmmmeeepieemaaDoorChainMathZ
import Derived.Test.YtmmmmeeepieemaaDoorDoZ
/- enter.Play: jobs one behind the other. -/
namespace Go.Proofs.YtmmmmeeepieemaaDoor
open El (cl)
open Go Go.RowKit Go.Shelf
set_option linter.unusedVariables false
set_option linter.unusedSimpArgs false
theorem own_sl' {α : Type} [El α] {w : World} {base : Nat} {T : TypeId} {ao : Option Addr} {n c : Nat} {xs : List α} (h : Own w base T (.slice ao n c) xs) : Sl w ao n xs := by
  obtain ⟨a', c', e, hs, _⟩ := h.sl
  injection e with e1 e2 e3
  subst e1 e2
  exact hs
theorem own_ln {α : Type} [El α] {w : World} {base : Nat} {T : TypeId} {ao : Option Addr} {n c : Nat} {xs : List α} (h : Own w base T (.slice ao n c) xs) : n = xs.length := (own_sl' h).len.symm
theorem info_done : (Tryd.prog.info? 59).map (fun i => (i.zero, i.size, i.bytes)) = some (some (.agg #[.int .i64 0, .int .i64 0, .slice none 0 0, .int .i64 0]), 4, 48) := by kernel_rfl
/-- What Play answers. -/
def PlayRes (w : World) (ds : List DoneV) (M : List ValV) (e : Ending) (w' : World) : Prop :=
  ∃ vo vm rs, e = .returned (.tuple #[vo, vm, .int .i64 0]) ∧ Own w' w.heap.size 59 vo rs ∧ Dones w' w.heap.size rs ds ∧ Own w' w.heap.size 32 vm M ∧ Below w.heap.size w w'
set_option maxHeartbeats 16000000 in
set_option maxRecDepth 100000 in
theorem play_any (ma pa ea ao : Option Addr) (mn mc pn pc en ec N cap : Nat) (M : List ValV) (E : List EntryV) (rs : List JobR) (js : List JobV) (w : World) (hm : Sl w ma mn M) (he : Sl w ea en E) (hj : Jobs w ao N rs js) (hN : N ≤ 60) (hok : ImOk M E) (hT : Tab w) :
    Calls Tryd.prog 22 #[.agg #[.slice ma mn mc, .slice pa pn pc, .slice ea en ec], .slice ao N cap] w (PlayRes w (donesK E M js) (memK E M js)) := by
  have hml := hm.len
  have hm400 := ((memCheck_zero M).1 hok.m).1
  have hn := hj.n
  obtain ⟨i0, hi0, hz0, hz1, hz2⟩ := info_parts info_done
  obtain ⟨w1, hw1⟩ : ∃ w1, w1 = w.alloc (.cells #[.slice ma mn mc, .slice pa pn pc, .slice ea en ec] 55) := ⟨_, rfl⟩
  obtain ⟨g2, hg2⟩ : ∃ g, g = w.heap.size := ⟨_, rfl⟩
  have h1w : Below w.heap.size w w1 := by rw [hw1]; exact ext_alloc (Below.refl _ _) _
  have r1 : Bk w1 g2 55 #[.slice ma mn mc, .slice pa pn pc, .slice ea en ec] := by rw [hw1, hg2]; exact bk_new _ _ _
  have cl := clone_val ma mn mc M w1 (hm.below h1w) (by omega)
  have hgw : w.heap.size ≤ g2 := by omega
  have hq : ¬ ((60 : Int) < N) := by omega
  have HW1 := Lib.hid hw1
  have HG2 := Lib.hid hg2
  have H1W := Lib.hid h1w
  have R1 := Lib.hid r1
  have CL := Lib.hid cl
  have HE := Lib.hid he
  have HJ := Lib.hid hj
  have HOK := Lib.hid hok
  have HT := Lib.hid hT
  clear hw1 hg2 h1w r1 cl hm he hj hok hT
  obtain ⟨c0, c1, c2⟩ := cells3 R1.out
  have bL := R1.out.lt
  go_enter Tryd.func22, Tryd.ntmps22
  go_upto_region 1 with (fail)
  try rw [← HG2.out]
  rw [← HW1.out]
  go_upto_region 4 with (go_at_call 40; ((with_reducible refine (CL.out).mono ?_); rintro e w2 ⟨v, rfl, ho, hb2⟩; obtain ⟨ca, cn, cc, rfl⟩ := own_shape ho; have HO2 := Lib.hid ho; have HB2 := Lib.hid hb2; have R2 := Lib.hid (bk_keep hb2 R1.out); have rL := R2.out.lt; have rF := (fun i => R2.out.frozen i); obtain ⟨c0, c1, c2⟩ := cells3 R2.out; clear ho hb2))
  obtain ⟨w3, hw3⟩ : ∃ w3, w3 = w2.setCell ⟨g2, 0, none⟩ (.slice ca cn cc) := ⟨_, rfl⟩
  rw [← hw3]
  have i3 : Bk w3 g2 55 #[.slice ca cn cc, .slice pa pn pc, .slice ea en ec] := by rw [hw3]; exact bk_set' R2.out rfl
  have o3 : Own w3 w.heap.size 32 (.slice ca cn cc) M := by rw [hw3]; exact (own_cell HO2.out R2.out (by decide) _ _).mono H1W.out.size
  have b02 := ext_trans H1W.out HB2.out
  have b3 : Below w.heap.size w w3 := by rw [hw3]; exact b02.grown (grown_setCell w2 g2 0 _) b02.size (fun i e => by injection e with e; omega)
  have I3 := Lib.hid i3
  have O3 := Lib.hid o3
  have B3 := Lib.hid b3
  clear hw3 i3 o3 b02 b3 c0 c1 c2 bL rL rF R1 R2 HO2 HB2 CL H1W HW1
  go_wp2
  go_loopw [7, 20] (fun v i wr => ∃ (k : Nat) (rr : List DoneR) (xa : Option Addr) (xn xc : Nat), k ≤ N ∧ i = .int .i64 k ∧ Own wr w.heap.size 59 v rr ∧ Dones wr w.heap.size rr (donesK E M (js.take k)) ∧ Bk wr g2 55 #[.slice xa xn xc, .slice pa pn pc, .slice ea en ec] ∧ Own wr w.heap.size 32 (.slice xa xn xc) (memK E M (js.take k)) ∧ Below w.heap.size w wr) (fun _ i _ => N - (intOf i).toNat)
  case atStart => exact ⟨0, [], ca, cn, cc, Nat.zero_le _, rfl, Own.nil _ _ _, by rw [List.take_zero]; exact Dones.nil, I3.out, O3.out, B3.out⟩
  case round =>
    obtain ⟨k, rr, xa, xn, xc, hk, rfl, hv, hd, hi, hm, hb⟩ := hrel
    have HV := Lib.hid hv
    have HD := Lib.hid hd
    have HI := Lib.hid hi
    have HM := Lib.hid hm
    have HB := Lib.hid hb
    clear hv hd hi hm hb I3 O3 B3
    by_cases hlt : k < N
    · have q0 : (0 : Int) ≤ k := by omega
      have q1 : (k : Int) < N := by omega
      obtain ⟨r, j, hr, hjj, hhas⟩ := HJ.out.get hlt
      obtain ⟨ad, hao, hab, e0, e1, e2⟩ := sl_JobR (HJ.out.sl.below HB.out) hlt hr
      subst hao
      have hmn := memK_next (E := E) (M := M) hjj
      have hdn := donesK_next (E := E) (M := M) hjj
      have hok2 := memK_ok (E := E) (js := js.take k) HOK.out
      have hrl : rr.length = k := by rw [HD.out.len, donesK_len, List.length_take]; omega
      obtain ⟨nm, ⟨aa, an, ac⟩, F⟩ := r
      obtain ⟨s, args, F'⟩ := j
      obtain ⟨f1, f2, ha, hac, hai, hF⟩ := hhas
      simp only at f1 f2 ha hac hai hF e0 e1 e2 hmn hdn
      subst f1 f2
      obtain ⟨w4, hw4⟩ : ∃ w4, w4 = (wr.alloc (.cells #[.string s, .slice aa an ac, .int .i64 F'] 51)).alloc (.cells #[.int .i64 0, .int .i64 0, .slice none 0 0, .int .i64 0] 59) := ⟨_, rfl⟩
      obtain ⟨g9, hg9⟩ : ∃ g, g = wr.heap.size := ⟨_, rfl⟩
      obtain ⟨g10, hg10⟩ : ∃ g, g = wr.heap.size + 1 := ⟨_, rfl⟩
      have b4 : Below wr.heap.size wr w4 := by rw [hw4]; exact ext_alloc (ext_alloc (Below.refl _ _) _) _
      have j4 : Bk w4 g9 51 #[.string s, .slice aa an ac, .int .i64 F'] := by rw [hw4, hg9]; exact bk_old _ (bk_new _ _ _)
      have t4 : Bk w4 g10 59 #[.int .i64 0, .int .i64 0, .slice none 0 0, .int .i64 0] := by rw [hw4, hg10]; exact bk_new' _ _ (by simp)
      have r4 := bk_keep b4 HI.out
      have b04 := ext_trans HB.out b4
      have hg2L := HI.out.lt
      have hn2 : g2 ≠ g10 := by omega
      have hn2' : g10 ≠ g2 := by omega
      have dd := do_any xa pa ea aa xn xc pn pc en ec an ac (memK E M (js.take k)) E s args F' w4 (own_sl' (HM.out.below b4)) (HE.out.below b04) (ha.below b04) hok2 hai (HT.out.below b04)
      generalize doF (memK E M (js.take k)) E s args F' = D at dd hmn hdn
      obtain ⟨⟨de, dn, dout, df⟩, M2⟩ := D
      simp only at hmn hdn
      unfold DoRes at dd
      have HW4 := Lib.hid hw4
      have HG9 := Lib.hid hg9
      have HG10 := Lib.hid hg10
      have J4 := Lib.hid j4
      have T4 := Lib.hid t4
      have R4 := Lib.hid r4
      have B4 := Lib.hid b4
      have B04 := Lib.hid b04
      have DO := Lib.hid dd
      have HMN := Lib.hid hmn
      have HDN := Lib.hid hdn
      clear hw4 hg9 hg10 j4 t4 r4 b4 b04 dd hmn hdn hok2 hr hjj ha hac hai hF
      go_upto_region 9 with (fail)
      try rw [← HG10.out]
      try rw [← HG9.out]
      rw [← HW4.out]
      clear e0 e1 e2 hab HW4 HG9
      obtain ⟨c0, c1, c2⟩ := cells3 R4.out
      have rL := R4.out.lt
      obtain ⟨k0, k1, k2⟩ := cells3 J4.out
      have kL := J4.out.lt
      go_upto_region 10 with (go_at_call 18; ((with_reducible refine (DO.out).mono ?_); rintro e w5 ⟨vo, vm, rfl, oo, ox, hb⟩; obtain ⟨oa, on, oc, rfl⟩ := own_shape oo; obtain ⟨ya, yn, yc, rfl⟩ := own_shape ox; have OO5 := Lib.hid oo; have OX5 := Lib.hid ox; have HB5 := Lib.hid hb; have R5 := Lib.hid (bk_keep hb R4.out); have rL := R5.out.lt; have rF := (fun i => R5.out.frozen i); obtain ⟨c0, c1, c2⟩ := cells3 R5.out; have T5 := Lib.hid (bk_keep hb T4.out); have tL5 := T5.out.lt; have tF5 := (fun i => T5.out.frozen i); obtain ⟨t0, t1, t2, t3⟩ := cellsM4 T5.out; clear oo ox hb))
      obtain ⟨w6, hw6⟩ : ∃ w6, w6 = (w5.setCells g10 0 [.int .i64 de, .int .i64 dn, .slice oa on oc, .int .i64 df]).setCell ⟨g2, 0, none⟩ (.slice ya yn yc) := ⟨_, rfl⟩
      first
        | (rw [← hw6])
        | (change Code.wp _ _ _ _ ((w5.setCells g10 0 [.int .i64 de, .int .i64 dn, .slice oa on oc, .int .i64 df]).setCell ⟨g2, 0, none⟩ (.slice ya yn yc)); rw [← hw6])
      have hgs := grown_setCells g10 [.int .i64 de, .int .i64 dn, .slice oa on oc, .int .i64 df] 0 w5
      have t6a := bk_set4 T5.out (.int .i64 de) (.int .i64 dn) (.slice oa on oc) (.int .i64 df)
      have r6a : Bk (w5.setCells g10 0 [.int .i64 de, .int .i64 dn, .slice oa on oc, .int .i64 df]) g2 55 #[.slice xa xn xc, .slice pa pn pc, .slice ea en ec] := bk_grown R5.out hgs (fun e => by injection e with e; omega)
      have t6 : Bk w6 g10 59 #[.int .i64 de, .int .i64 dn, .slice oa on oc, .int .i64 df] := by rw [hw6]; exact bk_cell t6a hn2' _ _
      have r6 : Bk w6 g2 55 #[.slice ya yn yc, .slice pa pn pc, .slice ea en ec] := by rw [hw6]; exact bk_set' r6a rfl
      have hb4s := B4.out.size
      have hbs := HB.out.size
      have b45 := ext_trans B4.out HB5.out
      have keep : ∀ (α : Type) (I : El α) (T : TypeId) (v : Value) (xs : List α), 59 ≠ T → 55 ≠ T → Own w5 w.heap.size T v xs → Own w6 w.heap.size T v xs := by
        intro α I T v xs h1 h2 h
        rw [hw6]
        exact own_cell (h.kept hgs (.inr (own_not_bk h T5.out h1))) r6a h2 _ _
      have ox6 := keep _ _ _ _ _ (by decide) (by decide) (OX5.out.mono (show w.heap.size ≤ w4.heap.size by omega))
      have oo6 := keep _ _ _ _ _ (by decide) (by decide) (OO5.out.mono (show w.heap.size ≤ w4.heap.size by omega))
      have hd6 : Dones w6 w.heap.size rr (donesK E M (js.take k)) := (HD.out.below b45).map fun v xs h => keep _ _ _ _ _ (by decide) (by decide) h
      have hv6 : Own w6 w.heap.size 59 u7 rr := by
        have h := HV.out.below b45
        have hfar : u7.ownBlock ≠ some g10 := fun e => by
          have := (World.ownsRow.lt HV.out g10 e).2
          have := HG10.out
          omega
        rw [hw6]
        exact own_cell (h.kept hgs (.inr hfar)) r6a (by decide) _ _
      have b05 := ext_trans B04.out HB5.out
      have b6a : Below w.heap.size w (w5.setCells g10 0 [.int .i64 de, .int .i64 dn, .slice oa on oc, .int .i64 df]) := b05.grown hgs b05.size (fun i e => by injection e with e; have := HG10.out; omega)
      have b6 : Below w.heap.size w w6 := by rw [hw6]; exact b6a.grown (grown_setCell _ g2 0 _) b6a.size (fun i e => by injection e with e; omega)
      have T6 := Lib.hid t6
      have R6 := Lib.hid r6
      have OX6 := Lib.hid ox6
      have OO6 := Lib.hid oo6
      have HD6 := Lib.hid hd6
      have HV6 := Lib.hid hv6
      have B6 := Lib.hid b6
      clear hw6 hgs t6a r6a t6 r6 b45 keep ox6 oo6 hd6 hv6 b05 b6a b6 c0 c1 c2 rL k0 k1 k2 kL t0 t1 t2 t3 tL5 tF5 rF OO5 OX5 HB5 R5 T5 R4 T4 J4 DO HV HD HI HM B4 B04 HG10
      obtain ⟨t0, t1, t2, t3⟩ := cellsM4 T6.out
      have tL := T6.out.lt
      have hsl6 := lit_done w6 ⟨de, dn, ⟨oa, on, oc⟩, df⟩ 59
      have hva := HV6.out.alloc (.cells #[.int .i64 de, .int .i64 dn, .slice oa on oc, .int .i64 df] 59)
      have c63 : rr.length + 1 ≤ maxLen := by unfold maxLen; omega
      have c47 : (rr.length + 1) * 48 ≤ 140737488355328 := by omega
      have hsb : w.heap.size ≤ (w6.alloc (.cells #[.int .i64 de, .int .i64 dn, .slice oa on oc, .int .i64 df] 59)).heap.size := by have := B6.out.size; simp; omega
      have SL6 := Lib.hid hsl6
      have HVA := Lib.hid hva
      have C63 := Lib.hid c63
      have C47 := Lib.hid c47
      have HSB := Lib.hid hsb
      clear hsl6 hva c63 c47 hsb
      go_wp2_with (at_builtin; refine wpList_append_sl rfl (.tmp 31) (.tmp 33) 67 rfl w.heap.size 59 i0 _ 48 Tryd.underlying67 hi0 hz0 hz1 hz2 rfl u7 rr rfl HVA.out (some ⟨w6.heap.size, 0, none⟩) 1 1 [⟨de, dn, ⟨oa, on, oc⟩, df⟩] rfl SL6.out C63.out C47.out HSB.out ?_; intro v8 w8 hown8 hgr8 hat8; have HO8 := Lib.hid hown8; have HG8 := Lib.hid hgr8; clear hown8 hgr8 hat8)
      go_roundw
      case rel =>
        have a6 : Below w6.heap.size w6 (w6.alloc (.cells #[.int .i64 de, .int .i64 dn, .slice oa on oc, .int .i64 df] 59)) := ext_alloc (Below.refl _ _) _
        have keep : ∀ (α : Type) (I : El α) (T : TypeId) (v : Value) (xs : List α), T ≠ 59 → Own w6 w.heap.size T v xs → Own w8 w.heap.size T v xs := fun α I T v xs hT h => (h.below a6).kept HG8.out (own_parted (h.below a6) HVA.out hT)
        refine ⟨k + 1, rr ++ [⟨de, dn, ⟨oa, on, oc⟩, df⟩], ya, yn, yc, by omega, by go_num, HO8.out, ?_, ?_, ?_, ?_⟩
        · rw [HDN.out]
          exact (HD6.out.map fun v xs h => keep _ _ _ _ _ (by decide) h).snoc ⟨rfl, rfl, rfl, keep _ _ _ _ _ (by decide) OO6.out⟩
        · exact bk_grown (bk_keep a6 R6.out) HG8.out (fun e => by
            have := own_not_bk HVA.out (bk_keep a6 R6.out) (by decide)
            exact this e)
        · rw [HMN.out]
          exact keep _ _ _ _ _ (by decide) OX6.out
        · exact (ext_trans B6.out a6).grown HG8.out HSB.out (fun i e => (World.ownsRow.lt HVA.out i e).1)
      case measure => simp [intOf]; omega
    · have q1 : ¬ ((k : Int) < N) := by omega
      obtain rfl : k = N := by omega
      have hd := HD.out
      have hm := HM.out
      rw [List.take_of_length_le (by omega)] at hd hm
      obtain ⟨vv, hvv⟩ : ∃ v : Value, v = u7 := ⟨_, rfl⟩
      obtain ⟨c0, c1, c2⟩ := cells3 HI.out
      have rL := HI.out.lt
      have HD' := Lib.hid hd
      have HM' := Lib.hid hm
      clear hd hm hvv
      go_wp2
      go_quiet (fail)
      go_wp2
      refine bodyPost_ret (results_tmp3 rfl _ _ _) rfl ?_
      exact ⟨_, _, rr, rfl, HV.out.below (ext_drewN (Below.refl _ _) _), HD'.out.below (ext_drewN (Below.refl _ _) _), HM'.out.below (ext_drewN (Below.refl _ _) _), ext_drewN HB.out _⟩
end Go.Proofs.YtmmmmeeepieemaaDoor
