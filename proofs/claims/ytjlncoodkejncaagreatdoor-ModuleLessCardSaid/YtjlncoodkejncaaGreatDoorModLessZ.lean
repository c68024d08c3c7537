import Derived.Deep.DeepCutAuto
import Derived.Test.YtjlncoodkejncaaGreatDoorBuB
import Derived.Test.YtjlncoodkejncaaGreatDoorHeapAppendZ
import Derived.Test.YtjlncoodkejncaaGreatDoorLessMathZ
import Derived.Test.YtjlncoodkejncaaGreatDoorLiftModuleZ
import Derived.Test.YtjlncoodkejncaaGreatDoorMadeZ
/- A module without one of its exports or imports. -/
namespace Go.Proofs.YtjlncoodkejncaaGreatDoor
open Go Go.RowKit Go.Shelf
set_option linter.unusedVariables false
set_option linter.unusedSimpArgs false
theorem via_tailK {G : Prop} (h : ∃ T : Prop, T ∧ (T → G)) : G := h.elim fun T hT => hT.2 hT.1
theorem sl_dropK {α : Type} [El α] {w : World} {a : Addr} {n : Nat} {xs : List α} (h : Sl w (some a) n xs) {j : Nat} (hj : j ≤ n) : Sl w (some (a.add (j * El.k α))) (n - j) (xs.drop j) := by
  refine ⟨by rw [List.length_drop, h.len], by have := h.max; omega, fun hp => ?_⟩
  obtain ⟨b, e, hb, hc⟩ := h.row (by omega)
  injection e with e
  subst e
  refine ⟨_, rfl, by rw [el_block]; exact hb, fun i u hu => ?_⟩
  rw [el_add]
  rw [cls_drop, List.getElem?_drop] at hu
  exact hc _ u hu
theorem own_slcK {α : Type} [El α] {w : World} {base : Nat} {T : TypeId} {v : Value} {xs : List α} (h : Own w base T v xs) : ∃ ao c, v = .slice ao xs.length c ∧ Sl w ao xs.length xs ∧ xs.length ≤ c := by
  rcases h.form with ⟨rfl, rfl⟩ | ⟨g, cap, rfl, _, _, h4, _⟩
  · exact ⟨none, 0, rfl, Sl.nil _ _, Nat.le_refl _⟩
  · obtain ⟨ao, c, e, hs, _⟩ := h.sl
    injection e with e1 _ e3
    subst e1 e3
    exact ⟨_, _, rfl, hs, h4⟩
theorem info_LabelK : (Tryz.prog.info? 35).map (fun i => (i.zero, i.size, i.bytes)) = some (some (.agg #[.string ⟨#[]⟩, .int .i64 0]), 2, 24) := by kernel_rfl
theorem info_ImportK : (Tryz.prog.info? 45).map (fun i => (i.zero, i.size, i.bytes)) = some (some (.agg #[.string ⟨#[]⟩, .int .i64 0]), 2, 24) := by kernel_rfl
set_option maxHeartbeats 8000000 in
set_option maxRecDepth 100000 in
theorem modLess_bad (x : ModA) (nn : Int) (w : World) (hx : x.ok w) (he : PEnv w) (hno : ¬ ModOk isNameB x.m) : Calls Tryz.prog 3 #[x.val, .int .i64 nn] w fun e w' => e = .returned (.bool true) ∧ Below w.heap.size w w' := by
  obtain ⟨⟨⟨ca, cn, cc⟩, ⟨da, dn, dc⟩, ⟨ea, en, ec⟩, ⟨ia, jn, ic⟩⟩, m⟩ := x
  simp only [ModA.ok, ModA.val] at hx ⊢
  obtain ⟨w1, hw1⟩ : ∃ w1, w1 = w.alloc (.cells #[.slice ca cn cc, .slice da dn dc, .slice ea en ec, .slice ia jn ic] 26) := ⟨_, rfl⟩
  have h1w : Below w.heap.size w w1 := by rw [hw1]; exact ext_alloc (Below.refl _ _) _
  have b1 : Bk w1 w.heap.size 26 #[.slice ca cn cc, .slice da dn dc, .slice ea en ec, .slice ia jn ic] := by rw [hw1]; exact bk_new _ _ _
  obtain ⟨z0, z1, z2, z3⟩ := cellsM4 b1
  have zL := b1.lt
  have ck := fun W (hW : Below w.heap.size w W) => mod_check ⟨⟨ca, cn, cc⟩, ⟨da, dn, dc⟩, ⟨ea, en, ec⟩, ⟨ia, jn, ic⟩⟩ m W (hx.below hW)
  have HW1 := Lib.hid hw1
  have H1 := Lib.hid h1w
  have M1 := Lib.hid b1
  have HE := Lib.hid he
  have CKC := Lib.hid ck
  have HH := Lib.hid hx
  clear hw1 h1w b1 he ck
  go_enter Tryz.func3, Tryz.ntmps3
  go_upto_region 1 with (fail)
  rw [← HW1.out]
  go_upto_region 2 with (first
    | (go_at_call 8; ((with_reducible refine (made_any _ (HE.out.below H1.out)).mono ?_); rintro e w2 ⟨rfl, hb2⟩; have HB2 := Lib.hid (ext_trans H1.out hb2); have M2 := Lib.hid (bk_keep hb2 M1.out); (try clear z0 z1 z2 z3 zL); obtain ⟨z0, z1, z2, z3⟩ := cellsM4 M2.out; have zL := M2.out.lt; clear hb2))
    | (go_at_call 9; ((with_reducible refine (CKC.out _ HB2.out).mono ?_); rintro e w5 ⟨er, rfl, her, hb5⟩; have hne : er ≠ 0 := fun h => hno (her.1 h); have q1 : (er != 0) = true := (by simpa using hne); have q2 : (er == 0) = false := (by simpa using hne); have HB5 := Lib.hid (ext_trans HB2.out hb5); clear her hb5)))
  go_wp2_with (go_at_call 8; ((with_reducible refine (made_any _ (HE.out.below HB5.out)).mono ?_); rintro e w6 ⟨rfl, hb6⟩; have HB6 := Lib.hid (ext_trans HB5.out hb6); clear hb6))
  go_ret
  exact ⟨rfl, HB6.out⟩
set_option maxHeartbeats 8000000 in
set_option maxRecDepth 100000 in
theorem modLess_none (x : ModA) (nn : Int) (w : World) (hx : x.ok w) (he : PEnv w) (hn : I64 nn) (hok : ModOk isNameB x.m) (h0 : x.r.ex.n = 0) : Calls Tryz.prog 3 #[x.val, .int .i64 nn] w fun e w' => e = .returned (.bool true) ∧ Below w.heap.size w w' := by
  obtain ⟨⟨⟨ca, cn, cc⟩, ⟨da, dn, dc⟩, ⟨ea, en, ec⟩, ⟨ia, jn, ic⟩⟩, m⟩ := x
  simp only [ModA.ok, ModA.val] at hx ⊢
  have h0 : en = 0 := h0
  subst h0
  obtain ⟨w1, hw1⟩ : ∃ w1, w1 = w.alloc (.cells #[.slice ca cn cc, .slice da dn dc, .slice ea 0 ec, .slice ia jn ic] 26) := ⟨_, rfl⟩
  have h1w : Below w.heap.size w w1 := by rw [hw1]; exact ext_alloc (Below.refl _ _) _
  have b1 : Bk w1 w.heap.size 26 #[.slice ca cn cc, .slice da dn dc, .slice ea 0 ec, .slice ia jn ic] := by rw [hw1]; exact bk_new _ _ _
  obtain ⟨z0, z1, z2, z3⟩ := cellsM4 b1
  have zL := b1.lt
  have ck := fun W (hW : Below w.heap.size w W) => mod_check ⟨⟨ca, cn, cc⟩, ⟨da, dn, dc⟩, ⟨ea, 0, ec⟩, ⟨ia, jn, ic⟩⟩ m W (hx.below hW)
  have HW1 := Lib.hid hw1
  have H1 := Lib.hid h1w
  have M1 := Lib.hid b1
  have HE := Lib.hid he
  have CKC := Lib.hid ck
  have HH := Lib.hid hx
  clear hw1 h1w b1 he ck
  have len2 : m.ex.length = 0 := HH.out.ex.len
  have len3 : m.im.length = jn := HH.out.im.len
  have el := hok.l3
  have il := hok.l4
  have ele : 0 ≤ ec := HH.out.le.2.2.1
  have ile : jn ≤ ic := HH.out.le.2.2.2
  have HOK := Lib.hid hok
  rw [len2] at el
  rw [len3] at il
  clear hok hx
  go_enter Tryz.func3, Tryz.ntmps3
  go_upto_region 1 with (fail)
  rw [← HW1.out]
  go_upto_region 3 with (first
    | (go_at_call 8; ((with_reducible refine (made_any _ (HE.out.below H1.out)).mono ?_); rintro e w2 ⟨rfl, hb2⟩; have HB2 := Lib.hid (ext_trans H1.out hb2); have M2 := Lib.hid (bk_keep hb2 M1.out); (try clear z0 z1 z2 z3 zL); obtain ⟨z0, z1, z2, z3⟩ := cellsM4 M2.out; have zL := M2.out.lt; clear hb2))
    | (go_at_call 9; ((with_reducible refine (CKC.out _ HB2.out).mono ?_); rintro e w5 ⟨er5, rfl, her5, hb5⟩; obtain rfl : er5 = 0 := her5.2 HOK.out; have HB5 := Lib.hid (ext_trans HB2.out hb5); have M5 := Lib.hid (bk_keep hb5 M2.out); clear her5 hb5)))
  clear z0 z1 z2 z3 zL
  obtain ⟨z0, z1, z2, z3⟩ := cellsM4 M5.out
  have zL := M5.out.lt
  go_upto_region 10 with (fail)
  clear z0 z1 z2 z3 zL
  rcases Nat.eq_zero_or_pos jn with hj | hj
  · subst hj
    obtain ⟨z0, z1, z2, z3⟩ := cellsM4 M5.out
    have zL := M5.out.lt
    go_wp2
    go_ret
    exact ⟨rfl, HB5.out⟩
  · have hj0 : (0 : Int) < (jn : Int) := by omega
    have hk0 := Int.emod_nonneg nn (show ((jn : Nat) : Int) ≠ 0 by omega)
    have hk1 := Int.emod_lt_of_pos nn (show (0 : Int) < (jn : Nat) by omega)
    obtain ⟨ki, hka⟩ := Int.eq_ofNat_of_zero_le hk0
    rw [hka] at hk1
    have hk : ki < jn := by omega
    have rs := fun W => rest_any nn (jn : Int) W (by omega) (by omega)
    rw [hka] at rs
    have RS := Lib.hid rs
    clear rs hka hk0 hk1
    obtain ⟨z0, z1, z2, z3⟩ := cellsM4 M5.out
    have zL := M5.out.lt
    go_upto_region 14 with (go_at_call 10; ((with_reducible refine (RS.out _).mono ?_); rintro e w' ⟨rfl, hw'⟩; subst w'))
    obtain ⟨w3, hw3⟩ : ∃ w3, w3 = w5.alloc (.cells #[.slice ca cn cc, .slice da dn dc, .slice ea 0 ec, .slice ia jn ic] 26) := ⟨_, rfl⟩
    obtain ⟨g3, hg3⟩ : ∃ g3, w5.heap.size = g3 := ⟨_, rfl⟩
    rw [← hw3]
    try rw [hg3]
    have r3 : Below w5.heap.size w5 w3 := by rw [hw3]; exact ext_alloc (Below.refl _ _) _
    have b3 : Below w.heap.size w w3 := ext_trans HB5.out r3
    have m3 : Bk w3 w.heap.size 26 #[.slice ca cn cc, .slice da dn dc, .slice ea 0 ec, .slice ia jn ic] := bk_keep r3 M5.out
    have x3 : Bk w3 g3 26 #[.slice ca cn cc, .slice da dn dc, .slice ea 0 ec, .slice ia jn ic] := by rw [hw3, ← hg3]; exact bk_new _ _ _
    have hne : g3 ≠ w.heap.size := by have := M5.out.lt; omega
    have hle : w.heap.size ≤ g3 := by have := M5.out.lt; omega
    clear hw3 hg3 r3 z0 z1 z2 z3 zL
    obtain ⟨iad, hao, _⟩ := HH.out.im.row (by show 0 < jn; omega)
    simp only at hao
    subst hao
    have hs3 : Sl w3 (some iad) jn m.im := HH.out.im.below b3
    have hlr := hs3.len
    obtain ⟨i0, i1, iz0, iz1, iz2⟩ := info_parts info_ImportK
    obtain ⟨v4, w4, hr1, ho4, hg4, _⟩ := run_append_sl (P := Tryz.prog) w3.drew w3.heap.size 24 24 45 i0 _ 24 Tryz.underlying24 i1 iz0 iz1 iz2 rfl (.slice none 0 0) ([] : List NamV) (Own.nil _ _ _) (some iad) ki ic (m.im.take ki) ((sl_front hs3 (by omega)).drew) (by unfold maxLen; simp; omega) (by simp; omega) (Nat.le_refl _)
    rw [List.nil_append] at ho4
    have hd4 : Sl w4 (some (iad.add ((ki + 1) * 2))) (jn - (ki + 1)) (m.im.drop (ki + 1)) := (sl_dropK hs3 (j := ki + 1) (by omega)).drew.grown hg4 (fun a _ _ => by simp [Value.ownBlock])
    have hs4 : w3.heap.size ≤ w4.heap.size := hg4.size
    have htl : (m.im.take ki).length = ki := by rw [List.length_take]; omega
    have b34 : Below w3.heap.size w3 w4 := (show Below w3.heap.size w3 w3.drew from ext_drew (Below.refl _ _)).grown hg4 (by simp) (fun ki hk => by simp [Value.ownBlock] at hk)
    have hw1 : IntKind.i64.wrap ((ki : Int) + 1) = (ki : Int) + 1 := by rw [IntKind.wrap_i64]; omega
    have hq1 : (0 : Int) ≤ (ki : Int) + 1 := by omega
    have htn : ((ki : Int) + 1).toNat = ki + 1 := by omega
    have hq3 : (ki : Int) + 1 ≤ (jn : Int) := by omega
    have hq6 : (ki : Int) ≤ (ic : Int) := by omega
    have hq7 : (0 : Int) ≤ (ki : Int) := by omega
    have hq8 : ki ≤ ic := by omega
    have hq9 : (ki : Int) ≤ (jn : Int) := by omega
    have hq10 : ki ≤ jn := by omega
    have hq11 : ki + 1 ≤ jn := by omega
    obtain ⟨z0, z1, z2, z3⟩ := cellsM4 m3
    have zL := m3.lt
    by_cases hcap : ic = ki + 1
    · have hkl : jn = ki + 1 := by omega
      have hdn : m.im.drop (ki + 1) = [] := List.drop_of_length_le (by omega)
      obtain ⟨v5, w5, hr2, ho5, hg5, _⟩ := run_append_sl (P := Tryz.prog) w4 w3.heap.size 24 24 45 i0 _ 24 Tryz.underlying24 i1 iz0 iz1 iz2 rfl v4 (m.im.take ki) ho4 (some iad) 0 0 ([] : List NamV) (Sl.nil _ _) (by unfold maxLen; rw [htl]; omega) (by rw [htl]; omega) hs4
      rw [← hdn] at ho5
      subst hcap
      have hr6 : (ki : Int) ≤ (ki : Int) + 1 := by omega
      have hr8 : ki ≤ ki + 1 := by omega
      have hr9 : ki + 1 ≤ 9223372036854775807 := by omega
      have b35 : Below w3.heap.size w3 w5 := b34.grown hg5 b34.size (fun g hg => (own_span ho4 hg).1)
      have X5 := bk_keep b35 x3
      obtain ⟨y0, y1, y2, y3⟩ := cellsM4 X5
      have yL := X5.lt
      have yF := fun i => X5.frozen i
      obtain ⟨u0_, u1_, u2_, u3_⟩ := cellsM4 (bk_keep b34 m3)
      have uL_ := (bk_keep b34 m3).lt
      obtain ⟨va, vc, rfl, hv5, vle⟩ := own_slcK ho5
      obtain ⟨N1, hN1⟩ : ∃ N1, (m.im.take ki ++ m.im.drop (ki + 1)).length = N1 := ⟨_, rfl⟩
      rw [hN1] at hr2 hv5 vle
      obtain ⟨w6, hw6⟩ : ∃ w6, w6 = w5.setCell ⟨g3, 3, none⟩ (.slice va N1 vc) := ⟨_, rfl⟩
      have X6 : Bk w6 g3 26 #[.slice ca cn cc, .slice da dn dc, .slice ea 0 ec, .slice va N1 vc] := by rw [hw6]; exact bk_set' X5 rfl
      have hv6 : Sl w6 va N1 (m.im.take ki ++ m.im.drop (ki + 1)) := by
        rw [hw6]
        have ho6 := own_cell ho5 X5 (by decide) 3 (.slice va N1 vc)
        obtain ⟨_, _, e6, h6, _⟩ := ho6.sl
        injection e6 with e6 e7 e8
        subst e6
        rw [hN1] at h6
        exact h6
      have b6 : Below w.heap.size w w6 := by
        rw [hw6]
        exact (ext_trans b3 b35).setCell (by show w.heap.size ≤ g3; exact hle) _
      have M6 := Lib.hid (show Bk w6 w.heap.size 26 #[.slice ca cn cc, .slice da dn dc, .slice ea 0 ec, .slice (some iad) jn (ki + 1)] by rw [hw6]; exact bk_far' _ (fun e => hne e.symm) (bk_keep b35 m3))
      have hh6 := HH.out.below b6
      have ck6 := mod_check ⟨⟨ca, cn, cc⟩, ⟨da, dn, dc⟩, ⟨ea, 0, ec⟩, ⟨va, N1, vc⟩⟩ { m with im := m.im.take ki ++ m.im.drop (ki + 1) } w6 ⟨hh6.code, hh6.data, hh6.ex, hv6, ⟨hh6.le.1, hh6.le.2.1, hh6.le.2.2.1, vle⟩, hh6.wc, hh6.wd, hh6.we, fun x hx => hh6.wi x ((cut_sub m.im ki).subset hx)⟩
      have hok6 := HOK.out.less_im ki
      have CK6 := Lib.hid ck6
      have HOK6 := Lib.hid hok6
      have HR1 := Lib.hid hr1
      have HR2 := Lib.hid hr2
      have HW6 := Lib.hid hw6
      have HB6 := Lib.hid b6
      have X6H := Lib.hid X6
      clear hr1 ho4 hg4 hd4 hs4 htl hr2 ho5 hg5 b3 hs3 i1 iz0 iz1 iz2 hv5 vle X5 X6 hv6 b6 hh6 ck6 hok6 hw6 b34 b35 m3 x3
      apply via_tailK
      apply Exists.intro
      apply And.intro
      rotate_left
      · intro tail
        go_region_law (first
          | (refine step_append_run2 rfl _ _ 24 24 rfl (.slice none 0 0) (.slice (some iad) ki (ki + 1)) (by simp [Act.eval, Act.put]) (by simp [Act.eval, Act.put]) HR1.out ?_)
          | (refine step_append_run2 rfl _ _ 24 24 rfl v4 (.slice (some iad) 0 0) (by simp [Act.eval, Act.put]) (by simp [Act.eval, Act.put]) HR2.out ?_))
        all_goals with_reducible exact tail
      rw [← HW6.out]
      try clear hkl
      clear z0 z1 z2 z3 zL y0 y1 y2 y3 yL yF u0_ u1_ u2_ u3_ uL_ HR1 HR2 HW6
      obtain ⟨x0, x1, x2, x3⟩ := cellsM4 X6H.out
      have xL := X6H.out.lt
      go_wp2_with (go_at_call 9; ((with_reducible refine (CK6.out).mono ?_); rintro e w8 ⟨er8, rfl, her8, hb8⟩; obtain rfl : er8 = 0 := her8.2 HOK6.out; have HB8 := Lib.hid (ext_trans HB6.out hb8); have M8 := Lib.hid (bk_keep hb8 M6.out); clear her8 hb8))
      go_ret
      exact ⟨rfl, HB8.out⟩
    · have hq4 : ¬ (ic = ki + 1) := hcap
      have hq5 : ¬ (ic = 0) := by omega
      obtain ⟨v5, w5, hr2, ho5, hg5, _⟩ := run_append_sl (P := Tryz.prog) w4 w3.heap.size 24 24 45 i0 _ 24 Tryz.underlying24 i1 iz0 iz1 iz2 rfl v4 (m.im.take ki) ho4 (some (iad.add ((ki + 1) * 2))) (jn - (ki + 1)) (ic - (ki + 1)) (m.im.drop (ki + 1)) hd4 (by unfold maxLen; rw [htl]; omega) (by rw [htl]; omega) hs4
      have b35 : Below w3.heap.size w3 w5 := b34.grown hg5 b34.size (fun g hg => (own_span ho4 hg).1)
      have X5 := bk_keep b35 x3
      obtain ⟨y0, y1, y2, y3⟩ := cellsM4 X5
      have yL := X5.lt
      have yF := fun i => X5.frozen i
      obtain ⟨u0_, u1_, u2_, u3_⟩ := cellsM4 (bk_keep b34 m3)
      have uL_ := (bk_keep b34 m3).lt
      obtain ⟨va, vc, rfl, hv5, vle⟩ := own_slcK ho5
      obtain ⟨N1, hN1⟩ : ∃ N1, (m.im.take ki ++ m.im.drop (ki + 1)).length = N1 := ⟨_, rfl⟩
      rw [hN1] at hr2 hv5 vle
      obtain ⟨w6, hw6⟩ : ∃ w6, w6 = w5.setCell ⟨g3, 3, none⟩ (.slice va N1 vc) := ⟨_, rfl⟩
      have X6 : Bk w6 g3 26 #[.slice ca cn cc, .slice da dn dc, .slice ea 0 ec, .slice va N1 vc] := by rw [hw6]; exact bk_set' X5 rfl
      have hv6 : Sl w6 va N1 (m.im.take ki ++ m.im.drop (ki + 1)) := by
        rw [hw6]
        have ho6 := own_cell ho5 X5 (by decide) 3 (.slice va N1 vc)
        obtain ⟨_, _, e6, h6, _⟩ := ho6.sl
        injection e6 with e6 e7 e8
        subst e6
        rw [hN1] at h6
        exact h6
      have b6 : Below w.heap.size w w6 := by
        rw [hw6]
        exact (ext_trans b3 b35).setCell (by show w.heap.size ≤ g3; exact hle) _
      have M6 := Lib.hid (show Bk w6 w.heap.size 26 #[.slice ca cn cc, .slice da dn dc, .slice ea 0 ec, .slice (some iad) jn ic] by rw [hw6]; exact bk_far' _ (fun e => hne e.symm) (bk_keep b35 m3))
      have hh6 := HH.out.below b6
      have ck6 := mod_check ⟨⟨ca, cn, cc⟩, ⟨da, dn, dc⟩, ⟨ea, 0, ec⟩, ⟨va, N1, vc⟩⟩ { m with im := m.im.take ki ++ m.im.drop (ki + 1) } w6 ⟨hh6.code, hh6.data, hh6.ex, hv6, ⟨hh6.le.1, hh6.le.2.1, hh6.le.2.2.1, vle⟩, hh6.wc, hh6.wd, hh6.we, fun x hx => hh6.wi x ((cut_sub m.im ki).subset hx)⟩
      have hok6 := HOK.out.less_im ki
      have CK6 := Lib.hid ck6
      have HOK6 := Lib.hid hok6
      have HR1 := Lib.hid hr1
      have HR2 := Lib.hid hr2
      have HW6 := Lib.hid hw6
      have HB6 := Lib.hid b6
      have X6H := Lib.hid X6
      clear hr1 ho4 hg4 hd4 hs4 htl hr2 ho5 hg5 b3 hs3 i1 iz0 iz1 iz2 hv5 vle X5 X6 hv6 b6 hh6 ck6 hok6 hw6 b34 b35 m3 x3
      apply via_tailK
      apply Exists.intro
      apply And.intro
      rotate_left
      · intro tail
        go_region_law (first
          | (refine step_append_run2 rfl _ _ 24 24 rfl (.slice none 0 0) (.slice (some iad) ki (ic)) (by simp [Act.eval, Act.put]) (by simp [Act.eval, Act.put]) HR1.out ?_)
          | (refine step_append_run2 rfl _ _ 24 24 rfl v4 (.slice (some (iad.add ((ki + 1) * 2))) (jn - (ki + 1)) (ic - (ki + 1))) (by simp [Act.eval, Act.put]) (by simp [Act.eval, Act.put]) HR2.out ?_))
        all_goals with_reducible exact tail
      rw [← HW6.out]
      try clear hkl
      clear z0 z1 z2 z3 zL y0 y1 y2 y3 yL yF u0_ u1_ u2_ u3_ uL_ HR1 HR2 HW6
      obtain ⟨x0, x1, x2, x3⟩ := cellsM4 X6H.out
      have xL := X6H.out.lt
      go_wp2_with (go_at_call 9; ((with_reducible refine (CK6.out).mono ?_); rintro e w8 ⟨er8, rfl, her8, hb8⟩; obtain rfl : er8 = 0 := her8.2 HOK6.out; have HB8 := Lib.hid (ext_trans HB6.out hb8); have M8 := Lib.hid (bk_keep hb8 M6.out); clear her8 hb8))
      go_ret
      exact ⟨rfl, HB8.out⟩
set_option maxHeartbeats 8000000 in
set_option maxRecDepth 100000 in
theorem modLess_some (x : ModA) (nn : Int) (w : World) (hx : x.ok w) (he : PEnv w) (hn : I64 nn) (hok : ModOk isNameB x.m) (h0 : 0 < x.r.ex.n) : Calls Tryz.prog 3 #[x.val, .int .i64 nn] w fun e w' => e = .returned (.bool true) ∧ Below w.heap.size w w' := by
  obtain ⟨⟨⟨ca, cn, cc⟩, ⟨da, dn, dc⟩, ⟨ea, en, ec⟩, ⟨ia, jn, ic⟩⟩, m⟩ := x
  simp only [ModA.ok, ModA.val] at hx ⊢
  obtain ⟨w1, hw1⟩ : ∃ w1, w1 = w.alloc (.cells #[.slice ca cn cc, .slice da dn dc, .slice ea en ec, .slice ia jn ic] 26) := ⟨_, rfl⟩
  have h1w : Below w.heap.size w w1 := by rw [hw1]; exact ext_alloc (Below.refl _ _) _
  have b1 : Bk w1 w.heap.size 26 #[.slice ca cn cc, .slice da dn dc, .slice ea en ec, .slice ia jn ic] := by rw [hw1]; exact bk_new _ _ _
  obtain ⟨z0, z1, z2, z3⟩ := cellsM4 b1
  have zL := b1.lt
  have ck := fun W (hW : Below w.heap.size w W) => mod_check ⟨⟨ca, cn, cc⟩, ⟨da, dn, dc⟩, ⟨ea, en, ec⟩, ⟨ia, jn, ic⟩⟩ m W (hx.below hW)
  have HW1 := Lib.hid hw1
  have H1 := Lib.hid h1w
  have M1 := Lib.hid b1
  have HE := Lib.hid he
  have CKC := Lib.hid ck
  have HH := Lib.hid hx
  clear hw1 h1w b1 he ck
  have len2 : m.ex.length = en := HH.out.ex.len
  have len3 : m.im.length = jn := HH.out.im.len
  have el := hok.l3
  have il := hok.l4
  have ele : en ≤ ec := HH.out.le.2.2.1
  have ile : jn ≤ ic := HH.out.le.2.2.2
  have HOK := Lib.hid hok
  rw [len2] at el
  rw [len3] at il
  clear hok hx
  go_enter Tryz.func3, Tryz.ntmps3
  go_upto_region 1 with (fail)
  rw [← HW1.out]
  go_upto_region 3 with (first
    | (go_at_call 8; ((with_reducible refine (made_any _ (HE.out.below H1.out)).mono ?_); rintro e w2 ⟨rfl, hb2⟩; have HB2 := Lib.hid (ext_trans H1.out hb2); have M2 := Lib.hid (bk_keep hb2 M1.out); (try clear z0 z1 z2 z3 zL); obtain ⟨z0, z1, z2, z3⟩ := cellsM4 M2.out; have zL := M2.out.lt; clear hb2))
    | (go_at_call 9; ((with_reducible refine (CKC.out _ HB2.out).mono ?_); rintro e w5 ⟨er5, rfl, her5, hb5⟩; obtain rfl : er5 = 0 := her5.2 HOK.out; have HB5 := Lib.hid (ext_trans HB2.out hb5); have M5 := Lib.hid (bk_keep hb5 M2.out); clear her5 hb5)))
  clear z0 z1 z2 z3 zL
  have h0 : 0 < en := h0
  have hj0 : (0 : Int) < (en : Int) := by omega
  have hk0 := Int.emod_nonneg nn (show ((en : Nat) : Int) ≠ 0 by omega)
  have hk1 := Int.emod_lt_of_pos nn (show (0 : Int) < (en : Nat) by omega)
  obtain ⟨ke, hka⟩ := Int.eq_ofNat_of_zero_le hk0
  rw [hka] at hk1
  have hk : ke < en := by omega
  have rs := fun W => rest_any nn (en : Int) W (by omega) (by omega)
  rw [hka] at rs
  have RS := Lib.hid rs
  clear rs hka hk0 hk1
  obtain ⟨z0, z1, z2, z3⟩ := cellsM4 M5.out
  have zL := M5.out.lt
  go_upto_region 7 with (go_at_call 10; ((with_reducible refine (RS.out _).mono ?_); rintro e w' ⟨rfl, hw'⟩; subst w'))
  obtain ⟨w3, hw3⟩ : ∃ w3, w3 = w5.alloc (.cells #[.slice ca cn cc, .slice da dn dc, .slice ea en ec, .slice ia jn ic] 26) := ⟨_, rfl⟩
  obtain ⟨g3, hg3⟩ : ∃ g3, w5.heap.size = g3 := ⟨_, rfl⟩
  rw [← hw3]
  try rw [hg3]
  have r3 : Below w5.heap.size w5 w3 := by rw [hw3]; exact ext_alloc (Below.refl _ _) _
  have b3 : Below w.heap.size w w3 := ext_trans HB5.out r3
  have m3 : Bk w3 w.heap.size 26 #[.slice ca cn cc, .slice da dn dc, .slice ea en ec, .slice ia jn ic] := bk_keep r3 M5.out
  have x3 : Bk w3 g3 26 #[.slice ca cn cc, .slice da dn dc, .slice ea en ec, .slice ia jn ic] := by rw [hw3, ← hg3]; exact bk_new _ _ _
  have hne : g3 ≠ w.heap.size := by have := M5.out.lt; omega
  have hle : w.heap.size ≤ g3 := by have := M5.out.lt; omega
  clear hw3 hg3 r3 z0 z1 z2 z3 zL
  obtain ⟨ead, hao, _⟩ := HH.out.ex.row (by show 0 < en; omega)
  simp only at hao
  subst hao
  have hs3 : Sl w3 (some ead) en m.ex := HH.out.ex.below b3
  have hlr := hs3.len
  obtain ⟨i0, i1, iz0, iz1, iz2⟩ := info_parts info_LabelK
  obtain ⟨v4, w4, hr1, ho4, hg4, _⟩ := run_append_sl (P := Tryz.prog) w3.drew w3.heap.size 23 23 35 i0 _ 24 Tryz.underlying23 i1 iz0 iz1 iz2 rfl (.slice none 0 0) ([] : List NamV) (Own.nil _ _ _) (some ead) ke ec (m.ex.take ke) ((sl_front hs3 (by omega)).drew) (by unfold maxLen; simp; omega) (by simp; omega) (Nat.le_refl _)
  rw [List.nil_append] at ho4
  have hd4 : Sl w4 (some (ead.add ((ke + 1) * 2))) (en - (ke + 1)) (m.ex.drop (ke + 1)) := (sl_dropK hs3 (j := ke + 1) (by omega)).drew.grown hg4 (fun a _ _ => by simp [Value.ownBlock])
  have hs4 : w3.heap.size ≤ w4.heap.size := hg4.size
  have htl : (m.ex.take ke).length = ke := by rw [List.length_take]; omega
  have b34 : Below w3.heap.size w3 w4 := (show Below w3.heap.size w3 w3.drew from ext_drew (Below.refl _ _)).grown hg4 (by simp) (fun ke hk => by simp [Value.ownBlock] at hk)
  have hw1 : IntKind.i64.wrap ((ke : Int) + 1) = (ke : Int) + 1 := by rw [IntKind.wrap_i64]; omega
  have hq1 : (0 : Int) ≤ (ke : Int) + 1 := by omega
  have htn : ((ke : Int) + 1).toNat = ke + 1 := by omega
  have hq3 : (ke : Int) + 1 ≤ (en : Int) := by omega
  have hq6 : (ke : Int) ≤ (ec : Int) := by omega
  have hq7 : (0 : Int) ≤ (ke : Int) := by omega
  have hq8 : ke ≤ ec := by omega
  have hq9 : (ke : Int) ≤ (en : Int) := by omega
  have hq10 : ke ≤ en := by omega
  have hq11 : ke + 1 ≤ en := by omega
  obtain ⟨z0, z1, z2, z3⟩ := cellsM4 m3
  have zL := m3.lt
  by_cases hcap : ec = ke + 1
  · have hkl : en = ke + 1 := by omega
    have hdn : m.ex.drop (ke + 1) = [] := List.drop_of_length_le (by omega)
    obtain ⟨v5, w5, hr2, ho5, hg5, _⟩ := run_append_sl (P := Tryz.prog) w4 w3.heap.size 23 23 35 i0 _ 24 Tryz.underlying23 i1 iz0 iz1 iz2 rfl v4 (m.ex.take ke) ho4 (some ead) 0 0 ([] : List NamV) (Sl.nil _ _) (by unfold maxLen; rw [htl]; omega) (by rw [htl]; omega) hs4
    rw [← hdn] at ho5
    subst hcap
    have hr6 : (ke : Int) ≤ (ke : Int) + 1 := by omega
    have hr8 : ke ≤ ke + 1 := by omega
    have hr9 : ke + 1 ≤ 9223372036854775807 := by omega
    have b35 : Below w3.heap.size w3 w5 := b34.grown hg5 b34.size (fun g hg => (own_span ho4 hg).1)
    have X5 := bk_keep b35 x3
    obtain ⟨y0, y1, y2, y3⟩ := cellsM4 X5
    have yL := X5.lt
    have yF := fun i => X5.frozen i
    obtain ⟨u0_, u1_, u2_, u3_⟩ := cellsM4 (bk_keep b34 m3)
    have uL_ := (bk_keep b34 m3).lt
    obtain ⟨va, vc, rfl, hv5, vle⟩ := own_slcK ho5
    obtain ⟨N1, hN1⟩ : ∃ N1, (m.ex.take ke ++ m.ex.drop (ke + 1)).length = N1 := ⟨_, rfl⟩
    rw [hN1] at hr2 hv5 vle
    obtain ⟨w6, hw6⟩ : ∃ w6, w6 = w5.setCell ⟨g3, 2, none⟩ (.slice va N1 vc) := ⟨_, rfl⟩
    have X6 : Bk w6 g3 26 #[.slice ca cn cc, .slice da dn dc, .slice va N1 vc, .slice ia jn ic] := by rw [hw6]; exact bk_set' X5 rfl
    have hv6 : Sl w6 va N1 (m.ex.take ke ++ m.ex.drop (ke + 1)) := by
      rw [hw6]
      have ho6 := own_cell ho5 X5 (by decide) 2 (.slice va N1 vc)
      obtain ⟨_, _, e6, h6, _⟩ := ho6.sl
      injection e6 with e6 e7 e8
      subst e6
      rw [hN1] at h6
      exact h6
    have b6 : Below w.heap.size w w6 := by
      rw [hw6]
      exact (ext_trans b3 b35).setCell (by show w.heap.size ≤ g3; exact hle) _
    have M6 := Lib.hid (show Bk w6 w.heap.size 26 #[.slice ca cn cc, .slice da dn dc, .slice (some ead) en (ke + 1), .slice ia jn ic] by rw [hw6]; exact bk_far' _ (fun e => hne e.symm) (bk_keep b35 m3))
    have hh6 := HH.out.below b6
    have ck6 := mod_check ⟨⟨ca, cn, cc⟩, ⟨da, dn, dc⟩, ⟨va, N1, vc⟩, ⟨ia, jn, ic⟩⟩ { m with ex := m.ex.take ke ++ m.ex.drop (ke + 1) } w6 ⟨hh6.code, hh6.data, hv6, hh6.im, ⟨hh6.le.1, hh6.le.2.1, vle, hh6.le.2.2.2⟩, hh6.wc, hh6.wd, fun x hx => hh6.we x ((cut_sub m.ex ke).subset hx), hh6.wi⟩
    have hok6 := HOK.out.less_ex ke
    have CK6 := Lib.hid ck6
    have HOK6 := Lib.hid hok6
    have HR1 := Lib.hid hr1
    have HR2 := Lib.hid hr2
    have HW6 := Lib.hid hw6
    have HB6 := Lib.hid b6
    have X6H := Lib.hid X6
    clear hr1 ho4 hg4 hd4 hs4 htl hr2 ho5 hg5 b3 hs3 i1 iz0 iz1 iz2 hv5 vle X5 X6 hv6 b6 hh6 ck6 hok6 hw6 b34 b35 m3 x3
    apply via_tailK
    apply Exists.intro
    apply And.intro
    rotate_left
    · intro tail
      go_region_law (first
        | (refine step_append_run2 rfl _ _ 23 23 rfl (.slice none 0 0) (.slice (some ead) ke (ke + 1)) (by simp [Act.eval, Act.put]) (by simp [Act.eval, Act.put]) HR1.out ?_)
        | (refine step_append_run2 rfl _ _ 23 23 rfl v4 (.slice (some ead) 0 0) (by simp [Act.eval, Act.put]) (by simp [Act.eval, Act.put]) HR2.out ?_))
      all_goals with_reducible exact tail
    rw [← HW6.out]
    try clear hkl
    clear z0 z1 z2 z3 zL y0 y1 y2 y3 yL yF u0_ u1_ u2_ u3_ uL_ HR1 HR2 HW6
    obtain ⟨x0, x1, x2, x3⟩ := cellsM4 X6H.out
    have xL := X6H.out.lt
    go_upto_region 10 with (go_at_call 9; ((with_reducible refine (CK6.out).mono ?_); rintro e w7 ⟨er7, rfl, her7, hb7⟩; obtain rfl : er7 = 0 := her7.2 HOK6.out; have HB7 := Lib.hid (ext_trans HB6.out hb7); have M7 := Lib.hid (bk_keep hb7 M6.out); clear her7 hb7))
    clear x0 x1 x2 x3 xL X6H HOK6 CK6 HB6 M6
    rcases Nat.eq_zero_or_pos jn with hj | hj
    · subst hj
      obtain ⟨z0, z1, z2, z3⟩ := cellsM4 M7.out
      have zL := M7.out.lt
      go_wp2
      go_ret
      exact ⟨rfl, HB7.out⟩
    · have hj0 : (0 : Int) < (jn : Int) := by omega
      have hk0 := Int.emod_nonneg nn (show ((jn : Nat) : Int) ≠ 0 by omega)
      have hk1 := Int.emod_lt_of_pos nn (show (0 : Int) < (jn : Nat) by omega)
      obtain ⟨ki, hka⟩ := Int.eq_ofNat_of_zero_le hk0
      rw [hka] at hk1
      have hk : ki < jn := by omega
      have rs := fun W => rest_any nn (jn : Int) W (by omega) (by omega)
      rw [hka] at rs
      have RS := Lib.hid rs
      clear rs hka hk0 hk1
      obtain ⟨z0, z1, z2, z3⟩ := cellsM4 M7.out
      have zL := M7.out.lt
      go_upto_region 14 with (go_at_call 10; ((with_reducible refine (RS.out _).mono ?_); rintro e w' ⟨rfl, hw'⟩; subst w'))
      obtain ⟨w3, hw3⟩ : ∃ w3, w3 = w7.alloc (.cells #[.slice ca cn cc, .slice da dn dc, .slice (some ead) en (ke + 1), .slice ia jn ic] 26) := ⟨_, rfl⟩
      obtain ⟨g3, hg3⟩ : ∃ g3, w7.heap.size = g3 := ⟨_, rfl⟩
      rw [← hw3]
      try rw [hg3]
      have r3 : Below w7.heap.size w7 w3 := by rw [hw3]; exact ext_alloc (Below.refl _ _) _
      have b3 : Below w.heap.size w w3 := ext_trans HB7.out r3
      have m3 : Bk w3 w.heap.size 26 #[.slice ca cn cc, .slice da dn dc, .slice (some ead) en (ke + 1), .slice ia jn ic] := bk_keep r3 M7.out
      have x3 : Bk w3 g3 26 #[.slice ca cn cc, .slice da dn dc, .slice (some ead) en (ke + 1), .slice ia jn ic] := by rw [hw3, ← hg3]; exact bk_new _ _ _
      have hne : g3 ≠ w.heap.size := by have := M7.out.lt; omega
      have hle : w.heap.size ≤ g3 := by have := M7.out.lt; omega
      clear hw3 hg3 r3 z0 z1 z2 z3 zL
      obtain ⟨iad, hao, _⟩ := HH.out.im.row (by show 0 < jn; omega)
      simp only at hao
      subst hao
      have hs3 : Sl w3 (some iad) jn m.im := HH.out.im.below b3
      have hlr := hs3.len
      obtain ⟨i0, i1, iz0, iz1, iz2⟩ := info_parts info_ImportK
      obtain ⟨v4, w4, hr1, ho4, hg4, _⟩ := run_append_sl (P := Tryz.prog) w3.drew w3.heap.size 24 24 45 i0 _ 24 Tryz.underlying24 i1 iz0 iz1 iz2 rfl (.slice none 0 0) ([] : List NamV) (Own.nil _ _ _) (some iad) ki ic (m.im.take ki) ((sl_front hs3 (by omega)).drew) (by unfold maxLen; simp; omega) (by simp; omega) (Nat.le_refl _)
      rw [List.nil_append] at ho4
      have hd4 : Sl w4 (some (iad.add ((ki + 1) * 2))) (jn - (ki + 1)) (m.im.drop (ki + 1)) := (sl_dropK hs3 (j := ki + 1) (by omega)).drew.grown hg4 (fun a _ _ => by simp [Value.ownBlock])
      have hs4 : w3.heap.size ≤ w4.heap.size := hg4.size
      have htl : (m.im.take ki).length = ki := by rw [List.length_take]; omega
      have b34 : Below w3.heap.size w3 w4 := (show Below w3.heap.size w3 w3.drew from ext_drew (Below.refl _ _)).grown hg4 (by simp) (fun ki hk => by simp [Value.ownBlock] at hk)
      have hw1 : IntKind.i64.wrap ((ki : Int) + 1) = (ki : Int) + 1 := by rw [IntKind.wrap_i64]; omega
      have hq1 : (0 : Int) ≤ (ki : Int) + 1 := by omega
      have htn : ((ki : Int) + 1).toNat = ki + 1 := by omega
      have hq3 : (ki : Int) + 1 ≤ (jn : Int) := by omega
      have hq6 : (ki : Int) ≤ (ic : Int) := by omega
      have hq7 : (0 : Int) ≤ (ki : Int) := by omega
      have hq8 : ki ≤ ic := by omega
      have hq9 : (ki : Int) ≤ (jn : Int) := by omega
      have hq10 : ki ≤ jn := by omega
      have hq11 : ki + 1 ≤ jn := by omega
      obtain ⟨z0, z1, z2, z3⟩ := cellsM4 m3
      have zL := m3.lt
      by_cases hcap : ic = ki + 1
      · have hkl : jn = ki + 1 := by omega
        have hdn : m.im.drop (ki + 1) = [] := List.drop_of_length_le (by omega)
        obtain ⟨v5, w5, hr2, ho5, hg5, _⟩ := run_append_sl (P := Tryz.prog) w4 w3.heap.size 24 24 45 i0 _ 24 Tryz.underlying24 i1 iz0 iz1 iz2 rfl v4 (m.im.take ki) ho4 (some iad) 0 0 ([] : List NamV) (Sl.nil _ _) (by unfold maxLen; rw [htl]; omega) (by rw [htl]; omega) hs4
        rw [← hdn] at ho5
        subst hcap
        have hr6 : (ki : Int) ≤ (ki : Int) + 1 := by omega
        have hr8 : ki ≤ ki + 1 := by omega
        have hr9 : ki + 1 ≤ 9223372036854775807 := by omega
        have b35 : Below w3.heap.size w3 w5 := b34.grown hg5 b34.size (fun g hg => (own_span ho4 hg).1)
        have X5 := bk_keep b35 x3
        obtain ⟨y0, y1, y2, y3⟩ := cellsM4 X5
        have yL := X5.lt
        have yF := fun i => X5.frozen i
        obtain ⟨u0_, u1_, u2_, u3_⟩ := cellsM4 (bk_keep b34 m3)
        have uL_ := (bk_keep b34 m3).lt
        obtain ⟨va, vc, rfl, hv5, vle⟩ := own_slcK ho5
        obtain ⟨N1, hN1⟩ : ∃ N1, (m.im.take ki ++ m.im.drop (ki + 1)).length = N1 := ⟨_, rfl⟩
        rw [hN1] at hr2 hv5 vle
        obtain ⟨w6, hw6⟩ : ∃ w6, w6 = w5.setCell ⟨g3, 3, none⟩ (.slice va N1 vc) := ⟨_, rfl⟩
        have X6 : Bk w6 g3 26 #[.slice ca cn cc, .slice da dn dc, .slice (some ead) en (ke + 1), .slice va N1 vc] := by rw [hw6]; exact bk_set' X5 rfl
        have hv6 : Sl w6 va N1 (m.im.take ki ++ m.im.drop (ki + 1)) := by
          rw [hw6]
          have ho6 := own_cell ho5 X5 (by decide) 3 (.slice va N1 vc)
          obtain ⟨_, _, e6, h6, _⟩ := ho6.sl
          injection e6 with e6 e7 e8
          subst e6
          rw [hN1] at h6
          exact h6
        have b6 : Below w.heap.size w w6 := by
          rw [hw6]
          exact (ext_trans b3 b35).setCell (by show w.heap.size ≤ g3; exact hle) _
        have M6 := Lib.hid (show Bk w6 w.heap.size 26 #[.slice ca cn cc, .slice da dn dc, .slice (some ead) en (ke + 1), .slice (some iad) jn (ki + 1)] by rw [hw6]; exact bk_far' _ (fun e => hne e.symm) (bk_keep b35 m3))
        have hh6 := HH.out.below b6
        have ck6 := mod_check ⟨⟨ca, cn, cc⟩, ⟨da, dn, dc⟩, ⟨(some ead), en, (ke + 1)⟩, ⟨va, N1, vc⟩⟩ { m with im := m.im.take ki ++ m.im.drop (ki + 1) } w6 ⟨hh6.code, hh6.data, hh6.ex, hv6, ⟨hh6.le.1, hh6.le.2.1, hh6.le.2.2.1, vle⟩, hh6.wc, hh6.wd, hh6.we, fun x hx => hh6.wi x ((cut_sub m.im ki).subset hx)⟩
        have hok6 := HOK.out.less_im ki
        have CK6 := Lib.hid ck6
        have HOK6 := Lib.hid hok6
        have HR1 := Lib.hid hr1
        have HR2 := Lib.hid hr2
        have HW6 := Lib.hid hw6
        have HB6 := Lib.hid b6
        have X6H := Lib.hid X6
        clear hr1 ho4 hg4 hd4 hs4 htl hr2 ho5 hg5 b3 hs3 i1 iz0 iz1 iz2 hv5 vle X5 X6 hv6 b6 hh6 ck6 hok6 hw6 b34 b35 m3 x3
        apply via_tailK
        apply Exists.intro
        apply And.intro
        rotate_left
        · intro tail
          go_region_law (first
            | (refine step_append_run2 rfl _ _ 24 24 rfl (.slice none 0 0) (.slice (some iad) ki (ki + 1)) (by simp [Act.eval, Act.put]) (by simp [Act.eval, Act.put]) HR1.out ?_)
            | (refine step_append_run2 rfl _ _ 24 24 rfl v4 (.slice (some iad) 0 0) (by simp [Act.eval, Act.put]) (by simp [Act.eval, Act.put]) HR2.out ?_))
          all_goals with_reducible exact tail
        rw [← HW6.out]
        try clear hkl
        clear z0 z1 z2 z3 zL y0 y1 y2 y3 yL yF u0_ u1_ u2_ u3_ uL_ HR1 HR2 HW6
        obtain ⟨x0, x1, x2, x3⟩ := cellsM4 X6H.out
        have xL := X6H.out.lt
        go_wp2_with (go_at_call 9; ((with_reducible refine (CK6.out).mono ?_); rintro e w8 ⟨er8, rfl, her8, hb8⟩; obtain rfl : er8 = 0 := her8.2 HOK6.out; have HB8 := Lib.hid (ext_trans HB6.out hb8); have M8 := Lib.hid (bk_keep hb8 M6.out); clear her8 hb8))
        go_ret
        exact ⟨rfl, HB8.out⟩
      · have hq4 : ¬ (ic = ki + 1) := hcap
        have hq5 : ¬ (ic = 0) := by omega
        obtain ⟨v5, w5, hr2, ho5, hg5, _⟩ := run_append_sl (P := Tryz.prog) w4 w3.heap.size 24 24 45 i0 _ 24 Tryz.underlying24 i1 iz0 iz1 iz2 rfl v4 (m.im.take ki) ho4 (some (iad.add ((ki + 1) * 2))) (jn - (ki + 1)) (ic - (ki + 1)) (m.im.drop (ki + 1)) hd4 (by unfold maxLen; rw [htl]; omega) (by rw [htl]; omega) hs4
        have b35 : Below w3.heap.size w3 w5 := b34.grown hg5 b34.size (fun g hg => (own_span ho4 hg).1)
        have X5 := bk_keep b35 x3
        obtain ⟨y0, y1, y2, y3⟩ := cellsM4 X5
        have yL := X5.lt
        have yF := fun i => X5.frozen i
        obtain ⟨u0_, u1_, u2_, u3_⟩ := cellsM4 (bk_keep b34 m3)
        have uL_ := (bk_keep b34 m3).lt
        obtain ⟨va, vc, rfl, hv5, vle⟩ := own_slcK ho5
        obtain ⟨N1, hN1⟩ : ∃ N1, (m.im.take ki ++ m.im.drop (ki + 1)).length = N1 := ⟨_, rfl⟩
        rw [hN1] at hr2 hv5 vle
        obtain ⟨w6, hw6⟩ : ∃ w6, w6 = w5.setCell ⟨g3, 3, none⟩ (.slice va N1 vc) := ⟨_, rfl⟩
        have X6 : Bk w6 g3 26 #[.slice ca cn cc, .slice da dn dc, .slice (some ead) en (ke + 1), .slice va N1 vc] := by rw [hw6]; exact bk_set' X5 rfl
        have hv6 : Sl w6 va N1 (m.im.take ki ++ m.im.drop (ki + 1)) := by
          rw [hw6]
          have ho6 := own_cell ho5 X5 (by decide) 3 (.slice va N1 vc)
          obtain ⟨_, _, e6, h6, _⟩ := ho6.sl
          injection e6 with e6 e7 e8
          subst e6
          rw [hN1] at h6
          exact h6
        have b6 : Below w.heap.size w w6 := by
          rw [hw6]
          exact (ext_trans b3 b35).setCell (by show w.heap.size ≤ g3; exact hle) _
        have M6 := Lib.hid (show Bk w6 w.heap.size 26 #[.slice ca cn cc, .slice da dn dc, .slice (some ead) en (ke + 1), .slice (some iad) jn ic] by rw [hw6]; exact bk_far' _ (fun e => hne e.symm) (bk_keep b35 m3))
        have hh6 := HH.out.below b6
        have ck6 := mod_check ⟨⟨ca, cn, cc⟩, ⟨da, dn, dc⟩, ⟨(some ead), en, (ke + 1)⟩, ⟨va, N1, vc⟩⟩ { m with im := m.im.take ki ++ m.im.drop (ki + 1) } w6 ⟨hh6.code, hh6.data, hh6.ex, hv6, ⟨hh6.le.1, hh6.le.2.1, hh6.le.2.2.1, vle⟩, hh6.wc, hh6.wd, hh6.we, fun x hx => hh6.wi x ((cut_sub m.im ki).subset hx)⟩
        have hok6 := HOK.out.less_im ki
        have CK6 := Lib.hid ck6
        have HOK6 := Lib.hid hok6
        have HR1 := Lib.hid hr1
        have HR2 := Lib.hid hr2
        have HW6 := Lib.hid hw6
        have HB6 := Lib.hid b6
        have X6H := Lib.hid X6
        clear hr1 ho4 hg4 hd4 hs4 htl hr2 ho5 hg5 b3 hs3 i1 iz0 iz1 iz2 hv5 vle X5 X6 hv6 b6 hh6 ck6 hok6 hw6 b34 b35 m3 x3
        apply via_tailK
        apply Exists.intro
        apply And.intro
        rotate_left
        · intro tail
          go_region_law (first
            | (refine step_append_run2 rfl _ _ 24 24 rfl (.slice none 0 0) (.slice (some iad) ki (ic)) (by simp [Act.eval, Act.put]) (by simp [Act.eval, Act.put]) HR1.out ?_)
            | (refine step_append_run2 rfl _ _ 24 24 rfl v4 (.slice (some (iad.add ((ki + 1) * 2))) (jn - (ki + 1)) (ic - (ki + 1))) (by simp [Act.eval, Act.put]) (by simp [Act.eval, Act.put]) HR2.out ?_))
          all_goals with_reducible exact tail
        rw [← HW6.out]
        try clear hkl
        clear z0 z1 z2 z3 zL y0 y1 y2 y3 yL yF u0_ u1_ u2_ u3_ uL_ HR1 HR2 HW6
        obtain ⟨x0, x1, x2, x3⟩ := cellsM4 X6H.out
        have xL := X6H.out.lt
        go_wp2_with (go_at_call 9; ((with_reducible refine (CK6.out).mono ?_); rintro e w8 ⟨er8, rfl, her8, hb8⟩; obtain rfl : er8 = 0 := her8.2 HOK6.out; have HB8 := Lib.hid (ext_trans HB6.out hb8); have M8 := Lib.hid (bk_keep hb8 M6.out); clear her8 hb8))
        go_ret
        exact ⟨rfl, HB8.out⟩
  · have hq4 : ¬ (ec = ke + 1) := hcap
    have hq5 : ¬ (ec = 0) := by omega
    obtain ⟨v5, w5, hr2, ho5, hg5, _⟩ := run_append_sl (P := Tryz.prog) w4 w3.heap.size 23 23 35 i0 _ 24 Tryz.underlying23 i1 iz0 iz1 iz2 rfl v4 (m.ex.take ke) ho4 (some (ead.add ((ke + 1) * 2))) (en - (ke + 1)) (ec - (ke + 1)) (m.ex.drop (ke + 1)) hd4 (by unfold maxLen; rw [htl]; omega) (by rw [htl]; omega) hs4
    have b35 : Below w3.heap.size w3 w5 := b34.grown hg5 b34.size (fun g hg => (own_span ho4 hg).1)
    have X5 := bk_keep b35 x3
    obtain ⟨y0, y1, y2, y3⟩ := cellsM4 X5
    have yL := X5.lt
    have yF := fun i => X5.frozen i
    obtain ⟨u0_, u1_, u2_, u3_⟩ := cellsM4 (bk_keep b34 m3)
    have uL_ := (bk_keep b34 m3).lt
    obtain ⟨va, vc, rfl, hv5, vle⟩ := own_slcK ho5
    obtain ⟨N1, hN1⟩ : ∃ N1, (m.ex.take ke ++ m.ex.drop (ke + 1)).length = N1 := ⟨_, rfl⟩
    rw [hN1] at hr2 hv5 vle
    obtain ⟨w6, hw6⟩ : ∃ w6, w6 = w5.setCell ⟨g3, 2, none⟩ (.slice va N1 vc) := ⟨_, rfl⟩
    have X6 : Bk w6 g3 26 #[.slice ca cn cc, .slice da dn dc, .slice va N1 vc, .slice ia jn ic] := by rw [hw6]; exact bk_set' X5 rfl
    have hv6 : Sl w6 va N1 (m.ex.take ke ++ m.ex.drop (ke + 1)) := by
      rw [hw6]
      have ho6 := own_cell ho5 X5 (by decide) 2 (.slice va N1 vc)
      obtain ⟨_, _, e6, h6, _⟩ := ho6.sl
      injection e6 with e6 e7 e8
      subst e6
      rw [hN1] at h6
      exact h6
    have b6 : Below w.heap.size w w6 := by
      rw [hw6]
      exact (ext_trans b3 b35).setCell (by show w.heap.size ≤ g3; exact hle) _
    have M6 := Lib.hid (show Bk w6 w.heap.size 26 #[.slice ca cn cc, .slice da dn dc, .slice (some ead) en ec, .slice ia jn ic] by rw [hw6]; exact bk_far' _ (fun e => hne e.symm) (bk_keep b35 m3))
    have hh6 := HH.out.below b6
    have ck6 := mod_check ⟨⟨ca, cn, cc⟩, ⟨da, dn, dc⟩, ⟨va, N1, vc⟩, ⟨ia, jn, ic⟩⟩ { m with ex := m.ex.take ke ++ m.ex.drop (ke + 1) } w6 ⟨hh6.code, hh6.data, hv6, hh6.im, ⟨hh6.le.1, hh6.le.2.1, vle, hh6.le.2.2.2⟩, hh6.wc, hh6.wd, fun x hx => hh6.we x ((cut_sub m.ex ke).subset hx), hh6.wi⟩
    have hok6 := HOK.out.less_ex ke
    have CK6 := Lib.hid ck6
    have HOK6 := Lib.hid hok6
    have HR1 := Lib.hid hr1
    have HR2 := Lib.hid hr2
    have HW6 := Lib.hid hw6
    have HB6 := Lib.hid b6
    have X6H := Lib.hid X6
    clear hr1 ho4 hg4 hd4 hs4 htl hr2 ho5 hg5 b3 hs3 i1 iz0 iz1 iz2 hv5 vle X5 X6 hv6 b6 hh6 ck6 hok6 hw6 b34 b35 m3 x3
    apply via_tailK
    apply Exists.intro
    apply And.intro
    rotate_left
    · intro tail
      go_region_law (first
        | (refine step_append_run2 rfl _ _ 23 23 rfl (.slice none 0 0) (.slice (some ead) ke (ec)) (by simp [Act.eval, Act.put]) (by simp [Act.eval, Act.put]) HR1.out ?_)
        | (refine step_append_run2 rfl _ _ 23 23 rfl v4 (.slice (some (ead.add ((ke + 1) * 2))) (en - (ke + 1)) (ec - (ke + 1))) (by simp [Act.eval, Act.put]) (by simp [Act.eval, Act.put]) HR2.out ?_))
      all_goals with_reducible exact tail
    rw [← HW6.out]
    try clear hkl
    clear z0 z1 z2 z3 zL y0 y1 y2 y3 yL yF u0_ u1_ u2_ u3_ uL_ HR1 HR2 HW6
    obtain ⟨x0, x1, x2, x3⟩ := cellsM4 X6H.out
    have xL := X6H.out.lt
    go_upto_region 10 with (go_at_call 9; ((with_reducible refine (CK6.out).mono ?_); rintro e w7 ⟨er7, rfl, her7, hb7⟩; obtain rfl : er7 = 0 := her7.2 HOK6.out; have HB7 := Lib.hid (ext_trans HB6.out hb7); have M7 := Lib.hid (bk_keep hb7 M6.out); clear her7 hb7))
    clear x0 x1 x2 x3 xL X6H HOK6 CK6 HB6 M6
    rcases Nat.eq_zero_or_pos jn with hj | hj
    · subst hj
      obtain ⟨z0, z1, z2, z3⟩ := cellsM4 M7.out
      have zL := M7.out.lt
      go_wp2
      go_ret
      exact ⟨rfl, HB7.out⟩
    · have hj0 : (0 : Int) < (jn : Int) := by omega
      have hk0 := Int.emod_nonneg nn (show ((jn : Nat) : Int) ≠ 0 by omega)
      have hk1 := Int.emod_lt_of_pos nn (show (0 : Int) < (jn : Nat) by omega)
      obtain ⟨ki, hka⟩ := Int.eq_ofNat_of_zero_le hk0
      rw [hka] at hk1
      have hk : ki < jn := by omega
      have rs := fun W => rest_any nn (jn : Int) W (by omega) (by omega)
      rw [hka] at rs
      have RS := Lib.hid rs
      clear rs hka hk0 hk1
      obtain ⟨z0, z1, z2, z3⟩ := cellsM4 M7.out
      have zL := M7.out.lt
      go_upto_region 14 with (go_at_call 10; ((with_reducible refine (RS.out _).mono ?_); rintro e w' ⟨rfl, hw'⟩; subst w'))
      obtain ⟨w3, hw3⟩ : ∃ w3, w3 = w7.alloc (.cells #[.slice ca cn cc, .slice da dn dc, .slice (some ead) en ec, .slice ia jn ic] 26) := ⟨_, rfl⟩
      obtain ⟨g3, hg3⟩ : ∃ g3, w7.heap.size = g3 := ⟨_, rfl⟩
      rw [← hw3]
      try rw [hg3]
      have r3 : Below w7.heap.size w7 w3 := by rw [hw3]; exact ext_alloc (Below.refl _ _) _
      have b3 : Below w.heap.size w w3 := ext_trans HB7.out r3
      have m3 : Bk w3 w.heap.size 26 #[.slice ca cn cc, .slice da dn dc, .slice (some ead) en ec, .slice ia jn ic] := bk_keep r3 M7.out
      have x3 : Bk w3 g3 26 #[.slice ca cn cc, .slice da dn dc, .slice (some ead) en ec, .slice ia jn ic] := by rw [hw3, ← hg3]; exact bk_new _ _ _
      have hne : g3 ≠ w.heap.size := by have := M7.out.lt; omega
      have hle : w.heap.size ≤ g3 := by have := M7.out.lt; omega
      clear hw3 hg3 r3 z0 z1 z2 z3 zL
      obtain ⟨iad, hao, _⟩ := HH.out.im.row (by show 0 < jn; omega)
      simp only at hao
      subst hao
      have hs3 : Sl w3 (some iad) jn m.im := HH.out.im.below b3
      have hlr := hs3.len
      obtain ⟨i0, i1, iz0, iz1, iz2⟩ := info_parts info_ImportK
      obtain ⟨v4, w4, hr1, ho4, hg4, _⟩ := run_append_sl (P := Tryz.prog) w3.drew w3.heap.size 24 24 45 i0 _ 24 Tryz.underlying24 i1 iz0 iz1 iz2 rfl (.slice none 0 0) ([] : List NamV) (Own.nil _ _ _) (some iad) ki ic (m.im.take ki) ((sl_front hs3 (by omega)).drew) (by unfold maxLen; simp; omega) (by simp; omega) (Nat.le_refl _)
      rw [List.nil_append] at ho4
      have hd4 : Sl w4 (some (iad.add ((ki + 1) * 2))) (jn - (ki + 1)) (m.im.drop (ki + 1)) := (sl_dropK hs3 (j := ki + 1) (by omega)).drew.grown hg4 (fun a _ _ => by simp [Value.ownBlock])
      have hs4 : w3.heap.size ≤ w4.heap.size := hg4.size
      have htl : (m.im.take ki).length = ki := by rw [List.length_take]; omega
      have b34 : Below w3.heap.size w3 w4 := (show Below w3.heap.size w3 w3.drew from ext_drew (Below.refl _ _)).grown hg4 (by simp) (fun ki hk => by simp [Value.ownBlock] at hk)
      have hw1 : IntKind.i64.wrap ((ki : Int) + 1) = (ki : Int) + 1 := by rw [IntKind.wrap_i64]; omega
      have hq1 : (0 : Int) ≤ (ki : Int) + 1 := by omega
      have htn : ((ki : Int) + 1).toNat = ki + 1 := by omega
      have hq3 : (ki : Int) + 1 ≤ (jn : Int) := by omega
      have hq6 : (ki : Int) ≤ (ic : Int) := by omega
      have hq7 : (0 : Int) ≤ (ki : Int) := by omega
      have hq8 : ki ≤ ic := by omega
      have hq9 : (ki : Int) ≤ (jn : Int) := by omega
      have hq10 : ki ≤ jn := by omega
      have hq11 : ki + 1 ≤ jn := by omega
      obtain ⟨z0, z1, z2, z3⟩ := cellsM4 m3
      have zL := m3.lt
      by_cases hcap : ic = ki + 1
      · have hkl : jn = ki + 1 := by omega
        have hdn : m.im.drop (ki + 1) = [] := List.drop_of_length_le (by omega)
        obtain ⟨v5, w5, hr2, ho5, hg5, _⟩ := run_append_sl (P := Tryz.prog) w4 w3.heap.size 24 24 45 i0 _ 24 Tryz.underlying24 i1 iz0 iz1 iz2 rfl v4 (m.im.take ki) ho4 (some iad) 0 0 ([] : List NamV) (Sl.nil _ _) (by unfold maxLen; rw [htl]; omega) (by rw [htl]; omega) hs4
        rw [← hdn] at ho5
        subst hcap
        have hr6 : (ki : Int) ≤ (ki : Int) + 1 := by omega
        have hr8 : ki ≤ ki + 1 := by omega
        have hr9 : ki + 1 ≤ 9223372036854775807 := by omega
        have b35 : Below w3.heap.size w3 w5 := b34.grown hg5 b34.size (fun g hg => (own_span ho4 hg).1)
        have X5 := bk_keep b35 x3
        obtain ⟨y0, y1, y2, y3⟩ := cellsM4 X5
        have yL := X5.lt
        have yF := fun i => X5.frozen i
        obtain ⟨u0_, u1_, u2_, u3_⟩ := cellsM4 (bk_keep b34 m3)
        have uL_ := (bk_keep b34 m3).lt
        obtain ⟨va, vc, rfl, hv5, vle⟩ := own_slcK ho5
        obtain ⟨N1, hN1⟩ : ∃ N1, (m.im.take ki ++ m.im.drop (ki + 1)).length = N1 := ⟨_, rfl⟩
        rw [hN1] at hr2 hv5 vle
        obtain ⟨w6, hw6⟩ : ∃ w6, w6 = w5.setCell ⟨g3, 3, none⟩ (.slice va N1 vc) := ⟨_, rfl⟩
        have X6 : Bk w6 g3 26 #[.slice ca cn cc, .slice da dn dc, .slice (some ead) en ec, .slice va N1 vc] := by rw [hw6]; exact bk_set' X5 rfl
        have hv6 : Sl w6 va N1 (m.im.take ki ++ m.im.drop (ki + 1)) := by
          rw [hw6]
          have ho6 := own_cell ho5 X5 (by decide) 3 (.slice va N1 vc)
          obtain ⟨_, _, e6, h6, _⟩ := ho6.sl
          injection e6 with e6 e7 e8
          subst e6
          rw [hN1] at h6
          exact h6
        have b6 : Below w.heap.size w w6 := by
          rw [hw6]
          exact (ext_trans b3 b35).setCell (by show w.heap.size ≤ g3; exact hle) _
        have M6 := Lib.hid (show Bk w6 w.heap.size 26 #[.slice ca cn cc, .slice da dn dc, .slice (some ead) en ec, .slice (some iad) jn (ki + 1)] by rw [hw6]; exact bk_far' _ (fun e => hne e.symm) (bk_keep b35 m3))
        have hh6 := HH.out.below b6
        have ck6 := mod_check ⟨⟨ca, cn, cc⟩, ⟨da, dn, dc⟩, ⟨(some ead), en, ec⟩, ⟨va, N1, vc⟩⟩ { m with im := m.im.take ki ++ m.im.drop (ki + 1) } w6 ⟨hh6.code, hh6.data, hh6.ex, hv6, ⟨hh6.le.1, hh6.le.2.1, hh6.le.2.2.1, vle⟩, hh6.wc, hh6.wd, hh6.we, fun x hx => hh6.wi x ((cut_sub m.im ki).subset hx)⟩
        have hok6 := HOK.out.less_im ki
        have CK6 := Lib.hid ck6
        have HOK6 := Lib.hid hok6
        have HR1 := Lib.hid hr1
        have HR2 := Lib.hid hr2
        have HW6 := Lib.hid hw6
        have HB6 := Lib.hid b6
        have X6H := Lib.hid X6
        clear hr1 ho4 hg4 hd4 hs4 htl hr2 ho5 hg5 b3 hs3 i1 iz0 iz1 iz2 hv5 vle X5 X6 hv6 b6 hh6 ck6 hok6 hw6 b34 b35 m3 x3
        apply via_tailK
        apply Exists.intro
        apply And.intro
        rotate_left
        · intro tail
          go_region_law (first
            | (refine step_append_run2 rfl _ _ 24 24 rfl (.slice none 0 0) (.slice (some iad) ki (ki + 1)) (by simp [Act.eval, Act.put]) (by simp [Act.eval, Act.put]) HR1.out ?_)
            | (refine step_append_run2 rfl _ _ 24 24 rfl v4 (.slice (some iad) 0 0) (by simp [Act.eval, Act.put]) (by simp [Act.eval, Act.put]) HR2.out ?_))
          all_goals with_reducible exact tail
        rw [← HW6.out]
        try clear hkl
        clear z0 z1 z2 z3 zL y0 y1 y2 y3 yL yF u0_ u1_ u2_ u3_ uL_ HR1 HR2 HW6
        obtain ⟨x0, x1, x2, x3⟩ := cellsM4 X6H.out
        have xL := X6H.out.lt
        go_wp2_with (go_at_call 9; ((with_reducible refine (CK6.out).mono ?_); rintro e w8 ⟨er8, rfl, her8, hb8⟩; obtain rfl : er8 = 0 := her8.2 HOK6.out; have HB8 := Lib.hid (ext_trans HB6.out hb8); have M8 := Lib.hid (bk_keep hb8 M6.out); clear her8 hb8))
        go_ret
        exact ⟨rfl, HB8.out⟩
      · have hq4 : ¬ (ic = ki + 1) := hcap
        have hq5 : ¬ (ic = 0) := by omega
        obtain ⟨v5, w5, hr2, ho5, hg5, _⟩ := run_append_sl (P := Tryz.prog) w4 w3.heap.size 24 24 45 i0 _ 24 Tryz.underlying24 i1 iz0 iz1 iz2 rfl v4 (m.im.take ki) ho4 (some (iad.add ((ki + 1) * 2))) (jn - (ki + 1)) (ic - (ki + 1)) (m.im.drop (ki + 1)) hd4 (by unfold maxLen; rw [htl]; omega) (by rw [htl]; omega) hs4
        have b35 : Below w3.heap.size w3 w5 := b34.grown hg5 b34.size (fun g hg => (own_span ho4 hg).1)
        have X5 := bk_keep b35 x3
        obtain ⟨y0, y1, y2, y3⟩ := cellsM4 X5
        have yL := X5.lt
        have yF := fun i => X5.frozen i
        obtain ⟨u0_, u1_, u2_, u3_⟩ := cellsM4 (bk_keep b34 m3)
        have uL_ := (bk_keep b34 m3).lt
        obtain ⟨va, vc, rfl, hv5, vle⟩ := own_slcK ho5
        obtain ⟨N1, hN1⟩ : ∃ N1, (m.im.take ki ++ m.im.drop (ki + 1)).length = N1 := ⟨_, rfl⟩
        rw [hN1] at hr2 hv5 vle
        obtain ⟨w6, hw6⟩ : ∃ w6, w6 = w5.setCell ⟨g3, 3, none⟩ (.slice va N1 vc) := ⟨_, rfl⟩
        have X6 : Bk w6 g3 26 #[.slice ca cn cc, .slice da dn dc, .slice (some ead) en ec, .slice va N1 vc] := by rw [hw6]; exact bk_set' X5 rfl
        have hv6 : Sl w6 va N1 (m.im.take ki ++ m.im.drop (ki + 1)) := by
          rw [hw6]
          have ho6 := own_cell ho5 X5 (by decide) 3 (.slice va N1 vc)
          obtain ⟨_, _, e6, h6, _⟩ := ho6.sl
          injection e6 with e6 e7 e8
          subst e6
          rw [hN1] at h6
          exact h6
        have b6 : Below w.heap.size w w6 := by
          rw [hw6]
          exact (ext_trans b3 b35).setCell (by show w.heap.size ≤ g3; exact hle) _
        have M6 := Lib.hid (show Bk w6 w.heap.size 26 #[.slice ca cn cc, .slice da dn dc, .slice (some ead) en ec, .slice (some iad) jn ic] by rw [hw6]; exact bk_far' _ (fun e => hne e.symm) (bk_keep b35 m3))
        have hh6 := HH.out.below b6
        have ck6 := mod_check ⟨⟨ca, cn, cc⟩, ⟨da, dn, dc⟩, ⟨(some ead), en, ec⟩, ⟨va, N1, vc⟩⟩ { m with im := m.im.take ki ++ m.im.drop (ki + 1) } w6 ⟨hh6.code, hh6.data, hh6.ex, hv6, ⟨hh6.le.1, hh6.le.2.1, hh6.le.2.2.1, vle⟩, hh6.wc, hh6.wd, hh6.we, fun x hx => hh6.wi x ((cut_sub m.im ki).subset hx)⟩
        have hok6 := HOK.out.less_im ki
        have CK6 := Lib.hid ck6
        have HOK6 := Lib.hid hok6
        have HR1 := Lib.hid hr1
        have HR2 := Lib.hid hr2
        have HW6 := Lib.hid hw6
        have HB6 := Lib.hid b6
        have X6H := Lib.hid X6
        clear hr1 ho4 hg4 hd4 hs4 htl hr2 ho5 hg5 b3 hs3 i1 iz0 iz1 iz2 hv5 vle X5 X6 hv6 b6 hh6 ck6 hok6 hw6 b34 b35 m3 x3
        apply via_tailK
        apply Exists.intro
        apply And.intro
        rotate_left
        · intro tail
          go_region_law (first
            | (refine step_append_run2 rfl _ _ 24 24 rfl (.slice none 0 0) (.slice (some iad) ki (ic)) (by simp [Act.eval, Act.put]) (by simp [Act.eval, Act.put]) HR1.out ?_)
            | (refine step_append_run2 rfl _ _ 24 24 rfl v4 (.slice (some (iad.add ((ki + 1) * 2))) (jn - (ki + 1)) (ic - (ki + 1))) (by simp [Act.eval, Act.put]) (by simp [Act.eval, Act.put]) HR2.out ?_))
          all_goals with_reducible exact tail
        rw [← HW6.out]
        try clear hkl
        clear z0 z1 z2 z3 zL y0 y1 y2 y3 yL yF u0_ u1_ u2_ u3_ uL_ HR1 HR2 HW6
        obtain ⟨x0, x1, x2, x3⟩ := cellsM4 X6H.out
        have xL := X6H.out.lt
        go_wp2_with (go_at_call 9; ((with_reducible refine (CK6.out).mono ?_); rintro e w8 ⟨er8, rfl, her8, hb8⟩; obtain rfl : er8 = 0 := her8.2 HOK6.out; have HB8 := Lib.hid (ext_trans HB6.out hb8); have M8 := Lib.hid (bk_keep hb8 M6.out); clear her8 hb8))
        go_ret
        exact ⟨rfl, HB8.out⟩
theorem moduleLess_walk (x : ModA) (nn : Int) (w : World) (hx : x.ok w) (hn : I64 nn) (he : PEnv w) : Calls Tryz.prog 3 #[x.val, .int .i64 nn] w fun e w' => e = .returned (.bool true) ∧ Below w.heap.size w w' := by
  by_cases hok : ModOk isNameB x.m
  · rcases Nat.eq_zero_or_pos x.r.ex.n with h0 | h0
    · exact modLess_none x nn w hx he hn hok h0
    · exact modLess_some x nn w hx he hn hok h0
  · exact modLess_bad x nn w hx he hok
end Go.Proofs.YtjlncoodkejncaaGreatDoor
