import Derived.Test.YtpjhjefjbkjhkaaGreatDoorBuDc
/- What a desk's words do: the rest. -/
namespace Go.Proofs.YtpjhjefjbkjhkaaGreatDoor
open Go Go.RowKit Go.Shelf
set_option linter.unusedVariables false
set_option linter.unusedSimpArgs false
theorem load_keyD {k : KeyV} {g : Nat} {w : World} (h : Bk w g 153 (deskC k)) : w.cell? ⟨g, 0, none⟩ = some (.int .i64 k.perm) ∧ w.cell? ⟨g, 1, none⟩ = some (.int .i64 k.base) ∧ w.cell? ⟨g, 2, none⟩ = some (.int .i64 k.len) ∧ w.cell? ⟨g, 3, none⟩ = some (.int .i64 k.at_) ∧ w.cell? ⟨g, 4, none⟩ = some (.int .i64 k.seal_) := cells5D h
set_option maxHeartbeats 4000000 in
set_option maxRecDepth 100000 in
theorem words_key0 (g : Nat) (k0 : KeyV) (hk : k0.wf) (wd : ByteArray) (ao : Option Addr) (n c : Nat) (l : List ByteArray) (w : World) (hg : Bk w g 153 (deskC k0)) (henv : ∀ W, FrD g w W → PEnv W) (hl : Sl w ao n l) (hs : ∀ s ∈ l, s.size ≤ 1000) (hx : wd.data.toList = wKey) (h0 : n = 0) :
    Calls Tryz.prog 107 #[.pointer (some ⟨g, 0, none⟩), .string wd, .slice ao n c] w (DeskPost g w (wordsF k0 wd.data.toList (bysL l))) := by
  have hE : wordsF k0 wd.data.toList (bysL l) = ⟨k0, told k0, 0⟩ := by have e := hl.len; unfold wordsF; rw [hx, if_neg (by decide), if_neg (by decide), if_neg (by decide), if_neg (by decide), if_neg (by decide), if_neg (by decide), if_pos ⟨rfl, by rw [List.length_map]; omega⟩]
  rw [hE]
  clear hE
  have q_pack : (wd.toList == [112, 97, 99, 107]) = false := by rw [toL_eq, hx]; decide
  have q_round : (wd.toList == [114, 111, 117, 110, 100]) = false := by rw [toL_eq, hx]; decide
  have q_calc : (wd.toList == [99, 97, 108, 99]) = false := by rw [toL_eq, hx]; decide
  have q_key : (wd.toList == [107, 101, 121]) = true := by rw [toL_eq, hx]; decide
  have q_new : (wd.toList == [110, 101, 119]) = false := by rw [toL_eq, hx]; decide
  have q_read : (wd.toList == [114, 101, 97, 100]) = false := by rw [toL_eq, hx]; decide
  have q_perm : (wd.toList == [112, 101, 114, 109]) = false := by rw [toL_eq, hx]; decide
  have q_drop : (wd.toList == [100, 114, 111, 112]) = false := by rw [toL_eq, hx]; decide
  have hln := hl.len
  have HG := Lib.hid hg
  have HEN := Lib.hid henv
  have HL := Lib.hid hl
  have HLs := Lib.hid hs
  subst h0
  have hwk := hk
  obtain ⟨p, b, len, a, s5⟩ := k0
  clear hg henv hl hs
  go_enter Tryz.func107, Tryz.ntmps107
  go_upto_region 1 with (fail)
  go_cut [8] (fun s8 wx => ∃ g1 g2, s8 = .map (some w.heap.size) ∧ wx.heap[w.heap.size]? = some (.map (mvEs g1 g2) 4) ∧ wx.cell? ⟨g1, 0, none⟩ = some (.func (.func 43) #[] #[]) ∧ wx.cell? ⟨g2, 0, none⟩ = some (.func (.func 46) #[] #[]) ∧ Below w.heap.size w wx)
  case first =>
    go_wp2_with (first
      | (refine wpList_mkm rfl 228 rfl ?_)
      | (refine wpList_ins rfl 228 9 226 (.tmp 20) (.const (.string ⟨#[109, 111, 118, 101]⟩)) (.func 129) rfl rfl mvU Tryz.underlying9 w.heap.size 0 #[] ⟨#[109, 111, 118, 101]⟩ (.func (.func 129) #[] #[]) rfl rfl rfl (World.alloc_heap_new w (.map #[] 0)) rfl ?_)
      | (refine wpList_ins rfl 228 9 226 (.tmp 20) (.const (.string ⟨#[110, 97, 114, 114, 111, 119]⟩)) (.func 130) rfl rfl mvU Tryz.underlying9 w.heap.size 1 #[⟨.string ⟨#[109, 111, 118, 101]⟩, .func (.func 129) #[] #[], 0⟩] ⟨#[110, 97, 114, 114, 111, 119]⟩ (.func (.func 130) #[] #[]) rfl rfl rfl (World.putObj_heap_same (by simp [World.putObj])) rfl ?_)
      | (go_at_call 131; ((with_reducible refine (sealer_sealE _).mono ?_); rintro e w5 ⟨g1, rfl, hc5, hl5, hb5⟩; have HM5 := Lib.hid (show w5.heap[w.heap.size]? = some (.map (mv2) 2) from (hb5.block w.heap.size (by simp [World.putObj])).trans (World.putObj_heap_same (by simp [World.putObj]))); have HB5 := Lib.hid (show Below w.heap.size w w5 from (below_putObj (below_putObj (ext_alloc (Below.refl _ _) _) (Nat.le_refl _)) (Nat.le_refl _)).trans (hb5.mono (by simp [World.putObj]))); have HG1 := Lib.hid (show w.heap.size < g1 from Nat.lt_of_lt_of_le (by simp [World.putObj]) hl5); have HC5 := Lib.hid hc5; clear hc5 hl5 hb5))
      | (refine wpList_ins rfl 228 9 226 (.tmp 20) (.const (.string ⟨#[115, 101, 97, 108]⟩)) (.tmp 21) rfl rfl mvU Tryz.underlying9 w.heap.size 2 #[⟨.string ⟨#[109, 111, 118, 101]⟩, .func (.func 129) #[] #[], 0⟩, ⟨.string ⟨#[110, 97, 114, 114, 111, 119]⟩, .func (.func 130) #[] #[], 1⟩] ⟨#[115, 101, 97, 108]⟩ (.func (.func 172) #[] #[.pointer (some ⟨g1, 0, none⟩)]) rfl rfl rfl HM5.out rfl ?_)
      | (go_at_call 131; ((with_reducible refine (sealer_openE _).mono ?_); rintro e w7 ⟨g2, rfl, hc7, hl7, hb7⟩; have HM7 := Lib.hid (show w7.heap[w.heap.size]? = some (.map (mv3 g1) 3) from (hb7.block w.heap.size (by have := (Array.getElem?_eq_some_iff.1 HM5.out).1; simp [World.putObj]; omega)).trans (World.putObj_heap_same (Array.getElem?_eq_some_iff.1 HM5.out).1)); have HB7 := Lib.hid (show Below w.heap.size w w7 from (below_putObj HB5.out (Nat.le_refl _)).trans (hb7.mono (by have := HB5.out.size; simp [World.putObj]; omega))); have HG2 := Lib.hid (show w.heap.size < g2 from Nat.lt_of_lt_of_le (by have := (Array.getElem?_eq_some_iff.1 HM5.out).1; simp [World.putObj]; omega) hl7); have HC7 := Lib.hid hc7; have HC57 := Lib.hid (below_cellD hb7 (a := ⟨g1, 0, none⟩) ((cell_putObjD (a := ⟨g1, 0, none⟩) (Nat.ne_of_gt HG1.out)).trans HC5.out) (Nat.le_refl _)); clear hc7 hl7 hb7))
      | (refine wpList_ins rfl 228 9 226 (.tmp 20) (.const (.string ⟨#[111, 112, 101, 110]⟩)) (.tmp 22) rfl rfl mvU Tryz.underlying9 w.heap.size 3 #[⟨.string ⟨#[109, 111, 118, 101]⟩, .func (.func 129) #[] #[], 0⟩, ⟨.string ⟨#[110, 97, 114, 114, 111, 119]⟩, .func (.func 130) #[] #[], 1⟩, ⟨.string ⟨#[115, 101, 97, 108]⟩, .func (.func 172) #[] #[.pointer (some ⟨g1, 0, none⟩)], 2⟩] ⟨#[111, 112, 101, 110]⟩ (.func (.func 172) #[] #[.pointer (some ⟨g2, 0, none⟩)]) rfl rfl rfl HM7.out rfl ?_))
    go_meet
    exact ⟨g1, g2, rfl, World.putObj_heap_same (Array.getElem?_eq_some_iff.1 HM7.out).1, (cell_putObjD (a := ⟨g1, 0, none⟩) (Nat.ne_of_gt HG1.out)).trans HC57.out, (cell_putObjD (a := ⟨g2, 0, none⟩) (Nat.ne_of_gt HG2.out)).trans HC7.out, below_putObj HB7.out (Nat.le_refl _)⟩
  case rest =>
    obtain ⟨g1, g2, rfl, hm, hc1, hc2, hb⟩ := hcut
    obtain ⟨w4, hw4⟩ : ∃ w4, w4 = wc := ⟨_, rfl⟩
    rw [← hw4] at hm hb hc1 hc2 ⊢
    have HM4 := Lib.hid hm
    have HBW := Lib.hid hb
    have HC1 := Lib.hid hc1
    have HC2 := Lib.hid hc2
    clear hm hb hc1 hc2 hw4
    have HE4 := Lib.hid (HEN.out _ (FrD.of HBW.out))
    have lk := mv_none HM4.out (by rw [hx]; decide) (by rw [hx]; decide) (by rw [hx]; decide) (by rw [hx]; decide)
    have G4 := Lib.hid (bk_keep HBW.out HG.out)
    obtain ⟨z0, z1, z2, z3, z4⟩ := load_keyD G4.out
    have zL := G4.out.lt
    have td : Calls Tryz.prog 136 #[.agg #[.int .i64 p, .int .i64 b, .int .i64 len, .int .i64 a, .int .i64 s5]] w4 _ := told_any ⟨p, b, len, a, s5⟩ hwk w4 HE4.out
    obtain ⟨tl, htl⟩ : ∃ tl, told ⟨p, b, len, a, s5⟩ = tl := ⟨_, rfl⟩
    rw [htl] at td
    have TD := Lib.hid td
    have HTL := Lib.hid htl
    clear td htl hx
    simp only at z0 z1 z2 z3 z4
    go_wp2_with (go_at_call 136; ((with_reducible refine TD.out.mono ?_); rintro e w5 ⟨rfl, hb5⟩; have HB5 := Lib.hid (ext_trans HBW.out hb5); clear hb5))
    go_ret2
    exact ⟨_, rfl, fun _ => by rw [← HTL.out], bk_keep HB5.out HG.out, FrD.of HB5.out⟩
set_option maxHeartbeats 4000000 in
set_option maxRecDepth 100000 in
theorem words_new0 (g : Nat) (k0 : KeyV) (hk : k0.wf) (wd : ByteArray) (ao : Option Addr) (n c : Nat) (l : List ByteArray) (w : World) (hg : Bk w g 153 (deskC k0)) (henv : ∀ W, FrD g w W → PEnv W) (hl : Sl w ao n l) (hs : ∀ s ∈ l, s.size ≤ 1000) (hx : wd.data.toList = wNew) (h0 : n = 0) :
    Calls Tryz.prog 107 #[.pointer (some ⟨g, 0, none⟩), .string wd, .slice ao n c] w (DeskPost g w (wordsF k0 wd.data.toList (bysL l))) := by
  have hE : wordsF k0 wd.data.toList (bysL l) = keepF k0 (firstK, 0) := by have e := hl.len; unfold wordsF; rw [hx, if_neg (by decide), if_neg (by decide), if_neg (by decide), if_neg (by decide), if_neg (by decide), if_neg (by decide), if_neg (fun h => absurd h.1 (by decide)), if_pos ⟨rfl, by rw [List.length_map]; omega⟩]
  rw [hE]
  clear hE
  have q_pack : (wd.toList == [112, 97, 99, 107]) = false := by rw [toL_eq, hx]; decide
  have q_round : (wd.toList == [114, 111, 117, 110, 100]) = false := by rw [toL_eq, hx]; decide
  have q_calc : (wd.toList == [99, 97, 108, 99]) = false := by rw [toL_eq, hx]; decide
  have q_key : (wd.toList == [107, 101, 121]) = false := by rw [toL_eq, hx]; decide
  have q_new : (wd.toList == [110, 101, 119]) = true := by rw [toL_eq, hx]; decide
  have q_read : (wd.toList == [114, 101, 97, 100]) = false := by rw [toL_eq, hx]; decide
  have q_perm : (wd.toList == [112, 101, 114, 109]) = false := by rw [toL_eq, hx]; decide
  have q_drop : (wd.toList == [100, 114, 111, 112]) = false := by rw [toL_eq, hx]; decide
  have hln := hl.len
  have HG := Lib.hid hg
  have HEN := Lib.hid henv
  have HL := Lib.hid hl
  have HLs := Lib.hid hs
  subst h0
  clear hg henv hl hs
  go_enter Tryz.func107, Tryz.ntmps107
  go_upto_region 1 with (fail)
  go_cut [8] (fun s8 wx => ∃ g1 g2, s8 = .map (some w.heap.size) ∧ wx.heap[w.heap.size]? = some (.map (mvEs g1 g2) 4) ∧ wx.cell? ⟨g1, 0, none⟩ = some (.func (.func 43) #[] #[]) ∧ wx.cell? ⟨g2, 0, none⟩ = some (.func (.func 46) #[] #[]) ∧ Below w.heap.size w wx)
  case first =>
    go_wp2_with (first
      | (refine wpList_mkm rfl 228 rfl ?_)
      | (refine wpList_ins rfl 228 9 226 (.tmp 20) (.const (.string ⟨#[109, 111, 118, 101]⟩)) (.func 129) rfl rfl mvU Tryz.underlying9 w.heap.size 0 #[] ⟨#[109, 111, 118, 101]⟩ (.func (.func 129) #[] #[]) rfl rfl rfl (World.alloc_heap_new w (.map #[] 0)) rfl ?_)
      | (refine wpList_ins rfl 228 9 226 (.tmp 20) (.const (.string ⟨#[110, 97, 114, 114, 111, 119]⟩)) (.func 130) rfl rfl mvU Tryz.underlying9 w.heap.size 1 #[⟨.string ⟨#[109, 111, 118, 101]⟩, .func (.func 129) #[] #[], 0⟩] ⟨#[110, 97, 114, 114, 111, 119]⟩ (.func (.func 130) #[] #[]) rfl rfl rfl (World.putObj_heap_same (by simp [World.putObj])) rfl ?_)
      | (go_at_call 131; ((with_reducible refine (sealer_sealE _).mono ?_); rintro e w5 ⟨g1, rfl, hc5, hl5, hb5⟩; have HM5 := Lib.hid (show w5.heap[w.heap.size]? = some (.map (mv2) 2) from (hb5.block w.heap.size (by simp [World.putObj])).trans (World.putObj_heap_same (by simp [World.putObj]))); have HB5 := Lib.hid (show Below w.heap.size w w5 from (below_putObj (below_putObj (ext_alloc (Below.refl _ _) _) (Nat.le_refl _)) (Nat.le_refl _)).trans (hb5.mono (by simp [World.putObj]))); have HG1 := Lib.hid (show w.heap.size < g1 from Nat.lt_of_lt_of_le (by simp [World.putObj]) hl5); have HC5 := Lib.hid hc5; clear hc5 hl5 hb5))
      | (refine wpList_ins rfl 228 9 226 (.tmp 20) (.const (.string ⟨#[115, 101, 97, 108]⟩)) (.tmp 21) rfl rfl mvU Tryz.underlying9 w.heap.size 2 #[⟨.string ⟨#[109, 111, 118, 101]⟩, .func (.func 129) #[] #[], 0⟩, ⟨.string ⟨#[110, 97, 114, 114, 111, 119]⟩, .func (.func 130) #[] #[], 1⟩] ⟨#[115, 101, 97, 108]⟩ (.func (.func 172) #[] #[.pointer (some ⟨g1, 0, none⟩)]) rfl rfl rfl HM5.out rfl ?_)
      | (go_at_call 131; ((with_reducible refine (sealer_openE _).mono ?_); rintro e w7 ⟨g2, rfl, hc7, hl7, hb7⟩; have HM7 := Lib.hid (show w7.heap[w.heap.size]? = some (.map (mv3 g1) 3) from (hb7.block w.heap.size (by have := (Array.getElem?_eq_some_iff.1 HM5.out).1; simp [World.putObj]; omega)).trans (World.putObj_heap_same (Array.getElem?_eq_some_iff.1 HM5.out).1)); have HB7 := Lib.hid (show Below w.heap.size w w7 from (below_putObj HB5.out (Nat.le_refl _)).trans (hb7.mono (by have := HB5.out.size; simp [World.putObj]; omega))); have HG2 := Lib.hid (show w.heap.size < g2 from Nat.lt_of_lt_of_le (by have := (Array.getElem?_eq_some_iff.1 HM5.out).1; simp [World.putObj]; omega) hl7); have HC7 := Lib.hid hc7; have HC57 := Lib.hid (below_cellD hb7 (a := ⟨g1, 0, none⟩) ((cell_putObjD (a := ⟨g1, 0, none⟩) (Nat.ne_of_gt HG1.out)).trans HC5.out) (Nat.le_refl _)); clear hc7 hl7 hb7))
      | (refine wpList_ins rfl 228 9 226 (.tmp 20) (.const (.string ⟨#[111, 112, 101, 110]⟩)) (.tmp 22) rfl rfl mvU Tryz.underlying9 w.heap.size 3 #[⟨.string ⟨#[109, 111, 118, 101]⟩, .func (.func 129) #[] #[], 0⟩, ⟨.string ⟨#[110, 97, 114, 114, 111, 119]⟩, .func (.func 130) #[] #[], 1⟩, ⟨.string ⟨#[115, 101, 97, 108]⟩, .func (.func 172) #[] #[.pointer (some ⟨g1, 0, none⟩)], 2⟩] ⟨#[111, 112, 101, 110]⟩ (.func (.func 172) #[] #[.pointer (some ⟨g2, 0, none⟩)]) rfl rfl rfl HM7.out rfl ?_))
    go_meet
    exact ⟨g1, g2, rfl, World.putObj_heap_same (Array.getElem?_eq_some_iff.1 HM7.out).1, (cell_putObjD (a := ⟨g1, 0, none⟩) (Nat.ne_of_gt HG1.out)).trans HC57.out, (cell_putObjD (a := ⟨g2, 0, none⟩) (Nat.ne_of_gt HG2.out)).trans HC7.out, below_putObj HB7.out (Nat.le_refl _)⟩
  case rest =>
    obtain ⟨g1, g2, rfl, hm, hc1, hc2, hb⟩ := hcut
    obtain ⟨w4, hw4⟩ : ∃ w4, w4 = wc := ⟨_, rfl⟩
    rw [← hw4] at hm hb hc1 hc2 ⊢
    have HM4 := Lib.hid hm
    have HBW := Lib.hid hb
    have HC1 := Lib.hid hc1
    have HC2 := Lib.hid hc2
    clear hm hb hc1 hc2 hw4
    have HE4 := Lib.hid (HEN.out _ (FrD.of HBW.out))
    have lk := mv_none HM4.out (by rw [hx]; decide) (by rw [hx]; decide) (by rw [hx]; decide) (by rw [hx]; decide)
    clear hx
    have kp := fun W (hW : Below w4.heap.size w4 W) => keep_any g k0 firstK 0 firstK_ok.wf W (HEN.out _ (FrD.of (ext_trans HBW.out hW))) (bk_keep (ext_trans HBW.out hW) HG.out) (fun W2 h2 => HEN.out _ ((FrD.of (ext_trans HBW.out hW)).trans h2))
    have fk := first_any w4
    unfold firstK KeyV.val at fk kp
    simp only at fk kp
    have KP := Lib.hid kp
    have FK := Lib.hid fk
    clear kp fk
    go_wp2_with (first
      | (go_at_call 75; ((with_reducible refine FK.out.mono ?_); rintro e w5 ⟨rfl, hb5⟩; have HB5 := Lib.hid hb5; clear hb5))
      | (go_at_call 137; ((with_reducible refine (KP.out _ HB5.out).mono ?_); rintro e w6 ⟨o, rfl, ho, hb6, hf6⟩)))
    go_ret2
    exact ⟨o, rfl, ho, hb6, (FrD.of (ext_trans HBW.out HB5.out)).trans hf6⟩
set_option maxHeartbeats 4000000 in
set_option maxRecDepth 100000 in
theorem words_key1 (g : Nat) (k0 : KeyV) (hk : k0.wf) (wd : ByteArray) (ao : Option Addr) (n c : Nat) (l : List ByteArray) (w : World) (hg : Bk w g 153 (deskC k0)) (henv : ∀ W, FrD g w W → PEnv W) (hl : Sl w ao n l) (hs : ∀ s ∈ l, s.size ≤ 1000) (hx : wd.data.toList = wKey) (h1 : n = 1) :
    Calls Tryz.prog 107 #[.pointer (some ⟨g, 0, none⟩), .string wd, .slice ao n c] w (DeskPost g w (wordsF k0 wd.data.toList (bysL l))) := by
  have hE : wordsF k0 wd.data.toList (bysL l) = ⟨k0, [], 3⟩ := by have e := hl.len; unfold wordsF; rw [hx, if_neg (by decide), if_neg (by decide), if_neg (by decide), if_neg (by decide), if_neg (by decide), if_neg (by decide), if_neg (by rw [List.length_map]; omega), if_neg (by rw [List.length_map]; omega)]; rw [if_neg (by rw [List.length_map]; omega), if_neg (by decide), if_neg (by decide), if_neg (by decide)]
  rw [hE]
  clear hE
  have q_pack : (wd.toList == [112, 97, 99, 107]) = false := by rw [toL_eq, hx]; decide
  have q_round : (wd.toList == [114, 111, 117, 110, 100]) = false := by rw [toL_eq, hx]; decide
  have q_calc : (wd.toList == [99, 97, 108, 99]) = false := by rw [toL_eq, hx]; decide
  have q_key : (wd.toList == [107, 101, 121]) = true := by rw [toL_eq, hx]; decide
  have q_new : (wd.toList == [110, 101, 119]) = false := by rw [toL_eq, hx]; decide
  have q_read : (wd.toList == [114, 101, 97, 100]) = false := by rw [toL_eq, hx]; decide
  have q_perm : (wd.toList == [112, 101, 114, 109]) = false := by rw [toL_eq, hx]; decide
  have q_drop : (wd.toList == [100, 114, 111, 112]) = false := by rw [toL_eq, hx]; decide
  have hln := hl.len
  have HG := Lib.hid hg
  have HEN := Lib.hid henv
  have HL := Lib.hid hl
  have HLs := Lib.hid hs
  subst h1
  clear hg henv hl hs
  go_enter Tryz.func107, Tryz.ntmps107
  go_upto_region 1 with (fail)
  go_cut [8] (fun s8 wx => ∃ g1 g2, s8 = .map (some w.heap.size) ∧ wx.heap[w.heap.size]? = some (.map (mvEs g1 g2) 4) ∧ wx.cell? ⟨g1, 0, none⟩ = some (.func (.func 43) #[] #[]) ∧ wx.cell? ⟨g2, 0, none⟩ = some (.func (.func 46) #[] #[]) ∧ Below w.heap.size w wx)
  case first =>
    go_wp2_with (first
      | (refine wpList_mkm rfl 228 rfl ?_)
      | (refine wpList_ins rfl 228 9 226 (.tmp 20) (.const (.string ⟨#[109, 111, 118, 101]⟩)) (.func 129) rfl rfl mvU Tryz.underlying9 w.heap.size 0 #[] ⟨#[109, 111, 118, 101]⟩ (.func (.func 129) #[] #[]) rfl rfl rfl (World.alloc_heap_new w (.map #[] 0)) rfl ?_)
      | (refine wpList_ins rfl 228 9 226 (.tmp 20) (.const (.string ⟨#[110, 97, 114, 114, 111, 119]⟩)) (.func 130) rfl rfl mvU Tryz.underlying9 w.heap.size 1 #[⟨.string ⟨#[109, 111, 118, 101]⟩, .func (.func 129) #[] #[], 0⟩] ⟨#[110, 97, 114, 114, 111, 119]⟩ (.func (.func 130) #[] #[]) rfl rfl rfl (World.putObj_heap_same (by simp [World.putObj])) rfl ?_)
      | (go_at_call 131; ((with_reducible refine (sealer_sealE _).mono ?_); rintro e w5 ⟨g1, rfl, hc5, hl5, hb5⟩; have HM5 := Lib.hid (show w5.heap[w.heap.size]? = some (.map (mv2) 2) from (hb5.block w.heap.size (by simp [World.putObj])).trans (World.putObj_heap_same (by simp [World.putObj]))); have HB5 := Lib.hid (show Below w.heap.size w w5 from (below_putObj (below_putObj (ext_alloc (Below.refl _ _) _) (Nat.le_refl _)) (Nat.le_refl _)).trans (hb5.mono (by simp [World.putObj]))); have HG1 := Lib.hid (show w.heap.size < g1 from Nat.lt_of_lt_of_le (by simp [World.putObj]) hl5); have HC5 := Lib.hid hc5; clear hc5 hl5 hb5))
      | (refine wpList_ins rfl 228 9 226 (.tmp 20) (.const (.string ⟨#[115, 101, 97, 108]⟩)) (.tmp 21) rfl rfl mvU Tryz.underlying9 w.heap.size 2 #[⟨.string ⟨#[109, 111, 118, 101]⟩, .func (.func 129) #[] #[], 0⟩, ⟨.string ⟨#[110, 97, 114, 114, 111, 119]⟩, .func (.func 130) #[] #[], 1⟩] ⟨#[115, 101, 97, 108]⟩ (.func (.func 172) #[] #[.pointer (some ⟨g1, 0, none⟩)]) rfl rfl rfl HM5.out rfl ?_)
      | (go_at_call 131; ((with_reducible refine (sealer_openE _).mono ?_); rintro e w7 ⟨g2, rfl, hc7, hl7, hb7⟩; have HM7 := Lib.hid (show w7.heap[w.heap.size]? = some (.map (mv3 g1) 3) from (hb7.block w.heap.size (by have := (Array.getElem?_eq_some_iff.1 HM5.out).1; simp [World.putObj]; omega)).trans (World.putObj_heap_same (Array.getElem?_eq_some_iff.1 HM5.out).1)); have HB7 := Lib.hid (show Below w.heap.size w w7 from (below_putObj HB5.out (Nat.le_refl _)).trans (hb7.mono (by have := HB5.out.size; simp [World.putObj]; omega))); have HG2 := Lib.hid (show w.heap.size < g2 from Nat.lt_of_lt_of_le (by have := (Array.getElem?_eq_some_iff.1 HM5.out).1; simp [World.putObj]; omega) hl7); have HC7 := Lib.hid hc7; have HC57 := Lib.hid (below_cellD hb7 (a := ⟨g1, 0, none⟩) ((cell_putObjD (a := ⟨g1, 0, none⟩) (Nat.ne_of_gt HG1.out)).trans HC5.out) (Nat.le_refl _)); clear hc7 hl7 hb7))
      | (refine wpList_ins rfl 228 9 226 (.tmp 20) (.const (.string ⟨#[111, 112, 101, 110]⟩)) (.tmp 22) rfl rfl mvU Tryz.underlying9 w.heap.size 3 #[⟨.string ⟨#[109, 111, 118, 101]⟩, .func (.func 129) #[] #[], 0⟩, ⟨.string ⟨#[110, 97, 114, 114, 111, 119]⟩, .func (.func 130) #[] #[], 1⟩, ⟨.string ⟨#[115, 101, 97, 108]⟩, .func (.func 172) #[] #[.pointer (some ⟨g1, 0, none⟩)], 2⟩] ⟨#[111, 112, 101, 110]⟩ (.func (.func 172) #[] #[.pointer (some ⟨g2, 0, none⟩)]) rfl rfl rfl HM7.out rfl ?_))
    go_meet
    exact ⟨g1, g2, rfl, World.putObj_heap_same (Array.getElem?_eq_some_iff.1 HM7.out).1, (cell_putObjD (a := ⟨g1, 0, none⟩) (Nat.ne_of_gt HG1.out)).trans HC57.out, (cell_putObjD (a := ⟨g2, 0, none⟩) (Nat.ne_of_gt HG2.out)).trans HC7.out, below_putObj HB7.out (Nat.le_refl _)⟩
  case rest =>
    obtain ⟨g1, g2, rfl, hm, hc1, hc2, hb⟩ := hcut
    obtain ⟨w4, hw4⟩ : ∃ w4, w4 = wc := ⟨_, rfl⟩
    rw [← hw4] at hm hb hc1 hc2 ⊢
    have HM4 := Lib.hid hm
    have HBW := Lib.hid hb
    have HC1 := Lib.hid hc1
    have HC2 := Lib.hid hc2
    clear hm hb hc1 hc2 hw4
    have lk := mv_none HM4.out (by rw [hx]; decide) (by rw [hx]; decide) (by rw [hx]; decide) (by rw [hx]; decide)
    clear hx
    go_wp2
    go_ret2
    exact ⟨_, rfl, fun h => (by cases h), bk_keep HBW.out HG.out, FrD.of HBW.out⟩
set_option maxHeartbeats 4000000 in
set_option maxRecDepth 100000 in
theorem words_keyn (g : Nat) (k0 : KeyV) (hk : k0.wf) (wd : ByteArray) (ao : Option Addr) (n c : Nat) (l : List ByteArray) (w : World) (hg : Bk w g 153 (deskC k0)) (henv : ∀ W, FrD g w W → PEnv W) (hl : Sl w ao n l) (hs : ∀ s ∈ l, s.size ≤ 1000) (hx : wd.data.toList = wKey) (h0 : n ≠ 0) (h1 : n ≠ 1) :
    Calls Tryz.prog 107 #[.pointer (some ⟨g, 0, none⟩), .string wd, .slice ao n c] w (DeskPost g w (wordsF k0 wd.data.toList (bysL l))) := by
  have hE : wordsF k0 wd.data.toList (bysL l) = ⟨k0, [], 3⟩ := by have e := hl.len; unfold wordsF; rw [hx, if_neg (by decide), if_neg (by decide), if_neg (by decide), if_neg (by decide), if_neg (by decide), if_neg (by decide), if_neg (by rw [List.length_map]; omega), if_neg (by rw [List.length_map]; omega)]; rw [if_pos (by rw [List.length_map]; omega)]
  rw [hE]
  clear hE
  have q_pack : (wd.toList == [112, 97, 99, 107]) = false := by rw [toL_eq, hx]; decide
  have q_round : (wd.toList == [114, 111, 117, 110, 100]) = false := by rw [toL_eq, hx]; decide
  have q_calc : (wd.toList == [99, 97, 108, 99]) = false := by rw [toL_eq, hx]; decide
  have q_key : (wd.toList == [107, 101, 121]) = true := by rw [toL_eq, hx]; decide
  have q_new : (wd.toList == [110, 101, 119]) = false := by rw [toL_eq, hx]; decide
  have q_read : (wd.toList == [114, 101, 97, 100]) = false := by rw [toL_eq, hx]; decide
  have q_perm : (wd.toList == [112, 101, 114, 109]) = false := by rw [toL_eq, hx]; decide
  have q_drop : (wd.toList == [100, 114, 111, 112]) = false := by rw [toL_eq, hx]; decide
  have hln := hl.len
  have HG := Lib.hid hg
  have HEN := Lib.hid henv
  have HL := Lib.hid hl
  have HLs := Lib.hid hs
  have qn1 : ((n : Int) != 1) = true := by simp; omega
  have qn0 : ((n : Int) == 0) = false := beq_false_of_ne (by omega)
  clear hg henv hl hs
  go_enter Tryz.func107, Tryz.ntmps107
  go_upto_region 1 with (fail)
  go_cut [8] (fun s8 wx => ∃ g1 g2, s8 = .map (some w.heap.size) ∧ wx.heap[w.heap.size]? = some (.map (mvEs g1 g2) 4) ∧ wx.cell? ⟨g1, 0, none⟩ = some (.func (.func 43) #[] #[]) ∧ wx.cell? ⟨g2, 0, none⟩ = some (.func (.func 46) #[] #[]) ∧ Below w.heap.size w wx)
  case first =>
    go_wp2_with (first
      | (refine wpList_mkm rfl 228 rfl ?_)
      | (refine wpList_ins rfl 228 9 226 (.tmp 20) (.const (.string ⟨#[109, 111, 118, 101]⟩)) (.func 129) rfl rfl mvU Tryz.underlying9 w.heap.size 0 #[] ⟨#[109, 111, 118, 101]⟩ (.func (.func 129) #[] #[]) rfl rfl rfl (World.alloc_heap_new w (.map #[] 0)) rfl ?_)
      | (refine wpList_ins rfl 228 9 226 (.tmp 20) (.const (.string ⟨#[110, 97, 114, 114, 111, 119]⟩)) (.func 130) rfl rfl mvU Tryz.underlying9 w.heap.size 1 #[⟨.string ⟨#[109, 111, 118, 101]⟩, .func (.func 129) #[] #[], 0⟩] ⟨#[110, 97, 114, 114, 111, 119]⟩ (.func (.func 130) #[] #[]) rfl rfl rfl (World.putObj_heap_same (by simp [World.putObj])) rfl ?_)
      | (go_at_call 131; ((with_reducible refine (sealer_sealE _).mono ?_); rintro e w5 ⟨g1, rfl, hc5, hl5, hb5⟩; have HM5 := Lib.hid (show w5.heap[w.heap.size]? = some (.map (mv2) 2) from (hb5.block w.heap.size (by simp [World.putObj])).trans (World.putObj_heap_same (by simp [World.putObj]))); have HB5 := Lib.hid (show Below w.heap.size w w5 from (below_putObj (below_putObj (ext_alloc (Below.refl _ _) _) (Nat.le_refl _)) (Nat.le_refl _)).trans (hb5.mono (by simp [World.putObj]))); have HG1 := Lib.hid (show w.heap.size < g1 from Nat.lt_of_lt_of_le (by simp [World.putObj]) hl5); have HC5 := Lib.hid hc5; clear hc5 hl5 hb5))
      | (refine wpList_ins rfl 228 9 226 (.tmp 20) (.const (.string ⟨#[115, 101, 97, 108]⟩)) (.tmp 21) rfl rfl mvU Tryz.underlying9 w.heap.size 2 #[⟨.string ⟨#[109, 111, 118, 101]⟩, .func (.func 129) #[] #[], 0⟩, ⟨.string ⟨#[110, 97, 114, 114, 111, 119]⟩, .func (.func 130) #[] #[], 1⟩] ⟨#[115, 101, 97, 108]⟩ (.func (.func 172) #[] #[.pointer (some ⟨g1, 0, none⟩)]) rfl rfl rfl HM5.out rfl ?_)
      | (go_at_call 131; ((with_reducible refine (sealer_openE _).mono ?_); rintro e w7 ⟨g2, rfl, hc7, hl7, hb7⟩; have HM7 := Lib.hid (show w7.heap[w.heap.size]? = some (.map (mv3 g1) 3) from (hb7.block w.heap.size (by have := (Array.getElem?_eq_some_iff.1 HM5.out).1; simp [World.putObj]; omega)).trans (World.putObj_heap_same (Array.getElem?_eq_some_iff.1 HM5.out).1)); have HB7 := Lib.hid (show Below w.heap.size w w7 from (below_putObj HB5.out (Nat.le_refl _)).trans (hb7.mono (by have := HB5.out.size; simp [World.putObj]; omega))); have HG2 := Lib.hid (show w.heap.size < g2 from Nat.lt_of_lt_of_le (by have := (Array.getElem?_eq_some_iff.1 HM5.out).1; simp [World.putObj]; omega) hl7); have HC7 := Lib.hid hc7; have HC57 := Lib.hid (below_cellD hb7 (a := ⟨g1, 0, none⟩) ((cell_putObjD (a := ⟨g1, 0, none⟩) (Nat.ne_of_gt HG1.out)).trans HC5.out) (Nat.le_refl _)); clear hc7 hl7 hb7))
      | (refine wpList_ins rfl 228 9 226 (.tmp 20) (.const (.string ⟨#[111, 112, 101, 110]⟩)) (.tmp 22) rfl rfl mvU Tryz.underlying9 w.heap.size 3 #[⟨.string ⟨#[109, 111, 118, 101]⟩, .func (.func 129) #[] #[], 0⟩, ⟨.string ⟨#[110, 97, 114, 114, 111, 119]⟩, .func (.func 130) #[] #[], 1⟩, ⟨.string ⟨#[115, 101, 97, 108]⟩, .func (.func 172) #[] #[.pointer (some ⟨g1, 0, none⟩)], 2⟩] ⟨#[111, 112, 101, 110]⟩ (.func (.func 172) #[] #[.pointer (some ⟨g2, 0, none⟩)]) rfl rfl rfl HM7.out rfl ?_))
    go_meet
    exact ⟨g1, g2, rfl, World.putObj_heap_same (Array.getElem?_eq_some_iff.1 HM7.out).1, (cell_putObjD (a := ⟨g1, 0, none⟩) (Nat.ne_of_gt HG1.out)).trans HC57.out, (cell_putObjD (a := ⟨g2, 0, none⟩) (Nat.ne_of_gt HG2.out)).trans HC7.out, below_putObj HB7.out (Nat.le_refl _)⟩
  case rest =>
    obtain ⟨g1, g2, rfl, hm, hc1, hc2, hb⟩ := hcut
    obtain ⟨w4, hw4⟩ : ∃ w4, w4 = wc := ⟨_, rfl⟩
    rw [← hw4] at hm hb hc1 hc2 ⊢
    have HM4 := Lib.hid hm
    have HBW := Lib.hid hb
    have HC1 := Lib.hid hc1
    have HC2 := Lib.hid hc2
    clear hm hb hc1 hc2 hw4
    have lk := mv_none HM4.out (by rw [hx]; decide) (by rw [hx]; decide) (by rw [hx]; decide) (by rw [hx]; decide)
    clear hx
    go_wp2
    go_ret2
    exact ⟨_, rfl, fun h => (by cases h), bk_keep HBW.out HG.out, FrD.of HBW.out⟩
set_option maxHeartbeats 4000000 in
set_option maxRecDepth 100000 in
theorem words_new1 (g : Nat) (k0 : KeyV) (hk : k0.wf) (wd : ByteArray) (ao : Option Addr) (n c : Nat) (l : List ByteArray) (w : World) (hg : Bk w g 153 (deskC k0)) (henv : ∀ W, FrD g w W → PEnv W) (hl : Sl w ao n l) (hs : ∀ s ∈ l, s.size ≤ 1000) (hx : wd.data.toList = wNew) (h1 : n = 1) :
    Calls Tryz.prog 107 #[.pointer (some ⟨g, 0, none⟩), .string wd, .slice ao n c] w (DeskPost g w (wordsF k0 wd.data.toList (bysL l))) := by
  have hE : wordsF k0 wd.data.toList (bysL l) = ⟨k0, [], 3⟩ := by have e := hl.len; unfold wordsF; rw [hx, if_neg (by decide), if_neg (by decide), if_neg (by decide), if_neg (by decide), if_neg (by decide), if_neg (by decide), if_neg (by rw [List.length_map]; omega), if_neg (by rw [List.length_map]; omega)]; rw [if_neg (by rw [List.length_map]; omega), if_neg (by decide), if_neg (by decide), if_neg (by decide)]
  rw [hE]
  clear hE
  have q_pack : (wd.toList == [112, 97, 99, 107]) = false := by rw [toL_eq, hx]; decide
  have q_round : (wd.toList == [114, 111, 117, 110, 100]) = false := by rw [toL_eq, hx]; decide
  have q_calc : (wd.toList == [99, 97, 108, 99]) = false := by rw [toL_eq, hx]; decide
  have q_key : (wd.toList == [107, 101, 121]) = false := by rw [toL_eq, hx]; decide
  have q_new : (wd.toList == [110, 101, 119]) = true := by rw [toL_eq, hx]; decide
  have q_read : (wd.toList == [114, 101, 97, 100]) = false := by rw [toL_eq, hx]; decide
  have q_perm : (wd.toList == [112, 101, 114, 109]) = false := by rw [toL_eq, hx]; decide
  have q_drop : (wd.toList == [100, 114, 111, 112]) = false := by rw [toL_eq, hx]; decide
  have hln := hl.len
  have HG := Lib.hid hg
  have HEN := Lib.hid henv
  have HL := Lib.hid hl
  have HLs := Lib.hid hs
  subst h1
  clear hg henv hl hs
  go_enter Tryz.func107, Tryz.ntmps107
  go_upto_region 1 with (fail)
  go_cut [8] (fun s8 wx => ∃ g1 g2, s8 = .map (some w.heap.size) ∧ wx.heap[w.heap.size]? = some (.map (mvEs g1 g2) 4) ∧ wx.cell? ⟨g1, 0, none⟩ = some (.func (.func 43) #[] #[]) ∧ wx.cell? ⟨g2, 0, none⟩ = some (.func (.func 46) #[] #[]) ∧ Below w.heap.size w wx)
  case first =>
    go_wp2_with (first
      | (refine wpList_mkm rfl 228 rfl ?_)
      | (refine wpList_ins rfl 228 9 226 (.tmp 20) (.const (.string ⟨#[109, 111, 118, 101]⟩)) (.func 129) rfl rfl mvU Tryz.underlying9 w.heap.size 0 #[] ⟨#[109, 111, 118, 101]⟩ (.func (.func 129) #[] #[]) rfl rfl rfl (World.alloc_heap_new w (.map #[] 0)) rfl ?_)
      | (refine wpList_ins rfl 228 9 226 (.tmp 20) (.const (.string ⟨#[110, 97, 114, 114, 111, 119]⟩)) (.func 130) rfl rfl mvU Tryz.underlying9 w.heap.size 1 #[⟨.string ⟨#[109, 111, 118, 101]⟩, .func (.func 129) #[] #[], 0⟩] ⟨#[110, 97, 114, 114, 111, 119]⟩ (.func (.func 130) #[] #[]) rfl rfl rfl (World.putObj_heap_same (by simp [World.putObj])) rfl ?_)
      | (go_at_call 131; ((with_reducible refine (sealer_sealE _).mono ?_); rintro e w5 ⟨g1, rfl, hc5, hl5, hb5⟩; have HM5 := Lib.hid (show w5.heap[w.heap.size]? = some (.map (mv2) 2) from (hb5.block w.heap.size (by simp [World.putObj])).trans (World.putObj_heap_same (by simp [World.putObj]))); have HB5 := Lib.hid (show Below w.heap.size w w5 from (below_putObj (below_putObj (ext_alloc (Below.refl _ _) _) (Nat.le_refl _)) (Nat.le_refl _)).trans (hb5.mono (by simp [World.putObj]))); have HG1 := Lib.hid (show w.heap.size < g1 from Nat.lt_of_lt_of_le (by simp [World.putObj]) hl5); have HC5 := Lib.hid hc5; clear hc5 hl5 hb5))
      | (refine wpList_ins rfl 228 9 226 (.tmp 20) (.const (.string ⟨#[115, 101, 97, 108]⟩)) (.tmp 21) rfl rfl mvU Tryz.underlying9 w.heap.size 2 #[⟨.string ⟨#[109, 111, 118, 101]⟩, .func (.func 129) #[] #[], 0⟩, ⟨.string ⟨#[110, 97, 114, 114, 111, 119]⟩, .func (.func 130) #[] #[], 1⟩] ⟨#[115, 101, 97, 108]⟩ (.func (.func 172) #[] #[.pointer (some ⟨g1, 0, none⟩)]) rfl rfl rfl HM5.out rfl ?_)
      | (go_at_call 131; ((with_reducible refine (sealer_openE _).mono ?_); rintro e w7 ⟨g2, rfl, hc7, hl7, hb7⟩; have HM7 := Lib.hid (show w7.heap[w.heap.size]? = some (.map (mv3 g1) 3) from (hb7.block w.heap.size (by have := (Array.getElem?_eq_some_iff.1 HM5.out).1; simp [World.putObj]; omega)).trans (World.putObj_heap_same (Array.getElem?_eq_some_iff.1 HM5.out).1)); have HB7 := Lib.hid (show Below w.heap.size w w7 from (below_putObj HB5.out (Nat.le_refl _)).trans (hb7.mono (by have := HB5.out.size; simp [World.putObj]; omega))); have HG2 := Lib.hid (show w.heap.size < g2 from Nat.lt_of_lt_of_le (by have := (Array.getElem?_eq_some_iff.1 HM5.out).1; simp [World.putObj]; omega) hl7); have HC7 := Lib.hid hc7; have HC57 := Lib.hid (below_cellD hb7 (a := ⟨g1, 0, none⟩) ((cell_putObjD (a := ⟨g1, 0, none⟩) (Nat.ne_of_gt HG1.out)).trans HC5.out) (Nat.le_refl _)); clear hc7 hl7 hb7))
      | (refine wpList_ins rfl 228 9 226 (.tmp 20) (.const (.string ⟨#[111, 112, 101, 110]⟩)) (.tmp 22) rfl rfl mvU Tryz.underlying9 w.heap.size 3 #[⟨.string ⟨#[109, 111, 118, 101]⟩, .func (.func 129) #[] #[], 0⟩, ⟨.string ⟨#[110, 97, 114, 114, 111, 119]⟩, .func (.func 130) #[] #[], 1⟩, ⟨.string ⟨#[115, 101, 97, 108]⟩, .func (.func 172) #[] #[.pointer (some ⟨g1, 0, none⟩)], 2⟩] ⟨#[111, 112, 101, 110]⟩ (.func (.func 172) #[] #[.pointer (some ⟨g2, 0, none⟩)]) rfl rfl rfl HM7.out rfl ?_))
    go_meet
    exact ⟨g1, g2, rfl, World.putObj_heap_same (Array.getElem?_eq_some_iff.1 HM7.out).1, (cell_putObjD (a := ⟨g1, 0, none⟩) (Nat.ne_of_gt HG1.out)).trans HC57.out, (cell_putObjD (a := ⟨g2, 0, none⟩) (Nat.ne_of_gt HG2.out)).trans HC7.out, below_putObj HB7.out (Nat.le_refl _)⟩
  case rest =>
    obtain ⟨g1, g2, rfl, hm, hc1, hc2, hb⟩ := hcut
    obtain ⟨w4, hw4⟩ : ∃ w4, w4 = wc := ⟨_, rfl⟩
    rw [← hw4] at hm hb hc1 hc2 ⊢
    have HM4 := Lib.hid hm
    have HBW := Lib.hid hb
    have HC1 := Lib.hid hc1
    have HC2 := Lib.hid hc2
    clear hm hb hc1 hc2 hw4
    have lk := mv_none HM4.out (by rw [hx]; decide) (by rw [hx]; decide) (by rw [hx]; decide) (by rw [hx]; decide)
    clear hx
    go_wp2
    go_ret2
    exact ⟨_, rfl, fun h => (by cases h), bk_keep HBW.out HG.out, FrD.of HBW.out⟩
set_option maxHeartbeats 4000000 in
set_option maxRecDepth 100000 in
theorem words_newn (g : Nat) (k0 : KeyV) (hk : k0.wf) (wd : ByteArray) (ao : Option Addr) (n c : Nat) (l : List ByteArray) (w : World) (hg : Bk w g 153 (deskC k0)) (henv : ∀ W, FrD g w W → PEnv W) (hl : Sl w ao n l) (hs : ∀ s ∈ l, s.size ≤ 1000) (hx : wd.data.toList = wNew) (h0 : n ≠ 0) (h1 : n ≠ 1) :
    Calls Tryz.prog 107 #[.pointer (some ⟨g, 0, none⟩), .string wd, .slice ao n c] w (DeskPost g w (wordsF k0 wd.data.toList (bysL l))) := by
  have hE : wordsF k0 wd.data.toList (bysL l) = ⟨k0, [], 3⟩ := by have e := hl.len; unfold wordsF; rw [hx, if_neg (by decide), if_neg (by decide), if_neg (by decide), if_neg (by decide), if_neg (by decide), if_neg (by decide), if_neg (by rw [List.length_map]; omega), if_neg (by rw [List.length_map]; omega)]; rw [if_pos (by rw [List.length_map]; omega)]
  rw [hE]
  clear hE
  have q_pack : (wd.toList == [112, 97, 99, 107]) = false := by rw [toL_eq, hx]; decide
  have q_round : (wd.toList == [114, 111, 117, 110, 100]) = false := by rw [toL_eq, hx]; decide
  have q_calc : (wd.toList == [99, 97, 108, 99]) = false := by rw [toL_eq, hx]; decide
  have q_key : (wd.toList == [107, 101, 121]) = false := by rw [toL_eq, hx]; decide
  have q_new : (wd.toList == [110, 101, 119]) = true := by rw [toL_eq, hx]; decide
  have q_read : (wd.toList == [114, 101, 97, 100]) = false := by rw [toL_eq, hx]; decide
  have q_perm : (wd.toList == [112, 101, 114, 109]) = false := by rw [toL_eq, hx]; decide
  have q_drop : (wd.toList == [100, 114, 111, 112]) = false := by rw [toL_eq, hx]; decide
  have hln := hl.len
  have HG := Lib.hid hg
  have HEN := Lib.hid henv
  have HL := Lib.hid hl
  have HLs := Lib.hid hs
  have qn1 : ((n : Int) != 1) = true := by simp; omega
  have qn0 : ((n : Int) == 0) = false := beq_false_of_ne (by omega)
  clear hg henv hl hs
  go_enter Tryz.func107, Tryz.ntmps107
  go_upto_region 1 with (fail)
  go_cut [8] (fun s8 wx => ∃ g1 g2, s8 = .map (some w.heap.size) ∧ wx.heap[w.heap.size]? = some (.map (mvEs g1 g2) 4) ∧ wx.cell? ⟨g1, 0, none⟩ = some (.func (.func 43) #[] #[]) ∧ wx.cell? ⟨g2, 0, none⟩ = some (.func (.func 46) #[] #[]) ∧ Below w.heap.size w wx)
  case first =>
    go_wp2_with (first
      | (refine wpList_mkm rfl 228 rfl ?_)
      | (refine wpList_ins rfl 228 9 226 (.tmp 20) (.const (.string ⟨#[109, 111, 118, 101]⟩)) (.func 129) rfl rfl mvU Tryz.underlying9 w.heap.size 0 #[] ⟨#[109, 111, 118, 101]⟩ (.func (.func 129) #[] #[]) rfl rfl rfl (World.alloc_heap_new w (.map #[] 0)) rfl ?_)
      | (refine wpList_ins rfl 228 9 226 (.tmp 20) (.const (.string ⟨#[110, 97, 114, 114, 111, 119]⟩)) (.func 130) rfl rfl mvU Tryz.underlying9 w.heap.size 1 #[⟨.string ⟨#[109, 111, 118, 101]⟩, .func (.func 129) #[] #[], 0⟩] ⟨#[110, 97, 114, 114, 111, 119]⟩ (.func (.func 130) #[] #[]) rfl rfl rfl (World.putObj_heap_same (by simp [World.putObj])) rfl ?_)
      | (go_at_call 131; ((with_reducible refine (sealer_sealE _).mono ?_); rintro e w5 ⟨g1, rfl, hc5, hl5, hb5⟩; have HM5 := Lib.hid (show w5.heap[w.heap.size]? = some (.map (mv2) 2) from (hb5.block w.heap.size (by simp [World.putObj])).trans (World.putObj_heap_same (by simp [World.putObj]))); have HB5 := Lib.hid (show Below w.heap.size w w5 from (below_putObj (below_putObj (ext_alloc (Below.refl _ _) _) (Nat.le_refl _)) (Nat.le_refl _)).trans (hb5.mono (by simp [World.putObj]))); have HG1 := Lib.hid (show w.heap.size < g1 from Nat.lt_of_lt_of_le (by simp [World.putObj]) hl5); have HC5 := Lib.hid hc5; clear hc5 hl5 hb5))
      | (refine wpList_ins rfl 228 9 226 (.tmp 20) (.const (.string ⟨#[115, 101, 97, 108]⟩)) (.tmp 21) rfl rfl mvU Tryz.underlying9 w.heap.size 2 #[⟨.string ⟨#[109, 111, 118, 101]⟩, .func (.func 129) #[] #[], 0⟩, ⟨.string ⟨#[110, 97, 114, 114, 111, 119]⟩, .func (.func 130) #[] #[], 1⟩] ⟨#[115, 101, 97, 108]⟩ (.func (.func 172) #[] #[.pointer (some ⟨g1, 0, none⟩)]) rfl rfl rfl HM5.out rfl ?_)
      | (go_at_call 131; ((with_reducible refine (sealer_openE _).mono ?_); rintro e w7 ⟨g2, rfl, hc7, hl7, hb7⟩; have HM7 := Lib.hid (show w7.heap[w.heap.size]? = some (.map (mv3 g1) 3) from (hb7.block w.heap.size (by have := (Array.getElem?_eq_some_iff.1 HM5.out).1; simp [World.putObj]; omega)).trans (World.putObj_heap_same (Array.getElem?_eq_some_iff.1 HM5.out).1)); have HB7 := Lib.hid (show Below w.heap.size w w7 from (below_putObj HB5.out (Nat.le_refl _)).trans (hb7.mono (by have := HB5.out.size; simp [World.putObj]; omega))); have HG2 := Lib.hid (show w.heap.size < g2 from Nat.lt_of_lt_of_le (by have := (Array.getElem?_eq_some_iff.1 HM5.out).1; simp [World.putObj]; omega) hl7); have HC7 := Lib.hid hc7; have HC57 := Lib.hid (below_cellD hb7 (a := ⟨g1, 0, none⟩) ((cell_putObjD (a := ⟨g1, 0, none⟩) (Nat.ne_of_gt HG1.out)).trans HC5.out) (Nat.le_refl _)); clear hc7 hl7 hb7))
      | (refine wpList_ins rfl 228 9 226 (.tmp 20) (.const (.string ⟨#[111, 112, 101, 110]⟩)) (.tmp 22) rfl rfl mvU Tryz.underlying9 w.heap.size 3 #[⟨.string ⟨#[109, 111, 118, 101]⟩, .func (.func 129) #[] #[], 0⟩, ⟨.string ⟨#[110, 97, 114, 114, 111, 119]⟩, .func (.func 130) #[] #[], 1⟩, ⟨.string ⟨#[115, 101, 97, 108]⟩, .func (.func 172) #[] #[.pointer (some ⟨g1, 0, none⟩)], 2⟩] ⟨#[111, 112, 101, 110]⟩ (.func (.func 172) #[] #[.pointer (some ⟨g2, 0, none⟩)]) rfl rfl rfl HM7.out rfl ?_))
    go_meet
    exact ⟨g1, g2, rfl, World.putObj_heap_same (Array.getElem?_eq_some_iff.1 HM7.out).1, (cell_putObjD (a := ⟨g1, 0, none⟩) (Nat.ne_of_gt HG1.out)).trans HC57.out, (cell_putObjD (a := ⟨g2, 0, none⟩) (Nat.ne_of_gt HG2.out)).trans HC7.out, below_putObj HB7.out (Nat.le_refl _)⟩
  case rest =>
    obtain ⟨g1, g2, rfl, hm, hc1, hc2, hb⟩ := hcut
    obtain ⟨w4, hw4⟩ : ∃ w4, w4 = wc := ⟨_, rfl⟩
    rw [← hw4] at hm hb hc1 hc2 ⊢
    have HM4 := Lib.hid hm
    have HBW := Lib.hid hb
    have HC1 := Lib.hid hc1
    have HC2 := Lib.hid hc2
    clear hm hb hc1 hc2 hw4
    have lk := mv_none HM4.out (by rw [hx]; decide) (by rw [hx]; decide) (by rw [hx]; decide) (by rw [hx]; decide)
    clear hx
    go_wp2
    go_ret2
    exact ⟨_, rfl, fun h => (by cases h), bk_keep HBW.out HG.out, FrD.of HBW.out⟩
set_option maxHeartbeats 4000000 in
set_option maxRecDepth 100000 in
theorem words_len (g : Nat) (k0 : KeyV) (hk : k0.wf) (wd : ByteArray) (ao : Option Addr) (n c : Nat) (l : List ByteArray) (w : World) (hg : Bk w g 153 (deskC k0)) (henv : ∀ W, FrD g w W → PEnv W) (hl : Sl w ao n l) (hs : ∀ s ∈ l, s.size ≤ 1000) (h1 : wd.data.toList ≠ wMove) (h2 : wd.data.toList ≠ wNarrow) (h3 : wd.data.toList ≠ wSeal) (h4 : wd.data.toList ≠ wOpen) (h5 : wd.data.toList ≠ wPack) (h6 : wd.data.toList ≠ wRound) (h7 : wd.data.toList ≠ wCalc) (h8 : wd.data.toList ≠ wKey) (h9 : wd.data.toList ≠ wNew) (hn1 : n ≠ 1) :
    Calls Tryz.prog 107 #[.pointer (some ⟨g, 0, none⟩), .string wd, .slice ao n c] w (DeskPost g w (wordsF k0 wd.data.toList (bysL l))) := by
  have hE : wordsF k0 wd.data.toList (bysL l) = ⟨k0, [], 3⟩ := by have e := hl.len; unfold wordsF; rw [if_neg h1, if_neg h2, if_neg h3, if_neg h4, if_neg h5, if_neg (fun h => h.elim h6 h7), if_neg (fun h => h8 h.1), if_neg (fun h => h9 h.1)]; rw [if_pos (by rw [List.length_map]; omega)]
  rw [hE]
  clear hE
  have q_pack : (wd.toList == [112, 97, 99, 107]) = false := by rw [toL_eq]; exact decide_eq_false h5
  have q_round : (wd.toList == [114, 111, 117, 110, 100]) = false := by rw [toL_eq]; exact decide_eq_false h6
  have q_calc : (wd.toList == [99, 97, 108, 99]) = false := by rw [toL_eq]; exact decide_eq_false h7
  have q_key : (wd.toList == [107, 101, 121]) = false := by rw [toL_eq]; exact decide_eq_false h8
  have q_new : (wd.toList == [110, 101, 119]) = false := by rw [toL_eq]; exact decide_eq_false h9
  have hln := hl.len
  have HG := Lib.hid hg
  have HEN := Lib.hid henv
  have HL := Lib.hid hl
  have HLs := Lib.hid hs
  have qn1 : ((n : Int) != 1) = true := by simp; omega
  clear hg henv hl hs
  go_enter Tryz.func107, Tryz.ntmps107
  go_upto_region 1 with (fail)
  go_cut [8] (fun s8 wx => ∃ g1 g2, s8 = .map (some w.heap.size) ∧ wx.heap[w.heap.size]? = some (.map (mvEs g1 g2) 4) ∧ wx.cell? ⟨g1, 0, none⟩ = some (.func (.func 43) #[] #[]) ∧ wx.cell? ⟨g2, 0, none⟩ = some (.func (.func 46) #[] #[]) ∧ Below w.heap.size w wx)
  case first =>
    go_wp2_with (first
      | (refine wpList_mkm rfl 228 rfl ?_)
      | (refine wpList_ins rfl 228 9 226 (.tmp 20) (.const (.string ⟨#[109, 111, 118, 101]⟩)) (.func 129) rfl rfl mvU Tryz.underlying9 w.heap.size 0 #[] ⟨#[109, 111, 118, 101]⟩ (.func (.func 129) #[] #[]) rfl rfl rfl (World.alloc_heap_new w (.map #[] 0)) rfl ?_)
      | (refine wpList_ins rfl 228 9 226 (.tmp 20) (.const (.string ⟨#[110, 97, 114, 114, 111, 119]⟩)) (.func 130) rfl rfl mvU Tryz.underlying9 w.heap.size 1 #[⟨.string ⟨#[109, 111, 118, 101]⟩, .func (.func 129) #[] #[], 0⟩] ⟨#[110, 97, 114, 114, 111, 119]⟩ (.func (.func 130) #[] #[]) rfl rfl rfl (World.putObj_heap_same (by simp [World.putObj])) rfl ?_)
      | (go_at_call 131; ((with_reducible refine (sealer_sealE _).mono ?_); rintro e w5 ⟨g1, rfl, hc5, hl5, hb5⟩; have HM5 := Lib.hid (show w5.heap[w.heap.size]? = some (.map (mv2) 2) from (hb5.block w.heap.size (by simp [World.putObj])).trans (World.putObj_heap_same (by simp [World.putObj]))); have HB5 := Lib.hid (show Below w.heap.size w w5 from (below_putObj (below_putObj (ext_alloc (Below.refl _ _) _) (Nat.le_refl _)) (Nat.le_refl _)).trans (hb5.mono (by simp [World.putObj]))); have HG1 := Lib.hid (show w.heap.size < g1 from Nat.lt_of_lt_of_le (by simp [World.putObj]) hl5); have HC5 := Lib.hid hc5; clear hc5 hl5 hb5))
      | (refine wpList_ins rfl 228 9 226 (.tmp 20) (.const (.string ⟨#[115, 101, 97, 108]⟩)) (.tmp 21) rfl rfl mvU Tryz.underlying9 w.heap.size 2 #[⟨.string ⟨#[109, 111, 118, 101]⟩, .func (.func 129) #[] #[], 0⟩, ⟨.string ⟨#[110, 97, 114, 114, 111, 119]⟩, .func (.func 130) #[] #[], 1⟩] ⟨#[115, 101, 97, 108]⟩ (.func (.func 172) #[] #[.pointer (some ⟨g1, 0, none⟩)]) rfl rfl rfl HM5.out rfl ?_)
      | (go_at_call 131; ((with_reducible refine (sealer_openE _).mono ?_); rintro e w7 ⟨g2, rfl, hc7, hl7, hb7⟩; have HM7 := Lib.hid (show w7.heap[w.heap.size]? = some (.map (mv3 g1) 3) from (hb7.block w.heap.size (by have := (Array.getElem?_eq_some_iff.1 HM5.out).1; simp [World.putObj]; omega)).trans (World.putObj_heap_same (Array.getElem?_eq_some_iff.1 HM5.out).1)); have HB7 := Lib.hid (show Below w.heap.size w w7 from (below_putObj HB5.out (Nat.le_refl _)).trans (hb7.mono (by have := HB5.out.size; simp [World.putObj]; omega))); have HG2 := Lib.hid (show w.heap.size < g2 from Nat.lt_of_lt_of_le (by have := (Array.getElem?_eq_some_iff.1 HM5.out).1; simp [World.putObj]; omega) hl7); have HC7 := Lib.hid hc7; have HC57 := Lib.hid (below_cellD hb7 (a := ⟨g1, 0, none⟩) ((cell_putObjD (a := ⟨g1, 0, none⟩) (Nat.ne_of_gt HG1.out)).trans HC5.out) (Nat.le_refl _)); clear hc7 hl7 hb7))
      | (refine wpList_ins rfl 228 9 226 (.tmp 20) (.const (.string ⟨#[111, 112, 101, 110]⟩)) (.tmp 22) rfl rfl mvU Tryz.underlying9 w.heap.size 3 #[⟨.string ⟨#[109, 111, 118, 101]⟩, .func (.func 129) #[] #[], 0⟩, ⟨.string ⟨#[110, 97, 114, 114, 111, 119]⟩, .func (.func 130) #[] #[], 1⟩, ⟨.string ⟨#[115, 101, 97, 108]⟩, .func (.func 172) #[] #[.pointer (some ⟨g1, 0, none⟩)], 2⟩] ⟨#[111, 112, 101, 110]⟩ (.func (.func 172) #[] #[.pointer (some ⟨g2, 0, none⟩)]) rfl rfl rfl HM7.out rfl ?_))
    go_meet
    exact ⟨g1, g2, rfl, World.putObj_heap_same (Array.getElem?_eq_some_iff.1 HM7.out).1, (cell_putObjD (a := ⟨g1, 0, none⟩) (Nat.ne_of_gt HG1.out)).trans HC57.out, (cell_putObjD (a := ⟨g2, 0, none⟩) (Nat.ne_of_gt HG2.out)).trans HC7.out, below_putObj HB7.out (Nat.le_refl _)⟩
  case rest =>
    obtain ⟨g1, g2, rfl, hm, hc1, hc2, hb⟩ := hcut
    obtain ⟨w4, hw4⟩ : ∃ w4, w4 = wc := ⟨_, rfl⟩
    rw [← hw4] at hm hb hc1 hc2 ⊢
    have HM4 := Lib.hid hm
    have HBW := Lib.hid hb
    have HC1 := Lib.hid hc1
    have HC2 := Lib.hid hc2
    clear hm hb hc1 hc2 hw4
    have lk := mv_none HM4.out h1 h2 h3 h4
    clear h1 h2 h3 h4 h5 h6 h7 h8 h9
    go_wp2
    go_ret2
    exact ⟨_, rfl, fun h => (by cases h), bk_keep HBW.out HG.out, FrD.of HBW.out⟩
set_option maxHeartbeats 4000000 in
set_option maxRecDepth 100000 in
theorem words_else (g : Nat) (k0 : KeyV) (hk : k0.wf) (wd : ByteArray) (ao : Option Addr) (n c : Nat) (l : List ByteArray) (w : World) (hg : Bk w g 153 (deskC k0)) (henv : ∀ W, FrD g w W → PEnv W) (hl : Sl w ao n l) (hs : ∀ s ∈ l, s.size ≤ 1000) (h1 : wd.data.toList ≠ wMove) (h2 : wd.data.toList ≠ wNarrow) (h3 : wd.data.toList ≠ wSeal) (h4 : wd.data.toList ≠ wOpen) (h5 : wd.data.toList ≠ wPack) (h6 : wd.data.toList ≠ wRound) (h7 : wd.data.toList ≠ wCalc) (h8 : wd.data.toList ≠ wKey) (h9 : wd.data.toList ≠ wNew) (hn1 : n = 1) (hA : wd.data.toList ≠ wRead) (hB : wd.data.toList ≠ wPerm) (hC : wd.data.toList ≠ wDrop) :
    Calls Tryz.prog 107 #[.pointer (some ⟨g, 0, none⟩), .string wd, .slice ao n c] w (DeskPost g w (wordsF k0 wd.data.toList (bysL l))) := by
  have hE : wordsF k0 wd.data.toList (bysL l) = ⟨k0, [], 3⟩ := by have e := hl.len; unfold wordsF; rw [if_neg h1, if_neg h2, if_neg h3, if_neg h4, if_neg h5, if_neg (fun h => h.elim h6 h7), if_neg (fun h => h8 h.1), if_neg (fun h => h9 h.1)]; rw [if_neg (by rw [List.length_map]; omega), if_neg hA, if_neg hB, if_neg hC]
  rw [hE]
  clear hE
  have q_pack : (wd.toList == [112, 97, 99, 107]) = false := by rw [toL_eq]; exact decide_eq_false h5
  have q_round : (wd.toList == [114, 111, 117, 110, 100]) = false := by rw [toL_eq]; exact decide_eq_false h6
  have q_calc : (wd.toList == [99, 97, 108, 99]) = false := by rw [toL_eq]; exact decide_eq_false h7
  have q_key : (wd.toList == [107, 101, 121]) = false := by rw [toL_eq]; exact decide_eq_false h8
  have q_new : (wd.toList == [110, 101, 119]) = false := by rw [toL_eq]; exact decide_eq_false h9
  have q_read : (wd.toList == [114, 101, 97, 100]) = false := by rw [toL_eq]; exact decide_eq_false hA
  have q_perm : (wd.toList == [112, 101, 114, 109]) = false := by rw [toL_eq]; exact decide_eq_false hB
  have q_drop : (wd.toList == [100, 114, 111, 112]) = false := by rw [toL_eq]; exact decide_eq_false hC
  have hln := hl.len
  have HG := Lib.hid hg
  have HEN := Lib.hid henv
  have HL := Lib.hid hl
  have HLs := Lib.hid hs
  subst hn1
  clear hA hB hC
  clear hg henv hl hs
  go_enter Tryz.func107, Tryz.ntmps107
  go_upto_region 1 with (fail)
  go_cut [8] (fun s8 wx => ∃ g1 g2, s8 = .map (some w.heap.size) ∧ wx.heap[w.heap.size]? = some (.map (mvEs g1 g2) 4) ∧ wx.cell? ⟨g1, 0, none⟩ = some (.func (.func 43) #[] #[]) ∧ wx.cell? ⟨g2, 0, none⟩ = some (.func (.func 46) #[] #[]) ∧ Below w.heap.size w wx)
  case first =>
    go_wp2_with (first
      | (refine wpList_mkm rfl 228 rfl ?_)
      | (refine wpList_ins rfl 228 9 226 (.tmp 20) (.const (.string ⟨#[109, 111, 118, 101]⟩)) (.func 129) rfl rfl mvU Tryz.underlying9 w.heap.size 0 #[] ⟨#[109, 111, 118, 101]⟩ (.func (.func 129) #[] #[]) rfl rfl rfl (World.alloc_heap_new w (.map #[] 0)) rfl ?_)
      | (refine wpList_ins rfl 228 9 226 (.tmp 20) (.const (.string ⟨#[110, 97, 114, 114, 111, 119]⟩)) (.func 130) rfl rfl mvU Tryz.underlying9 w.heap.size 1 #[⟨.string ⟨#[109, 111, 118, 101]⟩, .func (.func 129) #[] #[], 0⟩] ⟨#[110, 97, 114, 114, 111, 119]⟩ (.func (.func 130) #[] #[]) rfl rfl rfl (World.putObj_heap_same (by simp [World.putObj])) rfl ?_)
      | (go_at_call 131; ((with_reducible refine (sealer_sealE _).mono ?_); rintro e w5 ⟨g1, rfl, hc5, hl5, hb5⟩; have HM5 := Lib.hid (show w5.heap[w.heap.size]? = some (.map (mv2) 2) from (hb5.block w.heap.size (by simp [World.putObj])).trans (World.putObj_heap_same (by simp [World.putObj]))); have HB5 := Lib.hid (show Below w.heap.size w w5 from (below_putObj (below_putObj (ext_alloc (Below.refl _ _) _) (Nat.le_refl _)) (Nat.le_refl _)).trans (hb5.mono (by simp [World.putObj]))); have HG1 := Lib.hid (show w.heap.size < g1 from Nat.lt_of_lt_of_le (by simp [World.putObj]) hl5); have HC5 := Lib.hid hc5; clear hc5 hl5 hb5))
      | (refine wpList_ins rfl 228 9 226 (.tmp 20) (.const (.string ⟨#[115, 101, 97, 108]⟩)) (.tmp 21) rfl rfl mvU Tryz.underlying9 w.heap.size 2 #[⟨.string ⟨#[109, 111, 118, 101]⟩, .func (.func 129) #[] #[], 0⟩, ⟨.string ⟨#[110, 97, 114, 114, 111, 119]⟩, .func (.func 130) #[] #[], 1⟩] ⟨#[115, 101, 97, 108]⟩ (.func (.func 172) #[] #[.pointer (some ⟨g1, 0, none⟩)]) rfl rfl rfl HM5.out rfl ?_)
      | (go_at_call 131; ((with_reducible refine (sealer_openE _).mono ?_); rintro e w7 ⟨g2, rfl, hc7, hl7, hb7⟩; have HM7 := Lib.hid (show w7.heap[w.heap.size]? = some (.map (mv3 g1) 3) from (hb7.block w.heap.size (by have := (Array.getElem?_eq_some_iff.1 HM5.out).1; simp [World.putObj]; omega)).trans (World.putObj_heap_same (Array.getElem?_eq_some_iff.1 HM5.out).1)); have HB7 := Lib.hid (show Below w.heap.size w w7 from (below_putObj HB5.out (Nat.le_refl _)).trans (hb7.mono (by have := HB5.out.size; simp [World.putObj]; omega))); have HG2 := Lib.hid (show w.heap.size < g2 from Nat.lt_of_lt_of_le (by have := (Array.getElem?_eq_some_iff.1 HM5.out).1; simp [World.putObj]; omega) hl7); have HC7 := Lib.hid hc7; have HC57 := Lib.hid (below_cellD hb7 (a := ⟨g1, 0, none⟩) ((cell_putObjD (a := ⟨g1, 0, none⟩) (Nat.ne_of_gt HG1.out)).trans HC5.out) (Nat.le_refl _)); clear hc7 hl7 hb7))
      | (refine wpList_ins rfl 228 9 226 (.tmp 20) (.const (.string ⟨#[111, 112, 101, 110]⟩)) (.tmp 22) rfl rfl mvU Tryz.underlying9 w.heap.size 3 #[⟨.string ⟨#[109, 111, 118, 101]⟩, .func (.func 129) #[] #[], 0⟩, ⟨.string ⟨#[110, 97, 114, 114, 111, 119]⟩, .func (.func 130) #[] #[], 1⟩, ⟨.string ⟨#[115, 101, 97, 108]⟩, .func (.func 172) #[] #[.pointer (some ⟨g1, 0, none⟩)], 2⟩] ⟨#[111, 112, 101, 110]⟩ (.func (.func 172) #[] #[.pointer (some ⟨g2, 0, none⟩)]) rfl rfl rfl HM7.out rfl ?_))
    go_meet
    exact ⟨g1, g2, rfl, World.putObj_heap_same (Array.getElem?_eq_some_iff.1 HM7.out).1, (cell_putObjD (a := ⟨g1, 0, none⟩) (Nat.ne_of_gt HG1.out)).trans HC57.out, (cell_putObjD (a := ⟨g2, 0, none⟩) (Nat.ne_of_gt HG2.out)).trans HC7.out, below_putObj HB7.out (Nat.le_refl _)⟩
  case rest =>
    obtain ⟨g1, g2, rfl, hm, hc1, hc2, hb⟩ := hcut
    obtain ⟨w4, hw4⟩ : ∃ w4, w4 = wc := ⟨_, rfl⟩
    rw [← hw4] at hm hb hc1 hc2 ⊢
    have HM4 := Lib.hid hm
    have HBW := Lib.hid hb
    have HC1 := Lib.hid hc1
    have HC2 := Lib.hid hc2
    clear hm hb hc1 hc2 hw4
    have lk := mv_none HM4.out h1 h2 h3 h4
    clear h1 h2 h3 h4 h5 h6 h7 h8 h9
    go_wp2
    go_ret2
    exact ⟨_, rfl, fun h => (by cases h), bk_keep HBW.out HG.out, FrD.of HBW.out⟩
set_option maxHeartbeats 4000000 in
set_option maxRecDepth 100000 in
theorem words_read_no (g : Nat) (k0 : KeyV) (hk : k0.wf) (wd : ByteArray) (ao : Option Addr) (c : Nat) (x : ByteArray) (w : World) (hg : Bk w g 153 (deskC k0)) (henv : ∀ W, FrD g w W → PEnv W) (hl : Sl w ao 1 [x]) (hs : ∀ s ∈ [x], s.size ≤ 1000) (hx : wd.data.toList = wRead) (hb_ : numB x.data.toList = false) :
    Calls Tryz.prog 107 #[.pointer (some ⟨g, 0, none⟩), .string wd, .slice ao 1 c] w (DeskPost g w (wordsF k0 wd.data.toList (bysL [x]))) := by
  have hE : wordsF k0 wd.data.toList (bysL [x]) = ⟨k0, [], 3⟩ := by unfold wordsF; rw [hx, if_neg (by decide), if_neg (by decide), if_neg (by decide), if_neg (by decide), if_neg (by decide), if_neg (by decide), if_neg (fun h => absurd h.1 (by decide)), if_neg (fun h => absurd h.1 (by decide)), if_neg (fun h => h rfl)]; rw [if_pos rfl]; show DeskR.mk _ (readS x.data.toList).1 (readS x.data.toList).2 = _; unfold readS; rw [if_neg (by rw [hb_]; decide)]
  rw [hE]
  clear hE
  have q_pack : (wd.toList == [112, 97, 99, 107]) = false := by rw [toL_eq, hx]; decide
  have q_round : (wd.toList == [114, 111, 117, 110, 100]) = false := by rw [toL_eq, hx]; decide
  have q_calc : (wd.toList == [99, 97, 108, 99]) = false := by rw [toL_eq, hx]; decide
  have q_key : (wd.toList == [107, 101, 121]) = false := by rw [toL_eq, hx]; decide
  have q_new : (wd.toList == [110, 101, 119]) = false := by rw [toL_eq, hx]; decide
  have q_read : (wd.toList == [114, 101, 97, 100]) = true := by rw [toL_eq, hx]; decide
  have q_perm : (wd.toList == [112, 101, 114, 109]) = false := by rw [toL_eq, hx]; decide
  have q_drop : (wd.toList == [100, 114, 111, 112]) = false := by rw [toL_eq, hx]; decide
  have hln := hl.len
  have HG := Lib.hid hg
  have HEN := Lib.hid henv
  have HL := Lib.hid hl
  have HLs := Lib.hid hs
  clear hg henv hl hs
  go_enter Tryz.func107, Tryz.ntmps107
  go_upto_region 1 with (fail)
  go_cut [8] (fun s8 wx => ∃ g1 g2, s8 = .map (some w.heap.size) ∧ wx.heap[w.heap.size]? = some (.map (mvEs g1 g2) 4) ∧ wx.cell? ⟨g1, 0, none⟩ = some (.func (.func 43) #[] #[]) ∧ wx.cell? ⟨g2, 0, none⟩ = some (.func (.func 46) #[] #[]) ∧ Below w.heap.size w wx)
  case first =>
    go_wp2_with (first
      | (refine wpList_mkm rfl 228 rfl ?_)
      | (refine wpList_ins rfl 228 9 226 (.tmp 20) (.const (.string ⟨#[109, 111, 118, 101]⟩)) (.func 129) rfl rfl mvU Tryz.underlying9 w.heap.size 0 #[] ⟨#[109, 111, 118, 101]⟩ (.func (.func 129) #[] #[]) rfl rfl rfl (World.alloc_heap_new w (.map #[] 0)) rfl ?_)
      | (refine wpList_ins rfl 228 9 226 (.tmp 20) (.const (.string ⟨#[110, 97, 114, 114, 111, 119]⟩)) (.func 130) rfl rfl mvU Tryz.underlying9 w.heap.size 1 #[⟨.string ⟨#[109, 111, 118, 101]⟩, .func (.func 129) #[] #[], 0⟩] ⟨#[110, 97, 114, 114, 111, 119]⟩ (.func (.func 130) #[] #[]) rfl rfl rfl (World.putObj_heap_same (by simp [World.putObj])) rfl ?_)
      | (go_at_call 131; ((with_reducible refine (sealer_sealE _).mono ?_); rintro e w5 ⟨g1, rfl, hc5, hl5, hb5⟩; have HM5 := Lib.hid (show w5.heap[w.heap.size]? = some (.map (mv2) 2) from (hb5.block w.heap.size (by simp [World.putObj])).trans (World.putObj_heap_same (by simp [World.putObj]))); have HB5 := Lib.hid (show Below w.heap.size w w5 from (below_putObj (below_putObj (ext_alloc (Below.refl _ _) _) (Nat.le_refl _)) (Nat.le_refl _)).trans (hb5.mono (by simp [World.putObj]))); have HG1 := Lib.hid (show w.heap.size < g1 from Nat.lt_of_lt_of_le (by simp [World.putObj]) hl5); have HC5 := Lib.hid hc5; clear hc5 hl5 hb5))
      | (refine wpList_ins rfl 228 9 226 (.tmp 20) (.const (.string ⟨#[115, 101, 97, 108]⟩)) (.tmp 21) rfl rfl mvU Tryz.underlying9 w.heap.size 2 #[⟨.string ⟨#[109, 111, 118, 101]⟩, .func (.func 129) #[] #[], 0⟩, ⟨.string ⟨#[110, 97, 114, 114, 111, 119]⟩, .func (.func 130) #[] #[], 1⟩] ⟨#[115, 101, 97, 108]⟩ (.func (.func 172) #[] #[.pointer (some ⟨g1, 0, none⟩)]) rfl rfl rfl HM5.out rfl ?_)
      | (go_at_call 131; ((with_reducible refine (sealer_openE _).mono ?_); rintro e w7 ⟨g2, rfl, hc7, hl7, hb7⟩; have HM7 := Lib.hid (show w7.heap[w.heap.size]? = some (.map (mv3 g1) 3) from (hb7.block w.heap.size (by have := (Array.getElem?_eq_some_iff.1 HM5.out).1; simp [World.putObj]; omega)).trans (World.putObj_heap_same (Array.getElem?_eq_some_iff.1 HM5.out).1)); have HB7 := Lib.hid (show Below w.heap.size w w7 from (below_putObj HB5.out (Nat.le_refl _)).trans (hb7.mono (by have := HB5.out.size; simp [World.putObj]; omega))); have HG2 := Lib.hid (show w.heap.size < g2 from Nat.lt_of_lt_of_le (by have := (Array.getElem?_eq_some_iff.1 HM5.out).1; simp [World.putObj]; omega) hl7); have HC7 := Lib.hid hc7; have HC57 := Lib.hid (below_cellD hb7 (a := ⟨g1, 0, none⟩) ((cell_putObjD (a := ⟨g1, 0, none⟩) (Nat.ne_of_gt HG1.out)).trans HC5.out) (Nat.le_refl _)); clear hc7 hl7 hb7))
      | (refine wpList_ins rfl 228 9 226 (.tmp 20) (.const (.string ⟨#[111, 112, 101, 110]⟩)) (.tmp 22) rfl rfl mvU Tryz.underlying9 w.heap.size 3 #[⟨.string ⟨#[109, 111, 118, 101]⟩, .func (.func 129) #[] #[], 0⟩, ⟨.string ⟨#[110, 97, 114, 114, 111, 119]⟩, .func (.func 130) #[] #[], 1⟩, ⟨.string ⟨#[115, 101, 97, 108]⟩, .func (.func 172) #[] #[.pointer (some ⟨g1, 0, none⟩)], 2⟩] ⟨#[111, 112, 101, 110]⟩ (.func (.func 172) #[] #[.pointer (some ⟨g2, 0, none⟩)]) rfl rfl rfl HM7.out rfl ?_))
    go_meet
    exact ⟨g1, g2, rfl, World.putObj_heap_same (Array.getElem?_eq_some_iff.1 HM7.out).1, (cell_putObjD (a := ⟨g1, 0, none⟩) (Nat.ne_of_gt HG1.out)).trans HC57.out, (cell_putObjD (a := ⟨g2, 0, none⟩) (Nat.ne_of_gt HG2.out)).trans HC7.out, below_putObj HB7.out (Nat.le_refl _)⟩
  case rest =>
    obtain ⟨g1, g2, rfl, hm, hc1, hc2, hb⟩ := hcut
    obtain ⟨w4, hw4⟩ : ∃ w4, w4 = wc := ⟨_, rfl⟩
    rw [← hw4] at hm hb hc1 hc2 ⊢
    have HM4 := Lib.hid hm
    have HBW := Lib.hid hb
    have HC1 := Lib.hid hc1
    have HC2 := Lib.hid hc2
    clear hm hb hc1 hc2 hw4
    have HE4 := Lib.hid (HEN.out _ (FrD.of HBW.out))
    have lk := mv_none HM4.out (by rw [hx]; decide) (by rw [hx]; decide) (by rw [hx]; decide) (by rw [hx]; decide)
    have hx4 := HL.out.below HBW.out
    obtain ⟨ad, rfl, b0, e0⟩ := sl_str (i := 0) (x := x) hx4 (by decide) rfl
    rw [show ad.add 0 = ad by unfold Addr.add; rfl] at b0 e0
    clear hx4
    have nm := number_any x w4 HE4.out (by have := HLs.out x (by simp); omega)
    rw [hb_] at nm
    have NM := Lib.hid nm
    clear nm hx
    clear hb_
    go_wp2_with (go_at_call 138; ((with_reducible refine NM.out.mono ?_); rintro e w5 ⟨v, rfl, hv, hb5⟩; have HB5 := Lib.hid (ext_trans HBW.out hb5); clear hb5 hv))
    go_ret2
    exact ⟨_, rfl, fun h => (by cases h), bk_keep HB5.out HG.out, FrD.of HB5.out⟩
set_option maxHeartbeats 4000000 in
set_option maxRecDepth 100000 in
theorem words_read_bad (g : Nat) (k0 : KeyV) (hk : k0.wf) (wd : ByteArray) (ao : Option Addr) (c : Nat) (x : ByteArray) (w : World) (hg : Bk w g 153 (deskC k0)) (henv : ∀ W, FrD g w W → PEnv W) (hl : Sl w ao 1 [x]) (hs : ∀ s ∈ [x], s.size ≤ 1000) (hx : wd.data.toList = wRead) (hb_ : numB x.data.toList = true) (v0 : Int) (hv0 : atoiV x.data.toList = v0) (hok : instOk (unpack v0) = false) :
    Calls Tryz.prog 107 #[.pointer (some ⟨g, 0, none⟩), .string wd, .slice ao 1 c] w (DeskPost g w (wordsF k0 wd.data.toList (bysL [x]))) := by
  have hE : wordsF k0 wd.data.toList (bysL [x]) = ⟨k0, [], 5⟩ := by unfold wordsF; rw [hx, if_neg (by decide), if_neg (by decide), if_neg (by decide), if_neg (by decide), if_neg (by decide), if_neg (by decide), if_neg (fun h => absurd h.1 (by decide)), if_neg (fun h => absurd h.1 (by decide)), if_neg (fun h => h rfl)]; rw [if_pos rfl]; show DeskR.mk _ (readS x.data.toList).1 (readS x.data.toList).2 = _; unfold readS; rw [if_pos hb_, hv0, if_neg (by rw [hok]; decide)]
  rw [hE]
  clear hE
  have q_pack : (wd.toList == [112, 97, 99, 107]) = false := by rw [toL_eq, hx]; decide
  have q_round : (wd.toList == [114, 111, 117, 110, 100]) = false := by rw [toL_eq, hx]; decide
  have q_calc : (wd.toList == [99, 97, 108, 99]) = false := by rw [toL_eq, hx]; decide
  have q_key : (wd.toList == [107, 101, 121]) = false := by rw [toL_eq, hx]; decide
  have q_new : (wd.toList == [110, 101, 119]) = false := by rw [toL_eq, hx]; decide
  have q_read : (wd.toList == [114, 101, 97, 100]) = true := by rw [toL_eq, hx]; decide
  have q_perm : (wd.toList == [112, 101, 114, 109]) = false := by rw [toL_eq, hx]; decide
  have q_drop : (wd.toList == [100, 114, 111, 112]) = false := by rw [toL_eq, hx]; decide
  have hln := hl.len
  have HG := Lib.hid hg
  have HEN := Lib.hid henv
  have HL := Lib.hid hl
  have HLs := Lib.hid hs
  have hi := numB_i64 hb_
  have hvv := hv0
  rw [hv0] at hi
  have ri := fun W (hW : Tab W) => iread_any v0 hi W hW
  rw [hok] at ri
  simp only [Bool.false_eq_true, if_true, if_false] at ri
  have RI := Lib.hid ri
  clear ri hvv hok hi
  clear hg henv hl hs
  go_enter Tryz.func107, Tryz.ntmps107
  go_upto_region 1 with (fail)
  go_cut [8] (fun s8 wx => ∃ g1 g2, s8 = .map (some w.heap.size) ∧ wx.heap[w.heap.size]? = some (.map (mvEs g1 g2) 4) ∧ wx.cell? ⟨g1, 0, none⟩ = some (.func (.func 43) #[] #[]) ∧ wx.cell? ⟨g2, 0, none⟩ = some (.func (.func 46) #[] #[]) ∧ Below w.heap.size w wx)
  case first =>
    go_wp2_with (first
      | (refine wpList_mkm rfl 228 rfl ?_)
      | (refine wpList_ins rfl 228 9 226 (.tmp 20) (.const (.string ⟨#[109, 111, 118, 101]⟩)) (.func 129) rfl rfl mvU Tryz.underlying9 w.heap.size 0 #[] ⟨#[109, 111, 118, 101]⟩ (.func (.func 129) #[] #[]) rfl rfl rfl (World.alloc_heap_new w (.map #[] 0)) rfl ?_)
      | (refine wpList_ins rfl 228 9 226 (.tmp 20) (.const (.string ⟨#[110, 97, 114, 114, 111, 119]⟩)) (.func 130) rfl rfl mvU Tryz.underlying9 w.heap.size 1 #[⟨.string ⟨#[109, 111, 118, 101]⟩, .func (.func 129) #[] #[], 0⟩] ⟨#[110, 97, 114, 114, 111, 119]⟩ (.func (.func 130) #[] #[]) rfl rfl rfl (World.putObj_heap_same (by simp [World.putObj])) rfl ?_)
      | (go_at_call 131; ((with_reducible refine (sealer_sealE _).mono ?_); rintro e w5 ⟨g1, rfl, hc5, hl5, hb5⟩; have HM5 := Lib.hid (show w5.heap[w.heap.size]? = some (.map (mv2) 2) from (hb5.block w.heap.size (by simp [World.putObj])).trans (World.putObj_heap_same (by simp [World.putObj]))); have HB5 := Lib.hid (show Below w.heap.size w w5 from (below_putObj (below_putObj (ext_alloc (Below.refl _ _) _) (Nat.le_refl _)) (Nat.le_refl _)).trans (hb5.mono (by simp [World.putObj]))); have HG1 := Lib.hid (show w.heap.size < g1 from Nat.lt_of_lt_of_le (by simp [World.putObj]) hl5); have HC5 := Lib.hid hc5; clear hc5 hl5 hb5))
      | (refine wpList_ins rfl 228 9 226 (.tmp 20) (.const (.string ⟨#[115, 101, 97, 108]⟩)) (.tmp 21) rfl rfl mvU Tryz.underlying9 w.heap.size 2 #[⟨.string ⟨#[109, 111, 118, 101]⟩, .func (.func 129) #[] #[], 0⟩, ⟨.string ⟨#[110, 97, 114, 114, 111, 119]⟩, .func (.func 130) #[] #[], 1⟩] ⟨#[115, 101, 97, 108]⟩ (.func (.func 172) #[] #[.pointer (some ⟨g1, 0, none⟩)]) rfl rfl rfl HM5.out rfl ?_)
      | (go_at_call 131; ((with_reducible refine (sealer_openE _).mono ?_); rintro e w7 ⟨g2, rfl, hc7, hl7, hb7⟩; have HM7 := Lib.hid (show w7.heap[w.heap.size]? = some (.map (mv3 g1) 3) from (hb7.block w.heap.size (by have := (Array.getElem?_eq_some_iff.1 HM5.out).1; simp [World.putObj]; omega)).trans (World.putObj_heap_same (Array.getElem?_eq_some_iff.1 HM5.out).1)); have HB7 := Lib.hid (show Below w.heap.size w w7 from (below_putObj HB5.out (Nat.le_refl _)).trans (hb7.mono (by have := HB5.out.size; simp [World.putObj]; omega))); have HG2 := Lib.hid (show w.heap.size < g2 from Nat.lt_of_lt_of_le (by have := (Array.getElem?_eq_some_iff.1 HM5.out).1; simp [World.putObj]; omega) hl7); have HC7 := Lib.hid hc7; have HC57 := Lib.hid (below_cellD hb7 (a := ⟨g1, 0, none⟩) ((cell_putObjD (a := ⟨g1, 0, none⟩) (Nat.ne_of_gt HG1.out)).trans HC5.out) (Nat.le_refl _)); clear hc7 hl7 hb7))
      | (refine wpList_ins rfl 228 9 226 (.tmp 20) (.const (.string ⟨#[111, 112, 101, 110]⟩)) (.tmp 22) rfl rfl mvU Tryz.underlying9 w.heap.size 3 #[⟨.string ⟨#[109, 111, 118, 101]⟩, .func (.func 129) #[] #[], 0⟩, ⟨.string ⟨#[110, 97, 114, 114, 111, 119]⟩, .func (.func 130) #[] #[], 1⟩, ⟨.string ⟨#[115, 101, 97, 108]⟩, .func (.func 172) #[] #[.pointer (some ⟨g1, 0, none⟩)], 2⟩] ⟨#[111, 112, 101, 110]⟩ (.func (.func 172) #[] #[.pointer (some ⟨g2, 0, none⟩)]) rfl rfl rfl HM7.out rfl ?_))
    go_meet
    exact ⟨g1, g2, rfl, World.putObj_heap_same (Array.getElem?_eq_some_iff.1 HM7.out).1, (cell_putObjD (a := ⟨g1, 0, none⟩) (Nat.ne_of_gt HG1.out)).trans HC57.out, (cell_putObjD (a := ⟨g2, 0, none⟩) (Nat.ne_of_gt HG2.out)).trans HC7.out, below_putObj HB7.out (Nat.le_refl _)⟩
  case rest =>
    obtain ⟨g1, g2, rfl, hm, hc1, hc2, hb⟩ := hcut
    obtain ⟨w4, hw4⟩ : ∃ w4, w4 = wc := ⟨_, rfl⟩
    rw [← hw4] at hm hb hc1 hc2 ⊢
    have HM4 := Lib.hid hm
    have HBW := Lib.hid hb
    have HC1 := Lib.hid hc1
    have HC2 := Lib.hid hc2
    clear hm hb hc1 hc2 hw4
    have HE4 := Lib.hid (HEN.out _ (FrD.of HBW.out))
    have lk := mv_none HM4.out (by rw [hx]; decide) (by rw [hx]; decide) (by rw [hx]; decide) (by rw [hx]; decide)
    have hx4 := HL.out.below HBW.out
    obtain ⟨ad, rfl, b0, e0⟩ := sl_str (i := 0) (x := x) hx4 (by decide) rfl
    rw [show ad.add 0 = ad by unfold Addr.add; rfl] at b0 e0
    clear hx4
    have nm := number_any x w4 HE4.out (by have := HLs.out x (by simp); omega)
    rw [hb_] at nm
    have NM := Lib.hid nm
    clear nm hx
    have HV0 := Lib.hid hv0
    clear hb_ hv0
    go_wp2_with (first
      | (go_at_call 138; ((with_reducible refine NM.out.mono ?_); rintro e w5 ⟨v, rfl, hv, hb5⟩; obtain rfl : v = v0 := (hv (by first | rfl | trivial)).trans HV0.out; have HB5 := Lib.hid (ext_trans HBW.out hb5); clear hb5 hv))
      | (go_at_call 139; ((with_reducible refine (RI.out _ (HEN.out _ (FrD.of HB5.out)).asc).mono ?_); rintro e w6 ⟨rfl, hb6⟩; have HB6 := Lib.hid (ext_trans HB5.out hb6); clear hb6))
      | (refine wpList_store_freshD rfl 49 (.tmp 16) (.tmp 115) rfl rfl #[.int .i64 0, .int .i64 0, .int .i64 0, .int .i64 0] 49 _ rfl (by first | rfl | kernel_rfl) (by kernel_rfl) (by kernel_rfl) (by kernel_rfl) ?_))
    go_ret2
    exact ⟨_, rfl, fun h => (by cases h), bk_keep (ext_alloc HB6.out _) HG.out, FrD.of (ext_alloc HB6.out _)⟩
set_option maxHeartbeats 4000000 in
set_option maxRecDepth 100000 in
theorem words_read_ok (g : Nat) (k0 : KeyV) (hk : k0.wf) (wd : ByteArray) (ao : Option Addr) (c : Nat) (x : ByteArray) (w : World) (hg : Bk w g 153 (deskC k0)) (henv : ∀ W, FrD g w W → PEnv W) (hl : Sl w ao 1 [x]) (hs : ∀ s ∈ [x], s.size ≤ 1000) (hx : wd.data.toList = wRead) (hb_ : numB x.data.toList = true) (v0 : Int) (hv0 : atoiV x.data.toList = v0) (hok : instOk (unpack v0) = true) (o a b cc : Int) (hu : unpack v0 = ⟨o, a, b, cc⟩) :
    Calls Tryz.prog 107 #[.pointer (some ⟨g, 0, none⟩), .string wd, .slice ao 1 c] w (DeskPost g w (wordsF k0 wd.data.toList (bysL [x]))) := by
  have hE : wordsF k0 wd.data.toList (bysL [x]) = ⟨k0, textL ⟨o, a, b, cc⟩, 0⟩ := by unfold wordsF; rw [hx, if_neg (by decide), if_neg (by decide), if_neg (by decide), if_neg (by decide), if_neg (by decide), if_neg (by decide), if_neg (fun h => absurd h.1 (by decide)), if_neg (fun h => absurd h.1 (by decide)), if_neg (fun h => h rfl)]; rw [if_pos rfl]; show DeskR.mk _ (readS x.data.toList).1 (readS x.data.toList).2 = _; unfold readS; rw [if_pos hb_, hv0, if_pos hok, hu]
  rw [hE]
  clear hE
  have q_pack : (wd.toList == [112, 97, 99, 107]) = false := by rw [toL_eq, hx]; decide
  have q_round : (wd.toList == [114, 111, 117, 110, 100]) = false := by rw [toL_eq, hx]; decide
  have q_calc : (wd.toList == [99, 97, 108, 99]) = false := by rw [toL_eq, hx]; decide
  have q_key : (wd.toList == [107, 101, 121]) = false := by rw [toL_eq, hx]; decide
  have q_new : (wd.toList == [110, 101, 119]) = false := by rw [toL_eq, hx]; decide
  have q_read : (wd.toList == [114, 101, 97, 100]) = true := by rw [toL_eq, hx]; decide
  have q_perm : (wd.toList == [112, 101, 114, 109]) = false := by rw [toL_eq, hx]; decide
  have q_drop : (wd.toList == [100, 114, 111, 112]) = false := by rw [toL_eq, hx]; decide
  have hln := hl.len
  have HG := Lib.hid hg
  have HEN := Lib.hid henv
  have HL := Lib.hid hl
  have HLs := Lib.hid hs
  have hi := numB_i64 hb_
  have hvv := hv0
  rw [hv0] at hi
  have ri := fun W (hW : Tab W) => iread_any v0 hi W hW
  rw [hok] at ri
  simp only [Bool.false_eq_true, if_true, if_false] at ri
  rw [hu] at ri hok
  simp only at ri
  have it := fun W (hW : PEnv W) => itext_ok o a b cc hok W hW.asc hW.ten
  obtain ⟨TL, hTL⟩ : ∃ TL, textL ⟨o, a, b, cc⟩ = TL := ⟨_, rfl⟩
  rw [hTL] at it ⊢
  have RI := Lib.hid ri
  have IT := Lib.hid it
  clear ri it hvv hok hi hu hTL
  clear hg henv hl hs
  go_enter Tryz.func107, Tryz.ntmps107
  go_upto_region 1 with (fail)
  go_cut [8] (fun s8 wx => ∃ g1 g2, s8 = .map (some w.heap.size) ∧ wx.heap[w.heap.size]? = some (.map (mvEs g1 g2) 4) ∧ wx.cell? ⟨g1, 0, none⟩ = some (.func (.func 43) #[] #[]) ∧ wx.cell? ⟨g2, 0, none⟩ = some (.func (.func 46) #[] #[]) ∧ Below w.heap.size w wx)
  case first =>
    go_wp2_with (first
      | (refine wpList_mkm rfl 228 rfl ?_)
      | (refine wpList_ins rfl 228 9 226 (.tmp 20) (.const (.string ⟨#[109, 111, 118, 101]⟩)) (.func 129) rfl rfl mvU Tryz.underlying9 w.heap.size 0 #[] ⟨#[109, 111, 118, 101]⟩ (.func (.func 129) #[] #[]) rfl rfl rfl (World.alloc_heap_new w (.map #[] 0)) rfl ?_)
      | (refine wpList_ins rfl 228 9 226 (.tmp 20) (.const (.string ⟨#[110, 97, 114, 114, 111, 119]⟩)) (.func 130) rfl rfl mvU Tryz.underlying9 w.heap.size 1 #[⟨.string ⟨#[109, 111, 118, 101]⟩, .func (.func 129) #[] #[], 0⟩] ⟨#[110, 97, 114, 114, 111, 119]⟩ (.func (.func 130) #[] #[]) rfl rfl rfl (World.putObj_heap_same (by simp [World.putObj])) rfl ?_)
      | (go_at_call 131; ((with_reducible refine (sealer_sealE _).mono ?_); rintro e w5 ⟨g1, rfl, hc5, hl5, hb5⟩; have HM5 := Lib.hid (show w5.heap[w.heap.size]? = some (.map (mv2) 2) from (hb5.block w.heap.size (by simp [World.putObj])).trans (World.putObj_heap_same (by simp [World.putObj]))); have HB5 := Lib.hid (show Below w.heap.size w w5 from (below_putObj (below_putObj (ext_alloc (Below.refl _ _) _) (Nat.le_refl _)) (Nat.le_refl _)).trans (hb5.mono (by simp [World.putObj]))); have HG1 := Lib.hid (show w.heap.size < g1 from Nat.lt_of_lt_of_le (by simp [World.putObj]) hl5); have HC5 := Lib.hid hc5; clear hc5 hl5 hb5))
      | (refine wpList_ins rfl 228 9 226 (.tmp 20) (.const (.string ⟨#[115, 101, 97, 108]⟩)) (.tmp 21) rfl rfl mvU Tryz.underlying9 w.heap.size 2 #[⟨.string ⟨#[109, 111, 118, 101]⟩, .func (.func 129) #[] #[], 0⟩, ⟨.string ⟨#[110, 97, 114, 114, 111, 119]⟩, .func (.func 130) #[] #[], 1⟩] ⟨#[115, 101, 97, 108]⟩ (.func (.func 172) #[] #[.pointer (some ⟨g1, 0, none⟩)]) rfl rfl rfl HM5.out rfl ?_)
      | (go_at_call 131; ((with_reducible refine (sealer_openE _).mono ?_); rintro e w7 ⟨g2, rfl, hc7, hl7, hb7⟩; have HM7 := Lib.hid (show w7.heap[w.heap.size]? = some (.map (mv3 g1) 3) from (hb7.block w.heap.size (by have := (Array.getElem?_eq_some_iff.1 HM5.out).1; simp [World.putObj]; omega)).trans (World.putObj_heap_same (Array.getElem?_eq_some_iff.1 HM5.out).1)); have HB7 := Lib.hid (show Below w.heap.size w w7 from (below_putObj HB5.out (Nat.le_refl _)).trans (hb7.mono (by have := HB5.out.size; simp [World.putObj]; omega))); have HG2 := Lib.hid (show w.heap.size < g2 from Nat.lt_of_lt_of_le (by have := (Array.getElem?_eq_some_iff.1 HM5.out).1; simp [World.putObj]; omega) hl7); have HC7 := Lib.hid hc7; have HC57 := Lib.hid (below_cellD hb7 (a := ⟨g1, 0, none⟩) ((cell_putObjD (a := ⟨g1, 0, none⟩) (Nat.ne_of_gt HG1.out)).trans HC5.out) (Nat.le_refl _)); clear hc7 hl7 hb7))
      | (refine wpList_ins rfl 228 9 226 (.tmp 20) (.const (.string ⟨#[111, 112, 101, 110]⟩)) (.tmp 22) rfl rfl mvU Tryz.underlying9 w.heap.size 3 #[⟨.string ⟨#[109, 111, 118, 101]⟩, .func (.func 129) #[] #[], 0⟩, ⟨.string ⟨#[110, 97, 114, 114, 111, 119]⟩, .func (.func 130) #[] #[], 1⟩, ⟨.string ⟨#[115, 101, 97, 108]⟩, .func (.func 172) #[] #[.pointer (some ⟨g1, 0, none⟩)], 2⟩] ⟨#[111, 112, 101, 110]⟩ (.func (.func 172) #[] #[.pointer (some ⟨g2, 0, none⟩)]) rfl rfl rfl HM7.out rfl ?_))
    go_meet
    exact ⟨g1, g2, rfl, World.putObj_heap_same (Array.getElem?_eq_some_iff.1 HM7.out).1, (cell_putObjD (a := ⟨g1, 0, none⟩) (Nat.ne_of_gt HG1.out)).trans HC57.out, (cell_putObjD (a := ⟨g2, 0, none⟩) (Nat.ne_of_gt HG2.out)).trans HC7.out, below_putObj HB7.out (Nat.le_refl _)⟩
  case rest =>
    obtain ⟨g1, g2, rfl, hm, hc1, hc2, hb⟩ := hcut
    obtain ⟨w4, hw4⟩ : ∃ w4, w4 = wc := ⟨_, rfl⟩
    rw [← hw4] at hm hb hc1 hc2 ⊢
    have HM4 := Lib.hid hm
    have HBW := Lib.hid hb
    have HC1 := Lib.hid hc1
    have HC2 := Lib.hid hc2
    clear hm hb hc1 hc2 hw4
    have HE4 := Lib.hid (HEN.out _ (FrD.of HBW.out))
    have lk := mv_none HM4.out (by rw [hx]; decide) (by rw [hx]; decide) (by rw [hx]; decide) (by rw [hx]; decide)
    have hx4 := HL.out.below HBW.out
    obtain ⟨ad, rfl, b0, e0⟩ := sl_str (i := 0) (x := x) hx4 (by decide) rfl
    rw [show ad.add 0 = ad by unfold Addr.add; rfl] at b0 e0
    clear hx4
    have nm := number_any x w4 HE4.out (by have := HLs.out x (by simp); omega)
    rw [hb_] at nm
    have NM := Lib.hid nm
    clear nm hx
    have HV0 := Lib.hid hv0
    clear hb_ hv0
    go_wp2_with (first
      | (go_at_call 138; ((with_reducible refine NM.out.mono ?_); rintro e w5 ⟨v, rfl, hv, hb5⟩; obtain rfl : v = v0 := (hv (by first | rfl | trivial)).trans HV0.out; have HB5 := Lib.hid (ext_trans HBW.out hb5); clear hb5 hv))
      | (go_at_call 139; ((with_reducible refine (RI.out _ (HEN.out _ (FrD.of HB5.out)).asc).mono ?_); rintro e w6 ⟨rfl, hb6⟩; have HB6 := Lib.hid (ext_trans HB5.out hb6); clear hb6))
      | (refine wpList_store_freshD rfl 49 (.tmp 16) (.tmp 115) rfl rfl #[.int .i64 o, .int .i64 a, .int .i64 b, .int .i64 cc] 49 _ rfl (by first | rfl | kernel_rfl) (by kernel_rfl) (by kernel_rfl) (by kernel_rfl) ?_)
      | (go_at_call 140; ((with_reducible refine (IT.out _ (HEN.out _ (FrD.of (ext_alloc HB6.out _)))).mono ?_); rintro e w7 ⟨rfl, hb7⟩; have HB7 := Lib.hid (ext_trans (ext_alloc HB6.out _) hb7); clear hb7)))
    go_ret2
    exact ⟨_, rfl, fun _ => rfl, bk_keep HB7.out HG.out, FrD.of HB7.out⟩
set_option maxHeartbeats 4000000 in
set_option maxRecDepth 100000 in
theorem words_perm_bad (g : Nat) (k0 : KeyV) (hk : k0.wf) (wd : ByteArray) (ao : Option Addr) (c : Nat) (x : ByteArray) (w : World) (hg : Bk w g 153 (deskC k0)) (henv : ∀ W, FrD g w W → PEnv W) (hl : Sl w ao 1 [x]) (hs : ∀ s ∈ [x], s.size ≤ 1000) (hx : wd.data.toList = wPerm) (pv er : Int) (hp : permR x.data.toList = (pv, er)) (h0 : er ≠ 0) :
    Calls Tryz.prog 107 #[.pointer (some ⟨g, 0, none⟩), .string wd, .slice ao 1 c] w (DeskPost g w (wordsF k0 wd.data.toList (bysL [x]))) := by
  have hE : wordsF k0 wd.data.toList (bysL [x]) = ⟨k0, [], er⟩ := by unfold wordsF; rw [hx, if_neg (by decide), if_neg (by decide), if_neg (by decide), if_neg (by decide), if_neg (by decide), if_neg (by decide), if_neg (fun h => absurd h.1 (by decide)), if_neg (fun h => absurd h.1 (by decide)), if_neg (fun h => h rfl)]; rw [if_neg (by decide), if_pos rfl]; show DeskR.mk _ (if (permR x.data.toList).2 = 0 then _ else _) (permR x.data.toList).2 = _; rw [hp]; simp only; rw [if_neg h0]
  rw [hE]
  clear hE
  have q_pack : (wd.toList == [112, 97, 99, 107]) = false := by rw [toL_eq, hx]; decide
  have q_round : (wd.toList == [114, 111, 117, 110, 100]) = false := by rw [toL_eq, hx]; decide
  have q_calc : (wd.toList == [99, 97, 108, 99]) = false := by rw [toL_eq, hx]; decide
  have q_key : (wd.toList == [107, 101, 121]) = false := by rw [toL_eq, hx]; decide
  have q_new : (wd.toList == [110, 101, 119]) = false := by rw [toL_eq, hx]; decide
  have q_read : (wd.toList == [114, 101, 97, 100]) = false := by rw [toL_eq, hx]; decide
  have q_perm : (wd.toList == [112, 101, 114, 109]) = true := by rw [toL_eq, hx]; decide
  have q_drop : (wd.toList == [100, 114, 111, 112]) = false := by rw [toL_eq, hx]; decide
  have hln := hl.len
  have HG := Lib.hid hg
  have HEN := Lib.hid henv
  have HL := Lib.hid hl
  have HLs := Lib.hid hs
  have pr := fun W => permread_any x W
  rw [hp] at pr
  simp only at pr
  have PR := Lib.hid pr
  clear pr hp
  have q0 : (er != 0) = true := by simpa using h0
  have H0 := Lib.hid h0
  clear h0
  clear hg henv hl hs
  go_enter Tryz.func107, Tryz.ntmps107
  go_upto_region 1 with (fail)
  go_cut [8] (fun s8 wx => ∃ g1 g2, s8 = .map (some w.heap.size) ∧ wx.heap[w.heap.size]? = some (.map (mvEs g1 g2) 4) ∧ wx.cell? ⟨g1, 0, none⟩ = some (.func (.func 43) #[] #[]) ∧ wx.cell? ⟨g2, 0, none⟩ = some (.func (.func 46) #[] #[]) ∧ Below w.heap.size w wx)
  case first =>
    go_wp2_with (first
      | (refine wpList_mkm rfl 228 rfl ?_)
      | (refine wpList_ins rfl 228 9 226 (.tmp 20) (.const (.string ⟨#[109, 111, 118, 101]⟩)) (.func 129) rfl rfl mvU Tryz.underlying9 w.heap.size 0 #[] ⟨#[109, 111, 118, 101]⟩ (.func (.func 129) #[] #[]) rfl rfl rfl (World.alloc_heap_new w (.map #[] 0)) rfl ?_)
      | (refine wpList_ins rfl 228 9 226 (.tmp 20) (.const (.string ⟨#[110, 97, 114, 114, 111, 119]⟩)) (.func 130) rfl rfl mvU Tryz.underlying9 w.heap.size 1 #[⟨.string ⟨#[109, 111, 118, 101]⟩, .func (.func 129) #[] #[], 0⟩] ⟨#[110, 97, 114, 114, 111, 119]⟩ (.func (.func 130) #[] #[]) rfl rfl rfl (World.putObj_heap_same (by simp [World.putObj])) rfl ?_)
      | (go_at_call 131; ((with_reducible refine (sealer_sealE _).mono ?_); rintro e w5 ⟨g1, rfl, hc5, hl5, hb5⟩; have HM5 := Lib.hid (show w5.heap[w.heap.size]? = some (.map (mv2) 2) from (hb5.block w.heap.size (by simp [World.putObj])).trans (World.putObj_heap_same (by simp [World.putObj]))); have HB5 := Lib.hid (show Below w.heap.size w w5 from (below_putObj (below_putObj (ext_alloc (Below.refl _ _) _) (Nat.le_refl _)) (Nat.le_refl _)).trans (hb5.mono (by simp [World.putObj]))); have HG1 := Lib.hid (show w.heap.size < g1 from Nat.lt_of_lt_of_le (by simp [World.putObj]) hl5); have HC5 := Lib.hid hc5; clear hc5 hl5 hb5))
      | (refine wpList_ins rfl 228 9 226 (.tmp 20) (.const (.string ⟨#[115, 101, 97, 108]⟩)) (.tmp 21) rfl rfl mvU Tryz.underlying9 w.heap.size 2 #[⟨.string ⟨#[109, 111, 118, 101]⟩, .func (.func 129) #[] #[], 0⟩, ⟨.string ⟨#[110, 97, 114, 114, 111, 119]⟩, .func (.func 130) #[] #[], 1⟩] ⟨#[115, 101, 97, 108]⟩ (.func (.func 172) #[] #[.pointer (some ⟨g1, 0, none⟩)]) rfl rfl rfl HM5.out rfl ?_)
      | (go_at_call 131; ((with_reducible refine (sealer_openE _).mono ?_); rintro e w7 ⟨g2, rfl, hc7, hl7, hb7⟩; have HM7 := Lib.hid (show w7.heap[w.heap.size]? = some (.map (mv3 g1) 3) from (hb7.block w.heap.size (by have := (Array.getElem?_eq_some_iff.1 HM5.out).1; simp [World.putObj]; omega)).trans (World.putObj_heap_same (Array.getElem?_eq_some_iff.1 HM5.out).1)); have HB7 := Lib.hid (show Below w.heap.size w w7 from (below_putObj HB5.out (Nat.le_refl _)).trans (hb7.mono (by have := HB5.out.size; simp [World.putObj]; omega))); have HG2 := Lib.hid (show w.heap.size < g2 from Nat.lt_of_lt_of_le (by have := (Array.getElem?_eq_some_iff.1 HM5.out).1; simp [World.putObj]; omega) hl7); have HC7 := Lib.hid hc7; have HC57 := Lib.hid (below_cellD hb7 (a := ⟨g1, 0, none⟩) ((cell_putObjD (a := ⟨g1, 0, none⟩) (Nat.ne_of_gt HG1.out)).trans HC5.out) (Nat.le_refl _)); clear hc7 hl7 hb7))
      | (refine wpList_ins rfl 228 9 226 (.tmp 20) (.const (.string ⟨#[111, 112, 101, 110]⟩)) (.tmp 22) rfl rfl mvU Tryz.underlying9 w.heap.size 3 #[⟨.string ⟨#[109, 111, 118, 101]⟩, .func (.func 129) #[] #[], 0⟩, ⟨.string ⟨#[110, 97, 114, 114, 111, 119]⟩, .func (.func 130) #[] #[], 1⟩, ⟨.string ⟨#[115, 101, 97, 108]⟩, .func (.func 172) #[] #[.pointer (some ⟨g1, 0, none⟩)], 2⟩] ⟨#[111, 112, 101, 110]⟩ (.func (.func 172) #[] #[.pointer (some ⟨g2, 0, none⟩)]) rfl rfl rfl HM7.out rfl ?_))
    go_meet
    exact ⟨g1, g2, rfl, World.putObj_heap_same (Array.getElem?_eq_some_iff.1 HM7.out).1, (cell_putObjD (a := ⟨g1, 0, none⟩) (Nat.ne_of_gt HG1.out)).trans HC57.out, (cell_putObjD (a := ⟨g2, 0, none⟩) (Nat.ne_of_gt HG2.out)).trans HC7.out, below_putObj HB7.out (Nat.le_refl _)⟩
  case rest =>
    obtain ⟨g1, g2, rfl, hm, hc1, hc2, hb⟩ := hcut
    obtain ⟨w4, hw4⟩ : ∃ w4, w4 = wc := ⟨_, rfl⟩
    rw [← hw4] at hm hb hc1 hc2 ⊢
    have HM4 := Lib.hid hm
    have HBW := Lib.hid hb
    have HC1 := Lib.hid hc1
    have HC2 := Lib.hid hc2
    clear hm hb hc1 hc2 hw4
    have lk := mv_none HM4.out (by rw [hx]; decide) (by rw [hx]; decide) (by rw [hx]; decide) (by rw [hx]; decide)
    have hx4 := HL.out.below HBW.out
    obtain ⟨ad, rfl, b0, e0⟩ := sl_str (i := 0) (x := x) hx4 (by decide) rfl
    rw [show ad.add 0 = ad by unfold Addr.add; rfl] at b0 e0
    clear hx4
    clear hx
    go_wp2_with (go_at_call 141; ((with_reducible refine (PR.out _).mono ?_); rintro e w5 ⟨rfl, hb5⟩; have HB5 := Lib.hid (ext_trans HBW.out hb5); clear hb5))
    go_ret2
    exact ⟨_, rfl, fun h => absurd h H0.out, bk_keep HB5.out HG.out, FrD.of HB5.out⟩
set_option maxHeartbeats 4000000 in
set_option maxRecDepth 100000 in
theorem words_drop_bad (g : Nat) (k0 : KeyV) (hk : k0.wf) (wd : ByteArray) (ao : Option Addr) (c : Nat) (x : ByteArray) (w : World) (hg : Bk w g 153 (deskC k0)) (henv : ∀ W, FrD g w W → PEnv W) (hl : Sl w ao 1 [x]) (hs : ∀ s ∈ [x], s.size ≤ 1000) (hx : wd.data.toList = wDrop) (pv er : Int) (hp : permR x.data.toList = (pv, er)) (h0 : er ≠ 0) :
    Calls Tryz.prog 107 #[.pointer (some ⟨g, 0, none⟩), .string wd, .slice ao 1 c] w (DeskPost g w (wordsF k0 wd.data.toList (bysL [x]))) := by
  have hE : wordsF k0 wd.data.toList (bysL [x]) = ⟨k0, [], er⟩ := by unfold wordsF; rw [hx, if_neg (by decide), if_neg (by decide), if_neg (by decide), if_neg (by decide), if_neg (by decide), if_neg (by decide), if_neg (fun h => absurd h.1 (by decide)), if_neg (fun h => absurd h.1 (by decide)), if_neg (fun h => h rfl)]; rw [if_neg (by decide), if_neg (by decide), if_pos rfl]; show (if (permR x.data.toList).2 = 0 then _ else DeskR.mk _ _ (permR x.data.toList).2) = _; rw [hp]; simp only; rw [if_neg h0]
  rw [hE]
  clear hE
  have q_pack : (wd.toList == [112, 97, 99, 107]) = false := by rw [toL_eq, hx]; decide
  have q_round : (wd.toList == [114, 111, 117, 110, 100]) = false := by rw [toL_eq, hx]; decide
  have q_calc : (wd.toList == [99, 97, 108, 99]) = false := by rw [toL_eq, hx]; decide
  have q_key : (wd.toList == [107, 101, 121]) = false := by rw [toL_eq, hx]; decide
  have q_new : (wd.toList == [110, 101, 119]) = false := by rw [toL_eq, hx]; decide
  have q_read : (wd.toList == [114, 101, 97, 100]) = false := by rw [toL_eq, hx]; decide
  have q_perm : (wd.toList == [112, 101, 114, 109]) = false := by rw [toL_eq, hx]; decide
  have q_drop : (wd.toList == [100, 114, 111, 112]) = true := by rw [toL_eq, hx]; decide
  have hln := hl.len
  have HG := Lib.hid hg
  have HEN := Lib.hid henv
  have HL := Lib.hid hl
  have HLs := Lib.hid hs
  have pr := fun W => permread_any x W
  rw [hp] at pr
  simp only at pr
  have PR := Lib.hid pr
  clear pr hp
  have q0 : (er != 0) = true := by simpa using h0
  have H0 := Lib.hid h0
  clear h0
  clear hg henv hl hs
  go_enter Tryz.func107, Tryz.ntmps107
  go_upto_region 1 with (fail)
  go_cut [8] (fun s8 wx => ∃ g1 g2, s8 = .map (some w.heap.size) ∧ wx.heap[w.heap.size]? = some (.map (mvEs g1 g2) 4) ∧ wx.cell? ⟨g1, 0, none⟩ = some (.func (.func 43) #[] #[]) ∧ wx.cell? ⟨g2, 0, none⟩ = some (.func (.func 46) #[] #[]) ∧ Below w.heap.size w wx)
  case first =>
    go_wp2_with (first
      | (refine wpList_mkm rfl 228 rfl ?_)
      | (refine wpList_ins rfl 228 9 226 (.tmp 20) (.const (.string ⟨#[109, 111, 118, 101]⟩)) (.func 129) rfl rfl mvU Tryz.underlying9 w.heap.size 0 #[] ⟨#[109, 111, 118, 101]⟩ (.func (.func 129) #[] #[]) rfl rfl rfl (World.alloc_heap_new w (.map #[] 0)) rfl ?_)
      | (refine wpList_ins rfl 228 9 226 (.tmp 20) (.const (.string ⟨#[110, 97, 114, 114, 111, 119]⟩)) (.func 130) rfl rfl mvU Tryz.underlying9 w.heap.size 1 #[⟨.string ⟨#[109, 111, 118, 101]⟩, .func (.func 129) #[] #[], 0⟩] ⟨#[110, 97, 114, 114, 111, 119]⟩ (.func (.func 130) #[] #[]) rfl rfl rfl (World.putObj_heap_same (by simp [World.putObj])) rfl ?_)
      | (go_at_call 131; ((with_reducible refine (sealer_sealE _).mono ?_); rintro e w5 ⟨g1, rfl, hc5, hl5, hb5⟩; have HM5 := Lib.hid (show w5.heap[w.heap.size]? = some (.map (mv2) 2) from (hb5.block w.heap.size (by simp [World.putObj])).trans (World.putObj_heap_same (by simp [World.putObj]))); have HB5 := Lib.hid (show Below w.heap.size w w5 from (below_putObj (below_putObj (ext_alloc (Below.refl _ _) _) (Nat.le_refl _)) (Nat.le_refl _)).trans (hb5.mono (by simp [World.putObj]))); have HG1 := Lib.hid (show w.heap.size < g1 from Nat.lt_of_lt_of_le (by simp [World.putObj]) hl5); have HC5 := Lib.hid hc5; clear hc5 hl5 hb5))
      | (refine wpList_ins rfl 228 9 226 (.tmp 20) (.const (.string ⟨#[115, 101, 97, 108]⟩)) (.tmp 21) rfl rfl mvU Tryz.underlying9 w.heap.size 2 #[⟨.string ⟨#[109, 111, 118, 101]⟩, .func (.func 129) #[] #[], 0⟩, ⟨.string ⟨#[110, 97, 114, 114, 111, 119]⟩, .func (.func 130) #[] #[], 1⟩] ⟨#[115, 101, 97, 108]⟩ (.func (.func 172) #[] #[.pointer (some ⟨g1, 0, none⟩)]) rfl rfl rfl HM5.out rfl ?_)
      | (go_at_call 131; ((with_reducible refine (sealer_openE _).mono ?_); rintro e w7 ⟨g2, rfl, hc7, hl7, hb7⟩; have HM7 := Lib.hid (show w7.heap[w.heap.size]? = some (.map (mv3 g1) 3) from (hb7.block w.heap.size (by have := (Array.getElem?_eq_some_iff.1 HM5.out).1; simp [World.putObj]; omega)).trans (World.putObj_heap_same (Array.getElem?_eq_some_iff.1 HM5.out).1)); have HB7 := Lib.hid (show Below w.heap.size w w7 from (below_putObj HB5.out (Nat.le_refl _)).trans (hb7.mono (by have := HB5.out.size; simp [World.putObj]; omega))); have HG2 := Lib.hid (show w.heap.size < g2 from Nat.lt_of_lt_of_le (by have := (Array.getElem?_eq_some_iff.1 HM5.out).1; simp [World.putObj]; omega) hl7); have HC7 := Lib.hid hc7; have HC57 := Lib.hid (below_cellD hb7 (a := ⟨g1, 0, none⟩) ((cell_putObjD (a := ⟨g1, 0, none⟩) (Nat.ne_of_gt HG1.out)).trans HC5.out) (Nat.le_refl _)); clear hc7 hl7 hb7))
      | (refine wpList_ins rfl 228 9 226 (.tmp 20) (.const (.string ⟨#[111, 112, 101, 110]⟩)) (.tmp 22) rfl rfl mvU Tryz.underlying9 w.heap.size 3 #[⟨.string ⟨#[109, 111, 118, 101]⟩, .func (.func 129) #[] #[], 0⟩, ⟨.string ⟨#[110, 97, 114, 114, 111, 119]⟩, .func (.func 130) #[] #[], 1⟩, ⟨.string ⟨#[115, 101, 97, 108]⟩, .func (.func 172) #[] #[.pointer (some ⟨g1, 0, none⟩)], 2⟩] ⟨#[111, 112, 101, 110]⟩ (.func (.func 172) #[] #[.pointer (some ⟨g2, 0, none⟩)]) rfl rfl rfl HM7.out rfl ?_))
    go_meet
    exact ⟨g1, g2, rfl, World.putObj_heap_same (Array.getElem?_eq_some_iff.1 HM7.out).1, (cell_putObjD (a := ⟨g1, 0, none⟩) (Nat.ne_of_gt HG1.out)).trans HC57.out, (cell_putObjD (a := ⟨g2, 0, none⟩) (Nat.ne_of_gt HG2.out)).trans HC7.out, below_putObj HB7.out (Nat.le_refl _)⟩
  case rest =>
    obtain ⟨g1, g2, rfl, hm, hc1, hc2, hb⟩ := hcut
    obtain ⟨w4, hw4⟩ : ∃ w4, w4 = wc := ⟨_, rfl⟩
    rw [← hw4] at hm hb hc1 hc2 ⊢
    have HM4 := Lib.hid hm
    have HBW := Lib.hid hb
    have HC1 := Lib.hid hc1
    have HC2 := Lib.hid hc2
    clear hm hb hc1 hc2 hw4
    have lk := mv_none HM4.out (by rw [hx]; decide) (by rw [hx]; decide) (by rw [hx]; decide) (by rw [hx]; decide)
    have hx4 := HL.out.below HBW.out
    obtain ⟨ad, rfl, b0, e0⟩ := sl_str (i := 0) (x := x) hx4 (by decide) rfl
    rw [show ad.add 0 = ad by unfold Addr.add; rfl] at b0 e0
    clear hx4
    clear hx
    go_wp2_with (go_at_call 141; ((with_reducible refine (PR.out _).mono ?_); rintro e w5 ⟨rfl, hb5⟩; have HB5 := Lib.hid (ext_trans HBW.out hb5); clear hb5))
    go_ret2
    exact ⟨_, rfl, fun h => absurd h H0.out, bk_keep HB5.out HG.out, FrD.of HB5.out⟩
set_option maxHeartbeats 4000000 in
set_option maxRecDepth 100000 in
theorem words_perm_ok (g : Nat) (k0 : KeyV) (hk : k0.wf) (wd : ByteArray) (ao : Option Addr) (c : Nat) (x : ByteArray) (w : World) (hg : Bk w g 153 (deskC k0)) (henv : ∀ W, FrD g w W → PEnv W) (hl : Sl w ao 1 [x]) (hs : ∀ s ∈ [x], s.size ≤ 1000) (hx : wd.data.toList = wPerm) (pv : Int) (hp : permR x.data.toList = (pv, 0)) (hi : I64 pv) :
    Calls Tryz.prog 107 #[.pointer (some ⟨g, 0, none⟩), .string wd, .slice ao 1 c] w (DeskPost g w (wordsF k0 wd.data.toList (bysL [x]))) := by
  have hE : wordsF k0 wd.data.toList (bysL [x]) = ⟨k0, Lib.itoa pv, 0⟩ := by unfold wordsF; rw [hx, if_neg (by decide), if_neg (by decide), if_neg (by decide), if_neg (by decide), if_neg (by decide), if_neg (by decide), if_neg (fun h => absurd h.1 (by decide)), if_neg (fun h => absurd h.1 (by decide)), if_neg (fun h => h rfl)]; rw [if_neg (by decide), if_pos rfl]; show DeskR.mk _ (if (permR x.data.toList).2 = 0 then Lib.itoa (permR x.data.toList).1 else _) (permR x.data.toList).2 = _; rw [hp]; rfl
  rw [hE]
  clear hE
  have q_pack : (wd.toList == [112, 97, 99, 107]) = false := by rw [toL_eq, hx]; decide
  have q_round : (wd.toList == [114, 111, 117, 110, 100]) = false := by rw [toL_eq, hx]; decide
  have q_calc : (wd.toList == [99, 97, 108, 99]) = false := by rw [toL_eq, hx]; decide
  have q_key : (wd.toList == [107, 101, 121]) = false := by rw [toL_eq, hx]; decide
  have q_new : (wd.toList == [110, 101, 119]) = false := by rw [toL_eq, hx]; decide
  have q_read : (wd.toList == [114, 101, 97, 100]) = false := by rw [toL_eq, hx]; decide
  have q_perm : (wd.toList == [112, 101, 114, 109]) = true := by rw [toL_eq, hx]; decide
  have q_drop : (wd.toList == [100, 114, 111, 112]) = false := by rw [toL_eq, hx]; decide
  have hln := hl.len
  have HG := Lib.hid hg
  have HEN := Lib.hid henv
  have HL := Lib.hid hl
  have HLs := Lib.hid hs
  have pr := fun W => permread_any x W
  rw [hp] at pr
  simp only at pr
  have PR := Lib.hid pr
  clear pr hp
  have it := fun W (hW : Tab10 W) => itoa_any pv hi W hW
  have IT := Lib.hid it
  clear it hi
  clear hg henv hl hs
  go_enter Tryz.func107, Tryz.ntmps107
  go_upto_region 1 with (fail)
  go_cut [8] (fun s8 wx => ∃ g1 g2, s8 = .map (some w.heap.size) ∧ wx.heap[w.heap.size]? = some (.map (mvEs g1 g2) 4) ∧ wx.cell? ⟨g1, 0, none⟩ = some (.func (.func 43) #[] #[]) ∧ wx.cell? ⟨g2, 0, none⟩ = some (.func (.func 46) #[] #[]) ∧ Below w.heap.size w wx)
  case first =>
    go_wp2_with (first
      | (refine wpList_mkm rfl 228 rfl ?_)
      | (refine wpList_ins rfl 228 9 226 (.tmp 20) (.const (.string ⟨#[109, 111, 118, 101]⟩)) (.func 129) rfl rfl mvU Tryz.underlying9 w.heap.size 0 #[] ⟨#[109, 111, 118, 101]⟩ (.func (.func 129) #[] #[]) rfl rfl rfl (World.alloc_heap_new w (.map #[] 0)) rfl ?_)
      | (refine wpList_ins rfl 228 9 226 (.tmp 20) (.const (.string ⟨#[110, 97, 114, 114, 111, 119]⟩)) (.func 130) rfl rfl mvU Tryz.underlying9 w.heap.size 1 #[⟨.string ⟨#[109, 111, 118, 101]⟩, .func (.func 129) #[] #[], 0⟩] ⟨#[110, 97, 114, 114, 111, 119]⟩ (.func (.func 130) #[] #[]) rfl rfl rfl (World.putObj_heap_same (by simp [World.putObj])) rfl ?_)
      | (go_at_call 131; ((with_reducible refine (sealer_sealE _).mono ?_); rintro e w5 ⟨g1, rfl, hc5, hl5, hb5⟩; have HM5 := Lib.hid (show w5.heap[w.heap.size]? = some (.map (mv2) 2) from (hb5.block w.heap.size (by simp [World.putObj])).trans (World.putObj_heap_same (by simp [World.putObj]))); have HB5 := Lib.hid (show Below w.heap.size w w5 from (below_putObj (below_putObj (ext_alloc (Below.refl _ _) _) (Nat.le_refl _)) (Nat.le_refl _)).trans (hb5.mono (by simp [World.putObj]))); have HG1 := Lib.hid (show w.heap.size < g1 from Nat.lt_of_lt_of_le (by simp [World.putObj]) hl5); have HC5 := Lib.hid hc5; clear hc5 hl5 hb5))
      | (refine wpList_ins rfl 228 9 226 (.tmp 20) (.const (.string ⟨#[115, 101, 97, 108]⟩)) (.tmp 21) rfl rfl mvU Tryz.underlying9 w.heap.size 2 #[⟨.string ⟨#[109, 111, 118, 101]⟩, .func (.func 129) #[] #[], 0⟩, ⟨.string ⟨#[110, 97, 114, 114, 111, 119]⟩, .func (.func 130) #[] #[], 1⟩] ⟨#[115, 101, 97, 108]⟩ (.func (.func 172) #[] #[.pointer (some ⟨g1, 0, none⟩)]) rfl rfl rfl HM5.out rfl ?_)
      | (go_at_call 131; ((with_reducible refine (sealer_openE _).mono ?_); rintro e w7 ⟨g2, rfl, hc7, hl7, hb7⟩; have HM7 := Lib.hid (show w7.heap[w.heap.size]? = some (.map (mv3 g1) 3) from (hb7.block w.heap.size (by have := (Array.getElem?_eq_some_iff.1 HM5.out).1; simp [World.putObj]; omega)).trans (World.putObj_heap_same (Array.getElem?_eq_some_iff.1 HM5.out).1)); have HB7 := Lib.hid (show Below w.heap.size w w7 from (below_putObj HB5.out (Nat.le_refl _)).trans (hb7.mono (by have := HB5.out.size; simp [World.putObj]; omega))); have HG2 := Lib.hid (show w.heap.size < g2 from Nat.lt_of_lt_of_le (by have := (Array.getElem?_eq_some_iff.1 HM5.out).1; simp [World.putObj]; omega) hl7); have HC7 := Lib.hid hc7; have HC57 := Lib.hid (below_cellD hb7 (a := ⟨g1, 0, none⟩) ((cell_putObjD (a := ⟨g1, 0, none⟩) (Nat.ne_of_gt HG1.out)).trans HC5.out) (Nat.le_refl _)); clear hc7 hl7 hb7))
      | (refine wpList_ins rfl 228 9 226 (.tmp 20) (.const (.string ⟨#[111, 112, 101, 110]⟩)) (.tmp 22) rfl rfl mvU Tryz.underlying9 w.heap.size 3 #[⟨.string ⟨#[109, 111, 118, 101]⟩, .func (.func 129) #[] #[], 0⟩, ⟨.string ⟨#[110, 97, 114, 114, 111, 119]⟩, .func (.func 130) #[] #[], 1⟩, ⟨.string ⟨#[115, 101, 97, 108]⟩, .func (.func 172) #[] #[.pointer (some ⟨g1, 0, none⟩)], 2⟩] ⟨#[111, 112, 101, 110]⟩ (.func (.func 172) #[] #[.pointer (some ⟨g2, 0, none⟩)]) rfl rfl rfl HM7.out rfl ?_))
    go_meet
    exact ⟨g1, g2, rfl, World.putObj_heap_same (Array.getElem?_eq_some_iff.1 HM7.out).1, (cell_putObjD (a := ⟨g1, 0, none⟩) (Nat.ne_of_gt HG1.out)).trans HC57.out, (cell_putObjD (a := ⟨g2, 0, none⟩) (Nat.ne_of_gt HG2.out)).trans HC7.out, below_putObj HB7.out (Nat.le_refl _)⟩
  case rest =>
    obtain ⟨g1, g2, rfl, hm, hc1, hc2, hb⟩ := hcut
    obtain ⟨w4, hw4⟩ : ∃ w4, w4 = wc := ⟨_, rfl⟩
    rw [← hw4] at hm hb hc1 hc2 ⊢
    have HM4 := Lib.hid hm
    have HBW := Lib.hid hb
    have HC1 := Lib.hid hc1
    have HC2 := Lib.hid hc2
    clear hm hb hc1 hc2 hw4
    have lk := mv_none HM4.out (by rw [hx]; decide) (by rw [hx]; decide) (by rw [hx]; decide) (by rw [hx]; decide)
    have hx4 := HL.out.below HBW.out
    obtain ⟨ad, rfl, b0, e0⟩ := sl_str (i := 0) (x := x) hx4 (by decide) rfl
    rw [show ad.add 0 = ad by unfold Addr.add; rfl] at b0 e0
    clear hx4
    clear hx
    go_wp2_with (first
      | (go_at_call 141; ((with_reducible refine (PR.out _).mono ?_); rintro e w5 ⟨rfl, hb5⟩; have HB5 := Lib.hid (ext_trans HBW.out hb5); clear hb5))
      | (go_at_call 108; ((with_reducible refine (IT.out _ (HEN.out _ (FrD.of HB5.out)).ten).mono ?_); rintro e w6 ⟨rfl, hb6⟩; have HB6 := Lib.hid (ext_trans HB5.out hb6); clear hb6)))
    go_ret2
    exact ⟨_, rfl, fun _ => rfl, bk_keep HB6.out HG.out, FrD.of HB6.out⟩
set_option maxHeartbeats 4000000 in
set_option maxRecDepth 100000 in
theorem words_drop_ok (g : Nat) (k0 : KeyV) (hk : k0.wf) (wd : ByteArray) (ao : Option Addr) (c : Nat) (x : ByteArray) (w : World) (hg : Bk w g 153 (deskC k0)) (henv : ∀ W, FrD g w W → PEnv W) (hl : Sl w ao 1 [x]) (hs : ∀ s ∈ [x], s.size ≤ 1000) (hx : wd.data.toList = wDrop) (pv : Int) (hp : permR x.data.toList = (pv, 0)) (hi : I64 pv) :
    Calls Tryz.prog 107 #[.pointer (some ⟨g, 0, none⟩), .string wd, .slice ao 1 c] w (DeskPost g w (wordsF k0 wd.data.toList (bysL [x]))) := by
  have hE : wordsF k0 wd.data.toList (bysL [x]) = keepF k0 (dropF k0 pv) := by unfold wordsF; rw [hx, if_neg (by decide), if_neg (by decide), if_neg (by decide), if_neg (by decide), if_neg (by decide), if_neg (by decide), if_neg (fun h => absurd h.1 (by decide)), if_neg (fun h => absurd h.1 (by decide)), if_neg (fun h => h rfl)]; rw [if_neg (by decide), if_neg (by decide), if_pos rfl]; show (if (permR x.data.toList).2 = 0 then keepF k0 (dropF k0 (permR x.data.toList).1) else _) = _; rw [hp]; rfl
  rw [hE]
  clear hE
  have q_pack : (wd.toList == [112, 97, 99, 107]) = false := by rw [toL_eq, hx]; decide
  have q_round : (wd.toList == [114, 111, 117, 110, 100]) = false := by rw [toL_eq, hx]; decide
  have q_calc : (wd.toList == [99, 97, 108, 99]) = false := by rw [toL_eq, hx]; decide
  have q_key : (wd.toList == [107, 101, 121]) = false := by rw [toL_eq, hx]; decide
  have q_new : (wd.toList == [110, 101, 119]) = false := by rw [toL_eq, hx]; decide
  have q_read : (wd.toList == [114, 101, 97, 100]) = false := by rw [toL_eq, hx]; decide
  have q_perm : (wd.toList == [112, 101, 114, 109]) = false := by rw [toL_eq, hx]; decide
  have q_drop : (wd.toList == [100, 114, 111, 112]) = true := by rw [toL_eq, hx]; decide
  have hln := hl.len
  have HG := Lib.hid hg
  have HEN := Lib.hid henv
  have HL := Lib.hid hl
  have HLs := Lib.hid hs
  have pr := fun W => permread_any x W
  rw [hp] at pr
  simp only at pr
  have PR := Lib.hid pr
  clear pr hp
  obtain ⟨p, b, len, a, s5⟩ := k0
  have dr := fun W => drop_any p b len a s5 pv hi W
  have hw2 := (drop_ok ⟨p, b, len, a, s5⟩ pv).wf
  obtain ⟨⟨⟨p2, b2, l2, a2, s2⟩, er⟩, hr⟩ : ∃ r, dropF ⟨p, b, len, a, s5⟩ pv = r := ⟨_, rfl⟩
  rw [hr] at dr hw2 ⊢
  unfold KeyV.res at dr
  simp only at dr hw2
  have DR := Lib.hid dr
  have HW2 := Lib.hid hw2
  clear dr hr hw2 hi
  clear hg henv hl hs
  go_enter Tryz.func107, Tryz.ntmps107
  go_upto_region 1 with (fail)
  go_cut [8] (fun s8 wx => ∃ g1 g2, s8 = .map (some w.heap.size) ∧ wx.heap[w.heap.size]? = some (.map (mvEs g1 g2) 4) ∧ wx.cell? ⟨g1, 0, none⟩ = some (.func (.func 43) #[] #[]) ∧ wx.cell? ⟨g2, 0, none⟩ = some (.func (.func 46) #[] #[]) ∧ Below w.heap.size w wx)
  case first =>
    go_wp2_with (first
      | (refine wpList_mkm rfl 228 rfl ?_)
      | (refine wpList_ins rfl 228 9 226 (.tmp 20) (.const (.string ⟨#[109, 111, 118, 101]⟩)) (.func 129) rfl rfl mvU Tryz.underlying9 w.heap.size 0 #[] ⟨#[109, 111, 118, 101]⟩ (.func (.func 129) #[] #[]) rfl rfl rfl (World.alloc_heap_new w (.map #[] 0)) rfl ?_)
      | (refine wpList_ins rfl 228 9 226 (.tmp 20) (.const (.string ⟨#[110, 97, 114, 114, 111, 119]⟩)) (.func 130) rfl rfl mvU Tryz.underlying9 w.heap.size 1 #[⟨.string ⟨#[109, 111, 118, 101]⟩, .func (.func 129) #[] #[], 0⟩] ⟨#[110, 97, 114, 114, 111, 119]⟩ (.func (.func 130) #[] #[]) rfl rfl rfl (World.putObj_heap_same (by simp [World.putObj])) rfl ?_)
      | (go_at_call 131; ((with_reducible refine (sealer_sealE _).mono ?_); rintro e w5 ⟨g1, rfl, hc5, hl5, hb5⟩; have HM5 := Lib.hid (show w5.heap[w.heap.size]? = some (.map (mv2) 2) from (hb5.block w.heap.size (by simp [World.putObj])).trans (World.putObj_heap_same (by simp [World.putObj]))); have HB5 := Lib.hid (show Below w.heap.size w w5 from (below_putObj (below_putObj (ext_alloc (Below.refl _ _) _) (Nat.le_refl _)) (Nat.le_refl _)).trans (hb5.mono (by simp [World.putObj]))); have HG1 := Lib.hid (show w.heap.size < g1 from Nat.lt_of_lt_of_le (by simp [World.putObj]) hl5); have HC5 := Lib.hid hc5; clear hc5 hl5 hb5))
      | (refine wpList_ins rfl 228 9 226 (.tmp 20) (.const (.string ⟨#[115, 101, 97, 108]⟩)) (.tmp 21) rfl rfl mvU Tryz.underlying9 w.heap.size 2 #[⟨.string ⟨#[109, 111, 118, 101]⟩, .func (.func 129) #[] #[], 0⟩, ⟨.string ⟨#[110, 97, 114, 114, 111, 119]⟩, .func (.func 130) #[] #[], 1⟩] ⟨#[115, 101, 97, 108]⟩ (.func (.func 172) #[] #[.pointer (some ⟨g1, 0, none⟩)]) rfl rfl rfl HM5.out rfl ?_)
      | (go_at_call 131; ((with_reducible refine (sealer_openE _).mono ?_); rintro e w7 ⟨g2, rfl, hc7, hl7, hb7⟩; have HM7 := Lib.hid (show w7.heap[w.heap.size]? = some (.map (mv3 g1) 3) from (hb7.block w.heap.size (by have := (Array.getElem?_eq_some_iff.1 HM5.out).1; simp [World.putObj]; omega)).trans (World.putObj_heap_same (Array.getElem?_eq_some_iff.1 HM5.out).1)); have HB7 := Lib.hid (show Below w.heap.size w w7 from (below_putObj HB5.out (Nat.le_refl _)).trans (hb7.mono (by have := HB5.out.size; simp [World.putObj]; omega))); have HG2 := Lib.hid (show w.heap.size < g2 from Nat.lt_of_lt_of_le (by have := (Array.getElem?_eq_some_iff.1 HM5.out).1; simp [World.putObj]; omega) hl7); have HC7 := Lib.hid hc7; have HC57 := Lib.hid (below_cellD hb7 (a := ⟨g1, 0, none⟩) ((cell_putObjD (a := ⟨g1, 0, none⟩) (Nat.ne_of_gt HG1.out)).trans HC5.out) (Nat.le_refl _)); clear hc7 hl7 hb7))
      | (refine wpList_ins rfl 228 9 226 (.tmp 20) (.const (.string ⟨#[111, 112, 101, 110]⟩)) (.tmp 22) rfl rfl mvU Tryz.underlying9 w.heap.size 3 #[⟨.string ⟨#[109, 111, 118, 101]⟩, .func (.func 129) #[] #[], 0⟩, ⟨.string ⟨#[110, 97, 114, 114, 111, 119]⟩, .func (.func 130) #[] #[], 1⟩, ⟨.string ⟨#[115, 101, 97, 108]⟩, .func (.func 172) #[] #[.pointer (some ⟨g1, 0, none⟩)], 2⟩] ⟨#[111, 112, 101, 110]⟩ (.func (.func 172) #[] #[.pointer (some ⟨g2, 0, none⟩)]) rfl rfl rfl HM7.out rfl ?_))
    go_meet
    exact ⟨g1, g2, rfl, World.putObj_heap_same (Array.getElem?_eq_some_iff.1 HM7.out).1, (cell_putObjD (a := ⟨g1, 0, none⟩) (Nat.ne_of_gt HG1.out)).trans HC57.out, (cell_putObjD (a := ⟨g2, 0, none⟩) (Nat.ne_of_gt HG2.out)).trans HC7.out, below_putObj HB7.out (Nat.le_refl _)⟩
  case rest =>
    obtain ⟨g1, g2, rfl, hm, hc1, hc2, hb⟩ := hcut
    obtain ⟨w4, hw4⟩ : ∃ w4, w4 = wc := ⟨_, rfl⟩
    rw [← hw4] at hm hb hc1 hc2 ⊢
    have HM4 := Lib.hid hm
    have HBW := Lib.hid hb
    have HC1 := Lib.hid hc1
    have HC2 := Lib.hid hc2
    clear hm hb hc1 hc2 hw4
    have lk := mv_none HM4.out (by rw [hx]; decide) (by rw [hx]; decide) (by rw [hx]; decide) (by rw [hx]; decide)
    have hx4 := HL.out.below HBW.out
    obtain ⟨ad, rfl, b0, e0⟩ := sl_str (i := 0) (x := x) hx4 (by decide) rfl
    rw [show ad.add 0 = ad by unfold Addr.add; rfl] at b0 e0
    clear hx4
    clear hx
    have G4 := Lib.hid (bk_keep HBW.out HG.out)
    obtain ⟨z0, z1, z2, z3, z4⟩ := load_keyD G4.out
    have zL := G4.out.lt
    simp only at z0 z1 z2 z3 z4
    have kp := fun W (hW : Below w.heap.size w W) => keep_any g ⟨p, b, len, a, s5⟩ ⟨p2, b2, l2, a2, s2⟩ er HW2.out W (HEN.out _ (FrD.of hW)) (bk_keep hW HG.out) (fun W2 h2 => HEN.out _ ((FrD.of hW).trans h2))
    obtain ⟨R, hR⟩ : ∃ R, keepF ⟨p, b, len, a, s5⟩ (⟨p2, b2, l2, a2, s2⟩, er) = R := ⟨_, rfl⟩
    unfold KeyV.val at kp
    simp only at kp
    have KP := Lib.hid kp
    clear kp hR
    go_upto_region 32 with (go_at_call 141; ((with_reducible refine (PR.out _).mono ?_); rintro e w5 ⟨rfl, hb5⟩; have HB5 := Lib.hid (ext_trans HBW.out hb5); clear hb5))
    clear z0 z1 z2 z3 z4 zL G4
    have G4 := Lib.hid (bk_keep HB5.out HG.out)
    obtain ⟨z0, z1, z2, z3, z4⟩ := load_keyD G4.out
    have zL := G4.out.lt
    simp only at z0 z1 z2 z3 z4
    go_wp2_with (first
      | (go_at_call 142; ((with_reducible refine (DR.out _).mono ?_); rintro e w6 ⟨rfl, hb6⟩; have HB6 := Lib.hid (ext_trans HB5.out hb6); clear hb6))
      | (go_at_call 137; ((with_reducible refine (KP.out _ HB6.out).mono ?_); rintro e w7 ⟨o, rfl, ho, hb7, hf7⟩)))
    go_ret2
    exact ⟨o, rfl, ho, hb7, (FrD.of HB6.out).trans hf7⟩
theorem permR_i64 (s : List UInt8) : I64 (permR s).1 := by
  have := permOf_lt s
  unfold permR
  split <;> constructor <;> simp only <;> omega
theorem words_any (g : Nat) (k0 : KeyV) (hk : k0.wf) (wd : ByteArray) (ao : Option Addr) (n c : Nat) (l : List ByteArray) (w : World) (hg : Bk w g 153 (deskC k0)) (henv : ∀ W, FrD g w W → PEnv W) (hl : Sl w ao n l) (hs : ∀ s ∈ l, s.size ≤ 1000) (hn6 : n ≤ 1000000) (hnc : n ≤ c) (haf : ∀ a, ao = some a → a = ⟨a.block, a.off, none⟩) (hJ : (Lib.join (bysL l) [32]).length ≤ 1000000) :
    Calls Tryz.prog 107 #[.pointer (some ⟨g, 0, none⟩), .string wd, .slice ao n c] w (DeskPost g w (wordsF k0 wd.data.toList (bysL l))) := by
  by_cases h1 : wd.data.toList = wMove
  · exact words_move g k0 hk wd ao n c l w hg henv hl hs h1
  by_cases h2 : wd.data.toList = wNarrow
  · exact words_narrow g k0 hk wd ao n c l w hg henv hl hs h2
  by_cases h3 : wd.data.toList = wSeal
  · exact words_seal g k0 hk wd ao n c l w hg henv hl hs h3
  by_cases h4 : wd.data.toList = wOpen
  · exact words_open g k0 hk wd ao n c l w hg henv hl hs h4
  by_cases h5 : wd.data.toList = wPack
  · exact words_pack g k0 hk wd ao n c l w hg henv hl hs hn6 hnc haf hJ h5
  by_cases h6 : wd.data.toList = wRound
  · exact words_round g k0 hk wd ao n c l w hg henv hl hs h6
  by_cases h7 : wd.data.toList = wCalc
  · exact words_calc g k0 hk wd ao n c l w hg henv hl hs h7
  by_cases h8 : wd.data.toList = wKey
  · by_cases hn : n = 0
    · exact words_key0 g k0 hk wd ao n c l w hg henv hl hs h8 hn
    · by_cases hn1 : n = 1
      · exact words_key1 g k0 hk wd ao n c l w hg henv hl hs h8 hn1
      · exact words_keyn g k0 hk wd ao n c l w hg henv hl hs h8 hn hn1
  by_cases h9 : wd.data.toList = wNew
  · by_cases hn : n = 0
    · exact words_new0 g k0 hk wd ao n c l w hg henv hl hs h9 hn
    · by_cases hn1 : n = 1
      · exact words_new1 g k0 hk wd ao n c l w hg henv hl hs h9 hn1
      · exact words_newn g k0 hk wd ao n c l w hg henv hl hs h9 hn hn1
  by_cases hn1 : n = 1
  · by_cases hA : wd.data.toList = wRead
    · subst hn1
      obtain ⟨x, rfl⟩ : ∃ x, l = [x] := by
        match l, hl.len with
        | [x], _ => exact ⟨x, rfl⟩
      cases hb : numB x.data.toList with
      | false => exact words_read_no g k0 hk wd ao c x w hg henv hl hs hA hb
      | true =>
        cases hok : instOk (unpack (atoiV x.data.toList)) with
        | false => exact words_read_bad g k0 hk wd ao c x w hg henv hl hs hA hb _ rfl hok
        | true => exact words_read_ok g k0 hk wd ao c x w hg henv hl hs hA hb _ rfl hok _ _ _ _ rfl
    by_cases hB : wd.data.toList = wPerm
    · subst hn1
      obtain ⟨x, rfl⟩ : ∃ x, l = [x] := by
        match l, hl.len with
        | [x], _ => exact ⟨x, rfl⟩
      have hi := permR_i64 x.data.toList
      rcases hp : permR x.data.toList with ⟨pv, er⟩
      rw [hp] at hi
      by_cases h0 : er = 0
      · subst h0
        exact words_perm_ok g k0 hk wd ao c x w hg henv hl hs hB pv hp hi
      · exact words_perm_bad g k0 hk wd ao c x w hg henv hl hs hB pv er hp h0
    by_cases hC : wd.data.toList = wDrop
    · subst hn1
      obtain ⟨x, rfl⟩ : ∃ x, l = [x] := by
        match l, hl.len with
        | [x], _ => exact ⟨x, rfl⟩
      have hi := permR_i64 x.data.toList
      rcases hp : permR x.data.toList with ⟨pv, er⟩
      rw [hp] at hi
      by_cases h0 : er = 0
      · subst h0
        exact words_drop_ok g k0 hk wd ao c x w hg henv hl hs hC pv hp hi
      · exact words_drop_bad g k0 hk wd ao c x w hg henv hl hs hC pv er hp h0
    exact words_else g k0 hk wd ao n c l w hg henv hl hs h1 h2 h3 h4 h5 h6 h7 h8 h9 hn1 hA hB hC
  · exact words_len g k0 hk wd ao n c l w hg henv hl hs h1 h2 h3 h4 h5 h6 h7 h8 h9 hn1
end Go.Proofs.YtpjhjefjbkjhkaaGreatDoor
