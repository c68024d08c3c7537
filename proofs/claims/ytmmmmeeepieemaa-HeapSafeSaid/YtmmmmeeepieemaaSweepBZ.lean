import Derived.Test.YtmmmmeeepieemaaBuH
/- What sweep.Sweep computes. -/
namespace Go.Proofs.Ytmmmmeeepieemaa
open El (cl)
open Go.RowKit
set_option linter.unusedVariables false
set_option linter.unusedSimpArgs false
/-- What Sweep answers. -/
def SwPost (w : World) (R : List ValV) (c : KeyV) (mem : List ValV) (stk : List FrameV) (out : List Int) (cnt er : Int) (e : Ending) (w' : World) : Prop :=
  ∃ vm vs vo, e = .returned (.tuple #[.agg (mcs R c vm vs vo), .int .i64 cnt, .int .i64 er]) ∧ Own w' w.heap.size 42 vm mem ∧ Own w' w.heap.size 114 vs stk ∧ Own w' w.heap.size 3 vo out ∧ Below w.heap.size w w'
theorem map_upto_set {α : Type} (f : α → α) {l : List α} {k : Nat} {x : α} (hx : l[k]? = some x) : ((l.take k).map f ++ l.drop k).set k (f x) = (l.take (k + 1)).map f ++ l.drop (k + 1) := by
  obtain ⟨h, e⟩ := List.getElem?_eq_some_iff.1 hx
  have hl : ((l.take k).map f).length = k := by simp; omega
  rw [List.set_append_right _ _ (by omega), hl, Nat.sub_self, List.drop_eq_getElem_cons h, e, List.set_cons_zero, List.take_succ_eq_append_getElem h, e]
  simp
theorem set_same {α : Type} {l : List α} {k : Nat} {x : α} (hx : l[k]? = some x) : l.set k x = l := by
  obtain ⟨h, e⟩ := List.getElem?_eq_some_iff.1 hx
  rw [← e]
  exact List.set_getElem_self h
theorem map_upto_at {α : Type} (f : α → α) {l : List α} {k : Nat} {x : α} (hx : l[k]? = some x) : ((l.take k).map f ++ l.drop k)[k]? = some x := by
  obtain ⟨h, e⟩ := List.getElem?_eq_some_iff.1 hx
  have hl : ((l.take k).map f).length = k := by simp; omega
  rw [List.getElem?_append_right (by omega), hl, Nat.sub_self, List.getElem?_drop]
  simpa using hx
theorem map_upto_len {α : Type} (f : α → α) (l : List α) (k : Nat) : ((l.take k).map f ++ l.drop k).length = l.length := by simp; omega
theorem cls_atq {α : Type} [El α] {xs : List α} {i j : Nat} {x : α} (hx : xs[i]? = some x) (hj : j < El.k α) : (cls xs)[i * El.k α + j]? = (cl x)[j]? := by
  obtain ⟨h, e⟩ := List.getElem?_eq_some_iff.1 hx
  rw [cls_at xs i h j hj, e]
theorem kbd {v : ValV} (h : v.Ok) : 0 ≤ v.k.base ∧ v.k.base ≤ 400 ∧ 0 ≤ v.k.len ∧ v.k.len ≤ 400 := by
  rcases h with ⟨_, h, _⟩ | ⟨_, _, _, h⟩
  · have := h.b0; have := h.b1; have := h.l0; have := h.l1; omega
  · rw [h]; simp [zeroK]
theorem sumV_take {b n : Int} {l : List ValV} {k : Nat} {x : ValV} (hx : l[k]? = some x) : sumV b n (l.take (k + 1)) = sumV b n (l.take k) + ctV b n x := by
  obtain ⟨h, e⟩ := List.getElem?_eq_some_iff.1 hx
  rw [List.take_succ_eq_append_getElem h, e, sumV_snoc]
theorem sumF_take {b n : Int} {l : List FrameV} {k : Nat} {x : FrameV} (hx : l[k]? = some x) : sumF b n (l.take (k + 1)) = sumF b n (l.take k) + ctF b n x := by
  obtain ⟨h, e⟩ := List.getElem?_eq_some_iff.1 hx
  rw [List.take_succ_eq_append_getElem h, e, sumF_snoc]
set_option maxHeartbeats 4000000 in
set_option maxRecDepth 100000 in
theorem sweep_err (R : List ValV) (c : KeyV) (mem : List ValV) (stk : List FrameV) (out : List Int) (ma sa oa : Option Addr) (mc sc oc : Nat) (b n : Int) (w : World) (h8 : R.length = 8)
    (hm : Sl w ma mem.length mem) (hs : Sl w sa stk.length stk) (ho : Sl w oa out.length out) (hc : stepCheck R c mem stk out ≠ 0) : Calls Try.prog 32 #[.agg (mcs R c (.slice ma mem.length mc) (.slice sa stk.length sc) (.slice oa out.length oc)), .int .i64 b, .int .i64 n] w (SwPost w zeroR zeroK [] [] [] 0 (stepCheck R c mem stk out)) := by
  have hsz := mcs_size (c := c) (ms := .slice ma mem.length mc) (ss := .slice sa stk.length sc) (os := .slice oa out.length oc) h8
  have sck := scheck_any R c mem stk out ma sa oa mc sc oc
  have cpd := copied_any R c mem stk out ma sa oa mc sc oc
  obtain ⟨cs, hcs⟩ : ∃ cs, cs = mcs R c (.slice ma mem.length mc) (.slice sa stk.length sc) (.slice oa out.length oc) := ⟨_, rfl⟩
  rw [← hcs] at hsz sck cpd ⊢
  have hex : cs.extract 0 (0 + 64) = cs := by rw [Array.extract_eq_self_of_le (by rw [hsz]; omega)]
  obtain ⟨w1, hw1⟩ : ∃ w1, w1 = (w.alloc (.cells cs 63)).alloc (.cells #[.bool false, .int .i64 0, .int .i64 0, .int .i64 0, .int .i64 0, .int .i64 0, .int .i64 0, .bool false, .int .i64 0, .int .i64 0, .int .i64 0, .int .i64 0, .int .i64 0, .int .i64 0, .bool false, .int .i64 0, .int .i64 0, .int .i64 0, .int .i64 0, .int .i64 0, .int .i64 0, .bool false, .int .i64 0, .int .i64 0, .int .i64 0, .int .i64 0, .int .i64 0, .int .i64 0, .bool false, .int .i64 0, .int .i64 0, .int .i64 0, .int .i64 0, .int .i64 0, .int .i64 0, .bool false, .int .i64 0, .int .i64 0, .int .i64 0, .int .i64 0, .int .i64 0, .int .i64 0, .bool false, .int .i64 0, .int .i64 0, .int .i64 0, .int .i64 0, .int .i64 0, .int .i64 0, .bool false, .int .i64 0, .int .i64 0, .int .i64 0, .int .i64 0, .int .i64 0, .int .i64 0, .int .i64 0, .int .i64 0, .int .i64 0, .int .i64 0, .int .i64 0, .slice none 0 0, .slice none 0 0, .slice none 0 0] 63) := ⟨_, rfl⟩
  have hB : Bk w1 w.heap.size 63 cs := by rw [hw1]; exact bk_old _ (bk_new _ _ _)
  have hB2 : Bk w1 (w.heap.size + 1) 63 zmc := by rw [hw1]; exact bk_new' _ _ (by simp)
  have h1w : Below w.heap.size w w1 := by rw [hw1]; exact ext_alloc (ext_alloc (Below.refl _ _) _) _
  have sc1 := sck w1 h8 (hm.below h1w) (hs.below h1w) (ho.below h1w)
  generalize stepCheck R c mem stk out = ec at *
  have g1 : (ec == 0) = false := by simpa using hc
  have g2 : (ec != 0) = true := by simpa using hc
  have SC := Lib.hid sc1
  have HW1 := Lib.hid hw1
  have HSZ := Lib.hid hsz
  have HEX := Lib.hid hex
  have HB := Lib.hid hB
  have HB2 := Lib.hid hB2
  have H1W := Lib.hid h1w
  clear hsz hex hB hB2 h1w hw1 hm hs ho h8 sck cpd sc1 hcs hc
  go_enter Try.func32, Try.ntmps32
  go_upto_region 1 with (fail)
  rw [← HW1.out]
  go_wp2_with (first
    | (refine wpList_load_sub rfl 63 (.tmp 3) rfl w.heap.size 0 64 rfl 63 _ _ HB.out Try.underlying63 rfl (by kernel_rfl) (by have := HSZ.out; omega) _ HEX.out ?_)
    | (go_at_call 48; ((with_reducible refine SC.out.mono ?_); rintro e w' ⟨rfl, hb⟩; obtain ⟨y1, rfl⟩ := later_call (Below.refl _ _) hb; clear hb))
    | (refine wpList_store_rowTo rfl 63 (.tmp 6) (.tmp 18) rfl rfl (w.heap.size + 1) zmc rfl (by first | rfl | kernel_rfl) 63 _ (y1.bk HB2.out) (by kernel_rfl) (by kernel_rfl) (by kernel_rfl) ?_))
  refine bodyPost_ret (results_row3 (g := w.heap.size + 1) (t := 63) (cs := zmc) (fr := (0, 0)) rfl _ _ _ rfl (bk_setRow (y1.bk HB2.out) _) Try.underlying63 rfl (by kernel_rfl)) rfl ?_
  exact ⟨_, _, _, by rw [zmc_eq]; rfl, Own.nil _ _ _, Own.nil _ _ _, Own.nil _ _ _, ext_setRow (ext_trans H1W.out y1.ok) (by omega) _⟩
set_option maxHeartbeats 4000000 in
set_option maxRecDepth 100000 in
theorem sweep_bad (R : List ValV) (c : KeyV) (mem : List ValV) (stk : List FrameV) (out : List Int) (ma sa oa : Option Addr) (mc sc oc : Nat) (b n : Int) (w : World) (h8 : R.length = 8)
    (hm : Sl w ma mem.length mem) (hs : Sl w sa stk.length stk) (ho : Sl w oa out.length out) (hc : stepCheck R c mem stk out = 0) (hbn : ¬ (0 ≤ b ∧ b ≤ 400 ∧ 0 ≤ n ∧ n ≤ 400 - b)) (wb : I64 b) (wn : I64 n) : Calls Try.prog 32 #[.agg (mcs R c (.slice ma mem.length mc) (.slice sa stk.length sc) (.slice oa out.length oc)), .int .i64 b, .int .i64 n] w (SwPost w zeroR zeroK [] [] [] 0 1) := by
  have hsz := mcs_size (c := c) (ms := .slice ma mem.length mc) (ss := .slice sa stk.length sc) (os := .slice oa out.length oc) h8
  have sck := scheck_any R c mem stk out ma sa oa mc sc oc
  have cpd := copied_any R c mem stk out ma sa oa mc sc oc
  obtain ⟨cs, hcs⟩ : ∃ cs, cs = mcs R c (.slice ma mem.length mc) (.slice sa stk.length sc) (.slice oa out.length oc) := ⟨_, rfl⟩
  rw [← hcs] at hsz sck cpd ⊢
  have hex : cs.extract 0 (0 + 64) = cs := by rw [Array.extract_eq_self_of_le (by rw [hsz]; omega)]
  obtain ⟨w1, hw1⟩ : ∃ w1, w1 = (w.alloc (.cells cs 63)).alloc (.cells #[.bool false, .int .i64 0, .int .i64 0, .int .i64 0, .int .i64 0, .int .i64 0, .int .i64 0, .bool false, .int .i64 0, .int .i64 0, .int .i64 0, .int .i64 0, .int .i64 0, .int .i64 0, .bool false, .int .i64 0, .int .i64 0, .int .i64 0, .int .i64 0, .int .i64 0, .int .i64 0, .bool false, .int .i64 0, .int .i64 0, .int .i64 0, .int .i64 0, .int .i64 0, .int .i64 0, .bool false, .int .i64 0, .int .i64 0, .int .i64 0, .int .i64 0, .int .i64 0, .int .i64 0, .bool false, .int .i64 0, .int .i64 0, .int .i64 0, .int .i64 0, .int .i64 0, .int .i64 0, .bool false, .int .i64 0, .int .i64 0, .int .i64 0, .int .i64 0, .int .i64 0, .int .i64 0, .bool false, .int .i64 0, .int .i64 0, .int .i64 0, .int .i64 0, .int .i64 0, .int .i64 0, .int .i64 0, .int .i64 0, .int .i64 0, .int .i64 0, .int .i64 0, .slice none 0 0, .slice none 0 0, .slice none 0 0] 63) := ⟨_, rfl⟩
  have hB : Bk w1 w.heap.size 63 cs := by rw [hw1]; exact bk_old _ (bk_new _ _ _)
  have hB2 : Bk w1 (w.heap.size + 1) 63 zmc := by rw [hw1]; exact bk_new' _ _ (by simp)
  have h1w : Below w.heap.size w w1 := by rw [hw1]; exact ext_alloc (ext_alloc (Below.refl _ _) _) _
  have sc1 := sck w1 h8 (hm.below h1w) (hs.below h1w) (ho.below h1w)
  rw [hc] at sc1
  have SC := Lib.hid sc1
  have HW1 := Lib.hid hw1
  have HSZ := Lib.hid hsz
  have HEX := Lib.hid hex
  have HB := Lib.hid hB
  have HB2 := Lib.hid hB2
  have H1W := Lib.hid h1w
  have w0 := wb.1
  have w2 := wb.2
  have w3 := wn.1
  have w4 := wn.2
  clear hsz hex hB hB2 h1w hw1 hm hs ho h8 sck cpd sc1 hcs hc
  by_cases h0 : b < 0
  · clear hbn
    go_enter Try.func32, Try.ntmps32
    go_upto_region 1 with (fail)
    rw [← HW1.out]
    go_wp2_with (first
      | (refine wpList_load_sub rfl 63 (.tmp 3) rfl w.heap.size 0 64 rfl 63 _ _ HB.out Try.underlying63 rfl (by kernel_rfl) (by have := HSZ.out; omega) _ HEX.out ?_)
      | (go_at_call 48; ((with_reducible refine SC.out.mono ?_); rintro e w' ⟨rfl, hb⟩; obtain ⟨y1, rfl⟩ := later_call (Below.refl _ _) hb; clear hb))
      | (refine wpList_store_rowTo rfl 63 (.tmp 6) (.tmp 36) rfl rfl (w.heap.size + 1) zmc rfl (by first | rfl | kernel_rfl) 63 _ (y1.bk HB2.out) (by kernel_rfl) (by kernel_rfl) (by kernel_rfl) ?_))
    refine bodyPost_ret (results_row3 (g := w.heap.size + 1) (t := 63) (cs := zmc) (fr := (0, 0)) rfl _ _ _ rfl (bk_setRow (y1.bk HB2.out) _) Try.underlying63 rfl (by kernel_rfl)) rfl ?_
    exact ⟨_, _, _, by rw [zmc_eq]; rfl, Own.nil _ _ _, Own.nil _ _ _, Own.nil _ _ _, ext_setRow (ext_trans H1W.out y1.ok) (by omega) _⟩
  · by_cases h1 : 400 < b
    · clear hbn
      go_enter Try.func32, Try.ntmps32
      go_upto_region 1 with (fail)
      rw [← HW1.out]
      go_wp2_with (first
        | (refine wpList_load_sub rfl 63 (.tmp 3) rfl w.heap.size 0 64 rfl 63 _ _ HB.out Try.underlying63 rfl (by kernel_rfl) (by have := HSZ.out; omega) _ HEX.out ?_)
        | (go_at_call 48; ((with_reducible refine SC.out.mono ?_); rintro e w' ⟨rfl, hb⟩; obtain ⟨y1, rfl⟩ := later_call (Below.refl _ _) hb; clear hb))
        | (refine wpList_store_rowTo rfl 63 (.tmp 6) (.tmp 36) rfl rfl (w.heap.size + 1) zmc rfl (by first | rfl | kernel_rfl) 63 _ (y1.bk HB2.out) (by kernel_rfl) (by kernel_rfl) (by kernel_rfl) ?_))
      refine bodyPost_ret (results_row3 (g := w.heap.size + 1) (t := 63) (cs := zmc) (fr := (0, 0)) rfl _ _ _ rfl (bk_setRow (y1.bk HB2.out) _) Try.underlying63 rfl (by kernel_rfl)) rfl ?_
      exact ⟨_, _, _, by rw [zmc_eq]; rfl, Own.nil _ _ _, Own.nil _ _ _, Own.nil _ _ _, ext_setRow (ext_trans H1W.out y1.ok) (by omega) _⟩
    · by_cases h2 : n < 0
      · clear hbn
        go_enter Try.func32, Try.ntmps32
        go_upto_region 1 with (fail)
        rw [← HW1.out]
        go_wp2_with (first
          | (refine wpList_load_sub rfl 63 (.tmp 3) rfl w.heap.size 0 64 rfl 63 _ _ HB.out Try.underlying63 rfl (by kernel_rfl) (by have := HSZ.out; omega) _ HEX.out ?_)
          | (go_at_call 48; ((with_reducible refine SC.out.mono ?_); rintro e w' ⟨rfl, hb⟩; obtain ⟨y1, rfl⟩ := later_call (Below.refl _ _) hb; clear hb))
          | (refine wpList_store_rowTo rfl 63 (.tmp 6) (.tmp 36) rfl rfl (w.heap.size + 1) zmc rfl (by first | rfl | kernel_rfl) 63 _ (y1.bk HB2.out) (by kernel_rfl) (by kernel_rfl) (by kernel_rfl) ?_))
        refine bodyPost_ret (results_row3 (g := w.heap.size + 1) (t := 63) (cs := zmc) (fr := (0, 0)) rfl _ _ _ rfl (bk_setRow (y1.bk HB2.out) _) Try.underlying63 rfl (by kernel_rfl)) rfl ?_
        exact ⟨_, _, _, by rw [zmc_eq]; rfl, Own.nil _ _ _, Own.nil _ _ _, Own.nil _ _ _, ext_setRow (ext_trans H1W.out y1.ok) (by omega) _⟩
      · have h3 : 400 - b < n := by omega
        clear hbn
        go_enter Try.func32, Try.ntmps32
        go_upto_region 1 with (fail)
        rw [← HW1.out]
        go_wp2_with (first
          | (refine wpList_load_sub rfl 63 (.tmp 3) rfl w.heap.size 0 64 rfl 63 _ _ HB.out Try.underlying63 rfl (by kernel_rfl) (by have := HSZ.out; omega) _ HEX.out ?_)
          | (go_at_call 48; ((with_reducible refine SC.out.mono ?_); rintro e w' ⟨rfl, hb⟩; obtain ⟨y1, rfl⟩ := later_call (Below.refl _ _) hb; clear hb))
          | (refine wpList_store_rowTo rfl 63 (.tmp 6) (.tmp 36) rfl rfl (w.heap.size + 1) zmc rfl (by first | rfl | kernel_rfl) 63 _ (y1.bk HB2.out) (by kernel_rfl) (by kernel_rfl) (by kernel_rfl) ?_))
        refine bodyPost_ret (results_row3 (g := w.heap.size + 1) (t := 63) (cs := zmc) (fr := (0, 0)) rfl _ _ _ rfl (bk_setRow (y1.bk HB2.out) _) Try.underlying63 rfl (by kernel_rfl)) rfl ?_
        exact ⟨_, _, _, by rw [zmc_eq]; rfl, Own.nil _ _ _, Own.nil _ _ _, Own.nil _ _ _, ext_setRow (ext_trans H1W.out y1.ok) (by omega) _⟩
set_option maxHeartbeats 8000000 in
set_option maxRecDepth 100000 in
theorem sweep_ok (R : List ValV) (c : KeyV) (mem : List ValV) (stk : List FrameV) (out : List Int) (ma sa oa : Option Addr) (mc sc oc : Nat) (b n : Int) (w : World) (h8 : R.length = 8)
    (hm : Sl w ma mem.length mem) (hs : Sl w sa stk.length stk) (ho : Sl w oa out.length out) (hok : MOk R c mem stk out) (b0 : 0 ≤ b) (b1 : b ≤ 400) (n0 : 0 ≤ n) (n1 : n ≤ 400 - b) : Calls Try.prog 32 #[.agg (mcs R c (.slice ma mem.length mc) (.slice sa stk.length sc) (.slice oa out.length oc)), .int .i64 b, .int .i64 n] w (SwPost w (R.map (swV b n)) (swK b n c) (mem.map (swV b n)) (stk.map (swF b n)) out (swCount b n R c mem stk) 0) := by
  have l400 := hok.len
  have l16 := hok.deep
  have l100 := hok.told
  have hc := stepCheck_zero.2 hok
  have hsz := mcs_size (c := c) (ms := .slice ma mem.length mc) (ss := .slice sa stk.length sc) (os := .slice oa out.length oc) h8
  have sck := scheck_any R c mem stk out ma sa oa mc sc oc
  have cpd := copied_any R c mem stk out ma sa oa mc sc oc
  obtain ⟨cs, hcs⟩ : ∃ cs, cs = mcs R c (.slice ma mem.length mc) (.slice sa stk.length sc) (.slice oa out.length oc) := ⟨_, rfl⟩
  rw [← hcs] at hsz sck cpd ⊢
  have hex : cs.extract 0 (0 + 64) = cs := by rw [Array.extract_eq_self_of_le (by rw [hsz]; omega)]
  obtain ⟨w1, hw1⟩ : ∃ w1, w1 = (w.alloc (.cells cs 63)).alloc (.cells #[.bool false, .int .i64 0, .int .i64 0, .int .i64 0, .int .i64 0, .int .i64 0, .int .i64 0, .bool false, .int .i64 0, .int .i64 0, .int .i64 0, .int .i64 0, .int .i64 0, .int .i64 0, .bool false, .int .i64 0, .int .i64 0, .int .i64 0, .int .i64 0, .int .i64 0, .int .i64 0, .bool false, .int .i64 0, .int .i64 0, .int .i64 0, .int .i64 0, .int .i64 0, .int .i64 0, .bool false, .int .i64 0, .int .i64 0, .int .i64 0, .int .i64 0, .int .i64 0, .int .i64 0, .bool false, .int .i64 0, .int .i64 0, .int .i64 0, .int .i64 0, .int .i64 0, .int .i64 0, .bool false, .int .i64 0, .int .i64 0, .int .i64 0, .int .i64 0, .int .i64 0, .int .i64 0, .bool false, .int .i64 0, .int .i64 0, .int .i64 0, .int .i64 0, .int .i64 0, .int .i64 0, .int .i64 0, .int .i64 0, .int .i64 0, .int .i64 0, .int .i64 0, .slice none 0 0, .slice none 0 0, .slice none 0 0] 63) := ⟨_, rfl⟩
  have hB : Bk w1 w.heap.size 63 cs := by rw [hw1]; exact bk_old _ (bk_new _ _ _)
  have hB2 : Bk w1 (w.heap.size + 1) 63 zmc := by rw [hw1]; exact bk_new' _ _ (by simp)
  have h1w : Below w.heap.size w w1 := by rw [hw1]; exact ext_alloc (ext_alloc (Below.refl _ _) _) _
  have sc1 := sck w1 h8 (hm.below h1w) (hs.below h1w) (ho.below h1w)
  rw [hc] at sc1
  have cp := fun y : Later w1 => cpd y.val h8 ((hm.below h1w).below y.ok) ((hs.below h1w).below y.ok) ((ho.below h1w).below y.ok) (by omega) (by omega) (by omega)
  unfold MPost at cp
  have SC := Lib.hid sc1
  have CP := Lib.hid cp
  have HW1 := Lib.hid hw1
  have HSZ := Lib.hid hsz
  have HEX := Lib.hid hex
  have HB := Lib.hid hB
  have HB2 := Lib.hid hB2
  have H1W := Lib.hid h1w
  have HCK := Lib.hid hok.code
  have HRK := Lib.hid hok.regs
  have HMK := Lib.hid hok.mem
  have HSTK := Lib.hid hok.stk
  have H8 := Lib.hid h8
  clear hsz hex hB hB2 h1w hw1 hm hs ho h8 sck cpd sc1 cp hcs hc hok
  have g0 : ¬ (b < 0) := by omega
  have g1 : ¬ (400 < b) := by omega
  have g2 : ¬ (n < 0) := by omega
  have g3 : ¬ (400 - b < n) := by omega
  go_enter Try.func32, Try.ntmps32
  go_upto_region 1 with (fail)
  rw [← HW1.out]
  go_upto_region 8 with (first
    | (refine wpList_load_sub rfl 63 (.tmp 3) rfl w.heap.size 0 64 rfl 63 _ _ HB.out Try.underlying63 rfl (by kernel_rfl) (by have := HSZ.out; omega) _ HEX.out ?_)
    | (refine wpList_load_sub rfl 63 (.tmp 3) rfl w.heap.size 0 64 rfl 63 _ _ (y1.bk HB.out) Try.underlying63 rfl (by kernel_rfl) (by have := HSZ.out; omega) _ HEX.out ?_)
    | (go_at_call 48; ((with_reducible refine SC.out.mono ?_); rintro e w' ⟨rfl, hb⟩; obtain ⟨y1, rfl⟩ := later_call (Below.refl _ _) hb; clear hb))
    | (go_at_call 49; ((with_reducible refine (CP.out y1).mono ?_); rintro e w2 ⟨vm, vs, vo, rfl, om, os, oo, hb2⟩; obtain ⟨mma, mmc, rfl, _, _⟩ := om.sl; obtain ⟨ssa, ssc, rfl, _, _⟩ := os.sl; obtain ⟨ooa, ooc, rfl, _, _⟩ := oo.sl; have OM := Lib.hid om; have OS := Lib.hid os; have OO := Lib.hid oo; have HB22 := Lib.hid hb2; have HSZ2 := Lib.hid (mcs_size (c := c) (ms := .slice mma mem.length mmc) (ss := .slice ssa stk.length ssc) (os := .slice ooa out.length ooc) H8.out); have HONE := Lib.hid (mcs_one (R := R) (c := c) (ownsOne om) (ownsOne os) (ownsOne oo)); clear om os oo hb2))
    | (refine wpList_store_rowTo rfl 63 (.tmp 3) (.tmp 38) rfl rfl w.heap.size (mcs R c (.slice mma mem.length mmc) (.slice ssa stk.length ssc) (.slice ooa out.length ooc)) rfl rfl 63 _ (bk_keep HB22.out (y1.bk HB.out)) (by rw [HSZ2.out]; kernel_rfl) (by rw [HSZ2.out, HSZ.out]) HONE.out ?_))
  obtain ⟨base, hbase⟩ : ∃ base, base = y1.val.heap.size := ⟨_, rfl⟩
  obtain ⟨gb, hgb⟩ : ∃ gb, gb = w2.heap.size := ⟨_, rfl⟩
  obtain ⟨W0, hW0⟩ : ∃ W0, W0 = ((w2.setRow w.heap.size (mcs R c (.slice mma mem.length mmc) (.slice ssa stk.length ssc) (.slice ooa out.length ooc))).alloc (.cells #[.int .i64 b, .int .i64 n, .int .i64 0] 108)) := ⟨_, rfl⟩
  have hz2 : w2.heap.size = (w2.setRow w.heap.size (mcs R c (.slice mma mem.length mmc) (.slice ssa stk.length ssc) (.slice ooa out.length ooc))).heap.size := by simp
  have hwl : w.heap.size < y1.val.heap.size := y1.lt HB.out.lt
  have hy2 : y1.val.heap.size ≤ w2.heap.size := HB22.out.size
  have k1 := bk_keep HB22.out (y1.bk HB.out)
  have s0 : SwSt w W0 w.heap.size gb base 63 108 42 114 3 b n (.slice mma mem.length mmc) (.slice ssa stk.length ssc) (.slice ooa out.length ooc) R c mem stk out 0 W0 := by
    have e1 : Bk W0 w.heap.size 63 (mcs R c (.slice mma mem.length mmc) (.slice ssa stk.length ssc) (.slice ooa out.length ooc)) := by rw [hW0]; exact bk_old _ (bk_setRow k1 _)
    have e2 : Bk W0 gb 108 #[.int .i64 b, .int .i64 n, .int .i64 0] := by rw [hW0]; exact bk_new' _ _ (by rw [hgb, hz2])
    have e3 : Own W0 base 42 (.slice mma mem.length mmc) mem := by rw [hW0, hbase]; exact (own_setRow OM.out k1 (by decide) _).alloc _
    have e4 : Own W0 base 114 (.slice ssa stk.length ssc) stk := by rw [hW0, hbase]; exact (own_setRow OS.out k1 (by decide) _).alloc _
    have e5 : Own W0 base 3 (.slice ooa out.length ooc) out := by rw [hW0, hbase]; exact (own_setRow OO.out k1 (by decide) _).alloc _
    have e6 : Below w.heap.size w W0 := by rw [hW0]; exact ext_alloc (ext_setRow (ext_trans (ext_trans H1W.out y1.ok) HB22.out) (Nat.le_refl _) _) _
    have e7 : base ≤ W0.heap.size := by rw [hW0, hbase]; simp; omega
    exact ⟨H8.out, e1, e2, e3, e4, e5, e6, e7, fun _ _ _ => rfl⟩
  have r0 : Bk W0 (w.heap.size + 1) 63 zmc := by
    rw [hW0]
    refine bk_old _ ?_
    have := bk_keep HB22.out (y1.bk HB2.out)
    exact (setRow_other _ _ _ _ (by omega)).trans this
  rw [← hW0, ← hgb]
  have hgbw : w.heap.size + 1 < gb := by have := y1.lt HB2.out.lt; omega
  have hbw : w.heap.size ≤ base := by omega
  have hgb2 : base ≤ gb := by omega
  have hbase1 : w.heap.size + 1 < base := by have := y1.lt HB2.out.lt; omega
  have R0 := Lib.hid r0
  have S0 := Lib.hid s0
  clear hW0 hgb hbase s0 r0 k1 hz2 hy2 hwl
  obtain ⟨cp_, cb, cl_, ca, cs_⟩ := c
  have hcK : 0 ≤ cb ∧ cb ≤ 400 ∧ 0 ≤ cl_ ∧ cl_ ≤ 400 := by have h := HCK.out; have h0 := h.b0; have h1 := h.b1; have h2 := h.l0; have h3 := h.l1; simp only at h0 h1 h2 h3; omega
  have kc := swkey_any gb w.heap.size 56 b n 0 cp_ cb cl_ ca cs_ W0 108 S0.out.bB (by omega) S0.out.mB.lt (fun j => S0.out.mB.frozen j) ((S0.out.mB.cell _).trans (mcs_hi H8.out 0)) ((S0.out.mB.cell _).trans (mcs_hi H8.out 1)) ((S0.out.mB.cell _).trans (mcs_hi H8.out 2)) ((S0.out.mB.cell _).trans (mcs_hi H8.out 3)) ((S0.out.mB.cell _).trans (mcs_hi H8.out 4))
    b0 b1 n0 (by omega) (by omega) (by omega) hcK.1 hcK.2.1 hcK.2.2.1 hcK.2.2.2
  have kc2 : Calls Try.prog 50 #[.pointer (some ⟨gb, 0, none⟩), .pointer (some ⟨w.heap.size, 56, none⟩)] W0 fun e w' => e = .returned (.tuple #[]) ∧ SwSt w W0 w.heap.size gb base 63 108 42 114 3 b n (.slice mma mem.length mmc) (.slice ssa stk.length ssc) (.slice ooa out.length ooc) R (swK b n ⟨cp_, cb, cl_, ca, cs_⟩) mem stk out (ctK b n ⟨cp_, cb, cl_, ca, cs_⟩) w' := by
    refine kc.mono fun e w' ⟨he, W1, hb, hw⟩ => ⟨he, ?_⟩
    subst hw
    have st := S0.out.below hb
    unfold swK ctK
    cases hitsB b n ⟨cp_, cb, cl_, ca, cs_⟩
    · exact st
    · exact (st.mach (Nat.le_refl _) (by decide) (by decide) (by decide) (by decide) 56 z5 R zeroK H8.out (mcs_codeset (d := zeroK) H8.out)).count (by omega) hgb2 (by decide) (by decide) (by decide) (by decide)
  have KC := Lib.hid kc2
  clear kc kc2 hcK
  go_wp2_with (go_at_call 50; ((with_reducible refine KC.out.mono ?_); rintro e W1 ⟨rfl, st⟩; have S1 := Lib.hid st; clear st))
  generalize hcc : swK b n ⟨cp_, cb, cl_, ca, cs_⟩ = c2 at *
  have HCC := Lib.hid hcc
  clear hcc
  have hck := ctK_bd b n ⟨cp_, cb, cl_, ca, cs_⟩
  generalize hct : ctK b n ⟨cp_, cb, cl_, ca, cs_⟩ = k0 at *
  have HCT := Lib.hid hct
  clear hct
  have hlR := H8.out
  go_loopw [46] (fun i wr => ∃ k : Nat, k ≤ 8 ∧ i = .int .i64 k ∧ SwSt w W0 w.heap.size gb base 63 108 42 114 3 b n (.slice mma mem.length mmc) (.slice ssa stk.length ssc) (.slice ooa out.length ooc) ((R.take k).map (swV b n) ++ R.drop k) c2 mem stk out (k0 + sumV b n (R.take k)) wr) (fun i _ => 8 - (intOf i).toNat)
  case atStart => exact ⟨0, by omega, rfl, by simpa [sumV] using S1.out⟩
  case round =>
    obtain ⟨k, hk, rfl, hst⟩ := hrel
    by_cases hlt : k < 8
    · have q1 : (k : Int) < 8 := by omega
      obtain ⟨x, hx⟩ : ∃ x, R[k]? = some x := ⟨_, List.getElem?_eq_getElem (by omega)⟩
      have hxo := HRK.out x (List.mem_of_getElem? hx)
      have hst2 := sumV_take (b := b) (n := n) hx
      have hbd := sumV_bd b n (R.take k)
      have hbl : (R.take k).length ≤ k := List.length_take_le _ _
      have hctd := ctV_bd b n x
      have cell := fun j (hj : j < 7) => (hst.mB.cell (k * 7 + j)).trans ((mcs_lo hst.h8 (show k * 7 + j < 56 by omega)).trans (cls_atq (map_upto_at (swV b n) hx) hj))
      have vc := swval_any gb w.heap.size (k * 7) b n (k0 + sumV b n (R.take k)) x.is x.n x.k.perm x.k.base x.k.len x.k.at_ x.k.seal_ wr 108 hst.bB (by omega) hst.mB.lt (fun j => hst.mB.frozen j)
        (cell 0 (by decide)) (cell 1 (by decide)) (cell 2 (by decide)) (cell 3 (by decide)) (cell 4 (by decide)) (cell 5 (by decide)) (cell 6 (by decide)) b0 b1 n0 (by omega) (by omega) (by omega) (kbd hxo).1 (kbd hxo).2.1 (kbd hxo).2.2.1 (kbd hxo).2.2.2
      have vc2 : Calls Try.prog 51 #[.pointer (some ⟨gb, 0, none⟩), .pointer (some ⟨w.heap.size, k * 7, none⟩)] wr fun e w' => e = .returned (.tuple #[]) ∧ SwSt w W0 w.heap.size gb base 63 108 42 114 3 b n (.slice mma mem.length mmc) (.slice ssa stk.length ssc) (.slice ooa out.length ooc) ((R.take (k + 1)).map (swV b n) ++ R.drop (k + 1)) c2 mem stk out (k0 + sumV b n (R.take (k + 1))) w' := by
        refine vc.mono fun e w' ⟨he, W1, hb, hw⟩ => ⟨he, ?_⟩
        subst hw
        have st := hst.below hb
        have hms := map_upto_set (swV b n) hx
        have hma := map_upto_at (swV b n) hx
        rw [hst2]
        unfold ctV
        rw [show (swV b n x) = if x.is && hitsB b n x.k then zeroV else x from rfl] at hms
        cases hh : (x.is && hitsB b n x.k)
        · rw [hh] at hms
          simp only [Bool.false_eq_true, if_false] at hms
          rw [← hms, set_same hma]
          simpa using st
        · rw [hh] at hms
          simp only [if_true] at hms
          rw [← hms, ← Int.add_assoc]
          exact (st.mach (Nat.le_refl _) (by decide) (by decide) (by decide) (by decide) (k * 7) z7 _ c2 (by rw [List.length_set]; exact st.h8) (mcs_regset st.h8 hma rfl)).count (by omega) hgb2 (by decide) (by decide) (by decide) (by decide)
      have VC := Lib.hid vc2
      clear vc vc2 cell hst hst2 hbd hbl hctd hx hxo
      go_wp2_with (go_at_call 51; ((with_reducible refine VC.out.mono ?_); rintro e W2 ⟨rfl, st⟩; have S2 := Lib.hid st; clear st))
      go_roundw
      case rel => exact ⟨k + 1, by omega, by go_num, S2.out⟩
      case measure => simp [intOf]; omega
    · have q1 : ¬ ((k : Int) < 8) := by omega
      have hk8 : k = 8 := by omega
      subst hk8
      rw [List.take_of_length_le (by omega), List.drop_of_length_le (by omega), List.append_nil] at hst
      generalize hk1 : k0 + sumV b n R = k1 at *
      have HK1 := Lib.hid hk1
      have hk1b := sumV_bd b n R
      have hk1c : 0 ≤ k1 ∧ k1 ≤ 9 := by omega
      clear hk1 hk1b
      generalize R.map (swV b n) = R' at *
      have S3 := Lib.hid hst
      clear hst
      obtain ⟨wA, hwA⟩ : ∃ wA : World, wA = wr := ⟨_, rfl⟩
      subst hwA
      have c61 := (S3.out.mB.cell 61).trans (mcs_hi S3.out.h8 5)
      simp only [List.getElem?_cons_succ, List.getElem?_cons_zero] at c61
      go_wp2
      clear c61
      go_loopw [58] (fun i wr => ∃ k : Nat, k ≤ mem.length ∧ i = .int .i64 k ∧ SwSt w W0 w.heap.size gb base 63 108 42 114 3 b n (.slice mma mem.length mmc) (.slice ssa stk.length ssc) (.slice ooa out.length ooc) R' c2 ((mem.take k).map (swV b n) ++ mem.drop k) stk out (k1 + sumV b n (mem.take k)) wr) (fun i _ => mem.length - (intOf i).toNat)
      case atStart => exact ⟨0, Nat.zero_le _, rfl, by simpa [sumV] using S3.out⟩
      case round =>
        obtain ⟨k, hk, rfl, hst⟩ := hrel
        by_cases hlt : k < mem.length
        · have q1 : (k : Int) < mem.length := by omega
          have q2 : (k : Int) ≤ 400 := by omega
          obtain ⟨x, hx⟩ : ∃ x, mem[k]? = some x := ⟨_, List.getElem?_eq_getElem hlt⟩
          have hxo := HMK.out x (List.mem_of_getElem? hx)
          have hst2 := sumV_take (b := b) (n := n) hx
          have hbd := sumV_bd b n (mem.take k)
          have hbl : (mem.take k).length ≤ k := List.length_take_le _ _
          have hctd := ctV_bd b n x
          obtain ⟨g, rfl, hgn, hg1, hg2, hgf, cell⟩ := own_at hst.om (map_upto_at (swV b n) hx)
          have c61 := (hst.mB.cell 61).trans (mcs_hi hst.h8 5)
          simp only [List.getElem?_cons_succ, List.getElem?_cons_zero] at c61
          have vc := swval_any gb g (k * 7) b n (k1 + sumV b n (mem.take k)) x.is x.n x.k.perm x.k.base x.k.len x.k.at_ x.k.seal_ wr 108 hst.bB (own_bk_ne hst.om hst.bB (by decide)) hg2 hgf
            (cell 0 _ rfl) (cell 1 _ rfl) (cell 2 _ rfl) (cell 3 _ rfl) (cell 4 _ rfl) (cell 5 _ rfl) (cell 6 _ rfl) b0 b1 n0 (by omega) (by omega) (by omega) (kbd hxo).1 (kbd hxo).2.1 (kbd hxo).2.2.1 (kbd hxo).2.2.2
          have vc2 : Calls Try.prog 51 #[.pointer (some ⟨gb, 0, none⟩), .pointer (some ⟨g, k * 7, none⟩)] wr fun e w' => e = .returned (.tuple #[]) ∧ SwSt w W0 w.heap.size gb base 63 108 42 114 3 b n (.slice (some ⟨g, 0, none⟩) mem.length mmc) (.slice ssa stk.length ssc) (.slice ooa out.length ooc) R' c2 ((mem.take (k + 1)).map (swV b n) ++ mem.drop (k + 1)) stk out (k1 + sumV b n (mem.take (k + 1))) w' := by
            refine vc.mono fun e w' ⟨he, W1, hb, hw⟩ => ⟨he, ?_⟩
            subst hw
            have st := hst.below hb
            have hms := map_upto_set (swV b n) hx
            have hma := map_upto_at (swV b n) hx
            rw [hst2]
            unfold ctV
            rw [show (swV b n x) = if x.is && hitsB b n x.k then zeroV else x from rfl] at hms
            cases hh : (x.is && hitsB b n x.k)
            · rw [hh] at hms
              simp only [Bool.false_eq_true, if_false] at hms
              rw [← hms, set_same hma]
              simpa using st
            · rw [hh] at hms
              simp only [if_true] at hms
              rw [← hms, ← Int.add_assoc]
              exact (st.memSet (map_upto_len _ _ _) hbw (by decide) (by decide) (by decide) (by decide) hma rfl).count hbw hgb2 (by decide) (by decide) (by decide) (by decide)
          have VC := Lib.hid vc2
          clear vc vc2 cell hst hst2 hbd hbl hctd hx hxo hg1 hgf hgn
          go_wp2_with (go_at_call 51; ((with_reducible refine VC.out.mono ?_); rintro e W4 ⟨rfl, st⟩; have S4 := Lib.hid st; clear st))
          go_roundw
          case rel => exact ⟨k + 1, by omega, by go_num, S4.out⟩
          case measure => simp [intOf]; omega
        · have q1 : ¬ ((k : Int) < mem.length) := by omega
          have hke : k = mem.length := by omega
          subst hke
          rw [List.take_of_length_le (Nat.le_refl _), List.drop_of_length_le (Nat.le_refl _), List.append_nil] at hst
          generalize hk2 : k1 + sumV b n mem = k2 at *
          have HK2 := Lib.hid hk2
          have hk2b := sumV_bd b n mem
          have hk2c : 0 ≤ k2 ∧ k2 ≤ 409 := by omega
          clear hk2 hk2b
          have S5 := Lib.hid hst
          clear hst
          obtain ⟨wB, hwB⟩ : ∃ wB : World, wB = wr := ⟨_, rfl⟩
          subst hwB
          have c62 := (S5.out.mB.cell 62).trans (mcs_hi S5.out.h8 6)
          simp only [List.getElem?_cons_succ, List.getElem?_cons_zero] at c62
          go_wp2
          clear c62
          go_loopw [71] (fun i wr => ∃ k : Nat, k ≤ stk.length ∧ i = .int .i64 k ∧ SwSt w W0 w.heap.size gb base 63 108 42 114 3 b n (.slice mma mem.length mmc) (.slice ssa stk.length ssc) (.slice ooa out.length ooc) R' c2 (mem.map (swV b n)) ((stk.take k).map (swF b n) ++ stk.drop k) out (k2 + sumF b n (stk.take k)) wr) (fun i _ => stk.length - (intOf i).toNat)
          case atStart => exact ⟨0, Nat.zero_le _, rfl, by simpa [sumF] using S5.out⟩
          case round =>
            obtain ⟨k, hk, rfl, hst⟩ := hrel
            by_cases hlt : k < stk.length
            · have q1 : (k : Int) < stk.length := by omega
              have q2 : (k : Int) ≤ 400 := by omega
              obtain ⟨x, hx⟩ : ∃ x, stk[k]? = some x := ⟨_, List.getElem?_eq_getElem hlt⟩
              obtain ⟨hxk, hxv⟩ := HSTK.out x (List.mem_of_getElem? hx)
              have hst2 := sumF_take (b := b) (n := n) hx
              have hbd := sumF_bd b n (stk.take k)
              have hbl : (stk.take k).length ≤ k := List.length_take_le _ _
              have hctd := ctV_bd b n x.data
              have hctk := ctK_bd b n x.code
              obtain ⟨g, rfl, hgn, hg1, hg2, hgf, cell⟩ := own_at hst.os (map_upto_at (swF b n) hx)
              have c62 := (hst.mB.cell 62).trans (mcs_hi hst.h8 6)
              simp only [List.getElem?_cons_succ, List.getElem?_cons_zero] at c62
              have kb := hxk.b0; have kb1 := hxk.b1; have kl0 := hxk.l0; have kl1 := hxk.l1
              have kc := swkey_any gb g (k * 12) b n (k2 + sumF b n (stk.take k)) x.code.perm x.code.base x.code.len x.code.at_ x.code.seal_ wr 108 hst.bB (own_bk_ne hst.os hst.bB (by decide)) hg2 hgf
                (cell 0 _ rfl) (cell 1 _ rfl) (cell 2 _ rfl) (cell 3 _ rfl) (cell 4 _ rfl) b0 b1 n0 (by omega) (by omega) (by omega) kb kb1 kl0 (by omega)
              have kc2 : Calls Try.prog 50 #[.pointer (some ⟨gb, 0, none⟩), .pointer (some ⟨g, k * 12, none⟩)] wr fun e w' => e = .returned (.tuple #[]) ∧ SwSt w W0 w.heap.size gb base 63 108 42 114 3 b n (.slice mma mem.length mmc) (.slice (some ⟨g, 0, none⟩) stk.length ssc) (.slice ooa out.length ooc) R' c2 (mem.map (swV b n)) (((stk.take k).map (swF b n) ++ stk.drop k).set k ⟨swK b n x.code, x.data⟩) out (k2 + sumF b n (stk.take k) + ctK b n x.code) w' := by
                refine kc.mono fun e w' ⟨he, W1, hb, hw⟩ => ⟨he, ?_⟩
                subst hw
                have st := hst.below hb
                have hma := map_upto_at (swF b n) hx
                unfold swK ctK
                cases hh : hitsB b n x.code
                · have := set_same hma
                  simp only [Bool.false_eq_true, if_false, Int.add_zero]
                  rw [show (⟨x.code, x.data⟩ : FrameV) = x from rfl, this]
                  exact st
                · simp only [if_true]
                  exact (st.stkSet (map_upto_len _ _ _) hbw (by decide) (by decide) (by decide) (by decide) (j := 0) (us := z5) hma (by decide) rfl).count hbw hgb2 (by decide) (by decide) (by decide) (by decide)
              have vc2 : ∀ W, SwSt w W0 w.heap.size gb base 63 108 42 114 3 b n (.slice mma mem.length mmc) (.slice (some ⟨g, 0, none⟩) stk.length ssc) (.slice ooa out.length ooc) R' c2 (mem.map (swV b n)) (((stk.take k).map (swF b n) ++ stk.drop k).set k ⟨swK b n x.code, x.data⟩) out (k2 + sumF b n (stk.take k) + ctK b n x.code) W →
                  Calls Try.prog 51 #[.pointer (some ⟨gb, 0, none⟩), .pointer (some ⟨g, k * 12 + 5, none⟩)] W fun e w' => e = .returned (.tuple #[]) ∧ SwSt w W0 w.heap.size gb base 63 108 42 114 3 b n (.slice mma mem.length mmc) (.slice (some ⟨g, 0, none⟩) stk.length ssc) (.slice ooa out.length ooc) R' c2 (mem.map (swV b n)) ((stk.take (k + 1)).map (swF b n) ++ stk.drop (k + 1)) out (k2 + sumF b n (stk.take (k + 1))) w' := by
                intro W hW
                have hxs : (((stk.take k).map (swF b n) ++ stk.drop k).set k ⟨swK b n x.code, x.data⟩)[k]? = some ⟨swK b n x.code, x.data⟩ := by
                  rw [List.getElem?_set_self (by rw [map_upto_len]; exact hlt)]
                obtain ⟨g', eg, _, _, hg2', hgf', cell'⟩ := own_at hW.os hxs
                obtain rfl : g = g' := by injection eg with eg; injection eg with eg
                have vc := swval_any gb g (k * 12 + 5) b n (k2 + sumF b n (stk.take k) + ctK b n x.code) x.data.is x.data.n x.data.k.perm x.data.k.base x.data.k.len x.data.k.at_ x.data.k.seal_ W 108 hW.bB (own_bk_ne hW.os hW.bB (by decide)) hg2' hgf'
                  (cell' 5 _ rfl) (cell' 6 _ rfl) (cell' 7 _ rfl) (cell' 8 _ rfl) (cell' 9 _ rfl) (cell' 10 _ rfl) (cell' 11 _ rfl) b0 b1 n0 (by omega) (by omega) (by omega) (kbd hxv).1 (kbd hxv).2.1 (kbd hxv).2.2.1 (kbd hxv).2.2.2
                refine vc.mono fun e w' ⟨he, W1, hb, hw⟩ => ⟨he, ?_⟩
                subst hw
                have st := hW.below hb
                have hms := map_upto_set (swF b n) hx
                rw [hst2]
                unfold ctF ctV
                rw [show (swF b n x) = ⟨swK b n x.code, if x.data.is && hitsB b n x.data.k then zeroV else x.data⟩ from rfl] at hms
                cases hh : (x.data.is && hitsB b n x.data.k)
                · rw [hh] at hms
                  simp only [Bool.false_eq_true, if_false] at hms
                  rw [← hms]
                  simpa [Int.add_assoc] using st
                · rw [hh] at hms
                  simp only [if_true] at hms
                  simp only [if_true]
                  rw [← hms, show k2 + (sumF b n (stk.take k) + (ctK b n x.code + 1)) = k2 + sumF b n (stk.take k) + ctK b n x.code + 1 by omega]
                  have := (st.stkSet (by rw [List.length_set]; exact map_upto_len _ _ _) hbw (by decide) (by decide) (by decide) (by decide) (j := 5) (us := z7) (y := ⟨swK b n x.code, zeroV⟩) hxs (by decide) rfl).count hbw hgb2 (by decide) (by decide) (by decide) (by decide)
                  rw [List.set_set] at this
                  exact this
              have KC := Lib.hid kc2
              have VC := Lib.hid vc2
              clear kc kc2 vc2 cell hst hst2 hbd hbl hctd hctk hx hxk hxv hg1 hgf hgn
              go_wp2_with (first
                | (go_at_call 50; ((with_reducible refine KC.out.mono ?_); rintro e W6 ⟨rfl, st⟩; have S6 := Lib.hid st; have d62 := (st.mB.cell 62).trans (mcs_hi st.h8 6); simp only [List.getElem?_cons_succ, List.getElem?_cons_zero] at d62; have mL := st.mB.lt; clear st))
                | (go_at_call 51; ((with_reducible refine (VC.out _ S6.out).mono ?_); rintro e W7 ⟨rfl, st⟩; have S7 := Lib.hid st; clear st)))
              go_roundw
              case rel => exact ⟨k + 1, by omega, by go_num, S7.out⟩
              case measure => simp [intOf]; omega
            · have q1 : ¬ ((k : Int) < stk.length) := by omega
              have hke : k = stk.length := by omega
              subst hke
              rw [List.take_of_length_le (Nat.le_refl _), List.drop_of_length_le (Nat.le_refl _), List.append_nil] at hst
              have hrk := (hst.keep (w.heap.size + 1) hbase1 (by omega)).trans R0.out
              have hsw : k2 + sumF b n stk = swCount b n R ⟨cp_, cb, cl_, ca, cs_⟩ mem stk := by rw [← HK2.out, ← HK1.out, ← HCT.out]; rfl
              generalize k2 + sumF b n stk = k3 at *
              have q0 := hst.bB.cell 2
              simp only [List.getElem?_toArray, List.getElem?_cons_succ, List.getElem?_cons_zero] at q0
              have qL := hst.bB.lt
              have hone := mcs_one (R := R') (c := c2) (ownsOne hst.om) (ownsOne hst.os) (ownsOne hst.oo)
              have hszf := mcs_size (c := c2) (ms := .slice mma mem.length mmc) (ss := .slice ssa stk.length ssc) (os := .slice ooa out.length ooc) hst.h8
              have hexf : (mcs R' c2 (.slice mma mem.length mmc) (.slice ssa stk.length ssc) (.slice ooa out.length ooc)).extract 0 (0 + 64) = mcs R' c2 (.slice mma mem.length mmc) (.slice ssa stk.length ssc) (.slice ooa out.length ooc) := by rw [Array.extract_eq_self_of_le (by rw [hszf]; omega)]
              have hrk2 : Bk (World.drew wr) (w.heap.size + 1) 63 zmc := hrk
              have hmk2 : Bk (World.drew wr) w.heap.size 63 (mcs R' c2 (.slice mma mem.length mmc) (.slice ssa stk.length ssc) (.slice ooa out.length ooc)) := hst.mB
              have HRK2 := Lib.hid hrk2
              have HMK2 := Lib.hid hmk2
              have HSW := Lib.hid hsw
              have S8 := Lib.hid hst
              have HONEF := Lib.hid hone
              have HSZF := Lib.hid hszf
              have HEXF := Lib.hid hexf
              clear hst hrk hrk2 hmk2 hsw hone hszf hexf
              go_wp2
              have q3 : (World.setRow (World.drew wr) (w.heap.size + 1) (mcs R' c2 (.slice mma mem.length mmc) (.slice ssa stk.length ssc) (.slice ooa out.length ooc))).cell? ⟨gb, 2, none⟩ = some (.int .i64 k3) := (cell_setRow_other _ _ _ ⟨gb, 2, none⟩ (by simp only; omega)).trans q0
              have q4 : (World.drew wr).cell? ⟨gb, 2, none⟩ = some (.int .i64 k3) := q0
              refine wp_region_any (by kernel_rfl) ?_
              change wpAny _ _ _ _ _ _ _ (World.drew _)
              refine wpAny_take (i := 1) (v := ?v1) rfl (by kernel_rfl) (by kernel_rfl) (by kernel_rfl) (fun _ _ _ h => h) (Or.inl ⟨by rfl, ?h1⟩) ?r1
              case h1 => (intro w; go_simp; first | done | with_reducible rfl)
              refine wpAny_take (i := 2) (v := ?v2) rfl (by kernel_rfl) (by kernel_rfl) (by kernel_rfl) (fun _ _ _ h => h) (Or.inl ⟨by rfl, ?h2⟩) ?r2
              case h2 => (intro w; go_simp; first | done | with_reducible rfl)
              refine wpAny_take (i := 3) (v := ?v3) rfl (by kernel_rfl) (by kernel_rfl) (by kernel_rfl) (fun _ _ _ h => h) (Or.inl ⟨by rfl, ?h3⟩) ?r3
              case h3 => (intro w; go_simp; first | done | with_reducible rfl)
              refine wpAny_ready (rs := [0, 4]) (by kernel_rfl) (by simp) ?_
              refine AllReady.cons rfl (fun K hK => ?_) (AllReady.cons rfl (fun K hK => ?_) AllReady.nil)
              · (refine step_load_sub rfl 63 (.tmp 3) rfl w.heap.size 0 64 rfl 63 _ _ HMK2.out Try.underlying63 rfl (by kernel_rfl) (by rw [HSZF.out]; decide) _ HEXF.out ?_; refine hK _ _ ?_; clear hK K)
                refine wpAny_ready (rs := [4, 5]) (by kernel_rfl) (by simp) ?_
                refine AllReady.cons rfl (fun K hK => ?_) (AllReady.cons rfl (fun K hK => ?_) AllReady.nil)
                · (go_simp; refine hK _ _ ?_; clear hK K)
                  refine wpAny_ready (rs := [5]) (by kernel_rfl) (by simp) ?_
                  refine AllReady.cons rfl (fun K hK => ?_) AllReady.nil
                  (refine step_store_row rfl 63 (.tmp 6) (.tmp 89) rfl (w.heap.size + 1) (mcs R' c2 (.slice mma mem.length mmc) (.slice ssa stk.length ssc) (.slice ooa out.length ooc)) rfl rfl 63 _ HRK2.out (by rw [HSZF.out]; kernel_rfl) (by rw [HSZF.out]; kernel_rfl) HONEF.out ?_; refine hK _ _ ?_; clear hK K)
                  refine wpAny_ready (rs := [6]) (by kernel_rfl) (by simp) ?_
                  refine AllReady.cons rfl (fun K hK => ?_) AllReady.nil
                  (go_simp; refine hK _ _ ?_; clear hK K)
                  refine wpAny_ready (rs := [7]) (by kernel_rfl) (by simp) ?_
                  refine AllReady.cons rfl (fun K hK => ?_) AllReady.nil
                  (go_simp; refine hK _ _ ?_; clear hK K)
                  refine wpAny_done (by kernel_rfl) ?_ _
                  go_wp2
                  refine bodyPost_ret (results_row3 (g := w.heap.size + 1) (t := 63) (cs := mcs R' c2 (.slice mma mem.length mmc) (.slice ssa stk.length ssc) (.slice ooa out.length ooc)) (fr := (0, 0)) rfl _ _ _ rfl (bk_setRow HRK2.out _) Try.underlying63 rfl (by rw [HSZF.out]; kernel_rfl)) rfl ?_
                  refine ⟨_, _, _, by rw [← HSW.out, ← HCC.out]; rfl, ?_, ?_, ?_, ext_setRow (ext_drew S8.out.bel) (by omega) _⟩
                  · exact (own_setRow (w := World.drew wr) S8.out.om HRK2.out (by decide) _).mono hbw
                  · exact (own_setRow (w := World.drew wr) S8.out.os HRK2.out (by decide) _).mono hbw
                  · exact (own_setRow (w := World.drew wr) S8.out.oo HRK2.out (by decide) _).mono hbw
                · (refine step_store_row rfl 63 (.tmp 6) (.tmp 89) rfl (w.heap.size + 1) (mcs R' c2 (.slice mma mem.length mmc) (.slice ssa stk.length ssc) (.slice ooa out.length ooc)) rfl rfl 63 _ HRK2.out (by rw [HSZF.out]; kernel_rfl) (by rw [HSZF.out]; kernel_rfl) HONEF.out ?_; refine hK _ _ ?_; clear hK K)
                  refine wpAny_ready (rs := [4]) (by kernel_rfl) (by simp) ?_
                  refine AllReady.cons rfl (fun K hK => ?_) AllReady.nil
                  (go_simp; refine hK _ _ ?_; clear hK K)
                  refine wpAny_ready (rs := [6]) (by kernel_rfl) (by simp) ?_
                  refine AllReady.cons rfl (fun K hK => ?_) AllReady.nil
                  (go_simp; refine hK _ _ ?_; clear hK K)
                  refine wpAny_ready (rs := [7]) (by kernel_rfl) (by simp) ?_
                  refine AllReady.cons rfl (fun K hK => ?_) AllReady.nil
                  (go_simp; refine hK _ _ ?_; clear hK K)
                  refine wpAny_done (by kernel_rfl) ?_ _
                  go_wp2
                  refine bodyPost_ret (results_row3 (g := w.heap.size + 1) (t := 63) (cs := mcs R' c2 (.slice mma mem.length mmc) (.slice ssa stk.length ssc) (.slice ooa out.length ooc)) (fr := (0, 0)) rfl _ _ _ rfl (bk_setRow HRK2.out _) Try.underlying63 rfl (by rw [HSZF.out]; kernel_rfl)) rfl ?_
                  refine ⟨_, _, _, by rw [← HSW.out, ← HCC.out]; rfl, ?_, ?_, ?_, ext_setRow (ext_drew S8.out.bel) (by omega) _⟩
                  · exact (own_setRow (w := World.drew wr) S8.out.om HRK2.out (by decide) _).mono hbw
                  · exact (own_setRow (w := World.drew wr) S8.out.os HRK2.out (by decide) _).mono hbw
                  · exact (own_setRow (w := World.drew wr) S8.out.oo HRK2.out (by decide) _).mono hbw
              · (go_simp; refine hK _ _ ?_; clear hK K)
                refine wpAny_ready (rs := [0]) (by kernel_rfl) (by simp) ?_
                refine AllReady.cons rfl (fun K hK => ?_) AllReady.nil
                (refine step_load_sub rfl 63 (.tmp 3) rfl w.heap.size 0 64 rfl 63 _ _ HMK2.out Try.underlying63 rfl (by kernel_rfl) (by rw [HSZF.out]; decide) _ HEXF.out ?_; refine hK _ _ ?_; clear hK K)
                refine wpAny_ready (rs := [5]) (by kernel_rfl) (by simp) ?_
                refine AllReady.cons rfl (fun K hK => ?_) AllReady.nil
                (refine step_store_row rfl 63 (.tmp 6) (.tmp 89) rfl (w.heap.size + 1) (mcs R' c2 (.slice mma mem.length mmc) (.slice ssa stk.length ssc) (.slice ooa out.length ooc)) rfl rfl 63 _ HRK2.out (by rw [HSZF.out]; kernel_rfl) (by rw [HSZF.out]; kernel_rfl) HONEF.out ?_; refine hK _ _ ?_; clear hK K)
                refine wpAny_ready (rs := [6]) (by kernel_rfl) (by simp) ?_
                refine AllReady.cons rfl (fun K hK => ?_) AllReady.nil
                (go_simp; refine hK _ _ ?_; clear hK K)
                refine wpAny_ready (rs := [7]) (by kernel_rfl) (by simp) ?_
                refine AllReady.cons rfl (fun K hK => ?_) AllReady.nil
                (go_simp; refine hK _ _ ?_; clear hK K)
                refine wpAny_done (by kernel_rfl) ?_ _
                go_wp2
                refine bodyPost_ret (results_row3 (g := w.heap.size + 1) (t := 63) (cs := mcs R' c2 (.slice mma mem.length mmc) (.slice ssa stk.length ssc) (.slice ooa out.length ooc)) (fr := (0, 0)) rfl _ _ _ rfl (bk_setRow HRK2.out _) Try.underlying63 rfl (by rw [HSZF.out]; kernel_rfl)) rfl ?_
                refine ⟨_, _, _, by rw [← HSW.out, ← HCC.out]; rfl, ?_, ?_, ?_, ext_setRow (ext_drew S8.out.bel) (by omega) _⟩
                · exact (own_setRow (w := World.drew wr) S8.out.om HRK2.out (by decide) _).mono hbw
                · exact (own_setRow (w := World.drew wr) S8.out.os HRK2.out (by decide) _).mono hbw
                · exact (own_setRow (w := World.drew wr) S8.out.oo HRK2.out (by decide) _).mono hbw
end Go.Proofs.Ytmmmmeeepieemaa
