import Derived.Test.YtmffdgeebhpacaaDoorBuP
import Derived.Test.YtmffdgeebhpacaaDoorBuV
import Derived.Test.YtmffdgeebhpacaaDoorHasIntZ
import Derived.Test.YtmffdgeebhpacaaDoorMOwnZ
/- StepOwn. -/
namespace Go.Proofs.YtmffdgeebhpacaaDoor
open Go.RowKit
set_option linter.unusedVariables false
set_option linter.unusedSimpArgs false
theorem opof_box {g : Nat} {m : MV} {cs : Array Value} {W : World} (h : MBox g m cs W) (hwc : m.c.wf) (hw : ∀ v ∈ m.mem, v.wf) (ht : Tab W) : Calls Tryd.prog 20 #[.agg cs] W fun e w' => e = .returned (instVal (opF m)) ∧ Below W.heap.size W w' := by
  obtain ⟨ma, sa, oa, mc, sc, oc, rfl, h1, h2, h3⟩ := h.row
  exact opof_any m ma sa oa mc sc oc W h.h8 hwc hw h1 ht
set_option maxHeartbeats 8000000 in
set_option maxRecDepth 100000 in
theorem own_err (m : MV) (cs : Array Value) (pa : Int) (np : Int) (w : World) (hbox : MBox w.heap.size m cs (w.alloc (.cells cs 31))) (ht : Tab w) (hwc : m.c.wf) (hwm : ∀ v ∈ m.mem, v.wf)
    (hna : pa % 128 = np) (he : (stepF m).2 ≠ 0) : Calls Tryd.prog 4 #[.agg cs, .int .i64 pa] w fun e w' => e = .returned (.bool true) ∧ Below w.heap.size w w' := by
  have h8 := hbox.h8
  have hX8 : (stepF m).1.R.length = 8 := by rw [stepF_bad he]; rfl
  obtain ⟨⟨X, er⟩, s1⟩ : ∃ x, stepF m = x := ⟨_, rfl⟩
  rw [s1] at he hX8
  simp only at he hX8
  have g1 : (er == 0) = false := by simpa using he
  have g2 : (er != 0) = true := by simpa using he
  have op := fun W (b : MBox w.heap.size m cs W) (h : Tab W) => opof_box b hwc hwm h
  generalize opF m = i at *
  have ii : instVal i = .agg #[.int .i64 i.op, .int .i64 i.a, .int .i64 i.b, .int .i64 i.c] := rfl
  rw [ii] at op
  clear ii
  obtain ⟨w1, hw1⟩ : ∃ w1, w1 = w.alloc (.cells cs 31) := ⟨_, rfl⟩
  have h1w : Below w.heap.size w w1 := by rw [hw1]; exact ext_alloc (Below.refl _ _) _
  rw [← hw1] at hbox
  have ra := fun W => rest_any pa 128 W (by decide) (by decide)
  rw [hna] at ra
  have SD := Lib.hid (fun W (h : Below w.heap.size w W) => stepped_any W (ht.below h))
  have OP := Lib.hid op
  have RA := Lib.hid ra
  have S1 := Lib.hid s1
  have HX8 := Lib.hid hX8
  have MX := Lib.hid hbox
  have HW1 := Lib.hid hw1
  have H1W := Lib.hid h1w
  have HT := Lib.hid ht
  clear op ra s1 hX8 hbox hw1 h1w ht h8 hna hwc hwm he
  go_enter Tryd.func4, Tryd.ntmps4
  go_upto_region 1 with (fail)
  rw [← HW1.out]
  go_upto_region 4 with (first
    | (refine wpList_load_sub rfl 31 (.tmp 2) rfl w.heap.size 0 64 rfl 31 _ _ MX.out.bk Tryd.underlying31 rfl (by kernel_rfl) MX.out.size _ MX.out.all ?_)
    | (go_at_call 18; ((with_reducible refine (step_own MX.out (HT.out.below H1W.out) S1.out HX8.out).mono ?_); rintro e u1 ⟨cs1, rfl, mo, hb⟩; have MX1 := Lib.hid mo.alloc; have HB1 := Lib.hid hb; clear hb mo))
    | (refine wpList_store_fresh rfl 31 (.tmp 5) (.tmp 15) rfl rfl cs1 31 _ rfl rfl (by rw [MX1.out.sz]; kernel_rfl) (by rw [MX1.out.sz]; kernel_rfl) MX1.out.one ?_)
    | (go_at_call 13; ((with_reducible refine (SD.out _ (ext_trans H1W.out (ext_alloc HB1.out _))).mono ?_); rintro e u2 ⟨rfl, hb⟩; have HB2 := Lib.hid hb; clear hb)))
  go_wp2_with (first
    | (refine wpList_load_sub rfl 31 (.tmp 2) rfl w.heap.size 0 64 rfl 31 _ _ (MX.out.below (ext_trans (ext_alloc HB1.out _) HB2.out)).bk Tryd.underlying31 rfl (by kernel_rfl) MX.out.size _ MX.out.all ?_)
    | (go_at_call 20; ((with_reducible refine (OP.out _ (MX.out.below (ext_trans (ext_alloc HB1.out _) HB2.out)) (HT.out.below (ext_trans H1W.out (ext_trans (ext_alloc HB1.out _) HB2.out)))).mono ?_); rintro e u3 ⟨rfl, hb⟩; have HB3 := Lib.hid hb; clear hb)))
  go_ret
  exact ⟨rfl, ext_trans H1W.out (ext_alloc (ext_trans (ext_trans (ext_alloc HB1.out _) HB2.out) HB3.out) _)⟩
set_option maxHeartbeats 8000000 in
set_option maxRecDepth 100000 in
theorem own_skip (m : MV) (cs : Array Value) (pa : Int) (np : Int) (w : World) (hbox : MBox w.heap.size m cs (w.alloc (.cells cs 31))) (ht : Tab w) (hwc : m.c.wf) (hwm : ∀ v ∈ m.mem, v.wf)
    (hna : pa % 128 = np) (he : (stepF m).2 = 0) (hsk : (opF m).op = 18 ∨ (opF m).op = 19 ∨ (opF m).op = 16) : Calls Tryd.prog 4 #[.agg cs, .int .i64 pa] w fun e w' => e = .returned (.bool true) ∧ Below w.heap.size w w' := by
  have h8 := hbox.h8
  obtain ⟨hk, h1, i0, h2, h3⟩ := stepF_ok h8 he
  have hX8 := (one_ok hk h1).2
  obtain ⟨⟨X, er⟩, s1⟩ : ∃ x, stepF m = x := ⟨_, rfl⟩
  rw [s1] at he hX8
  simp only at he hX8
  subst he
  clear h1 h2 h3 i0 hk
  have op := fun W (b : MBox w.heap.size m cs W) (h : Tab W) => opof_box b hwc hwm h
  generalize opF m = i at *
  have ii : instVal i = .agg #[.int .i64 i.op, .int .i64 i.a, .int .i64 i.b, .int .i64 i.c] := rfl
  rw [ii] at op
  clear ii
  obtain ⟨w1, hw1⟩ : ∃ w1, w1 = w.alloc (.cells cs 31) := ⟨_, rfl⟩
  have h1w : Below w.heap.size w w1 := by rw [hw1]; exact ext_alloc (Below.refl _ _) _
  rw [← hw1] at hbox
  have ra := fun W => rest_any pa 128 W (by decide) (by decide)
  rw [hna] at ra
  have SD := Lib.hid (fun W (h : Below w.heap.size w W) => stepped_any W (ht.below h))
  have OP := Lib.hid op
  have RA := Lib.hid ra
  have S1 := Lib.hid s1
  have HX8 := Lib.hid hX8
  have MX := Lib.hid hbox
  have HW1 := Lib.hid hw1
  have H1W := Lib.hid h1w
  have HT := Lib.hid ht
  clear op ra s1 hX8 hbox hw1 h1w ht h8 hna hwc hwm 
  obtain ⟨io, ia, ib, ic⟩ := i
  simp only at hsk
  rcases hsk with rfl | rfl | rfl
  all_goals
    go_enter Tryd.func4, Tryd.ntmps4
    go_upto_region 1 with (fail)
    rw [← HW1.out]
    go_upto_region 4 with (first
      | (refine wpList_load_sub rfl 31 (.tmp 2) rfl w.heap.size 0 64 rfl 31 _ _ MX.out.bk Tryd.underlying31 rfl (by kernel_rfl) MX.out.size _ MX.out.all ?_)
      | (go_at_call 18; ((with_reducible refine (step_own MX.out (HT.out.below H1W.out) S1.out HX8.out).mono ?_); rintro e u1 ⟨cs1, rfl, mo, hb⟩; have MX1 := Lib.hid mo.alloc; have HB1 := Lib.hid hb; clear hb mo))
      | (refine wpList_store_fresh rfl 31 (.tmp 5) (.tmp 15) rfl rfl cs1 31 _ rfl rfl (by rw [MX1.out.sz]; kernel_rfl) (by rw [MX1.out.sz]; kernel_rfl) MX1.out.one ?_)
      | (go_at_call 13; ((with_reducible refine (SD.out _ (ext_trans H1W.out (ext_alloc HB1.out _))).mono ?_); rintro e u2 ⟨rfl, hb⟩; have HB2 := Lib.hid hb; clear hb)))
    go_wp2_with (first
      | (refine wpList_load_sub rfl 31 (.tmp 2) rfl w.heap.size 0 64 rfl 31 _ _ (MX.out.below (ext_trans (ext_alloc HB1.out _) HB2.out)).bk Tryd.underlying31 rfl (by kernel_rfl) MX.out.size _ MX.out.all ?_)
      | (go_at_call 20; ((with_reducible refine (OP.out _ (MX.out.below (ext_trans (ext_alloc HB1.out _) HB2.out)) (HT.out.below (ext_trans H1W.out (ext_trans (ext_alloc HB1.out _) HB2.out)))).mono ?_); rintro e u3 ⟨rfl, hb⟩; have HB3 := Lib.hid hb; clear hb)))
    go_ret
    exact ⟨rfl, ext_trans H1W.out (ext_alloc (ext_trans (ext_trans (ext_alloc HB1.out _) HB2.out) HB3.out) _)⟩
set_option maxHeartbeats 8000000 in
set_option maxRecDepth 100000 in
theorem own_good (m : MV) (cs : Array Value) (pa : Int) (np : Int) (w : World) (hbox : MBox w.heap.size m cs (w.alloc (.cells cs 31))) (ht : Tab w) (hwc : m.c.wf) (hwm : ∀ v ∈ m.mem, v.wf)
    (hna : pa % 128 = np) (he : (stepF m).2 = 0) (n18 : (opF m).op ≠ 18) (n19 : (opF m).op ≠ 19) (n16 : (opF m).op ≠ 16) : Calls Tryd.prog 4 #[.agg cs, .int .i64 pa] w fun e w' => e = .returned (.bool true) ∧ Below w.heap.size w w' := by
  have h8 := hbox.h8
  obtain ⟨hk, h1, i0, h2, h3⟩ := stepF_ok h8 he
  have hXk := one_ok hk h1
  have hX8 := hXk.2
  have hop := (opF_of h2).1
  have hlen := stepd_mem_len h3
  have hsub : ∀ p x, x ∈ (stepF m).1.hits false p → x ∈ m.hits false p := fun p x hx => by
    obtain ⟨q1, q2⟩ := mem_hit.1 hx
    rw [hlen] at q1
    exact mem_hit.2 ⟨q1, own_law h2 h1 (by rw [← hop]; exact n16) (by rw [← hop]; exact n18) (by rw [← hop]; exact n19) q2⟩
  obtain ⟨⟨X, er⟩, s1⟩ : ∃ x, stepF m = x := ⟨_, rfl⟩
  rw [s1] at he hX8 hXk hlen hsub
  simp only at he hX8 hXk hlen hsub
  subst he
  have l400 := hk.1.len
  obtain ⟨la, hla⟩ : ∃ la, m.hits false np = la := ⟨_, rfl⟩
  obtain ⟨lb, hlb⟩ : ∃ lb, X.hits false np = lb := ⟨_, rfl⟩
  have na : la.length ≤ 100000 := by rw [← hla]; exact Nat.le_trans (hits_lenM _ _ _) (by omega)
  have nb : lb.length ≤ 100000 := by rw [← hlb]; exact Nat.le_trans (hits_lenM _ _ _) (by omega)
  have hsb : ∀ x ∈ lb, x ∈ la := fun x hx => by
    rw [← hla]
    rw [← hlb] at hx
    exact hsub _ x hx
  have hi : ∀ x ∈ la, I64 x := fun x hx => by
    rw [← hla] at hx
    have := (mem_hit.1 hx).1
    exact ⟨by omega, by omega⟩
  clear h1 h2 h3 hop hlen hsub l400
  have op := fun W (b : MBox w.heap.size m cs W) (h : Tab W) => opof_box b hwc hwm h
  generalize opF m = i at *
  have ii : instVal i = .agg #[.int .i64 i.op, .int .i64 i.a, .int .i64 i.b, .int .i64 i.c] := rfl
  rw [ii] at op
  clear ii
  have g18 : (i.op == 18) = false := by simpa using n18
  have g19 : (i.op == 19) = false := by simpa using n19
  have g16 : (i.op == 16) = false := by simpa using n16
  clear n18 n19 n16
  obtain ⟨w1, hw1⟩ : ∃ w1, w1 = w.alloc (.cells cs 31) := ⟨_, rfl⟩
  have h1w : Below w.heap.size w w1 := by rw [hw1]; exact ext_alloc (Below.refl _ _) _
  rw [← hw1] at hbox
  have ra := fun W => rest_any pa 128 W (by decide) (by decide)
  rw [hna] at ra
  have SD := Lib.hid (fun W (h : Below w.heap.size w W) => stepped_any W (ht.below h))
  have OP := Lib.hid op
  have RA := Lib.hid ra
  have S1 := Lib.hid s1
  have HX8 := Lib.hid hX8
  have MX := Lib.hid hbox
  have HW1 := Lib.hid hw1
  have H1W := Lib.hid h1w
  have HT := Lib.hid ht
  have HK := Lib.hid hk
  have HXK := Lib.hid hXk
  have HLA := Lib.hid hla
  have HLB := Lib.hid hlb
  have HSB := Lib.hid hsb
  have HI := Lib.hid hi
  have NA := Lib.hid na
  have NB := Lib.hid nb
  clear op ra s1 hX8 hbox hw1 h1w ht h8 hna hwc hwm hk hXk hla hlb hsb hi na nb
  go_enter Tryd.func4, Tryd.ntmps4
  go_upto_region 1 with (fail)
  rw [← HW1.out]
  go_upto_region 4 with (first
    | (refine wpList_load_sub rfl 31 (.tmp 2) rfl w.heap.size 0 64 rfl 31 _ _ MX.out.bk Tryd.underlying31 rfl (by kernel_rfl) MX.out.size _ MX.out.all ?_)
    | (go_at_call 18; ((with_reducible refine (step_own MX.out (HT.out.below H1W.out) S1.out HX8.out).mono ?_); rintro e u1 ⟨cs1, rfl, mo, hb⟩; have MX1 := Lib.hid mo.alloc; have HB1 := Lib.hid hb; clear hb mo))
    | (refine wpList_store_fresh rfl 31 (.tmp 5) (.tmp 15) rfl rfl cs1 31 _ rfl rfl (by rw [MX1.out.sz]; kernel_rfl) (by rw [MX1.out.sz]; kernel_rfl) MX1.out.one ?_)
    | (go_at_call 13; ((with_reducible refine (SD.out _ (ext_trans H1W.out (ext_alloc HB1.out _))).mono ?_); rintro e u2 ⟨rfl, hb⟩; have HB2 := Lib.hid hb; clear hb)))
  go_upto_region 8 with (first
    | (refine wpList_load_sub rfl 31 (.tmp 2) rfl w.heap.size 0 64 rfl 31 _ _ (MX.out.below (ext_trans (ext_alloc HB1.out _) HB2.out)).bk Tryd.underlying31 rfl (by kernel_rfl) MX.out.size _ MX.out.all ?_)
    | (go_at_call 20; ((with_reducible refine (OP.out _ (MX.out.below (ext_trans (ext_alloc HB1.out _) HB2.out)) (HT.out.below (ext_trans H1W.out (ext_trans (ext_alloc HB1.out _) HB2.out)))).mono ?_); rintro e u3 ⟨rfl, hb⟩; have HB3 := Lib.hid hb; clear hb))
    | (go_at_call 14; ((with_reducible refine (RA.out _).mono ?_); rintro e w' ⟨rfl, rfl⟩; clear RA)))
  go_upto_region 9 with (first
    | (refine wpList_load_sub rfl 31 (.tmp 2) rfl w.heap.size 0 64 rfl 31 _ _ (MX.out.below (ext_alloc (ext_trans (ext_trans (ext_alloc HB1.out _) HB2.out) HB3.out) _)).bk Tryd.underlying31 rfl (by kernel_rfl) MX.out.size _ MX.out.all ?_)
    | (go_at_call 21; ((with_reducible refine (cells_box (MX.out.below (ext_alloc (ext_trans (ext_trans (ext_alloc HB1.out _) HB2.out) HB3.out) _)) false _ HK.out HLA.out).mono ?_); rintro e u4 ⟨o4, k4, rfl, ls, hb⟩; have LS4 := Lib.hid ls; have HB4 := Lib.hid hb; clear hb ls)))
  go_upto_region 10 with (first
    | (refine wpList_load_sub rfl 31 (.tmp 5) rfl u1.heap.size 0 64 rfl 31 _ _ (MX1.out.below (ext_trans (ext_alloc (ext_trans HB2.out HB3.out) _) HB4.out)).bk Tryd.underlying31 rfl (by kernel_rfl) MX1.out.size _ MX1.out.all ?_)
    | (go_at_call 21; ((with_reducible refine (cells_box (MX1.out.below (ext_trans (ext_alloc (ext_trans HB2.out HB3.out) _) HB4.out)) false _ HXK.out HLB.out).mono ?_); rintro e u5 ⟨o5, k5, rfl, ls, hb⟩; have LS5 := Lib.hid ls; have HB5 := Lib.hid hb; clear hb ls)))
  go_wp2_with (first
    | (go_at_call 22; ((with_reducible refine (cellsin_any o5 o4 lb.length la.length k5 k4 lb la _ LS5.out (LS4.out.below HB5.out) NB.out NA.out HI.out HSB.out).mono ?_); rintro e u6 ⟨rfl, hb⟩; have HB6 := Lib.hid hb; clear hb)))
  go_ret
  exact ⟨rfl, ext_trans H1W.out (ext_trans (ext_trans (ext_trans (ext_alloc (ext_trans (ext_trans (ext_alloc HB1.out _) HB2.out) HB3.out) _) HB4.out) HB5.out) HB6.out)⟩
theorem stepOwn_walk (x : MachA) (a : Int) {w : World} (hx : x.ok w) (ha : I64 a) (ht : Tab w) : Calls Tryd.prog 4 #[x.val, .int .i64 a] w fun e w' => e = .returned (.bool true) ∧ Below w.heap.size w w' := by
  by_cases he : (stepF x.mv).2 = 0
  · by_cases h : (opF x.mv).op = 18 ∨ (opF x.mv).op = 19 ∨ (opF x.mv).op = 16
    · exact own_skip x.mv _ a _ w (mbox_arg hx) ht hx.wc hx.wm rfl he h
    · exact own_good x.mv _ a _ w (mbox_arg hx) ht hx.wc hx.wm rfl he (fun e => h (.inl e)) (fun e => h (.inr (.inl e))) (fun e => h (.inr (.inr e)))
  · exact own_err x.mv _ a _ w (mbox_arg hx) ht hx.wc hx.wm rfl he
end Go.Proofs.YtmffdgeebhpacaaDoor
