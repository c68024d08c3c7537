import Derived.Test.YtopdnihokbhjfaaDoorNamedZ
import Derived.Test.YtopdnihokbhjfaaDoorMOwnZ
import Derived.Deep.QuietTactic
import Derived.BigQuiet
/- StepLocal. -/
namespace Go.Proofs.YtopdnihokbhjfaaDoor
open El (cl)
open Go.RowKit
set_option linter.unusedVariables false
set_option linter.unusedSimpArgs false
theorem stepF_h8 {m : MV} (h8 : m.R.length = 8) : (stepF m).1.R.length = 8 := by
  by_cases he : (stepF m).2 = 0
  · obtain ⟨hk, h1, _⟩ := stepF_ok h8 he
    exact (one_ok hk h1).2
  · rw [stepF_bad he]; rfl
theorem opF_good {m : MV} (h : ¬ (opF m).op < 0) : instOk (opF m) = true := by
  unfold opF at h ⊢
  by_cases hc : 0 ≤ m.c.at_ ∧ m.c.at_ < m.mem.length ∧ (m.mem.getD m.c.at_.toNat zeroV).is = false ∧ instOk (unpack (m.mem.getD m.c.at_.toNat zeroV).n) = true
  · rw [if_pos hc]; exact hc.2.2.2
  · rw [if_neg hc] at h; exact absurd (by decide) h
theorem set_h8 {m : MV} (h8 : m.R.length = 8) (r : Int) (v : ValV) : (m.set r v).R.length = 8 := by
  unfold MV.set; simp only [List.length_set]; exact h8
theorem reg_set_eq {m : MV} (h8 : m.R.length = 8) {r : Nat} (hr : r < 8) (v : ValV) : (m.set (r : Int) v).reg r = v := by
  unfold MV.reg MV.set
  simp only [Int.toNat_natCast, List.getD_eq_getElem?_getD]
  rw [List.getElem?_set_self (by omega)]
  rfl
theorem local_law {m n b : MV} {er f : Int} {r : Nat} {v : ValV} (h8 : m.R.length = 8) (s1 : stepF m = (n, er)) (s2 : stepF (m.set (r : Int) v) = (b, f)) (hA : Apart (opF m) r) (hck : (m.set (r : Int) v).check = 0) (he : er = 0) : f = 0 ∧ b = n.set (r : Int) v := by
  subst he
  obtain ⟨hk, h1, i, h2, h3⟩ := stepF_ok h8 (show (stepF m).2 = 0 by rw [s1])
  rw [s1] at h1
  obtain ⟨e, hi⟩ := opF_of h2
  rw [e] at hA
  have h4 := one_set (v := v) h1 h2 hi (by omega) hA
  rw [stepF_of (ok_of_check (set_h8 h8 _ _) hck) h4] at s2
  injection s2 with s2 s3
  exact ⟨s3.symm, s2.symm⟩
/-- A register of a machine in a box stored. -/
theorem MOwn.setReg {base g : Nat} {m : MV} {cs : Array Value} {W : World} (h : MOwn base m cs W) (hg : Bk W g 31 cs) {r : Nat} (hr : r < 8) (v : ValV) : ∃ cs', MBox g (m.set (r : Int) v) cs' (W.setCells g (r * 7) (cl v)) := by
  obtain ⟨vm, vs, vo, rfl, h1, h2, h3⟩ := h.own
  refine ⟨mcs (m.R.set r v) m.c vm vs vo, MOwn.box (base := base) ⟨set_h8 h.h8 _ _, vm, vs, vo, rfl, own_setCells_bk h1 hg (by decide) _ _, own_setCells_bk h2 hg (by decide) _ _, own_setCells_bk h3 hg (by decide) _ _⟩ ?_⟩
  rw [← mcs_regset (c := m.c) (ms := vm) (ss := vs) (os := vo) h.h8 (reg_get h.h8 hr) (us := cl v) rfl]
  exact bk_setCells (w := W) _ _ _ _ hg
theorem MOwn.regs {base g : Nat} {m : MV} {cs : Array Value} {W : World} (h : MOwn base m cs W) (hg : Bk W g 31 cs) {a : Nat} (ha : a < 8) :
    W.cell? ⟨g, a * 7, none⟩ = some (.bool (m.reg a).is) ∧ W.cell? ⟨g, a * 7 + 1, none⟩ = some (.int .i64 (m.reg a).n) ∧ W.cell? ⟨g, a * 7 + 2, none⟩ = some (.int .i64 (m.reg a).k.perm) ∧ W.cell? ⟨g, a * 7 + 3, none⟩ = some (.int .i64 (m.reg a).k.base) ∧
      W.cell? ⟨g, a * 7 + 4, none⟩ = some (.int .i64 (m.reg a).k.len) ∧ W.cell? ⟨g, a * 7 + 5, none⟩ = some (.int .i64 (m.reg a).k.at_) ∧ W.cell? ⟨g, a * 7 + 6, none⟩ = some (.int .i64 (m.reg a).k.seal_) := by
  obtain ⟨vm, vs, vo, rfl, _⟩ := h.own
  exact reg_cells hg h.h8 ha
set_option maxHeartbeats 8000000 in
set_option maxRecDepth 100000 in
theorem local_mv (m : MV) (ma sa oa : Option Addr) (mc sc oc : Nat) (v : ValV) (pr : Int) (r : Nat) (hpr : pr % 8 = r) (hr : r < 8) (w : World) (h8 : m.R.length = 8) (hwc : m.c.wf) (hw : ∀ v ∈ m.mem, v.wf)
    (hm : Sl w ma m.mem.length m.mem) (hs : Sl w sa m.stk.length m.stk) (ho : Sl w oa m.out.length m.out) (ht : Tab w) : Calls Tryd.prog 6 #[.agg (mcs m.R m.c (.slice ma m.mem.length mc) (.slice sa m.stk.length sc) (.slice oa m.out.length oc)), .int .i64 pr, .agg #[.bool v.is, .int .i64 v.n, .int .i64 v.k.perm, .int .i64 v.k.base, .int .i64 v.k.len, .int .i64 v.k.at_, .int .i64 v.k.seal_]] w fun e w' => e = .returned (.bool true) ∧ Below w.heap.size w w' := by
  have op := fun W (h : Below w.heap.size w W) => opof_any m ma sa oa mc sc oc W h8 hwc hw (hm.below h) (ht.below h)
  have hlaw := fun n er b f s1 s2 => local_law (m := m) (n := n) (b := b) (er := er) (f := f) (r := r) (v := v) h8 s1 s2
  have hgood := opF_good (m := m)
  have hn8 := stepF_h8 h8
  have hb8 := stepF_h8 (set_h8 h8 (r : Int) v)
  obtain ⟨⟨n, er⟩, s1⟩ : ∃ x, stepF m = x := ⟨_, rfl⟩
  obtain ⟨⟨b, f⟩, s2⟩ : ∃ x, stepF (m.set (r : Int) v) = x := ⟨_, rfl⟩
  rw [s1] at hn8
  rw [s2] at hb8
  have hl := hlaw n er b f s1 s2
  clear hlaw
  unfold instVal at op
  generalize opF m = i at *
  obtain ⟨ck, hck⟩ : ∃ ck, (m.set (r : Int) v).check = ck := ⟨_, rfl⟩
  rw [hck] at hl
  have hset := fun W (k : Bk W w.heap.size 31 (mcs m.R m.c (.slice ma m.mem.length mc) (.slice sa m.stk.length sc) (.slice oa m.out.length oc))) (hb : Below w.heap.size w W) => (show MBox w.heap.size (m.set (r : Int) v) (mcs (m.R.set r v) m.c (.slice ma m.mem.length mc) (.slice sa m.stk.length sc) (.slice oa m.out.length oc)) (W.setCells w.heap.size (r * 7) (cl v)) from by
    have hb2 := below_setCells hb (Nat.le_refl _) (r * 7) (cl v)
    refine ⟨set_h8 h8 _ _, ?_, ma, sa, oa, mc, sc, oc, rfl, hm.below hb2, hs.below hb2, ho.below hb2⟩
    rw [← mcs_regset (c := m.c) (ms := .slice ma m.mem.length mc) (ss := .slice sa m.stk.length sc) (os := .slice oa m.out.length oc) h8 (reg_get h8 hr) (us := cl v) rfl]
    exact bk_setCells (w := W) _ _ _ _ k)
  have hbx := fun W (k : Bk W w.heap.size 31 (mcs m.R m.c (.slice ma m.mem.length mc) (.slice sa m.stk.length sc) (.slice oa m.out.length oc))) (hb : Below w.heap.size w W) => (show MBox w.heap.size m (mcs m.R m.c (.slice ma m.mem.length mc) (.slice sa m.stk.length sc) (.slice oa m.out.length oc)) W from ⟨h8, k, ma, sa, oa, mc, sc, oc, rfl, hm.below hb, hs.below hb, ho.below hb⟩)
  have hrc := fun W (k : Bk W w.heap.size 31 (mcs m.R m.c (.slice ma m.mem.length mc) (.slice sa m.stk.length sc) (.slice oa m.out.length oc))) => reg_cells k h8 hr
  generalize mcs (m.R.set r v) m.c (.slice ma m.mem.length mc) (.slice sa m.stk.length sc) (.slice oa m.out.length oc) = cs5 at *
  generalize mcs m.R m.c (.slice ma m.mem.length mc) (.slice sa m.stk.length sc) (.slice oa m.out.length oc) = cs at *
  obtain ⟨w1, hw1⟩ : ∃ w1, w1 = (w.alloc (.cells cs 31)).alloc (.cells #[.bool v.is, .int .i64 v.n, .int .i64 v.k.perm, .int .i64 v.k.base, .int .i64 v.k.len, .int .i64 v.k.at_, .int .i64 v.k.seal_] 25) := ⟨_, rfl⟩
  have k01 : Bk w1 w.heap.size 31 cs := by rw [hw1]; exact bk_old _ (bk_new _ _ _)
  have kv1 : Bk w1 (w.heap.size + 1) 25 #[.bool v.is, .int .i64 v.n, .int .i64 v.k.perm, .int .i64 v.k.base, .int .i64 v.k.len, .int .i64 v.k.at_, .int .i64 v.k.seal_] := by rw [hw1]; exact bk_new' _ _ (by simp)
  have h1w : Below w.heap.size w w1 := by rw [hw1]; exact ext_alloc (ext_alloc (Below.refl _ _) _) _
  have z1 : w1.heap.size = w.heap.size + 2 := by rw [hw1]; simp
  have sd := stepped_any w1 (ht.below h1w)
  have ra := fun W => rest_any pr 8 W (by decide) (by decide)
  rw [hpr] at ra
  have SD := Lib.hid sd
  have RA := Lib.hid ra
  have OP := Lib.hid op
  have S1 := Lib.hid s1
  have S2 := Lib.hid s2
  have HL := Lib.hid hl
  have HG := Lib.hid hgood
  have HCK := Lib.hid hck
  have HSET := Lib.hid hset
  have HBX := Lib.hid hbx
  have HRC := Lib.hid hrc
  have HN8 := Lib.hid hn8
  have HB8 := Lib.hid hb8
  have K01 := Lib.hid k01
  have KV1 := Lib.hid kv1
  have HW1 := Lib.hid hw1
  have H1W := Lib.hid h1w
  have HT := Lib.hid ht
  clear sd ra op s1 s2 hl hgood hck hset hbx hrc hn8 hb8 k01 kv1 hw1 h1w ht hm hs ho hw hwc h8 hpr
  go_enter Tryd.func6, Tryd.ntmps6
  go_upto_region 1 with (fail)
  rw [← HW1.out]
  have bx1 := HBX.out _ K01.out H1W.out
  have BX1 := Lib.hid bx1
  clear bx1
  go_upto_region 5 with (first
    | (go_at_call 19; ((with_reducible refine (RA.out _).mono ?_); rintro e w' ⟨rfl, rfl⟩; clear RA))
    | (go_at_call 14; ((with_reducible refine SD.out.mono ?_); rintro e u1 ⟨rfl, hb⟩; have HB1 := Lib.hid hb; clear hb))
    | (refine wpList_load_sub rfl 31 (.tmp 3) rfl w.heap.size 0 64 rfl 31 _ _ (BX1.out.below HB1.out).bk Tryd.underlying31 rfl (by kernel_rfl) (BX1.out.below HB1.out).size _ (BX1.out.below HB1.out).all ?_)
    | (go_at_call 16; ((with_reducible refine (OP.out _ (ext_trans H1W.out HB1.out)).mono ?_); rintro e u2 ⟨rfl, hb⟩; have HB2 := Lib.hid hb; clear hb)))
  obtain ⟨W3, hW3⟩ : ∃ W3, W3 = u2.alloc (.cells #[.int .i64 i.op, .int .i64 i.a, .int .i64 i.b, .int .i64 i.c] 40) := ⟨_, rfl⟩
  obtain ⟨gi, hgi⟩ : ∃ gi, gi = u2.heap.size := ⟨_, rfl⟩
  have b13 : Below w1.heap.size w1 W3 := by rw [hW3]; exact ext_alloc (ext_trans HB1.out HB2.out) _
  have ki3 : Bk W3 gi 40 #[.int .i64 i.op, .int .i64 i.a, .int .i64 i.b, .int .i64 i.c] := by rw [hW3, hgi]; exact bk_new _ _ _
  have lgi : w1.heap.size ≤ gi := by rw [hgi]; exact (ext_trans HB1.out HB2.out).size
  rw [← hW3, ← hgi]
  clear hW3 hgi
  have bw3 := ext_trans H1W.out b13
  have k03 := bk_keep b13 K01.out
  have kv3 := bk_keep b13 KV1.out
  have BX3 := Lib.hid (HBX.out _ k03 bw3)
  have tab3 := HT.out.below bw3
  go_upto_region 6 with (first
    | (refine wpList_load_sub rfl 31 (.tmp 3) rfl w.heap.size 0 64 rfl 31 _ _ BX3.out.bk Tryd.underlying31 rfl (by kernel_rfl) BX3.out.size _ BX3.out.all ?_)
    | (go_at_call 13; ((with_reducible refine (step_own BX3.out tab3 S1.out HN8.out).mono ?_); rintro e u4 ⟨cs4, rfl, mo, hb⟩; have MO4 := Lib.hid mo; have HB4 := Lib.hid hb; clear hb mo))
    | (refine wpList_store_fresh rfl 31 (.tmp 8) (.tmp 21) rfl rfl cs4 31 _ rfl rfl (by rw [MO4.out.sz]; kernel_rfl) (by rw [MO4.out.sz]; kernel_rfl) MO4.out.one ?_))
  obtain ⟨W4, hW4⟩ : ∃ W4, W4 = u4.alloc (.cells cs4 31) := ⟨_, rfl⟩
  obtain ⟨ga, hga⟩ : ∃ ga, ga = u4.heap.size := ⟨_, rfl⟩
  have b34 : Below W3.heap.size W3 W4 := by rw [hW4]; exact ext_alloc HB4.out _
  have ka4 : Bk W4 ga 31 cs4 := by rw [hW4, hga]; exact bk_new _ _ _
  have mo4 : MOwn W3.heap.size n cs4 W4 := by rw [hW4]; exact MO4.out.below (ext_alloc (Below.refl _ _) _)
  have lga : W3.heap.size ≤ ga := by rw [hga]; exact HB4.out.size
  rw [← hW4, ← hga]
  clear hW4 hga MO4 HB4
  have bw4 := ext_trans bw3 b34
  have k04 := bk_keep b34 k03
  have kv4 := bk_keep b34 kv3
  have ki4 := bk_keep b34 ki3
  have l13 := b13.size
  obtain ⟨x0, x1, x2, x3, x4, x5, x6⟩ := HRC.out _ k04
  obtain ⟨v0, v1, v2, v3, v4, v5, v6⟩ := cells7 kv4
  have mF := fun j => k04.frozen j
  have mL := k04.lt
  have vL := kv4.lt
  have q0 : (0 : Int) ≤ (r : Int) := by omega
  have q1 : (r : Int) < 8 := by omega
  have bx5 := HSET.out _ k04 bw4
  have hv7 : W4.setCells w.heap.size (r * 7) [.bool v.is, .int .i64 v.n, .int .i64 v.k.perm, .int .i64 v.k.base, .int .i64 v.k.len, .int .i64 v.k.at_, .int .i64 v.k.seal_] = W4.setCells w.heap.size (r * 7) (cl v) := rfl
  have ka5 := bk_setCells_far ka4 (show ga ≠ w.heap.size by omega) (r * 7) (cl v)
  have kv5 := bk_setCells_far kv4 (show w.heap.size + 1 ≠ w.heap.size by omega) (r * 7) (cl v)
  have ki5 := bk_setCells_far ki4 (show gi ≠ w.heap.size by omega) (r * 7) (cl v)
  have mo5 := mo4.far (show w.heap.size < W3.heap.size by omega) (r * 7) (cl v)
  have bw5 := below_setCells bw4 (Nat.le_refl _) (r * 7) (cl v)
  obtain ⟨W5, hW5⟩ : ∃ W5, W5 = W4.setCells w.heap.size (r * 7) (cl v) := ⟨_, rfl⟩
  rw [← hW5] at bx5 ka5 kv5 ki5 mo5 bw5 hv7
  have HV7 := Lib.hid hv7
  have BX5 := Lib.hid bx5
  have KA5 := Lib.hid ka5
  have KV5 := Lib.hid kv5
  have KI5 := Lib.hid ki5
  have MO5 := Lib.hid mo5
  have BW5 := Lib.hid bw5
  have lga5 := ka5.lt
  have lgi5 := ki5.lt
  clear hW5 hv7 bx5 ka5 kv5 ki5 mo5 bw5 ka4 mo4 k04 kv4 ki4 k03 kv3 ki3 bw3 bw4 BX3 tab3
  go_upto_region 7 with (fail)
  rw [setCells7, HV7.out]
  clear x0 x1 x2 x3 x4 x5 x6 v0 v1 v2 v3 v4 v5 v6 mF mL vL HV7 b34
  have tab5 := HT.out.below BW5.out
  go_upto_region 8 with (first
    | (refine wpList_load_sub rfl 31 (.tmp 3) rfl w.heap.size 0 64 rfl 31 _ _ BX5.out.bk Tryd.underlying31 rfl (by kernel_rfl) BX5.out.size _ BX5.out.all ?_)
    | (go_at_call 13; ((with_reducible refine (step_own BX5.out tab5 S2.out HB8.out).mono ?_); rintro e u6 ⟨cs6, rfl, mo, hb⟩; have MO6 := Lib.hid mo; have HB6 := Lib.hid hb; clear hb mo))
    | (refine wpList_store_fresh rfl 31 (.tmp 10) (.tmp 30) rfl rfl cs6 31 _ rfl rfl (by rw [MO6.out.sz]; kernel_rfl) (by rw [MO6.out.sz]; kernel_rfl) MO6.out.one ?_))
  obtain ⟨W7, hW7⟩ : ∃ W7, W7 = u6.alloc (.cells cs6 31) := ⟨_, rfl⟩
  obtain ⟨gb, hgb⟩ : ∃ gb, gb = u6.heap.size := ⟨_, rfl⟩
  have b57 : Below W5.heap.size W5 W7 := by rw [hW7]; exact ext_alloc HB6.out _
  have kb7 : Bk W7 gb 31 cs6 := by rw [hW7, hgb]; exact bk_new _ _ _
  have mo7 : MOwn W5.heap.size b cs6 W7 := by rw [hW7]; exact MO6.out.below (ext_alloc (Below.refl _ _) _)
  have lgb : W5.heap.size ≤ gb := by rw [hgb]; exact HB6.out.size
  rw [← hW7, ← hgb]
  clear hW7 hgb MO6 HB6
  have BW7 := Lib.hid (ext_trans BW5.out b57)
  have BX7 := Lib.hid (BX5.out.below b57)
  have ki7 := bk_keep b57 KI5.out
  have KA7 := Lib.hid (bk_keep b57 KA5.out)
  have KV7 := Lib.hid (bk_keep b57 KV5.out)
  have MOA := Lib.hid (MO5.out.below b57)
  have MOB := Lib.hid mo7
  have KB7 := Lib.hid kb7
  obtain ⟨i0, i1, i2, i3⟩ := cells4 ki7
  have iL := ki7.lt
  clear ki7 kb7 mo7 b57 BX5 KI5 KA5 KV5 MO5 tab5
  by_cases hop : i.op < 0
  · have g1 : decide (i.op < 0) = true := by simpa using hop
    clear hop
    go_wp2
    go_ret
    exact ⟨rfl, BW7.out⟩
  have g1 : decide (i.op < 0) = false := by simpa using hop
  have HOP := Lib.hid (HG.out (by omega))
  clear hop HG
  by_cases hc : ck = 0
  case neg =>
    have g2 : (ck == 0) = false := by simpa using hc
    have g3 : (ck != 0) = true := by simpa using hc
    clear hc
    go_wp2_with (fail)
    refine (named_any i HOP.out r hr _).mono ?_
    rintro e un ⟨x, rfl, hx, hb⟩
    have HX := Lib.hid hx
    have HBN := Lib.hid hb
    clear hx hb
    cases x
    case true => go_wp2; go_ret; exact ⟨rfl, ext_trans BW7.out HBN.out⟩
    case false =>
      go_wp2_with (first
        | (refine wpList_load_sub_w rfl 31 (.tmp 3) rfl w.heap.size 0 64 rfl 31 _ _ (BX7.out.below HBN.out).bk Tryd.underlying31 rfl (by kernel_rfl) (BX7.out.below HBN.out).size _ (BX7.out.below HBN.out).all ?_)
        | (go_at_call 21; ((with_reducible refine (check_is (BX7.out.below HBN.out) HCK.out).mono ?_); rintro e uc ⟨rfl, hb⟩; have HBC := Lib.hid hb; clear hb)))
      go_ret
      exact ⟨rfl, ext_trans (ext_trans BW7.out HBN.out) HBC.out⟩
  subst hc
  by_cases he : er = 0
  case neg =>
    have g2 : (er == 0) = false := by simpa using he
    have g3 : (er != 0) = true := by simpa using he
    clear he
    go_wp2_with (fail)
    refine (named_any i HOP.out r hr _).mono ?_
    rintro e un ⟨x, rfl, hx, hb⟩
    have HX := Lib.hid hx
    have HBN := Lib.hid hb
    clear hx hb
    cases x
    case true => go_wp2; go_ret; exact ⟨rfl, ext_trans BW7.out HBN.out⟩
    case false =>
      go_wp2_with (first
        | (refine wpList_load_sub_w rfl 31 (.tmp 3) rfl w.heap.size 0 64 rfl 31 _ _ (BX7.out.below HBN.out).bk Tryd.underlying31 rfl (by kernel_rfl) (BX7.out.below HBN.out).size _ (BX7.out.below HBN.out).all ?_)
        | (go_at_call 21; ((with_reducible refine (check_is (BX7.out.below HBN.out) HCK.out).mono ?_); rintro e uc ⟨rfl, hb⟩; have HBC := Lib.hid hb; clear hb)))
      go_ret
      exact ⟨rfl, ext_trans (ext_trans BW7.out HBN.out) HBC.out⟩
  subst he
  go_wp2_with (fail)
  refine (named_any i HOP.out r hr _).mono ?_
  rintro e un ⟨x, rfl, hx, hb⟩
  have HX := Lib.hid hx
  have HBN := Lib.hid hb
  clear hx hb
  cases x
  case true => go_wp2; go_ret; exact ⟨rfl, ext_trans BW7.out HBN.out⟩
  case false =>
    obtain ⟨rfl, rfl⟩ := HL.out (HX.out rfl) (by first | rfl | trivial) (by first | rfl | trivial)
    go_upto_region 10 with (first
      | (refine wpList_load_sub_w rfl 31 (.tmp 3) rfl w.heap.size 0 64 rfl 31 _ _ (BX7.out.below HBN.out).bk Tryd.underlying31 rfl (by kernel_rfl) (BX7.out.below HBN.out).size _ (BX7.out.below HBN.out).all ?_)
      | (go_at_call 21; ((with_reducible refine (check_is (BX7.out.below HBN.out) HCK.out).mono ?_); rintro e uc ⟨rfl, hb⟩; have HBC := Lib.hid hb; clear hb)))
    have b79 := ext_trans HBN.out HBC.out
    have mb9 := MOB.out.below b79
    have kb9 := bk_keep b79 KB7.out
    have ka9 := bk_keep b79 KA7.out
    have ma9 := MOA.out.below b79
    have kv9 := bk_keep b79 KV7.out
    obtain ⟨y0, y1, y2, y3, y4, y5, y6⟩ := mb9.regs kb9 hr
    rw [reg_set_eq HN8.out hr v] at y0 y1 y2 y3 y4 y5 y6
    obtain ⟨v0, v1, v2, v3, v4, v5, v6⟩ := cells7 kv9
    obtain ⟨a0, a1, a2, a3, a4, a5, a6⟩ := ma9.regs ka9 hr
    have aF := fun j => ka9.frozen j
    have aL := ka9.lt
    have bL := kb9.lt
    have vL := kv9.lt
    have q := fun W => run_neq_val v v W
    simp only [decide_true, Bool.not_true, ValV.val] at q
    have HMA := Lib.hid ma9
    have HKA := Lib.hid ka9
    have HMB := Lib.hid mb9
    have HKB := Lib.hid kb9
    have BW9 := Lib.hid (ext_trans BW7.out b79)
    have hgab : gb ≠ ga := by omega
    have hga5 : ga < W5.heap.size := lga5
    have hgaw : w.heap.size ≤ ga := by omega
    clear ma9 ka9 mb9 kb9 kv9 b79 i0 i1 i2 i3 MOB KB7 KA7 MOA KV7 BX7 BW7 HBN HBC
    go_quiet (fail)
    have bd : Below uc.heap.size uc (uc.drewN nq) := ext_drewN (Below.refl _ _) _
    obtain ⟨csA, bxa⟩ := (HMA.out.below bd).setReg (bk_keep bd HKA.out) hr v
    have bxb := ((HMB.out.below bd).far hga5 (r * 7) (cl v)).box (bk_setCells_far (bk_keep bd HKB.out) hgab (r * 7) (cl v))
    have bwf := below_setCells (ext_trans BW9.out bd) hgaw (r * 7) (cl v)
    have hv9 : (uc.drewN nq).setCells ga (r * 7) [.bool v.is, .int .i64 v.n, .int .i64 v.k.perm, .int .i64 v.k.base, .int .i64 v.k.len, .int .i64 v.k.at_, .int .i64 v.k.seal_] = (uc.drewN nq).setCells ga (r * 7) (cl v) := rfl
    obtain ⟨W11, hW11⟩ : ∃ W11, W11 = (uc.drewN nq).setCells ga (r * 7) (cl v) := ⟨_, rfl⟩
    rw [← hW11] at bxa bxb bwf hv9
    have BXA := Lib.hid bxa
    have BXB := Lib.hid bxb
    have BWF := Lib.hid bwf
    have HV9 := Lib.hid hv9
    clear hW11 bxa bxb bwf hv9
    go_upto_region 13 with (fail)
    rw [setCells7, HV9.out]
    go_wp2_with (first
      | (refine wpList_load_sub rfl 31 (.tmp 8) rfl ga 0 64 rfl 31 _ _ BXA.out.bk Tryd.underlying31 rfl (by kernel_rfl) BXA.out.size _ BXA.out.all ?_)
      | (refine wpList_load_sub rfl 31 (.tmp 10) rfl gb 0 64 rfl 31 _ _ BXB.out.bk Tryd.underlying31 rfl (by kernel_rfl) BXB.out.size _ BXB.out.all ?_)
      | (go_at_call 15; ((with_reducible refine (meq_box BXA.out BXB.out).mono ?_); rintro e ue ⟨rfl, hb⟩; have HBE := Lib.hid hb; clear hb)))
    go_ret
    exact ⟨rfl, ext_trans BWF.out HBE.out⟩
theorem stepLocal_walk (x : MachA) (r : Int) (v : ValV) {w : World} (hx : x.ok w) (hr : I64 r) (hv : v.wf) (ht : Tab w) : Calls Tryd.prog 6 #[x.val, .int .i64 r, v.val] w fun e w' => e = .returned (.bool true) ∧ Below w.heap.size w w' := by
  obtain ⟨nr, hnr⟩ := Int.eq_ofNat_of_zero_le (Int.emod_nonneg r (show (8 : Int) ≠ 0 by decide))
  have l1 := Int.emod_lt_of_pos r (show (0 : Int) < 8 by decide)
  exact local_mv ⟨x.R, x.c, x.mem, x.stk, x.out⟩ x.ma x.sa x.oa x.mc x.sc x.oc v r nr hnr (by omega) w hx.h8 hx.wc hx.wm hx.mem hx.stk hx.out ht
end Go.Proofs.YtopdnihokbhjfaaDoor
