import Derived.Test.YtopdnihokbhjfaaDoorBuP
import Derived.Test.YtopdnihokbhjfaaDoorBuO
/- StepGoes. -/
namespace Go.Proofs.YtopdnihokbhjfaaDoor
open Go.RowKit
set_option linter.unusedVariables false
set_option linter.unusedSimpArgs false
set_option maxHeartbeats 8000000 in
set_option maxRecDepth 100000 in
theorem goes_mv (m : MV) (ma sa oa : Option Addr) (mc sc oc : Nat) (w : World) (h8 : m.R.length = 8) (hwc : m.c.wf) (hw : ∀ v ∈ m.mem, v.wf)
    (hm : Sl w ma m.mem.length m.mem) (hs : Sl w sa m.stk.length m.stk) (ho : Sl w oa m.out.length m.out) (ht : Tab w) : Calls Tryd.prog 5 #[.agg (mcs m.R m.c (.slice ma m.mem.length mc) (.slice sa m.stk.length sc) (.slice oa m.out.length oc))] w fun e w' => e = .returned (.bool true) ∧ Below w.heap.size w w' := by
  have hsz := mcs_size (c := m.c) (ms := .slice ma m.mem.length mc) (ss := .slice sa m.stk.length sc) (os := .slice oa m.out.length oc) h8
  have hhi := mcs_hi (c := m.c) (ms := .slice ma m.mem.length mc) (ss := .slice sa m.stk.length sc) (os := .slice oa m.out.length oc) h8
  have st := fun W (h : Below w.heap.size w W) => step_any m ma sa oa mc sc oc W h8 (hm.below h) (hs.below h) (ho.below h) (ht.below h)
  have op := fun W (h : Below w.heap.size w W) => opof_any m ma sa oa mc sc oc W h8 hwc hw (hm.below h) (ht.below h)
  have sd := fun W (h : Below w.heap.size w W) => stepped_any W (ht.below h)
  have hcs0 : (mcs m.R m.c (.slice ma m.mem.length mc) (.slice sa m.stk.length sc) (.slice oa m.out.length oc)).extract 0 (0 + 64) = mcs m.R m.c (.slice ma m.mem.length mc) (.slice sa m.stk.length sc) (.slice oa m.out.length oc) := by rw [Array.extract_eq_self_of_le (by rw [hsz]; omega)]
  have hn8 : (stepF m).1.R.length = 8 := by
    by_cases he : (stepF m).2 = 0
    · obtain ⟨hk, h1, _⟩ := stepF_ok h8 he
      exact (one_ok hk h1).2
    · rw [stepF_bad he]; rfl
  have hgo : (stepF m).2 ≠ 0 ∨ (opF m).op = 18 ∨ (opF m).op = 19 ∨ ((opF m).op ≠ 18 ∧ (opF m).op ≠ 19 ∧ m.c.Ok ∧ (stepF m).1.c.Ok ∧ ∃ d, (stepF m).1.c = { m.c with at_ := m.c.at_ + d } ∧ (d = 1 ∨ ((opF m).op = 8 ∨ (opF m).op = 9) ∧ d = (opF m).c)) := by
    by_cases he : (stepF m).2 = 0
    · obtain ⟨hk, h1, i, h2, h3⟩ := stepF_ok h8 he
      have hi := (opF_of h2).1
      rw [hi]
      by_cases h18 : i.op = 18
      · exact .inr (.inl h18)
      by_cases h19 : i.op = 19
      · exact .inr (.inr (.inl h19))
      exact .inr (.inr (.inr ⟨h18, h19, hk.1.code, (one_ok hk h1).1.code, stepd_goes h3 h18 h19⟩))
    · exact .inl he
  unfold StRes at st
  unfold instVal at op
  generalize opF m = i at *
  obtain ⟨io, iA, iB, iC⟩ := i
  generalize stepF m = r at *
  obtain ⟨n, er⟩ := r
  simp only at st op hn8 hgo
  generalize mcs m.R m.c (.slice ma m.mem.length mc) (.slice sa m.stk.length sc) (.slice oa m.out.length oc) = cs at *
  obtain ⟨w1, hw1⟩ : ∃ w1, w1 = w.alloc (.cells cs 31) := ⟨_, rfl⟩
  have hB : Bk w1 w.heap.size 31 cs := by rw [hw1]; exact bk_new _ _ _
  have h1w : Below w.heap.size w w1 := by rw [hw1]; exact ext_alloc (Below.refl _ _) _
  have hz1 : w1.heap.size = w.heap.size + 1 := by rw [hw1]; simp
  have ST := Lib.hid (st w1 h1w)
  have OP := Lib.hid op
  have SD := Lib.hid sd
  have HW1 := Lib.hid hw1
  have HSZ := Lib.hid hsz
  have HEX := Lib.hid hcs0
  have HB := Lib.hid hB
  have H1W := Lib.hid h1w
  have HN8 := Lib.hid hn8
  have HHI := Lib.hid hhi
  have HGO := Lib.hid hgo
  clear st op sd hw1 hsz hcs0 hB h1w hn8 hhi hgo hm hs ho ht hw hwc h8
  go_enter Tryd.func5, Tryd.ntmps5
  go_upto_region 1 with (fail)
  rw [← HW1.out]
  go_upto_region 2 with (first
    | (refine wpList_load_sub rfl 31 (.tmp 1) rfl w.heap.size 0 64 rfl 31 _ _ HB.out Tryd.underlying31 rfl (by kernel_rfl) (by have := HSZ.out; omega) _ HEX.out ?_)
    | (go_at_call 13; ((with_reducible refine ST.out.mono ?_); rintro e w2 ⟨vm, vs, vo, rfl, om, os, oo, hb2⟩; have HO := Lib.hid (mcs_one (R := n.R) (c := n.c) (ownsOne om) (ownsOne os) (ownsOne oo)); have HSX := Lib.hid (mcs_size (R := n.R) (c := n.c) (ms := vm) (ss := vs) (os := vo) HN8.out); have HHX := Lib.hid (mcs_hi (R := n.R) (c := n.c) (ms := vm) (ss := vs) (os := vo) HN8.out); have HB2 := Lib.hid hb2; clear om os oo hb2))
    | (refine wpList_store_fresh rfl 31 (.tmp 3) (.tmp 10) rfl rfl (mcs n.R n.c vm vs vo) 31 _ rfl rfl (by rw [HSX.out]; kernel_rfl) (by rw [HSX.out]; kernel_rfl) HO.out ?_))
  obtain ⟨g3, hg3⟩ : ∃ g3, g3 = w2.heap.size := ⟨_, rfl⟩
  obtain ⟨W2, hW2⟩ : ∃ W2, W2 = w2.alloc (.cells (mcs n.R n.c vm vs vo) 31) := ⟨_, rfl⟩
  have k3 : Bk W2 g3 31 (mcs n.R n.c vm vs vo) := by rw [hW2, hg3]; exact bk_new _ _ _
  have k1 : Bk W2 w.heap.size 31 cs := by rw [hW2]; exact bk_old _ (bk_keep HB2.out HB.out)
  have hz2 : g3 + 1 = W2.heap.size := by rw [hW2, hg3]; simp
  have hg1 : w.heap.size < g3 := by have := HB2.out.size; omega
  have b2 : Below w.heap.size w W2 := by rw [hW2]; exact ext_alloc (ext_trans H1W.out HB2.out) _
  have K1 := Lib.hid k1
  have B2 := Lib.hid b2
  have OP2 := Lib.hid (OP.out W2 b2)
  rw [← hW2, ← hg3]
  clear hW2 hg3 b2 k1
  go_upto_region 3 with (first
    | (refine wpList_load_sub rfl 31 (.tmp 1) rfl w.heap.size 0 64 rfl 31 _ _ K1.out Tryd.underlying31 rfl (by kernel_rfl) (by have := HSZ.out; omega) _ HEX.out ?_)
    | (go_at_call 16; ((with_reducible refine OP2.out.mono ?_); rintro e w' ⟨rfl, hb⟩; obtain ⟨y1, rfl⟩ := later_call (Below.refl _ _) hb; clear hb)))
  obtain ⟨g5, hg5⟩ : ∃ g5, g5 = y1.val.heap.size := ⟨_, rfl⟩
  obtain ⟨W3, hW3⟩ : ∃ W3, W3 = y1.val.alloc (.cells #[.int .i64 io, .int .i64 iA, .int .i64 iB, .int .i64 iC] 40) := ⟨_, rfl⟩
  have b23 : Below W2.heap.size W2 W3 := by rw [hW3]; exact ext_alloc y1.ok _
  have k5 : Bk W3 g5 40 #[.int .i64 io, .int .i64 iA, .int .i64 iB, .int .i64 iC] := by rw [hW3, hg5]; exact bk_new _ _ _
  have k13 := bk_keep b23 K1.out
  have k33 := bk_keep b23 k3
  have b3 := ext_trans B2.out b23
  have hg5' : W2.heap.size ≤ g5 := by rw [hg5]; exact y1.ok.size
  have SD3 := Lib.hid (SD.out W3 b3)
  have p0 : ∀ x : Later W3, x.val.cell? ⟨g5, 0, none⟩ = some (.int .i64 io) := fun x => (x.bk k5).cell 0
  have p3 : ∀ x : Later W3, x.val.cell? ⟨g5, 3, none⟩ = some (.int .i64 iC) := fun x => (x.bk k5).cell 3
  have a56 : ∀ x : Later W3, x.val.cell? ⟨w.heap.size, 56, none⟩ = some (.int .i64 m.c.perm) := fun x => ((x.bk k13).cell _).trans (HHI.out 0)
  have a57 : ∀ x : Later W3, x.val.cell? ⟨w.heap.size, 57, none⟩ = some (.int .i64 m.c.base) := fun x => ((x.bk k13).cell _).trans (HHI.out 1)
  have a58 : ∀ x : Later W3, x.val.cell? ⟨w.heap.size, 58, none⟩ = some (.int .i64 m.c.len) := fun x => ((x.bk k13).cell _).trans (HHI.out 2)
  have a59 : ∀ x : Later W3, x.val.cell? ⟨w.heap.size, 59, none⟩ = some (.int .i64 m.c.at_) := fun x => ((x.bk k13).cell _).trans (HHI.out 3)
  have a60 : ∀ x : Later W3, x.val.cell? ⟨w.heap.size, 60, none⟩ = some (.int .i64 m.c.seal_) := fun x => ((x.bk k13).cell _).trans (HHI.out 4)
  have n56 : ∀ x : Later W3, x.val.cell? ⟨g3, 56, none⟩ = some (.int .i64 n.c.perm) := fun x => ((x.bk k33).cell _).trans (HHX.out 0)
  have n57 : ∀ x : Later W3, x.val.cell? ⟨g3, 57, none⟩ = some (.int .i64 n.c.base) := fun x => ((x.bk k33).cell _).trans (HHX.out 1)
  have n58 : ∀ x : Later W3, x.val.cell? ⟨g3, 58, none⟩ = some (.int .i64 n.c.len) := fun x => ((x.bk k33).cell _).trans (HHX.out 2)
  have n59 : ∀ x : Later W3, x.val.cell? ⟨g3, 59, none⟩ = some (.int .i64 n.c.at_) := fun x => ((x.bk k33).cell _).trans (HHX.out 3)
  have n60 : ∀ x : Later W3, x.val.cell? ⟨g3, 60, none⟩ = some (.int .i64 n.c.seal_) := fun x => ((x.bk k33).cell _).trans (HHX.out 4)
  have L1 : ∀ x : Later W3, w.heap.size < x.val.heap.size := fun x => x.lt k13.lt
  have L3 : ∀ x : Later W3, g3 < x.val.heap.size := fun x => x.lt k33.lt
  have L5 : ∀ x : Later W3, g5 < x.val.heap.size := fun x => x.lt k5.lt
  have F3 : ∀ (x : Later W3) j, x.val.frozen? ⟨g3, j, none⟩ = false := fun x j => (x.bk k33).frozen j
  have B3 := Lib.hid b3
  rw [← hW3, ← hg5]
  clear hW3 hg5 b23 b3 k13 k33 k5 k3
  have hne1 : g3 ≠ w.heap.size := by omega
  have hne5 : g3 ≠ g5 := by omega
  have nb : ∀ y : Later W3, Below w.heap.size w (y.val.setCell ⟨g3, 59, none⟩ (.int .i64 m.c.at_)) := fun y => ext_set (ext_trans B3.out y.ok) (show w.heap.size ≤ g3 by omega) _
  have NB := Lib.hid nb
  clear nb
  rcases HGO.out with h | h | h | ⟨h18, h19, hk, hk', d, hd, hcase⟩
  · have g1 : (er == 0) = false := by simpa using h
    have g2 : (er != 0) = true := by simpa using h
    clear h
    go_wp2_with (go_at_call 14; ((with_reducible refine SD3.out.mono ?_); rintro e w' ⟨rfl, hb⟩; obtain ⟨y2, rfl⟩ := later_call (Below.refl _ _) hb; clear hb))
    go_ret
    exact ⟨rfl, ext_trans B3.out y2.ok⟩
  · subst h
    cases g1 : (er == 0)
    · have g2 : (er != 0) = true := by simp [bne, g1]
      go_wp2_with (go_at_call 14; ((with_reducible refine SD3.out.mono ?_); rintro e w' ⟨rfl, hb⟩; obtain ⟨y2, rfl⟩ := later_call (Below.refl _ _) hb; clear hb))
      go_ret
      exact ⟨rfl, ext_trans B3.out y2.ok⟩
    · have g2 : (er != 0) = false := by simp [bne, g1]
      go_wp2_with (go_at_call 14; ((with_reducible refine SD3.out.mono ?_); rintro e w' ⟨rfl, hb⟩; obtain ⟨y2, rfl⟩ := later_call (Below.refl _ _) hb; clear hb))
      go_ret
      exact ⟨rfl, ext_trans B3.out y2.ok⟩
  · subst h
    cases g1 : (er == 0)
    · have g2 : (er != 0) = true := by simp [bne, g1]
      go_wp2_with (go_at_call 14; ((with_reducible refine SD3.out.mono ?_); rintro e w' ⟨rfl, hb⟩; obtain ⟨y2, rfl⟩ := later_call (Below.refl _ _) hb; clear hb))
      go_ret
      exact ⟨rfl, ext_trans B3.out y2.ok⟩
    · have g2 : (er != 0) = false := by simp [bne, g1]
      go_wp2_with (go_at_call 14; ((with_reducible refine SD3.out.mono ?_); rintro e w' ⟨rfl, hb⟩; obtain ⟨y2, rfl⟩ := later_call (Below.refl _ _) hb; clear hb))
      go_ret
      exact ⟨rfl, ext_trans B3.out y2.ok⟩
  · cases g1 : (er == 0)
    · have g2 : (er != 0) = true := by simp [bne, g1]
      clear hcase hd
      go_wp2_with (go_at_call 14; ((with_reducible refine SD3.out.mono ?_); rintro e w' ⟨rfl, hb⟩; obtain ⟨y2, rfl⟩ := later_call (Below.refl _ _) hb; clear hb))
      go_ret
      exact ⟨rfl, ext_trans B3.out y2.ok⟩
    · have g2 : (er != 0) = false := by simp [bne, g1]
      have e18 : (io == 18) = false := by simpa using h18
      have e19 : (io == 19) = false := by simpa using h19
      have q := fun W => run_eql_key m.c m.c W
      simp only [decide_true, KeyV.val] at q
      have hq1 := hk.a0
      have hq2 := hk.a1
      have hr1 := hk'.a0
      have hr2 := hk'.a1
      rw [hd] at n56 n57 n58 n59 n60 hr1 hr2
      simp only at n56 n57 n58 n59 n60 hr1 hr2
      clear hk hk' hd h18 h19 HGO HHX HSX HO
      generalize m.c = k at *
      obtain ⟨kp, kb, kl, ka, ks⟩ := k
      simp only at q a56 a57 a58 a59 a60 n56 n57 n58 n59 n60 hq1 hq2 hr1 hr2 NB
      have hwr : IntKind.i64.wrap (ka + d - ka) = d := by rw [show ka + d - ka = d by omega]; exact IntWalk.i64_in _ ⟨by omega, by omega⟩
      rcases hcase with rfl | ⟨h | h, rfl⟩
      · go_wp2_with (go_at_call 14; ((with_reducible refine SD3.out.mono ?_); rintro e w' ⟨rfl, hb⟩; obtain ⟨y2, rfl⟩ := later_call (Below.refl _ _) hb; clear hb))
        go_ret
        exact ⟨rfl, (NB.out y2)⟩
      · subst h
        cases g5 : (d == 1)
        · go_wp2_with (go_at_call 14; ((with_reducible refine SD3.out.mono ?_); rintro e w' ⟨rfl, hb⟩; obtain ⟨y2, rfl⟩ := later_call (Below.refl _ _) hb; clear hb))
          go_ret
          exact ⟨rfl, (NB.out y2)⟩
        · go_wp2_with (go_at_call 14; ((with_reducible refine SD3.out.mono ?_); rintro e w' ⟨rfl, hb⟩; obtain ⟨y2, rfl⟩ := later_call (Below.refl _ _) hb; clear hb))
          go_ret
          exact ⟨rfl, (NB.out y2)⟩
      · subst h
        cases g5 : (d == 1)
        · go_wp2_with (go_at_call 14; ((with_reducible refine SD3.out.mono ?_); rintro e w' ⟨rfl, hb⟩; obtain ⟨y2, rfl⟩ := later_call (Below.refl _ _) hb; clear hb))
          go_ret
          exact ⟨rfl, (NB.out y2)⟩
        · go_wp2_with (go_at_call 14; ((with_reducible refine SD3.out.mono ?_); rintro e w' ⟨rfl, hb⟩; obtain ⟨y2, rfl⟩ := later_call (Below.refl _ _) hb; clear hb))
          go_ret
          exact ⟨rfl, (NB.out y2)⟩
theorem stepGoes_walk (x : MachA) {w : World} (hx : x.ok w) (ht : Tab w) : Calls Tryd.prog 5 #[x.val] w fun e w' => e = .returned (.bool true) ∧ Below w.heap.size w w' :=
  goes_mv ⟨x.R, x.c, x.mem, x.stk, x.out⟩ x.ma x.sa x.oa x.mc x.sc x.oc w hx.h8 hx.wc hx.wm hx.mem hx.stk hx.out ht
end Go.Proofs.YtopdnihokbhjfaaDoor
