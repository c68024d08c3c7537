import Derived.Test.YtmmmmeeepieemaaDoorPlacesZ
/- Places of package run: a machine that may not be; both. -/
namespace Go.Proofs.YtmmmmeeepieemaaDoor
open Go Go.RowKit Go.Shelf
set_option linter.unusedVariables false
set_option linter.unusedSimpArgs false
set_option maxHeartbeats 4000000 in
set_option maxRecDepth 100000 in
theorem places_badM (m : MV) (ma sa oa : Option Addr) (mc sc oc : Nat) (f : Int) (w : World) (h8 : m.R.length = 8)
    (hm : Sl w ma m.mem.length m.mem) (hs : Sl w sa m.stk.length m.stk) (ho : Sl w oa m.out.length m.out) (hc : runE m f ≠ 0) : Calls Tryd.prog 13 #[.agg (mcs m.R m.c (.slice ma m.mem.length mc) (.slice sa m.stk.length sc) (.slice oa m.out.length oc)), .int .i64 f] w fun e w' => e = .returned (.tuple #[.slice none 0 0, .int .i64 (runE m f)]) ∧ Below w.heap.size w w' := by
  have hsz := mcs_size (c := m.c) (ms := .slice ma m.mem.length mc) (ss := .slice sa m.stk.length sc) (os := .slice oa m.out.length oc) h8
  have sck := rcheck_any m ma sa oa mc sc oc f
  obtain ⟨cs, hcs⟩ : ∃ cs, cs = mcs m.R m.c (.slice ma m.mem.length mc) (.slice sa m.stk.length sc) (.slice oa m.out.length oc) := ⟨_, rfl⟩
  rw [← hcs] at hsz sck ⊢
  have hex : cs.extract 0 (0 + 64) = cs := by rw [Array.extract_eq_self_of_le (by rw [hsz]; omega)]
  obtain ⟨w1, hw1⟩ : ∃ w1, w1 = w.alloc (.cells cs 38) := ⟨_, rfl⟩
  have hB : Bk w1 w.heap.size 38 cs := by rw [hw1]; exact bk_new _ _ _
  have h1w : Below w.heap.size w w1 := by rw [hw1]; exact ext_alloc (Below.refl _ _) _
  have sc1 := sck w1 h8 (hm.below h1w) (hs.below h1w) (ho.below h1w)
  generalize runE m f = ec at *
  have g1 : (ec == 0) = false := by simpa using hc
  have g2 : (ec != 0) = true := by simpa using hc
  have SC := Lib.hid sc1
  have HW1 := Lib.hid hw1
  have HSZ := Lib.hid hsz
  have HEX := Lib.hid hex
  have HB := Lib.hid hB
  have H1W := Lib.hid h1w
  clear hsz hex hB h1w hw1 hm hs ho h8 sck sc1 hcs hc
  go_enter Tryd.func13, Tryd.ntmps13
  go_upto_region 1 with (fail)
  rw [← HW1.out]
  go_wp2_with (first
    | (refine wpList_load_sub rfl 38 (.tmp 2) rfl w.heap.size 0 64 rfl 38 _ _ HB.out Tryd.underlying38 rfl (by kernel_rfl) (by have := HSZ.out; omega) _ HEX.out ?_)
    | (go_at_call 27; ((with_reducible refine SC.out.mono ?_); rintro e w' ⟨rfl, hb⟩; obtain ⟨y1, rfl⟩ := later_call (Below.refl _ _) hb; clear hb)))
  go_ret2
  exact ⟨rfl, ext_trans H1W.out y1.ok⟩
end Go.Proofs.YtmmmmeeepieemaaDoor
