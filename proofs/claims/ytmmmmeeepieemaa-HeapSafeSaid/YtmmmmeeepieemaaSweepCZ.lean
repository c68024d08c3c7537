import Derived.Test.YtmmmmeeepieemaaBuG
import Derived.Test.YtmmmmeeepieemaaBuP
import Derived.Test.YtmmmmeeepieemaaSweepBZ
/- sweep.Has; the closed fact of the laws on sweeping. -/
namespace Go.Proofs.Ytmmmmeeepieemaa
open Go.RowKit
set_option linter.unusedVariables false
set_option linter.unusedSimpArgs false
theorem swept_ok1 : MOk zeroR zeroK [⟨true, 0, ⟨0, 3, 2, 0, 0⟩⟩] [] [] := stepCheck_zero.1 (by decide +kernel)
theorem zero_ok : stepCheck zeroR zeroK [] [] [] = 0 := by decide +kernel
set_option maxHeartbeats 4000000 in
set_option maxRecDepth 100000 in
theorem swept_any (w : World) : Calls Try.prog 28 #[] w fun e w' => e = .returned (.bool true) ∧ Below w.heap.size w w' := by
  obtain ⟨w1, hw1⟩ : ∃ w1, w1 = w.alloc (.cells #[.bool true, .int .i64 0, .int .i64 0, .int .i64 3, .int .i64 2, .int .i64 0, .int .i64 0] 42) := ⟨_, rfl⟩
  have h1w : Below w.heap.size w w1 := by rw [hw1]; exact ext_alloc (Below.refl _ _) _
  have hs1 : Sl w1 (some ⟨w.heap.size, 0, none⟩) 1 [(⟨true, 0, ⟨0, 3, 2, 0, 0⟩⟩ : ValV)] := by
    rw [hw1]
    have h0 := own_lit (xs := [(⟨true, 0, ⟨0, 3, 2, 0, 0⟩⟩ : ValV)]) w 42 0 (Nat.zero_le _) #[.bool true, .int .i64 0, .int .i64 0, .int .i64 3, .int .i64 2, .int .i64 0, .int .i64 0] 1 rfl (by decide) rfl
    obtain ⟨ao, c, e, h, _⟩ := h0.sl
    injection e with e _ _
    subst e
    simpa using h
  have sp1 := sweep_ok zeroR zeroK [⟨true, 0, ⟨0, 3, 2, 0, 0⟩⟩] [] [] (some ⟨w.heap.size, 0, none⟩) none none 1 0 0 4 1 w1 rfl hs1 (Sl.nil _ _) (Sl.nil _ _) swept_ok1 (by decide) (by decide) (by decide) (by decide)
  have sp2 := fun W => sweep_bad zeroR zeroK [] [] [] none none none 0 0 0 (-1) 0 W rfl (Sl.nil _ _) (Sl.nil _ _) (Sl.nil _ _) zero_ok (by decide) (by constructor <;> decide) (by constructor <;> decide)
  have z1 : swCount 4 1 zeroR zeroK [⟨true, 0, ⟨0, 3, 2, 0, 0⟩⟩] [] = 1 := by decide +kernel
  have z2 : List.map (swV 4 1) [(⟨true, 0, ⟨0, 3, 2, 0, 0⟩⟩ : ValV)] = [zeroV] := by decide +kernel
  have z3 : zeroR.map (swV 4 1) = zeroR := by decide +kernel
  have z4 : swK 4 1 zeroK = zeroK := by decide +kernel
  rw [z1, z2, z3, z4] at sp1
  unfold SwPost at sp1 sp2
  have sp1' : Calls Try.prog 32 #[.agg #[.bool false, .int .i64 0, .int .i64 0, .int .i64 0, .int .i64 0, .int .i64 0, .int .i64 0, .bool false, .int .i64 0, .int .i64 0, .int .i64 0, .int .i64 0, .int .i64 0, .int .i64 0, .bool false, .int .i64 0, .int .i64 0, .int .i64 0, .int .i64 0, .int .i64 0, .int .i64 0, .bool false, .int .i64 0, .int .i64 0, .int .i64 0, .int .i64 0, .int .i64 0, .int .i64 0, .bool false, .int .i64 0, .int .i64 0, .int .i64 0, .int .i64 0, .int .i64 0, .int .i64 0, .bool false, .int .i64 0, .int .i64 0, .int .i64 0, .int .i64 0, .int .i64 0, .int .i64 0, .bool false, .int .i64 0, .int .i64 0, .int .i64 0, .int .i64 0, .int .i64 0, .int .i64 0, .bool false, .int .i64 0, .int .i64 0, .int .i64 0, .int .i64 0, .int .i64 0, .int .i64 0, .int .i64 0, .int .i64 0, .int .i64 0, .int .i64 0, .int .i64 0, .slice (some ⟨w.heap.size, 0, none⟩) 1 1, .slice none 0 0, .slice none 0 0], .int .i64 4, .int .i64 1] w1 fun e w' => ∃ vm vs vo, e = .returned (.tuple #[.agg (mcs zeroR zeroK vm vs vo), .int .i64 1, .int .i64 0]) ∧ Own w' w1.heap.size 42 vm [zeroV] ∧ Own w' w1.heap.size 114 vs (List.map (swF 4 1) []) ∧ Own w' w1.heap.size 3 vo [] ∧ Below w1.heap.size w1 w' := sp1
  have sp2' : ∀ W, Calls Try.prog 32 #[.agg #[.bool false, .int .i64 0, .int .i64 0, .int .i64 0, .int .i64 0, .int .i64 0, .int .i64 0, .bool false, .int .i64 0, .int .i64 0, .int .i64 0, .int .i64 0, .int .i64 0, .int .i64 0, .bool false, .int .i64 0, .int .i64 0, .int .i64 0, .int .i64 0, .int .i64 0, .int .i64 0, .bool false, .int .i64 0, .int .i64 0, .int .i64 0, .int .i64 0, .int .i64 0, .int .i64 0, .bool false, .int .i64 0, .int .i64 0, .int .i64 0, .int .i64 0, .int .i64 0, .int .i64 0, .bool false, .int .i64 0, .int .i64 0, .int .i64 0, .int .i64 0, .int .i64 0, .int .i64 0, .bool false, .int .i64 0, .int .i64 0, .int .i64 0, .int .i64 0, .int .i64 0, .int .i64 0, .bool false, .int .i64 0, .int .i64 0, .int .i64 0, .int .i64 0, .int .i64 0, .int .i64 0, .int .i64 0, .int .i64 0, .int .i64 0, .int .i64 0, .int .i64 0, .slice none 0 0, .slice none 0 0, .slice none 0 0], .int .i64 (-1), .int .i64 0] W fun e w' => ∃ vm vs vo, e = .returned (.tuple #[.agg (mcs zeroR zeroK vm vs vo), .int .i64 0, .int .i64 1]) ∧ Own w' W.heap.size 42 vm [] ∧ Own w' W.heap.size 114 vs [] ∧ Own w' W.heap.size 3 vo [] ∧ Below W.heap.size W w' := sp2
  have q := fun W => run_eql_val zeroV zeroV W
  simp only [decide_true, zeroV, zeroK, ValV.val] at q
  have SP1 := Lib.hid sp1'
  have SP2 := Lib.hid sp2'
  have HW1 := Lib.hid hw1
  have H1W := Lib.hid h1w
  clear sp1 sp2 sp1' sp2' z1 z2 z3 z4 hs1 hw1 h1w
  go_enter Try.func28, Try.ntmps28
  go_upto_region 3 with (first
    | (go_at_call 32; (rw [← HW1.out]; (with_reducible refine SP1.out.mono ?_); rintro e w2 ⟨vm, vs, vo, rfl, om, os, oo, hb2⟩; obtain ⟨ao, c, rfl, hsl, _⟩ := om.sl; have HO := Lib.hid (mcs_one (R := zeroR) (c := zeroK) (ownsOne om) (ownsOne os) (ownsOne oo)); have HSL := Lib.hid hsl; have HB2 := Lib.hid hb2; clear om os oo hb2 hsl))
    | (go_at_call 32; ((with_reducible refine (SP2.out _).mono ?_); rintro e w3 ⟨vm', vs', vo', rfl, om, os, oo, hb3⟩; have HO3 := Lib.hid (mcs_one (R := zeroR) (c := zeroK) (ownsOne om) (ownsOne os) (ownsOne oo)); have HB3 := Lib.hid hb3; clear om os oo hb3))
    | (refine wpList_store_fresh rfl 63 (.tmp 1) (.tmp 13) rfl rfl (mcs zeroR zeroK (.slice ao ([zeroV] : List ValV).length c) vs vo) 63 _ rfl rfl (by rw [mcs_size rfl]; kernel_rfl) (by rw [mcs_size rfl]; kernel_rfl) HO.out ?_)
    | (refine wpList_store_fresh rfl 63 (.tmp 4) (.tmp 19) rfl rfl (mcs zeroR zeroK vm' vs' vo') 63 _ rfl rfl (by rw [mcs_size rfl]; kernel_rfl) (by rw [mcs_size rfl]; kernel_rfl) HO3.out ?_))
  have kB := bk_keep HB3.out (bk_new w2 63 (mcs zeroR zeroK (.slice ao ([zeroV] : List ValV).length c) vs vo))
  have c61 := (kB.cell 61).trans (mcs_hi rfl 5)
  simp only [List.getElem?_cons_succ, List.getElem?_cons_zero] at c61
  have kL := kB.lt
  have hsl3 := (HSL.out.alloc (.cells (mcs zeroR zeroK (.slice ao ([zeroV] : List ValV).length c) vs vo) 63)).below HB3.out
  obtain ⟨ad, rfl, hab, e0, e1, e2, e3, e4, e5, e6⟩ := sl_valg hsl3 (show 0 < 1 by decide) (show ([zeroV] : List ValV)[0]? = some zeroV from rfl)
  have ez : ad.add 0 = ad := rfl
  simp only [Nat.zero_mul, ez, zeroV, zeroK] at hab e0 e1 e2 e3 e4 e5 e6
  clear kB hsl3
  go_wp2
  go_ret
  exact ⟨rfl, ext_alloc (ext_trans (ext_alloc (ext_trans H1W.out HB2.out) _) HB3.out) _⟩
end Go.Proofs.Ytmmmmeeepieemaa
