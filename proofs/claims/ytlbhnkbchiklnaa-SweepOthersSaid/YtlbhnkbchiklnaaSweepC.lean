/- sweep.Has; the closed fact of the laws on sweeping. -/
import Derived.Test.YtlbhnkbchiklnaaSweepB
import Derived.Test.YtlbhnkbchiklnaaMemEq
namespace Go.Proofs.Ytlbhnkbchiklnaa
open Go.RowKit
set_option linter.unusedVariables false
set_option linter.unusedSimpArgs false
theorem setRow_alloc (w : World) (T : TypeId) (old cells : Array Value) : (w.alloc (.cells old T)).setRow w.heap.size cells = w.alloc (.cells cells T) := by
  unfold World.setRow
  show World.mk .. = World.mk ..
  congr 1
  apply Array.ext_getElem?
  intro i
  show ((w.heap.push (.cells old T)).modify w.heap.size _)[i]? = (w.heap.push (.cells cells T))[i]?
  rw [Array.getElem?_modify, Array.getElem?_push, Array.getElem?_push]
  by_cases h : i = w.heap.size
  · subst h; simp
  · rw [if_neg h, if_neg h, if_neg (fun e => h e.symm)]
theorem wpList_store_fresh {P : Program} {ops : Array Oper} {rest : List Oper} {o : Oper} {a : Act} {w0 : World} {Q : Exit → Act → World → Prop} (hgd : o.guard = none) (ty : TypeId) (x y : Operand) (ho : o.op = .store ty x y)
    (hd : o.dst = none) (cells : Array Value) (t : TypeId) (old : Array Value) (hx : a.eval x = .pointer (some ⟨w0.heap.size, 0, none⟩)) (hy : a.eval y = .agg cells)
    (hi : (P.info? ty).map (·.size) = some cells.size) (hold : old.size = cells.size) (h1 : cells.all (·.oneCell') = true)
    (h : wpList P ops Q rest a (w0.alloc (.cells cells t))) : wpList P ops Q (o :: rest) a (w0.alloc (.cells old t)) :=
  wpList_store_rowTo hgd ty x y ho hd w0.heap.size cells hx hy t old (bk_new _ _ _) hi hold h1 (by rw [setRow_alloc]; exact h)
set_option maxHeartbeats 4000000 in
set_option maxRecDepth 100000 in
theorem has_ok (R : List ValV) (c : KeyV) (mem : List ValV) (stk : List FrameV) (out : List Int) (ma sa oa : Option Addr) (mc sc oc : Nat) (b n : Int) (w : World) (h8 : R.length = 8)
    (hm : Sl w ma mem.length mem) (hs : Sl w sa stk.length stk) (ho : Sl w oa out.length out) (hok : MOk R c mem stk out) (b0 : 0 ≤ b) (b1 : b ≤ 400) (n0 : 0 ≤ n) (n1 : n ≤ 400 - b) :
    Calls Try.prog 37 #[.agg (mcs R c (.slice ma mem.length mc) (.slice sa stk.length sc) (.slice oa out.length oc)), .int .i64 b, .int .i64 n] w fun e w' => e = .returned (.tuple #[.bool (decide (0 < swCount b n R c mem stk)), .int .i64 0]) ∧ Below w.heap.size w w' := by
  have hsz := mcs_size (c := c) (ms := .slice ma mem.length mc) (ss := .slice sa stk.length sc) (os := .slice oa out.length oc) h8
  have swp := fun W hb => sweep_ok R c mem stk out ma sa oa mc sc oc b n W h8 (hm.below hb) (hs.below hb) (ho.below hb) hok b0 b1 n0 n1
  unfold SwPost at swp
  have hsz2 := fun vm vs vo => mcs_size (R := R.map (swV b n)) (c := swK b n c) (ms := vm) (ss := vs) (os := vo) (by simpa using h8)
  have hone := fun (vm vs vo : Value) h1 h2 h3 => mcs_one (R := R.map (swV b n)) (c := swK b n c) (ms := vm) (ss := vs) (os := vo) h1 h2 h3
  generalize mcs R c (.slice ma mem.length mc) (.slice sa stk.length sc) (.slice oa out.length oc) = cs at *
  generalize swCount b n R c mem stk = ct at *
  have hex : cs.extract 0 (0 + 64) = cs := by rw [Array.extract_eq_self_of_le (by rw [hsz]; omega)]
  obtain ⟨w1, hw1⟩ : ∃ w1, w1 = w.alloc (.cells cs 52) := ⟨_, rfl⟩
  have hB : Bk w1 w.heap.size 52 cs := by rw [hw1]; exact bk_new _ _ _
  have h1w : Below w.heap.size w w1 := by rw [hw1]; exact ext_alloc (Below.refl _ _) _
  have SP := Lib.hid (swp w1 h1w)
  have HW1 := Lib.hid hw1
  have HSZ := Lib.hid hsz
  have HSZ2 := Lib.hid hsz2
  have HONE := Lib.hid hone
  have HEX := Lib.hid hex
  have HB := Lib.hid hB
  have H1W := Lib.hid h1w
  clear hsz hsz2 hone hex hB h1w hw1 hm hs ho h8 hok swp
  go_enter Try.func37, Try.ntmps37
  go_upto_region 1 with (fail)
  rw [← HW1.out]
  go_wp2_with (first
    | (refine wpList_load_sub rfl 52 (.tmp 3) rfl w.heap.size 0 64 rfl 52 _ _ HB.out Try.underlying52 rfl (by kernel_rfl) (by have := HSZ.out; omega) _ HEX.out ?_)
    | (go_at_call 30; ((with_reducible refine SP.out.mono ?_); rintro e w2 ⟨vm, vs, vo, rfl, om, os, oo, hb2⟩; have HO := Lib.hid (HONE.out vm vs vo (ownsOne om) (ownsOne os) (ownsOne oo)); have HB2 := Lib.hid hb2; clear om os oo hb2))
    | (refine wpList_store_fresh rfl 52 (.tmp 8) (.tmp 16) rfl rfl (mcs (R.map (swV b n)) (swK b n c) vm vs vo) 52 _ rfl rfl (by rw [HSZ2.out]; kernel_rfl) (by rw [HSZ2.out]; kernel_rfl) HO.out ?_))
  go_ret2
  exact ⟨rfl, ext_alloc (ext_trans H1W.out HB2.out) _⟩
theorem swept_ok1 : MOk zeroR zeroK [⟨true, 0, ⟨0, 3, 2, 0, 0⟩⟩] [] [] := stepCheck_zero.1 (by decide +kernel)
theorem zero_ok : stepCheck zeroR zeroK [] [] [] = 0 := by decide +kernel
set_option maxHeartbeats 4000000 in
set_option maxRecDepth 100000 in
theorem swept_any (w : World) : Calls Try.prog 31 #[] w fun e w' => e = .returned (.bool true) ∧ Below w.heap.size w w' := by
  obtain ⟨w1, hw1⟩ : ∃ w1, w1 = w.alloc (.cells #[.bool true, .int .i64 0, .int .i64 0, .int .i64 3, .int .i64 2, .int .i64 0, .int .i64 0] 26) := ⟨_, rfl⟩
  have h1w : Below w.heap.size w w1 := by rw [hw1]; exact ext_alloc (Below.refl _ _) _
  have hs1 : Sl w1 (some ⟨w.heap.size, 0, none⟩) 1 [(⟨true, 0, ⟨0, 3, 2, 0, 0⟩⟩ : ValV)] := by
    rw [hw1]
    have h0 := own_lit (xs := [(⟨true, 0, ⟨0, 3, 2, 0, 0⟩⟩ : ValV)]) w 26 0 (Nat.zero_le _) #[.bool true, .int .i64 0, .int .i64 0, .int .i64 3, .int .i64 2, .int .i64 0, .int .i64 0] 1 rfl (by decide) rfl
    obtain ⟨ao, c, e, h, _⟩ := h0.sl
    injection e with e _ _
    subst e
    simpa using h
  have sp1 := sweep_ok zeroR zeroK [⟨true, 0, ⟨0, 3, 2, 0, 0⟩⟩] [] [] (some ⟨w.heap.size, 0, none⟩) none none 1 0 0 4 1 w1 rfl hs1 (Sl.nil _ _) (Sl.nil _ _) swept_ok1 (by decide) (by decide) (by decide) (by decide)
  have sp2 := fun W => sweep_bad zeroR zeroK [] [] [] none none none 0 0 0 (-1) 0 W rfl (Sl.nil _ _) (Sl.nil _ _) (Sl.nil _ _) zero_ok (by decide) (by constructor <;> decide) (by constructor <;> decide)
  have z1 : swCount 4 1 zeroR zeroK [⟨true, 0, ⟨0, 3, 2, 0, 0⟩⟩] [] = 1 := by decide +kernel
  have z2 : List.map (swV 4 1) [(⟨true, 0, ⟨0, 3, 2, 0, 0⟩⟩ : ValV)] = [zeroV] := by decide +kernel
  have z3 : zeroR.map (swV 4 1) = zeroR := by decide +kernel
  have z4 : swK 4 1 zeroK = zeroK := by decide +kernel
  rw [z1, z2, z3, z4] at sp1
  unfold SwPost at sp1 sp2
  have sp1' : Calls Try.prog 30 #[.agg #[.bool false, .int .i64 0, .int .i64 0, .int .i64 0, .int .i64 0, .int .i64 0, .int .i64 0, .bool false, .int .i64 0, .int .i64 0, .int .i64 0, .int .i64 0, .int .i64 0, .int .i64 0, .bool false, .int .i64 0, .int .i64 0, .int .i64 0, .int .i64 0, .int .i64 0, .int .i64 0, .bool false, .int .i64 0, .int .i64 0, .int .i64 0, .int .i64 0, .int .i64 0, .int .i64 0, .bool false, .int .i64 0, .int .i64 0, .int .i64 0, .int .i64 0, .int .i64 0, .int .i64 0, .bool false, .int .i64 0, .int .i64 0, .int .i64 0, .int .i64 0, .int .i64 0, .int .i64 0, .bool false, .int .i64 0, .int .i64 0, .int .i64 0, .int .i64 0, .int .i64 0, .int .i64 0, .bool false, .int .i64 0, .int .i64 0, .int .i64 0, .int .i64 0, .int .i64 0, .int .i64 0, .int .i64 0, .int .i64 0, .int .i64 0, .int .i64 0, .int .i64 0, .slice (some ⟨w.heap.size, 0, none⟩) 1 1, .slice none 0 0, .slice none 0 0], .int .i64 4, .int .i64 1] w1 fun e w' => ∃ vm vs vo, e = .returned (.tuple #[.agg (mcs zeroR zeroK vm vs vo), .int .i64 1, .int .i64 0]) ∧ Own w' w1.heap.size 26 vm [zeroV] ∧ Own w' w1.heap.size 59 vs (List.map (swF 4 1) []) ∧ Own w' w1.heap.size 3 vo [] ∧ Below w1.heap.size w1 w' := sp1
  have sp2' : ∀ W, Calls Try.prog 30 #[.agg #[.bool false, .int .i64 0, .int .i64 0, .int .i64 0, .int .i64 0, .int .i64 0, .int .i64 0, .bool false, .int .i64 0, .int .i64 0, .int .i64 0, .int .i64 0, .int .i64 0, .int .i64 0, .bool false, .int .i64 0, .int .i64 0, .int .i64 0, .int .i64 0, .int .i64 0, .int .i64 0, .bool false, .int .i64 0, .int .i64 0, .int .i64 0, .int .i64 0, .int .i64 0, .int .i64 0, .bool false, .int .i64 0, .int .i64 0, .int .i64 0, .int .i64 0, .int .i64 0, .int .i64 0, .bool false, .int .i64 0, .int .i64 0, .int .i64 0, .int .i64 0, .int .i64 0, .int .i64 0, .bool false, .int .i64 0, .int .i64 0, .int .i64 0, .int .i64 0, .int .i64 0, .int .i64 0, .bool false, .int .i64 0, .int .i64 0, .int .i64 0, .int .i64 0, .int .i64 0, .int .i64 0, .int .i64 0, .int .i64 0, .int .i64 0, .int .i64 0, .int .i64 0, .slice none 0 0, .slice none 0 0, .slice none 0 0], .int .i64 (-1), .int .i64 0] W fun e w' => ∃ vm vs vo, e = .returned (.tuple #[.agg (mcs zeroR zeroK vm vs vo), .int .i64 0, .int .i64 1]) ∧ Own w' W.heap.size 26 vm [] ∧ Own w' W.heap.size 59 vs [] ∧ Own w' W.heap.size 3 vo [] ∧ Below W.heap.size W w' := sp2
  have q := fun W => run_eql_val zeroV zeroV W
  simp only [decide_true, zeroV, zeroK, ValV.val] at q
  have SP1 := Lib.hid sp1'
  have SP2 := Lib.hid sp2'
  have HW1 := Lib.hid hw1
  have H1W := Lib.hid h1w
  clear sp1 sp2 sp1' sp2' z1 z2 z3 z4 hs1 hw1 h1w
  go_enter Try.func31, Try.ntmps31
  go_upto_region 3 with (first
    | (go_at_call 30; (rw [← HW1.out]; (with_reducible refine SP1.out.mono ?_); rintro e w2 ⟨vm, vs, vo, rfl, om, os, oo, hb2⟩; obtain ⟨ao, c, rfl, hsl, _⟩ := om.sl; have HO := Lib.hid (mcs_one (R := zeroR) (c := zeroK) (ownsOne om) (ownsOne os) (ownsOne oo)); have HSL := Lib.hid hsl; have HB2 := Lib.hid hb2; clear om os oo hb2 hsl))
    | (go_at_call 30; ((with_reducible refine (SP2.out _).mono ?_); rintro e w3 ⟨vm', vs', vo', rfl, om, os, oo, hb3⟩; have HO3 := Lib.hid (mcs_one (R := zeroR) (c := zeroK) (ownsOne om) (ownsOne os) (ownsOne oo)); have HB3 := Lib.hid hb3; clear om os oo hb3))
    | (refine wpList_store_fresh rfl 52 (.tmp 1) (.tmp 13) rfl rfl (mcs zeroR zeroK (.slice ao ([zeroV] : List ValV).length c) vs vo) 52 _ rfl rfl (by rw [mcs_size rfl]; kernel_rfl) (by rw [mcs_size rfl]; kernel_rfl) HO.out ?_)
    | (refine wpList_store_fresh rfl 52 (.tmp 4) (.tmp 19) rfl rfl (mcs zeroR zeroK vm' vs' vo') 52 _ rfl rfl (by rw [mcs_size rfl]; kernel_rfl) (by rw [mcs_size rfl]; kernel_rfl) HO3.out ?_))
  have kB := bk_keep HB3.out (bk_new w2 52 (mcs zeroR zeroK (.slice ao ([zeroV] : List ValV).length c) vs vo))
  have c61 := (kB.cell 61).trans (mcs_hi rfl 5)
  simp only [List.getElem?_cons_succ, List.getElem?_cons_zero] at c61
  have kL := kB.lt
  have hsl3 := (HSL.out.alloc (.cells (mcs zeroR zeroK (.slice ao ([zeroV] : List ValV).length c) vs vo) 52)).below HB3.out
  obtain ⟨ad, rfl, hab, e0, e1, e2, e3, e4, e5, e6⟩ := sl_valg hsl3 (show 0 < 1 by decide) (show ([zeroV] : List ValV)[0]? = some zeroV from rfl)
  have ez : ad.add 0 = ad := rfl
  simp only [Nat.zero_mul, ez, zeroV, zeroK] at hab e0 e1 e2 e3 e4 e5 e6
  clear kB hsl3
  go_wp2
  go_ret
  exact ⟨rfl, ext_alloc (ext_trans (ext_alloc (ext_trans H1W.out HB2.out) _) HB3.out) _⟩
end Go.Proofs.Ytlbhnkbchiklnaa
