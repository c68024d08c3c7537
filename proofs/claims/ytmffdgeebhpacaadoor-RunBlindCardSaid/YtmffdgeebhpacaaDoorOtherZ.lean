import Derived.Test.YtmffdgeebhpacaaDoorHasIntZ
import Derived.Test.YtmffdgeebhpacaaDoorMOwnZ
import Derived.Test.YtmffdgeebhpacaaDoorMachCopyZ
/- custodiankeep.seen: who may look; a machine's copy; a list mixed of two. -/
namespace Go.Proofs.YtmffdgeebhpacaaDoor
open Go.RowKit
set_option linter.unusedVariables false
set_option linter.unusedSimpArgs false
theorem run_neq_regs (R Q : List ValV) (h8 : R.length = 8) (hl : Q.length = 8) (w : World) : (binOp .neq 26 (.agg (cls R).toArray) (.agg (cls Q).toArray)).run Tryd.prog w = .ok (.bool (!decide (R = Q))) w := by
  rw [run_neq_struct]
  have hsome : (Tryd.prog.info? 25).isSome = true := by kernel_rfl
  obtain ⟨i, hi⟩ := Option.isSome_iff_exists.1 hsome
  rw [run_equalIn_array w 9999 _ _ Tryd.underlying26 hi, show Tryd.prog.cellsOf 25 = 7 by kernel_rfl, List.range_eq_range', run_items_regs R Q w (by omega) 8 0 (by omega)]
  rfl
theorem MBox.arg {g : Nat} {m : MV} {cs : Array Value} {W : World} (h : MBox g m cs W) : MBox W.heap.size m cs (W.alloc (.cells cs 31)) := by
  obtain ⟨ma, sa, oa, mc, sc, oc, e, h1, h2, h3⟩ := h.row
  exact ⟨h.h8, bk_new _ _ _, ma, sa, oa, mc, sc, oc, e, h1.alloc _, h2.alloc _, h3.alloc _⟩
/-- The first j of B, the rest of M. -/
def mixL {α : Type} (B M : List α) (j : Nat) : List α := B.take j ++ M.drop j
section
variable {α : Type} {B M : List α} {j : Nat}
theorem mix_len (h : B.length = M.length) (j : Nat) : (mixL B M j).length = M.length := by unfold mixL; simp; omega
theorem mix_zero : mixL B M 0 = M := by unfold mixL; simp
theorem mix_all (h : B.length = M.length) : mixL B M M.length = B := by unfold mixL; rw [List.drop_length, List.append_nil, List.take_of_length_le (by omega)]
theorem mix_at (h : B.length = M.length) {x : α} (hx : M[j]? = some x) : (mixL B M j)[j]? = some x := by
  have hj := (List.getElem?_eq_some_iff.1 hx).1
  unfold mixL
  rw [List.getElem?_append_right (by simp; omega), List.length_take, Nat.min_eq_left (by omega), Nat.sub_self, List.getElem?_drop, Nat.add_zero]
  exact hx
theorem mix_set (h : B.length = M.length) {y : α} (hy : B[j]? = some y) : (mixL B M j).set j y = mixL B M (j + 1) := by
  have hj := (List.getElem?_eq_some_iff.1 hy).1
  unfold mixL
  rw [List.set_append_right _ _ (by simp; omega), List.length_take, Nat.min_eq_left (by omega), Nat.sub_self, List.drop_eq_getElem_cons (by omega), List.set_cons_zero, List.take_add_one, hy, List.append_assoc]
  rfl
theorem mix_same (h : B.length = M.length) {y : α} (hy : B[j]? = some y) (hx : M[j]? = some y) : mixL B M (j + 1) = mixL B M j := by
  have hj := (List.getElem?_eq_some_iff.1 hy).1
  obtain ⟨h1, h2⟩ := List.getElem?_eq_some_iff.1 hx
  unfold mixL
  rw [List.take_add_one, hy, List.drop_eq_getElem_cons (i := j) (by omega), h2, List.append_assoc]
  rfl
end
theorem rcopy_own {g : Nat} {m : MV} {cs : Array Value} {W : World} (h : MBox g m cs W) (hok : m.Ok) :
    Calls Tryd.prog 25 #[.agg cs] W fun e w' => ∃ cs', e = .returned (.agg cs') ∧ MOwn W.heap.size m cs' w' ∧ Below W.heap.size W w' := by
  obtain ⟨ma, sa, oa, mc, sc, oc, rfl, h1, h2, h3⟩ := h.row
  have l1 := hok.1.len
  have l2 := hok.1.deep
  have l3 := hok.1.told
  refine (rcopy_any m.R m.c m.mem m.stk m.out ma sa oa mc sc oc W h.h8 h1 h2 h3 (by omega) (by omega) (by omega)).mono ?_
  rintro e w' ⟨vm, vs, vo, rfl, om, os, oo, hb⟩
  exact ⟨_, rfl, ⟨h.h8, vm, vs, vo, rfl, om, os, oo⟩, hb⟩
set_option maxHeartbeats 4000000 in
set_option maxRecDepth 100000 in
theorem seen_ok {g : Nat} {m : MV} {cs : Array Value} {W : World} (h : MBox g m cs W) (hok : m.Ok) {l : List Int} (hl : m.hits true 1 ++ m.hits true 4 = l) :
    Calls Tryd.prog 28 #[.agg cs] W fun e w' => ∃ ao k, e = .returned (.tuple #[.slice ao l.length k, .bool true]) ∧ Sl w' ao l.length l ∧ Below W.heap.size W w' := by
  have hb := h.arg
  have l400 := hok.1.len
  obtain ⟨w1, hw1⟩ : ∃ w1, w1 = W.alloc (.cells cs 31) := ⟨_, rfl⟩
  have h1w : Below W.heap.size W w1 := by rw [hw1]; exact ext_alloc (Below.refl _ _) _
  rw [← hw1] at hb
  have hc1 := fun W' (hb' : Below w1.heap.size w1 W') => cells_any (hb.below hb').mbr.toRow true 1 hok.1
  have hc4 := fun W' (hb' : Below w1.heap.size w1 W') => cells_any (hb.below hb').mbr.toRow true 4 hok.1
  have e1 : hitsL true m.mem (rootsP true m.R m.c m.stk) 1 0 m.mem.length = m.hits true 1 := rfl
  have e4 : hitsL true m.mem (rootsP true m.R m.c m.stk) 4 0 m.mem.length = m.hits true 4 := rfl
  rw [e1] at hc1
  rw [e4] at hc4
  have n1 : (m.hits true 1).length ≤ 400 := Nat.le_trans (hits_lenM _ _ _) l400
  have n4 : (m.hits true 4).length ≤ 400 := Nat.le_trans (hits_lenM _ _ _) l400
  generalize m.hits true 1 = la at *
  generalize m.hits true 4 = lb at *
  have hll : l.length = la.length + lb.length := by rw [← hl, List.length_append]
  obtain ⟨i0, hi, hz0, hz1, hz2⟩ := info_parts info_intR
  have hm1 : la.length + lb.length ≤ maxLen := by unfold maxLen; omega
  have hm2 : (la.length + lb.length) * 8 ≤ 140737488355328 := by omega
  have HC1 := Lib.hid hc1
  have HC4 := Lib.hid hc4
  have MX := Lib.hid hb
  have HW1 := Lib.hid hw1
  have H1W := Lib.hid h1w
  have HL := Lib.hid hl
  have HLL := Lib.hid hll
  have HM1 := Lib.hid hm1
  have HM2 := Lib.hid hm2
  clear h hc1 hc4 hb hw1 h1w hok hl hll hm1 hm2 e1 e4
  go_enter Tryd.func28, Tryd.ntmps28
  go_upto_region 1 with (fail)
  rw [← HW1.out]
  go_upto_region 2 with (first
    | (refine wpList_load_sub rfl 31 (.tmp 1) rfl W.heap.size 0 64 rfl 31 _ _ MX.out.bk Tryd.underlying31 rfl (by kernel_rfl) MX.out.size _ MX.out.all ?_)
    | (go_at_call 21; ((with_reducible refine (HC1.out _ (Below.refl _ _)).mono ?_); rintro e u1 ⟨v1, rfl, o1, hb⟩; have O1 := Lib.hid o1; have HB1 := Lib.hid hb; clear hb o1)))
  go_upto_region 3 with (first
    | (refine wpList_load_sub rfl 31 (.tmp 1) rfl W.heap.size 0 64 rfl 31 _ _ (MX.out.below HB1.out).bk Tryd.underlying31 rfl (by kernel_rfl) MX.out.size _ MX.out.all ?_)
    | (go_at_call 21; ((with_reducible refine (HC4.out _ HB1.out).mono ?_); rintro e u2 ⟨v2, rfl, o2, hb⟩; obtain ⟨a2, k2, rfl, s2, _⟩ := o2.sl; have S2 := Lib.hid s2; have HB2 := Lib.hid hb; clear hb o2 s2)))
  have hbs : w1.heap.size ≤ u2.heap.size := (ext_trans HB1.out HB2.out).size
  have HBS := Lib.hid hbs
  clear hbs
  go_wp2_with (at_builtin; go_loud (refine wpList_append_sl rfl (.tmp 18) (.tmp 19) 29 rfl w1.heap.size 3 i0 _ 8 Tryd.underlying29 hi hz0 hz1 hz2 rfl v1 la rfl (O1.out.below HB2.out) a2 lb.length k2 lb rfl S2.out HM1.out HM2.out HBS.out ?_); intro v3 w3 ho3 hg3 _; have HO3 := Lib.hid ho3; have HG3 := Lib.hid hg3; clear ho3 hg3; go_frame)
  go_ret2
  obtain ⟨a3, k3, rfl, s3, _⟩ := HO3.out.sl
  rw [HL.out] at s3
  have hb12 := ext_trans H1W.out (ext_trans HB1.out HB2.out)
  refine ⟨a3, k3, by rw [HL.out]; rfl, s3, hb12.grown HG3.out hb12.size (fun k e => ?_)⟩
  exact Nat.le_trans H1W.out.size (World.ownsRow.lt O1.out k e).1
end Go.Proofs.YtmffdgeebhpacaaDoor
