import Derived.Test.YtmffdgeebhpacaaDoorMOwnZ
import Derived.Test.YtmffdgeebhpacaaDoorMachCopyZ
/- A list mixed of two; a machine's copy at a box; registers compared. -/
namespace Go.Proofs.YtmffdgeebhpacaaDoor
open Go.RowKit
set_option linter.unusedVariables false
set_option linter.unusedSimpArgs false
theorem run_neq_regs (R Q : List ValV) (h8 : R.length = 8) (hl : Q.length = 8) (w : World) : (binOp .neq 26 (.agg (cls R).toArray) (.agg (cls Q).toArray)).run Tryd.prog w = .ok (.bool (!decide (R = Q))) w := by
  rw [run_neq_struct]
  have hsome : (Tryd.prog.info? 25).isSome = true := by kernel_rfl
  obtain ⟨i, hi⟩ := Option.isSome_iff_exists.1 hsome
  rw [run_equalIn_array w 9999 _ _ Tryd.underlying26 hi, show Tryd.prog.cellsOf 25 = 7 by kernel_rfl, List.range_eq_range', run_items_regs R Q w (by omega) 8 0 (by omega)]
  rfl
theorem MBox.arg {g : Nat} {m : MV} {cs : Array Value} {W : World} (h : MBox g m cs W) : MBox W.heap.size m cs (W.alloc (.cells cs 31)) := by
  obtain ⟨ma, sa, oa, mc, sc, oc, e, h1, h2, h3⟩ := h.row
  exact ⟨h.h8, bk_new _ _ _, ma, sa, oa, mc, sc, oc, e, h1.alloc _, h2.alloc _, h3.alloc _⟩
/-- The first j of B, the rest of M. -/
def mixL {α : Type} (B M : List α) (j : Nat) : List α := B.take j ++ M.drop j
section
variable {α : Type} {B M : List α} {j : Nat}
theorem mix_len (h : B.length = M.length) (j : Nat) : (mixL B M j).length = M.length := by unfold mixL; simp; omega
theorem mix_zero : mixL B M 0 = M := by unfold mixL; simp
theorem mix_all (h : B.length = M.length) : mixL B M M.length = B := by unfold mixL; rw [List.drop_length, List.append_nil, List.take_of_length_le (by omega)]
theorem mix_at (h : B.length = M.length) {x : α} (hx : M[j]? = some x) : (mixL B M j)[j]? = some x := by
  have hj := (List.getElem?_eq_some_iff.1 hx).1
  unfold mixL
  rw [List.getElem?_append_right (by simp; omega), List.length_take, Nat.min_eq_left (by omega), Nat.sub_self, List.getElem?_drop, Nat.add_zero]
  exact hx
theorem mix_set (h : B.length = M.length) {y : α} (hy : B[j]? = some y) : (mixL B M j).set j y = mixL B M (j + 1) := by
  have hj := (List.getElem?_eq_some_iff.1 hy).1
  unfold mixL
  rw [List.set_append_right _ _ (by simp; omega), List.length_take, Nat.min_eq_left (by omega), Nat.sub_self, List.drop_eq_getElem_cons (by omega), List.set_cons_zero, List.take_add_one, hy, List.append_assoc]
  rfl
theorem mix_same (h : B.length = M.length) {y : α} (hy : B[j]? = some y) (hx : M[j]? = some y) : mixL B M (j + 1) = mixL B M j := by
  have hj := (List.getElem?_eq_some_iff.1 hy).1
  obtain ⟨h1, h2⟩ := List.getElem?_eq_some_iff.1 hx
  unfold mixL
  rw [List.take_add_one, hy, List.drop_eq_getElem_cons (i := j) (by omega), h2, List.append_assoc]
  rfl
end
theorem rcopy_own {g : Nat} {m : MV} {cs : Array Value} {W : World} (h : MBox g m cs W) (hok : m.Ok) :
    Calls Tryd.prog 25 #[.agg cs] W fun e w' => ∃ cs', e = .returned (.agg cs') ∧ MOwn W.heap.size m cs' w' ∧ Below W.heap.size W w' := by
  obtain ⟨ma, sa, oa, mc, sc, oc, rfl, h1, h2, h3⟩ := h.row
  have l1 := hok.1.len
  have l2 := hok.1.deep
  have l3 := hok.1.told
  refine (rcopy_any m.R m.c m.mem m.stk m.out ma sa oa mc sc oc W h.h8 h1 h2 h3 (by omega) (by omega) (by omega)).mono ?_
  rintro e w' ⟨vm, vs, vo, rfl, om, os, oo, hb⟩
  exact ⟨_, rfl, ⟨h.h8, vm, vs, vo, rfl, om, os, oo⟩, hb⟩
end Go.Proofs.YtmffdgeebhpacaaDoor
