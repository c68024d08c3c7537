/- Machines in memory: their cells, and loads of parts of a block. -/
import Derived.Test.YtcdcmbehnccicaaEqual
import Derived.Test.YtcdcmbehnccicaaInts
import Derived.Test.YtcdcmbehnccicaaMemMath
import Derived.Laws.Rows
import Derived.Great.BuildSlice
import Derived.ChangeKeysEq
namespace Go.Proofs.Ytcdcmbehnccicaa
open El (cl)
open Go.RowKit
set_option linter.unusedVariables false
set_option linter.unusedSimpArgs false
/-- The cells of a machine. -/
def mcs (R : List ValV) (c : KeyV) (ms ss os : Value) : Array Value :=
  (cls R ++ [.int .i64 c.perm, .int .i64 c.base, .int .i64 c.len, .int .i64 c.at_, .int .i64 c.seal_, ms, ss, os]).toArray
section
variable {R : List ValV} {c : KeyV} {ms ss os : Value}
theorem regs_cells (h : R.length = 8) : (cls R).length = 56 := by rw [cls_length, h]; rfl
theorem mcs_size (h : R.length = 8) : (mcs R c ms ss os).size = 64 := by
  unfold mcs
  rw [List.size_toArray, List.length_append, regs_cells h]
  rfl
theorem mcs_hi (h : R.length = 8) (j : Nat) : (mcs R c ms ss os)[56 + j]? = ([.int .i64 c.perm, .int .i64 c.base, .int .i64 c.len, .int .i64 c.at_, .int .i64 c.seal_, ms, ss, os] : List Value)[j]? := by
  unfold mcs
  rw [List.getElem?_toArray, List.getElem?_append_right (by rw [regs_cells h]; omega), regs_cells h, Nat.add_sub_cancel_left]
theorem mcs_lo (h : R.length = 8) {i : Nat} (hi : i < 56) : (mcs R c ms ss os)[i]? = (cls R)[i]? := by
  unfold mcs
  rw [List.getElem?_toArray, List.getElem?_append_left (by rw [regs_cells h]; omega)]
theorem mcs_regs (h : R.length = 8) : (mcs R c ms ss os).extract 0 56 = (cls R).toArray := by
  unfold mcs
  rw [List.extract_toArray, List.extract_eq_take_drop, List.drop_zero, Nat.sub_zero, List.take_append_of_le_length (by rw [regs_cells h]; omega), List.take_of_length_le (by rw [regs_cells h]; omega)]
theorem mcs_code (h : R.length = 8) : (mcs R c ms ss os).extract 56 61 = #[.int .i64 c.perm, .int .i64 c.base, .int .i64 c.len, .int .i64 c.at_, .int .i64 c.seal_] := by
  unfold mcs
  rw [List.extract_toArray, List.extract_eq_take_drop, List.drop_append, regs_cells h, List.drop_of_length_le (by rw [regs_cells h]; omega)]
  rfl
end
/-- One element of a row of cells. -/
theorem cls_part {α : Type} [El α] (xs : List α) {i : Nat} {x : α} (hx : xs[i]? = some x) : (cls xs).toArray.extract (i * El.k α) (i * El.k α + El.k α) = (cl x).toArray := by
  have hi : i < xs.length := (List.getElem?_eq_some_iff.1 hx).1
  rw [List.extract_toArray, List.extract_eq_take_drop, Nat.add_sub_cancel_left, ← cls_drop, List.drop_eq_getElem_cons hi, (List.getElem?_eq_some_iff.1 hx).2, cls_cons, List.take_append_of_le_length (by rw [El.len]; exact Nat.le_refl _), List.take_of_length_le (by rw [El.len]; exact Nat.le_refl _)]
section
variable {P : Program}
/-- A part of a block, loaded whole. -/
theorem run_loadVar_sub (w : World) (g off : Nat) (t ty : TypeId) (cs : Array Value) (fr : Nat × Nat) (d : TypeDesc) (k : Nat) (hg : w.heap[g]? = some (.cells cs t fr))
    (hu : P.underlying ty = some d) (hd : (match d with | .struct _ | .array _ _ => true | _ => false) = true) (hi : (P.info? ty).map (·.size) = some k) (hk : off + k ≤ cs.size) :
    (loadVar ty ⟨g, off, none⟩).run P w = .ok (.agg (cs.extract off (off + k))) w := by
  have hlen : (cs.extract off (off + k)).toList.length = k := by simp; omega
  have hl : (loadCells ⟨g, off, none⟩ (cs.extract off (off + k)).toList.length).run P w = .ok (cs.extract off (off + k)).toList.toArray w :=
    run_loadCells_list (P := P) w ⟨g, off, none⟩ (cs.extract off (off + k)).toList (fun j v hv => by
      have hadd : (⟨g, off, none⟩ : Addr).add j = ⟨g, off + j, none⟩ := by
        unfold Addr.add; split
        · next h => subst h; rfl
        · rfl
      rw [hadd, cell_of_row w g (off + j) cs t fr hg]
      have hj : j < k := by have := (List.getElem?_eq_some_iff.1 hv).1; omega
      rw [Array.getElem?_toList, Array.getElem?_extract] at hv
      rw [if_pos (by omega)] at hv
      exact hv)
  rw [hlen] at hl
  cases hq : P.info? ty with
  | none => simp [hq] at hi
  | some i =>
    have hs : i.size = k := by simpa [hq] using hi
    have hagg : (isAgg ty).run P w = .ok true w := by
      unfold isAgg
      rw [Sem.run_bind, run_underlying hu w]
      cases d <;> simp_all
    simp only [Array.toArray_toList] at hl
    simp [loadVar, Sem.run_bind, hagg, sizeOf, typeInfo, hq, hs, hl]
theorem wp_load_sub {o : Oper} {a : Act} {w : World} {K : Act → World → Prop} {Q : Exit → Act → World → Prop} (ty : TypeId) (x : Operand) (ho : o.op = .load ty x)
    (g off k : Nat) (hx : a.eval x = .pointer (some ⟨g, off, none⟩)) (t : TypeId) (cs : Array Value) (d : TypeDesc) (hg : w.heap[g]? = some (.cells cs t (0, 0)))
    (hu : P.underlying ty = some d) (hd : (match d with | .struct _ | .array _ _ => true | _ => false) = true) (hi : (P.info? ty).map (·.size) = some k) (hk : off + k ≤ cs.size)
    (h : K (a.put o.dst (.agg (cs.extract off (off + k)))) w) : o.wp P a w K Q := by
  unfold Oper.wp execOp
  simp only [ho, hx, Instr.loadAt, Instr.sureAddr, Sem.run_bind, Sem.run_pure, Result.andThen_ok, run_loadVar_sub w g off t ty cs _ d k hg hu hd hi hk]
  exact h
theorem wpList_load_sub {ops : Array Oper} {rest : List Oper} {o : Oper} {a : Act} {w : World} {Q : Exit → Act → World → Prop} (hgd : o.guard = none) (ty : TypeId) (x : Operand) (ho : o.op = .load ty x)
    (g off k : Nat) (hx : a.eval x = .pointer (some ⟨g, off, none⟩)) (t : TypeId) (cs : Array Value) (d : TypeDesc) (hg : w.heap[g]? = some (.cells cs t (0, 0)))
    (hu : P.underlying ty = some d) (hd : (match d with | .struct _ | .array _ _ => true | _ => false) = true) (hi : (P.info? ty).map (·.size) = some k) (hk : off + k ≤ cs.size) (u : Array Value) (he : cs.extract off (off + k) = u)
    (h : wpList P ops Q rest (a.put o.dst (.agg u)) w) : wpList P ops Q (o :: rest) a w :=
  wpList_plain hgd fun _ hK => wp_load_sub ty x ho g off k hx t cs d hg hu hd hi hk (hK _ _ (he ▸ h))
end
theorem run_index_regs (R : List ValV) (h8 : R.length = 8) {k : Nat} {x : ValV} (hx : R[k]? = some x) (w : World) : (Instr.index 26 (.agg (cls R).toArray) (.int .i64 k)).run Try.prog w = .ok x.val w := by
  have hk : k < R.length := (List.getElem?_eq_some_iff.1 hx).1
  have hp := cls_part R hx
  have e7 : El.k ValV = 7 := rfl
  rw [e7] at hp
  have hk8 : (k : Int) < 8 := by omega
  have hk0 : (0 : Int) ≤ k := by omega
  unfold Instr.index
  simp only [asIntOf, Sem.run_bind, Sem.run_pure, Result.andThen_ok, run_underlying Try.underlying26]
  rw [if_pos ⟨hk0, hk8⟩]
  have hs : (sizeOf 25).run Try.prog w = .ok 7 w := by kernel_rfl
  have ha : (isAgg 25).run Try.prog w = .ok true w := by kernel_rfl
  simp only [Sem.run_bind, hs, Result.andThen_ok, part, ha, if_true, Sem.run_pure, Int.toNat_natCast, hp]
  rfl
theorem eqIn_valV (d : Nat) (x y : ValV) (w : World) : (Op.equalIn (d + 3) 25 x.val y.val).run Try.prog w = .ok (decide (x = y)) w := eqIn_val d _ _ _ _ _ _ _ _ _ _ _ _ _ _ w
theorem part_regs (R : List ValV) {k : Nat} {x : ValV} (hx : R[k]? = some x) (w : World) : (part 25 (cls R).toArray (k * 7)).run Try.prog w = .ok x.val w := by
  have hp := cls_part R hx
  have e7 : El.k ValV = 7 := rfl
  rw [e7] at hp
  have hs : (sizeOf 25).run Try.prog w = .ok 7 w := by kernel_rfl
  have ha : (isAgg 25).run Try.prog w = .ok true w := by kernel_rfl
  simp only [part, Sem.run_bind, hs, ha, Result.andThen_ok, if_true, Sem.run_pure, hp]
  rfl
theorem run_items_regs (R Q : List ValV) (w : World) (hl : R.length = Q.length) : ∀ (n j : Nat), j + n = R.length → (Op.eqItems 9999 25 7 (cls R).toArray (cls Q).toArray (List.range' j n)).run Try.prog w = .ok (decide (R.drop j = Q.drop j)) w
  | 0, j, h => by
    rw [List.drop_of_length_le (by omega), List.drop_of_length_le (by omega)]
    simp [Op.eqItems]
  | n + 1, j, h => by
    have hj : j < R.length := by omega
    have hq : j < Q.length := by omega
    have h1 : R[j]? = some R[j] := List.getElem?_eq_getElem hj
    have h2 : Q[j]? = some Q[j] := List.getElem?_eq_getElem hq
    rw [List.range'_succ, Op.eqItems]
    simp only [Sem.run_bind, part_regs R h1, part_regs Q h2, Result.andThen_ok, eqIn_valV 9996]
    rw [List.drop_eq_getElem_cons hj, List.drop_eq_getElem_cons hq]
    by_cases he : R[j] = Q[j]
    · have ih := run_items_regs R Q w hl n (j + 1) (by omega)
      simp only [he, decide_true, Bool.not_true, Bool.false_eq_true, if_false, List.cons.injEq, true_and]
      exact ih
    · have hne : ¬ (R[j] :: List.drop (j + 1) R = Q[j] :: List.drop (j + 1) Q) := fun e => he (List.cons.inj e).1
      simp only [hne, he, decide_false, Bool.not_false, if_true, Sem.run_pure]
theorem run_eql_regs (R Q : List ValV) (h8 : R.length = 8) (hl : Q.length = 8) (w : World) : (binOp .eql 26 (.agg (cls R).toArray) (.agg (cls Q).toArray)).run Try.prog w = .ok (.bool (decide (R = Q))) w := by
  rw [run_eql_struct]
  have hsome : (Try.prog.info? 25).isSome = true := by kernel_rfl
  obtain ⟨i, hi⟩ := Option.isSome_iff_exists.1 hsome
  rw [run_equalIn_array w 9999 _ _ Try.underlying26 hi, show Try.prog.cellsOf 25 = 7 by kernel_rfl, List.range_eq_range', run_items_regs R Q w (by omega) 8 0 (by omega)]
  rfl
end Go.Proofs.Ytcdcmbehnccicaa
