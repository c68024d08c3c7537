import Derived.BigQuiet
import Derived.ChangeKeysEq
import Derived.Deep.QuietTactic
import Derived.Great.BuildSlice
import Derived.Laws.Rows
import Derived.Laws.StructEq
import Derived.Test.YtpjhjefjbkjhkaaGreatDoorBuA
import Derived.Test.YtpjhjefjbkjhkaaGreatDoorBuC
import Derived.Test.YtpjhjefjbkjhkaaGreatDoorRows
import Derived.WalkKit
import Derived.WalkSpells
/- Comparisons of keys, values, frames and registers. -/
namespace Go.Proofs.YtpjhjefjbkjhkaaGreatDoor
open Go.RowKit
set_option linter.unusedVariables false
set_option linter.unusedSimpArgs false
theorem eqIn_key (d : Nat) (p b l a s p' b' l' a' s' : Int) (w : World) : (Op.equalIn (d + 2) 66 (.agg #[.int .i64 p, .int .i64 b, .int .i64 l, .int .i64 a, .int .i64 s]) (.agg #[.int .i64 p', .int .i64 b', .int .i64 l', .int .i64 a', .int .i64 s'])).run Tryz.prog w = .ok (decide ((⟨p, b, l, a, s⟩ : KeyV) = ⟨p', b', l', a', s'⟩)) w := by
  rw [run_equalIn_agg w _ _ _ _ (by kernel_rfl) (by kernel_rfl)]
  go_simp
  by_cases h0 : p = p'
  · subst h0
    by_cases h1 : b = b'
    · subst h1
      by_cases h2 : l = l'
      · subst h2
        by_cases h3 : a = a'
        · subst h3
          by_cases h4 : s = s'
          · subst h4
            simp
          · simp [h4]
        · simp [h3]
      · simp [h2]
    · simp [h1]
  · simp [h0]
theorem eqIn_val (d : Nat) (vi vi' : Bool) (vn vp vb vl va vs vn' vp' vb' vl' va' vs' : Int) (w : World) : (Op.equalIn (d + 3) 68 (.agg #[.bool vi, .int .i64 vn, .int .i64 vp, .int .i64 vb, .int .i64 vl, .int .i64 va, .int .i64 vs]) (.agg #[.bool vi', .int .i64 vn', .int .i64 vp', .int .i64 vb', .int .i64 vl', .int .i64 va', .int .i64 vs'])).run Tryz.prog w = .ok (decide ((⟨vi, vn, ⟨vp, vb, vl, va, vs⟩⟩ : ValV) = ⟨vi', vn', ⟨vp', vb', vl', va', vs'⟩⟩)) w := by
  rw [run_equalIn_agg w _ _ _ _ (by kernel_rfl) (by kernel_rfl)]
  have hk := fun W => eqIn_key d vp vb vl va vs vp' vb' vl' va' vs' W
  have hr : decide ((⟨vi, vn, ⟨vp, vb, vl, va, vs⟩⟩ : ValV) = ⟨vi', vn', ⟨vp', vb', vl', va', vs'⟩⟩) = (decide (vi = vi') && (decide (vn = vn') && decide ((⟨vp, vb, vl, va, vs⟩ : KeyV) = ⟨vp', vb', vl', va', vs'⟩))) := by
    rw [← Bool.decide_and, ← Bool.decide_and]; exact decide_eq_decide.2 (by rw [ValV.mk.injEq])
  rw [hr]
  clear hr
  generalize decide ((⟨vp, vb, vl, va, vs⟩ : KeyV) = ⟨vp', vb', vl', va', vs'⟩) = q at *
  go_simp
  cases q <;> by_cases h0 : vi = vi' <;> by_cases h1 : vn = vn' <;> simp [h0, h1]
theorem eqIn_frame (d : Nat) (vi vi' : Bool) (cp cb cl_ ca cs cp' cb' cl_' ca' cs' vn vp vb vl va vs vn' vp' vb' vl' va' vs' : Int) (w : World) : (Op.equalIn (d + 4) 193 (.agg #[.int .i64 cp, .int .i64 cb, .int .i64 cl_, .int .i64 ca, .int .i64 cs, .bool vi, .int .i64 vn, .int .i64 vp, .int .i64 vb, .int .i64 vl, .int .i64 va, .int .i64 vs]) (.agg #[.int .i64 cp', .int .i64 cb', .int .i64 cl_', .int .i64 ca', .int .i64 cs', .bool vi', .int .i64 vn', .int .i64 vp', .int .i64 vb', .int .i64 vl', .int .i64 va', .int .i64 vs'])).run Tryz.prog w = .ok (decide ((⟨⟨cp, cb, cl_, ca, cs⟩, ⟨vi, vn, ⟨vp, vb, vl, va, vs⟩⟩⟩ : FrameV) = ⟨⟨cp', cb', cl_', ca', cs'⟩, ⟨vi', vn', ⟨vp', vb', vl', va', vs'⟩⟩⟩)) w := by
  rw [run_equalIn_agg w _ _ _ _ (by kernel_rfl) (by kernel_rfl)]
  have hk := fun W => eqIn_key (d + 1) cp cb cl_ ca cs cp' cb' cl_' ca' cs' W
  have hv := fun W => eqIn_val d vi vi' vn vp vb vl va vs vn' vp' vb' vl' va' vs' W
  have hr : decide ((⟨⟨cp, cb, cl_, ca, cs⟩, ⟨vi, vn, ⟨vp, vb, vl, va, vs⟩⟩⟩ : FrameV) = ⟨⟨cp', cb', cl_', ca', cs'⟩, ⟨vi', vn', ⟨vp', vb', vl', va', vs'⟩⟩⟩) = (decide ((⟨cp, cb, cl_, ca, cs⟩ : KeyV) = ⟨cp', cb', cl_', ca', cs'⟩) && decide ((⟨vi, vn, ⟨vp, vb, vl, va, vs⟩⟩ : ValV) = ⟨vi', vn', ⟨vp', vb', vl', va', vs'⟩⟩)) := by
    rw [← Bool.decide_and]; exact decide_eq_decide.2 (by rw [FrameV.mk.injEq])
  rw [hr]
  clear hr
  generalize decide ((⟨vi, vn, ⟨vp, vb, vl, va, vs⟩⟩ : ValV) = ⟨vi', vn', ⟨vp', vb', vl', va', vs'⟩⟩) = q at *
  generalize decide ((⟨cp, cb, cl_, ca, cs⟩ : KeyV) = ⟨cp', cb', cl_', ca', cs'⟩) = r at *
  go_simp
  cases q <;> cases r <;> simp
theorem run_eql_key (x y : KeyV) (W : World) : (binOp .eql 66 x.val y.val).run Tryz.prog W = .ok (.bool (decide (x = y))) W := by
  simp only [KeyV.val]
  rw [run_eql_struct, eqIn_key 9998]
  rfl
theorem run_neq_key (x y : KeyV) (W : World) : (binOp .neq 66 x.val y.val).run Tryz.prog W = .ok (.bool (!decide (x = y))) W := by
  simp only [KeyV.val]
  rw [run_neq_struct, eqIn_key 9998]
  rfl
theorem run_neq_frame (x y : FrameV) (W : World) : (binOp .neq 193 x.val y.val).run Tryz.prog W = .ok (.bool (!decide (x = y))) W := by
  simp only [FrameV.val]
  rw [run_neq_struct, eqIn_frame 9996]
  rfl
end Go.Proofs.YtpjhjefjbkjhkaaGreatDoor
/- Machines in memory: their cells, and loads of parts of a block. -/
namespace Go.Proofs.YtpjhjefjbkjhkaaGreatDoor
open El (cl)
open Go.RowKit
set_option linter.unusedVariables false
set_option linter.unusedSimpArgs false
/-- The cells of a machine. -/
def mcs (R : List ValV) (c : KeyV) (ms ss os : Value) : Array Value :=
  (cls R ++ [.int .i64 c.perm, .int .i64 c.base, .int .i64 c.len, .int .i64 c.at_, .int .i64 c.seal_, ms, ss, os]).toArray
section
variable {R : List ValV} {c : KeyV} {ms ss os : Value}
theorem regs_cells (h : R.length = 8) : (cls R).length = 56 := by rw [cls_length, h]; rfl
theorem mcs_size (h : R.length = 8) : (mcs R c ms ss os).size = 64 := by
  unfold mcs
  rw [List.size_toArray, List.length_append, regs_cells h]
  rfl
theorem mcs_hi (h : R.length = 8) (j : Nat) : (mcs R c ms ss os)[56 + j]? = ([.int .i64 c.perm, .int .i64 c.base, .int .i64 c.len, .int .i64 c.at_, .int .i64 c.seal_, ms, ss, os] : List Value)[j]? := by
  unfold mcs
  rw [List.getElem?_toArray, List.getElem?_append_right (by rw [regs_cells h]; omega), regs_cells h, Nat.add_sub_cancel_left]
theorem mcs_lo (h : R.length = 8) {i : Nat} (hi : i < 56) : (mcs R c ms ss os)[i]? = (cls R)[i]? := by
  unfold mcs
  rw [List.getElem?_toArray, List.getElem?_append_left (by rw [regs_cells h]; omega)]
theorem mcs_regs (h : R.length = 8) : (mcs R c ms ss os).extract 0 56 = (cls R).toArray := by
  unfold mcs
  rw [List.extract_toArray, List.extract_eq_take_drop, List.drop_zero, Nat.sub_zero, List.take_append_of_le_length (by rw [regs_cells h]; omega), List.take_of_length_le (by rw [regs_cells h]; omega)]
theorem mcs_code (h : R.length = 8) : (mcs R c ms ss os).extract 56 61 = #[.int .i64 c.perm, .int .i64 c.base, .int .i64 c.len, .int .i64 c.at_, .int .i64 c.seal_] := by
  unfold mcs
  rw [List.extract_toArray, List.extract_eq_take_drop, List.drop_append, regs_cells h, List.drop_of_length_le (by rw [regs_cells h]; omega)]
  rfl
end
/-- One element of a row of cells. -/
theorem cls_part {α : Type} [El α] (xs : List α) {i : Nat} {x : α} (hx : xs[i]? = some x) : (cls xs).toArray.extract (i * El.k α) (i * El.k α + El.k α) = (cl x).toArray := by
  have hi : i < xs.length := (List.getElem?_eq_some_iff.1 hx).1
  rw [List.extract_toArray, List.extract_eq_take_drop, Nat.add_sub_cancel_left, ← cls_drop, List.drop_eq_getElem_cons hi, (List.getElem?_eq_some_iff.1 hx).2, cls_cons, List.take_append_of_le_length (by rw [El.len]; exact Nat.le_refl _), List.take_of_length_le (by rw [El.len]; exact Nat.le_refl _)]
section
variable {P : Program}
/-- A part of a block, loaded whole. -/
theorem run_loadVar_sub (w : World) (g off : Nat) (t ty : TypeId) (cs : Array Value) (fr : Nat × Nat) (d : TypeDesc) (k : Nat) (hg : w.heap[g]? = some (.cells cs t fr))
    (hu : P.underlying ty = some d) (hd : (match d with | .struct _ | .array _ _ => true | _ => false) = true) (hi : (P.info? ty).map (·.size) = some k) (hk : off + k ≤ cs.size) :
    (loadVar ty ⟨g, off, none⟩).run P w = .ok (.agg (cs.extract off (off + k))) w := by
  have hlen : (cs.extract off (off + k)).toList.length = k := by simp; omega
  have hl : (loadCells ⟨g, off, none⟩ (cs.extract off (off + k)).toList.length).run P w = .ok (cs.extract off (off + k)).toList.toArray w :=
    run_loadCells_list (P := P) w ⟨g, off, none⟩ (cs.extract off (off + k)).toList (fun j v hv => by
      have hadd : (⟨g, off, none⟩ : Addr).add j = ⟨g, off + j, none⟩ := by
        unfold Addr.add; split
        · next h => subst h; rfl
        · rfl
      rw [hadd, cell_of_row w g (off + j) cs t fr hg]
      have hj : j < k := by have := (List.getElem?_eq_some_iff.1 hv).1; omega
      rw [Array.getElem?_toList, Array.getElem?_extract] at hv
      rw [if_pos (by omega)] at hv
      exact hv)
  rw [hlen] at hl
  cases hq : P.info? ty with
  | none => simp [hq] at hi
  | some i =>
    have hs : i.size = k := by simpa [hq] using hi
    have hagg : (isAgg ty).run P w = .ok true w := by
      unfold isAgg
      rw [Sem.run_bind, run_underlying hu w]
      cases d <;> simp_all
    simp only [Array.toArray_toList] at hl
    simp [loadVar, Sem.run_bind, hagg, sizeOf, typeInfo, hq, hs, hl]
theorem wp_load_sub {o : Oper} {a : Act} {w : World} {K : Act → World → Prop} {Q : Exit → Act → World → Prop} (ty : TypeId) (x : Operand) (ho : o.op = .load ty x)
    (g off k : Nat) (hx : a.eval x = .pointer (some ⟨g, off, none⟩)) (t : TypeId) (cs : Array Value) (d : TypeDesc) (hg : w.heap[g]? = some (.cells cs t (0, 0)))
    (hu : P.underlying ty = some d) (hd : (match d with | .struct _ | .array _ _ => true | _ => false) = true) (hi : (P.info? ty).map (·.size) = some k) (hk : off + k ≤ cs.size)
    (h : K (a.put o.dst (.agg (cs.extract off (off + k)))) w) : o.wp P a w K Q := by
  unfold Oper.wp execOp
  simp only [ho, hx, Instr.loadAt, Instr.sureAddr, Sem.run_bind, Sem.run_pure, Result.andThen_ok, run_loadVar_sub w g off t ty cs _ d k hg hu hd hi hk]
  exact h
theorem wpList_load_sub {ops : Array Oper} {rest : List Oper} {o : Oper} {a : Act} {w : World} {Q : Exit → Act → World → Prop} (hgd : o.guard = none) (ty : TypeId) (x : Operand) (ho : o.op = .load ty x)
    (g off k : Nat) (hx : a.eval x = .pointer (some ⟨g, off, none⟩)) (t : TypeId) (cs : Array Value) (d : TypeDesc) (hg : w.heap[g]? = some (.cells cs t (0, 0)))
    (hu : P.underlying ty = some d) (hd : (match d with | .struct _ | .array _ _ => true | _ => false) = true) (hi : (P.info? ty).map (·.size) = some k) (hk : off + k ≤ cs.size) (u : Array Value) (he : cs.extract off (off + k) = u)
    (h : wpList P ops Q rest (a.put o.dst (.agg u)) w) : wpList P ops Q (o :: rest) a w :=
  wpList_plain hgd fun _ hK => wp_load_sub ty x ho g off k hx t cs d hg hu hd hi hk (hK _ _ (he ▸ h))
end
theorem run_index_regs (R : List ValV) (h8 : R.length = 8) {k : Nat} {x : ValV} (hx : R[k]? = some x) (w : World) : (Instr.index 69 (.agg (cls R).toArray) (.int .i64 k)).run Tryz.prog w = .ok x.val w := by
  have hk : k < R.length := (List.getElem?_eq_some_iff.1 hx).1
  have hp := cls_part R hx
  have e7 : El.k ValV = 7 := rfl
  rw [e7] at hp
  have hk8 : (k : Int) < 8 := by omega
  have hk0 : (0 : Int) ≤ k := by omega
  unfold Instr.index
  simp only [asIntOf, Sem.run_bind, Sem.run_pure, Result.andThen_ok, run_underlying Tryz.underlying69]
  rw [if_pos ⟨hk0, hk8⟩]
  have hs : (sizeOf 68).run Tryz.prog w = .ok 7 w := by kernel_rfl
  have ha : (isAgg 68).run Tryz.prog w = .ok true w := by kernel_rfl
  simp only [Sem.run_bind, hs, Result.andThen_ok, part, ha, if_true, Sem.run_pure, Int.toNat_natCast, hp]
  rfl
theorem eqIn_valV (d : Nat) (x y : ValV) (w : World) : (Op.equalIn (d + 3) 68 x.val y.val).run Tryz.prog w = .ok (decide (x = y)) w := eqIn_val d _ _ _ _ _ _ _ _ _ _ _ _ _ _ w
theorem part_regs (R : List ValV) {k : Nat} {x : ValV} (hx : R[k]? = some x) (w : World) : (part 68 (cls R).toArray (k * 7)).run Tryz.prog w = .ok x.val w := by
  have hp := cls_part R hx
  have e7 : El.k ValV = 7 := rfl
  rw [e7] at hp
  have hs : (sizeOf 68).run Tryz.prog w = .ok 7 w := by kernel_rfl
  have ha : (isAgg 68).run Tryz.prog w = .ok true w := by kernel_rfl
  simp only [part, Sem.run_bind, hs, ha, Result.andThen_ok, if_true, Sem.run_pure, hp]
  rfl
theorem run_items_regs (R Q : List ValV) (w : World) (hl : R.length = Q.length) : ∀ (n j : Nat), j + n = R.length → (Op.eqItems 9999 68 7 (cls R).toArray (cls Q).toArray (List.range' j n)).run Tryz.prog w = .ok (decide (R.drop j = Q.drop j)) w
  | 0, j, h => by
    rw [List.drop_of_length_le (by omega), List.drop_of_length_le (by omega)]
    simp [Op.eqItems]
  | n + 1, j, h => by
    have hj : j < R.length := by omega
    have hq : j < Q.length := by omega
    have h1 : R[j]? = some R[j] := List.getElem?_eq_getElem hj
    have h2 : Q[j]? = some Q[j] := List.getElem?_eq_getElem hq
    rw [List.range'_succ, Op.eqItems]
    simp only [Sem.run_bind, part_regs R h1, part_regs Q h2, Result.andThen_ok, eqIn_valV 9996]
    rw [List.drop_eq_getElem_cons hj, List.drop_eq_getElem_cons hq]
    by_cases he : R[j] = Q[j]
    · have ih := run_items_regs R Q w hl n (j + 1) (by omega)
      simp only [he, decide_true, Bool.not_true, Bool.false_eq_true, if_false, List.cons.injEq, true_and]
      exact ih
    · have hne : ¬ (R[j] :: List.drop (j + 1) R = Q[j] :: List.drop (j + 1) Q) := fun e => he (List.cons.inj e).1
      simp only [hne, he, decide_false, Bool.not_false, if_true, Sem.run_pure]
theorem run_eql_regs (R Q : List ValV) (h8 : R.length = 8) (hl : Q.length = 8) (w : World) : (binOp .eql 69 (.agg (cls R).toArray) (.agg (cls Q).toArray)).run Tryz.prog w = .ok (.bool (decide (R = Q))) w := by
  rw [run_eql_struct]
  have hsome : (Tryz.prog.info? 68).isSome = true := by kernel_rfl
  obtain ⟨i, hi⟩ := Option.isSome_iff_exists.1 hsome
  rw [run_equalIn_array w 9999 _ _ Tryz.underlying69 hi, show Tryz.prog.cellsOf 68 = 7 by kernel_rfl, List.range_eq_range', run_items_regs R Q w (by omega) 8 0 (by omega)]
  rfl
end Go.Proofs.YtpjhjefjbkjhkaaGreatDoor
/- What slices.Clone and the reference's Copy and Eq compute of frames and numbers. -/
namespace Go.Proofs.YtpjhjefjbkjhkaaGreatDoor
open Go.RowKit
set_option linter.unusedVariables false
set_option linter.unusedSimpArgs false
theorem info_frame : (Tryz.prog.info? 193).map (fun i => (i.zero, i.size, i.bytes)) = some (some (.agg #[.int .i64 0, .int .i64 0, .int .i64 0, .int .i64 0, .int .i64 0, .bool false, .int .i64 0, .int .i64 0, .int .i64 0, .int .i64 0, .int .i64 0, .int .i64 0]), 12, 96) := by kernel_rfl
theorem info_int : (Tryz.prog.info? 3).map (fun i => (i.zero, i.size, i.bytes)) = some (some (.int .i64 0), 1, 8) := by kernel_rfl
set_option maxHeartbeats 1000000 in
theorem clone_frame (ao : Option Addr) (n cap : Nat) (vs : List FrameV) (w : World) (h : Sl w ao n vs) (hn : n * 96 ≤ 140737488355328) :
    Calls Tryz.prog 95 #[.slice ao n cap] w (OwnPost w 193 vs) := by
  obtain ⟨i0, hi, hz0, hz1, hz2⟩ := info_parts info_frame
  have hl := h.len
  have hq : ∀ W, (binOp .eql 70 (.slice ao n cap) (.slice none 0 0)).run Tryz.prog W = .ok (.bool ao.isNone) W := fun W => Lib.run_eql_slice_nil W _ _ ao n cap 0 0 Tryz.underlying70
  cases ao with
  | none =>
    have hn0 : n = 0 := by
      rcases Nat.eq_zero_or_pos n with h0 | h0
      · exact h0
      · obtain ⟨a, e, _⟩ := h.row h0
        cases e
    have hv : vs = [] := List.eq_nil_of_length_eq_zero (by omega)
    subst hv
    clear h hl hn0
    simp only [Option.isNone_none] at hq
    go_enter Tryz.func95, Tryz.ntmps95
    go_wp2
    go_ret
    exact ⟨_, rfl, Own.nil _ _ _, Below.refl _ _⟩
  | some a =>
    simp only [Option.isNone_some] at hq
    have H := Lib.hid h
    have HL := Lib.hid hl
    clear h hl
    go_enter Tryz.func95, Tryz.ntmps95
    have c63 : ([] : List FrameV).length + n ≤ maxLen := by unfold maxLen; simp; omega
    have c47 : (([] : List FrameV).length + n) * 96 ≤ 140737488355328 := by simp; omega
    have cB : w.heap.size ≤ (w.alloc (.cells #[] 193)).heap.size := by simp
    have hb0 : Below w.heap.size w (w.alloc (.cells #[] 193)) := (Below.refl _ _).alloc (Nat.le_refl _) _
    go_wp2_with (at_builtin; refine wpList_append_sl rfl (.tmp 5) (.tmp 6) 70 rfl w.heap.size 193 i0 _ 96 Tryz.underlying70 hi hz0 hz1 hz2 rfl (.slice (some ⟨w.heap.size, 0, none⟩) 0 0) ([] : List FrameV) rfl (own_lit w 193 w.heap.size (Nat.le_refl _) #[] 0 rfl (by decide) rfl) (some a) n cap vs rfl (H.out.alloc _) c63 c47 cB ?_; intro v1 w1 hown1 hgr1 hat1)
    go_ret
    refine ⟨v1, rfl, hown1, hb0.grown hgr1 (by simp) ?_⟩
    intro k hk
    simp [Value.ownBlock] at hk
    omega
set_option maxHeartbeats 1000000 in
theorem clone_int (ao : Option Addr) (n cap : Nat) (vs : List Int) (w : World) (h : Sl w ao n vs) (hn : n * 8 ≤ 140737488355328) :
    Calls Tryz.prog 49 #[.slice ao n cap] w (OwnPost w 3 vs) := by
  obtain ⟨i0, hi, hz0, hz1, hz2⟩ := info_parts info_int
  have hl := h.len
  have hq : ∀ W, (binOp .eql 22 (.slice ao n cap) (.slice none 0 0)).run Tryz.prog W = .ok (.bool ao.isNone) W := fun W => Lib.run_eql_slice_nil W _ _ ao n cap 0 0 Tryz.underlying22
  cases ao with
  | none =>
    have hn0 : n = 0 := by
      rcases Nat.eq_zero_or_pos n with h0 | h0
      · exact h0
      · obtain ⟨a, e, _⟩ := h.row h0
        cases e
    have hv : vs = [] := List.eq_nil_of_length_eq_zero (by omega)
    subst hv
    clear h hl hn0
    simp only [Option.isNone_none] at hq
    go_enter Tryz.func49, Tryz.ntmps49
    go_wp2
    go_ret
    exact ⟨_, rfl, Own.nil _ _ _, Below.refl _ _⟩
  | some a =>
    simp only [Option.isNone_some] at hq
    have H := Lib.hid h
    have HL := Lib.hid hl
    clear h hl
    go_enter Tryz.func49, Tryz.ntmps49
    have c63 : ([] : List Int).length + n ≤ maxLen := by unfold maxLen; simp; omega
    have c47 : (([] : List Int).length + n) * 8 ≤ 140737488355328 := by simp; omega
    have cB : w.heap.size ≤ (w.alloc (.cells #[] 3)).heap.size := by simp
    have hb0 : Below w.heap.size w (w.alloc (.cells #[] 3)) := (Below.refl _ _).alloc (Nat.le_refl _) _
    go_wp2_with (at_builtin; refine wpList_append_sl rfl (.tmp 5) (.tmp 6) 22 rfl w.heap.size 3 i0 _ 8 Tryz.underlying22 hi hz0 hz1 hz2 rfl (.slice (some ⟨w.heap.size, 0, none⟩) 0 0) ([] : List Int) rfl (own_lit w 3 w.heap.size (Nat.le_refl _) #[] 0 rfl (by decide) rfl) (some a) n cap vs rfl (H.out.alloc _) c63 c47 cB ?_; intro v1 w1 hown1 hgr1 hat1)
    go_ret
    refine ⟨v1, rfl, hown1, hb0.grown hgr1 (by simp) ?_⟩
    intro k hk
    simp [Value.ownBlock] at hk
    omega
theorem eqU_int {xs ys : List Int} (h : xs.length = ys.length) : (xs = ys) ↔ ∀ i, i < xs.length → xs[i]? = ys[i]? :=
  ⟨fun e i _ => by rw [e], fun h1 => List.ext_getElem? fun i => by
    rcases Nat.lt_or_ge i xs.length with h2 | h2
    · exact h1 i h2
    · rw [List.getElem?_eq_none h2, List.getElem?_eq_none (by omega)]⟩
set_option maxHeartbeats 2000000 in
theorem eq_int (ao bo : Option Addr) (n m c d : Nat) (xs ys : List Int) (w : World) (hx : Sl w ao n xs) (hy : Sl w bo m ys) :
    Calls Tryz.prog 19 #[.slice ao n c, .slice bo m d] w fun e w' => e = .returned (.bool (decide (xs = ys))) ∧ Below w.heap.size w w' := by
  have hlx := hx.len
  have hly := hy.len
  have hm := hx.max
  unfold maxLen at hm
  by_cases hnm : n = m
  · subst hnm
    have g1 : ((n : Int) != (n : Int)) = false := by simp
    have hu := eqU_int (xs := xs) (ys := ys) (by omega)
    have HU := Lib.hid hu
    have HLX := Lib.hid hlx
    have HLY := Lib.hid hly
    have HX := Lib.hid hx
    have HY := Lib.hid hy
    clear hu hlx hly hx hy
    go_enter Tryz.func19, Tryz.ntmps19
    go_wp2
    go_loopw [14] (fun i wr => ∃ k : Nat, k ≤ n ∧ i = .int .i64 k ∧ (∀ i, i < k → xs[i]? = ys[i]?) ∧ Below w.heap.size w wr) (fun i _ => n - (intOf i).toNat)
    case atStart => exact ⟨0, Nat.zero_le _, rfl, fun i hi => absurd hi (by omega), Below.refl _ _⟩
    case round =>
      obtain ⟨k, hk, rfl, hf, hb⟩ := hrel
      have HF := Lib.hid hf
      have HB := Lib.hid hb
      clear hf hb
      by_cases hlt : k < n
      · have q0 : (0 : Int) ≤ k := by omega
        have q1 : (k : Int) < n := by omega
        obtain ⟨x, hgx⟩ : ∃ x, xs[k]? = some x := ⟨_, List.getElem?_eq_getElem (by have := HLX.out; omega)⟩
        obtain ⟨y, hgy⟩ : ∃ y, ys[k]? = some y := ⟨_, List.getElem?_eq_getElem (by have := HLY.out; omega)⟩
        obtain ⟨ad, rfl, bx, e0⟩ := sl_int (HX.out.below HB.out) hlt hgx
        obtain ⟨bd, rfl, by_, f0⟩ := sl_int (HY.out.below HB.out) hlt hgy
        have GX := Lib.hid hgx
        have GY := Lib.hid hgy
        clear hgx hgy
        by_cases hxy : x = y
        · subst hxy
          have q : (x != x) = false := by simp
          go_wp2
          go_roundw
          case rel =>
            refine ⟨k + 1, by omega, by go_num, ?_, ?_⟩
            · intro i hi
              rcases Nat.lt_or_ge i k with h | h
              · exact HF.out i h
              · obtain rfl : i = k := by omega
                rw [GX.out, GY.out]
            · repeat (first | exact HB.out | with_reducible refine ext_alloc ?_ _ | with_reducible refine ext_drewN ?_ _ | with_reducible refine ext_drew ?_ | with_reducible refine ext_set ?_ (by have := HB.out.size; first | omega | (simp; omega)) _)
          case measure => simp [intOf]; omega
        · have hne : xs ≠ ys := by
            intro h
            rw [HU.out] at h
            have := h k (by have := HLX.out; omega)
            rw [GX.out, GY.out] at this
            injection this with this
            exact hxy this
          have q : (x != y) = true := by simp [hxy]
          have HNE := Lib.hid hne
          clear hne hxy
          go_wp2
          go_ret
          refine ⟨ret_bool (by simp [HNE.out]), ?_⟩
          repeat (first | exact HB.out | with_reducible refine ext_alloc ?_ _ | with_reducible refine ext_drewN ?_ _ | with_reducible refine ext_drew ?_ | with_reducible refine ext_set ?_ (by have := HB.out.size; first | omega | (simp; omega)) _)
      · go_wp2
        go_ret
        refine ⟨ret_bool ?_, HB.out⟩
        symm
        rw [decide_eq_true_iff, HU.out]
        intro i hi
        exact HF.out i (by have := HLX.out; omega)
  · have hne : xs ≠ ys := by
      rintro rfl
      omega
    have g1 : ((n : Int) != (m : Int)) = true := by simp; omega
    have g2 : ((n : Int) == (m : Int)) = false := by simp; omega
    have HNE := Lib.hid hne
    clear hne hnm hlx hly hx hy
    go_enter Tryz.func19, Tryz.ntmps19
    go_wp2
    go_ret
    exact ⟨ret_bool (by simp [HNE.out]), Below.refl _ _⟩
end Go.Proofs.YtpjhjefjbkjhkaaGreatDoor
/- What slices.Clone and the reference's Copy compute of values. -/
namespace Go.Proofs.YtpjhjefjbkjhkaaGreatDoor
open Go.RowKit
set_option linter.unusedVariables false
theorem info_val : (Tryz.prog.info? 68).map (fun i => (i.zero, i.size, i.bytes)) = some (some (.agg #[.bool false, .int .i64 0, .int .i64 0, .int .i64 0, .int .i64 0, .int .i64 0, .int .i64 0]), 7, 56) := by kernel_rfl
set_option maxHeartbeats 1000000 in
theorem clone_val (ao : Option Addr) (n cap : Nat) (vs : List ValV) (w : World) (h : Sl w ao n vs) (hn : n * 56 ≤ 140737488355328) :
    Calls Tryz.prog 53 #[.slice ao n cap] w (OwnPost w 68 vs) := by
  obtain ⟨i0, hi, hz0, hz1, hz2⟩ := info_parts info_val
  have hl := h.len
  have hq : ∀ W, (binOp .eql 32 (.slice ao n cap) (.slice none 0 0)).run Tryz.prog W = .ok (.bool ao.isNone) W := fun W => Lib.run_eql_slice_nil W _ _ ao n cap 0 0 Tryz.underlying32
  cases ao with
  | none =>
    have hn0 : n = 0 := by
      rcases Nat.eq_zero_or_pos n with h0 | h0
      · exact h0
      · obtain ⟨a, e, _⟩ := h.row h0
        cases e
    have hv : vs = [] := List.eq_nil_of_length_eq_zero (by omega)
    subst hv
    clear h hl hn0
    simp only [Option.isNone_none] at hq
    go_enter Tryz.func53, Tryz.ntmps53
    go_wp2
    go_ret
    exact ⟨_, rfl, Own.nil _ _ _, Below.refl _ _⟩
  | some a =>
    simp only [Option.isNone_some] at hq
    have H := Lib.hid h
    have HL := Lib.hid hl
    clear h hl
    go_enter Tryz.func53, Tryz.ntmps53
    have c63 : ([] : List ValV).length + n ≤ maxLen := by unfold maxLen; simp; omega
    have c47 : (([] : List ValV).length + n) * 56 ≤ 140737488355328 := by simp; omega
    have cB : w.heap.size ≤ (w.alloc (.cells #[] 68)).heap.size := by simp
    have hb0 : Below w.heap.size w (w.alloc (.cells #[] 68)) := (Below.refl _ _).alloc (Nat.le_refl _) _
    go_wp2_with (at_builtin; refine wpList_append_sl rfl (.tmp 5) (.tmp 6) 32 rfl w.heap.size 68 i0 _ 56 Tryz.underlying32 hi hz0 hz1 hz2 rfl (.slice (some ⟨w.heap.size, 0, none⟩) 0 0) ([] : List ValV) rfl (own_lit w 68 w.heap.size (Nat.le_refl _) #[] 0 rfl (by decide) rfl) (some a) n cap vs rfl (H.out.alloc _) c63 c47 cB ?_; intro v1 w1 hown1 hgr1 hat1)
    go_ret
    refine ⟨v1, rfl, hown1, hb0.grown hgr1 (by simp) ?_⟩
    intro k hk
    simp [Value.ownBlock] at hk
    omega
end Go.Proofs.YtpjhjefjbkjhkaaGreatDoor
/- What the reference's Eq computes of values. -/
namespace Go.Proofs.YtpjhjefjbkjhkaaGreatDoor
open Go.RowKit
set_option linter.unusedVariables false
/-- Two values against each other. -/
theorem run_neq_val (x y : ValV) (W : World) : (binOp .neq 68 x.val y.val).run Tryz.prog W = .ok (.bool (!decide (x = y))) W := by
  obtain ⟨is, n, p, b, l, a, s⟩ := x
  obtain ⟨is2, n2, p2, b2, l2, a2, s2⟩ := y
  simp only [ValV.val, ValV.mk.injEq, KeyV.mk.injEq]
  rw [run_neq_struct]
  go_simp
  repeat' split
  all_goals simp [*]
theorem run_eql_val (x y : ValV) (W : World) : (binOp .eql 68 x.val y.val).run Tryz.prog W = .ok (.bool (decide (x = y))) W := by
  obtain ⟨is, n, p, b, l, a, s⟩ := x
  obtain ⟨is2, n2, p2, b2, l2, a2, s2⟩ := y
  simp only [ValV.val, ValV.mk.injEq, KeyV.mk.injEq]
  rw [run_eql_struct]
  go_simp
  repeat' split
  all_goals simp [*]
theorem sl_valg {w : World} {ao : Option Addr} {n : Nat} {vs : List ValV} (h : Sl w ao n vs) {i : Nat} (hi : i < n) {x : ValV} (hx : vs[i]? = some x) : ∃ a, ao = some a ∧ a.block < w.heap.size ∧ ValAt w (a.add (i * 7)) x := by
  obtain ⟨a, e, h1, h2⟩ := sl_val h hi
  have : vs.getD i zeroV = x := by simp [List.getD, hx]
  exact ⟨a, e, h1, this ▸ h2⟩
theorem eq_upto {xs ys : List ValV} (h : xs.length = ys.length) : (xs = ys) ↔ ∀ i, i < xs.length → xs[i]? = ys[i]? :=
  ⟨fun e i _ => by rw [e], fun h1 => List.ext_getElem? fun i => by
    rcases Nat.lt_or_ge i xs.length with h2 | h2
    · exact h1 i h2
    · rw [List.getElem?_eq_none h2, List.getElem?_eq_none (by omega)]⟩
set_option maxHeartbeats 2000000 in
theorem eq_val (ao bo : Option Addr) (n m c d : Nat) (xs ys : List ValV) (w : World) (hx : Sl w ao n xs) (hy : Sl w bo m ys) :
    Calls Tryz.prog 39 #[.slice ao n c, .slice bo m d] w fun e w' => e = .returned (.bool (decide (xs = ys))) ∧ Below w.heap.size w w' := by
  have hlx := hx.len
  have hly := hy.len
  have hm := hx.max
  unfold maxLen at hm
  by_cases hnm : n = m
  · subst hnm
    have g1 : ((n : Int) != (n : Int)) = false := by simp
    have hu := eq_upto (xs := xs) (ys := ys) (by omega)
    have HU := Lib.hid hu
    have HLX := Lib.hid hlx
    have HLY := Lib.hid hly
    have HX := Lib.hid hx
    have HY := Lib.hid hy
    clear hu hlx hly hx hy
    go_enter Tryz.func39, Tryz.ntmps39
    go_wp2
    go_loopw [14] (fun i wr => ∃ k : Nat, k ≤ n ∧ i = .int .i64 k ∧ (∀ i, i < k → xs[i]? = ys[i]?) ∧ Below w.heap.size w wr) (fun i _ => n - (intOf i).toNat)
    case atStart => exact ⟨0, Nat.zero_le _, rfl, fun i hi => absurd hi (by omega), Below.refl _ _⟩
    case round =>
      obtain ⟨k, hk, rfl, hf, hb⟩ := hrel
      have HF := Lib.hid hf
      have HB := Lib.hid hb
      clear hf hb
      by_cases hlt : k < n
      · have q0 : (0 : Int) ≤ k := by omega
        have q1 : (k : Int) < n := by omega
        obtain ⟨x, hgx⟩ : ∃ x, xs[k]? = some x := ⟨_, List.getElem?_eq_getElem (by have := HLX.out; omega)⟩
        obtain ⟨y, hgy⟩ : ∃ y, ys[k]? = some y := ⟨_, List.getElem?_eq_getElem (by have := HLY.out; omega)⟩
        obtain ⟨ad, rfl, hab, e0, e1, e2, e3, e4, e5, e6⟩ := sl_valg (HX.out.below HB.out) hlt hgx
        obtain ⟨bd, rfl, hbb, f0, f1, f2, f3, f4, f5, f6⟩ := sl_valg (HY.out.below HB.out) hlt hgy
        have bx : (ad.add (k * 7)).block < wr.heap.size := by rw [el_block]; exact hab
        have by_ : (bd.add (k * 7)).block < wr.heap.size := by rw [el_block]; exact hbb
        have GX := Lib.hid hgx
        have GY := Lib.hid hgy
        clear hgx hgy
        have q := fun W => run_neq_val x y W
        by_cases hxy : x = y
        · subst hxy
          simp only [decide_true, Bool.not_true] at q
          obtain ⟨xi, xn, xp, xb, xl, xa, xs_⟩ := x
          simp only [ValV.val] at *
          go_wp2
          go_quiet (fail)
          go_wp2
          go_roundw
          case rel =>
            refine ⟨k + 1, by omega, by go_num, ?_, ?_⟩
            · intro i hi
              rcases Nat.lt_or_ge i k with h | h
              · exact HF.out i h
              · obtain rfl : i = k := by omega
                rw [GX.out, GY.out]
            · repeat (first | exact HB.out | with_reducible refine ext_alloc ?_ _ | with_reducible refine ext_drewN ?_ _ | with_reducible refine ext_drew ?_ | with_reducible refine ext_set ?_ (by have := HB.out.size; first | omega | (simp; omega)) _)
          case measure => simp [intOf]; omega
        · have hne : xs ≠ ys := by
            intro h
            rw [HU.out] at h
            have := h k (by have := HLX.out; omega)
            rw [GX.out, GY.out] at this
            injection this with this
            exact hxy this
          simp only [hxy, decide_false, Bool.not_false] at q
          obtain ⟨xi, xn, xp, xb, xl, xa, xs_⟩ := x
          obtain ⟨yi, yn, yp, yb, yl, ya, ys_⟩ := y
          simp only [ValV.val] at *
          have HNE := Lib.hid hne
          clear hne hxy
          go_wp2
          go_quiet (fail)
          go_wp2
          go_ret
          refine ⟨ret_bool (by simp [HNE.out]), ?_⟩
          repeat (first | exact HB.out | with_reducible refine ext_alloc ?_ _ | with_reducible refine ext_drewN ?_ _ | with_reducible refine ext_drew ?_ | with_reducible refine ext_set ?_ (by have := HB.out.size; first | omega | (simp; omega)) _)
      · go_wp2
        go_ret
        refine ⟨ret_bool ?_, HB.out⟩
        symm
        rw [decide_eq_true_iff, HU.out]
        intro i hi
        exact HF.out i (by have := HLX.out; omega)
  · have hne : xs ≠ ys := by
      rintro rfl
      omega
    have g1 : ((n : Int) != (m : Int)) = true := by simp; omega
    have g2 : ((n : Int) == (m : Int)) = false := by simp; omega
    have HNE := Lib.hid hne
    clear hne hnm hlx hly hx hy
    go_enter Tryz.func39, Tryz.ntmps39
    go_wp2
    go_ret
    exact ⟨ret_bool (by simp [HNE.out]), Below.refl _ _⟩
end Go.Proofs.YtpjhjefjbkjhkaaGreatDoor
