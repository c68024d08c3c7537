import Derived.BigQuiet
import Derived.ChangeKeysEq
import Derived.Deep.QuietTactic
import Derived.Great.BuildSlice
import Derived.Laws.Rows
import Derived.Laws.StructEq
import Derived.Test.YtpjhjefjbkjhkaaGreatDoorPk00
import Derived.Test.YtpjhjefjbkjhkaaGreatDoorPk02
import Derived.Test.YtpjhjefjbkjhkaaGreatDoorRows
import Derived.WalkKit
import Derived.WalkSpells
set_option maxHeartbeats 40000000
set_option maxRecDepth 100000
set_option linter.unusedVariables false
set_option linter.unusedSimpArgs false
namespace Go.Proofs.YtpjhjefjbkjhkaaGreatDoor
open Go.RowKit
end Go.Proofs.YtpjhjefjbkjhkaaGreatDoor
namespace Go.Proofs.YtpjhjefjbkjhkaaGreatDoor
open El (cl)
open Go.RowKit
def mcs (R : List ValV) (c : KeyV) (ms ss os : Value) : Array Value :=
 (cls R ++ [.int .i64 c.perm, .int .i64 c.base, .int .i64 c.len, .int .i64 c.at_, .int .i64 c.seal_, ms, ss, os]).toArray
section
variable {R : List ValV} {c : KeyV} {ms ss os : Value}
theorem regs_cells (h : R.length = 8) : (cls R).length = 56 := by rw [cls_length, h]; rfl
theorem mcs_size (h : R.length = 8) : (mcs R c ms ss os).size = 64 := by
 unfold mcs
 rw [List.size_toArray, List.length_append, regs_cells h]
 rfl
theorem mcs_hi (h : R.length = 8) (j : Nat) : (mcs R c ms ss os)[56 + j]? = ([.int .i64 c.perm, .int .i64 c.base, .int .i64 c.len, .int .i64 c.at_, .int .i64 c.seal_, ms, ss, os] : List Value)[j]? := by
 unfold mcs
 rw [List.getElem?_toArray, List.getElem?_append_right (by rw [regs_cells h]; omega), regs_cells h, Nat.add_sub_cancel_left]
theorem mcs_lo (h : R.length = 8) {i : Nat} (hi : i < 56) : (mcs R c ms ss os)[i]? = (cls R)[i]? := by
 unfold mcs
 rw [List.getElem?_toArray, List.getElem?_append_left (by rw [regs_cells h]; omega)]
theorem mcs_regs (h : R.length = 8) : (mcs R c ms ss os).extract 0 56 = (cls R).toArray := by
 unfold mcs
 rw [List.extract_toArray, List.extract_eq_take_drop, List.drop_zero, Nat.sub_zero, List.take_append_of_le_length (by rw [regs_cells h]; omega), List.take_of_length_le (by rw [regs_cells h]; omega)]
end
theorem cls_part {α : Type} [El α] (xs : List α) {i : Nat} {x : α} (hx : xs[i]? = some x) : (cls xs).toArray.extract (i * El.k α) (i * El.k α + El.k α) = (cl x).toArray := by
 have hi : i < xs.length := (List.getElem?_eq_some_iff.1 hx).1
 rw [List.extract_toArray, List.extract_eq_take_drop, Nat.add_sub_cancel_left, ← cls_drop, List.drop_eq_getElem_cons hi, (List.getElem?_eq_some_iff.1 hx).2, cls_cons, List.take_append_of_le_length (by rw [El.len]; exact Nat.le_refl _), List.take_of_length_le (by rw [El.len]; exact Nat.le_refl _)]
section
variable {P : Program}
theorem run_loadVar_sub (w : World) (g off : Nat) (t ty : TypeId) (cs : Array Value) (fr : Nat × Nat) (d : TypeDesc) (k : Nat) (hg : w.heap[g]? = some (.cells cs t fr))
  (hu : P.underlying ty = some d) (hd : (match d with | .struct _ | .array _ _ => true | _ => false) = true) (hi : (P.info? ty).map (·.size) = some k) (hk : off + k ≤ cs.size) :
  (loadVar ty ⟨g, off, none⟩).run P w = .ok (.agg (cs.extract off (off + k))) w := by
 have hlen : (cs.extract off (off + k)).toList.length = k := by simp; omega
 have hl : (loadCells ⟨g, off, none⟩ (cs.extract off (off + k)).toList.length).run P w = .ok (cs.extract off (off + k)).toList.toArray w :=
  run_loadCells_list (P := P) w ⟨g, off, none⟩ (cs.extract off (off + k)).toList (fun j v hv => by
   have hadd : (⟨g, off, none⟩ : Addr).add j = ⟨g, off + j, none⟩ := by
    unfold Addr.add; split
    ·next h => subst h; rfl
    ·rfl
   rw [hadd, cell_of_row w g (off + j) cs t fr hg]
   have hj : j < k := by have := (List.getElem?_eq_some_iff.1 hv).1; omega
   rw [Array.getElem?_toList, Array.getElem?_extract] at hv
   rw [if_pos (by omega)] at hv
   exact hv)
 rw [hlen] at hl
 cases hq : P.info? ty with
 | none => simp [hq] at hi
 | some i =>
  have hs : i.size = k := by simpa [hq] using hi
  have hagg : (isAgg ty).run P w = .ok true w := by
   unfold isAgg
   rw [Sem.run_bind, run_underlying hu w]
   cases d <;> simp_all
  simp only [Array.toArray_toList] at hl
  simp [loadVar, Sem.run_bind, hagg, sizeOf, typeInfo, hq, hs, hl]
theorem wp_load_sub {o : Oper} {a : Act} {w : World} {K : Act → World → Prop} {Q : Exit → Act → World → Prop} (ty : TypeId) (x : Operand) (ho : o.op = .load ty x)
  (g off k : Nat) (hx : a.eval x = .pointer (some ⟨g, off, none⟩)) (t : TypeId) (cs : Array Value) (d : TypeDesc) (hg : w.heap[g]? = some (.cells cs t (0, 0)))
  (hu : P.underlying ty = some d) (hd : (match d with | .struct _ | .array _ _ => true | _ => false) = true) (hi : (P.info? ty).map (·.size) = some k) (hk : off + k ≤ cs.size)
  (h : K (a.put o.dst (.agg (cs.extract off (off + k)))) w) : o.wp P a w K Q := by
 unfold Oper.wp execOp
 simp only [ho, hx, Instr.loadAt, Instr.sureAddr, Sem.run_bind, Sem.run_pure, Result.andThen_ok, run_loadVar_sub w g off t ty cs _ d k hg hu hd hi hk]
 exact h
theorem wpList_load_sub {ops : Array Oper} {rest : List Oper} {o : Oper} {a : Act} {w : World} {Q : Exit → Act → World → Prop} (hgd : o.guard = none) (ty : TypeId) (x : Operand) (ho : o.op = .load ty x)
  (g off k : Nat) (hx : a.eval x = .pointer (some ⟨g, off, none⟩)) (t : TypeId) (cs : Array Value) (d : TypeDesc) (hg : w.heap[g]? = some (.cells cs t (0, 0)))
  (hu : P.underlying ty = some d) (hd : (match d with | .struct _ | .array _ _ => true | _ => false) = true) (hi : (P.info? ty).map (·.size) = some k) (hk : off + k ≤ cs.size) (u : Array Value) (he : cs.extract off (off + k) = u)
  (h : wpList P ops Q rest (a.put o.dst (.agg u)) w) : wpList P ops Q (o :: rest) a w :=
 wpList_plain hgd fun _ hK => wp_load_sub ty x ho g off k hx t cs d hg hu hd hi hk (hK _ _ (he ▸ h))
end
theorem run_index_regs (R : List ValV) (h8 : R.length = 8) {k : Nat} {x : ValV} (hx : R[k]? = some x) (w : World) : (Instr.index 69 (.agg (cls R).toArray) (.int .i64 k)).run Tryz.prog w = .ok x.val w := by
 have hk : k < R.length := (List.getElem?_eq_some_iff.1 hx).1
 have hp := cls_part R hx
 have e7 : El.k ValV = 7 := rfl
 rw [e7] at hp
 have hk8 : (k : Int) < 8 := by omega
 have hk0 : (0 : Int) ≤ k := by omega
 unfold Instr.index
 simp only [asIntOf, Sem.run_bind, Sem.run_pure, Result.andThen_ok, run_underlying Tryz.underlying69]
 rw [if_pos ⟨hk0, hk8⟩]
 have hs : (sizeOf 68).run Tryz.prog w = .ok 7 w := by kernel_rfl
 have ha : (isAgg 68).run Tryz.prog w = .ok true w := by kernel_rfl
 simp only [Sem.run_bind, hs, Result.andThen_ok, part, ha, if_true, Sem.run_pure, Int.toNat_natCast, hp]
 rfl
end Go.Proofs.YtpjhjefjbkjhkaaGreatDoor
namespace Go.Proofs.YtpjhjefjbkjhkaaGreatDoor
open Go.RowKit
theorem info_frame : (Tryz.prog.info? 193).map (fun i => (i.zero, i.size, i.bytes)) = some (some (.agg #[.int .i64 0, .int .i64 0, .int .i64 0, .int .i64 0, .int .i64 0, .bool false, .int .i64 0, .int .i64 0, .int .i64 0, .int .i64 0, .int .i64 0, .int .i64 0]), 12, 96) := by kernel_rfl
theorem info_int : (Tryz.prog.info? 3).map (fun i => (i.zero, i.size, i.bytes)) = some (some (.int .i64 0), 1, 8) := by kernel_rfl
theorem clone_frame (ao : Option Addr) (n cap : Nat) (vs : List FrameV) (w : World) (h : Sl w ao n vs) (hn : n * 96 ≤ 140737488355328) :
  Calls Tryz.prog 95 #[.slice ao n cap] w (OwnPost w 193 vs) := by
 obtain ⟨i0, hi, hz0, hz1, hz2⟩ := info_parts info_frame
 have hl := h.len
 have hq : ∀ W, (binOp .eql 70 (.slice ao n cap) (.slice none 0 0)).run Tryz.prog W = .ok (.bool ao.isNone) W := fun W => Lib.run_eql_slice_nil W _ _ ao n cap 0 0 Tryz.underlying70
 cases ao with
 | none =>
  have hn0 : n = 0 := by
   rcases Nat.eq_zero_or_pos n with h0 | h0
   ·exact h0
   ·obtain ⟨a, e, _⟩ := h.row h0
    cases e
  have hv : vs = [] := List.eq_nil_of_length_eq_zero (by omega)
  subst hv
  clear h hl hn0
  simp only [Option.isNone_none] at hq
  go_enter Tryz.func95, Tryz.ntmps95
  go_wp2
  go_ret
  exact ⟨_, rfl, Own.nil _ _ _, Below.refl _ _⟩
 | some a =>
  simp only [Option.isNone_some] at hq
  have H := Lib.hid h
  have HL := Lib.hid hl
  clear h hl
  go_enter Tryz.func95, Tryz.ntmps95
  have c63 : ([] : List FrameV).length + n ≤ maxLen := by unfold maxLen; simp; omega
  have c47 : (([] : List FrameV).length + n) * 96 ≤ 140737488355328 := by simp; omega
  have cB : w.heap.size ≤ (w.alloc (.cells #[] 193)).heap.size := by simp
  have hb0 : Below w.heap.size w (w.alloc (.cells #[] 193)) := (Below.refl _ _).alloc (Nat.le_refl _) _
  go_wp2_with (at_builtin; refine wpList_append_sl rfl (.tmp 5) (.tmp 6) 70 rfl w.heap.size 193 i0 _ 96 Tryz.underlying70 hi hz0 hz1 hz2 rfl (.slice (some ⟨w.heap.size, 0, none⟩) 0 0) ([] : List FrameV) rfl (own_lit w 193 w.heap.size (Nat.le_refl _) #[] 0 rfl (by decide) rfl) (some a) n cap vs rfl (H.out.alloc _) c63 c47 cB ?_; intro v1 w1 hown1 hgr1 hat1)
  go_ret
  refine ⟨v1, rfl, hown1, hb0.grown hgr1 (by simp) ?_⟩
  intro k hk
  simp [Value.ownBlock] at hk
  omega
theorem clone_int (ao : Option Addr) (n cap : Nat) (vs : List Int) (w : World) (h : Sl w ao n vs) (hn : n * 8 ≤ 140737488355328) :
  Calls Tryz.prog 49 #[.slice ao n cap] w (OwnPost w 3 vs) := by
 obtain ⟨i0, hi, hz0, hz1, hz2⟩ := info_parts info_int
 have hl := h.len
 have hq : ∀ W, (binOp .eql 22 (.slice ao n cap) (.slice none 0 0)).run Tryz.prog W = .ok (.bool ao.isNone) W := fun W => Lib.run_eql_slice_nil W _ _ ao n cap 0 0 Tryz.underlying22
 cases ao with
 | none =>
  have hn0 : n = 0 := by
   rcases Nat.eq_zero_or_pos n with h0 | h0
   ·exact h0
   ·obtain ⟨a, e, _⟩ := h.row h0
    cases e
  have hv : vs = [] := List.eq_nil_of_length_eq_zero (by omega)
  subst hv
  clear h hl hn0
  simp only [Option.isNone_none] at hq
  go_enter Tryz.func49, Tryz.ntmps49
  go_wp2
  go_ret
  exact ⟨_, rfl, Own.nil _ _ _, Below.refl _ _⟩
 | some a =>
  simp only [Option.isNone_some] at hq
  have H := Lib.hid h
  have HL := Lib.hid hl
  clear h hl
  go_enter Tryz.func49, Tryz.ntmps49
  have c63 : ([] : List Int).length + n ≤ maxLen := by unfold maxLen; simp; omega
  have c47 : (([] : List Int).length + n) * 8 ≤ 140737488355328 := by simp; omega
  have cB : w.heap.size ≤ (w.alloc (.cells #[] 3)).heap.size := by simp
  have hb0 : Below w.heap.size w (w.alloc (.cells #[] 3)) := (Below.refl _ _).alloc (Nat.le_refl _) _
  go_wp2_with (at_builtin; refine wpList_append_sl rfl (.tmp 5) (.tmp 6) 22 rfl w.heap.size 3 i0 _ 8 Tryz.underlying22 hi hz0 hz1 hz2 rfl (.slice (some ⟨w.heap.size, 0, none⟩) 0 0) ([] : List Int) rfl (own_lit w 3 w.heap.size (Nat.le_refl _) #[] 0 rfl (by decide) rfl) (some a) n cap vs rfl (H.out.alloc _) c63 c47 cB ?_; intro v1 w1 hown1 hgr1 hat1)
  go_ret
  refine ⟨v1, rfl, hown1, hb0.grown hgr1 (by simp) ?_⟩
  intro k hk
  simp [Value.ownBlock] at hk
  omega
end Go.Proofs.YtpjhjefjbkjhkaaGreatDoor
namespace Go.Proofs.YtpjhjefjbkjhkaaGreatDoor
open Go.RowKit
theorem info_val : (Tryz.prog.info? 68).map (fun i => (i.zero, i.size, i.bytes)) = some (some (.agg #[.bool false, .int .i64 0, .int .i64 0, .int .i64 0, .int .i64 0, .int .i64 0, .int .i64 0]), 7, 56) := by kernel_rfl
theorem clone_val (ao : Option Addr) (n cap : Nat) (vs : List ValV) (w : World) (h : Sl w ao n vs) (hn : n * 56 ≤ 140737488355328) :
  Calls Tryz.prog 53 #[.slice ao n cap] w (OwnPost w 68 vs) := by
 obtain ⟨i0, hi, hz0, hz1, hz2⟩ := info_parts info_val
 have hl := h.len
 have hq : ∀ W, (binOp .eql 32 (.slice ao n cap) (.slice none 0 0)).run Tryz.prog W = .ok (.bool ao.isNone) W := fun W => Lib.run_eql_slice_nil W _ _ ao n cap 0 0 Tryz.underlying32
 cases ao with
 | none =>
  have hn0 : n = 0 := by
   rcases Nat.eq_zero_or_pos n with h0 | h0
   ·exact h0
   ·obtain ⟨a, e, _⟩ := h.row h0
    cases e
  have hv : vs = [] := List.eq_nil_of_length_eq_zero (by omega)
  subst hv
  clear h hl hn0
  simp only [Option.isNone_none] at hq
  go_enter Tryz.func53, Tryz.ntmps53
  go_wp2
  go_ret
  exact ⟨_, rfl, Own.nil _ _ _, Below.refl _ _⟩
 | some a =>
  simp only [Option.isNone_some] at hq
  have H := Lib.hid h
  have HL := Lib.hid hl
  clear h hl
  go_enter Tryz.func53, Tryz.ntmps53
  have c63 : ([] : List ValV).length + n ≤ maxLen := by unfold maxLen; simp; omega
  have c47 : (([] : List ValV).length + n) * 56 ≤ 140737488355328 := by simp; omega
  have cB : w.heap.size ≤ (w.alloc (.cells #[] 68)).heap.size := by simp
  have hb0 : Below w.heap.size w (w.alloc (.cells #[] 68)) := (Below.refl _ _).alloc (Nat.le_refl _) _
  go_wp2_with (at_builtin; refine wpList_append_sl rfl (.tmp 5) (.tmp 6) 32 rfl w.heap.size 68 i0 _ 56 Tryz.underlying32 hi hz0 hz1 hz2 rfl (.slice (some ⟨w.heap.size, 0, none⟩) 0 0) ([] : List ValV) rfl (own_lit w 68 w.heap.size (Nat.le_refl _) #[] 0 rfl (by decide) rfl) (some a) n cap vs rfl (H.out.alloc _) c63 c47 cB ?_; intro v1 w1 hown1 hgr1 hat1)
  go_ret
  refine ⟨v1, rfl, hown1, hb0.grown hgr1 (by simp) ?_⟩
  intro k hk
  simp [Value.ownBlock] at hk
  omega
end Go.Proofs.YtpjhjefjbkjhkaaGreatDoor
namespace Go.Proofs.YtpjhjefjbkjhkaaGreatDoor
open Go.RowKit
end Go.Proofs.YtpjhjefjbkjhkaaGreatDoor
