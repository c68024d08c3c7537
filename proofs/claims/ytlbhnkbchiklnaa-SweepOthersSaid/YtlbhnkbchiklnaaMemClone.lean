/- What slices.Clone and the reference's Copy compute of values. -/
import Derived.Test.YtlbhnkbchiklnaaMemRow
import Derived.Test.YtlbhnkbchiklnaaRows
import Derived.WalkKit
import Derived.WalkSpells
namespace Go.Proofs.Ytlbhnkbchiklnaa
open Go.RowKit
set_option linter.unusedVariables false
theorem info_val : (Try.prog.info? 26).map (fun i => (i.zero, i.size, i.bytes)) = some (some (.agg #[.bool false, .int .i64 0, .int .i64 0, .int .i64 0, .int .i64 0, .int .i64 0, .int .i64 0]), 7, 56) := by kernel_rfl
set_option maxHeartbeats 1000000 in
theorem clone_val (ao : Option Addr) (n cap : Nat) (vs : List ValV) (w : World) (h : Sl w ao n vs) (hn : n * 56 ≤ 140737488355328) :
    Calls Try.prog 49 #[.slice ao n cap] w (OwnPost w 26 vs) := by
  obtain ⟨i0, hi, hz0, hz1, hz2⟩ := info_parts info_val
  have hl := h.len
  have hq : ∀ W, (binOp .eql 22 (.slice ao n cap) (.slice none 0 0)).run Try.prog W = .ok (.bool ao.isNone) W := fun W => Lib.run_eql_slice_nil W _ _ ao n cap 0 0 Try.underlying22
  cases ao with
  | none =>
    have hn0 : n = 0 := by
      rcases Nat.eq_zero_or_pos n with h0 | h0
      · exact h0
      · obtain ⟨a, e, _⟩ := h.row h0
        cases e
    have hv : vs = [] := List.eq_nil_of_length_eq_zero (by omega)
    subst hv
    clear h hl hn0
    simp only [Option.isNone_none] at hq
    go_enter Try.func49, Try.ntmps49
    go_wp2
    go_ret
    exact ⟨_, rfl, Own.nil _ _ _, Below.refl _ _⟩
  | some a =>
    simp only [Option.isNone_some] at hq
    have H := Lib.hid h
    have HL := Lib.hid hl
    clear h hl
    go_enter Try.func49, Try.ntmps49
    have c63 : ([] : List ValV).length + n ≤ maxLen := by unfold maxLen; simp; omega
    have c47 : (([] : List ValV).length + n) * 56 ≤ 140737488355328 := by simp; omega
    have cB : w.heap.size ≤ (w.alloc (.cells #[] 26)).heap.size := by simp
    have hb0 : Below w.heap.size w (w.alloc (.cells #[] 26)) := (Below.refl _ _).alloc (Nat.le_refl _) _
    go_wp2_with (at_builtin; refine wpList_append_sl rfl (.tmp 5) (.tmp 6) 22 rfl w.heap.size 26 i0 _ 56 Try.underlying22 hi hz0 hz1 hz2 rfl (.slice (some ⟨w.heap.size, 0, none⟩) 0 0) ([] : List ValV) rfl (own_lit w 26 w.heap.size (Nat.le_refl _) #[] 0 rfl (by decide) rfl) (some a) n cap vs rfl (H.out.alloc _) c63 c47 cB ?_; intro v1 w1 hown1 hgr1 hat1)
    go_ret
    refine ⟨v1, rfl, hown1, hb0.grown hgr1 (by simp) ?_⟩
    intro k hk
    simp [Value.ownBlock] at hk
    omega
end Go.Proofs.Ytlbhnkbchiklnaa
