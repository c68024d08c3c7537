/- What the functions of package keys compute. -/
import Derived.Test.YtcdcmbehnccicaaRows
import Derived.Test.YtcdcmbehnccicaaKeysMath
import Derived.Test.YtcdcmbehnccicaaPerm
import Derived.Test.YtcdcmbehnccicaaBlk
import Derived.WalkKit
import Derived.WalkSpells
import Derived.Carry
import Derived.Deep.Light
namespace Go.Proofs.Ytcdcmbehnccicaa
open Go.RowKit
set_option linter.unusedVariables false

/-- What a contract that makes new blocks alone leaves to its caller: every old cell and mark, and every old block's number, is there still. -/
theorem bcell {W w1 : World} (hb : Below W.heap.size W w1) : (∀ b o, b < W.heap.size → w1.cell? ⟨b, o, none⟩ = W.cell? ⟨b, o, none⟩) ∧ (∀ b o, b < W.heap.size → w1.frozen? ⟨b, o, none⟩ = W.frozen? ⟨b, o, none⟩) ∧ (∀ n, n < W.heap.size → n < w1.heap.size) :=
  ⟨fun b o h => hb.cell (p := ⟨b, o, none⟩) h, fun b o h => hb.frozen (p := ⟨b, o, none⟩) h, fun n h => Nat.lt_of_lt_of_le h hb.size⟩

/-- A block of five cells that was there before such a call: its cells, one by one. -/
theorem own5 {W w1 : World} {g : Nat} {v0 v1 v2 v3 v4 : Value} {T : TypeId} (hb : Below W.heap.size W w1) (h : W.heap[g]? = some (.cells #[v0, v1, v2, v3, v4] T (0, 0))) :
    w1.cell? ⟨g, 0, none⟩ = some v0 ∧ w1.cell? ⟨g, 1, none⟩ = some v1 ∧ w1.cell? ⟨g, 2, none⟩ = some v2 ∧ w1.cell? ⟨g, 3, none⟩ = some v3 ∧ w1.cell? ⟨g, 4, none⟩ = some v4 := by
  have hg : g < W.heap.size := by
    rcases Nat.lt_or_ge g W.heap.size with hlt | hge
    · exact hlt
    · rw [Array.getElem?_eq_none hge] at h; cases h
  have h1 : w1.heap[g]? = some (.cells #[v0, v1, v2, v3, v4] T (0, 0)) := (hb.block g hg).trans h
  refine ⟨?_, ?_, ?_, ?_, ?_⟩ <;> exact cell_of_row w1 g _ _ T (0, 0) h1
theorem heap0 (w : World) (a b : Obj) : ((w.alloc a).alloc b).heap[w.heap.size]? = some a := by show ((w.heap.push a).push b)[w.heap.size]? = some a; simp [Array.getElem?_push]
theorem heap1 (w : World) (a b : Obj) : ((w.alloc a).alloc b).heap[w.heap.size + 1]? = some b := by show ((w.heap.push a).push b)[w.heap.size + 1]? = some b; rw [Array.getElem?_push, if_pos (by simp)]

theorem kwithin_any (n lo hi : Int) (w : World) :
    Calls Try.prog 37 #[.int .i64 n, .int .i64 lo, .int .i64 hi] w fun e w' => e = .returned (.bool (inB n lo hi)) ∧ w = w' := by
  by_cases h1 : lo ≤ n
  · by_cases h2 : n ≤ hi
    · have H : inB n lo hi = true := inB_iff.2 ⟨h1, h2⟩
      have H' := Lib.hid H
      clear H
      go_enter Try.func37, Try.ntmps37
      go_wp2
      go_ret
      exact ⟨ret_bool (by rw [H'.out]), rfl⟩
    · have H : inB n lo hi = false := inB_no.2 (by omega)
      have H' := Lib.hid H
      clear H
      go_enter Try.func37, Try.ntmps37
      go_wp2
      go_ret
      exact ⟨ret_bool (by rw [H'.out]; first | done | (simp; done) | (simp; omega)), rfl⟩
  · have H : inB n lo hi = false := inB_no.2 (by omega)
    have H' := Lib.hid H
    clear H
    go_enter Try.func37, Try.ntmps37
    go_wp2
    go_ret
    exact ⟨ret_bool (by rw [H'.out]), rfl⟩

theorem check_any (p b l a s : Int) (w : World) :
    Calls Try.prog 25 #[.agg #[.int .i64 p, .int .i64 b, .int .i64 l, .int .i64 a, .int .i64 s]] w fun e w' => e = .returned (.int .i64 (keyCheck ⟨p, b, l, a, s⟩)) ∧ Below w.heap.size w w' := by
  have hw : inB b 0 400 = true → wrap64 (400 - b) = 400 - b := fun h => by
    have := inB_iff.1 h
    exact w64_of (by omega) (by omega)
  go_enter Try.func25, Try.ntmps25
  go_wp2_with (go_at_call 37; refine (kwithin_any _ _ _ _).mono ?_; rintro e w' ⟨rfl, rfl⟩)
  all_goals
    go_ret
    exact ⟨ret_int (by clear hw; simp_all [keyCheck, okB]), (Below.refl _ _).alloc (Nat.le_refl _) _⟩

theorem u64_diff {b n : Int} (hb : I64 b) (hn : I64 n) (h : b ≤ n) : IntKind.u64.wrap (IntKind.u64.wrap n - IntKind.u64.wrap b) = n - b := by
  obtain ⟨b0, b1⟩ := hb
  obtain ⟨n0, n1⟩ := hn
  simp only [IntKind.wrap_u64]
  omega
theorem covers_any (p b l a s n : Int) (hb : I64 b) (hl : I64 l) (hn : I64 n) (w : World) :
    Calls Try.prog 30 #[.agg #[.int .i64 p, .int .i64 b, .int .i64 l, .int .i64 a, .int .i64 s], .int .i64 n] w fun e w' => e = .returned (.bool (covB b l n)) ∧ Below w.heap.size w w' := by
  obtain ⟨b0, b1⟩ := hb
  obtain ⟨l0, l1⟩ := hl
  obtain ⟨n0, n1⟩ := hn
  go_enter Try.func30, Try.ntmps30
  have hd : b ≤ n → IntKind.u64.wrap (IntKind.u64.wrap n - IntKind.u64.wrap b) = n - b := fun h => u64_diff ⟨b0, b1⟩ ⟨n0, n1⟩ h
  have HD := Lib.hid hd
  clear hd
  go_wp2
  all_goals
    go_ret
    refine ⟨ret_bool ?_, (Below.refl _ _).alloc (Nat.le_refl _) _⟩
    unfold covB
    first
    | (rw [HD.out (by omega), decide_eq_decide]; omega)
    | (symm; rw [decide_eq_false_iff_not]; omega)

end Go.Proofs.Ytcdcmbehnccicaa
