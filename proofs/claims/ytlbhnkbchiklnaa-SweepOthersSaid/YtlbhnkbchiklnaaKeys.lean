/- What the functions of package keys compute. -/
import Derived.Test.YtlbhnkbchiklnaaRows
import Derived.Test.YtlbhnkbchiklnaaKeysMath
import Derived.Test.YtlbhnkbchiklnaaPerm
import Derived.Test.YtlbhnkbchiklnaaBlk
import Derived.WalkKit
import Derived.WalkSpells
import Derived.Carry
import Derived.Deep.Light
namespace Go.Proofs.Ytlbhnkbchiklnaa
open Go.RowKit
set_option linter.unusedVariables false

/-- What a contract that makes new blocks alone leaves to its caller: every old cell and mark, and every old block's number, is there still. -/
theorem bcell {W w1 : World} (hb : Below W.heap.size W w1) : (∀ b o, b < W.heap.size → w1.cell? ⟨b, o, none⟩ = W.cell? ⟨b, o, none⟩) ∧ (∀ b o, b < W.heap.size → w1.frozen? ⟨b, o, none⟩ = W.frozen? ⟨b, o, none⟩) ∧ (∀ n, n < W.heap.size → n < w1.heap.size) :=
  ⟨fun b o h => hb.cell (p := ⟨b, o, none⟩) h, fun b o h => hb.frozen (p := ⟨b, o, none⟩) h, fun n h => Nat.lt_of_lt_of_le h hb.size⟩

/-- A block of five cells that was there before such a call: its cells, one by one. -/
theorem own5 {W w1 : World} {g : Nat} {v0 v1 v2 v3 v4 : Value} {T : TypeId} (hb : Below W.heap.size W w1) (h : W.heap[g]? = some (.cells #[v0, v1, v2, v3, v4] T (0, 0))) :
    w1.cell? ⟨g, 0, none⟩ = some v0 ∧ w1.cell? ⟨g, 1, none⟩ = some v1 ∧ w1.cell? ⟨g, 2, none⟩ = some v2 ∧ w1.cell? ⟨g, 3, none⟩ = some v3 ∧ w1.cell? ⟨g, 4, none⟩ = some v4 := by
  have hg : g < W.heap.size := by
    rcases Nat.lt_or_ge g W.heap.size with hlt | hge
    · exact hlt
    · rw [Array.getElem?_eq_none hge] at h; cases h
  have h1 : w1.heap[g]? = some (.cells #[v0, v1, v2, v3, v4] T (0, 0)) := (hb.block g hg).trans h
  refine ⟨?_, ?_, ?_, ?_, ?_⟩ <;> exact cell_of_row w1 g _ _ T (0, 0) h1
theorem heap0 (w : World) (a b : Obj) : ((w.alloc a).alloc b).heap[w.heap.size]? = some a := by show ((w.heap.push a).push b)[w.heap.size]? = some a; simp [Array.getElem?_push]
theorem heap1 (w : World) (a b : Obj) : ((w.alloc a).alloc b).heap[w.heap.size + 1]? = some b := by show ((w.heap.push a).push b)[w.heap.size + 1]? = some b; rw [Array.getElem?_push, if_pos (by simp)]

theorem kwithin_any (n lo hi : Int) (w : World) :
    Calls Try.prog 54 #[.int .i64 n, .int .i64 lo, .int .i64 hi] w fun e w' => e = .returned (.bool (inB n lo hi)) ∧ w = w' := by
  by_cases h1 : lo ≤ n
  · by_cases h2 : n ≤ hi
    · have H : inB n lo hi = true := inB_iff.2 ⟨h1, h2⟩
      have H' := Lib.hid H
      clear H
      go_enter Try.func54, Try.ntmps54
      go_wp2
      go_ret
      exact ⟨ret_bool (by rw [H'.out]), rfl⟩
    · have H : inB n lo hi = false := inB_no.2 (by omega)
      have H' := Lib.hid H
      clear H
      go_enter Try.func54, Try.ntmps54
      go_wp2
      go_ret
      exact ⟨ret_bool (by rw [H'.out]; first | done | (simp; done) | (simp; omega)), rfl⟩
  · have H : inB n lo hi = false := inB_no.2 (by omega)
    have H' := Lib.hid H
    clear H
    go_enter Try.func54, Try.ntmps54
    go_wp2
    go_ret
    exact ⟨ret_bool (by rw [H'.out]), rfl⟩

theorem check_any (p b l a s : Int) (w : World) :
    Calls Try.prog 23 #[.agg #[.int .i64 p, .int .i64 b, .int .i64 l, .int .i64 a, .int .i64 s]] w fun e w' => e = .returned (.int .i64 (keyCheck ⟨p, b, l, a, s⟩)) ∧ Below w.heap.size w w' := by
  have hw : inB b 0 400 = true → wrap64 (400 - b) = 400 - b := fun h => by
    have := inB_iff.1 h
    exact w64_of (by omega) (by omega)
  go_enter Try.func23, Try.ntmps23
  go_wp2_with (go_at_call 54; refine (kwithin_any _ _ _ _).mono ?_; rintro e w' ⟨rfl, rfl⟩)
  all_goals
    go_ret
    exact ⟨ret_int (by clear hw; simp_all [keyCheck, okB]), (Below.refl _ _).alloc (Nat.le_refl _) _⟩

theorem u64_diff {b n : Int} (hb : I64 b) (hn : I64 n) (h : b ≤ n) : IntKind.u64.wrap (IntKind.u64.wrap n - IntKind.u64.wrap b) = n - b := by
  obtain ⟨b0, b1⟩ := hb
  obtain ⟨n0, n1⟩ := hn
  simp only [IntKind.wrap_u64]
  omega
theorem covers_any (p b l a s n : Int) (hb : I64 b) (hl : I64 l) (hn : I64 n) (w : World) :
    Calls Try.prog 22 #[.agg #[.int .i64 p, .int .i64 b, .int .i64 l, .int .i64 a, .int .i64 s], .int .i64 n] w fun e w' => e = .returned (.bool (covB b l n)) ∧ Below w.heap.size w w' := by
  obtain ⟨b0, b1⟩ := hb
  obtain ⟨l0, l1⟩ := hl
  obtain ⟨n0, n1⟩ := hn
  go_enter Try.func22, Try.ntmps22
  have hd : b ≤ n → IntKind.u64.wrap (IntKind.u64.wrap n - IntKind.u64.wrap b) = n - b := fun h => u64_diff ⟨b0, b1⟩ ⟨n0, n1⟩ h
  have HD := Lib.hid hd
  clear hd
  go_wp2
  all_goals
    go_ret
    refine ⟨ret_bool ?_, (Below.refl _ _).alloc (Nat.le_refl _) _⟩
    unfold covB
    first
    | (rw [HD.out (by omega), decide_eq_decide]; omega)
    | (symm; rw [decide_eq_false_iff_not]; omega)

theorem under_any (p b l a s p2 b2 l2 a2 s2 : Int) (h1 : KeyV.wf ⟨p, b, l, a, s⟩) (h2 : KeyV.wf ⟨p2, b2, l2, a2, s2⟩) (w : World) :
    Calls Try.prog 24 #[.agg #[.int .i64 p, .int .i64 b, .int .i64 l, .int .i64 a, .int .i64 s], .agg #[.int .i64 p2, .int .i64 b2, .int .i64 l2, .int .i64 a2, .int .i64 s2]] w
      fun e w' => e = .returned (.bool (underB ⟨p, b, l, a, s⟩ ⟨p2, b2, l2, a2, s2⟩)) ∧ Below w.heap.size w w' := by
  have hb : I64 b := h1.base
  have hb2 : I64 b2 := h2.base
  have hl2 : I64 l2 := h2.len
  have hc := fun W => covers_any p2 b2 l2 a2 s2 b hb2 hl2 hb W
  have hd := fun W => covers_any p2 b2 l2 a2 s2 (wrap64 (wrap64 (b + l) - 1)) hb2 hl2 (w64_bd _) W
  have HC := Lib.hid hc
  have HD := Lib.hid hd
  clear hc hd hb hb2 hl2 h1 h2
  go_enter Try.func24, Try.ntmps24
  go_wp2_with (first
    | (go_at_call 22; ((with_reducible refine (HC.out _).mono ?_); rintro e w1 ⟨rfl, hb1⟩; obtain ⟨c1, f1, z1⟩ := bcell hb1; have y1 : w.heap.size < w1.heap.size ∧ w.heap.size + 1 < w1.heap.size := ⟨z1 _ (by simp; omega), z1 _ (by simp)⟩; obtain ⟨y2, y3⟩ := y1))
    | (go_at_call 22; ((with_reducible refine (HD.out _).mono ?_); rintro e w2 ⟨rfl, hb2⟩; obtain ⟨c2, f2, z2⟩ := bcell hb2))
    | (go_at_call 55; refine (within_any _ _ _).mono ?_; rintro e w' ⟨rfl, rfl⟩))
  all_goals
    go_ret
    refine ⟨ret_bool ?_, ?_⟩
    · go_light
      first | (simp_all [underB]; done) | (simp_all [underB]; intros; omega)
    · repeat (first | exact Below.refl _ _ | refine ext_alloc ?_ _ | refine ext_trans ?_ ‹_›)

theorem plain_any (p b l a s : Int) (w : World) :
    Calls Try.prog 56 #[.agg #[.int .i64 p, .int .i64 b, .int .i64 l, .int .i64 a, .int .i64 s]] w fun e w' => e = .returned (.int .i64 (plainF ⟨p, b, l, a, s⟩)) ∧ Below w.heap.size w w' := by
  cases h : okB ⟨p, b, l, a, s⟩
  · have hk : keyCheck ⟨p, b, l, a, s⟩ = 1 := by simp [keyCheck, h]
    have hp : plainF ⟨p, b, l, a, s⟩ = 1 := by simp [plainF, h]
    have HP := Lib.hid hp
    clear hp h
    go_enter Try.func56, Try.ntmps56
    go_wp2_with (go_at_call 23; refine (check_any _ _ _ _ _ _).mono ?_; rintro e w1 ⟨rfl, hb1⟩; obtain ⟨c1, f1, z1⟩ := bcell hb1)
    go_ret
    exact ⟨ret_int HP.out.symm, by repeat (first | exact Below.refl _ _ | refine ext_alloc ?_ _ | refine ext_trans ?_ ‹_›)⟩
  · have hk : keyCheck ⟨p, b, l, a, s⟩ = 0 := by simp [keyCheck, h]
    by_cases hs : s = 0
    · have hp : plainF ⟨p, b, l, a, s⟩ = 0 := (plainF_zero _).2 ⟨(okB_iff _).1 h, hs⟩
      have HP := Lib.hid hp
      have hs' : (s == 0) = true := by simp [hs]
      have HS := Lib.hid hs
      clear hp h hs
      go_enter Try.func56, Try.ntmps56
      go_wp2_with (go_at_call 23; refine (check_any _ _ _ _ _ _).mono ?_; rintro e w1 ⟨rfl, hb1⟩; obtain ⟨c1, f1, z1⟩ := bcell hb1)
      go_ret
      exact ⟨ret_int HP.out.symm, by repeat (first | exact Below.refl _ _ | refine ext_alloc ?_ _ | refine ext_trans ?_ ‹_›)⟩
    · have hp : plainF ⟨p, b, l, a, s⟩ = 11 := by simp [plainF, h, hs]
      have HP := Lib.hid hp
      have hs' : (s == 0) = false := by simp [hs]
      clear hp h hs
      go_enter Try.func56, Try.ntmps56
      go_wp2_with (go_at_call 23; refine (check_any _ _ _ _ _ _).mono ?_; rintro e w1 ⟨rfl, hb1⟩; obtain ⟨c1, f1, z1⟩ := bcell hb1)
      go_ret
      exact ⟨ret_int HP.out.symm, by repeat (first | exact Below.refl _ _ | refine ext_alloc ?_ _ | refine ext_trans ?_ ‹_›)⟩

end Go.Proofs.Ytlbhnkbchiklnaa
