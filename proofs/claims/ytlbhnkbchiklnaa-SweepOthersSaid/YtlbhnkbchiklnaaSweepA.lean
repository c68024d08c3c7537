/- What the broom of package sweep does. -/
import Derived.Test.YtlbhnkbchiklnaaSweepMath
import Derived.Test.YtlbhnkbchiklnaaMachCheck
import Derived.BigQuiet
import Derived.Deep.QuietTactic
import Derived.IntWalk
namespace Go.Proofs.Ytlbhnkbchiklnaa
open Go.RowKit
set_option linter.unusedVariables false
set_option linter.unusedSimpArgs false
set_option maxHeartbeats 1000000 in
theorem hits_any (gb : Nat) (b n p kb l a s : Int) (w : World) (c0 : w.cell? ⟨gb, 0, none⟩ = some (.int .i64 b)) (c1 : w.cell? ⟨gb, 1, none⟩ = some (.int .i64 n)) (hg : gb < w.heap.size)
    (b0 : 0 ≤ b) (b1 : b ≤ 400) (n0 : 0 ≤ n) (n1 : n ≤ 400) (k0 : 0 ≤ kb) (k1 : kb ≤ 400) (l0 : 0 ≤ l) (l1 : l ≤ 400) :
    Calls Try.prog 75 #[.pointer (some ⟨gb, 0, none⟩), .agg #[.int .i64 p, .int .i64 kb, .int .i64 l, .int .i64 a, .int .i64 s]] w fun e w' => e = .returned (.bool (hitsB b n ⟨p, kb, l, a, s⟩)) ∧ Below w.heap.size w w' := by
  have q1 : IntKind.i64.wrap (b + n) = b + n := IntWalk.i64_in _ ⟨by omega, by omega⟩
  have q2 : IntKind.i64.wrap (kb + l) = kb + l := IntWalk.i64_in _ ⟨by omega, by omega⟩
  by_cases h0 : 0 < l
  · by_cases h1 : 0 < n
    · by_cases h2 : kb < b + n
      · by_cases h3 : b < kb + l
        · have e : hitsB b n ⟨p, kb, l, a, s⟩ = true := by unfold hitsB; simp; try omega
          have t0 : decide (0 < l) = true := by simp; omega
          have t1 : decide (0 < n) = true := by simp; omega
          have t2 : decide (kb < b + n) = true := by simp; omega
          have t3 : decide (b < kb + l) = true := by simp; omega
          rw [e]
          clear e
          go_enter Try.func75, Try.ntmps75
          go_wp2
          go_quiet (fail)
          go_wp2
          go_ret
          exact ⟨rfl, by repeat (first | with_reducible exact Below.refl _ _ | with_reducible refine ext_alloc ?_ _ | with_reducible refine ext_drewN ?_ _ | with_reducible refine ext_drew ?_)⟩
        · have e : hitsB b n ⟨p, kb, l, a, s⟩ = false := by unfold hitsB; simp; try omega
          have t0 : decide (0 < l) = true := by simp; omega
          have t1 : decide (0 < n) = true := by simp; omega
          have t2 : decide (kb < b + n) = true := by simp; omega
          have t3 : decide (b < kb + l) = false := by simp; omega
          rw [e]
          clear e
          go_enter Try.func75, Try.ntmps75
          go_wp2
          go_quiet (fail)
          go_wp2
          go_ret
          exact ⟨rfl, by repeat (first | with_reducible exact Below.refl _ _ | with_reducible refine ext_alloc ?_ _ | with_reducible refine ext_drewN ?_ _ | with_reducible refine ext_drew ?_)⟩
      · have e : hitsB b n ⟨p, kb, l, a, s⟩ = false := by unfold hitsB; simp; try omega
        have t0 : decide (0 < l) = true := by simp; omega
        have t1 : decide (0 < n) = true := by simp; omega
        have t2 : decide (kb < b + n) = false := by simp; omega
        rw [e]
        clear e
        go_enter Try.func75, Try.ntmps75
        go_wp2
        go_quiet (fail)
        go_wp2
        go_ret
        exact ⟨rfl, by repeat (first | with_reducible exact Below.refl _ _ | with_reducible refine ext_alloc ?_ _ | with_reducible refine ext_drewN ?_ _ | with_reducible refine ext_drew ?_)⟩
    · have e : hitsB b n ⟨p, kb, l, a, s⟩ = false := by unfold hitsB; simp; try omega
      have t0 : decide (0 < l) = true := by simp; omega
      have t1 : decide (0 < n) = false := by simp; omega
      rw [e]
      clear e
      go_enter Try.func75, Try.ntmps75
      go_wp2
      go_quiet (fail)
      go_wp2
      go_ret
      exact ⟨rfl, by repeat (first | with_reducible exact Below.refl _ _ | with_reducible refine ext_alloc ?_ _ | with_reducible refine ext_drewN ?_ _ | with_reducible refine ext_drew ?_)⟩
  · have e : hitsB b n ⟨p, kb, l, a, s⟩ = false := by unfold hitsB; simp; try omega
    have t0 : decide (0 < l) = false := by simp; omega
    rw [e]
    clear e
    go_enter Try.func75, Try.ntmps75
    go_wp2
    go_quiet (fail)
    go_wp2
    go_ret
    exact ⟨rfl, by repeat (first | with_reducible exact Below.refl _ _ | with_reducible refine ext_alloc ?_ _ | with_reducible refine ext_drewN ?_ _ | with_reducible refine ext_drew ?_)⟩
abbrev z5 : List Value := [.int .i64 0, .int .i64 0, .int .i64 0, .int .i64 0, .int .i64 0]
abbrev z7 : List Value := [.bool false, .int .i64 0, .int .i64 0, .int .i64 0, .int .i64 0, .int .i64 0, .int .i64 0]
/-- What key and val leave. -/
def SweptPost (w : World) (gb : Nat) (many : Int) (g off : Nat) (zs : List Value) (h : Bool) (e : Ending) (w' : World) : Prop :=
  e = .returned (.tuple #[]) ∧ ∃ w1, Below w.heap.size w w1 ∧ w' = if h then (w1.setCells g off zs).setCell ⟨gb, 2, none⟩ (.int .i64 (many + 1)) else w1
set_option maxHeartbeats 1000000 in
theorem swkey_any (gb g off : Nat) (b n many p kb l a s : Int) (w : World) (T : TypeId) (hB : Bk w gb T #[.int .i64 b, .int .i64 n, .int .i64 many]) (hne : g ≠ gb) (hgl : g < w.heap.size)
    (hf : ∀ j, w.frozen? ⟨g, j, none⟩ = false)
    (e0 : w.cell? ⟨g, off, none⟩ = some (.int .i64 p)) (e1 : w.cell? ⟨g, off + 1, none⟩ = some (.int .i64 kb)) (e2 : w.cell? ⟨g, off + 2, none⟩ = some (.int .i64 l)) (e3 : w.cell? ⟨g, off + 3, none⟩ = some (.int .i64 a)) (e4 : w.cell? ⟨g, off + 4, none⟩ = some (.int .i64 s))
    (b0 : 0 ≤ b) (b1 : b ≤ 400) (n0 : 0 ≤ n) (n1 : n ≤ 400) (m0 : 0 ≤ many) (m1 : many ≤ 10000) (k0 : 0 ≤ kb) (k1 : kb ≤ 400) (l0 : 0 ≤ l) (l1 : l ≤ 400) :
    Calls Try.prog 59 #[.pointer (some ⟨gb, 0, none⟩), .pointer (some ⟨g, off, none⟩)] w (SweptPost w gb many g off z5 (hitsB b n ⟨p, kb, l, a, s⟩)) := by
  have hits := hits_any gb b n p kb l a s w (hB.cell 0) (hB.cell 1) hB.lt b0 b1 n0 n1 k0 k1 l0 l1
  have fz : ∀ (x : Later w) j, x.val.frozen? ⟨g, j, none⟩ = false := fun x j => (x.ok.frozen (p := ⟨g, j, none⟩) hgl).trans (hf j)
  have fb : ∀ (x : Later w) j, x.val.frozen? ⟨gb, j, none⟩ = false := fun x j => (x.bk hB).frozen j
  have q2 : ∀ (x : Later w), x.val.cell? ⟨gb, 2, none⟩ = some (.int .i64 many) := fun x => (x.bk hB).cell 2
  have d0 : ∀ (x : Later w), x.val.cell? ⟨g, off, none⟩ = some (.int .i64 p) := fun x => (x.ok.cell (p := ⟨g, off, none⟩) hgl).trans e0
  have d1 : ∀ (x : Later w), x.val.cell? ⟨g, off + 1, none⟩ = some (.int .i64 kb) := fun x => (x.ok.cell (p := ⟨g, off + 1, none⟩) hgl).trans e1
  have d2 : ∀ (x : Later w), x.val.cell? ⟨g, off + 2, none⟩ = some (.int .i64 l) := fun x => (x.ok.cell (p := ⟨g, off + 2, none⟩) hgl).trans e2
  have d3 : ∀ (x : Later w), x.val.cell? ⟨g, off + 3, none⟩ = some (.int .i64 a) := fun x => (x.ok.cell (p := ⟨g, off + 3, none⟩) hgl).trans e3
  have d4 : ∀ (x : Later w), x.val.cell? ⟨g, off + 4, none⟩ = some (.int .i64 s) := fun x => (x.ok.cell (p := ⟨g, off + 4, none⟩) hgl).trans e4
  have hne2 : gb ≠ g := fun e => hne e.symm
  cases hh : hitsB b n ⟨p, kb, l, a, s⟩
  · rw [hh] at hits
    have HI := Lib.hid hits
    clear hits hB hh fz fb q2 d0 d1 d2 d3 d4
    go_enter Try.func59, Try.ntmps59
    go_wp2_with (go_at_call 75; ((with_reducible refine HI.out.mono ?_); rintro e w1 ⟨rfl, hb1⟩))
    go_end0
    exact ⟨rfl, _, hb1, rfl⟩
  · rw [hh] at hits
    have HI := Lib.hid hits
    clear hits hB hh
    go_enter Try.func59, Try.ntmps59
    go_wp2_with (go_at_call 75; ((with_reducible refine HI.out.mono ?_); rintro e w1 ⟨rfl, hb1⟩; obtain ⟨y, rfl⟩ := later_call (Below.refl _ _) hb1))
    go_end0
    exact ⟨rfl, _, y.ok, rfl⟩
set_option maxHeartbeats 1000000 in
theorem swval_any (gb g off : Nat) (b n many : Int) (is : Bool) (vn p kb l a s : Int) (w : World) (T : TypeId) (hB : Bk w gb T #[.int .i64 b, .int .i64 n, .int .i64 many]) (hne : g ≠ gb) (hgl : g < w.heap.size)
    (hf : ∀ j, w.frozen? ⟨g, j, none⟩ = false)
    (e0 : w.cell? ⟨g, off, none⟩ = some (.bool is)) (e1 : w.cell? ⟨g, off + 1, none⟩ = some (.int .i64 vn)) (e2 : w.cell? ⟨g, off + 2, none⟩ = some (.int .i64 p)) (e3 : w.cell? ⟨g, off + 3, none⟩ = some (.int .i64 kb)) (e4 : w.cell? ⟨g, off + 4, none⟩ = some (.int .i64 l)) (e5 : w.cell? ⟨g, off + 5, none⟩ = some (.int .i64 a)) (e6 : w.cell? ⟨g, off + 6, none⟩ = some (.int .i64 s))
    (b0 : 0 ≤ b) (b1 : b ≤ 400) (n0 : 0 ≤ n) (n1 : n ≤ 400) (m0 : 0 ≤ many) (m1 : many ≤ 10000) (k0 : 0 ≤ kb) (k1 : kb ≤ 400) (l0 : 0 ≤ l) (l1 : l ≤ 400) :
    Calls Try.prog 60 #[.pointer (some ⟨gb, 0, none⟩), .pointer (some ⟨g, off, none⟩)] w (SweptPost w gb many g off z7 (is && hitsB b n ⟨p, kb, l, a, s⟩)) := by
  have hits := hits_any gb b n p kb l a s w (hB.cell 0) (hB.cell 1) hB.lt b0 b1 n0 n1 k0 k1 l0 l1
  have fz : ∀ (x : Later w) j, x.val.frozen? ⟨g, j, none⟩ = false := fun x j => (x.ok.frozen (p := ⟨g, j, none⟩) hgl).trans (hf j)
  have fb : ∀ (x : Later w) j, x.val.frozen? ⟨gb, j, none⟩ = false := fun x j => (x.bk hB).frozen j
  have q2 : ∀ (x : Later w), x.val.cell? ⟨gb, 2, none⟩ = some (.int .i64 many) := fun x => (x.bk hB).cell 2
  have d0 : ∀ (x : Later w), x.val.cell? ⟨g, off, none⟩ = some (.bool is) := fun x => (x.ok.cell (p := ⟨g, off, none⟩) hgl).trans e0
  have d1 : ∀ (x : Later w), x.val.cell? ⟨g, off + 1, none⟩ = some (.int .i64 vn) := fun x => (x.ok.cell (p := ⟨g, off + 1, none⟩) hgl).trans e1
  have d2 : ∀ (x : Later w), x.val.cell? ⟨g, off + 2, none⟩ = some (.int .i64 p) := fun x => (x.ok.cell (p := ⟨g, off + 2, none⟩) hgl).trans e2
  have d3 : ∀ (x : Later w), x.val.cell? ⟨g, off + 3, none⟩ = some (.int .i64 kb) := fun x => (x.ok.cell (p := ⟨g, off + 3, none⟩) hgl).trans e3
  have d4 : ∀ (x : Later w), x.val.cell? ⟨g, off + 4, none⟩ = some (.int .i64 l) := fun x => (x.ok.cell (p := ⟨g, off + 4, none⟩) hgl).trans e4
  have d5 : ∀ (x : Later w), x.val.cell? ⟨g, off + 5, none⟩ = some (.int .i64 a) := fun x => (x.ok.cell (p := ⟨g, off + 5, none⟩) hgl).trans e5
  have d6 : ∀ (x : Later w), x.val.cell? ⟨g, off + 6, none⟩ = some (.int .i64 s) := fun x => (x.ok.cell (p := ⟨g, off + 6, none⟩) hgl).trans e6
  have hne2 : gb ≠ g := fun e => hne e.symm
  cases is
  · simp only [Bool.false_and]
    clear hits hB fz fb q2 d0 d1 d2 d3 d4 d5 d6
    go_enter Try.func60, Try.ntmps60
    go_wp2
    go_end0
    exact ⟨rfl, _, Below.refl _ _, rfl⟩
  · simp only [Bool.true_and]
    cases hh : hitsB b n ⟨p, kb, l, a, s⟩
    · rw [hh] at hits
      have HI := Lib.hid hits
      clear hits hB hh fz fb q2 d0 d1 d2 d3 d4 d5 d6
      go_enter Try.func60, Try.ntmps60
      go_wp2_with (go_at_call 75; ((with_reducible refine HI.out.mono ?_); rintro e w1 ⟨rfl, hb1⟩))
      go_end0
      exact ⟨rfl, _, hb1, rfl⟩
    · rw [hh] at hits
      have HI := Lib.hid hits
      clear hits hB hh
      go_enter Try.func60, Try.ntmps60
      go_wp2_with (go_at_call 75; ((with_reducible refine HI.out.mono ?_); rintro e w1 ⟨rfl, hb1⟩; obtain ⟨y, rfl⟩ := later_call (Below.refl _ _) hb1))
      go_end0
      exact ⟨rfl, _, y.ok, rfl⟩
end Go.Proofs.Ytlbhnkbchiklnaa
