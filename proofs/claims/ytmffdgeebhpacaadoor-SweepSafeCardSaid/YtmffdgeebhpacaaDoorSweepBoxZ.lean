import Derived.Test.YtmffdgeebhpacaaDoorBuR
import Derived.Test.YtmffdgeebhpacaaDoorSafeMathZ
import Derived.Test.YtmffdgeebhpacaaDoorSweepCZ
/- sweep.Sweep at a machine in a box. -/
namespace Go.Proofs.YtmffdgeebhpacaaDoor
open Go.RowKit
set_option linter.unusedVariables false
/-- What a sweep comes to. -/
def sweepF (m : MV) (b n : Int) : MV × Int × Int := if m.check ≠ 0 then (zeroMV, 0, m.check) else if 0 ≤ b ∧ b ≤ 400 ∧ 0 ≤ n ∧ n ≤ 400 - b then (m.swept b n, swCount b n m.R m.c m.mem m.stk, 0) else (zeroMV, 0, 1)
theorem swept_okM {m : MV} (h : m.Ok) (b n : Int) : (m.swept b n).Ok := ⟨swept_ok h.1, by unfold MV.swept; simp only [List.length_map]; exact h.2⟩
theorem sweepF_ok {m : MV} (h8 : m.R.length = 8) {b n : Int} (he : (sweepF m b n).2.2 = 0) : m.Ok ∧ (0 ≤ b ∧ b ≤ 400 ∧ 0 ≤ n ∧ n ≤ 400 - b) ∧ (sweepF m b n).1 = m.swept b n := by
  unfold sweepF at he ⊢
  by_cases hc : m.check = 0
  · rw [if_neg (by simp [hc])] at he ⊢
    by_cases hb : 0 ≤ b ∧ b ≤ 400 ∧ 0 ≤ n ∧ n ≤ 400 - b
    · rw [if_pos hb]; exact ⟨ok_of_check h8 hc, hb, rfl⟩
    · rw [if_neg hb] at he; cases he
  · rw [if_pos hc] at he; exact absurd he hc
theorem sweepF_h8 {m : MV} (h8 : m.R.length = 8) (b n : Int) : (sweepF m b n).1.R.length = 8 := by
  by_cases he : (sweepF m b n).2.2 = 0
  · obtain ⟨hk, _, e⟩ := sweepF_ok h8 he
    rw [e]; exact (swept_okM hk b n).2
  · unfold sweepF at he ⊢
    by_cases hc : m.check = 0
    · rw [if_neg (by simp [hc])] at he ⊢
      by_cases hb : 0 ≤ b ∧ b ≤ 400 ∧ 0 ≤ n ∧ n ≤ 400 - b
      · rw [if_pos hb] at he; exact absurd rfl he
      · rw [if_neg hb]; rfl
    · rw [if_pos hc]; rfl
theorem sweep_own {g : Nat} {m : MV} {cs : Array Value} {W : World} (h : MBox g m cs W) {b n : Int} (hb : I64 b) (hn : I64 n) {X : MV} {cnt er : Int} (hr : sweepF m b n = (X, cnt, er)) :
    Calls Tryd.prog 23 #[.agg cs, .int .i64 b, .int .i64 n] W fun e w' => ∃ cs', e = .returned (.tuple #[.agg cs', .int .i64 cnt, .int .i64 er]) ∧ MOwn W.heap.size X cs' w' ∧ Below W.heap.size W w' := by
  have hX : X.R.length = 8 := by have := sweepF_h8 h.h8 b n; rw [hr] at this; exact this
  obtain ⟨ma, sa, oa, mc, sc, oc, rfl, h1, h2, h3⟩ := h.row
  have key : Calls Tryd.prog 23 #[.agg (mcs m.R m.c (.slice ma m.mem.length mc) (.slice sa m.stk.length sc) (.slice oa m.out.length oc)), .int .i64 b, .int .i64 n] W (SwPost W X.R X.c X.mem X.stk X.out cnt er) := by
    unfold sweepF at hr
    by_cases hc : m.check = 0
    · rw [if_neg (by simp [hc])] at hr
      by_cases hbn : 0 ≤ b ∧ b ≤ 400 ∧ 0 ≤ n ∧ n ≤ 400 - b
      · rw [if_pos hbn] at hr
        cases hr
        exact sweep_ok m.R m.c m.mem m.stk m.out ma sa oa mc sc oc b n W h.h8 h1 h2 h3 (stepCheck_zero.1 hc) hbn.1 hbn.2.1 hbn.2.2.1 hbn.2.2.2
      · rw [if_neg hbn] at hr
        cases hr
        exact sweep_bad m.R m.c m.mem m.stk m.out ma sa oa mc sc oc b n W h.h8 h1 h2 h3 hc hbn hb hn
    · rw [if_pos hc] at hr
      cases hr
      exact sweep_err m.R m.c m.mem m.stk m.out ma sa oa mc sc oc b n W h.h8 h1 h2 h3 hc
  refine key.mono ?_
  rintro e w' ⟨vm, vs, vo, rfl, om, os, oo, hb'⟩
  exact ⟨_, rfl, ⟨hX, vm, vs, vo, rfl, om, os, oo⟩, hb'⟩
end Go.Proofs.YtmffdgeebhpacaaDoor
