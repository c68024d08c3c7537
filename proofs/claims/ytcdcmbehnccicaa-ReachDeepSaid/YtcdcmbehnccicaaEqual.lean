/- Comparisons of keys, values, frames and registers. -/
import Derived.Test.YtcdcmbehnccicaaFrame
import Derived.Test.YtcdcmbehnccicaaRows
import Derived.WalkKit
import Derived.Laws.StructEq
namespace Go.Proofs.Ytcdcmbehnccicaa
open Go.RowKit
set_option linter.unusedVariables false
set_option linter.unusedSimpArgs false
theorem eqIn_key (d : Nat) (p b l a s p' b' l' a' s' : Int) (w : World) : (Op.equalIn (d + 2) 23 (.agg #[.int .i64 p, .int .i64 b, .int .i64 l, .int .i64 a, .int .i64 s]) (.agg #[.int .i64 p', .int .i64 b', .int .i64 l', .int .i64 a', .int .i64 s'])).run Try.prog w = .ok (decide ((⟨p, b, l, a, s⟩ : KeyV) = ⟨p', b', l', a', s'⟩)) w := by
  rw [run_equalIn_agg w _ _ _ _ (by kernel_rfl) (by kernel_rfl)]
  go_simp
  by_cases h0 : p = p'
  · subst h0
    by_cases h1 : b = b'
    · subst h1
      by_cases h2 : l = l'
      · subst h2
        by_cases h3 : a = a'
        · subst h3
          by_cases h4 : s = s'
          · subst h4
            simp
          · simp [h4]
        · simp [h3]
      · simp [h2]
    · simp [h1]
  · simp [h0]
theorem eqIn_val (d : Nat) (vi vi' : Bool) (vn vp vb vl va vs vn' vp' vb' vl' va' vs' : Int) (w : World) : (Op.equalIn (d + 3) 25 (.agg #[.bool vi, .int .i64 vn, .int .i64 vp, .int .i64 vb, .int .i64 vl, .int .i64 va, .int .i64 vs]) (.agg #[.bool vi', .int .i64 vn', .int .i64 vp', .int .i64 vb', .int .i64 vl', .int .i64 va', .int .i64 vs'])).run Try.prog w = .ok (decide ((⟨vi, vn, ⟨vp, vb, vl, va, vs⟩⟩ : ValV) = ⟨vi', vn', ⟨vp', vb', vl', va', vs'⟩⟩)) w := by
  rw [run_equalIn_agg w _ _ _ _ (by kernel_rfl) (by kernel_rfl)]
  have hk := fun W => eqIn_key d vp vb vl va vs vp' vb' vl' va' vs' W
  have hr : decide ((⟨vi, vn, ⟨vp, vb, vl, va, vs⟩⟩ : ValV) = ⟨vi', vn', ⟨vp', vb', vl', va', vs'⟩⟩) = (decide (vi = vi') && (decide (vn = vn') && decide ((⟨vp, vb, vl, va, vs⟩ : KeyV) = ⟨vp', vb', vl', va', vs'⟩))) := by
    rw [← Bool.decide_and, ← Bool.decide_and]; exact decide_eq_decide.2 (by rw [ValV.mk.injEq])
  rw [hr]
  clear hr
  generalize decide ((⟨vp, vb, vl, va, vs⟩ : KeyV) = ⟨vp', vb', vl', va', vs'⟩) = q at *
  go_simp
  cases q <;> by_cases h0 : vi = vi' <;> by_cases h1 : vn = vn' <;> simp [h0, h1]
theorem eqIn_frame (d : Nat) (vi vi' : Bool) (cp cb cl_ ca cs cp' cb' cl_' ca' cs' vn vp vb vl va vs vn' vp' vb' vl' va' vs' : Int) (w : World) : (Op.equalIn (d + 4) 68 (.agg #[.int .i64 cp, .int .i64 cb, .int .i64 cl_, .int .i64 ca, .int .i64 cs, .bool vi, .int .i64 vn, .int .i64 vp, .int .i64 vb, .int .i64 vl, .int .i64 va, .int .i64 vs]) (.agg #[.int .i64 cp', .int .i64 cb', .int .i64 cl_', .int .i64 ca', .int .i64 cs', .bool vi', .int .i64 vn', .int .i64 vp', .int .i64 vb', .int .i64 vl', .int .i64 va', .int .i64 vs'])).run Try.prog w = .ok (decide ((⟨⟨cp, cb, cl_, ca, cs⟩, ⟨vi, vn, ⟨vp, vb, vl, va, vs⟩⟩⟩ : FrameV) = ⟨⟨cp', cb', cl_', ca', cs'⟩, ⟨vi', vn', ⟨vp', vb', vl', va', vs'⟩⟩⟩)) w := by
  rw [run_equalIn_agg w _ _ _ _ (by kernel_rfl) (by kernel_rfl)]
  have hk := fun W => eqIn_key (d + 1) cp cb cl_ ca cs cp' cb' cl_' ca' cs' W
  have hv := fun W => eqIn_val d vi vi' vn vp vb vl va vs vn' vp' vb' vl' va' vs' W
  have hr : decide ((⟨⟨cp, cb, cl_, ca, cs⟩, ⟨vi, vn, ⟨vp, vb, vl, va, vs⟩⟩⟩ : FrameV) = ⟨⟨cp', cb', cl_', ca', cs'⟩, ⟨vi', vn', ⟨vp', vb', vl', va', vs'⟩⟩⟩) = (decide ((⟨cp, cb, cl_, ca, cs⟩ : KeyV) = ⟨cp', cb', cl_', ca', cs'⟩) && decide ((⟨vi, vn, ⟨vp, vb, vl, va, vs⟩⟩ : ValV) = ⟨vi', vn', ⟨vp', vb', vl', va', vs'⟩⟩)) := by
    rw [← Bool.decide_and]; exact decide_eq_decide.2 (by rw [FrameV.mk.injEq])
  rw [hr]
  clear hr
  generalize decide ((⟨vi, vn, ⟨vp, vb, vl, va, vs⟩⟩ : ValV) = ⟨vi', vn', ⟨vp', vb', vl', va', vs'⟩⟩) = q at *
  generalize decide ((⟨cp, cb, cl_, ca, cs⟩ : KeyV) = ⟨cp', cb', cl_', ca', cs'⟩) = r at *
  go_simp
  cases q <;> cases r <;> simp
theorem run_eql_key (x y : KeyV) (W : World) : (binOp .eql 23 x.val y.val).run Try.prog W = .ok (.bool (decide (x = y))) W := by
  simp only [KeyV.val]
  rw [run_eql_struct, eqIn_key 9998]
  rfl
theorem run_neq_key (x y : KeyV) (W : World) : (binOp .neq 23 x.val y.val).run Try.prog W = .ok (.bool (!decide (x = y))) W := by
  simp only [KeyV.val]
  rw [run_neq_struct, eqIn_key 9998]
  rfl
theorem run_neq_frame (x y : FrameV) (W : World) : (binOp .neq 68 x.val y.val).run Try.prog W = .ok (.bool (!decide (x = y))) W := by
  simp only [FrameV.val]
  rw [run_neq_struct, eqIn_frame 9996]
  rfl
end Go.Proofs.Ytcdcmbehnccicaa
