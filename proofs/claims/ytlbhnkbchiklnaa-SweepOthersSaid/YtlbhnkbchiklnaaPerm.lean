/- What perm.Within computes. -/
import Derived.Test.YtlbhnkbchiklnaaRows
import Derived.WalkKit
import Derived.WalkSpells
import Derived.Test.YtlbhnkbchiklnaaBits
namespace Go.Proofs.Ytlbhnkbchiklnaa
open Go.RowKit

theorem within_any (a b : Int) (w : World) :
    Calls Try.prog 55 #[.int .i64 a, .int .i64 b] w fun e w' => e = .returned (.bool (withinB a b)) ∧ w = w' := by
  go_enter Try.func55, Try.ntmps55
  go_wp2
  go_ret
  exact ⟨ret_bool (by rw [bits_andNot_bv]; unfold withinB andNotI; rw [Bool.eq_iff_iff]; simp), rfl⟩
end Go.Proofs.Ytlbhnkbchiklnaa
