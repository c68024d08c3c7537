/- What perm.Within computes. -/
import Derived.Test.YtcdcmbehnccicaaRows
import Derived.WalkKit
import Derived.WalkSpells
import Derived.Test.YtcdcmbehnccicaaBits
namespace Go.Proofs.Ytcdcmbehnccicaa
open Go.RowKit

theorem within_any (a b : Int) (w : World) :
    Calls Try.prog 29 #[.int .i64 a, .int .i64 b] w fun e w' => e = .returned (.bool (withinB a b)) ∧ w = w' := by
  go_enter Try.func29, Try.ntmps29
  go_wp2
  go_ret
  exact ⟨ret_bool (by rw [bits_andNot_bv]; unfold withinB andNotI; rw [Bool.eq_iff_iff]; simp), rfl⟩
end Go.Proofs.Ytcdcmbehnccicaa
