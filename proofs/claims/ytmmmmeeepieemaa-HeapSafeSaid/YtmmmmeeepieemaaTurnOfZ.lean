import Derived.Test.YtmmmmeeepieemaaBuF
import Derived.Test.YtmmmmeeepieemaaTurnZ
/- What Of of a turn computes. -/
namespace Go.Proofs.Ytmmmmeeepieemaa
open Go.RowKit
set_option linter.unusedVariables false
theorem of_any (a b c m : Int) (hm : 0 < m) (hm2 : m ≤ 4294967296) (w : World) :
    Calls Try.prog 29 #[.agg #[.int .i64 a, .int .i64 b, .int .i64 c], .int .i64 m] w fun e w' => e = .returned (.int .i64 (a % m)) ∧ Below w.heap.size w w' := by
  go_enter Try.func29, Try.ntmps29
  go_wp2_with (go_at_call 13; refine (rest_any _ _ _ hm hm2).mono ?_; rintro e w' ⟨rfl, rfl⟩)
  go_ret
  exact ⟨rfl, (Below.refl _ _).alloc (Nat.le_refl _) _⟩
end Go.Proofs.Ytmmmmeeepieemaa
