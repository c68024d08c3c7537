/- What the functions of package num, and the remainder of the references, compute. -/
import Derived.Test.YtcdcmbehnccicaaRows
import Derived.WalkKit
import Derived.WalkSpells
import Derived.Test.YtcdcmbehnccicaaMath
namespace Go.Proofs.Ytcdcmbehnccicaa
open Go.RowKit

theorem wrap_any (n : Int) (w : World) :
    Calls Try.prog 27 #[.int .i64 n] w fun e w' => e = .returned (.int .i64 (wrap32 n)) ∧ w = w' := by
  go_enter Try.func27, Try.ntmps27
  go_wp2
  go_ret
  exact ⟨ret_int (w64_32 n), rfl⟩

theorem rest_any (n m : Int) (w : World) (hm : 0 < m) (hm2 : m ≤ 4294967296) :
    Calls Try.prog 12 #[.int .i64 n, .int .i64 m] w fun e w' => e = .returned (.int .i64 (n % m)) ∧ w = w' := by
  have hb := tmod_bd n m hm
  by_cases hh : n.tmod m < 0
  · go_enter Try.func12, Try.ntmps12
    go_wp2
    go_ret
    exact ⟨ret_int (by rw [← rest_fix n m hm, if_pos hh]), rfl⟩
  · go_enter Try.func12, Try.ntmps12
    go_wp2
    go_ret
    exact ⟨ret_int (by rw [← rest_fix n m hm, if_neg (by omega)]), rfl⟩
end Go.Proofs.Ytcdcmbehnccicaa
