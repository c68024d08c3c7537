import Derived.Test.YtjlncoodkejncaaGreatDoorBuA
import Derived.Test.YtjlncoodkejncaaGreatDoorRows
import Derived.WalkKit
import Derived.WalkSpells
/- What the functions of package num, and the remainder of the references, compute. -/
namespace Go.Proofs.YtjlncoodkejncaaGreatDoor
open Go.RowKit

theorem wrap_any (n : Int) (w : World) :
    Calls Tryz.prog 39 #[.int .i64 n] w fun e w' => e = .returned (.int .i64 (wrap32 n)) ∧ w = w' := by
  go_enter Tryz.func39, Tryz.ntmps39
  go_wp2
  go_ret
  exact ⟨ret_int (w64_32 n), rfl⟩

theorem rest_any (n m : Int) (w : World) (hm : 0 < m) (hm2 : m ≤ 4294967296) :
    Calls Tryz.prog 10 #[.int .i64 n, .int .i64 m] w fun e w' => e = .returned (.int .i64 (n % m)) ∧ w = w' := by
  have hb := tmod_bd n m hm
  by_cases hh : n.tmod m < 0
  · go_enter Tryz.func10, Tryz.ntmps10
    go_wp2
    go_ret
    exact ⟨ret_int (by rw [← rest_fix n m hm, if_pos hh]), rfl⟩
  · go_enter Tryz.func10, Tryz.ntmps10
    go_wp2
    go_ret
    exact ⟨ret_int (by rw [← rest_fix n m hm, if_neg (by omega)]), rfl⟩
end Go.Proofs.YtjlncoodkejncaaGreatDoor
