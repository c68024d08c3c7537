import Derived.Test.YtpjhjefjbkjhkaaDoorBuA
import Derived.Test.YtpjhjefjbkjhkaaDoorRows
import Derived.WalkKit
import Derived.WalkSpells
/- What the functions of package num, and the remainder of the references, compute. -/
namespace Go.Proofs.YtpjhjefjbkjhkaaDoor
open Go.RowKit

theorem rest_any (n m : Int) (w : World) (hm : 0 < m) (hm2 : m ≤ 4294967296) :
    Calls Tryd.prog 4 #[.int .i64 n, .int .i64 m] w fun e w' => e = .returned (.int .i64 (n % m)) ∧ w = w' := by
  have hb := tmod_bd n m hm
  by_cases hh : n.tmod m < 0
  · go_enter Tryd.func4, Tryd.ntmps4
    go_wp2
    go_ret
    exact ⟨ret_int (by rw [← rest_fix n m hm, if_pos hh]), rfl⟩
  · go_enter Tryd.func4, Tryd.ntmps4
    go_wp2
    go_ret
    exact ⟨ret_int (by rw [← rest_fix n m hm, if_neg (by omega)]), rfl⟩
end Go.Proofs.YtpjhjefjbkjhkaaDoor
