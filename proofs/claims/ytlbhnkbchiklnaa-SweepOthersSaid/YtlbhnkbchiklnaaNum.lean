/- What the functions of package num, and the remainder of the references, compute. -/
import Derived.Test.YtlbhnkbchiklnaaRows
import Derived.WalkKit
import Derived.WalkSpells
import Derived.Test.YtlbhnkbchiklnaaMath
namespace Go.Proofs.Ytlbhnkbchiklnaa
open Go.RowKit

theorem wrap_any (n : Int) (w : World) :
    Calls Try.prog 72 #[.int .i64 n] w fun e w' => e = .returned (.int .i64 (wrap32 n)) ∧ w = w' := by
  go_enter Try.func72, Try.ntmps72
  go_wp2
  go_ret
  exact ⟨ret_int (w64_32 n), rfl⟩

theorem rest_any (n m : Int) (w : World) (hm : 0 < m) (hm2 : m ≤ 4294967296) :
    Calls Try.prog 19 #[.int .i64 n, .int .i64 m] w fun e w' => e = .returned (.int .i64 (n % m)) ∧ w = w' := by
  have hb := tmod_bd n m hm
  by_cases hh : n.tmod m < 0
  · go_enter Try.func19, Try.ntmps19
    go_wp2
    go_ret
    exact ⟨ret_int (by rw [← rest_fix n m hm, if_pos hh]), rfl⟩
  · go_enter Try.func19, Try.ntmps19
    go_wp2
    go_ret
    exact ⟨ret_int (by rw [← rest_fix n m hm, if_neg (by omega)]), rfl⟩
end Go.Proofs.Ytlbhnkbchiklnaa
