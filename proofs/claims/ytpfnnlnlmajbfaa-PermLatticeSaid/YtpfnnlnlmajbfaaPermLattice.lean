/- PermLattice: to be within is an order on permission sets, with the bitwise and as meet and the bitwise or as join. For every three ints, without any condition. -/
import Derived.Test.YtpfnnlnlmajbfaaPerm
import Derived.Test.YtpfnnlnlmajbfaaLift
import Derived.Deep.DeepCutAuto
namespace Go.Proofs.Ytpfnnlnlmajbfaa
open Go.ChangeShapes Go.WideShapes Go.ChangeAt Go.RowKit

set_option maxHeartbeats 4000000 in
set_option maxRecDepth 100000 in
theorem permLattice_walk (a b c : Int) (w0 : (Lit.int .i64 a).wf = true) (w1 : (Lit.int .i64 b).wf = true) (_w2 : (Lit.int .i64 c).wf = true) (w : World) :
    Calls Try.prog 4 #[.int .i64 a, .int .i64 b, .int .i64 c] w fun e w' => e = .returned (.bool true) ∧ Below w.heap.size w w' := by
  have b0 := wf_bd w0
  have b1 := wf_bd w1
  have e1 := withinB_refl a
  have e2 : withinB 3 1 = false := by decide
  have e3 : withinB a b = true → withinB b a = true → (a != b) = false := fun h k => by
    rw [withinB_anti b0 b1 h k]; simp
  have e4 : withinB a b = true → withinB b c = true → withinB a c = true := fun h k => withinB_trans h k
  have x1 := withinB_and_l a b
  have x2 := withinB_and_r a b
  have x3 := withinB_or_l a b
  have x4 := withinB_or_r a b
  have x5 := (withinB_meet a b c).symm
  have x6 := (withinB_join a b c).symm
  have y1 := bits_and_bv a b
  have y2 := bits_or_bv a b
  change _ = andI a b at y1
  change _ = orI a b at y2
  clear b0 b1 w0 w1 _w2
  go_enter Try.func4, Try.ntmps4
  go_upto_region 2 with (go_at_call 17; refine (within_any _ _ _).mono ?_; rintro e w' ⟨rfl, rfl⟩)
  go_cut [52] (fun s wx => s = .bool false ∧ wx = w)
  case first =>
    go_wp2_with (go_at_call 17; refine (within_any _ _ _).mono ?_; rintro e w' ⟨rfl, rfl⟩)
    all_goals (go_meet; exact ⟨rfl, rfl⟩)
  case rest =>
    obtain ⟨rfl, rfl⟩ := hcut
    go_wp2_with (go_at_call 17; refine (within_any _ _ _).mono ?_; rintro e w' ⟨rfl, rfl⟩)
    all_goals (go_ret; exact ⟨rfl, Below.refl _ _⟩)

end Go.Proofs.Ytpfnnlnlmajbfaa
