import Derived.BigQuiet
import Derived.Deep.QuietTactic
import Derived.Laws.StructEq
import Derived.Test.YtpjhjefjbkjhkaaGreatDoorBuW
import Derived.Test.YtpjhjefjbkjhkaaGreatDoorRows
import Derived.WalkKit
import Derived.WalkSpells
/- The reference's Eq at two rows that are the same: labels, imports, numbers. -/
namespace Go.Proofs.YtpjhjefjbkjhkaaGreatDoor
open Go.RowKit
set_option linter.unusedVariables false
set_option linter.unusedSimpArgs false
theorem neqs_Label (x : NamV) (W : World) : (binOp .neq 83 (.agg #[.string x.name, .int .i64 x.at_]) (.agg #[.string x.name, .int .i64 x.at_])).run Tryz.prog W = .ok (.bool false) W := by
  rw [run_neq_struct]
  go_simp
set_option maxHeartbeats 2000000 in
theorem eqs_Label (ao bo : Option Addr) (n c d : Nat) (xs : List NamV) (w : World) (hx : Sl w ao n xs) (hy : Sl w bo n xs) :
    Calls Tryz.prog 33 #[.slice ao n c, .slice bo n d] w fun e w' => e = .returned (.bool true) ∧ Below w.heap.size w w' := by
  have hlx := hx.len
  have hm := hx.max
  unfold maxLen at hm
  have g1 : ((n : Int) != (n : Int)) = false := by simp
  have HX := Lib.hid hx
  have HY := Lib.hid hy
  clear hx hy
  go_enter Tryz.func33, Tryz.ntmps33
  go_wp2
  go_loopw [14] (fun i wr => ∃ k : Nat, k ≤ n ∧ i = .int .i64 k ∧ Below w.heap.size w wr) (fun i _ => n - (intOf i).toNat)
  case atStart => exact ⟨0, Nat.zero_le _, rfl, Below.refl _ _⟩
  case round =>
    obtain ⟨k, hk, rfl, hb⟩ := hrel
    have HB := Lib.hid hb
    clear hb
    by_cases hlt : k < n
    · have q0 : (0 : Int) ≤ k := by omega
      have q1 : (k : Int) < n := by omega
      obtain ⟨x, hgx⟩ : ∃ x, xs[k]? = some x := ⟨_, List.getElem?_eq_getElem (by omega)⟩
      obtain ⟨ad, rfl, bx, e0, e1⟩ := sl_NamV (HX.out.below HB.out) hlt hgx
      obtain ⟨bd, rfl, by_, g0, g1⟩ := sl_NamV (HY.out.below HB.out) hlt hgx
      have q := fun W => neqs_Label x W
      clear hgx
      go_wp2
      go_quiet (fail)
      go_wp2
      go_roundw
      case rel => exact ⟨k + 1, by omega, by go_num, by repeat (first | exact HB.out | with_reducible refine ext_alloc ?_ _ | with_reducible refine ext_drewN ?_ _ | with_reducible refine ext_drew ?_)⟩
      case measure => simp [intOf]; omega
    · have q1 : ¬ ((k : Int) < n) := by omega
      go_wp2
      go_ret
      exact ⟨rfl, HB.out⟩
set_option maxHeartbeats 2000000 in
theorem eqs_Int (ao bo : Option Addr) (n c d : Nat) (xs : List Int) (w : World) (hx : Sl w ao n xs) (hy : Sl w bo n xs) :
    Calls Tryz.prog 19 #[.slice ao n c, .slice bo n d] w fun e w' => e = .returned (.bool true) ∧ Below w.heap.size w w' := by
  have hlx := hx.len
  have hm := hx.max
  unfold maxLen at hm
  have g1 : ((n : Int) != (n : Int)) = false := by simp
  have HX := Lib.hid hx
  have HY := Lib.hid hy
  clear hx hy
  go_enter Tryz.func19, Tryz.ntmps19
  go_wp2
  go_loopw [14] (fun i wr => ∃ k : Nat, k ≤ n ∧ i = .int .i64 k ∧ Below w.heap.size w wr) (fun i _ => n - (intOf i).toNat)
  case atStart => exact ⟨0, Nat.zero_le _, rfl, Below.refl _ _⟩
  case round =>
    obtain ⟨k, hk, rfl, hb⟩ := hrel
    have HB := Lib.hid hb
    clear hb
    by_cases hlt : k < n
    · have q0 : (0 : Int) ≤ k := by omega
      have q1 : (k : Int) < n := by omega
      obtain ⟨x, hgx⟩ : ∃ x, xs[k]? = some x := ⟨_, List.getElem?_eq_getElem (by omega)⟩
      obtain ⟨ad, rfl, bx, e0⟩ := sl_int (HX.out.below HB.out) hlt hgx
      obtain ⟨bd, rfl, by_, g0⟩ := sl_int (HY.out.below HB.out) hlt hgx
      have q : (x != x) = false := by simp
      clear hgx
      go_wp2
      go_roundw
      case rel => exact ⟨k + 1, by omega, by go_num, by repeat (first | exact HB.out | with_reducible refine ext_alloc ?_ _ | with_reducible refine ext_drewN ?_ _ | with_reducible refine ext_drew ?_)⟩
      case measure => simp [intOf]; omega
    · have q1 : ¬ ((k : Int) < n) := by omega
      go_wp2
      go_ret
      exact ⟨rfl, HB.out⟩
end Go.Proofs.YtpjhjefjbkjhkaaGreatDoor
