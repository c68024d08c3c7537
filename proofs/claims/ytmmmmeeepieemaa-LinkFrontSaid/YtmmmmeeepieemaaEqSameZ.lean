import Derived.BigQuiet
import Derived.Deep.QuietTactic
import Derived.Laws.StructEq
import Derived.Test.YtmmmmeeepieemaaModRowZ
import Derived.Test.YtmmmmeeepieemaaRows
import Derived.WalkKit
import Derived.WalkSpells
/- The reference's Eq at two rows that are the same. -/
namespace Go.Proofs.Ytmmmmeeepieemaa
open Go.RowKit
set_option linter.unusedVariables false
set_option linter.unusedSimpArgs false
theorem neq_samePlace (x : PlaceV) (W : World) : (binOp .neq 38 (.agg #[.int .i64 x.base, .int .i64 x.code, .int .i64 x.data, .int .i64 x.seal_]) (.agg #[.int .i64 x.base, .int .i64 x.code, .int .i64 x.data, .int .i64 x.seal_])).run Try.prog W = .ok (.bool false) W := by
  rw [run_neq_struct]
  go_simp
set_option maxHeartbeats 2000000 in
theorem eqs_Place (ao bo : Option Addr) (n c d : Nat) (xs : List PlaceV) (w : World) (hx : Sl w ao n xs) (hy : Sl w bo n xs) :
    Calls Try.prog 15 #[.slice ao n c, .slice bo n d] w fun e w' => e = .returned (.bool true) ∧ Below w.heap.size w w' := by
  have hlx := hx.len
  have hm := hx.max
  unfold maxLen at hm
  have g1 : ((n : Int) != (n : Int)) = false := by simp
  have HX := Lib.hid hx
  have HY := Lib.hid hy
  clear hx hy
  go_enter Try.func15, Try.ntmps15
  go_wp2
  go_loopw [14] (fun i wr => ∃ k : Nat, k ≤ n ∧ i = .int .i64 k ∧ Below w.heap.size w wr) (fun i _ => n - (intOf i).toNat)
  case atStart => exact ⟨0, Nat.zero_le _, rfl, Below.refl _ _⟩
  case round =>
    obtain ⟨k, hk, rfl, hb⟩ := hrel
    have HB := Lib.hid hb
    clear hb
    by_cases hlt : k < n
    · have q0 : (0 : Int) ≤ k := by omega
      have q1 : (k : Int) < n := by omega
      obtain ⟨x, hgx⟩ : ∃ x, xs[k]? = some x := ⟨_, List.getElem?_eq_getElem (by omega)⟩
      obtain ⟨ad, rfl, bx, e0, e1, e2, e3⟩ := sl_PlaceV (HX.out.below HB.out) hlt hgx
      obtain ⟨bd, rfl, by_, f0, f1, f2, f3⟩ := sl_PlaceV (HY.out.below HB.out) hlt hgx
      have q := fun W => neq_samePlace x W
      clear hgx
      go_wp2
      go_quiet (fail)
      go_wp2
      go_roundw
      case rel => exact ⟨k + 1, by omega, by go_num, by repeat (first | exact HB.out | with_reducible refine ext_alloc ?_ _ | with_reducible refine ext_drewN ?_ _ | with_reducible refine ext_drew ?_)⟩
      case measure => simp [intOf]; omega
    · have q1 : ¬ ((k : Int) < n) := by omega
      go_wp2
      go_ret
      exact ⟨rfl, HB.out⟩
theorem neq_sameEntry (x : EntryV) (W : World) : (binOp .neq 51 (.agg #[.string x.name, .int .i64 x.code.perm, .int .i64 x.code.base, .int .i64 x.code.len, .int .i64 x.code.at_, .int .i64 x.code.seal_, .int .i64 x.data.perm, .int .i64 x.data.base, .int .i64 x.data.len, .int .i64 x.data.at_, .int .i64 x.data.seal_]) (.agg #[.string x.name, .int .i64 x.code.perm, .int .i64 x.code.base, .int .i64 x.code.len, .int .i64 x.code.at_, .int .i64 x.code.seal_, .int .i64 x.data.perm, .int .i64 x.data.base, .int .i64 x.data.len, .int .i64 x.data.at_, .int .i64 x.data.seal_])).run Try.prog W = .ok (.bool false) W := by
  rw [run_neq_struct]
  go_simp
set_option maxHeartbeats 2000000 in
theorem eqs_Entry (ao bo : Option Addr) (n c d : Nat) (xs : List EntryV) (w : World) (hx : Sl w ao n xs) (hy : Sl w bo n xs) :
    Calls Try.prog 16 #[.slice ao n c, .slice bo n d] w fun e w' => e = .returned (.bool true) ∧ Below w.heap.size w w' := by
  have hlx := hx.len
  have hm := hx.max
  unfold maxLen at hm
  have g1 : ((n : Int) != (n : Int)) = false := by simp
  have HX := Lib.hid hx
  have HY := Lib.hid hy
  clear hx hy
  go_enter Try.func16, Try.ntmps16
  go_wp2
  go_loopw [14] (fun i wr => ∃ k : Nat, k ≤ n ∧ i = .int .i64 k ∧ Below w.heap.size w wr) (fun i _ => n - (intOf i).toNat)
  case atStart => exact ⟨0, Nat.zero_le _, rfl, Below.refl _ _⟩
  case round =>
    obtain ⟨k, hk, rfl, hb⟩ := hrel
    have HB := Lib.hid hb
    clear hb
    by_cases hlt : k < n
    · have q0 : (0 : Int) ≤ k := by omega
      have q1 : (k : Int) < n := by omega
      obtain ⟨x, hgx⟩ : ∃ x, xs[k]? = some x := ⟨_, List.getElem?_eq_getElem (by omega)⟩
      obtain ⟨ad, rfl, bx, e0, e1, e2, e3, e4, e5, e6, e7, e8, e9, e10⟩ := sl_EntryV (HX.out.below HB.out) hlt hgx
      obtain ⟨bd, rfl, by_, f0, f1, f2, f3, f4, f5, f6, f7, f8, f9, f10⟩ := sl_EntryV (HY.out.below HB.out) hlt hgx
      have q := fun W => neq_sameEntry x W
      clear hgx
      go_wp2
      go_quiet (fail)
      go_wp2
      go_roundw
      case rel => exact ⟨k + 1, by omega, by go_num, by repeat (first | exact HB.out | with_reducible refine ext_alloc ?_ _ | with_reducible refine ext_drewN ?_ _ | with_reducible refine ext_drew ?_)⟩
      case measure => simp [intOf]; omega
    · have q1 : ¬ ((k : Int) < n) := by omega
      go_wp2
      go_ret
      exact ⟨rfl, HB.out⟩
end Go.Proofs.Ytmmmmeeepieemaa
