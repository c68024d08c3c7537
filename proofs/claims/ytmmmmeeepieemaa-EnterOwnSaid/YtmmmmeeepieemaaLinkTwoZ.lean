import Derived.Test.YtmmmmeeepieemaaLiftModsZ
import Derived.Test.YtmmmmeeepieemaaLinkedZ
/- link.Link at whatever modules, and at the first of them. -/
namespace Go.Proofs.Ytmmmmeeepieemaa
open Go Go.RowKit Go.Shelf
set_option linter.unusedVariables false
theorem link_some (ao : Option Addr) (n c : Nat) (rs : List ModR) (ms : List ModV) (w : World) (h : Mods w ao n rs ms) :
    Calls Try.prog 11 #[.slice ao n c] w fun e w' => ∃ (ma pa ea : Option Addr) (mn mc pn pc en ec : Nat) (er : Int), e = .returned (.tuple #[.agg #[.slice ma mn mc, .slice pa pn pc, .slice ea en ec], .int .i64 er]) ∧ (er = 0 ↔ LinkOk isNameB ms) ∧ Below w.heap.size w w' := by
  by_cases hok : LinkOk isNameB ms
  · refine (link_good ao n c rs ms w h hok).mono ?_
    rintro e w' ⟨vm, vp, ve, rfl, om, op, oe, hb⟩
    obtain ⟨ma, mn, mc, rfl⟩ := own_shape om
    obtain ⟨pa, pn, pc, rfl⟩ := own_shape op
    obtain ⟨ea, en, ec, rfl⟩ := own_shape oe
    exact ⟨ma, pa, ea, mn, mc, pn, pc, en, ec, 0, rfl, ⟨fun _ => hok, fun _ => rfl⟩, hb⟩
  · refine (link_bad ao n c rs ms w h hok).mono ?_
    rintro e w' ⟨er, her, rfl, hb⟩
    exact ⟨none, none, none, 0, 0, 0, 0, 0, 0, er, rfl, ⟨fun h => absurd h her, fun h => absurd h hok⟩, hb⟩
theorem mods_take {ao : Option Addr} {n : Nat} {rs : List ModR} {ms : List ModV} {w : World} (h : Mods w ao n rs ms) {k : Nat} (hk : k ≤ n) : Mods w ao k (rs.take k) (ms.take k) := by
  refine ⟨sl_front h.sl hk, by rw [List.length_take, List.length_take, h.len], fun i r m h1 h2 => ?_⟩
  have hi : i < k := by
    have := (List.getElem?_eq_some_iff.1 h1).1
    rw [List.length_take] at this
    omega
  rw [List.getElem?_take_of_lt hi] at h1 h2
  exact h.at_ i r m h1 h2
theorem own_slc {α : Type} [El α] {w : World} {base : Nat} {T : TypeId} {v : Value} {xs : List α} (h : Own w base T v xs) : ∃ ao c, v = .slice ao xs.length c ∧ Sl w ao xs.length xs ∧ xs.length ≤ c := by
  rcases h.form with ⟨rfl, rfl⟩ | ⟨g, cap, rfl, _, _, h4, _⟩
  · exact ⟨none, 0, rfl, Sl.nil _ _, Nat.le_refl _⟩
  · obtain ⟨ao, c, e, hs, _⟩ := h.sl
    injection e with e1 _ e3
    subst e1 e3
    exact ⟨_, _, rfl, hs, h4⟩
theorem rest_wide (n m : Int) (w : World) (hm : 0 < m) (hm2 : m ≤ 4611686018427387904) :
    Calls Try.prog 13 #[.int .i64 n, .int .i64 m] w fun e w' => e = .returned (.int .i64 (n % m)) ∧ w = w' := by
  have hb := tmod_bd n m hm
  by_cases hh : n.tmod m < 0
  · go_enter Try.func13, Try.ntmps13
    go_wp2
    go_ret
    exact ⟨ret_int (by rw [← rest_fix n m hm, if_pos hh]), rfl⟩
  · go_enter Try.func13, Try.ntmps13
    go_wp2
    go_ret
    exact ⟨ret_int (by rw [← rest_fix n m hm, if_neg (by omega)]), rfl⟩
end Go.Proofs.Ytmmmmeeepieemaa
