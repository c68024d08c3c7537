import Derived.BigQuiet
import Derived.Deep.QuietTactic
import Derived.Test.YtmffdgeebhpacaaDoorBuC
import Derived.Test.YtmffdgeebhpacaaDoorKeysSeqZ
import Derived.Test.YtmffdgeebhpacaaDoorRows
import Derived.WalkKit
import Derived.WalkSpells
/- What the reference's Eq and Has compute of keys. -/
namespace Go.Proofs.YtmffdgeebhpacaaDoor
open Go.RowKit
set_option linter.unusedVariables false
theorem sl_keyS {w : World} {ao : Option Addr} {n : Nat} {ks : List KeyV} (h : Sl w ao n ks) {i : Nat} (hi : i < n) {x : KeyV} (hx : ks[i]? = some x) : ∃ a, ao = some a ∧ (a.add (i * 5)).block < w.heap.size ∧
    w.cell? (a.add (i * 5)) = some (.int .i64 x.perm) ∧ w.cell? ⟨(a.add (i * 5)).block, (a.add (i * 5)).off + 1, none⟩ = some (.int .i64 x.base) ∧ w.cell? ⟨(a.add (i * 5)).block, (a.add (i * 5)).off + 2, none⟩ = some (.int .i64 x.len) ∧ w.cell? ⟨(a.add (i * 5)).block, (a.add (i * 5)).off + 3, none⟩ = some (.int .i64 x.at_) ∧ w.cell? ⟨(a.add (i * 5)).block, (a.add (i * 5)).off + 4, none⟩ = some (.int .i64 x.seal_) := by
  obtain ⟨a, y, e, hb, hy, hc⟩ := h.at hi
  obtain rfl : y = x := by rw [hx] at hy; injection hy with hy; exact hy.symm
  refine ⟨a, e, by rw [el_block]; exact hb, ?_⟩
  rw [← add_more a (i * 5) 1 (by decide), ← add_more a (i * 5) 2 (by decide), ← add_more a (i * 5) 3 (by decide), ← add_more a (i * 5) 4 (by decide)]
  exact ⟨hc 0 _ rfl, hc 1 _ rfl, hc 2 _ rfl, hc 3 _ rfl, hc 4 _ rfl⟩
theorem run_neq_keyS (x y : KeyV) (W : World) : (binOp .neq 23 x.val y.val).run Tryd.prog W = .ok (.bool (!decide (x = y))) W := by
  obtain ⟨a, b, c, d, e⟩ := x
  obtain ⟨a2, b2, c2, d2, e2⟩ := y
  simp only [KeyV.val, KeyV.mk.injEq]
  rw [run_neq_struct]
  go_simp
  repeat' split
  all_goals simp [*]
theorem run_eql_keyS (x y : KeyV) (W : World) : (binOp .eql 23 x.val y.val).run Tryd.prog W = .ok (.bool (decide (x = y))) W := by
  obtain ⟨a, b, c, d, e⟩ := x
  obtain ⟨a2, b2, c2, d2, e2⟩ := y
  simp only [KeyV.val, KeyV.mk.injEq]
  rw [run_eql_struct]
  go_simp
  repeat' split
  all_goals simp [*]
theorem eqk_upto {xs ys : List KeyV} (h : xs.length = ys.length) : (xs = ys) ↔ ∀ i, i < xs.length → xs[i]? = ys[i]? :=
  ⟨fun e i _ => by rw [e], fun h1 => List.ext_getElem? fun i => by
    rcases Nat.lt_or_ge i xs.length with h2 | h2
    · exact h1 i h2
    · rw [List.getElem?_eq_none h2, List.getElem?_eq_none (by omega)]⟩
end Go.Proofs.YtmffdgeebhpacaaDoor
