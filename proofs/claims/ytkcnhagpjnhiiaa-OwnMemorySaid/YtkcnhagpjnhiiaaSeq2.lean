/- One cell of an element of a row of the call's own, stored. -/
import Derived.Test.YtkcnhagpjnhiiaaSeq
namespace Go.Proofs.Ytkcnhagpjnhiiaa
open El (cl)
open Go.RowKit
set_option linter.unusedVariables false
section
variable {α : Type} [El α]
theorem cls_set_cell : ∀ {xs : List α} {i j : Nat} {x y : α} {u : Value}, xs[i]? = some x → j < El.k α → cl y = (cl x).set j u → (cls xs).set (i * El.k α + j) u = cls (xs.set i y)
  | [], i, j, x, y, u, h, _, _ => by simp at h
  | z :: xs, 0, j, x, y, u, h, hj, hc => by
    simp at h
    subst h
    rw [cls_cons, List.set_cons_zero, cls_cons, Nat.zero_mul, Nat.zero_add, List.set_append_left _ _ (by rw [El.len]; exact hj), hc]
  | z :: xs, i + 1, j, x, y, u, h, hj, hc => by
    rw [cls_cons, List.set_cons_succ, cls_cons]
    have e : (i + 1) * El.k α + j = (cl z).length + (i * El.k α + j) := by rw [El.len, Nat.add_mul]; omega
    rw [e, List.set_append_right _ _ (by omega), Nat.add_sub_cancel_left, cls_set_cell (by simpa using h) hj hc]
variable {w : World} {base : Nat} {T : TypeId} {xs : List α}
/-- One cell of one element stored. -/
theorem own_set_cell {g cap i j : Nat} {x y : α} {u : Value} (h : Own w base T (.slice (some ⟨g, 0, none⟩) xs.length cap) xs) (hx : xs[i]? = some x) (hj : j < El.k α) (hc : cl y = (cl x).set j u) :
    Own (w.setCell ⟨g, i * El.k α + j, none⟩ u) base T (.slice (some ⟨g, 0, none⟩) xs.length cap) (xs.set i y) ∧ w.grownBy (w.setCell ⟨g, i * El.k α + j, none⟩ u) (some g) := by
  obtain ⟨h1, h2⟩ := World.ownsRow.stored h (i * El.k α + j) u
  refine ⟨?_, h2⟩
  rw [cls_set_cell hx hj hc] at h1
  unfold Own
  rw [List.length_set]
  exact h1
/-- An owned row that has elements, as a slice value written out. -/
theorem Own.some {v : Value} (h : Own w base T v xs) (hn : 0 < xs.length) : ∃ g cap, v = .slice (some ⟨g, 0, none⟩) xs.length cap ∧ base ≤ g ∧ g < w.heap.size ∧ Sl w (some ⟨g, 0, none⟩) xs.length xs ∧ ∀ j, w.frozen? ⟨g, j, none⟩ = false := by
  rcases h.form with ⟨_, rfl⟩ | ⟨g, cap, rfl, h1, h2, h3, h4⟩
  · simp at hn
  · obtain ⟨ao, c, e, hs, _⟩ := h.sl
    injection e with e _ _
    subst e
    exact ⟨g, cap, rfl, h1, h2, hs, fun j => h.frozen rfl j⟩
end
theorem findIdx_at {α : Type} {t : α → Bool} {l : List α} {k : Nat} {x : α} (hk : l[k]? = some x) (ht : t x = true) (hl : ∀ (i : Nat) (y : α), i < k → l[i]? = some y → t y = false) : l.findIdx? t = some k := by
  have hlt : k < l.length := (List.getElem?_eq_some_iff.1 hk).1
  rw [List.findIdx?_eq_some_iff_getElem]
  refine ⟨hlt, ?_, fun j hj => ?_⟩
  · rw [List.getElem?_eq_getElem hlt] at hk
    injection hk with hk
    rw [hk]; exact ht
  · have := hl j (l[j]) hj (List.getElem?_eq_getElem (by omega))
    simpa using this
theorem findIdx_none {α : Type} {t : α → Bool} {l : List α} (hl : ∀ (i : Nat) (y : α), l[i]? = some y → t y = false) : l.findIdx? t = none := by
  rw [List.findIdx?_eq_none_iff]
  intro x hx
  obtain ⟨i, hi⟩ := List.mem_iff_getElem?.1 hx
  exact hl i x hi
/-- The first that is so, or -1. -/
def fi {α : Type} (t : α → Bool) (l : List α) : Int := match l.findIdx? t with | some k => (k : Int) | none => -1
end Go.Proofs.Ytkcnhagpjnhiiaa
