import Derived.Test.YtmmmmeeepieemaaLinkMathZ
/- Modules without one that the others do not need: plain data. -/
namespace Go.Proofs.Ytmmmmeeepieemaa
open Go.RowKit
set_option linter.unusedVariables false
/-- All but one. -/
def without {α : Type} (l : List α) (k : Nat) : List α := l.take k ++ l.drop (k + 1)
theorem without_split {α : Type} {l : List α} {k : Nat} {x : α} (h : l[k]? = some x) : l = l.take k ++ x :: l.drop (k + 1) := by
  obtain ⟨hk, e⟩ := List.getElem?_eq_some_iff.1 h
  rw [← e, ← List.drop_eq_getElem_cons hk, List.take_append_drop]
theorem without_sub {α : Type} {l : List α} {k : Nat} {x : α} (h : x ∈ without l k) : x ∈ l := by
  rcases List.mem_append.1 h with h | h
  · exact List.mem_of_mem_take h
  · exact List.mem_of_mem_drop h
theorem fits_ok {nm : ByteArray → Bool} {ms : List ModV} {k : Nat} {m : ModV} (h : LinkOk nm ms) (hm : ms[k]? = some m) (hno : ∀ m' ∈ without ms k, ∀ x ∈ m'.im, ∀ y ∈ m.ex, x.name ≠ y.name) : LinkOk nm (without ms k) := by
  have e := without_split hm
  have hl := congrArg List.length e
  have he : exNames ms = exNames (ms.take k) ++ (m.ex.map (·.name) ++ exNames (ms.drop (k + 1))) := by
    conv => lhs; rw [e]
    unfold exNames
    rw [List.flatMap_append, List.flatMap_cons]
  have he2 : exNames (without ms k) = exNames (ms.take k) ++ exNames (ms.drop (k + 1)) := exNames_append _ _
  refine ⟨?_, fun m' hm' => h.m m' (without_sub hm'), ?_, ?_, fun s hs => ?_⟩
  · have := h.l
    unfold without
    rw [List.length_append, List.length_cons] at hl
    rw [List.length_append]; omega
  · have := h.nd
    rw [he] at this
    rw [he2]
    exact this.sublist (List.Sublist.append (List.Sublist.refl _) (List.sublist_append_right _ _))
  · have h1 := h.t
    have h2 : total ms = total (ms.take k) + total (m :: ms.drop (k + 1)) := by rw [← total_append, ← e]
    rw [total_cons] at h2
    unfold without
    rw [total_append]; omega
  · obtain ⟨m', hm', hs⟩ := List.mem_flatMap.1 hs
    obtain ⟨x, hx, rfl⟩ := List.mem_map.1 hs
    have h1 := h.im x.name (List.mem_flatMap.2 ⟨m', without_sub hm', List.mem_map.2 ⟨x, hx, rfl⟩⟩)
    rw [he] at h1
    rw [he2]
    rcases List.mem_append.1 h1 with h1 | h1
    · exact List.mem_append_left _ h1
    · rcases List.mem_append.1 h1 with h1 | h1
      · obtain ⟨y, hy, e⟩ := List.mem_map.1 h1
        exact absurd e.symm (hno m' hm' x hx y hy)
      · exact List.mem_append_right _ h1
end Go.Proofs.Ytmmmmeeepieemaa
