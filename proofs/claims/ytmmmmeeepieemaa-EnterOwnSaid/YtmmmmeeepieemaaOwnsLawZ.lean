import Derived.Test.YtmmmmeeepieemaaBuY
import Derived.Test.YtmmmmeeepieemaaFrontLawZ
/- What is found by a name: plain data. -/
namespace Go.Proofs.Ytmmmmeeepieemaa
open Go.RowKit
set_option linter.unusedVariables false
theorem findE_mem : ∀ {es : List EntryV} {e : EntryV}, e ∈ es → (es.map (·.name)).Nodup → findE es e.name = some e
  | x :: es, e, h, hn => by
    rw [List.map_cons, List.nodup_cons] at hn
    unfold findE
    rw [List.find?_cons]
    rcases List.mem_cons.1 h with rfl | h'
    · simp
    · have hne : x.name ≠ e.name := fun e' => hn.1 (by rw [e']; exact List.mem_map_of_mem h')
      simp only [hne, decide_false]
      exact findE_mem h' hn.2
theorem entries_mem : ∀ {ms : List ModV} {b n i : Nat} {m : ModV} {y : NamV}, ms[i]? = some m → y ∈ m.ex → entryOf (b + total (ms.take i)) (n + i) m y ∈ entriesF b n ms
  | [], b, n, i, m, y, h, _ => by simp at h
  | x :: ms, b, n, 0, m, y, h, hy => by
    simp at h
    subst h
    rw [entriesF]
    exact List.mem_append_left _ (List.mem_map.2 ⟨y, hy, by simp [total_nil]⟩)
  | x :: ms, b, n, i + 1, m, y, h, hy => by
    have ih := entries_mem (ms := ms) (b := b + (x.code.length + x.data.length)) (n := n + 1) (i := i) (by simpa using h) hy
    rw [entriesF, List.take_succ_cons, total_cons]
    refine List.mem_append_right _ ?_
    rw [show b + (x.code.length + x.data.length + total (ms.take i)) = b + (x.code.length + x.data.length) + total (ms.take i) by omega, show n + (i + 1) = n + 1 + i by omega]
    exact ih
/-- Each exported name is found. -/
theorem owns_hit {nm : ByteArray → Bool} {ms : List ModV} (h : LinkOk nm ms) {i : Nat} {m : ModV} {y : NamV} (hm : ms[i]? = some m) (hy : y ∈ m.ex) : findE (entriesF 0 0 ms) y.name = some (entryOf (total (ms.take i)) i m y) := by
  have h1 := entries_mem (b := 0) (n := 0) hm hy
  rw [Nat.zero_add, Nat.zero_add] at h1
  exact findE_mem (e := entryOf (total (ms.take i)) i m y) h1 (by rw [entries_names]; exact h.nd)
/-- No other name is. -/
theorem owns_miss {ms : List ModV} {s : ByteArray} (h : ∀ m ∈ ms, ∀ y ∈ m.ex, y.name ≠ s) : findE (entriesF 0 0 ms) s = none := by
  cases hf : findE (entriesF 0 0 ms) s with
  | none => rfl
  | some e =>
    obtain ⟨h1, h2⟩ := find_in hf
    have h3 : s ∈ exNames ms := by
      rw [← entries_names ms 0 0, ← h2]
      exact List.mem_map_of_mem h1
    unfold exNames at h3
    obtain ⟨m, hm, h4⟩ := List.mem_flatMap.1 h3
    obtain ⟨y, hy, e'⟩ := List.mem_map.1 h4
    exact absurd e' (h m hm y hy)
end Go.Proofs.Ytmmmmeeepieemaa
