import Derived.Test.YtmmmmeeepieemaaFrontLawZ
/- What each cell of a module holds: plain data. -/
namespace Go.Proofs.Ytmmmmeeepieemaa
open Go.RowKit
set_option linter.unusedVariables false
/-- An entry that may be: a pair of one seal, the first one to go on with, the second one not. -/
structure PairOk (e : EntryV) : Prop where
  c : e.code.perm = 5
  d : e.data.perm = 27
  s : e.code.seal_ = e.data.seal_
  p : 1 ≤ e.code.seal_ ∧ e.code.seal_ ≤ 63
theorem entries_pair : ∀ (ms : List ModV) (b n : Nat), n + ms.length ≤ 62 → ∀ e ∈ entriesF b n ms, PairOk e
  | [], b, n, _, e, he => by cases he
  | m :: ms, b, n, hn, e, he => by
    rw [List.length_cons] at hn
    rw [entriesF] at he
    rcases List.mem_append.1 he with he | he
    · obtain ⟨x, hx, rfl⟩ := List.mem_map.1 he
      exact ⟨rfl, rfl, rfl, by unfold entryOf; simp only; omega⟩
    · exact entries_pair ms _ _ (by omega) e he
/-- Is it the first, or the second, cell of a wish? -/
def firstB (c cl : Nat) (l : List NamV) : Bool := l.any fun y => decide ((c : Int) = cl + y.at_)
def secondB (c cl : Nat) (l : List NamV) : Bool := l.any fun y => decide ((c : Int) = cl + y.at_ + 1)
theorem firstB_snoc (c cl : Nat) (l : List NamV) (y : NamV) : firstB c cl (l ++ [y]) = (firstB c cl l || decide ((c : Int) = cl + y.at_)) := by unfold firstB; simp
theorem secondB_snoc (c cl : Nat) (l : List NamV) (y : NamV) : secondB c cl (l ++ [y]) = (secondB c cl l || decide ((c : Int) = cl + y.at_ + 1)) := by unfold secondB; simp
theorem whole_first {nm : ByteArray → Bool} {ms : List ModV} (h : LinkOk nm ms) {n c : Nat} {m : ModV} (hm : ms[n]? = some m) (hf : firstB c m.code.length m.im = true) :
    ∃ e, PairOk e ∧ (linkMem ms)[total (ms.take n) + c]? = some ⟨true, 0, e.code⟩ ∧ (linkMem ms)[total (ms.take n) + c + 1]? = some ⟨true, 0, e.data⟩ := by
  obtain ⟨y, hy, e⟩ := List.any_eq_true.1 hf
  have hc : (c : Int) = m.code.length + y.at_ := by simpa using e
  have hmo := h.m m (List.mem_of_getElem? hm)
  obtain ⟨_, y0, y1⟩ := hmo.i1 y hy
  have hin : ∀ m ∈ ms, imIn m := fun m hm => (h.m m hm).imIn
  have hs := total_take_succ hm
  have hl := total_take_le ms (n + 1)
  have hml := mem0_len ms
  have e1 : total (ms.take n) + c = total (ms.take n) + m.code.length + y.at_.toNat := by omega
  obtain ⟨h1, h2⟩ := wireM_hit (entriesF 0 0 ms) (total (ms.take n) + m.code.length) m.im (mem0 ms) y hy (fun x hx => (hmo.i1 x hx).2.1) hmo.i2 (by omega)
  have a1 := wireF_at (entriesF 0 0 ms) ms 0 (mem0 ms) n c m hin hm (by omega) (by omega)
  have a2 := wireF_at (entriesF 0 0 ms) ms 0 (mem0 ms) n (c + 1) m hin hm (by omega) (by omega)
  rw [Nat.zero_add] at a1 a2
  rw [← Nat.add_assoc] at a2
  have hn : y.name ∈ exNames ms := h.im _ (List.mem_flatMap.2 ⟨m, List.mem_of_getElem? hm, List.mem_map.2 ⟨y, hy, rfl⟩⟩)
  rw [← entries_names ms 0 0] at hn
  obtain ⟨en, hen⟩ := findE_some hn
  rw [hen] at h1 h2
  refine ⟨en, entries_pair ms 0 0 (by have := h.l; omega) en (by unfold findE at hen; exact List.mem_of_find?_eq_some hen), ?_, ?_⟩
  · unfold linkMem
    rw [a1, e1, h1]; rfl
  · unfold linkMem
    rw [a2, show total (ms.take n) + c + 1 = total (ms.take n) + m.code.length + y.at_.toNat + 1 by omega, h2]; rfl
theorem whole_none {nm : ByteArray → Bool} {ms : List ModV} (h : LinkOk nm ms) {n c : Nat} {m : ModV} {x : Int} (hm : ms[n]? = some m) (hx : (m.code ++ m.data)[c]? = some x) (hf : firstB c m.code.length m.im = false) (hs : secondB c m.code.length m.im = false) :
    (linkMem ms)[total (ms.take n) + c]? = some ⟨false, x, zeroK⟩ := by
  have hcl : c < m.code.length + m.data.length := by have := (List.getElem?_eq_some_iff.1 hx).1; rwa [List.length_append] at this
  have hmo := h.m m (List.mem_of_getElem? hm)
  have hin : ∀ m ∈ ms, imIn m := fun m hm => (h.m m hm).imIn
  have hts := total_take_succ hm
  have hl := total_take_le ms (n + 1)
  have hml := mem0_len ms
  have a1 := wireF_at (entriesF 0 0 ms) ms 0 (mem0 ms) n c m hin hm hcl (by omega)
  rw [Nat.zero_add] at a1
  have a2 := mem0_at ms n c m hm hcl
  unfold linkMem
  rw [a1, wireM_miss _ _ _ _ _ (by omega) (fun y hy => ?_), a2]
  · unfold ModV.cells; rw [hx]; rfl
  · have f1 := List.any_eq_false.1 hf y hy
    have f2 := List.any_eq_false.1 hs y hy
    simp at f1 f2
    have := (hmo.i1 y hy).2.1
    omega
end Go.Proofs.Ytmmmmeeepieemaa
