import Derived.Test.YtmmmmeeepieemaaLinkMathZ
/- Laws of linking: plain data. -/
namespace Go.Proofs.Ytmmmmeeepieemaa
open Go.RowKit
set_option linter.unusedVariables false
def EntOk (es : List EntryV) : Prop := ∀ e ∈ es, e.code.Ok ∧ e.data.Ok
theorem find_in {es : List EntryV} {s : ByteArray} {e : EntryV} (h : findE es s = some e) : e ∈ es ∧ e.name = s := by
  unfold findE at h
  exact ⟨List.mem_of_find?_eq_some h, by simpa using List.find?_some h⟩
theorem find_ok {es : List EntryV} (h : EntOk es) (s : ByteArray) : ((findE es s).getD zeroE).code.Ok ∧ ((findE es s).getD zeroE).data.Ok := by
  cases hf : findE es s with
  | none => exact ⟨zeroK_ok, zeroK_ok⟩
  | some e => exact h e (find_in hf).1
theorem entries_ok {nm : ByteArray → Bool} : ∀ (ms : List ModV) (b n : Nat), (∀ m ∈ ms, ModOk nm m) → b + total ms ≤ 400 → n + ms.length ≤ 62 → EntOk (entriesF b n ms)
  | [], b, n, _, _, _ => fun e he => by cases he
  | m :: ms, b, n, h, hb, hn => by
    rw [total_cons] at hb
    rw [List.length_cons] at hn
    intro e he
    rw [entriesF] at he
    rcases List.mem_append.1 he with he | he
    · obtain ⟨x, hx, rfl⟩ := List.mem_map.1 he
      obtain ⟨_, h1, h2⟩ := (h m (by simp)).e1 x hx
      unfold entryOf
      exact ⟨⟨by simp, by simp, by simp only; omega, by simp only; omega, by simp only; omega, by simp only; omega, by simp only; omega, by simp only; omega, by simp only; omega, by simp only; omega⟩, ⟨by simp, by simp, by simp only; omega, by simp only; omega, by simp only; omega, by simp only; omega, by simp only; omega, by simp only; omega, by simp only; omega, by simp only; omega⟩⟩
    · exact entries_ok ms _ _ (fun m hm => h m (List.mem_cons_of_mem _ hm)) (by omega) (by omega) e he
def AllOk (M : List ValV) : Prop := ∀ v ∈ M, v.Ok
theorem key_okV {k : KeyV} (h : k.Ok) : (⟨true, 0, k⟩ : ValV).Ok := .inl ⟨rfl, h, rfl⟩
theorem wire1_ok {es : List EntryV} (he : EntOk es) (b : Nat) {M : List ValV} (h : AllOk M) (x : NamV) : AllOk (wire1 es b M x) := by
  intro v hv
  unfold wire1 at hv
  have hf := find_ok he x.name
  rcases List.mem_or_eq_of_mem_set hv with hv | rfl
  · rcases List.mem_or_eq_of_mem_set hv with hv | rfl
    · exact h v hv
    · exact key_okV hf.1
  · exact key_okV hf.2
theorem wireM_ok {es : List EntryV} (he : EntOk es) (b : Nat) : ∀ (l : List NamV) {M : List ValV}, AllOk M → AllOk (wireM es b M l)
  | [], M, h => h
  | x :: l, M, h => wireM_ok he b l (wire1_ok he b h x)
theorem wireF_ok {es : List EntryV} (he : EntOk es) : ∀ (ms : List ModV) (b : Nat) {M : List ValV}, AllOk M → AllOk (wireF es b M ms)
  | [], b, M, h => h
  | m :: ms, b, M, h => wireF_ok he ms _ (wireM_ok he _ m.im h)
theorem mem0_ok {nm : ByteArray → Bool} {ms : List ModV} (h : ∀ m ∈ ms, ModOk nm m) : AllOk (mem0 ms) := by
  intro v hv
  unfold mem0 at hv
  obtain ⟨m, hm, hv⟩ := List.mem_flatMap.1 hv
  obtain ⟨n, hn, rfl⟩ := List.mem_map.1 hv
  have : -2147483648 ≤ n ∧ n ≤ 2147483647 := by
    unfold ModV.cells at hn
    rcases List.mem_append.1 hn with hn | hn
    · exact (h m hm).n1 n hn
    · exact (h m hm).n2 n hn
  exact .inr ⟨rfl, this.1, this.2, rfl⟩
theorem LinkOk.ents {nm : ByteArray → Bool} {ms : List ModV} (h : LinkOk nm ms) : EntOk (entriesF 0 0 ms) := entries_ok ms 0 0 h.m (by have := h.t; omega) (by have := h.l; omega)
theorem LinkOk.mem {nm : ByteArray → Bool} {ms : List ModV} (h : LinkOk nm ms) : AllOk (linkMem ms) := wireF_ok h.ents ms 0 (mem0_ok h.m)
theorem LinkOk.check {nm : ByteArray → Bool} {ms : List ModV} (h : LinkOk nm ms) : memCheck (linkMem ms) = 0 := (memCheck_zero _).2 ⟨by rw [linkMem_len]; exact h.t, h.mem⟩
end Go.Proofs.Ytmmmmeeepieemaa
