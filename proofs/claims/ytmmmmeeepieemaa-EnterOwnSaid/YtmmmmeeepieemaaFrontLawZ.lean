import Derived.Test.YtmmmmeeepieemaaBuW
/- What the first modules come to: plain data. -/
namespace Go.Proofs.Ytmmmmeeepieemaa
open Go.RowKit
set_option linter.unusedVariables false
theorem placesF_append : ∀ (x y : List ModV) (b n : Nat), placesF b n (x ++ y) = placesF b n x ++ placesF (b + total x) (n + x.length) y
  | [], y, b, n => by simp [placesF, total_nil]
  | m :: x, y, b, n => by
    rw [List.cons_append, placesF, placesF_append x y, placesF, total_cons, List.length_cons, List.cons_append]
    congr 3 <;> omega
theorem entriesF_append : ∀ (x y : List ModV) (b n : Nat), entriesF b n (x ++ y) = entriesF b n x ++ entriesF (b + total x) (n + x.length) y
  | [], y, b, n => by simp [entriesF, total_nil]
  | m :: x, y, b, n => by
    rw [List.cons_append, entriesF, entriesF_append x y, entriesF, total_cons, List.length_cons, List.append_assoc]
    congr 3 <;> omega
theorem wireF_append (es : List EntryV) : ∀ (x y : List ModV) (b : Nat) (M : List ValV), wireF es b M (x ++ y) = wireF es (b + total x) (wireF es b M x) y
  | [], y, b, M => by simp [wireF, total_nil]
  | m :: x, y, b, M => by
    rw [List.cons_append, wireF, wireF_append es x y, wireF, total_cons]
    congr 1; omega
theorem mem0_append (x y : List ModV) : mem0 (x ++ y) = mem0 x ++ mem0 y := by unfold mem0; simp
theorem entries_names : ∀ (x : List ModV) (b n : Nat), (entriesF b n x).map (·.name) = exNames x
  | [], b, n => rfl
  | m :: x, b, n => by
    rw [entriesF, List.map_append, entries_names x]
    unfold exNames
    rw [List.flatMap_cons, List.map_map]
    rfl
theorem findE_append (a b : List EntryV) (s : ByteArray) : findE (a ++ b) s = (findE a s).or (findE b s) := by unfold findE; rw [List.find?_append]
theorem findE_some {es : List EntryV} {s : ByteArray} (h : s ∈ es.map (·.name)) : ∃ e, findE es s = some e := by
  obtain ⟨e, he, hs⟩ := List.mem_map.1 h
  cases hf : findE es s with
  | some e => exact ⟨e, rfl⟩
  | none =>
    unfold findE at hf
    have := List.find?_eq_none.1 hf e he
    simp [hs] at this
theorem wire1_same {es es' : List EntryV} {b : Nat} {M : List ValV} {x : NamV} (h : findE es x.name = findE es' x.name) : wire1 es b M x = wire1 es' b M x := by unfold wire1; rw [h]
theorem wireM_same {es es' : List EntryV} {b : Nat} : ∀ {l : List NamV} {M : List ValV}, (∀ x ∈ l, findE es x.name = findE es' x.name) → wireM es b M l = wireM es' b M l
  | [], M, _ => rfl
  | x :: l, M, h => by
    show wireM es b (wire1 es b M x) l = wireM es' b (wire1 es' b M x) l
    rw [wire1_same (h x (by simp)), wireM_same fun y hy => h y (List.mem_cons_of_mem _ hy)]
theorem wireF_same {es es' : List EntryV} : ∀ {ms : List ModV} {b : Nat} {M : List ValV}, (∀ m ∈ ms, ∀ x ∈ m.im, findE es x.name = findE es' x.name) → wireF es b M ms = wireF es' b M ms
  | [], b, M, _ => rfl
  | m :: ms, b, M, h => by rw [wireF, wireF, wireM_same (h m (by simp)), wireF_same fun m hm => h m (List.mem_cons_of_mem _ hm)]
theorem wire1_app {es : List EntryV} {b : Nat} {M N : List ValV} {x : NamV} (h : b + x.at_.toNat + 1 < M.length) : wire1 es b (M ++ N) x = wire1 es b M x ++ N := by
  unfold wire1
  simp only
  rw [List.set_append_left _ _ (by omega), List.set_append_left _ _ (by rw [List.length_set]; omega)]
theorem wireM_app {es : List EntryV} {b : Nat} {N : List ValV} : ∀ {l : List NamV} {M : List ValV}, (∀ x ∈ l, b + x.at_.toNat + 1 < M.length) → wireM es b (M ++ N) l = wireM es b M l ++ N
  | [], M, _ => rfl
  | x :: l, M, h => by
    show wireM es b (wire1 es b (M ++ N) x) l = wireM es b (wire1 es b M x) l ++ N
    rw [wire1_app (h x (by simp)), wireM_app fun y hy => by rw [wire1_len]; exact h y (List.mem_cons_of_mem _ hy)]
theorem wireF_app {es : List EntryV} {N : List ValV} : ∀ {ms : List ModV} {b : Nat} {M : List ValV}, (∀ m ∈ ms, imIn m) → b + total ms ≤ M.length → wireF es b (M ++ N) ms = wireF es b M ms ++ N
  | [], b, M, _, _ => rfl
  | m :: ms, b, M, h, hl => by
    rw [total_cons] at hl
    rw [wireF, wireF, wireM_app fun x hx => by have := h m (by simp) x hx; omega, wireF_app (fun m hm => h m (List.mem_cons_of_mem _ hm)) (by rw [wireM_len]; omega)]
/-- The first modules' memory is the front of all modules' one. -/
theorem front_mem {nm : ByteArray → Bool} {ms : List ModV} (h : LinkOk nm ms) {k : Nat} (hk : LinkOk nm (ms.take k)) : linkMem (ms.take k) = (linkMem ms).take (total (ms.take k)) := by
  obtain ⟨x, hx⟩ : ∃ x, ms.take k = x := ⟨_, rfl⟩
  obtain ⟨y, hy⟩ : ∃ y, ms.drop k = y := ⟨_, rfl⟩
  have e : ms = x ++ y := by rw [← hx, ← hy, List.take_append_drop]
  rw [hx] at hk ⊢
  subst e
  have hin : ∀ m ∈ x ++ y, imIn m := fun m hm => (h.m m hm).imIn
  have hE : ∀ m ∈ x, ∀ z ∈ m.im, findE (entriesF 0 0 (x ++ y)) z.name = findE (entriesF 0 0 x) z.name := fun m hm z hz => by
    have h1 : z.name ∈ exNames x := hk.im _ (List.mem_flatMap.2 ⟨m, hm, List.mem_map.2 ⟨z, hz, rfl⟩⟩)
    rw [← entries_names x 0 0] at h1
    obtain ⟨e, he⟩ := findE_some h1
    rw [entriesF_append, findE_append, he]; rfl
  unfold linkMem
  rw [wireF_append, mem0_append, wireF_app (fun m hm => hin m (List.mem_append_left _ hm)) (by rw [mem0_len]; omega), wireF_same hE]
  refine List.ext_getElem? fun i => ?_
  have hl : (wireF (entriesF 0 0 x) 0 (mem0 x) x).length = total x := by rw [wireF_len, mem0_len]
  rcases Nat.lt_or_ge i (total x) with hi | hi
  · rw [List.getElem?_take_of_lt hi, wireF_far _ y _ _ i (fun m hm => hin m (List.mem_append_right _ hm)) (by rw [List.length_append]; omega) (.inl (by omega)), List.getElem?_append_left (by omega)]
  · rw [List.getElem?_eq_none (by omega), List.getElem?_eq_none (by rw [List.length_take]; omega)]
theorem front_places {ms : List ModV} {k : Nat} (hk : k ≤ ms.length) : placesF 0 0 (ms.take k) = (placesF 0 0 ms).take k := by
  have := placesF_append (ms.take k) (ms.drop k) 0 0
  rw [List.take_append_drop] at this
  rw [this, List.take_left']
  rw [placesF_len, List.length_take]; omega
theorem front_entries (ms : List ModV) (k : Nat) : entriesF 0 0 (ms.take k) = (entriesF 0 0 ms).take (entriesF 0 0 (ms.take k)).length ∧ (entriesF 0 0 (ms.take k)).length ≤ (entriesF 0 0 ms).length := by
  have := entriesF_append (ms.take k) (ms.drop k) 0 0
  rw [List.take_append_drop] at this
  rw [this]
  exact ⟨(List.take_left' rfl).symm, by rw [List.length_append]; omega⟩
end Go.Proofs.Ytmmmmeeepieemaa
