import Derived.Test.YtmmmmeeepieemaaBuS
import Derived.Test.YtmmmmeeepieemaaBuY
import Derived.Test.YtmmmmeeepieemaaOwnsLawZ
/- What one who enters comes to: plain data. -/
namespace Go.Proofs.Ytmmmmeeepieemaa
open Go.RowKit
set_option linter.unusedVariables false
set_option linter.unusedSimpArgs false
/-- A cell of a module that is a key is a wish's. -/
theorem wireM_key (es : List EntryV) (b : Nat) : ∀ (l : List NamV) (mem : List ValV) (i : Nat) (v : ValV), (wireM es b mem l)[i]? = some v → (∃ x ∈ l, v.k = ((findE es x.name).getD zeroE).code ∨ v.k = ((findE es x.name).getD zeroE).data) ∨ mem[i]? = some v
  | [], mem, i, v, h => .inr h
  | x :: l, mem, i, v, h => by
    have h' : (wireM es b (wire1 es b mem x) l)[i]? = some v := h
    rcases wireM_key es b l _ i v h' with ⟨y, hy, hk⟩ | h1
    · exact .inl ⟨y, List.mem_cons_of_mem _ hy, hk⟩
    · have hi : i < mem.length := by have := (List.getElem?_eq_some_iff.1 h1).1; rwa [wire1_len] at this
      rw [wire1_at es b mem x i hi] at h1
      split at h1
      · injection h1 with h1; exact .inl ⟨x, by simp, .inr (by rw [← h1])⟩
      · split at h1
        · injection h1 with h1; exact .inl ⟨x, by simp, .inl (by rw [← h1])⟩
        · exact .inr h1
theorem cell_key {nm : ByteArray → Bool} {ms : List ModV} (h : LinkOk nm ms) {n i : Nat} {m : ModV} {v : ValV} (hm : ms[n]? = some m) (hi : i < m.code.length + m.data.length) (hv : (linkMem ms)[total (ms.take n) + i]? = some v) (his : v.is = true) :
    ∃ x ∈ m.im, ∃ n' m' y', ms[n']? = some m' ∧ y' ∈ m'.ex ∧ y'.name = x.name ∧ (v.k = (entryOf (total (ms.take n')) n' m' y').code ∨ v.k = (entryOf (total (ms.take n')) n' m' y').data) := by
  have hin : ∀ m ∈ ms, imIn m := fun m hm => (h.m m hm).imIn
  have hs := total_take_succ hm
  have hl := total_take_le ms (n + 1)
  have hml := mem0_len ms
  have a1 := wireF_at (entriesF 0 0 ms) ms 0 (mem0 ms) n i m hin hm hi (by omega)
  rw [Nat.zero_add] at a1
  unfold linkMem at hv
  rw [a1] at hv
  rcases wireM_key _ _ _ _ _ _ hv with ⟨x, hx, hk⟩ | h0
  · have hn : x.name ∈ exNames ms := h.im _ (List.mem_flatMap.2 ⟨m, List.mem_of_getElem? hm, List.mem_map.2 ⟨x, hx, rfl⟩⟩)
    unfold exNames at hn
    obtain ⟨m', hm', h4⟩ := List.mem_flatMap.1 hn
    obtain ⟨y', hy', e'⟩ := List.mem_map.1 h4
    obtain ⟨n', hn'⟩ := List.getElem?_of_mem hm'
    have hf := owns_hit h hn' hy'
    rw [e'] at hf
    rw [hf] at hk
    exact ⟨x, hx, n', m', y', hn', hy', e', hk⟩
  · rw [mem0_at ms n i m hm hi] at h0
    obtain ⟨c, _, hc⟩ := Option.map_eq_some_iff.1 h0
    rw [← hc] at his
    cases his
/-- A key of a module: its code, or its data. -/
def KeyOf (ms : List ModV) (n : Nat) (k : KeyV) : Prop := ∃ m, ms[n]? = some m ∧ ((k.perm = 5 ∧ k.base = total (ms.take n) ∧ k.len = m.code.length) ∨ (k.perm = 27 ∧ k.base = total (ms.take n) + m.code.length ∧ k.len = m.data.length))
/-- Whom modules come to by imports. -/
def Closed (ms : List ModV) (S : Nat → Prop) : Prop := ∀ n m x n' m' y, S n → ms[n]? = some m → x ∈ m.im → ms[n']? = some m' → y ∈ m'.ex → y.name = x.name → S n'
theorem open_perm {d : Bool} {k : KeyV} (h : opensB d k = true) : k.perm ≠ 5 := by
  intro e
  unfold opensB at h
  rw [e] at h
  revert h
  rw [show withinB 9 5 = false by decide, Bool.and_false]
  intro h; cases h
theorem deep_inv {nm : ByteArray → Bool} {ms : List ModV} (h : LinkOk nm ms) {S : Nat → Prop} (hS : Closed ms S) {P : KeyV → Prop} (hP : ∀ k, P k → ∃ n, S n ∧ KeyOf ms n k) {d : Bool} {k : KeyV} (hr : Rch d (linkMem ms) P k) : ∃ n, S n ∧ KeyOf ms n k := by
  induction hr with
  | root hp => exact hP _ hp
  | next _ hn ih =>
    obtain ⟨n, hs, m, hm, hk⟩ := ih
    obtain ⟨ho, j, h1, h2, h3, h4, rfl⟩ := hn
    rcases hk with ⟨e, _⟩ | ⟨_, e2, e3⟩
    · exact absurd e (open_perm ho)
    · have hj : (linkMem ms)[j]? = some ((linkMem ms).getD j zeroV) := by rw [List.getD, List.getElem?_eq_getElem h3]; rfl
      have ej : total (ms.take n) + (j - total (ms.take n)) = j := by omega
      rw [← ej] at hj
      obtain ⟨x, hx, n', m', y', hm', hy', e', hk'⟩ := cell_key h hm (by omega) hj (by rw [ej]; exact h4)
      rw [ej] at hk'
      refine ⟨n', hS n m x n' m' y' hs hm hx hm' hy' e', m', hm', ?_⟩
      rcases hk' with hk' | hk' <;> rw [hk']
      · exact .inl ⟨rfl, rfl, rfl⟩
      · exact .inr ⟨rfl, rfl, rfl⟩
def dataK (x : EntryV) : KeyV := ⟨x.data.perm, x.data.base, x.data.len, x.data.at_, 0⟩
theorem ent_roots {x : EntryV} {args : List Int} {d : Bool} {k : KeyV} (h : rootsP d (entR x args) (entK x) [] k) : k = entK x ∨ k = dataK x := by
  rcases h with h | ⟨v, hv, hi, rfl⟩ | ⟨_, f, hf, _⟩
  · exact .inl h
  · unfold entR at hv
    rcases List.mem_or_eq_of_mem_set hv with hv | rfl
    · unfold argR at hv
      obtain ⟨i, _, rfl⟩ := List.mem_map.1 hv
      split at hi
      · cases hi
      · cases hi
    · exact .inr rfl
  · cases hf
theorem ent_rootC (x : EntryV) (args : List Int) (d : Bool) : rootsP d (entR x args) (entK x) [] (entK x) := .inl rfl
theorem ent_rootD (x : EntryV) (args : List Int) (d : Bool) : rootsP d (entR x args) (entK x) [] (dataK x) := by
  refine .inr (.inl ⟨⟨true, 0, dataK x⟩, ?_, rfl, rfl⟩)
  unfold entR
  refine List.mem_of_getElem? (i := 7) ?_
  rw [List.getElem?_set_self (by rw [argR_len]; omega)]
  rfl
section
variable {nm : ByteArray → Bool} {ms : List ModV} {f : Nat} {m : ModV} {y : NamV} {args : List Int}
theorem ent_keys (hm : ms[f]? = some m) {d : Bool} {k : KeyV} (h : rootsP d (entR (entryOf (total (ms.take f)) f m y) args) (entK (entryOf (total (ms.take f)) f m y)) [] k) : KeyOf ms f k := by
  rcases ent_roots h with rfl | rfl
  · exact ⟨m, hm, .inl ⟨rfl, rfl, rfl⟩⟩
  · exact ⟨m, hm, .inr ⟨rfl, rfl, rfl⟩⟩
theorem cov_bd {b n a : Int} (hn : 0 ≤ n) (h : covB b n a = true) : b ≤ a ∧ a < b + n := covB_iff.1 h
/-- What is deeply come to lies in modules that are near. -/
theorem own_deep (h : LinkOk nm ms) (hm : ms[f]? = some m) {S : Nat → Prop} (hS : Closed ms S) (hf : S f) {p a : Int} {n0 : Nat} (ha : a ∈ hitsL true (linkMem ms) (rootsP true (entR (entryOf (total (ms.take f)) f m y) args) (entK (entryOf (total (ms.take f)) f m y)) []) p 0 n0) :
    ∃ n m', S n ∧ ms[n]? = some m' ∧ (total (ms.take n) : Int) ≤ a ∧ a < total (ms.take n) + (m'.code.length + m'.data.length) ∧ (p = 2 → (total (ms.take n) : Int) + m'.code.length ≤ a) := by
  obtain ⟨_, k, hr, _, hw, hc⟩ := mem_hits.1 ha
  obtain ⟨n, hs, m', hm', hk⟩ := deep_inv h hS (fun k hk => ⟨f, hf, ent_keys hm hk⟩) hr
  rcases hk with ⟨e1, e2, e3⟩ | ⟨e1, e2, e3⟩
  · have := cov_bd (by omega) hc
    refine ⟨n, m', hs, hm', by omega, by omega, fun hp => ?_⟩
    subst hp
    rw [e1] at hw
    revert hw
    rw [show withinB 2 5 = false by decide]
    intro hw; cases hw
  · have := cov_bd (by omega) hc
    exact ⟨n, m', hs, hm', by omega, by omega, fun _ => by omega⟩
theorem shallow_inv (h : LinkOk nm ms) (hm : ms[f]? = some m) {k : KeyV} (hr : Rch false (linkMem ms) (rootsP false (entR (entryOf (total (ms.take f)) f m y) args) (entK (entryOf (total (ms.take f)) f m y)) []) k) :
    k = entK (entryOf (total (ms.take f)) f m y) ∨ k = dataK (entryOf (total (ms.take f)) f m y) ∨ k.seal_ ≠ 0 := by
  induction hr with
  | root hp => rcases ent_roots hp with h | h; exact .inl h; exact .inr (.inl h)
  | next _ hn ih =>
    obtain ⟨ho, j, h1, h2, h3, h4, rfl⟩ := hn
    right; right
    rcases ih with rfl | rfl | hk
    · exact absurd rfl (open_perm ho)
    · have hb : ((total (ms.take f) : Int) + m.code.length) ≤ j := h1
      have hl : (j : Int) < (total (ms.take f) : Int) + m.code.length + m.data.length := h2
      have hj : (linkMem ms)[j]? = some ((linkMem ms).getD j zeroV) := by rw [List.getD, List.getElem?_eq_getElem h3]; rfl
      have ej : total (ms.take f) + (j - total (ms.take f)) = j := by omega
      rw [← ej] at hj
      obtain ⟨x, hx, n', m', y', hm', hy', e', hk'⟩ := cell_key h hm (by omega) hj (by rw [ej]; exact h4)
      rw [ej] at hk'
      rcases hk' with hk' | hk' <;> rw [hk']
      · show (n' : Int) + 1 ≠ 0; omega
      · show (n' : Int) + 1 ≠ 0; omega
    · unfold opensB countsB at ho
      simp [hk] at ho
theorem own_hit (h : LinkOk nm ms) (hm : ms[f]? = some m) (a : Int) : hitP false (linkMem ms) (rootsP false (entR (entryOf (total (ms.take f)) f m y) args) (entK (entryOf (total (ms.take f)) f m y)) []) 0 a ↔ (total (ms.take f) : Int) ≤ a ∧ a < total (ms.take f) + (m.code.length + m.data.length) := by
  constructor
  · rintro ⟨k, hr, hcn, _, hc⟩
    rcases shallow_inv h hm hr with rfl | rfl | hk
    · have := cov_bd (show (0 : Int) ≤ m.code.length by omega) hc
      have e : (entK (entryOf (total (ms.take f)) f m y)).base = total (ms.take f) := rfl
      have e2 : (entK (entryOf (total (ms.take f)) f m y)).len = m.code.length := rfl
      rw [e] at this
      omega
    · have := cov_bd (show (0 : Int) ≤ m.data.length by omega) hc
      have e : (dataK (entryOf (total (ms.take f)) f m y)).base = total (ms.take f) + m.code.length := rfl
      have e2 : (dataK (entryOf (total (ms.take f)) f m y)).len = m.data.length := rfl
      rw [e] at this
      omega
    · unfold countsB at hcn
      simp [hk] at hcn
  · rintro ⟨h1, h2⟩
    by_cases hc : a < total (ms.take f) + m.code.length
    · refine ⟨_, .root (ent_rootC _ _ _), rfl, by show withinB 0 5 = true; decide, ?_⟩
      show covB (total (ms.take f)) m.code.length a = true
      exact covB_iff.2 ⟨by omega, by omega⟩
    · refine ⟨_, .root (ent_rootD _ _ _), rfl, by show withinB 0 27 = true; decide, ?_⟩
      show covB (total (ms.take f) + m.code.length) m.data.length a = true
      exact covB_iff.2 ⟨by omega, by omega⟩
theorem count_range (p : Nat → Bool) (a s : Nat) : ∀ n, (∀ i, i < n → (p i = true ↔ a ≤ i ∧ i < a + s)) → ((List.range n).filter p).length = min n (a + s) - min n a
  | 0, _ => by simp
  | n + 1, h => by
    rw [List.range_succ, List.filter_append, List.length_append, count_range p a s n fun i hi => h i (by omega)]
    have hn := h n (by omega)
    by_cases hp : p n = true
    · have := hn.1 hp
      rw [List.filter_cons_of_pos hp]
      simp only [List.filter_nil, List.length_singleton]
      omega
    · have h2 : ¬ (a ≤ n ∧ n < a + s) := fun e => hp (hn.2 e)
      rw [List.filter_cons_of_neg hp]
      simp only [List.filter_nil, List.length_nil]
      omega
/-- One's own cells, all of them. -/
theorem own_list (h : LinkOk nm ms) (hm : ms[f]? = some m) : (∀ a ∈ hitsL false (linkMem ms) (rootsP false (entR (entryOf (total (ms.take f)) f m y) args) (entK (entryOf (total (ms.take f)) f m y)) []) 0 0 (linkMem ms).length, (total (ms.take f) : Int) ≤ a ∧ a < total (ms.take f) + (m.code.length + m.data.length)) ∧
    (hitsL false (linkMem ms) (rootsP false (entR (entryOf (total (ms.take f)) f m y) args) (entK (entryOf (total (ms.take f)) f m y)) []) 0 0 (linkMem ms).length).length = m.code.length + m.data.length := by
  refine ⟨fun a ha => (own_hit h hm a).1 (mem_hits.1 ha).2, ?_⟩
  unfold hitsL
  rw [List.filter_map, List.length_map, count_range _ (total (ms.take f)) (m.code.length + m.data.length)]
  · have h1 := total_take_succ hm
    have h2 := total_take_le ms (f + 1)
    have h3 := linkMem_len ms
    omega
  · intro i hi
    simp only [Function.comp, decide_eq_true_eq]
    rw [own_hit h hm]
    omega
end
theorem bare_ok {k : KeyV} (h : k.Ok) : (⟨k.perm, k.base, k.len, k.at_, 0⟩ : KeyV).Ok := ⟨h.p0, h.p1, h.b0, h.b1, h.l0, h.l1, h.a0, h.a1, Int.le_refl 0, show (0 : Int) ≤ 63 by decide⟩
theorem ent_ok {M : List ValV} {E : List EntryV} {x : EntryV} {args : List Int} (h : ImOk M E) (hx : x ∈ E) (ha : args.all num32B = true) : MOk (entR x args) (entK x) M [] [] := by
  obtain ⟨k1, k2⟩ := h.k x hx
  obtain ⟨m1, m2⟩ := (memCheck_zero M).1 h.m
  refine ⟨fun v hv => ?_, ?_, m1, m2, by simp, fun f hf => by simp at hf, by simp, fun n hn => by simp at hn⟩
  · unfold entR at hv
    rcases List.mem_or_eq_of_mem_set hv with hv | rfl
    · unfold argR at hv
      obtain ⟨i, _, rfl⟩ := List.mem_map.1 hv
      split
      · next hi =>
        have := List.all_eq_true.1 ha _ (List.getElem_mem hi)
        have e : args.getD i 0 = args[i] := by rw [List.getD, List.getElem?_eq_getElem hi]; rfl
        rw [e]
        unfold num32B at this
        simp at this
        exact .inr ⟨rfl, by simp only; omega, by simp only; omega, rfl⟩
      · exact .inr ⟨rfl, by decide, by decide, rfl⟩
    · exact .inl ⟨rfl, bare_ok k2, rfl⟩
  · exact bare_ok k1
end Go.Proofs.Ytmmmmeeepieemaa
