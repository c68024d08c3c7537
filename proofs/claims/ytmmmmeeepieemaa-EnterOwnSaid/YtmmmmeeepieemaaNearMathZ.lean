import Derived.Test.YtmmmmeeepieemaaBuW
/- Modules that one comes to by imports: plain data. -/
namespace Go.Proofs.Ytmmmmeeepieemaa
open Go.RowKit
set_option linter.unusedVariables false
/-- How many modules are not in a list. -/
def unseen (N : Nat) (l : List Int) : Nat := (List.range N).countP fun (n : Nat) => decide ((n : Int) ∉ l)
theorem countP_less {α : Type} {p q : α → Bool} : ∀ {l : List α}, (∀ x ∈ l, q x = true → p x = true) → ∀ {a : α}, a ∈ l → p a = true → q a = false → l.countP q + 1 ≤ l.countP p
  | [], _, a, ha, _, _ => by cases ha
  | x :: l, h, a, ha, h1, h2 => by
    rw [List.countP_cons, List.countP_cons]
    have hm : l.countP q ≤ l.countP p := List.countP_mono_left fun y hy hq => h y (List.mem_cons_of_mem _ hy) hq
    rcases List.mem_cons.1 ha with rfl | ha
    · rw [h1, h2]; simp; omega
    · have ih := countP_less (fun y hy => h y (List.mem_cons_of_mem _ hy)) ha h1 h2
      have hx := h x (by simp)
      by_cases hq : q x = true
      · rw [hq, hx hq]; simp; omega
      · have hq' : q x = false := by simpa using hq
        rw [hq']
        simp only [Bool.false_eq_true, if_false]
        split <;> omega
/-- A list of modules under way. -/
structure NearSt (ms : List ModV) (from_ : Nat) (nl : List Int) : Prop where
  mem : (from_ : Int) ∈ nl
  rng : ∀ v ∈ nl, ∃ n : Nat, n < ms.length ∧ v = n
  cnt : nl.length + unseen ms.length nl ≤ ms.length
/-- Those whose exports a wish is for are in a list. -/
def Wish (ms : List ModV) (nl : List Int) (x : NamV) (N : Nat) : Prop := ∀ n' m' y, n' < N → ms[n']? = some m' → y ∈ m'.ex → y.name = x.name → (n' : Int) ∈ nl
def Cov1 (ms : List ModV) (nl : List Int) (l : List NamV) : Prop := ∀ x ∈ l, Wish ms nl x ms.length
def Cov0 (ms : List ModV) (nl : List Int) (k : Nat) : Prop := ∀ (i c : Nat) (m : ModV), i < k → nl[i]? = some (c : Int) → ms[c]? = some m → Cov1 ms nl m.im
def Cov3 (nl : List Int) (x : NamV) (n : Nat) (l : List NamV) : Prop := ∀ y ∈ l, y.name = x.name → (n : Int) ∈ nl
section
variable {ms : List ModV} {f : Nat} {nl : List Int} {x : NamV} {n k : Nat} {v : Int}
theorem near_start (hf : f < ms.length) : NearSt ms f [(f : Int)] := by
  refine ⟨by simp, fun v hv => ⟨f, hf, by simpa using hv⟩, ?_⟩
  have h := countP_less (l := List.range ms.length) (p := fun _ => true) (q := fun (n : Nat) => decide ((n : Int) ∉ [(f : Int)])) (fun _ _ _ => rfl) (a := f) (List.mem_range.2 hf) rfl (by simp)
  have h2 : (List.range ms.length).countP (fun _ => true) ≤ (List.range ms.length).length := List.countP_le_length
  rw [List.length_range] at h2
  unfold unseen
  simp only [List.length_singleton]
  omega
theorem NearSt.snoc (h : NearSt ms f nl) (hn : n < ms.length) (hx : (n : Int) ∉ nl) : NearSt ms f (nl ++ [(n : Int)]) := by
  refine ⟨List.mem_append_left _ h.mem, fun v hv => ?_, ?_⟩
  · rcases List.mem_append.1 hv with hv | hv
    · exact h.rng v hv
    · exact ⟨n, hn, by simpa using hv⟩
  · have h1 := countP_less (l := List.range ms.length) (p := fun (n : Nat) => decide ((n : Int) ∉ nl)) (q := fun (j : Nat) => decide ((j : Int) ∉ nl ++ [(n : Int)])) (fun j _ hq => by
      simp only [decide_eq_true_eq, List.mem_append] at hq ⊢
      exact fun e => hq (.inl e)) (a := n) (List.mem_range.2 hn) (by simp [hx]) (by simp)
    have := h.cnt
    unfold unseen at *
    rw [List.length_append]
    simp only [List.length_singleton]
    omega
theorem NearSt.len (h : NearSt ms f nl) : nl.length ≤ ms.length := by have := h.cnt; omega
theorem Wish.more (h : Wish ms nl x k) : Wish ms (nl ++ [v]) x k := fun n' m' y h1 h2 h3 h4 => List.mem_append_left _ (h n' m' y h1 h2 h3 h4)
theorem Cov1.more {l : List NamV} (h : Cov1 ms nl l) : Cov1 ms (nl ++ [v]) l := fun x hx => (h x hx).more
theorem Cov0.more (h : Cov0 ms nl k) (hk : k ≤ nl.length) : Cov0 ms (nl ++ [v]) k := fun i c m hi hc hm => by
  rw [List.getElem?_append_left (by omega)] at hc
  exact (h i c m hi hc hm).more
theorem Cov3.more {l : List NamV} (h : Cov3 nl x n l) : Cov3 (nl ++ [v]) x n l := fun y hy e => List.mem_append_left _ (h y hy e)
theorem cov3_next {l : List NamV} {b : Nat} {y : NamV} (hy : l[b]? = some y) (h : Cov3 nl x n (l.take b)) (hn : y.name = x.name → (n : Int) ∈ nl) : Cov3 nl x n (l.take (b + 1)) := by
  rw [List.take_add_one, hy]
  intro z hz e
  rcases List.mem_append.1 hz with hz | hz
  · exact h z hz e
  · obtain rfl : z = y := by simpa using hz
    exact hn e
theorem wish_next {m' : ModV} (hm : ms[n]? = some m') (h : Wish ms nl x n) (h3 : Cov3 nl x n m'.ex) : Wish ms nl x (n + 1) := by
  intro n' m'' y h1 h2 hy e
  rcases Nat.lt_or_ge n' n with hl | hl
  · exact h n' m'' y hl h2 hy e
  · obtain rfl : n' = n := by omega
    rw [hm] at h2
    injection h2 with h2
    subst h2
    exact h3 y hy e
theorem cov1_next {l : List NamV} {a : Nat} (hx : l[a]? = some x) (h : Cov1 ms nl (l.take a)) (hw : Wish ms nl x ms.length) : Cov1 ms nl (l.take (a + 1)) := by
  rw [List.take_add_one, hx]
  intro z hz
  rcases List.mem_append.1 hz with hz | hz
  · exact h z hz
  · obtain rfl : z = x := by simpa using hz
    exact hw
theorem cov0_next {c : Nat} {m : ModV} (hc : nl[k]? = some (c : Int)) (hm : ms[c]? = some m) (h : Cov0 ms nl k) (h1 : Cov1 ms nl m.im) : Cov0 ms nl (k + 1) := by
  intro i c' m' hi hc' hm'
  rcases Nat.lt_or_ge i k with hl | hl
  · exact h i c' m' hl hc' hm'
  · obtain rfl : i = k := by omega
    rw [hc] at hc'
    injection hc' with hc'
    obtain rfl : c = c' := by omega
    rw [hm] at hm'
    injection hm' with hm'
    subst hm'
    exact h1
end
end Go.Proofs.Ytmmmmeeepieemaa
