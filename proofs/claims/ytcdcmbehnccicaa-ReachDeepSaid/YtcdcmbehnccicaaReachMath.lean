/- What one comes to by keys: plain data, no program in sight. -/
import Derived.Test.YtcdcmbehnccicaaMachMath
namespace Go.Proofs.Ytcdcmbehnccicaa
open Go.RowKit
set_option linter.unusedVariables false
/-- Does a key count? -/
def countsB (d : Bool) (k : KeyV) : Bool := d || decide (k.seal_ = 0)
/-- Does one come from it to others? -/
def opensB (d : Bool) (k : KeyV) : Bool := countsB d k && withinB 9 k.perm
/-- From a key one comes to another one at once. -/
def Next (d : Bool) (mem : List ValV) (k x : KeyV) : Prop :=
  opensB d k = true ∧ ∃ j : Nat, k.base ≤ j ∧ (j : Int) < k.base + k.len ∧ j < mem.length ∧ (mem.getD j zeroV).is = true ∧ x = (mem.getD j zeroV).k
/-- What one comes to. -/
inductive Rch (d : Bool) (mem : List ValV) (P : KeyV → Prop) : KeyV → Prop
  | root {k : KeyV} (h : P k) : Rch d mem P k
  | next {k x : KeyV} (h : Rch d mem P k) (n : Next d mem k x) : Rch d mem P x
theorem Rch.mono {d : Bool} {mem : List ValV} {P Q : KeyV → Prop} {x : KeyV} (h : Rch d mem P x) (hp : ∀ k, P k → Rch d mem Q k) : Rch d mem Q x := by
  induction h with
  | root h => exact hp _ h
  | next _ n ih => exact .next ih n
/-- How many cells hold keys that are not in a list. -/
def fresh (mem : List ValV) (S : List KeyV) : Nat := mem.countP (fun v => v.is && decide (v.k ∉ S))
theorem fresh_le (mem : List ValV) (S : List KeyV) : fresh mem S ≤ mem.length := List.countP_le_length
theorem fresh_mono {mem : List ValV} {S S' : List KeyV} (h : ∀ x ∈ S, x ∈ S') : fresh mem S' ≤ fresh mem S := by
  unfold fresh
  refine List.countP_mono_left fun v _ hv => ?_
  simp only [Bool.and_eq_true, decide_eq_true_eq] at hv ⊢
  exact ⟨hv.1, fun hx => hv.2 (h _ hx)⟩
theorem fresh_lt {mem : List ValV} {S : List KeyV} {v : ValV} (hv : v ∈ mem) (hi : v.is = true) (hn : v.k ∉ S) : fresh mem (S ++ [v.k]) + 1 ≤ fresh mem S := by
  unfold fresh
  induction mem with
  | nil => cases hv
  | cons u mem ih =>
    rw [List.countP_cons, List.countP_cons]
    have hm : List.countP (fun u => u.is && decide (u.k ∉ S ++ [v.k])) mem ≤ List.countP (fun u => u.is && decide (u.k ∉ S)) mem := by
      refine List.countP_mono_left fun u _ hu => ?_
      simp only [Bool.and_eq_true, decide_eq_true_eq, List.mem_append] at hu ⊢
      exact ⟨hu.1, fun hx => hu.2 (.inl hx)⟩
    rcases List.mem_cons.1 hv with rfl | hv
    · have e1 : (v.is && decide (v.k ∉ S ++ [v.k])) = false := by simp
      have e2 : (v.is && decide (v.k ∉ S)) = true := by simp [hi, hn]
      simp only [e1, e2, if_true]
      simp only [Bool.false_eq_true, if_false]
      omega
    · have := ih hv
      have h3 : (u.is && decide (u.k ∉ S ++ [v.k])) = true → (u.is && decide (u.k ∉ S)) = true := by
        simp only [Bool.and_eq_true, decide_eq_true_eq, List.mem_append]
        exact fun hu => ⟨hu.1, fun hx => hu.2 (.inl hx)⟩
      by_cases h1 : (u.is && decide (u.k ∉ S ++ [v.k])) = true
      · rw [if_pos h1, if_pos (h3 h1)]; omega
      · rw [if_neg h1]; split <;> omega
theorem fresh_same {mem : List ValV} {S : List KeyV} {k : KeyV} (h : k ∈ S) : fresh mem (S ++ [k]) = fresh mem S := by
  unfold fresh
  congr 1
  funext v
  congr 1
  rw [decide_eq_decide]
  simp only [List.mem_append, List.mem_singleton]
  exact ⟨fun hn hx => hn (.inl hx), fun hn hx => by
    rcases hx with hx | hx
    · exact hn hx
    · exact hn (hx ▸ h)⟩
/-- What adding a key leaves. -/
structure AddR (d : Bool) (mem : List ValV) (S : List KeyV) (k : KeyV) (S' : List KeyV) : Prop where
  sub : ∀ x ∈ S, x ∈ S'
  has : k ∈ S'
  only : ∀ x ∈ S', x ∈ S ∨ Rch d mem (· = k) x
  shut : ∀ x ∈ S', x ∉ S → ∀ y, Next d mem x y → y ∈ S'
  size : S'.length + fresh mem S' ≤ S.length + fresh mem (S ++ [k]) + (if k ∈ S then 0 else 1)
/-- .. and what stands in its loop. -/
structure AddL (d : Bool) (mem : List ValV) (k : KeyV) (S : List KeyV) (j : Int) (S' : List KeyV) : Prop where
  sub : ∀ x ∈ S, x ∈ S'
  done : ∀ i : Nat, k.base ≤ i → (i : Int) < j → i < mem.length → (mem.getD i zeroV).is = true → (mem.getD i zeroV).k ∈ S'
  only : ∀ x ∈ S', x ∈ S ∨ Rch d mem (· = k) x
  shut : ∀ x ∈ S', x ∉ S → ∀ y, Next d mem x y → y ∈ S'
  size : S'.length + fresh mem S' ≤ S.length + fresh mem S
section
variable {d : Bool} {mem : List ValV} {S S' S'' : List KeyV} {k : KeyV} {j : Int}
theorem AddR.there (h : k ∈ S) : AddR d mem S k S :=
  ⟨fun _ h => h, h, fun _ h => .inl h, fun x hx hn => absurd hx hn, by rw [fresh_same h, if_pos h]; omega⟩
theorem AddR.shutK (h : k ∉ S) (ho : opensB d k = false) : AddR d mem S k (S ++ [k]) := by
  refine ⟨fun _ h => List.mem_append_left _ h, by simp, fun x hx => ?_, fun x hx hn y hy => ?_, ?_⟩
  · rcases List.mem_append.1 hx with hx | hx
    · exact .inl hx
    · exact .inr (.root (List.mem_singleton.1 hx))
  · rcases List.mem_append.1 hx with hx | hx
    · exact absurd hx hn
    · rw [List.mem_singleton.1 hx] at hy
      rw [hy.1] at ho
      cases ho
  · rw [if_neg h, List.length_append]; simp only [List.length_singleton]; omega
theorem AddL.start : AddL d mem k S k.base S :=
  ⟨fun _ h => h, fun i h1 h2 => by omega, fun _ h => .inl h, fun x hx hn => absurd hx hn, Nat.le_refl _⟩
theorem AddL.skip {n : Nat} (h : AddL d mem k S n S') (hv : (mem.getD n zeroV).is = false) : AddL d mem k S ((n : Int) + 1) S' := by
  refine ⟨h.sub, fun i h1 h2 h3 h4 => ?_, h.only, h.shut, h.size⟩
  by_cases e : i = n
  · rw [e, hv] at h4; cases h4
  · exact h.done i h1 (by omega) h3 h4
theorem AddL.add {n : Nat} (h : AddL d mem k S n S') (ho : opensB d k = true) (h0 : k.base ≤ n) (h1 : (n : Int) < k.base + k.len) (hm : n < mem.length) (hv : (mem.getD n zeroV).is = true) (ha : AddR d mem S' (mem.getD n zeroV).k S'') : AddL d mem k S ((n : Int) + 1) S'' := by
  have hnx : Next d mem k (mem.getD n zeroV).k := ⟨ho, n, h0, h1, hm, hv, rfl⟩
  refine ⟨fun x hx => ha.sub x (h.sub x hx), fun i h1 h2 h3 h4 => ?_, fun x hx => ?_, fun x hx hn y hy => ?_, ?_⟩
  · by_cases e : i = n
    · rw [e]; exact ha.has
    · exact ha.sub _ (h.done i h1 (by omega) h3 h4)
  · rcases ha.only x hx with hx | hx
    · exact h.only x hx
    · exact .inr (hx.mono fun q hq => by rw [hq]; exact .next (.root rfl) hnx)
  · by_cases hs : x ∈ S'
    · exact ha.sub _ (h.shut x hs hn y hy)
    · exact ha.shut x hx hs y hy
  · have h1 := ha.size
    have h2 := h.size
    by_cases hs : (mem.getD n zeroV).k ∈ S'
    · rw [if_pos hs, fresh_same hs] at h1; omega
    · rw [if_neg hs] at h1
      have hin : mem.getD n zeroV ∈ mem := by
        rw [List.getD_eq_getElem?_getD, List.getElem?_eq_getElem hm]; exact List.getElem_mem hm
      have := fresh_lt hin hv hs
      omega
theorem AddL.done' (h : AddL d mem k (S ++ [k]) j S') (hk : k ∉ S) (hj : k.base + k.len ≤ j ∨ (mem.length : Int) ≤ j) : AddR d mem S k S' := by
  refine ⟨fun x hx => h.sub x (List.mem_append_left _ hx), h.sub k (by simp), fun x hx => ?_, fun x hx hn y hy => ?_, ?_⟩
  · rcases h.only x hx with hx | hx
    · rcases List.mem_append.1 hx with hx | hx
      · exact .inl hx
      · exact .inr (.root (List.mem_singleton.1 hx))
    · exact .inr hx
  · by_cases hs : x ∈ S ++ [k]
    · rcases List.mem_append.1 hs with hs | hs
      · exact absurd hs hn
      · rw [List.mem_singleton.1 hs] at hy
        obtain ⟨_, i, h1, h2, h3, h4, rfl⟩ := hy
        exact h.done i h1 (by omega) h3 h4
    · exact h.shut x hx hs y hy
  · have := h.size
    rw [List.length_append] at this
    simp only [List.length_singleton] at this
    rw [if_neg hk]; omega
end
/-- What stands when some keys were added, n times in all. -/
structure Sought (d : Bool) (mem : List ValV) (P : KeyV → Prop) (n : Nat) (S : List KeyV) : Prop where
  all : ∀ k, P k → k ∈ S
  only : ∀ x ∈ S, Rch d mem P x
  shut : ∀ x ∈ S, ∀ y, Next d mem x y → y ∈ S
  size : S.length + fresh mem S ≤ mem.length + n
section
variable {d : Bool} {mem : List ValV} {S S' : List KeyV} {k : KeyV} {P Q : KeyV → Prop} {n : Nat}
theorem Sought.start : Sought d mem (fun _ => False) 0 [] :=
  ⟨fun _ h => h.elim, fun x h => (by cases h), fun x h => (by cases h), by have := fresh_le mem []; simp only [List.length_nil]; omega⟩
theorem Sought.add (h : Sought d mem P n S) (ha : AddR d mem S k S') : Sought d mem (fun x => P x ∨ x = k) (n + 1) S' := by
  refine ⟨fun x hx => ?_, fun x hx => ?_, fun x hx y hy => ?_, ?_⟩
  · rcases hx with hx | rfl
    · exact ha.sub x (h.all x hx)
    · exact ha.has
  · rcases ha.only x hx with hx | hx
    · exact (h.only x hx).mono fun q hq => .root (.inl hq)
    · exact hx.mono fun q hq => .root (.inr hq)
  · by_cases hs : x ∈ S
    · exact ha.sub y (h.shut x hs y hy)
    · exact ha.shut x hx hs y hy
  · have h1 := ha.size
    have h2 := h.size
    have h3 : fresh mem (S ++ [k]) ≤ fresh mem S := fresh_mono fun x hx => List.mem_append_left _ hx
    split at h1 <;> omega
theorem Sought.same (h : Sought d mem P n S) (e : ∀ x, P x ↔ Q x) : Sought d mem Q n S :=
  ⟨fun k hk => h.all k ((e k).2 hk), fun x hx => (h.only x hx).mono fun q hq => .root ((e q).1 hq), h.shut, h.size⟩
theorem Sought.more (h : Sought d mem P n S) {n' : Nat} (hn : n ≤ n') : Sought d mem P n' S := ⟨h.all, h.only, h.shut, by have := h.size; omega⟩
theorem Sought.mem_iff (h : Sought d mem P n S) (x : KeyV) : x ∈ S ↔ Rch d mem P x := by
  refine ⟨h.only x, fun hr => ?_⟩
  induction hr with
  | root hp => exact h.all _ hp
  | next _ hn ih => exact h.shut _ ih _ hn
end
/-- From where one sets out. -/
def rootsP (d : Bool) (R : List ValV) (c : KeyV) (stk : List FrameV) (k : KeyV) : Prop :=
  k = c ∨ (∃ v ∈ R, v.is = true ∧ k = v.k) ∨ (d = true ∧ ∃ f ∈ stk, k = f.code ∨ f.data.is = true ∧ k = f.data.k)
/-- Is a place one that some key is for? -/
def hitP (d : Bool) (mem : List ValV) (P : KeyV → Prop) (p at_ : Int) : Prop := ∃ k, Rch d mem P k ∧ countsB d k = true ∧ withinB p k.perm = true ∧ covB k.base k.len at_ = true
theorem next_deep {mem : List ValV} {k x : KeyV} (h : Next false mem k x) : Next true mem k x := by
  obtain ⟨h1, h2⟩ := h
  refine ⟨?_, h2⟩
  unfold opensB countsB at *
  simp only [Bool.and_eq_true] at h1 ⊢
  exact ⟨rfl, h1.2⟩
theorem rch_deep {mem : List ValV} {P Q : KeyV → Prop} {x : KeyV} (hp : ∀ k, P k → Q k) (h : Rch false mem P x) : Rch true mem Q x := by
  induction h with
  | root h => exact .root (hp _ h)
  | next _ n ih => exact .next ih (next_deep n)
theorem roots_deep {R : List ValV} {c : KeyV} {stk : List FrameV} {k : KeyV} (h : rootsP false R c stk k) : rootsP true R c stk k := by
  rcases h with h | h | ⟨h, _⟩
  · exact .inl h
  · exact .inr (.inl h)
  · cases h
theorem hit_deep {mem : List ValV} {R : List ValV} {c : KeyV} {stk : List FrameV} {p a : Int} (h : hitP false mem (rootsP false R c stk) p a) : hitP true mem (rootsP true R c stk) p a := by
  obtain ⟨k, h1, h2, h3, h4⟩ := h
  exact ⟨k, rch_deep (fun _ => roots_deep) h1, rfl, h3, h4⟩
open Classical in
/-- The places from a on, n of them, that some key is for. -/
noncomputable def hitsL (d : Bool) (mem : List ValV) (P : KeyV → Prop) (p a : Int) (n : Nat) : List Int := ((List.range n).map fun (i : Nat) => a + (i : Int)).filter fun x => decide (hitP d mem P p x)
theorem mem_hits {d : Bool} {mem : List ValV} {P : KeyV → Prop} {p a : Int} {n : Nat} {x : Int} : x ∈ hitsL d mem P p a n ↔ (a ≤ x ∧ x < a + n) ∧ hitP d mem P p x := by
  unfold hitsL
  rw [List.mem_filter]
  simp only [List.mem_map, List.mem_range, decide_eq_true_eq]
  refine and_congr ⟨?_, ?_⟩ Iff.rfl
  · rintro ⟨i, hi, rfl⟩; omega
  · intro h; exact ⟨(x - a).toNat, by omega, by omega⟩
theorem hits_snoc {d : Bool} {mem : List ValV} {P : KeyV → Prop} {p a : Int} {n : Nat} (h : hitP d mem P p (a + n)) : hitsL d mem P p a (n + 1) = hitsL d mem P p a n ++ [a + n] := by
  unfold hitsL
  rw [List.range_succ, List.map_append, List.filter_append]
  simp [h]
theorem hits_skip {d : Bool} {mem : List ValV} {P : KeyV → Prop} {p a : Int} {n : Nat} (h : ¬ hitP d mem P p (a + n)) : hitsL d mem P p a (n + 1) = hitsL d mem P p a n := by
  unfold hitsL
  rw [List.range_succ, List.map_append, List.filter_append]
  simp [h]
end Go.Proofs.Ytcdcmbehnccicaa
