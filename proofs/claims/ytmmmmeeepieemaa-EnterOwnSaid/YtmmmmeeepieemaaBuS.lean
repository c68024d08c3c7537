import Derived.Deep.RegionHeld3
import Derived.DeepKeys4
import Derived.Maps.OwnSet
import Derived.Test.YtmmmmeeepieemaaBuC
import Derived.Test.YtmmmmeeepieemaaBuF
/- What one comes to by keys: plain data, no program in sight. -/
namespace Go.Proofs.Ytmmmmeeepieemaa
open Go.RowKit
set_option linter.unusedVariables false
/-- Does a key count? -/
def countsB (d : Bool) (k : KeyV) : Bool := d || decide (k.seal_ = 0)
/-- Does one come from it to others? -/
def opensB (d : Bool) (k : KeyV) : Bool := countsB d k && withinB 9 k.perm
/-- From a key one comes to another one at once. -/
def Next (d : Bool) (mem : List ValV) (k x : KeyV) : Prop :=
  opensB d k = true ∧ ∃ j : Nat, k.base ≤ j ∧ (j : Int) < k.base + k.len ∧ j < mem.length ∧ (mem.getD j zeroV).is = true ∧ x = (mem.getD j zeroV).k
/-- What one comes to. -/
inductive Rch (d : Bool) (mem : List ValV) (P : KeyV → Prop) : KeyV → Prop
  | root {k : KeyV} (h : P k) : Rch d mem P k
  | next {k x : KeyV} (h : Rch d mem P k) (n : Next d mem k x) : Rch d mem P x
theorem Rch.mono {d : Bool} {mem : List ValV} {P Q : KeyV → Prop} {x : KeyV} (h : Rch d mem P x) (hp : ∀ k, P k → Rch d mem Q k) : Rch d mem Q x := by
  induction h with
  | root h => exact hp _ h
  | next _ n ih => exact .next ih n
/-- How many cells hold keys that are not in a list. -/
def fresh (mem : List ValV) (S : List KeyV) : Nat := mem.countP (fun v => v.is && decide (v.k ∉ S))
theorem fresh_le (mem : List ValV) (S : List KeyV) : fresh mem S ≤ mem.length := List.countP_le_length
theorem fresh_mono {mem : List ValV} {S S' : List KeyV} (h : ∀ x ∈ S, x ∈ S') : fresh mem S' ≤ fresh mem S := by
  unfold fresh
  refine List.countP_mono_left fun v _ hv => ?_
  simp only [Bool.and_eq_true, decide_eq_true_eq] at hv ⊢
  exact ⟨hv.1, fun hx => hv.2 (h _ hx)⟩
theorem fresh_lt {mem : List ValV} {S : List KeyV} {v : ValV} (hv : v ∈ mem) (hi : v.is = true) (hn : v.k ∉ S) : fresh mem (S ++ [v.k]) + 1 ≤ fresh mem S := by
  unfold fresh
  induction mem with
  | nil => cases hv
  | cons u mem ih =>
    rw [List.countP_cons, List.countP_cons]
    have hm : List.countP (fun u => u.is && decide (u.k ∉ S ++ [v.k])) mem ≤ List.countP (fun u => u.is && decide (u.k ∉ S)) mem := by
      refine List.countP_mono_left fun u _ hu => ?_
      simp only [Bool.and_eq_true, decide_eq_true_eq, List.mem_append] at hu ⊢
      exact ⟨hu.1, fun hx => hu.2 (.inl hx)⟩
    rcases List.mem_cons.1 hv with rfl | hv
    · have e1 : (v.is && decide (v.k ∉ S ++ [v.k])) = false := by simp
      have e2 : (v.is && decide (v.k ∉ S)) = true := by simp [hi, hn]
      simp only [e1, e2, if_true]
      simp only [Bool.false_eq_true, if_false]
      omega
    · have := ih hv
      have h3 : (u.is && decide (u.k ∉ S ++ [v.k])) = true → (u.is && decide (u.k ∉ S)) = true := by
        simp only [Bool.and_eq_true, decide_eq_true_eq, List.mem_append]
        exact fun hu => ⟨hu.1, fun hx => hu.2 (.inl hx)⟩
      by_cases h1 : (u.is && decide (u.k ∉ S ++ [v.k])) = true
      · rw [if_pos h1, if_pos (h3 h1)]; omega
      · rw [if_neg h1]; split <;> omega
theorem fresh_same {mem : List ValV} {S : List KeyV} {k : KeyV} (h : k ∈ S) : fresh mem (S ++ [k]) = fresh mem S := by
  unfold fresh
  congr 1
  funext v
  congr 1
  rw [decide_eq_decide]
  simp only [List.mem_append, List.mem_singleton]
  exact ⟨fun hn hx => hn (.inl hx), fun hn hx => by
    rcases hx with hx | hx
    · exact hn hx
    · exact hn (hx ▸ h)⟩
/-- What adding a key leaves. -/
structure AddR (d : Bool) (mem : List ValV) (S : List KeyV) (k : KeyV) (S' : List KeyV) : Prop where
  sub : ∀ x ∈ S, x ∈ S'
  has : k ∈ S'
  only : ∀ x ∈ S', x ∈ S ∨ Rch d mem (· = k) x
  shut : ∀ x ∈ S', x ∉ S → ∀ y, Next d mem x y → y ∈ S'
  size : S'.length + fresh mem S' ≤ S.length + fresh mem (S ++ [k]) + (if k ∈ S then 0 else 1)
/-- .. and what stands in its loop. -/
structure AddL (d : Bool) (mem : List ValV) (k : KeyV) (S : List KeyV) (j : Int) (S' : List KeyV) : Prop where
  sub : ∀ x ∈ S, x ∈ S'
  done : ∀ i : Nat, k.base ≤ i → (i : Int) < j → i < mem.length → (mem.getD i zeroV).is = true → (mem.getD i zeroV).k ∈ S'
  only : ∀ x ∈ S', x ∈ S ∨ Rch d mem (· = k) x
  shut : ∀ x ∈ S', x ∉ S → ∀ y, Next d mem x y → y ∈ S'
  size : S'.length + fresh mem S' ≤ S.length + fresh mem S
section
variable {d : Bool} {mem : List ValV} {S S' S'' : List KeyV} {k : KeyV} {j : Int}
theorem AddR.there (h : k ∈ S) : AddR d mem S k S :=
  ⟨fun _ h => h, h, fun _ h => .inl h, fun x hx hn => absurd hx hn, by rw [fresh_same h, if_pos h]; omega⟩
theorem AddR.shutK (h : k ∉ S) (ho : opensB d k = false) : AddR d mem S k (S ++ [k]) := by
  refine ⟨fun _ h => List.mem_append_left _ h, by simp, fun x hx => ?_, fun x hx hn y hy => ?_, ?_⟩
  · rcases List.mem_append.1 hx with hx | hx
    · exact .inl hx
    · exact .inr (.root (List.mem_singleton.1 hx))
  · rcases List.mem_append.1 hx with hx | hx
    · exact absurd hx hn
    · rw [List.mem_singleton.1 hx] at hy
      rw [hy.1] at ho
      cases ho
  · rw [if_neg h, List.length_append]; simp only [List.length_singleton]; omega
theorem AddL.start : AddL d mem k S k.base S :=
  ⟨fun _ h => h, fun i h1 h2 => by omega, fun _ h => .inl h, fun x hx hn => absurd hx hn, Nat.le_refl _⟩
theorem AddL.skip {n : Nat} (h : AddL d mem k S n S') (hv : (mem.getD n zeroV).is = false) : AddL d mem k S ((n : Int) + 1) S' := by
  refine ⟨h.sub, fun i h1 h2 h3 h4 => ?_, h.only, h.shut, h.size⟩
  by_cases e : i = n
  · rw [e, hv] at h4; cases h4
  · exact h.done i h1 (by omega) h3 h4
theorem AddL.add {n : Nat} (h : AddL d mem k S n S') (ho : opensB d k = true) (h0 : k.base ≤ n) (h1 : (n : Int) < k.base + k.len) (hm : n < mem.length) (hv : (mem.getD n zeroV).is = true) (ha : AddR d mem S' (mem.getD n zeroV).k S'') : AddL d mem k S ((n : Int) + 1) S'' := by
  have hnx : Next d mem k (mem.getD n zeroV).k := ⟨ho, n, h0, h1, hm, hv, rfl⟩
  refine ⟨fun x hx => ha.sub x (h.sub x hx), fun i h1 h2 h3 h4 => ?_, fun x hx => ?_, fun x hx hn y hy => ?_, ?_⟩
  · by_cases e : i = n
    · rw [e]; exact ha.has
    · exact ha.sub _ (h.done i h1 (by omega) h3 h4)
  · rcases ha.only x hx with hx | hx
    · exact h.only x hx
    · exact .inr (hx.mono fun q hq => by rw [hq]; exact .next (.root rfl) hnx)
  · by_cases hs : x ∈ S'
    · exact ha.sub _ (h.shut x hs hn y hy)
    · exact ha.shut x hx hs y hy
  · have h1 := ha.size
    have h2 := h.size
    by_cases hs : (mem.getD n zeroV).k ∈ S'
    · rw [if_pos hs, fresh_same hs] at h1; omega
    · rw [if_neg hs] at h1
      have hin : mem.getD n zeroV ∈ mem := by
        rw [List.getD_eq_getElem?_getD, List.getElem?_eq_getElem hm]; exact List.getElem_mem hm
      have := fresh_lt hin hv hs
      omega
theorem AddL.done' (h : AddL d mem k (S ++ [k]) j S') (hk : k ∉ S) (hj : k.base + k.len ≤ j ∨ (mem.length : Int) ≤ j) : AddR d mem S k S' := by
  refine ⟨fun x hx => h.sub x (List.mem_append_left _ hx), h.sub k (by simp), fun x hx => ?_, fun x hx hn y hy => ?_, ?_⟩
  · rcases h.only x hx with hx | hx
    · rcases List.mem_append.1 hx with hx | hx
      · exact .inl hx
      · exact .inr (.root (List.mem_singleton.1 hx))
    · exact .inr hx
  · by_cases hs : x ∈ S ++ [k]
    · rcases List.mem_append.1 hs with hs | hs
      · exact absurd hs hn
      · rw [List.mem_singleton.1 hs] at hy
        obtain ⟨_, i, h1, h2, h3, h4, rfl⟩ := hy
        exact h.done i h1 (by omega) h3 h4
    · exact h.shut x hx hs y hy
  · have := h.size
    rw [List.length_append] at this
    simp only [List.length_singleton] at this
    rw [if_neg hk]; omega
end
/-- What stands when some keys were added, n times in all. -/
structure Sought (d : Bool) (mem : List ValV) (P : KeyV → Prop) (n : Nat) (S : List KeyV) : Prop where
  all : ∀ k, P k → k ∈ S
  only : ∀ x ∈ S, Rch d mem P x
  shut : ∀ x ∈ S, ∀ y, Next d mem x y → y ∈ S
  size : S.length + fresh mem S ≤ mem.length + n
section
variable {d : Bool} {mem : List ValV} {S S' : List KeyV} {k : KeyV} {P Q : KeyV → Prop} {n : Nat}
theorem Sought.start : Sought d mem (fun _ => False) 0 [] :=
  ⟨fun _ h => h.elim, fun x h => (by cases h), fun x h => (by cases h), by have := fresh_le mem []; simp only [List.length_nil]; omega⟩
theorem Sought.add (h : Sought d mem P n S) (ha : AddR d mem S k S') : Sought d mem (fun x => P x ∨ x = k) (n + 1) S' := by
  refine ⟨fun x hx => ?_, fun x hx => ?_, fun x hx y hy => ?_, ?_⟩
  · rcases hx with hx | rfl
    · exact ha.sub x (h.all x hx)
    · exact ha.has
  · rcases ha.only x hx with hx | hx
    · exact (h.only x hx).mono fun q hq => .root (.inl hq)
    · exact hx.mono fun q hq => .root (.inr hq)
  · by_cases hs : x ∈ S
    · exact ha.sub y (h.shut x hs y hy)
    · exact ha.shut x hx hs y hy
  · have h1 := ha.size
    have h2 := h.size
    have h3 : fresh mem (S ++ [k]) ≤ fresh mem S := fresh_mono fun x hx => List.mem_append_left _ hx
    split at h1 <;> omega
theorem Sought.same (h : Sought d mem P n S) (e : ∀ x, P x ↔ Q x) : Sought d mem Q n S :=
  ⟨fun k hk => h.all k ((e k).2 hk), fun x hx => (h.only x hx).mono fun q hq => .root ((e q).1 hq), h.shut, h.size⟩
theorem Sought.more (h : Sought d mem P n S) {n' : Nat} (hn : n ≤ n') : Sought d mem P n' S := ⟨h.all, h.only, h.shut, by have := h.size; omega⟩
theorem Sought.mem_iff (h : Sought d mem P n S) (x : KeyV) : x ∈ S ↔ Rch d mem P x := by
  refine ⟨h.only x, fun hr => ?_⟩
  induction hr with
  | root hp => exact h.all _ hp
  | next _ hn ih => exact h.shut _ ih _ hn
end
/-- From where one sets out. -/
def rootsP (d : Bool) (R : List ValV) (c : KeyV) (stk : List FrameV) (k : KeyV) : Prop :=
  k = c ∨ (∃ v ∈ R, v.is = true ∧ k = v.k) ∨ (d = true ∧ ∃ f ∈ stk, k = f.code ∨ f.data.is = true ∧ k = f.data.k)
/-- Is a place one that some key is for? -/
def hitP (d : Bool) (mem : List ValV) (P : KeyV → Prop) (p at_ : Int) : Prop := ∃ k, Rch d mem P k ∧ countsB d k = true ∧ withinB p k.perm = true ∧ covB k.base k.len at_ = true
theorem next_deep {mem : List ValV} {k x : KeyV} (h : Next false mem k x) : Next true mem k x := by
  obtain ⟨h1, h2⟩ := h
  refine ⟨?_, h2⟩
  unfold opensB countsB at *
  simp only [Bool.and_eq_true] at h1 ⊢
  exact ⟨rfl, h1.2⟩
theorem rch_deep {mem : List ValV} {P Q : KeyV → Prop} {x : KeyV} (hp : ∀ k, P k → Q k) (h : Rch false mem P x) : Rch true mem Q x := by
  induction h with
  | root h => exact .root (hp _ h)
  | next _ n ih => exact .next ih (next_deep n)
theorem roots_deep {R : List ValV} {c : KeyV} {stk : List FrameV} {k : KeyV} (h : rootsP false R c stk k) : rootsP true R c stk k := by
  rcases h with h | h | ⟨h, _⟩
  · exact .inl h
  · exact .inr (.inl h)
  · cases h
theorem hit_deep {mem : List ValV} {R : List ValV} {c : KeyV} {stk : List FrameV} {p a : Int} (h : hitP false mem (rootsP false R c stk) p a) : hitP true mem (rootsP true R c stk) p a := by
  obtain ⟨k, h1, h2, h3, h4⟩ := h
  exact ⟨k, rch_deep (fun _ => roots_deep) h1, rfl, h3, h4⟩
open Classical in
/-- The places from a on, n of them, that some key is for. -/
noncomputable def hitsL (d : Bool) (mem : List ValV) (P : KeyV → Prop) (p a : Int) (n : Nat) : List Int := ((List.range n).map fun (i : Nat) => a + (i : Int)).filter fun x => decide (hitP d mem P p x)
theorem mem_hits {d : Bool} {mem : List ValV} {P : KeyV → Prop} {p a : Int} {n : Nat} {x : Int} : x ∈ hitsL d mem P p a n ↔ (a ≤ x ∧ x < a + n) ∧ hitP d mem P p x := by
  unfold hitsL
  rw [List.mem_filter]
  simp only [List.mem_map, List.mem_range, decide_eq_true_eq]
  refine and_congr ⟨?_, ?_⟩ Iff.rfl
  · rintro ⟨i, hi, rfl⟩; omega
  · intro h; exact ⟨(x - a).toNat, by omega, by omega⟩
theorem hits_snoc {d : Bool} {mem : List ValV} {P : KeyV → Prop} {p a : Int} {n : Nat} (h : hitP d mem P p (a + n)) : hitsL d mem P p a (n + 1) = hitsL d mem P p a n ++ [a + n] := by
  unfold hitsL
  rw [List.range_succ, List.map_append, List.filter_append]
  simp [h]
theorem hits_skip {d : Bool} {mem : List ValV} {P : KeyV → Prop} {p a : Int} {n : Nat} (h : ¬ hitP d mem P p (a + n)) : hitsL d mem P p a (n + 1) = hitsL d mem P p a n := by
  unfold hitsL
  rw [List.range_succ, List.map_append, List.filter_append]
  simp [h]
end Go.Proofs.Ytmmmmeeepieemaa
/- A key of the set: how it reads; what the set says. -/
namespace Go.Proofs.Ytmmmmeeepieemaa
open Go.RowKit
open Go.Maps (Keyed)
set_option linter.unusedVariables false
set_option maxRecDepth 100000 in
theorem keyedK : Keyed Try.prog 40 := Keyed.of_law (Go.deep_law_laid (m := 3) (by kernel_rfl) (by decide) (of_decide_eq_true (by kernel_rfl)) (by kernel_rfl) (by kernel_rfl))
def keyLit (k : KeyV) : Lit := .string (keyBytes [.int .i64 k.perm, .int .i64 k.base, .int .i64 k.len, .int .i64 k.at_, .int .i64 k.seal_])
theorem i64_wf {n : Int} (h : I64 n) : (Lit.int .i64 n).wf = true := by
  obtain ⟨h1, h2⟩ := h
  exact WalkArith.wf_i64 (by omega)
theorem lits_int {P : Program} {I : TypeId} {n : Nat} (hI : P.underlying I = some (.int .i64)) {a : Int} (w : (Lit.int .i64 a).wf = true) : P.keyLits (n + 1) I [.int .i64 a] = some [.int .i64 a] := by
  unfold Program.keyLits
  rw [hI]
  simp [w]
theorem keyOf5 {P : Program} {K I : TypeId} {f0 f1 f2 f3 f4 : Field} {n : Nat} (hK : P.underlying K = some (.struct #[f0, f1, f2, f3, f4])) (hI : P.underlying I = some (.int .i64)) (e1 : P.keyType K = true) (e2 : P.cellsOf K = 5) (e3 : P.cellsOf I = 1)
    (e4 : P.types.size = n + 1) (nm : (#[f0, f1, f2, f3, f4].all (·.name != "_")) = true) (o0 : f0.offset = 0) (o1 : f1.offset = 1) (o2 : f2.offset = 2) (o3 : f3.offset = 3) (o4 : f4.offset = 4)
    (t0 : f0.type = I) (t1 : f1.type = I) (t2 : f2.type = I) (t3 : f3.type = I) (t4 : f4.type = I) {a0 a1 a2 a3 a4 : Int}
    (w0 : (Lit.int .i64 a0).wf = true) (w1 : (Lit.int .i64 a1).wf = true) (w2 : (Lit.int .i64 a2).wf = true) (w3 : (Lit.int .i64 a3).wf = true) (w4 : (Lit.int .i64 a4).wf = true) :
    keyOf P K (.agg #[.int .i64 a0, .int .i64 a1, .int .i64 a2, .int .i64 a3, .int .i64 a4]) = some (.string (keyBytes [.int .i64 a0, .int .i64 a1, .int .i64 a2, .int .i64 a3, .int .i64 a4])) := by
  have hf : (Value.agg #[.int .i64 a0, .int .i64 a1, .int .i64 a2, .int .i64 a3, .int .i64 a4]).formed P K = true := by
    unfold Value.formed
    simp only [hK, e2]
    rfl
  have hl : P.keyLits (P.types.size + 1) K [.int .i64 a0, .int .i64 a1, .int .i64 a2, .int .i64 a3, .int .i64 a4] = some [.int .i64 a0, .int .i64 a1, .int .i64 a2, .int .i64 a3, .int .i64 a4] := by
    rw [e4]
    unfold Program.keyLits
    rw [hK]
    simp only [e2, nm, List.length_cons, List.length_nil, and_self, if_true]
    simp only [List.mapM_cons, List.mapM_nil, o0, o1, o2, o3, o4, t0, t1, t2, t3, t4, e3, List.drop_zero, List.drop_succ_cons, List.take_succ_cons, List.take_zero, lits_int hI w0, lits_int hI w1, lits_int hI w2, lits_int hI w3, lits_int hI w4]
    rfl
  unfold keyOf
  rw [hK]
  simp only [e1, hf, Bool.and_self, if_true, Value.cells]
  rw [hl]
  rfl
set_option maxRecDepth 100000 in
theorem keyOf_key {k : KeyV} (h : k.wf) : keyOf Try.prog 40 k.val = some (keyLit k) :=
  keyOf5 (I := 3) (n := Try.prog.types.size - 1) Try.underlying40 Try.underlying3 (by kernel_rfl) (by kernel_rfl) (by kernel_rfl) (by kernel_rfl) (by kernel_rfl) rfl rfl rfl rfl rfl rfl rfl rfl rfl rfl (i64_wf h.perm) (i64_wf h.base) (i64_wf h.len) (i64_wf h.at_) (i64_wf h.seal_)
theorem keyLit_inj {a b : KeyV} (ha : a.wf) (hb : b.wf) (h : keyLit a = keyLit b) : a = b := by
  have := keyedK.inj (keyOf_key ha) (h ▸ keyOf_key hb)
  unfold KeyV.val at this
  obtain ⟨a1, a2, a3, a4, a5⟩ := a
  obtain ⟨b1, b2, b3, b4, b5⟩ := b
  simpa using this
/-- The set as the map holds it. -/
def setD (S : List KeyV) : DataW Unit := Maps.setOf (.agg []) (S.map keyLit)
theorem isKeyLit_keyLit (k : KeyV) : WideAt.IsKeyLit (keyLit k) := trivial
theorem has_setD {S : List KeyV} {k : KeyV} (hS : ∀ x ∈ S, x.wf) (hk : k.wf) : Maps.has (setD S) (keyLit k) = decide (k ∈ S) := by
  unfold setD
  rw [Maps.has_setOf _ _ _ (by intro x hx; obtain ⟨y, _, rfl⟩ := List.mem_map.1 hx; exact isKeyLit_keyLit y), List.any_map]
  rw [Bool.eq_iff_iff, List.any_eq_true, decide_eq_true_eq]
  constructor
  · rintro ⟨x, hx, hs⟩
    have := WideAt.sameKey_eq (show (keyLit x).sameKey (keyLit k) = true from hs)
    rw [← keyLit_inj (hS x hx) hk this]; exact hx
  · exact fun h => ⟨k, h, WideAt.sameKey_self (isKeyLit_keyLit k)⟩
theorem setD_snoc (S : List KeyV) (k : KeyV) : setD (S ++ [k]) = (setD S).put (keyLit k) (.agg []) := by
  unfold setD
  rw [List.map_append]
  exact Maps.setOf_snoc _ _ _
/-- The seeker in memory, and its set. -/
structure SeekSt (gs b : Nat) (d : Bool) (mem : List ValV) (ma : Option Addr) (mc : Nat) (S : List KeyV) (W : World) : Prop where
  bk : Bk W gs 125 #[.map (some b), .slice ma mem.length mc, .bool d]
  own : W.ownsMap Try.prog 40 (unitElem (H := Unit)) b S.length (setD S)
  sl : Sl W ma mem.length mem
  wf : ∀ x ∈ S, x.Ok
section
variable {gs b : Nat} {d : Bool} {mem : List ValV} {ma : Option Addr} {mc : Nat} {S : List KeyV} {W W' : World}
theorem owns_heap {b n : Nat} {D : DataW Unit} (h : W.ownsMap Try.prog 40 (unitElem (H := Unit)) b n D) (e : W'.heap[b]? = W.heap[b]?) : W'.ownsMap Try.prog 40 (unitElem (H := Unit)) b n D := by
  obtain ⟨es, c, h1, h2⟩ := h
  exact ⟨es, c, e.trans h1, h2⟩
theorem SeekSt.below (h : SeekSt gs b d mem ma mc S W) (hb : Below W.heap.size W W') : SeekSt gs b d mem ma mc S W' :=
  ⟨bk_keep hb h.bk, owns_heap h.own (hb.block b h.own.lt), h.sl.below hb, h.wf⟩
theorem SeekSt.ne (h : SeekSt gs b d mem ma mc S W) : gs ≠ b := by
  rintro rfl
  obtain ⟨es, c, h1, _⟩ := h.own
  have := h.bk
  unfold Bk at this
  rw [this] at h1
  cases h1
/-- Is it in the set? -/
theorem SeekSt.look (h : SeekSt gs b d mem ma mc S W) {k : KeyV} (hk : k.wf) (hS : ∀ x ∈ S, x.wf) :
    (Instr.lookup 123 (.map (some b)) k.val true).run Try.prog W = .ok (.tuple #[.agg #[], .bool (decide (k ∈ S))]) W := by
  have hz : (zeroValue 148).run Try.prog W = .ok (.agg #[]) W := by kernel_rfl
  obtain ⟨v, ps, hrun, hv⟩ := h.own.look_ok keyedK Try.underlying123 hz unitElem_mk (keyOf_key hk)
  obtain ⟨rfl, _⟩ := unitElem_inv hv
  rw [hrun, has_setD hS hk]
end
end Go.Proofs.Ytmmmmeeepieemaa
/- Seeking: worlds in which the set alone turns; does a key count? -/
namespace Go.Proofs.Ytmmmmeeepieemaa
open Go.RowKit
open Go.Maps (Keyed)
set_option linter.unusedVariables false
set_option linter.unusedSimpArgs false
section
variable {b g n : Nat} {W W' W'' w0 : World} {T : TypeId} {cs : Array Value}
abbrev Grw (b : Nat) (W W' : World) : Prop := W.grownBy W' (some b)
theorem grw_refl : Grw b W W := ⟨rfl, rfl, rfl, Nat.le_refl _, fun _ _ _ => rfl⟩
theorem grw_trans (h : Grw b W W') (h' : Grw b W' W'') : Grw b W W'' :=
  ⟨h'.os.trans h.os, h'.tape.trans h.tape, h'.output.trans h.output, Nat.le_trans h.size h'.size, fun i hi hn => (h'.block i (Nat.lt_of_lt_of_le hi h.size) hn).trans (h.block i hi hn)⟩
theorem grw_of (h : Below W.heap.size W W') : Grw b W W' := ⟨h.os, h.tape, h.output, h.size, fun i hi _ => h.block i hi⟩
theorem grw_bk (h : Grw b W W') (hb : Bk W g T cs) (hn : g ≠ b) : Bk W' g T cs := (h.block g hb.lt (fun e => hn (Option.some.inj e))).trans hb
theorem grw_below (h : Grw b W W') (hw : Below w0.heap.size w0 W) (hb : w0.heap.size ≤ b) : Below w0.heap.size w0 W' :=
  ⟨h.os.trans hw.os, h.tape.trans hw.tape, h.output.trans hw.output, Nat.le_trans hw.size h.size, fun i hi => (h.block i (Nat.lt_of_lt_of_le hi hw.size) (fun e => by have := Option.some.inj e; omega)).trans (hw.block i hi)⟩
end
section
variable {gs b : Nat} {d : Bool} {mem : List ValV} {ma : Option Addr} {mc : Nat} {S S' : List KeyV} {W W' : World}
theorem SeekSt.step (h : SeekSt gs b d mem ma mc S W) (hg : Grw b W W') (ho : W'.ownsMap Try.prog 40 (unitElem (H := Unit)) b S'.length (setD S')) (hw : ∀ x ∈ S', x.Ok) : SeekSt gs b d mem ma mc S' W' := by
  refine ⟨grw_bk hg h.bk h.ne, ho, ?_, hw⟩
  rcases Nat.eq_zero_or_pos mem.length with e | hp
  · exact ⟨h.sl.len, h.sl.max, fun hn => absurd hn (by omega)⟩
  · refine h.sl.grown hg fun a e hl he => ?_
    obtain ⟨a', e', _, hv, _⟩ := sl_val h.sl hp
    rw [e] at e'
    injection e' with e'
    subst e'
    obtain ⟨es, c, h1, _⟩ := h.own
    injection he with he
    have : (a.add (0 * 7)).block = b := by rw [el_block]; exact he
    unfold World.cell? at hv
    rw [this, h1] at hv
    cases hv
theorem SeekSt.same (h : SeekSt gs b d mem ma mc S W) (hb : Below W.heap.size W W') : SeekSt gs b d mem ma mc S W' := h.below hb
end
set_option maxHeartbeats 4000000 in
theorem counts_any {gs b : Nat} {d : Bool} {mem : List ValV} {ma : Option Addr} {mc : Nat} {S : List KeyV} {W : World} (h : SeekSt gs b d mem ma mc S W) (p bb l a s : Int) :
    Calls Try.prog 55 #[.pointer (some ⟨gs, 0, none⟩), .agg #[.int .i64 p, .int .i64 bb, .int .i64 l, .int .i64 a, .int .i64 s]] W fun e w' => e = .returned (.bool (countsB d ⟨p, bb, l, a, s⟩)) ∧ Below W.heap.size W w' := by
  have c2 := h.bk.cell 2
  have gL := h.bk.lt
  have e2 : W.cell? ⟨gs, 2, none⟩ = some (.bool d) := c2
  clear c2 h
  unfold countsB
  cases d
  · go_enter Try.func55, Try.ntmps55
    go_wp2
    go_ret
    exact ⟨by simp; rfl, ext_alloc (Below.refl _ _) _⟩
  · go_enter Try.func55, Try.ntmps55
    go_wp2
    go_ret
    exact ⟨by simp, ext_alloc (Below.refl _ _) _⟩
end Go.Proofs.Ytmmmmeeepieemaa
