/- A loop over a function that gives elements one after another, whose body always goes on. -/
import Derived.RangeFuncNested
import Derived.RangeFuncGives
namespace Go.Proofs.YtlpejagkadalbaaGreatDoor
open Go Go.RowKit
set_option linter.unusedVariables false
theorem walk_noncells {o : Obj} (h : o.isWalk = true) : o.isCells = false := by
  cases o <;> first | rfl | cases h
theorem others_walks {W W' : World} (h : KeepsOthers W W') : KeepsWalks W W' := ⟨h.size, fun k o hk ho => h.same k o hk (walk_noncells ho)⟩
/-- A loop over a function that gives elements one after another ('SeqGives'), whose body always goes on. -/
theorem wpIn_rangeFunc_seq {α : Type} {F : Fence} {n : Nat} {P : Program} {g : Operand} {p : Tmp} {assign body : Code} {Q : Exit → Act → World → Prop} {a : Act} {w : World}
    (hro : F.round = none) (h1 : 1 ≤ n) {gf : Nat} {lb : Array Value} (hg : a.eval g = .func (.func gf) #[] lb) (hFg : F.fn gf) (eg : ∀ args w, (callFunc gf args).run P w = .ok (.enter gf args) w)
    (enc : α → Value) (S : List α → Prop) (N : Nat) (hseq : SeqGives F (n - 1) P gf lb enc S N w) (J : List α → World → Prop) (J1 : List α → α → Act → World → Prop)
    (hJ : ∀ s W W' row, J s W → W.grownBy W' row → (∀ r, row = some r → w.heap.size ≤ r ∧ ∃ o : Obj, W.heap[r]? = some o ∧ o.isCells = false) → J s W')
    (hJ1 : ∀ s x a1 W (l : Nat) (o o' : Obj), J1 s x a1 W → w.heap.size ≤ l → W.heap[l]? = some o → o.isCells = false → J1 s x a1 (W.putObj l o'))
    (h0 : J [] w)
    (hassign : ∀ (l : Nat) (s : List α) (x : α) (W : World) (K : Act → World → Prop), J s W → (∀ a1 W1, KeepsOthers W W1 → J1 s x a1 W1 → K a1 W1) →
      assign.wpIn (F.inRound l) (n - 1 - 1) P (Exit.then K (fun _ _ _ => False)) { tmps := a.tmps.setIfInBounds p (enc x), defers := [] } W)
    (hbody : ∀ (l : Nat) (s : List α) (x : α) (a1 : Act) (W : World), s.length < N → J1 s x a1 W → body.wpIn (F.inRound l) (n - 1 - 1) P (fun e _ W' => e = .normal ∧ KeepsOthers W W' ∧ J (s ++ [x]) W') a1 W)
    (hdone : ∀ (ss : List α) (W : World), S ss → J ss W → W.heap[w.heap.size]? = some (.deferred (some [])) → Q .normal { a with defers := { target := .collected w.heap.size, args := #[] } :: a.defers } W) :
    (Code.rangeFunc g #[p] assign body).wpIn F n P Q a w := by
  refine wpIn_rangeFunc ?_
  intro fn hfn
  rw [hro]
  obtain ⟨rec, hrec⟩ : ∃ rec : LoopState → Option Code → Loop, rec = fun st pe => { state := st, pending := pe, fn, tmps := a.tmps, params := #[p], assign, body, defers := w.heap.size } := ⟨_, rfl⟩
  obtain ⟨W0, hW0⟩ : ∃ W0, W0 = (w.alloc (.deferred (some []))).alloc (.loop (rec .ready none)) := ⟨_, rfl⟩
  have hs0 : W0.heap.size = w.heap.size + 2 := by rw [hW0]; simp
  have hb0 : Below w.heap.size w W0 := by rw [hW0]; exact ((Below.refl _ w).alloc (Nat.le_refl _) _).alloc (by simp) _
  have hl0 : W0.heap[w.heap.size + 1]? = some (.loop (rec .ready none)) := by
    rw [hW0]
    have := World.alloc_heap_new (w.alloc (.deferred (some []))) (.loop (rec .ready none))
    rwa [World.size_alloc] at this
  have hk0 : W0.heap[w.heap.size]? = some (.deferred (some [])) := by
    rw [hW0]
    exact (Below.heap_alloc _ _ _ (by simp)).trans (World.alloc_heap_new w _)
  have hj0 : J [] W0 := by
    have hj1 : J [] (w.alloc (.deferred (some []))) := hJ _ _ _ none h0 ⟨rfl, rfl, rfl, by simp, fun k hk _ => Below.heap_alloc _ _ k hk⟩ (fun _ h => by cases h)
    rw [hW0]
    exact hJ _ _ _ none hj1 ⟨rfl, rfl, rfl, by simp, fun k hk _ => Below.heap_alloc _ _ k hk⟩ (fun _ h => by cases h)
  refine ⟨w.heap.size + 1, [{ target := .collected w.heap.size, args := #[] }], W0, { target := .fn (.func gf) lb, args := #[.func (.yield (w.heap.size + 1)) #[] #[]] }, W0, gf,
    #[.func (.yield (w.heap.size + 1)) #[] #[]] ++ lb, W0, ?_, ?_, ?_, ?_, fun _ => h1, ?_⟩
  · rw [hW0, hrec]; exact run_enterLoop_outer _ _ _ _ _
  · simp only [resolve, hg]
    simp [go_sem]
  · intro f' hf'; simp [Target.leads] at hf'; subst hf'; exact hFg
  · simp [invoke, go_sem, eg]
  · refine (hseq (w.heap.size + 1) (fun s W => J s W ∧ W.heap[w.heap.size + 1]? = some (.loop (rec .ready none)) ∧ W.heap[w.heap.size]? = some (.deferred (some []))) W0 hb0 ?_ ?_ ⟨hj0, hl0, hk0⟩).mono ?_
    · rintro s W W' row ⟨hj, hl, hk⟩ hgr hrow
      have hle : ∀ r, row = some r → w.heap.size + 2 ≤ r := fun r e => hs0 ▸ (hrow r e).1
      refine ⟨hJ _ _ _ row hj hgr (fun r e => ⟨by have := hle r e; omega, (hrow r e).2.elim fun o ho => ⟨o, ho.1, walk_noncells ho.2⟩⟩), ?_, ?_⟩
      · exact (hgr.block _ (Array.getElem?_eq_some_iff.1 hl).1 (fun e => by have := hle _ e.symm; omega)).trans hl
      · exact (hgr.block _ (Array.getElem?_eq_some_iff.1 hk).1 (fun e => by have := hle _ e.symm; omega)).trans hk
    · rintro s x W ⟨hj, hl, hk⟩ hlen
      have hlt : w.heap.size + 1 < W.heap.size := (Array.getElem?_eq_some_iff.1 hl).1
      have hy := run_yield (P := P) (args := #[enc x]) hl (by rw [hrec]; rfl)
      rw [hrec] at hy
      have hz : (#[p].zip #[enc x]).foldl (fun (t : Array Value) (q : Tmp × Value) => t.setIfInBounds q.1 q.2) a.tmps = a.tmps.setIfInBounds p (enc x) := by simp
      refine ⟨fn, _, assign, body, hy, roundIn_of_wpIn hfn ?_⟩
      refine (show _ from ?_)
      have key := hassign (w.heap.size + 1) s x W (fun a₁ w₁ => ∃ w₂, (Instr.beginRound (w.heap.size + 1)).run P w₁ = .ok () w₂ ∧ body.wpIn (F.inRound (w.heap.size + 1)) (n - 1 - 1) P (roundPost P (w.heap.size + 1) (fun e W' => e = .returned (.bool true) ∧ (J (s ++ [x]) W' ∧ W'.heap[w.heap.size + 1]? = some (.loop (rec .ready none)) ∧ W'.heap[w.heap.size]? = some (.deferred (some []))) ∧ KeepsWalks W W')) a₁ w₂) hj ?_
      · rw [← hz] at key
        exact key
      intro a1 W1 hko hj1
      have hl1 := hko.same _ _ hl rfl
      have hk1 := hko.same _ _ hk rfl
      have hlt1 : w.heap.size + 1 < W1.heap.size := (Array.getElem?_eq_some_iff.1 hl1).1
      refine ⟨_, run_beginRound hl1 (by rw [hrec]), ?_⟩
      have hl2 : (W1.putObj (w.heap.size + 1) (.loop { rec .ready none with state := .busy })).heap[w.heap.size + 1]? = some (.loop { rec .ready none with state := .busy }) := World.putObj_heap_same hlt1
      have hk2 : (W1.putObj (w.heap.size + 1) (.loop { rec .ready none with state := .busy })).heap[w.heap.size]? = some (.deferred (some [])) := (World.putObj_heap_other (by omega)).trans hk1
      refine wpIn_mono (hbody _ s x a1 _ hlen (hJ1 _ _ _ _ _ _ _ hj1 (by omega) hl1 rfl)) ?_
      rintro e a3 W3 ⟨rfl, hk3, hj3⟩
      have hl3 := hk3.same _ _ hl2 rfl
      have hkk3 := hk3.same _ _ hk2 rfl
      have hr := run_endRound (P := P) none hl3
      refine ⟨_, _, hr, rfl, ⟨hJ _ _ _ (some (w.heap.size + 1)) hj3 ⟨rfl, rfl, rfl, by simp, fun k _ hk => World.putObj_heap_other (fun e => hk (by rw [e]))⟩ (fun r e => by cases e; exact ⟨by omega, _, hl3, rfl⟩), ?_, (World.putObj_heap_other (by omega)).trans hkk3⟩, ?_⟩
      · have := World.putObj_heap_same (w := W3) (o := (.loop (rec .ready none))) (Array.getElem?_eq_some_iff.1 hl3).1
        rw [hrec] at this ⊢
        exact this
      · exact (((others_walks hko).trans (KeepsWalks.putObj _ hl1 rfl)).trans (others_walks hk3)).trans (KeepsWalks.putObj _ hl3 rfl)
    · rintro e W2 ⟨⟨v, rfl⟩, ss, hS, hj, hl, hk⟩
      obtain ⟨W3, hW3⟩ : ∃ W3, W3 = W2.putObj (w.heap.size + 1) (.loop { rec .ready none with state := .exhausted }) := ⟨_, rfl⟩
      have hend : (Instr.endLoop (w.heap.size + 1)).run P W2 = .ok none W3 := by
        have := run_endLoop (P := P) hl (by rw [hrec]; simp)
        rw [hW3, hrec]
        rw [hrec] at this
        exact this
      have hj3 : J ss W3 := hJ ss W2 W3 (some (w.heap.size + 1)) hj (by rw [hW3]; exact ⟨rfl, rfl, rfl, by simp, fun k _ hk => World.putObj_heap_other (fun e => hk (by rw [e]))⟩) (fun r e => by cases e; exact ⟨by omega, _, hl, rfl⟩)
      have hk3 : W3.heap[w.heap.size]? = some (.deferred (some [])) := by rw [hW3]; exact (World.putObj_heap_other (by omega)).trans hk
      exact ⟨none, W3, hend, hdone ss W3 hS hj3 hk3⟩
end Go.Proofs.YtlpejagkadalbaaGreatDoor
