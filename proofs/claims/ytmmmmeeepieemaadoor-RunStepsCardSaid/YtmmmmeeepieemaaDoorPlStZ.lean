import Derived.Test.YtmmmmeeepieemaaDoorBuR
import Derived.Test.YtmmmmeeepieemaaDoorPlIterZ
/- What stands while the places of a run are gathered. -/
namespace Go.Proofs.YtmmmmeeepieemaaDoor
open Go Go.RowKit Go.Shelf
set_option linter.unusedVariables false
set_option linter.unusedSimpArgs false
structure PlSt (w0 : World) (b : RunB) (L : List Int) (m : MV) (e : Int) (W : World) : Prop where
  ms : ∃ vm vs vo vl, MS b.base b.gm vm vs vo m W ∧ (¬ mS b.gm vm vs vo b.gn ∧ ¬ mS b.gm vm vs vo b.gA ∧ ¬ mS b.gm vm vs vo b.gB ∧ ¬ mS b.gm vm vs vo b.gC) ∧ Bk W b.gn 36 #[vl] ∧ Own W w0.heap.size 3 vl L ∧ ∀ g, vl.ownBlock = some g → ¬ mS b.gm vm vs vo g ∧ g ≠ b.gA
  e : Bk W b.ge 23 #[.int .i64 e]
  A : Bk W b.gA 3 #[.int .i64 b.f]
  B : Bk W b.gB 82 #[.pointer (some ⟨b.gm, 0, none⟩)]
  C : Bk W b.gC 83 #[.pointer (some ⟨b.ge, 0, none⟩)]
  below : Below w0.heap.size w0 W
  ne : w0.heap.size ≤ b.gm ∧ w0.heap.size ≤ b.ge ∧ w0.heap.size ≤ b.gn ∧ w0.heap.size ≤ b.base ∧ b.base ≤ b.gn
section
variable {w0 : World} {b : RunB} {L : List Int} {m : MV} {e : Int} {W : World}
theorem PlSt.putObj (h : PlSt w0 b L m e W) {l : Nat} {o o' : Obj} (hl : W.heap[l]? = some o) (ho : o.isCells = false) (hb : w0.heap.size ≤ l) : PlSt w0 b L m e (W.putObj l o') := by
  obtain ⟨vm, vs, vo, vl, h1, h2, h3, h4, h5⟩ := h.ms
  refine ⟨⟨vm, vs, vo, vl, ms_putObj h1 hl ho, h2, bk_putObj h3 hl ho, (Fr.putObj hl).own h4 (fun g hg eq => ?_), h5⟩, bk_putObj h.e hl ho, bk_putObj h.A hl ho, bk_putObj h.B hl ho, bk_putObj h.C hl ho, (Fr.putObj hl).below h.below (fun i hi => by omega), h.ne⟩
  obtain ⟨_, _, hbk⟩ := own_cells h4 hg
  exact bk_noncell hbk hl ho eq
theorem PlSt.drew (h : PlSt w0 b L m e W) : PlSt w0 b L m e W.drew := by
  obtain ⟨vm, vs, vo, vl, h1, h2, h3, h4, h5⟩ := h.ms
  have hf := Fr.drew (fun _ => False) W
  exact ⟨⟨vm, vs, vo, vl, h1.fr hf (fun _ _ h => h), h2, hf.bk h3 id, hf.own h4 (fun _ _ h => h), h5⟩, hf.bk h.e id, hf.bk h.A id, hf.bk h.B id, hf.bk h.C id, hf.below h.below (fun _ h => h.elim), h.ne⟩
theorem PlSt.err (h : PlSt w0 b L m e W) (e' : Int) : PlSt w0 b L m e' (W.setCell ⟨b.ge, 0, none⟩ (.int .i64 e')) := by
  obtain ⟨vm, vs, vo, vl, h1, h2, h3, h4, h5⟩ := h.ms
  have hf : Fr (fun j => j = b.ge) W (W.setCell ⟨b.ge, 0, none⟩ (.int .i64 e')) := Fr.setCell W (p := ⟨b.ge, 0, none⟩) (S := fun j => j = b.ge) rfl _
  have hm := h1.not h.e (by decide) (by decide) (by decide) (by decide)
  exact ⟨⟨vm, vs, vo, vl, h1.fr hf (fun j hj e => hm (e ▸ hj)), h2, hf.bk h3 (ne_ty h3 h.e (by decide)), hf.own h4 (fun g hg eq => own_ty h4 h.e (by decide) (by rw [hg, eq])), h5⟩, bk_cell1 h.e _, hf.bk h.A (ne_ty h.A h.e (by decide)), hf.bk h.B (ne_ty h.B h.e (by decide)), hf.bk h.C (ne_ty h.C h.e (by decide)), hf.below h.below (fun i hi => by have := h.ne.2.1; omega), h.ne⟩
theorem PlSt.stepped (h : PlSt w0 b L m e W) {vm vs vo vl : Value} (h1 : MS b.base b.gm vm vs vo m W) (h2 : ¬ mS b.gm vm vs vo b.gn ∧ ¬ mS b.gm vm vs vo b.gA ∧ ¬ mS b.gm vm vs vo b.gB ∧ ¬ mS b.gm vm vs vo b.gC) (h3 : Bk W b.gn 36 #[vl]) (h4 : Own W w0.heap.size 3 vl L) (h5 : ∀ g, vl.ownBlock = some g → ¬ mS b.gm vm vs vo g ∧ g ≠ b.gA)
    {m' : MV} {vs' vo' : Value} {W' : World} (hm : MS b.base b.gm vm vs' vo' m' W') (hf : Fr (mS b.gm vm vs vo) W W') (n1 : NewB vs vs' W) (n2 : NewB vo vo' W) : PlSt w0 b L m' e W' := by
  have hn : ∀ j, ¬ mS b.gm vm vs vo j → j < W.heap.size → ¬ mS b.gm vm vs' vo' j := by
    intro j hj hl hk
    rcases hk with hk | hk | hk | hk
    · exact hj (.inl hk)
    · exact hj (.inr (.inl hk))
    · rcases n1 j hk with h | h
      · exact hj (.inr (.inr (.inl h)))
      · omega
    · rcases n2 j hk with h | h
      · exact hj (.inr (.inr (.inr h)))
      · omega
  have he := h1.not h.e (by decide) (by decide) (by decide) (by decide)
  refine ⟨⟨vm, vs', vo', vl, hm, ⟨hn _ h2.1 h3.lt, hn _ h2.2.1 h.A.lt, hn _ h2.2.2.1 h.B.lt, hn _ h2.2.2.2 h.C.lt⟩, hf.bk h3 h2.1, hf.own h4 (fun g hg => (h5 g hg).1), fun g hg => ⟨hn g (h5 g hg).1 (own_lt h4 hg).2, (h5 g hg).2⟩⟩, hf.bk h.e he, hf.bk h.A h2.2.1, hf.bk h.B h2.2.2.1, hf.bk h.C h2.2.2.2, hf.below h.below (fun i hi => ?_), h.ne⟩
  have hb := h.ne.2.2.2.1
  rcases hi with rfl | hi | hi | hi
  · exact h.ne.1
  · have := (own_lt h1.om hi).1; omega
  · have := (own_lt h1.os hi).1; omega
  · have := (own_lt h1.oo hi).1; omega
/-- A place told: the list's row may be a new one. -/
theorem PlSt.told (h : PlSt w0 b L m e W) {vm vs vo vl : Value} (h1 : MS b.base b.gm vm vs vo m W) (h2 : ¬ mS b.gm vm vs vo b.gn ∧ ¬ mS b.gm vm vs vo b.gA ∧ ¬ mS b.gm vm vs vo b.gB ∧ ¬ mS b.gm vm vs vo b.gC) (h3 : Bk W b.gn 36 #[vl]) (h4 : Own W w0.heap.size 3 vl L) (h5 : ∀ g, vl.ownBlock = some g → ¬ mS b.gm vm vs vo g ∧ g ≠ b.gA)
    {w2 w3 : World} (hb : Below W.heap.size W w2) (hg : w2.grownBy w3 vl.ownBlock) {v3 : Value} {L' : List Int} (ho : Own w3 w0.heap.size 3 v3 L') (hat : v3.ownBlock = vl.ownBlock ∨ v3.ownBlock = some w2.heap.size) : PlSt w0 b L' m e (w3.setCell ⟨b.gn, 0, none⟩ v3) := by
  have hf3 : Fr (fun j => vl.ownBlock = some j) W w3 := (Fr.of (S := fun j => vl.ownBlock = some j) hb).trans (Fr.grown (S := fun j => vl.ownBlock = some j) hg (fun k e => .inl e)) (fun _ _ h => h)
  have hs3 : Fr (fun j => j = b.gn) w3 (w3.setCell ⟨b.gn, 0, none⟩ v3) := Fr.setCell w3 (p := ⟨b.gn, 0, none⟩) (S := fun j => j = b.gn) rfl _
  have hf : Fr (fun j => vl.ownBlock = some j ∨ j = b.gn) W (w3.setCell ⟨b.gn, 0, none⟩ v3) := (hf3.mono (fun _ _ h => .inl h)).trans hs3 (fun _ _ h => .inr h)
  have k3 : Bk w3 b.gn 36 #[vl] := hf3.bk h3 (fun eq => own_ty h4 h3 (by decide) eq)
  refine ⟨⟨vm, vs, vo, v3, h1.fr hf (fun j hj hS => ?_), h2, bk_set' k3 rfl, hs3.own ho (fun g hg eq => own_ty ho k3 (by decide) (by rw [hg, eq])), fun g hg => ?_⟩, hf.bk h.e (fun hS => ?_), hf.bk h.A (fun hS => ?_), hf.bk h.B (fun hS => ?_), hf.bk h.C (fun hS => ?_), hf.below h.below (fun i hi => ?_), h.ne⟩
  · rcases hS with hS | rfl
    · exact (h5 j hS).1 hj
    · exact h2.1 hj
  · rcases hat with e' | e'
    · exact h5 g (by rw [← e']; exact hg)
    · rw [hg] at e'
      injection e' with e'
      have hz := hb.size
      have hA := h.A.lt
      exact ⟨fun hk => by have := h1.lt hk; omega, by omega⟩
  · rcases hS with hS | hS
    · exact own_ty h4 h.e (by decide) hS
    · exact ne_ty h.e h3 (by decide) hS
  · rcases hS with hS | hS
    · exact (h5 _ hS).2 rfl
    · exact ne_ty h.A h3 (by decide) hS
  · rcases hS with hS | hS
    · exact own_ty h4 h.B (by decide) hS
    · exact ne_ty h.B h3 (by decide) hS
  · rcases hS with hS | hS
    · exact own_ty h4 h.C (by decide) hS
    · exact ne_ty h.C h3 (by decide) hS
  · rcases hi with hi | rfl
    · exact (own_lt h4 hi).1
    · exact h.ne.2.2.1
end
def PlL (w0 : World) (b : RunB) (l D : Nat) (o1 o2 : Obj) (L : List Int) (m : MV) (e : Int) (W : World) : Prop := PlSt w0 b L m e W ∧ W.heap[l]? = some o1 ∧ W.heap[D]? = some o2
section
variable {w0 : World} {b : RunB} {l D : Nat} {o1 o2 : Obj} {L : List Int} {m : MV} {e : Int} {W : World}
theorem PlL.drew (h : PlL w0 b l D o1 o2 L m e W) : PlL w0 b l D o1 o2 L m e W.drew := ⟨h.1.drew, h.2.1, h.2.2⟩
theorem PlL.err (h : PlL w0 b l D o1 o2 L m e W) (h1 : o1.isCells = false) (h2 : o2.isCells = false) (e' : Int) : PlL w0 b l D o1 o2 L m e' (W.setCell ⟨b.ge, 0, none⟩ (.int .i64 e')) := by
  have hf : Fr (fun j => j = b.ge) W (W.setCell ⟨b.ge, 0, none⟩ (.int .i64 e')) := Fr.setCell W (p := ⟨b.ge, 0, none⟩) (S := fun j => j = b.ge) rfl _
  exact ⟨h.1.err e', (hf.block l (Array.getElem?_eq_some_iff.1 h.2.1).1 (fun q => bk_noncell h.1.e h.2.1 h1 q.symm)).trans h.2.1, (hf.block D (Array.getElem?_eq_some_iff.1 h.2.2).1 (fun q => bk_noncell h.1.e h.2.2 h2 q.symm)).trans h.2.2⟩
theorem PlL.one (h : PlL w0 b l D o1 o2 L m e W) (h1 : o1.isCells = false) (h2 : o2.isCells = false) (hok : m.Ok) (ht : Tab w0) :
    Calls Tryd.prog 34 #[.pointer (some ⟨b.gm, 0, none⟩)] W fun r W' => r = .returned (.int .i64 m.err) ∧ PlL w0 b l D o1 o2 L m.after e W' := by
  obtain ⟨vm, vs, vo, vl, g1, g2, g3, g4, g5⟩ := h.1.ms
  refine (one_any g1 hok (ht.below h.1.below) (Nat.le_trans h.1.ne.2.2.2.2 (Nat.le_of_lt g3.lt))).mono ?_
  rintro r W' ⟨rfl, vs', vo', hm, hf, n1, n2⟩
  have kp : ∀ (j : Nat) (o : Obj), W.heap[j]? = some o → o.isCells = false → W'.heap[j]? = some o := fun j o hj ho => (hf.block j (Array.getElem?_eq_some_iff.1 hj).1 (fun hk => by
    obtain ⟨T, cs, hb⟩ := ms_cells g1 hk
    exact bk_noncell hb hj ho rfl)).trans hj
  exact ⟨rfl, h.1.stepped g1 g2 g3 g4 g5 hm hf n1 n2, kp _ _ h.2.1 h1, kp _ _ h.2.2 h2⟩
end
end Go.Proofs.YtmmmmeeepieemaaDoor
