import Derived.Test.YtmmmmeeepieemaaDoorBuP
import Derived.Test.YtmmmmeeepieemaaDoorBuR
/- A cell of a machine's memory stored; a step of a machine in a box. -/
namespace Go.Proofs.YtmmmmeeepieemaaDoor
open El (cl)
open Go.RowKit
set_option linter.unusedVariables false
theorem own_far {α : Type} [El α] {w : World} {base : Nat} {T : TypeId} {v : Value} {xs : List α} (h : Own w base T v xs) {g : Nat} (hg : g < base) (i : Nat) (us : List Value) : Own (w.setCells g i us) base T v xs := by
  refine h.kept (grown_setCells g us i w) ?_
  rcases h.form with ⟨rfl, _⟩ | ⟨k, c, rfl, h1, _⟩
  · exact .inl rfl
  · right
    simp [Value.ownBlock]
    omega
theorem MOwn.far {base g : Nat} {m : MV} {cs : Array Value} {W : World} (h : MOwn base m cs W) (hg : g < base) (i : Nat) (us : List Value) : MOwn base m cs (W.setCells g i us) := by
  obtain ⟨vm, vs, vo, e, h1, h2, h3⟩ := h.own
  exact ⟨h.h8, vm, vs, vo, e, own_far h1 hg i us, own_far h2 hg i us, own_far h3 hg i us⟩
theorem MOwn.setMem {base g c j : Nat} {m : MV} {vs vo : Value} {W : World} (h8 : m.R.length = 8) (om : Own W base 32 (.slice (some ⟨g, 0, none⟩) m.mem.length c) m.mem) (os : Own W base 88 vs m.stk) (oo : Own W base 3 vo m.out) (hj : j < m.mem.length) (x : ValV) :
    MOwn base (m.put j x) (mcs m.R m.c (.slice (some ⟨g, 0, none⟩) m.mem.length c) vs vo) (W.setCells g (j * 7) (cl x)) :=
  ⟨h8, _, _, _, rfl, (own_set om hj x).1, own_setCells_own os om (by decide) _ _, own_setCells_own oo om (by decide) _ _⟩
theorem step_own {g : Nat} {m : MV} {cs : Array Value} {W : World} (h : MBox g m cs W) (ht : Tab W) {X : MV} {er : Int} (hr : stepF m = (X, er)) (hX : X.R.length = 8) :
    Calls Tryd.prog 14 #[.agg cs] W fun e w' => ∃ cs', e = .returned (.tuple #[.agg cs', .int .i64 er]) ∧ MOwn W.heap.size X cs' w' ∧ Below W.heap.size W w' := by
  obtain ⟨ma, sa, oa, mc, sc, oc, rfl, h1, h2, h3⟩ := h.row
  have := step_any m ma sa oa mc sc oc W h.h8 h1 h2 h3 ht
  rw [hr] at this
  refine this.mono ?_
  rintro e w' ⟨vm, vs, vo, rfl, om, os, oo, hb⟩
  exact ⟨_, rfl, ⟨hX, vm, vs, vo, rfl, om, os, oo⟩, hb⟩
end Go.Proofs.YtmmmmeeepieemaaDoor
