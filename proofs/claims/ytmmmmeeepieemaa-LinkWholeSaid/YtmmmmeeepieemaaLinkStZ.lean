import Derived.Test.YtmmmmeeepieemaaBuC
import Derived.Test.YtmmmmeeepieemaaLinkFindZ
/- The image that Link builds: three rows of its own behind one block. -/
namespace Go.Proofs.Ytmmmmeeepieemaa
open El (cl)
open Go.RowKit
set_option linter.unusedVariables false
section
variable {α β : Type} [El α] [El β] {w w' : World} {base base' : Nat} {T T' : TypeId} {v v' : Value} {xs : List α} {ys : List β}
/-- A row's block holds its type. -/
theorem own_obj (h : Own w base T v xs) {k : Nat} (hk : v.ownBlock = some k) : ∃ cur fr, w.heap[k]? = some (.cells cur T fr) := by
  rcases h.2 with ⟨rfl, _⟩ | ⟨g, cap, cur, rfl, _, h3, _⟩
  · cases hk
  · injection hk with hk; subst hk; exact ⟨_, _, h3⟩
theorem own_shape (h : Own w base T v xs) : ∃ a N c, v = .slice a N c := by
  obtain ⟨a, c, h, _, _⟩ := h.sl
  exact ⟨_, _, _, h⟩
theorem own_span (h : Own w base T v xs) {k : Nat} (hk : v.ownBlock = some k) : base ≤ k ∧ k < w.heap.size := by
  rcases h.form with ⟨rfl, _⟩ | ⟨g, cap, rfl, h1, h2, _⟩
  · cases hk
  · injection hk with hk; subst hk; exact ⟨h1, h2⟩
theorem own_not_bk (h : Own w base T v xs) {k : Nat} {cs : Array Value} (hb : Bk w k T' cs) (hT : T' ≠ T) : v.ownBlock ≠ some k := by
  intro e
  obtain ⟨cur, fr, h1⟩ := own_obj h e
  unfold Bk at hb
  rw [hb] at h1
  injection h1 with h1
  injection h1 with _ h1 _
  exact hT h1
theorem own_apart (h : Own w base T v xs) (h' : Own w base' T' v' ys) (hT : T' ≠ T) : v.ownBlock = none ∨ v.ownBlock ≠ v'.ownBlock := by
  cases e : v.ownBlock with
  | none => exact .inl rfl
  | some k =>
    right
    intro e'
    obtain ⟨c1, f1, h1⟩ := own_obj h e
    obtain ⟨c2, f2, h2⟩ := own_obj h' e'.symm
    rw [h1] at h2
    injection h2 with h2
    injection h2 with _ h2 _
    exact hT h2.symm
theorem own_other (h : Own w base T v xs) (h' : Own w base' T' v' ys) (hT : T' ≠ T) (g : w.grownBy w' v'.ownBlock) : Own w' base T v xs := h.kept g (own_apart h h' hT)
theorem bk_other {k : Nat} {cs : Array Value} (hb : Bk w k T' cs) (h : Own w base T v xs) (hT : T' ≠ T) (g : w.grownBy w' v.ownBlock) : Bk w' k T' cs :=
  (g.block k hb.lt (fun e => own_not_bk h hb hT e.symm)).trans hb
theorem bk_grown {k : Nat} {cs : Array Value} (hb : Bk w k T cs) {row : Option Nat} (g : w.grownBy w' row) (hn : row ≠ some k) : Bk w' k T cs := (g.block k hb.lt (fun e => hn e.symm)).trans hb
theorem grown_setCell (w : World) (g i : Nat) (u : Value) : w.grownBy (w.setCell ⟨g, i, none⟩ u) (some g) :=
  ⟨rfl, rfl, rfl, by simp [World.setCell], fun k _ hk => Below.heap_setCell w _ u k (fun e => hk (by rw [e]))⟩
theorem own_cell (h : Own w base T v xs) {k : Nat} {cs : Array Value} (hb : Bk w k T' cs) (hT : T' ≠ T) (i : Nat) (u : Value) : Own (w.setCell ⟨k, i, none⟩ u) base T v xs :=
  h.kept (grown_setCell w k i u) (.inr (own_not_bk h hb hT))
theorem bk_cell {g k : Nat} {cs : Array Value} (hb : Bk w k T cs) (hn : k ≠ g) (i : Nat) (u : Value) : Bk (w.setCell ⟨g, i, none⟩ u) k T cs := bk_grown hb (grown_setCell w g i u) (fun e => hn (by injection e with e; exact e.symm))
end
/-- An image under way. -/
structure ImSt (base gI : Nat) (M : List ValV) (P : List PlaceV) (E : List EntryV) (vm vp ve : Value) (W : World) : Prop where
  b : Bk W gI 27 #[vm, vp, ve]
  m : Own W base 42 vm M
  p : Own W base 38 vp P
  e : Own W base 51 ve E
section
variable {base gI : Nat} {M M' : List ValV} {P P' : List PlaceV} {E E' : List EntryV} {vm vp ve u : Value} {W W' : World}
theorem ImSt.below (h : ImSt base gI M P E vm vp ve W) (hb : Below W.heap.size W W') : ImSt base gI M P E vm vp ve W' := ⟨bk_keep hb h.b, h.m.below hb, h.p.below hb, h.e.below hb⟩
theorem ImSt.mem (h : ImSt base gI M P E vm vp ve W) (hg : W.grownBy W' vm.ownBlock) (ho : Own W' base 42 u M') : ImSt base gI M' P E u vp ve (W'.setCell ⟨gI, 0, none⟩ u) := by
  have hb := bk_other h.b h.m (by decide) hg
  exact ⟨bk_set' hb rfl, own_cell ho hb (by decide) _ _, own_cell (own_other h.p h.m (by decide) hg) hb (by decide) _ _, own_cell (own_other h.e h.m (by decide) hg) hb (by decide) _ _⟩
theorem ImSt.places (h : ImSt base gI M P E vm vp ve W) (hg : W.grownBy W' vp.ownBlock) (ho : Own W' base 38 u P') : ImSt base gI M P' E vm u ve (W'.setCell ⟨gI, 1, none⟩ u) := by
  have hb := bk_other h.b h.p (by decide) hg
  exact ⟨bk_set' hb rfl, own_cell (own_other h.m h.p (by decide) hg) hb (by decide) _ _, own_cell ho hb (by decide) _ _, own_cell (own_other h.e h.p (by decide) hg) hb (by decide) _ _⟩
theorem ImSt.entries (h : ImSt base gI M P E vm vp ve W) (hg : W.grownBy W' ve.ownBlock) (ho : Own W' base 51 u E') : ImSt base gI M P E' vm vp u (W'.setCell ⟨gI, 2, none⟩ u) := by
  have hb := bk_other h.b h.e (by decide) hg
  exact ⟨bk_set' hb rfl, own_cell (own_other h.m h.e (by decide) hg) hb (by decide) _ _, own_cell (own_other h.p h.e (by decide) hg) hb (by decide) _ _, own_cell ho hb (by decide) _ _⟩
theorem ImSt.set {g c N i : Nat} (h : ImSt base gI M P E (.slice (some ⟨g, 0, none⟩) N c) vp ve W) (hN : M.length = N) (hi : i < N) (y : ValV) : ImSt base gI (M.set i y) P E (.slice (some ⟨g, 0, none⟩) N c) vp ve (W.setCells g (i * 7) (cl y)) := by
  subst hN
  obtain ⟨h1, h2⟩ := own_set h.m hi y
  exact ⟨bk_other (v := .slice (some ⟨g, 0, none⟩) M.length c) h.b h.m (by decide) h2, h1, own_other (v' := .slice (some ⟨g, 0, none⟩) M.length c) h.p h.m (by decide) h2, own_other (v' := .slice (some ⟨g, 0, none⟩) M.length c) h.e h.m (by decide) h2⟩
theorem ImSt.setBk {g c N i k : Nat} {T : TypeId} {cs : Array Value} (h : ImSt base gI M P E (.slice (some ⟨g, 0, none⟩) N c) vp ve W) (hN : M.length = N) (hi : i < N) (y : ValV) (hb : Bk W k T cs) (hT : T ≠ 42) : Bk (W.setCells g (i * 7) (cl y)) k T cs := by
  subst hN
  exact bk_other (v := .slice (some ⟨g, 0, none⟩) M.length c) hb h.m hT (own_set h.m hi y).2
theorem ImSt.setUnder {w : World} {g c N i : Nat} (h : ImSt w.heap.size gI M P E (.slice (some ⟨g, 0, none⟩) N c) vp ve W) (hN : M.length = N) (hi : i < N) (y : ValV) (hb : Below w.heap.size w W) : Below w.heap.size w (W.setCells g (i * 7) (cl y)) := by
  subst hN
  exact hb.grown (own_set h.m hi y).2 hb.size (fun k e => by injection e with e; subst e; exact (own_span h.m rfl).1)
/-- A cell of the image's memory. -/
theorem ImSt.cells {g c N i : Nat} (h : ImSt base gI M P E (.slice (some ⟨g, 0, none⟩) N c) vp ve W) (hN : M.length = N) (hi : i < N) : g < W.heap.size ∧ (∀ j, W.frozen? ⟨g, j, none⟩ = false) ∧ ∃ v0 v1 v2 v3 v4 v5 v6, W.cell? ⟨g, i * 7, none⟩ = some v0 ∧ W.cell? ⟨g, i * 7 + 1, none⟩ = some v1 ∧ W.cell? ⟨g, i * 7 + 2, none⟩ = some v2 ∧ W.cell? ⟨g, i * 7 + 3, none⟩ = some v3 ∧ W.cell? ⟨g, i * 7 + 4, none⟩ = some v4 ∧ W.cell? ⟨g, i * 7 + 5, none⟩ = some v5 ∧ W.cell? ⟨g, i * 7 + 6, none⟩ = some v6 := by
  subst hN
  obtain ⟨ao, c', e, hsl, _⟩ := h.m.sl
  injection e with e _ _
  subst e
  obtain ⟨a, x, e, hb, hx, hc⟩ := hsl.at hi
  injection e with e
  subst e
  refine ⟨hb, fun j => h.m.frozen rfl j, .bool x.is, .int .i64 x.n, .int .i64 x.k.perm, .int .i64 x.k.base, .int .i64 x.k.len, .int .i64 x.k.at_, .int .i64 x.k.seal_, ?_, ?_, ?_, ?_, ?_, ?_, ?_⟩
  · have := hc 0 _ rfl; simpa only [show El.k ValV = 7 from rfl, Addr.add_lit, Nat.zero_add, Nat.add_zero] using this
  · have := hc 1 _ rfl; simpa only [show El.k ValV = 7 from rfl, Addr.add_lit, Nat.zero_add] using this
  · have := hc 2 _ rfl; simpa only [show El.k ValV = 7 from rfl, Addr.add_lit, Nat.zero_add] using this
  · have := hc 3 _ rfl; simpa only [show El.k ValV = 7 from rfl, Addr.add_lit, Nat.zero_add] using this
  · have := hc 4 _ rfl; simpa only [show El.k ValV = 7 from rfl, Addr.add_lit, Nat.zero_add] using this
  · have := hc 5 _ rfl; simpa only [show El.k ValV = 7 from rfl, Addr.add_lit, Nat.zero_add] using this
  · have := hc 6 _ rfl; simpa only [show El.k ValV = 7 from rfl, Addr.add_lit, Nat.zero_add] using this
/-- What lies before the image stays. -/
theorem ImSt.under {w : World} {α : Type} [El α] {T : TypeId} {v : Value} {xs : List α} (ho : Own W w.heap.size T v xs) (hb : Below w.heap.size w W) (hg : W.grownBy W' v.ownBlock) (hI : w.heap.size ≤ gI) (i : Nat) (x : Value) : Below w.heap.size w (W'.setCell ⟨gI, i, none⟩ x) := by
  have h1 : Below w.heap.size w W' := hb.grown hg hb.size (fun k e => (own_span ho e).1)
  exact h1.grown (grown_setCell W' gI i x) h1.size (fun k e => by injection e with e; omega)
end
/-- Blocks that hold no cells, no places and no entries of an image, stay. -/
structure Kept (gI : Nat) (W W' : World) : Prop where
  size : W.heap.size ≤ W'.heap.size
  bk : ∀ g T cs, Bk W g T cs → T ≠ 42 → T ≠ 51 → g ≠ gI → Bk W' g T cs
section
variable {gI base : Nat} {W W' W'' : World}
theorem Kept.refl (gI : Nat) (W : World) : Kept gI W W := ⟨Nat.le_refl _, fun _ _ _ h _ _ _ => h⟩
theorem Kept.below (h : Kept gI W W') (hb : Below W'.heap.size W' W'') : Kept gI W W'' := ⟨Nat.le_trans h.size hb.size, fun g T cs a b c d => bk_keep hb (h.bk g T cs a b c d)⟩
theorem Kept.own {α : Type} [El α] {T : TypeId} {v : Value} {xs : List α} (h : Kept gI W W') (ho : Own W' base T v xs) (hT : T = 42 ∨ T = 51) (hg : W'.grownBy W'' v.ownBlock) (i : Nat) (x : Value) : Kept gI W (W''.setCell ⟨gI, i, none⟩ x) := by
  refine ⟨Nat.le_trans h.size (Nat.le_trans hg.size (by simp [World.setCell])), fun g T' cs a b c d => bk_cell (bk_other (h.bk g T' cs a b c d) ho ?_ hg) d _ _⟩
  rcases hT with rfl | rfl
  · exact b
  · exact c
theorem Kept.trans (h : Kept gI W W') (k : Kept gI W' W'') : Kept gI W W'' := ⟨Nat.le_trans h.size k.size, fun g T cs a b c d => k.bk g T cs (h.bk g T cs a b c d) b c d⟩
end
theorem lit_sl1 {α : Type} [El α] {w : World} {T : TypeId} (cs : Array Value) (k : α) (hc : cs.toList = cl k) : Sl (w.alloc (.cells cs T)) (some ⟨w.heap.size, 0, none⟩) 1 [k] := by
  have h0 := own_lit (xs := [k]) w T 0 (Nat.zero_le _) cs 1 rfl (by decide) (by rw [hc, cls_one])
  obtain ⟨ao, c, e, h, _⟩ := h0.sl
  injection e with e _ _
  subst e
  exact h
theorem info_valL : (Try.prog.info? 42).map (fun i => (i.zero, i.size, i.bytes)) = some (some (.agg #[.bool false, .int .i64 0, .int .i64 0, .int .i64 0, .int .i64 0, .int .i64 0, .int .i64 0]), 7, 56) := by kernel_rfl
theorem info_placeL : (Try.prog.info? 38).map (fun i => (i.zero, i.size, i.bytes)) = some (some (.agg #[.int .i64 0, .int .i64 0, .int .i64 0, .int .i64 0]), 4, 32) := by kernel_rfl
theorem info_entryL : (Try.prog.info? 51).map (fun i => (i.zero, i.size, i.bytes)) = some (some (.agg #[.string ⟨#[]⟩, .int .i64 0, .int .i64 0, .int .i64 0, .int .i64 0, .int .i64 0, .int .i64 0, .int .i64 0, .int .i64 0, .int .i64 0, .int .i64 0]), 11, 96) := by kernel_rfl
end Go.Proofs.Ytmmmmeeepieemaa
