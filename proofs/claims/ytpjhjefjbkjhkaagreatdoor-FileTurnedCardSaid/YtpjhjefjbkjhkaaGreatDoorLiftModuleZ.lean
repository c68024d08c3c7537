import Derived.Test.YtpjhjefjbkjhkaaGreatDoorBuO
import Derived.Test.YtpjhjefjbkjhkaaGreatDoorBuW
/- A module among a law's arguments. -/
namespace Go.Proofs.YtpjhjefjbkjhkaaGreatDoor
open El (cl)
open Go.Joins Go.ChangeShapes Go.WideShapes Go.ChangeAt Go.RowKit Go.Deep
set_option linter.unusedVariables false
set_option linter.unusedSimpArgs false
/-- A module as an argument. -/
structure ModA where
  r : ModR
  m : ModV
def ModA.val (x : ModA) : Value := .agg #[.slice x.r.code.a x.r.code.n x.r.code.c, .slice x.r.data.a x.r.data.n x.r.data.c, .slice x.r.ex.a x.r.ex.n x.r.ex.c, .slice x.r.im.a x.r.im.n x.r.im.c]
def ModA.ok (w : World) (x : ModA) : Prop := x.r.has w x.m
section
variable {H : Type} {enc : TypeId × Value → H} {w : World} {spare : Nat → Bool} {held : Bool}
set_option maxRecDepth 100000 in
/-- A slice within a struct, opened. -/
theorem open_els_in1 {α : Type} [El α] [Inhabited α] {t e : TypeId} {u : Value} {fuel0 : Nat} {x0 : DataW H × List MemPlace} {Q : α → Prop} (ht : Tryz.prog.underlying t = some (.slice e)) (hk : Tryz.prog.cellsOf e = El.k α)
    (el : ∀ fuel cs x, DataW.trod enc Tryz.prog w 0 spare held fuel e cs = some x → cs.length = El.k α → ∃ y : α, cs = cl y ∧ Q y)
    (hf : DataW.trod enc Tryz.prog w 0 spare held fuel0 t [u] = some x0) : ∃ x : SlV α, u = x.val ∧ x.ok Q w ∧ (x.n = 0 ∨ ∃ es sp, x0.1 = .slice es sp ∧ es.length = x.n) := by
  rcases open_slice ht hf with ⟨hcs, _⟩ | ⟨a, len, cap, m, n, D, Pl, hcs, hb, hl, hm, hmm, hx, hi⟩
  · simp at hcs
    subst hcs
    exact ⟨⟨none, 0, 0, []⟩, rfl, ⟨Sl.nil _ _, fun v hv => by simp at hv, Nat.le_refl _⟩, .inl rfl⟩
  · simp at hcs
    subst hcs
    have hlm : len ≤ m := by rw [hmm]; split <;> omega
    obtain ⟨f, hf⟩ := choose_lt (α := α) (n := len) (p := fun i y => (∀ j, j < El.k α → w.cell? (a.add (i * El.k α + j)) = (cl y)[j]?) ∧ Q y) (fun i hil => by
      obtain ⟨cs', h1, h2⟩ := hi i (by omega)
      rw [hk] at h1
      obtain ⟨_, hcl, hat⟩ := World.cells?_some h1
      obtain ⟨y, rfl, hy⟩ := el n cs' _ h2 hcl
      exact ⟨y, fun j hj => by rw [← Go.Deep.add_add]; exact hat j hj, hy⟩)
    have hcells : ∀ j u, (cls ((List.range len).map f))[j]? = some u → w.cell? (a.add j) = some u := cls_of_cells (fun i x hx j hj => by
      rw [List.getElem?_map] at hx
      have hil : i < len := by
        rcases Nat.lt_or_ge i len with h | h
        · exact h
        · rw [List.getElem?_eq_none (by simpa using h)] at hx; cases hx
      rw [List.getElem?_range hil] at hx
      simp at hx
      subst hx
      exact (hf i hil).1 j hj)
    refine ⟨⟨some a, len, cap, (List.range len).map f⟩, rfl, ⟨⟨by simp, Nat.le_trans hl hm, fun hn => ⟨a, rfl, ?_, hcells⟩⟩, fun v hv => ?_, hl⟩, .inr ⟨_, _, by rw [hx], by simp⟩⟩
    · have h0 := (hf 0 hn).1 0 El.pos
      have hl0 : 0 < (cl (f 0)).length := by rw [El.len]; exact El.pos
      rw [List.getElem?_eq_getElem hl0] at h0
      have := World.block_lt_of_cell? w _ h0
      rw [el_block] at this
      exact this
    · obtain ⟨i, hi1, rfl⟩ := List.mem_map.1 hv
      exact (hf i (List.mem_range.1 hi1)).2
theorem num_cells1 {fuel : Nat} {cs : List Value} {x : DataW H × List MemPlace} (h : DataW.trod enc Tryz.prog w 0 spare held fuel 3 cs = some x) (hl : cs.length = 1) : ∃ n : Int, cs = cl n ∧ I64 n := by
  match cs, hl with
  | [c0], _ =>
    obtain ⟨a, f0, _, w0⟩ := DataW.trod_int Tryz.underlying3 h
    simp at f0
    subst f0
    exact ⟨a, rfl, wf_bd w0⟩
theorem lab_cells1 {fuel : Nat} {cs : List Value} {x : DataW H × List MemPlace} (h : DataW.trod enc Tryz.prog w 0 spare held fuel 83 cs = some x) (hl : cs.length = 2) : ∃ y : NamV, cs = cl y ∧ y.wf := by
  match cs, hl with
  | [c0, c1], _ =>
    obtain ⟨xs, n, _, hx, _, hlen, hg⟩ := DataW.trod_struct Tryz.underlying83 h
    have hs : Tryz.prog.cellsOf 9 = 1 := by kernel_rfl
    have hi : Tryz.prog.cellsOf 3 = 1 := by kernel_rfl
    have g0 : DataW.trod enc Tryz.prog w 0 spare held n 9 [c0] = xs[0]? := by simpa [hs] using hg 0 _ rfl
    have g1 : DataW.trod enc Tryz.prog w 0 spare held n 3 [c1] = xs[1]? := by simpa [hs, hi] using hg 1 _ rfl
    have e0 : xs[0]? = some (xs[0]'(by rw [hlen]; decide)) := List.getElem?_eq_getElem _
    have e1 : xs[1]? = some (xs[1]'(by rw [hlen]; decide)) := List.getElem?_eq_getElem _
    obtain ⟨s, f0, _, hs0⟩ := DataW.trod_string Tryz.underlying9 (g0.trans e0)
    obtain ⟨a, f1, _, w1⟩ := DataW.trod_int Tryz.underlying3 (g1.trans e1)
    simp at f0 f1
    subst f0 f1
    exact ⟨⟨s, a⟩, rfl, ⟨hs0, wf_bd w1⟩⟩
theorem imp_cells1 {fuel : Nat} {cs : List Value} {x : DataW H × List MemPlace} (h : DataW.trod enc Tryz.prog w 0 spare held fuel 118 cs = some x) (hl : cs.length = 2) : ∃ y : NamV, cs = cl y ∧ y.wf := by
  match cs, hl with
  | [c0, c1], _ =>
    obtain ⟨xs, n, _, hx, _, hlen, hg⟩ := DataW.trod_struct Tryz.underlying118 h
    have hs : Tryz.prog.cellsOf 9 = 1 := by kernel_rfl
    have hi : Tryz.prog.cellsOf 3 = 1 := by kernel_rfl
    have g0 : DataW.trod enc Tryz.prog w 0 spare held n 9 [c0] = xs[0]? := by simpa [hs] using hg 0 _ rfl
    have g1 : DataW.trod enc Tryz.prog w 0 spare held n 3 [c1] = xs[1]? := by simpa [hs, hi] using hg 1 _ rfl
    have e0 : xs[0]? = some (xs[0]'(by rw [hlen]; decide)) := List.getElem?_eq_getElem _
    have e1 : xs[1]? = some (xs[1]'(by rw [hlen]; decide)) := List.getElem?_eq_getElem _
    obtain ⟨s, f0, _, hs0⟩ := DataW.trod_string Tryz.underlying9 (g0.trans e0)
    obtain ⟨a, f1, _, w1⟩ := DataW.trod_int Tryz.underlying3 (g1.trans e1)
    simp at f0 f1
    subst f0 f1
    exact ⟨⟨s, a⟩, rfl, ⟨hs0, wf_bd w1⟩⟩
set_option maxRecDepth 100000 in
theorem mod_cells1 {fuel : Nat} {cs : List Value} {x : DataW H × List MemPlace} (h : DataW.trod enc Tryz.prog w 0 spare held fuel 28 cs = some x) (hl : cs.length = 4) : ∃ y : ModR, cs = cl y ∧ ∃ m, y.has w m := by
  match cs, hl with
  | [c0, c1, c2, c3], _ =>
    obtain ⟨xs, n, _, hx, _, hlen, hg⟩ := DataW.trod_struct Tryz.underlying28 h
    have h0 : Tryz.prog.cellsOf 22 = 1 := by kernel_rfl
    have h2 : Tryz.prog.cellsOf 25 = 1 := by kernel_rfl
    have h3 : Tryz.prog.cellsOf 26 = 1 := by kernel_rfl
    have g0 : DataW.trod enc Tryz.prog w 0 spare held n 22 [c0] = xs[0]? := by simpa [h0] using hg 0 _ rfl
    have g1 : DataW.trod enc Tryz.prog w 0 spare held n 22 [c1] = xs[1]? := by simpa [h0] using hg 1 _ rfl
    have g2 : DataW.trod enc Tryz.prog w 0 spare held n 25 [c2] = xs[2]? := by simpa [h0, h2] using hg 2 _ rfl
    have g3 : DataW.trod enc Tryz.prog w 0 spare held n 26 [c3] = xs[3]? := by simpa [h0, h2, h3] using hg 3 _ rfl
    have e0 : xs[0]? = some (xs[0]'(by rw [hlen]; decide)) := List.getElem?_eq_getElem _
    have e1 : xs[1]? = some (xs[1]'(by rw [hlen]; decide)) := List.getElem?_eq_getElem _
    have e2 : xs[2]? = some (xs[2]'(by rw [hlen]; decide)) := List.getElem?_eq_getElem _
    have e3 : xs[3]? = some (xs[3]'(by rw [hlen]; decide)) := List.getElem?_eq_getElem _
    obtain ⟨x0, rfl, k0, _⟩ := open_els_in1 (α := Int) (Q := I64) Tryz.underlying22 (by kernel_rfl) (fun fuel cs x hx hl => num_cells1 hx hl) (g0.trans e0)
    obtain ⟨x1, rfl, k1, _⟩ := open_els_in1 (α := Int) (Q := I64) Tryz.underlying22 (by kernel_rfl) (fun fuel cs x hx hl => num_cells1 hx hl) (g1.trans e1)
    obtain ⟨x2, rfl, k2, _⟩ := open_els_in1 (α := NamV) (Q := NamV.wf) Tryz.underlying25 (by kernel_rfl) (fun fuel cs x hx hl => lab_cells1 hx hl) (g2.trans e2)
    obtain ⟨x3, rfl, k3, _⟩ := open_els_in1 (α := NamV) (Q := NamV.wf) Tryz.underlying26 (by kernel_rfl) (fun fuel cs x hx hl => imp_cells1 hx hl) (g3.trans e3)
    exact ⟨⟨⟨x0.ao, x0.n, x0.cap⟩, ⟨x1.ao, x1.n, x1.cap⟩, ⟨x2.ao, x2.n, x2.cap⟩, ⟨x3.ao, x3.n, x3.cap⟩⟩, rfl, ⟨x0.vs, x1.vs, x2.vs, x3.vs⟩, ⟨k0.sl, k1.sl, k2.sl, k3.sl, ⟨k0.le, k1.le, k2.le, k3.le⟩, k0.wf, k1.wf, k2.wf, k3.wf⟩⟩
set_option maxRecDepth 100000 in
theorem open_module {r : Reach} {b0 : Nat} {v : Value} {d : DataW H} {p : List MemPlace} (hv : Value.okWide Tryz.prog w r b0 28 v) (h : DataW.Trod enc Tryz.prog w 0 spare held 28 v d p) :
    ∃ x : ModA, v = x.val ∧ x.ok w := by
  obtain ⟨cs, rfl, hsz⟩ := okWide_struct Tryz.underlying28 hv
  have hs : Tryz.prog.cellsOf 28 = 4 := by kernel_rfl
  obtain ⟨l⟩ := cs
  have hl : l.length = 4 := hsz.trans hs
  obtain ⟨fuel, hf⟩ := h
  have hf2 : DataW.trod enc Tryz.prog w 0 spare held fuel 28 l = some (d, p) := by simpa [Value.cells] using hf
  obtain ⟨y, rfl, m, hm⟩ := mod_cells1 hf2 hl
  exact ⟨⟨y, m⟩, rfl, hm⟩
end
end Go.Proofs.YtpjhjefjbkjhkaaGreatDoor
