import Derived.Carry
import Derived.ChangeSame
import Derived.Lib.SmallJoins
import Derived.OpenShut
import Derived.ProofKit
import Derived.SizedLaws
import Derived.Test.YtjlncoodkejncaaGreatDoorBuA
import Derived.Test.YtjlncoodkejncaaGreatDoorBuB
import Derived.Test.YtjlncoodkejncaaGreatDoorRows
namespace Go.Proofs.YtjlncoodkejncaaGreatDoor
open Go.ChangeShapes Go.WideShapes Go.ChangeAt Go.RowKit

theorem own : ownKnob Tryz.prog.godebug = none := by kernel_rfl
theorem laidOut : laidOutB Tryz.prog = true := by kernel_rfl

section
variable {H : Type} {enc : TypeId × Value → H} {P : Program}
/-- The last step of a row where only 'Below' is known of the world behind the call. -/
theorem post_of_below {f : Func} {s : ChangeSpec} {apart fresh handsOn : Bool} {W W' : World} {args : Array Value} {v : Value} {ds gs : List (DataW H)} {before pa pv : List MemPlace}
    (hW : DataW.Whole enc P f.params.toList s.vars apart W args.toList ds gs before)
    (hres : ∀ (b : Nat) (sp : Nat → Bool) (hd : Bool), DataW.TrodAll enc P W' b sp hd f.resultTypes.toList (v.resultList f.resultTypes.size) (s.fn H (ds ++ gs)).results [])
    (hargs : DataW.TrodAll enc P W' 0 (fun b => decide (b < W.heap.size)) true f.params.toList args.toList (s.fn H (ds ++ gs)).args pa)
    (hvars : DataW.TrodVars enc P W' (fun b => decide (b < W.heap.size)) s.vars (s.fn H (ds ++ gs)).vars pv)
    (hps : before = pa ++ pv) (hb : Below W.heap.size W W') :
    s.post enc P f apart fresh handsOn false W args v W' := by
  refine ⟨ds, gs, before, [], pa, pv, hW, hres _ _ _, hargs, hvars, World.keptBut_mono (fun p hp => ⟨hp, ?_⟩) (hb.frame (· ∈ before)), fun h => by cases h⟩
  rw [hps, List.mem_append] at hp
  exact Or.inr hp

theorem trodAll_below {W W' : World} (hl : laidOutB P = true) (hb : Below W.heap.size W W') : ∀ {ts : List TypeId} {vs : List Value} {ds : List (DataW H)} {ps : List MemPlace},
    (∀ t ∈ ts, P.readableRec t = true ∧ t < P.types.size) → DataW.TrodAll enc P W 0 (fun _ => true) true ts vs ds ps → (∀ x ∈ ps, x.block < W.heap.size) →
    DataW.TrodAll enc P W' 0 (fun b => decide (b < W.heap.size)) true ts vs ds ps
  | [], vs, ds, ps, _, h, _ => by
    obtain ⟨rfl, rfl, rfl⟩ := trodAll_nil h
    exact trodAll_mk0
  | t :: ts, vs, ds, ps, ht, h, hp => by
    obtain ⟨v0, vs0, d0, ds0, p0, q0, rfl, rfl, rfl, h0, r0⟩ := trodAll_cons h
    obtain ⟨h1, h2⟩ := ht t (by simp)
    exact trodAll_cons_mk (Below.trod hl h1 h2 h0 hb (fun x hx => hp x (by simp [hx]))) (trodAll_below hl hb (fun t' ht' => ht t' (by simp [ht'])) r0 (fun x hx => hp x (by simp [hx])))
end

/-- THE POST of a law: it returned true, and below the heap's old size nothing has turned. -/
theorem law_post {H : Type} {enc : TypeId × Value → H} {f : Func} {s : ChangeSpec} {W W' : World} {args : Array Value} {ds : List (DataW H)} {p : List MemPlace}
    (hW : DataW.Whole enc Tryz.prog f.params.toList s.vars false W args.toList ds [] p)
    (hA : DataW.TrodAll enc Tryz.prog W 0 (fun _ => true) true f.params.toList args.toList ds p)
    (hr : f.resultTypes = #[4]) (hv : s.vars = []) (hs : s.fn H (ds ++ []) = { results := [.lit (.bool true)], args := ds })
    (hp : (f.params.toList.all fun t => Tryz.prog.readableRec t && decide (t < Tryz.prog.types.size)) = true)
    (hb : Below W.heap.size W W') :
    s.post enc Tryz.prog f false true false false W args (.bool true) W' := by
  have hlt : ∀ x ∈ p, x.block < W.heap.size := fun x hx => by simpa using hW.lt x hx
  refine post_of_below (pa := p) (pv := []) (gs := []) hW (fun b sp hd => ?_) ?_ ?_ (by simp) hb
  · rw [hs, hr]
    exact trodAll_cons_mk (shut_bool Tryz.underlying4 _) trodAll_mk0
  · rw [hs]
    refine trodAll_below laidOut hb (fun t ht => ?_) hA hlt
    have := List.all_eq_true.1 hp t ht
    simpa using this
  · rw [hs, hv]
    exact rfl
end Go.Proofs.YtjlncoodkejncaaGreatDoor
/- Slices among a law's arguments. -/
namespace Go.Proofs.YtjlncoodkejncaaGreatDoor
open El (cl)
open Go.Joins Go.ChangeShapes Go.WideShapes Go.ChangeAt Go.RowKit Go.Deep

/-- A slice value and what it reads as. -/
structure SlV (α : Type) where
  ao : Option Addr
  n : Nat
  cap : Nat
  vs : List α
def SlV.val {α : Type} (x : SlV α) : Value := .slice x.ao x.n x.cap
structure SlV.ok {α : Type} [El α] (P : α → Prop) (w : World) (x : SlV α) : Prop where
  sl : Sl w x.ao x.n x.vs
  wf : ∀ v ∈ x.vs, P v
  le : x.n ≤ x.cap
section
variable {α : Type} [El α]
theorem cls_of_cells {w : World} {a : Addr} : ∀ {xs : List α}, (∀ i x, xs[i]? = some x → ∀ j, j < El.k α → w.cell? (a.add (i * El.k α + j)) = (cl x)[j]?) → ∀ j u, (cls xs)[j]? = some u → w.cell? (a.add j) = some u := by
  intro xs h j u hu
  have hk : 0 < El.k α := El.pos
  have hj : j < xs.length * El.k α := by
    rw [← cls_length]
    exact (List.getElem?_eq_some_iff.1 hu).1
  have hd : j / El.k α < xs.length := Nat.div_lt_of_lt_mul (by rw [Nat.mul_comm]; exact hj)
  have hm : j % El.k α < El.k α := Nat.mod_lt _ hk
  have e : j / El.k α * El.k α + j % El.k α = j := Nat.div_add_mod' _ _
  have h1 := cls_at xs (j / El.k α) hd (j % El.k α) hm
  rw [e, hu] at h1
  have h2 := h (j / El.k α) _ (List.getElem?_eq_getElem hd) _ hm
  rw [e] at h2
  rw [h2, h1]
end
section
variable {H : Type} {enc : TypeId × Value → H} {w : World} {spare : Nat → Bool} {held : Bool}
set_option maxRecDepth 100000 in
/-- A slice of whatever elements, opened: 'el' opens one element. -/
theorem open_els {α : Type} [El α] [Inhabited α] {r : Reach} {b0 : Nat} {t e : TypeId} {v : Value} {d : DataW H} {p : List MemPlace} {Q : α → Prop} (ht : Tryz.prog.underlying t = some (.slice e)) (hk : Tryz.prog.cellsOf e = El.k α)
    (el : ∀ fuel cs x, DataW.trod enc Tryz.prog w 0 spare held fuel e cs = some x → cs.length = El.k α → ∃ y : α, cs = cl y ∧ Q y)
    (hv : Value.okWide Tryz.prog w r b0 t v) (h : DataW.Trod enc Tryz.prog w 0 spare held t v d p) : ∃ x : SlV α, v = x.val ∧ x.ok Q w ∧ (x.n = 0 ∨ ∃ es sp, d = .slice es sp ∧ es.length = x.n) := by
  obtain ⟨a0, len, cap, rfl⟩ := okWide_slice ht hv
  obtain ⟨fuel, hf⟩ := h
  rcases open_slice ht hf with ⟨hcs, _⟩ | ⟨a, len', cap', m, n, D, Pl, hcs, hb, hl, hm, hmm, hx, hi⟩
  · simp [Value.cells] at hcs
    obtain ⟨rfl, rfl, rfl⟩ := hcs
    exact ⟨⟨none, 0, 0, []⟩, rfl, ⟨Sl.nil _ _, fun v hv => by simp at hv, Nat.le_refl _⟩, .inl rfl⟩
  · simp [Value.cells] at hcs
    obtain ⟨rfl, rfl, rfl⟩ := hcs
    have hlm : len ≤ m := by rw [hmm]; split <;> omega
    obtain ⟨f, hf⟩ := choose_lt (α := α) (n := len) (p := fun i y => (∀ j, j < El.k α → w.cell? (a.add (i * El.k α + j)) = (cl y)[j]?) ∧ Q y) (fun i hil => by
      obtain ⟨cs', h1, h2⟩ := hi i (by omega)
      rw [hk] at h1
      obtain ⟨_, hcl, hat⟩ := World.cells?_some h1
      obtain ⟨y, rfl, hy⟩ := el n cs' _ h2 hcl
      exact ⟨y, fun j hj => by rw [← Go.Deep.add_add]; exact hat j hj, hy⟩)
    have hcells : ∀ j u, (cls ((List.range len).map f))[j]? = some u → w.cell? (a.add j) = some u := cls_of_cells (fun i x hx j hj => by
      rw [List.getElem?_map] at hx
      have hil : i < len := by
        rcases Nat.lt_or_ge i len with h | h
        · exact h
        · rw [List.getElem?_eq_none (by simpa using h)] at hx; cases hx
      rw [List.getElem?_range hil] at hx
      simp at hx
      subst hx
      exact (hf i hil).1 j hj)
    simp only [Prod.mk.injEq] at hx
    refine ⟨⟨some a, len, cap, (List.range len).map f⟩, rfl, ⟨⟨by simp, Nat.le_trans hl hm, fun hn => ⟨a, rfl, ?_, hcells⟩⟩, fun v hv => ?_, hl⟩, .inr ⟨_, _, hx.1, by simp⟩⟩
    · have h0 := (hf 0 hn).1 0 El.pos
      have hl0 : 0 < (cl (f 0)).length := by rw [El.len]; exact El.pos
      rw [List.getElem?_eq_getElem hl0] at h0
      have := World.block_lt_of_cell? w _ h0
      rw [el_block] at this
      exact this
    · obtain ⟨i, hi1, rfl⟩ := List.mem_map.1 hv
      exact (hf i (List.mem_range.1 hi1)).2
end
theorem sized_els {H : Type} {ts : List TypeId} {ds : List (DataW H)} {j : Nat} {t e : TypeId} {d : DataW H} {n b : Nat} (h : (DataW.weightsEach Tryz.prog ts ds).all (· ≤ reachBytes) = true) (ht : ts[j]? = some t) (hd : ds[j]? = some d) (hu : Tryz.prog.underlying t = some (.slice e)) (hb : Tryz.prog.bytesOf e = b)
    (hs : n = 0 ∨ ∃ es sp, d = .slice es sp ∧ es.length = n) : n * b ≤ 140737488351232 := by
  rcases hs with h0 | ⟨es, sp, rfl, rfl⟩
  · subst h0; omega
  · have := sized_slice h ht hd hu
    rw [hb, Nat.add_mul] at this
    unfold reachBytes at this
    omega
end Go.Proofs.YtjlncoodkejncaaGreatDoor
