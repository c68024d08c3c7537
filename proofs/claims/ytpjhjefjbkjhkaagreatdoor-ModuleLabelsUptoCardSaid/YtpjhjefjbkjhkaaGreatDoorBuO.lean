import Derived.Carry
import Derived.ChangeSame
import Derived.Lib.SmallJoins
import Derived.OpenShut
import Derived.ProofKit
import Derived.SizedLaws
import Derived.Test.YtpjhjefjbkjhkaaGreatDoorBuA
import Derived.Test.YtpjhjefjbkjhkaaGreatDoorBuB
import Derived.Test.YtpjhjefjbkjhkaaGreatDoorBuG
import Derived.Test.YtpjhjefjbkjhkaaGreatDoorRows
namespace Go.Proofs.YtpjhjefjbkjhkaaGreatDoor
open Go.ChangeShapes Go.WideShapes Go.ChangeAt Go.RowKit

theorem own : ownKnob Tryz.prog.godebug = none := by kernel_rfl
theorem laidOut : laidOutB Tryz.prog = true := by kernel_rfl

section
variable {H : Type} {enc : TypeId × Value → H} {P : Program}
/-- The last step of a row where only 'Below' is known of the world behind the call. -/
theorem post_of_below {f : Func} {s : ChangeSpec} {apart fresh handsOn : Bool} {W W' : World} {args : Array Value} {v : Value} {ds gs : List (DataW H)} {before pa pv : List MemPlace}
    (hW : DataW.Whole enc P f.params.toList s.vars apart W args.toList ds gs before)
    (hres : ∀ (b : Nat) (sp : Nat → Bool) (hd : Bool), DataW.TrodAll enc P W' b sp hd f.resultTypes.toList (v.resultList f.resultTypes.size) (s.fn H (ds ++ gs)).results [])
    (hargs : DataW.TrodAll enc P W' 0 (fun b => decide (b < W.heap.size)) true f.params.toList args.toList (s.fn H (ds ++ gs)).args pa)
    (hvars : DataW.TrodVars enc P W' (fun b => decide (b < W.heap.size)) s.vars (s.fn H (ds ++ gs)).vars pv)
    (hps : before = pa ++ pv) (hb : Below W.heap.size W W') :
    s.post enc P f apart fresh handsOn false W args v W' := by
  refine ⟨ds, gs, before, [], pa, pv, hW, hres _ _ _, hargs, hvars, World.keptBut_mono (fun p hp => ⟨hp, ?_⟩) (hb.frame (· ∈ before)), fun h => by cases h⟩
  rw [hps, List.mem_append] at hp
  exact Or.inr hp

theorem trodAll_below {W W' : World} (hl : laidOutB P = true) (hb : Below W.heap.size W W') : ∀ {ts : List TypeId} {vs : List Value} {ds : List (DataW H)} {ps : List MemPlace},
    (∀ t ∈ ts, P.readableRec t = true ∧ t < P.types.size) → DataW.TrodAll enc P W 0 (fun _ => true) true ts vs ds ps → (∀ x ∈ ps, x.block < W.heap.size) →
    DataW.TrodAll enc P W' 0 (fun b => decide (b < W.heap.size)) true ts vs ds ps
  | [], vs, ds, ps, _, h, _ => by
    obtain ⟨rfl, rfl, rfl⟩ := trodAll_nil h
    exact trodAll_mk0
  | t :: ts, vs, ds, ps, ht, h, hp => by
    obtain ⟨v0, vs0, d0, ds0, p0, q0, rfl, rfl, rfl, h0, r0⟩ := trodAll_cons h
    obtain ⟨h1, h2⟩ := ht t (by simp)
    exact trodAll_cons_mk (Below.trod hl h1 h2 h0 hb (fun x hx => hp x (by simp [hx]))) (trodAll_below hl hb (fun t' ht' => ht t' (by simp [ht'])) r0 (fun x hx => hp x (by simp [hx])))
end

/-- THE POST of a law: it returned true, and below the heap's old size nothing has turned. -/
theorem law_post {H : Type} {enc : TypeId × Value → H} {f : Func} {s : ChangeSpec} {W W' : World} {args : Array Value} {ds : List (DataW H)} {p : List MemPlace}
    (hW : DataW.Whole enc Tryz.prog f.params.toList s.vars false W args.toList ds [] p)
    (hA : DataW.TrodAll enc Tryz.prog W 0 (fun _ => true) true f.params.toList args.toList ds p)
    (hr : f.resultTypes = #[4]) (hv : s.vars = []) (hs : s.fn H (ds ++ []) = { results := [.lit (.bool true)], args := ds })
    (hp : (f.params.toList.all fun t => Tryz.prog.readableRec t && decide (t < Tryz.prog.types.size)) = true)
    (hb : Below W.heap.size W W') :
    s.post enc Tryz.prog f false true false false W args (.bool true) W' := by
  have hlt : ∀ x ∈ p, x.block < W.heap.size := fun x hx => by simpa using hW.lt x hx
  refine post_of_below (pa := p) (pv := []) (gs := []) hW (fun b sp hd => ?_) ?_ ?_ (by simp) hb
  · rw [hs, hr]
    exact trodAll_cons_mk (shut_bool Tryz.underlying4 _) trodAll_mk0
  · rw [hs]
    refine trodAll_below laidOut hb (fun t ht => ?_) hA hlt
    have := List.all_eq_true.1 hp t ht
    simpa using this
  · rw [hs, hv]
    exact rfl
end Go.Proofs.YtpjhjefjbkjhkaaGreatDoor
/- Keys among a law's arguments. -/
namespace Go.Proofs.YtpjhjefjbkjhkaaGreatDoor
open Go.Joins Go.ChangeShapes Go.WideShapes Go.ChangeAt Go.RowKit Go.Deep

section
variable {H : Type} {enc : TypeId × Value → H} {w : World} {base : Nat} {spare : Nat → Bool} {held : Bool}
/-- Five cells that read as a key are its five numbers. -/
theorem key_cells {fuel : Nat} {c0 c1 c2 c3 c4 : Value} {x : DataW H × List MemPlace} (h : DataW.trod enc Tryz.prog w base spare held fuel 66 [c0, c1, c2, c3, c4] = some x) :
    ∃ k : KeyV, c0 = .int .i64 k.perm ∧ c1 = .int .i64 k.base ∧ c2 = .int .i64 k.len ∧ c3 = .int .i64 k.at_ ∧ c4 = .int .i64 k.seal_ ∧ k.wf := by
  obtain ⟨xs, n, _, hx, _, hlen, hg⟩ := DataW.trod_struct Tryz.underlying66 h
  have hs : Tryz.prog.cellsOf 3 = 1 := by kernel_rfl
  have g0 : DataW.trod enc Tryz.prog w base spare held n 3 [c0] = xs[0]? := by simpa [hs] using hg 0 _ rfl
  have g1 : DataW.trod enc Tryz.prog w base spare held n 3 [c1] = xs[1]? := by simpa [hs] using hg 1 _ rfl
  have g2 : DataW.trod enc Tryz.prog w base spare held n 3 [c2] = xs[2]? := by simpa [hs] using hg 2 _ rfl
  have g3 : DataW.trod enc Tryz.prog w base spare held n 3 [c3] = xs[3]? := by simpa [hs] using hg 3 _ rfl
  have g4 : DataW.trod enc Tryz.prog w base spare held n 3 [c4] = xs[4]? := by simpa [hs] using hg 4 _ rfl
  have e0 : xs[0]? = some (xs[0]'(by rw [hlen]; decide)) := List.getElem?_eq_getElem _
  have e1 : xs[1]? = some (xs[1]'(by rw [hlen]; decide)) := List.getElem?_eq_getElem _
  have e2 : xs[2]? = some (xs[2]'(by rw [hlen]; decide)) := List.getElem?_eq_getElem _
  have e3 : xs[3]? = some (xs[3]'(by rw [hlen]; decide)) := List.getElem?_eq_getElem _
  have e4 : xs[4]? = some (xs[4]'(by rw [hlen]; decide)) := List.getElem?_eq_getElem _
  obtain ⟨a0, f0, _, w0⟩ := DataW.trod_int Tryz.underlying3 (g0.trans e0)
  obtain ⟨a1, f1, _, w1⟩ := DataW.trod_int Tryz.underlying3 (g1.trans e1)
  obtain ⟨a2, f2, _, w2⟩ := DataW.trod_int Tryz.underlying3 (g2.trans e2)
  obtain ⟨a3, f3, _, w3⟩ := DataW.trod_int Tryz.underlying3 (g3.trans e3)
  obtain ⟨a4, f4, _, w4⟩ := DataW.trod_int Tryz.underlying3 (g4.trans e4)
  simp at f0 f1 f2 f3 f4
  exact ⟨⟨a0, a1, a2, a3, a4⟩, f0, f1, f2, f3, f4, ⟨wf_bd w0, wf_bd w1, wf_bd w2, wf_bd w3, wf_bd w4⟩⟩
set_option maxRecDepth 100000 in
theorem open_key {r : Reach} {b0 : Nat} {v : Value} {d : DataW H} {p : List MemPlace} (hv : Value.okWide Tryz.prog w r b0 66 v) (h : DataW.Trod enc Tryz.prog w base spare held 66 v d p) :
    ∃ k : KeyV, v = k.val ∧ k.wf := by
  obtain ⟨cs, rfl, hsz⟩ := okWide_struct Tryz.underlying66 hv
  have hs : Tryz.prog.cellsOf 66 = 5 := by kernel_rfl
  obtain ⟨l⟩ := cs
  match l, hsz.trans hs with
  | [c0, c1, c2, c3, c4], _ =>
    obtain ⟨fuel, hf⟩ := h
    obtain ⟨k, rfl, rfl, rfl, rfl, rfl, hw⟩ := key_cells hf
    exact ⟨k, rfl, hw⟩
end
end Go.Proofs.YtpjhjefjbkjhkaaGreatDoor
/- Values of the machine among a law's arguments. -/
namespace Go.Proofs.YtpjhjefjbkjhkaaGreatDoor
open Go.Joins Go.ChangeShapes Go.WideShapes Go.ChangeAt Go.RowKit Go.Deep

section
variable {H : Type} {enc : TypeId × Value → H} {w : World} {base : Nat} {spare : Nat → Bool} {held : Bool}
/-- Seven cells that read as a value are its flag, its number and its key. -/
theorem val_cells {fuel : Nat} {c0 c1 c2 c3 c4 c5 c6 : Value} {x : DataW H × List MemPlace} (h : DataW.trod enc Tryz.prog w base spare held fuel 68 [c0, c1, c2, c3, c4, c5, c6] = some x) :
    ∃ v : ValV, c0 = .bool v.is ∧ c1 = .int .i64 v.n ∧ c2 = .int .i64 v.k.perm ∧ c3 = .int .i64 v.k.base ∧ c4 = .int .i64 v.k.len ∧ c5 = .int .i64 v.k.at_ ∧ c6 = .int .i64 v.k.seal_ ∧ v.wf := by
  obtain ⟨xs, n, _, hx, _, hlen, hg⟩ := DataW.trod_struct Tryz.underlying68 h
  have hb : Tryz.prog.cellsOf 4 = 1 := by kernel_rfl
  have hs : Tryz.prog.cellsOf 3 = 1 := by kernel_rfl
  have hk : Tryz.prog.cellsOf 66 = 5 := by kernel_rfl
  have g0 : DataW.trod enc Tryz.prog w base spare held n 4 [c0] = xs[0]? := by simpa [hb] using hg 0 _ rfl
  have g1 : DataW.trod enc Tryz.prog w base spare held n 3 [c1] = xs[1]? := by simpa [hs] using hg 1 _ rfl
  have g2 : DataW.trod enc Tryz.prog w base spare held n 66 [c2, c3, c4, c5, c6] = xs[2]? := by simpa [hk] using hg 2 _ rfl
  have e0 : xs[0]? = some (xs[0]'(by rw [hlen]; decide)) := List.getElem?_eq_getElem _
  have e1 : xs[1]? = some (xs[1]'(by rw [hlen]; decide)) := List.getElem?_eq_getElem _
  have e2 : xs[2]? = some (xs[2]'(by rw [hlen]; decide)) := List.getElem?_eq_getElem _
  obtain ⟨a0, f0, _⟩ := DataW.trod_bool Tryz.underlying4 (g0.trans e0)
  obtain ⟨a1, f1, _, w1⟩ := DataW.trod_int Tryz.underlying3 (g1.trans e1)
  obtain ⟨k, f2, f3, f4, f5, f6, hw⟩ := key_cells (g2.trans e2)
  simp at f0 f1
  exact ⟨⟨a0, a1, k⟩, f0, f1, f2, f3, f4, f5, f6, ⟨wf_bd w1, hw⟩⟩
set_option maxRecDepth 100000 in
theorem open_val {r : Reach} {b0 : Nat} {v : Value} {d : DataW H} {p : List MemPlace} (hv : Value.okWide Tryz.prog w r b0 68 v) (h : DataW.Trod enc Tryz.prog w base spare held 68 v d p) :
    ∃ x : ValV, v = x.val ∧ x.wf := by
  obtain ⟨cs, rfl, hsz⟩ := okWide_struct Tryz.underlying68 hv
  have hs : Tryz.prog.cellsOf 68 = 7 := by kernel_rfl
  obtain ⟨l⟩ := cs
  match l, hsz.trans hs with
  | [c0, c1, c2, c3, c4, c5, c6], _ =>
    obtain ⟨fuel, hf⟩ := h
    obtain ⟨k, rfl, rfl, rfl, rfl, rfl, rfl, rfl, hw⟩ := val_cells hf
    exact ⟨k, rfl, hw⟩
end
end Go.Proofs.YtpjhjefjbkjhkaaGreatDoor
/- Slices among a law's arguments. -/
namespace Go.Proofs.YtpjhjefjbkjhkaaGreatDoor
open El (cl)
open Go.Joins Go.ChangeShapes Go.WideShapes Go.ChangeAt Go.RowKit Go.Deep

/-- A slice value and what it reads as. -/
structure SlV (α : Type) where
  ao : Option Addr
  n : Nat
  cap : Nat
  vs : List α
def SlV.val {α : Type} (x : SlV α) : Value := .slice x.ao x.n x.cap
structure SlV.ok {α : Type} [El α] (P : α → Prop) (w : World) (x : SlV α) : Prop where
  sl : Sl w x.ao x.n x.vs
  wf : ∀ v ∈ x.vs, P v
  le : x.n ≤ x.cap
section
variable {α : Type} [El α]
theorem cls_of_cells {w : World} {a : Addr} : ∀ {xs : List α}, (∀ i x, xs[i]? = some x → ∀ j, j < El.k α → w.cell? (a.add (i * El.k α + j)) = (cl x)[j]?) → ∀ j u, (cls xs)[j]? = some u → w.cell? (a.add j) = some u := by
  intro xs h j u hu
  have hk : 0 < El.k α := El.pos
  have hj : j < xs.length * El.k α := by
    rw [← cls_length]
    exact (List.getElem?_eq_some_iff.1 hu).1
  have hd : j / El.k α < xs.length := Nat.div_lt_of_lt_mul (by rw [Nat.mul_comm]; exact hj)
  have hm : j % El.k α < El.k α := Nat.mod_lt _ hk
  have e : j / El.k α * El.k α + j % El.k α = j := Nat.div_add_mod' _ _
  have h1 := cls_at xs (j / El.k α) hd (j % El.k α) hm
  rw [e, hu] at h1
  have h2 := h (j / El.k α) _ (List.getElem?_eq_getElem hd) _ hm
  rw [e] at h2
  rw [h2, h1]
end
section
variable {H : Type} {enc : TypeId × Value → H} {w : World} {spare : Nat → Bool} {held : Bool}
set_option maxRecDepth 100000 in
/-- A slice of whatever elements, opened: 'el' opens one element. -/
theorem open_els {α : Type} [El α] [Inhabited α] {r : Reach} {b0 : Nat} {t e : TypeId} {v : Value} {d : DataW H} {p : List MemPlace} {Q : α → Prop} (ht : Tryz.prog.underlying t = some (.slice e)) (hk : Tryz.prog.cellsOf e = El.k α)
    (el : ∀ fuel cs x, DataW.trod enc Tryz.prog w 0 spare held fuel e cs = some x → cs.length = El.k α → ∃ y : α, cs = cl y ∧ Q y)
    (hv : Value.okWide Tryz.prog w r b0 t v) (h : DataW.Trod enc Tryz.prog w 0 spare held t v d p) : ∃ x : SlV α, v = x.val ∧ x.ok Q w ∧ (x.n = 0 ∨ ∃ es sp, d = .slice es sp ∧ es.length = x.n) := by
  obtain ⟨a0, len, cap, rfl⟩ := okWide_slice ht hv
  obtain ⟨fuel, hf⟩ := h
  rcases open_slice ht hf with ⟨hcs, _⟩ | ⟨a, len', cap', m, n, D, Pl, hcs, hb, hl, hm, hmm, hx, hi⟩
  · simp [Value.cells] at hcs
    obtain ⟨rfl, rfl, rfl⟩ := hcs
    exact ⟨⟨none, 0, 0, []⟩, rfl, ⟨Sl.nil _ _, fun v hv => by simp at hv, Nat.le_refl _⟩, .inl rfl⟩
  · simp [Value.cells] at hcs
    obtain ⟨rfl, rfl, rfl⟩ := hcs
    have hlm : len ≤ m := by rw [hmm]; split <;> omega
    obtain ⟨f, hf⟩ := choose_lt (α := α) (n := len) (p := fun i y => (∀ j, j < El.k α → w.cell? (a.add (i * El.k α + j)) = (cl y)[j]?) ∧ Q y) (fun i hil => by
      obtain ⟨cs', h1, h2⟩ := hi i (by omega)
      rw [hk] at h1
      obtain ⟨_, hcl, hat⟩ := World.cells?_some h1
      obtain ⟨y, rfl, hy⟩ := el n cs' _ h2 hcl
      exact ⟨y, fun j hj => by rw [← Go.Deep.add_add]; exact hat j hj, hy⟩)
    have hcells : ∀ j u, (cls ((List.range len).map f))[j]? = some u → w.cell? (a.add j) = some u := cls_of_cells (fun i x hx j hj => by
      rw [List.getElem?_map] at hx
      have hil : i < len := by
        rcases Nat.lt_or_ge i len with h | h
        · exact h
        · rw [List.getElem?_eq_none (by simpa using h)] at hx; cases hx
      rw [List.getElem?_range hil] at hx
      simp at hx
      subst hx
      exact (hf i hil).1 j hj)
    simp only [Prod.mk.injEq] at hx
    refine ⟨⟨some a, len, cap, (List.range len).map f⟩, rfl, ⟨⟨by simp, Nat.le_trans hl hm, fun hn => ⟨a, rfl, ?_, hcells⟩⟩, fun v hv => ?_, hl⟩, .inr ⟨_, _, hx.1, by simp⟩⟩
    · have h0 := (hf 0 hn).1 0 El.pos
      have hl0 : 0 < (cl (f 0)).length := by rw [El.len]; exact El.pos
      rw [List.getElem?_eq_getElem hl0] at h0
      have := World.block_lt_of_cell? w _ h0
      rw [el_block] at this
      exact this
    · obtain ⟨i, hi1, rfl⟩ := List.mem_map.1 hv
      exact (hf i (List.mem_range.1 hi1)).2
end
theorem sized_els {H : Type} {ts : List TypeId} {ds : List (DataW H)} {j : Nat} {t e : TypeId} {d : DataW H} {n b : Nat} (h : (DataW.weightsEach Tryz.prog ts ds).all (· ≤ reachBytes) = true) (ht : ts[j]? = some t) (hd : ds[j]? = some d) (hu : Tryz.prog.underlying t = some (.slice e)) (hb : Tryz.prog.bytesOf e = b)
    (hs : n = 0 ∨ ∃ es sp, d = .slice es sp ∧ es.length = n) : n * b ≤ 140737488351232 := by
  rcases hs with h0 | ⟨es, sp, rfl, rfl⟩
  · subst h0; omega
  · have := sized_slice h ht hd hu
    rw [hb, Nat.add_mul] at this
    unfold reachBytes at this
    omega
end Go.Proofs.YtpjhjefjbkjhkaaGreatDoor
/- Machines among a law's arguments. -/
namespace Go.Proofs.YtpjhjefjbkjhkaaGreatDoor
open El (cl)
open Go.Joins Go.ChangeShapes Go.WideShapes Go.ChangeAt Go.RowKit Go.Deep
set_option linter.unusedVariables false
/-- A machine as an argument. -/
structure MachA where
  R : List ValV
  c : KeyV
  mem : List ValV
  stk : List FrameV
  out : List Int
  ma : Option Addr
  sa : Option Addr
  oa : Option Addr
  mc : Nat
  sc : Nat
  oc : Nat
def MachA.val (x : MachA) : Value := .agg (mcs x.R x.c (.slice x.ma x.mem.length x.mc) (.slice x.sa x.stk.length x.sc) (.slice x.oa x.out.length x.oc))
structure MachA.ok (w : World) (x : MachA) : Prop where
  h8 : x.R.length = 8
  mem : Sl w x.ma x.mem.length x.mem
  stk : Sl w x.sa x.stk.length x.stk
  out : Sl w x.oa x.out.length x.out
  wR : ∀ v ∈ x.R, v.wf
  wc : x.c.wf
  wm : ∀ v ∈ x.mem, v.wf
  ws : ∀ f ∈ x.stk, f.wf
  wo : ∀ n ∈ x.out, I64 n
theorem cls_of_chunks {α : Type} [El α] {Q : α → Prop} : ∀ (n : Nat) (l : List Value), l.length = n * El.k α → (∀ i, i < n → ∃ y : α, (l.drop (i * El.k α)).take (El.k α) = cl y ∧ Q y) → ∃ ys : List α, ys.length = n ∧ l = cls ys ∧ ∀ y ∈ ys, Q y
  | 0, l, hl, _ => ⟨[], rfl, List.eq_nil_of_length_eq_zero (by simpa using hl), fun y hy => by cases hy⟩
  | n + 1, l, hl, h => by
    obtain ⟨y, e, hy⟩ := h 0 (Nat.succ_pos _)
    rw [Nat.zero_mul, List.drop_zero] at e
    have hl2 : (l.drop (El.k α)).length = n * El.k α := by rw [List.length_drop, hl, Nat.add_mul, Nat.one_mul, Nat.add_sub_cancel]
    obtain ⟨ys, h1, h2, h3⟩ := cls_of_chunks n (l.drop (El.k α)) hl2 (fun i hi => by
      obtain ⟨z, ez, hz⟩ := h (i + 1) (Nat.succ_lt_succ hi)
      refine ⟨z, ?_, hz⟩
      rw [List.drop_drop, show El.k α + i * El.k α = (i + 1) * El.k α by rw [Nat.add_mul]; omega]
      exact ez)
    refine ⟨y :: ys, by simp [h1], ?_, fun z hz => ?_⟩
    · rw [cls_cons, ← h2, ← e, List.take_append_drop]
    · rcases List.mem_cons.1 hz with rfl | hz
      · exact hy
      · exact h3 z hz
section
variable {H : Type} {enc : TypeId × Value → H} {w : World} {spare : Nat → Bool} {held : Bool}
set_option maxRecDepth 100000 in
/-- A slice within a struct, opened. -/
theorem open_els_in {α : Type} [El α] [Inhabited α] {t e : TypeId} {u : Value} {fuel0 : Nat} {x0 : DataW H × List MemPlace} {Q : α → Prop} (ht : Tryz.prog.underlying t = some (.slice e)) (hk : Tryz.prog.cellsOf e = El.k α)
    (el : ∀ fuel cs x, DataW.trod enc Tryz.prog w 0 spare held fuel e cs = some x → cs.length = El.k α → ∃ y : α, cs = cl y ∧ Q y)
    (hf : DataW.trod enc Tryz.prog w 0 spare held fuel0 t [u] = some x0) : ∃ x : SlV α, u = x.val ∧ x.ok Q w ∧ (x.n = 0 ∨ ∃ es sp, x0.1 = .slice es sp ∧ es.length = x.n) := by
  rcases open_slice ht hf with ⟨hcs, _⟩ | ⟨a, len, cap, m, n, D, Pl, hcs, hb, hl, hm, hmm, hx, hi⟩
  · simp at hcs
    subst hcs
    exact ⟨⟨none, 0, 0, []⟩, rfl, ⟨Sl.nil _ _, fun v hv => by simp at hv, Nat.le_refl _⟩, .inl rfl⟩
  · simp at hcs
    subst hcs
    have hlm : len ≤ m := by rw [hmm]; split <;> omega
    obtain ⟨f, hf⟩ := choose_lt (α := α) (n := len) (p := fun i y => (∀ j, j < El.k α → w.cell? (a.add (i * El.k α + j)) = (cl y)[j]?) ∧ Q y) (fun i hil => by
      obtain ⟨cs', h1, h2⟩ := hi i (by omega)
      rw [hk] at h1
      obtain ⟨_, hcl, hat⟩ := World.cells?_some h1
      obtain ⟨y, rfl, hy⟩ := el n cs' _ h2 hcl
      exact ⟨y, fun j hj => by rw [← Go.Deep.add_add]; exact hat j hj, hy⟩)
    have hcells : ∀ j u, (cls ((List.range len).map f))[j]? = some u → w.cell? (a.add j) = some u := cls_of_cells (fun i x hx j hj => by
      rw [List.getElem?_map] at hx
      have hil : i < len := by
        rcases Nat.lt_or_ge i len with h | h
        · exact h
        · rw [List.getElem?_eq_none (by simpa using h)] at hx; cases hx
      rw [List.getElem?_range hil] at hx
      simp at hx
      subst hx
      exact (hf i hil).1 j hj)
    refine ⟨⟨some a, len, cap, (List.range len).map f⟩, rfl, ⟨⟨by simp, Nat.le_trans hl hm, fun hn => ⟨a, rfl, ?_, hcells⟩⟩, fun v hv => ?_, hl⟩, .inr ⟨_, _, by rw [hx], by simp⟩⟩
    · have h0 := (hf 0 hn).1 0 El.pos
      have hl0 : 0 < (cl (f 0)).length := by rw [El.len]; exact El.pos
      rw [List.getElem?_eq_getElem hl0] at h0
      have := World.block_lt_of_cell? w _ h0
      rw [el_block] at this
      exact this
    · obtain ⟨i, hi1, rfl⟩ := List.mem_map.1 hv
      exact (hf i (List.mem_range.1 hi1)).2
theorem frame_cells {fuel : Nat} {cs : List Value} {x : DataW H × List MemPlace} (h : DataW.trod enc Tryz.prog w 0 spare held fuel 193 cs = some x) (hl : cs.length = 12) : ∃ f : FrameV, cs = cl f ∧ f.wf := by
  match cs, hl with
  | [c0, c1, c2, c3, c4, c5, c6, c7, c8, c9, c10, c11], _ =>
    obtain ⟨xs, n, _, hx, _, hlen, hg⟩ := DataW.trod_struct Tryz.underlying193 h
    have hv : Tryz.prog.cellsOf 68 = 7 := by kernel_rfl
    have hk : Tryz.prog.cellsOf 66 = 5 := by kernel_rfl
    have g0 : DataW.trod enc Tryz.prog w 0 spare held n 66 [c0, c1, c2, c3, c4] = xs[0]? := by simpa [hk] using hg 0 _ rfl
    have g1 : DataW.trod enc Tryz.prog w 0 spare held n 68 [c5, c6, c7, c8, c9, c10, c11] = xs[1]? := by simpa [hv] using hg 1 _ rfl
    have e0 : xs[0]? = some (xs[0]'(by rw [hlen]; decide)) := List.getElem?_eq_getElem _
    have e1 : xs[1]? = some (xs[1]'(by rw [hlen]; decide)) := List.getElem?_eq_getElem _
    obtain ⟨k, rfl, rfl, rfl, rfl, rfl, hw⟩ := key_cells (g0.trans e0)
    obtain ⟨v, rfl, rfl, rfl, rfl, rfl, rfl, rfl, hw2⟩ := val_cells (g1.trans e1)
    exact ⟨⟨k, v⟩, rfl, hw, hw2⟩
theorem val_cells' {fuel : Nat} {cs : List Value} {x : DataW H × List MemPlace} (h : DataW.trod enc Tryz.prog w 0 spare held fuel 68 cs = some x) (hl : cs.length = 7) : ∃ v : ValV, cs = cl v ∧ v.wf := by
  match cs, hl with
  | [c0, c1, c2, c3, c4, c5, c6], _ =>
    obtain ⟨v, rfl, rfl, rfl, rfl, rfl, rfl, rfl, hw2⟩ := val_cells h
    exact ⟨v, rfl, hw2⟩
theorem int_cells {fuel : Nat} {cs : List Value} {x : DataW H × List MemPlace} (h : DataW.trod enc Tryz.prog w 0 spare held fuel 3 cs = some x) (hl : cs.length = 1) : ∃ n : Int, cs = cl n ∧ I64 n := by
  match cs, hl with
  | [c0], _ =>
    obtain ⟨a, f0, _, w0⟩ := DataW.trod_int Tryz.underlying3 h
    simp at f0
    subst f0
    exact ⟨a, rfl, wf_bd w0⟩
set_option maxRecDepth 100000 in
theorem open_mach {r : Reach} {b0 : Nat} {v : Value} {d : DataW H} {p : List MemPlace} (hv : Value.okWide Tryz.prog w r b0 72 v) (h : DataW.Trod enc Tryz.prog w 0 spare held 72 v d p) :
    ∃ x : MachA, v = x.val ∧ x.ok w := by
  obtain ⟨cs, rfl, hsz⟩ := okWide_struct Tryz.underlying72 hv
  have hs : Tryz.prog.cellsOf 72 = 64 := by kernel_rfl
  obtain ⟨l⟩ := cs
  have hl : l.length = 64 := hsz.trans hs
  obtain ⟨fuel, hf⟩ := h
  obtain ⟨xs, n, _, hx, _, hlen, hg⟩ := DataW.trod_struct Tryz.underlying72 hf
  have ha : Tryz.prog.cellsOf 69 = 56 := by kernel_rfl
  have hk : Tryz.prog.cellsOf 66 = 5 := by kernel_rfl
  have hm : Tryz.prog.cellsOf 32 = 1 := by kernel_rfl
  have hst : Tryz.prog.cellsOf 70 = 1 := by kernel_rfl
  have ho : Tryz.prog.cellsOf 22 = 1 := by kernel_rfl
  have hv7 : Tryz.prog.cellsOf 68 = 7 := by kernel_rfl
  have g0 : DataW.trod enc Tryz.prog w 0 spare held n 69 (l.take 56) = xs[0]? := by simpa [ha, Value.cells] using hg 0 _ rfl
  have g1 : DataW.trod enc Tryz.prog w 0 spare held n 66 ((l.drop 56).take 5) = xs[1]? := by simpa [hk, Value.cells] using hg 1 _ rfl
  have g2 : DataW.trod enc Tryz.prog w 0 spare held n 32 ((l.drop 61).take 1) = xs[2]? := by simpa [hm, Value.cells] using hg 2 _ rfl
  have g3 : DataW.trod enc Tryz.prog w 0 spare held n 70 ((l.drop 62).take 1) = xs[3]? := by simpa [hst, Value.cells] using hg 3 _ rfl
  have g4 : DataW.trod enc Tryz.prog w 0 spare held n 22 ((l.drop 63).take 1) = xs[4]? := by simpa [ho, Value.cells] using hg 4 _ rfl
  have e0 : xs[0]? = some (xs[0]'(by rw [hlen]; decide)) := List.getElem?_eq_getElem _
  have e1 : xs[1]? = some (xs[1]'(by rw [hlen]; decide)) := List.getElem?_eq_getElem _
  have e2 : xs[2]? = some (xs[2]'(by rw [hlen]; decide)) := List.getElem?_eq_getElem _
  have e3 : xs[3]? = some (xs[3]'(by rw [hlen]; decide)) := List.getElem?_eq_getElem _
  have e4 : xs[4]? = some (xs[4]'(by rw [hlen]; decide)) := List.getElem?_eq_getElem _
  obtain ⟨ys, n', _, _, _, hl8, hy⟩ := DataW.trod_array Tryz.underlying69 (g0.trans e0)
  obtain ⟨R, r1, r2, r3⟩ := cls_of_chunks (α := ValV) (Q := ValV.wf) 8 (l.take 56) (by rw [List.length_take, hl]; rfl) (fun i hi => by
    have h1 := hy i hi
    rw [hv7] at h1
    have e : ys[i]? = some (ys[i]'(by omega)) := List.getElem?_eq_getElem _
    exact val_cells' (h1.trans e) (by have e7 : El.k ValV = 7 := rfl; simp only [List.length_take, List.length_drop, hl, e7]; omega))
  obtain ⟨k0, k1, k2, k3, k4, hkc⟩ : ∃ a b c d e, (l.drop 56).take 5 = [a, b, c, d, e] := by
    have : ((l.drop 56).take 5).length = 5 := by rw [List.length_take, List.length_drop, hl]; rfl
    match (l.drop 56).take 5, this with
    | [a, b, c, d, e], _ => exact ⟨a, b, c, d, e, rfl⟩
  obtain ⟨u2, hu2⟩ : ∃ a, (l.drop 61).take 1 = [a] := by
    have : ((l.drop 61).take 1).length = 1 := by rw [List.length_take, List.length_drop, hl]; rfl
    match (l.drop 61).take 1, this with
    | [a], _ => exact ⟨a, rfl⟩
  obtain ⟨u3, hu3⟩ : ∃ a, (l.drop 62).take 1 = [a] := by
    have : ((l.drop 62).take 1).length = 1 := by rw [List.length_take, List.length_drop, hl]; rfl
    match (l.drop 62).take 1, this with
    | [a], _ => exact ⟨a, rfl⟩
  obtain ⟨u4, hu4⟩ : ∃ a, (l.drop 63).take 1 = [a] := by
    have : ((l.drop 63).take 1).length = 1 := by rw [List.length_take, List.length_drop, hl]; rfl
    match (l.drop 63).take 1, this with
    | [a], _ => exact ⟨a, rfl⟩
  rw [hkc] at g1
  rw [hu2] at g2
  rw [hu3] at g3
  rw [hu4] at g4
  obtain ⟨k, rfl, rfl, rfl, rfl, rfl, kw⟩ := key_cells (g1.trans e1)
  obtain ⟨x2, rfl, ok2, _⟩ := open_els_in (α := ValV) (Q := ValV.wf) Tryz.underlying32 hv7 (fun fuel cs x hx hl => val_cells' hx hl) (g2.trans e2)
  obtain ⟨x3, rfl, ok3, _⟩ := open_els_in (α := FrameV) (Q := FrameV.wf) Tryz.underlying70 (by kernel_rfl) (fun fuel cs x hx hl => frame_cells hx hl) (g3.trans e3)
  obtain ⟨x4, rfl, ok4, _⟩ := open_els_in (α := Int) (Q := I64) Tryz.underlying22 (by kernel_rfl) (fun fuel cs x hx hl => int_cells hx hl) (g4.trans e4)
  have hl2 : l = cls R ++ [.int .i64 k.perm, .int .i64 k.base, .int .i64 k.len, .int .i64 k.at_, .int .i64 k.seal_, x2.val, x3.val, x4.val] := by
    have h1 : l = l.take 56 ++ (l.drop 56).take 5 ++ (l.drop 61).take 1 ++ (l.drop 62).take 1 ++ (l.drop 63).take 1 := by
      have d1 : (l.drop 56).drop 5 = l.drop 61 := by rw [List.drop_drop]
      have d2 : (l.drop 61).drop 1 = l.drop 62 := by rw [List.drop_drop]
      have d3 : (l.drop 62).drop 1 = l.drop 63 := by rw [List.drop_drop]
      have d4 : (l.drop 63).take 1 = l.drop 63 := List.take_of_length_le (by rw [List.length_drop, hl]; exact Nat.le_refl _)
      rw [d4, List.append_assoc, List.append_assoc, List.append_assoc, ← d3, List.take_append_drop, ← d2, List.take_append_drop, ← d1, List.take_append_drop, List.take_append_drop]
    rw [hkc, hu2, hu3, hu4, r2] at h1
    rw [h1]
    simp
  obtain ⟨a2, n2, c2, vs2⟩ := x2
  obtain ⟨a3, n3, c3, vs3⟩ := x3
  obtain ⟨a4, n4, c4, vs4⟩ := x4
  have z2 := ok2.sl.len
  have z3 := ok3.sl.len
  have z4 := ok4.sl.len
  simp only at z2 z3 z4
  subst z2 z3 z4
  refine ⟨⟨R, k, vs2, vs3, vs4, a2, a3, a4, c2, c3, c4⟩, ?_, ⟨r1, ok2.sl, ok3.sl, ok4.sl, r3, kw, ok2.wf, ok3.wf, ok4.wf⟩⟩
  rw [hl2]
  rfl
end
end Go.Proofs.YtpjhjefjbkjhkaaGreatDoor
