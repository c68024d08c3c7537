import Derived.LoopIn
import Derived.LoopNIn
import Derived.OwnWalkIn
import Derived.RangeFuncBound
import Derived.RangeFuncCalls
import Derived.RangeFuncLeaves
import Derived.RangeFuncNested
import Derived.Shelf.Abstract
import Derived.Shelf.RegionOpen
import Derived.TacticsInMore
import Derived.Test.YtpjhjefjbkjhkaaGreatDoorPk25
import Derived.Test.YtpjhjefjbkjhkaaGreatDoorPk32
import Derived.WalkKit
set_option maxHeartbeats 40000000
set_option maxRecDepth 100000
set_option linter.unusedVariables false
set_option linter.unusedSimpArgs false
namespace Go.Proofs.YtpjhjefjbkjhkaaGreatDoor
open Go.RowKit
def MV.run : Nat → MV → MV × Nat × Int
 | 0, m => (m, 0, 15)
 | f + 1, m => match m.one with
  | .ok n => ((MV.run f n).1, (MV.run f n).2.1 + 1, (MV.run f n).2.2)
  | .error e => (m, 0, e)
theorem run_ok {m n : MV} {f : Nat} (h : m.one = .ok n) : m.run (f + 1) = ((n.run f).1, (n.run f).2.1 + 1, (n.run f).2.2) := by
 show (match m.one with | .ok n => ((MV.run f n).1, (MV.run f n).2.1 + 1, (MV.run f n).2.2) | .error e => (m, 0, e)) = _
 rw [h]
theorem run_er {m : MV} {f : Nat} {e : Int} (h : m.one = .error e) : m.run (f + 1) = (m, 0, e) := by
 show (match m.one with | .ok n => ((MV.run f n).1, (MV.run f n).2.1 + 1, (MV.run f n).2.2) | .error e => (m, 0, e)) = _
 rw [h]
theorem run_okM (f : Nat) : ∀ m : MV, m.Ok → (m.run f).1.Ok := by
 induction f with
 | zero => intro m h; exact h
 | succ f ih =>
  intro m hm
  cases h : m.one with
  | ok n => rw [run_ok h]; exact ih n (one_ok hm h)
  | error e => rw [run_er h]; exact hm
end Go.Proofs.YtpjhjefjbkjhkaaGreatDoor
namespace Go.Proofs.YtpjhjefjbkjhkaaGreatDoor
open Go Go.RowKit
theorem wpIn_rangeFunc_go {β : Type} {F : Fence} {n : Nat} {P : Program} {g : Operand} {ps : Array Tmp} {assign body : Code} {Q : Exit → Act → World → Prop} {a : Act} {w : World}
  (hro : F.round = none) (h1 : 1 ≤ n) {gf : Nat} {lb : Array Value} (hg : a.eval g = .func (.func gf) #[] lb) (hFg : F.fn gf) (eg : ∀ args w, (callFunc gf args).run P w = .ok (.enter gf args) w)
  (encs : β → Array Value) (hps : ∀ b, (encs b).size = ps.size) (J J' : β → World → Prop) (T : World → Prop)
  (hJ : ∀ b W (l : Nat) (o o' : Obj), J b W → w.heap.size ≤ l → W.heap[l]? = some o → o.isCells = false → J b (W.putObj l o'))
  (hJ' : ∀ b W (l : Nat) (o o' : Obj), J' b W → w.heap.size ≤ l → W.heap[l]? = some o → o.isCells = false → J' b (W.putObj l o'))
  (hT : ∀ W (l : Nat) (o o' : Obj), T W → w.heap.size ≤ l → W.heap[l]? = some o → o.isCells = false → T (W.putObj l o'))
  (a₁ : β → Act)
  (hassign : ∀ (l : Nat) (b : β) (W : World) (K : Act → World → Prop), K (a₁ b) W →
   assign.wpIn (F.inRound l) (n - 1 - 1) P (Exit.then K (fun _ _ _ => False)) { tmps := (ps.zip (encs b)).foldl (fun t (p, v) => t.setIfInBounds p v) a.tmps, defers := [] } W)
  (hbody : ∀ (l : Nat) (b : β) (W : World), J b W → body.wpIn (F.inRound l) (n - 1 - 1) P (fun e _ W' => e = .normal ∧ KeepsFrom w.heap.size W W' ∧ J' b W') (a₁ b) W)
  (hiter : ∀ (o1 o2 : Obj), o1.isCells = false → o2.isCells = false →
   (∀ b W, J b W → W.heap[w.heap.size + 1]? = some o1 → W.heap[w.heap.size]? = some o2 →
    YieldAt F (n - 1 - 1) P (w.heap.size + 1) (encs b) W fun e W' => e = .returned (.bool true) ∧ J' b W' ∧ W'.heap[w.heap.size + 1]? = some o1 ∧ W'.heap[w.heap.size]? = some o2) →
   CallsIn F (n - 1) P gf (#[.func (.yield (w.heap.size + 1)) #[] #[]] ++ lb) ((w.alloc o2).alloc o1) fun e W' =>
    (∃ v, e = .returned v) ∧ T W' ∧ W'.heap[w.heap.size + 1]? = some o1 ∧ W'.heap[w.heap.size]? = some o2)
  (hdone : ∀ (W : World), T W → W.heap[w.heap.size]? = some (.deferred (some [])) → Q .normal { a with defers := { target := .collected w.heap.size, args := #[] } :: a.defers } W) :
  (Code.rangeFunc g ps assign body).wpIn F n P Q a w := by
 refine wpIn_rangeFunc ?_
 intro fn hfn
 rw [hro]
 obtain ⟨rec, hrec⟩ : ∃ rec : LoopState → Option Code → Loop, rec = fun st pe => { state := st, pending := pe, fn, tmps := a.tmps, params := ps, assign, body, defers := w.heap.size } := ⟨_, rfl⟩
 refine ⟨w.heap.size + 1, [{ target := .collected w.heap.size, args := #[] }], (w.alloc (.deferred (some []))).alloc (.loop (rec .ready none)), { target := .fn (.func gf) lb, args := #[.func (.yield (w.heap.size + 1)) #[] #[]] }, (w.alloc (.deferred (some []))).alloc (.loop (rec .ready none)), gf,
  #[.func (.yield (w.heap.size + 1)) #[] #[]] ++ lb, (w.alloc (.deferred (some []))).alloc (.loop (rec .ready none)), ?_, ?_, ?_, ?_, fun _ => h1, ?_⟩
 ·rw [hrec]; exact run_enterLoop_outer _ _ _ _ _
 ·simp only [resolve, hg]
  simp [go_sem]
 ·intro f' hf'; simp [Target.leads] at hf'; subst hf'; exact hFg
 ·simp [invoke, go_sem, eg]
 ·refine (hiter (.loop (rec .ready none)) (.deferred (some [])) rfl rfl ?_).mono ?_
  ·intro b W hi hl hk
   have hlt : w.heap.size + 1 < W.heap.size := (Array.getElem?_eq_some_iff.1 hl).1
   have hy := run_yield (P := P) (args := encs b) hl (by rw [hrec]; exact hps b)
   rw [hrec] at hy
   refine ⟨fn, _, assign, body, hy, roundIn_of_wpIn hfn (hassign _ b W _ ⟨_, run_beginRound hl (by rw [hrec]), ?_⟩)⟩
   have hl2 : (W.putObj (w.heap.size + 1) (.loop { rec .ready none with state := .busy })).heap[w.heap.size + 1]? = some (.loop { rec .ready none with state := .busy }) := World.putObj_heap_same hlt
   have hk2 : (W.putObj (w.heap.size + 1) (.loop { rec .ready none with state := .busy })).heap[w.heap.size]? = some (.deferred (some [])) := (World.putObj_heap_other (by omega)).trans hk
   refine wpIn_mono (hbody _ b _ (hJ _ _ _ _ _ hi (by omega) hl rfl)) ?_
   rintro e a3 W3 ⟨rfl, hk3, hj3⟩
   have hl3 := hk3.same _ _ (by omega) hl2 rfl
   have hr := run_endRound (P := P) none hl3
   refine ⟨_, _, hr, rfl, hJ' _ _ _ _ _ hj3 (by omega) hl3 rfl, ?_, (World.putObj_heap_other (by omega)).trans (hk3.same _ _ (Nat.le_refl _) hk2 rfl)⟩
   have := World.putObj_heap_same (w := W3) (o := (.loop (rec .ready none))) (Array.getElem?_eq_some_iff.1 hl3).1
   rw [hrec] at this ⊢
   exact this
  ·rintro e W2 ⟨⟨v, rfl⟩, hi, hl, hk⟩
   exact ⟨none, _, by have := run_endLoop (P := P) hl (by rw [hrec]; simp); rw [hrec] at this; exact this, hdone _ (hT _ _ _ _ hi (by omega) hl rfl) ((World.putObj_heap_other (by omega)).trans hk)⟩
end Go.Proofs.YtpjhjefjbkjhkaaGreatDoor
namespace Go.Proofs.YtpjhjefjbkjhkaaGreatDoor
open Go Go.RowKit
theorem ms_cells {base gm : Nat} {vm vs vo : Value} {m : MV} {W : World} (h : MS base gm vm vs vo m W) {k : Nat} (hk : mS gm vm vs vo k) : ∃ T cs, Bk W k T cs := by
 have go : ∀ {α : Type} [El α] {T : TypeId} {v : Value} {xs : List α}, Own W base T v xs → v.ownBlock = some k → ∃ T cs, Bk W k T cs := by
  intro α _ T v xs ho hv
  rcases ho.2 with ⟨rfl, _⟩ | ⟨g', c, cur, rfl, _, hg', _⟩
  ·cases hv
  ·injection hv with hv; subst hv; exact ⟨_, _, hg'⟩
 rcases hk with rfl | e | e | e
 ·exact ⟨_, _, h.mB⟩
 ·exact go h.om e
 ·exact go h.os e
 ·exact go h.oo e
theorem bk_noncell {W : World} {g l : Nat} {T : TypeId} {cs : Array Value} {o : Obj} (h : Bk W g T cs) (hl : W.heap[l]? = some o) (ho : o.isCells = false) : g ≠ l := by
 rintro rfl
 unfold Bk at h
 rw [h] at hl
 injection hl with hl
 rw [← hl] at ho
 cases ho
theorem Fr.putObj {W : World} {l : Nat} {o o' : Obj} (hl : W.heap[l]? = some o) : Fr (fun j => j = l) W (W.putObj l o') :=
 Fr.grown (grownBy_putObj' W l o') (fun k e => by cases e; exact .inl rfl)
theorem ms_putObj {base gm : Nat} {vm vs vo : Value} {m : MV} {W : World} (h : MS base gm vm vs vo m W) {l : Nat} {o o' : Obj} (hl : W.heap[l]? = some o) (ho : o.isCells = false) : MS base gm vm vs vo m (W.putObj l o') :=
 h.fr (Fr.putObj hl) fun k hk e => by
  obtain ⟨T, cs, hb⟩ := ms_cells h hk
  exact bk_noncell hb hl ho e
theorem bk_putObj {W : World} {g l : Nat} {T : TypeId} {cs : Array Value} {o o' : Obj} (h : Bk W g T cs) (hl : W.heap[l]? = some o) (ho : o.isCells = false) : Bk (W.putObj l o') g T cs :=
 (Fr.putObj hl).bk h (bk_noncell h hl ho)
structure RunB where
 base : Nat
 gm : Nat
 ge : Nat
 gn : Nat
 gA : Nat
 gB : Nat
 gC : Nat
 gr : Nat
 f : Int
structure RunSt (w0 : World) (b : RunB) (k : Int) (m : MV) (e : Int) (W : World) : Prop where
 ms : ∃ vm vs vo, MS b.base b.gm vm vs vo m W ∧ ¬ mS b.gm vm vs vo b.gn ∧ ¬ mS b.gm vm vs vo b.gA ∧ ¬ mS b.gm vm vs vo b.gB ∧ ¬ mS b.gm vm vs vo b.gC
 n : Bk W b.gn 3 #[.int .i64 k]
 e : Bk W b.ge 29 #[.int .i64 e]
 A : Bk W b.gA 3 #[.int .i64 b.f]
 B : Bk W b.gB 134 #[.pointer (some ⟨b.gm, 0, none⟩)]
 C : Bk W b.gC 135 #[.pointer (some ⟨b.ge, 0, none⟩)]
 r : Bk W b.gr 72 zmc
 below : Below w0.heap.size w0 W
 ne : w0.heap.size ≤ b.gm ∧ w0.heap.size ≤ b.ge ∧ w0.heap.size ≤ b.gn ∧ w0.heap.size ≤ b.base ∧ b.gA ≠ b.gn ∧ b.base ≤ b.gn ∧ b.gr ≠ b.gm
theorem RunSt.putObj {w0 : World} {b : RunB} {k : Int} {m : MV} {e : Int} {W : World} (h : RunSt w0 b k m e W) {l : Nat} {o o' : Obj} (hl : W.heap[l]? = some o) (ho : o.isCells = false) (hb : w0.heap.size ≤ l) : RunSt w0 b k m e (W.putObj l o') := by
 obtain ⟨vm, vs, vo, h1, h2, h3, h4, h5⟩ := h.ms
 exact ⟨⟨vm, vs, vo, ms_putObj h1 hl ho, h2, h3, h4, h5⟩, bk_putObj h.n hl ho, bk_putObj h.e hl ho, bk_putObj h.A hl ho, bk_putObj h.B hl ho, bk_putObj h.C hl ho, bk_putObj h.r hl ho, (Fr.putObj hl).below h.below (fun i hi => by omega), h.ne⟩
theorem RunSt.drew {w0 : World} {b : RunB} {k : Int} {m : MV} {e : Int} {W : World} (h : RunSt w0 b k m e W) : RunSt w0 b k m e W.drew := by
 obtain ⟨vm, vs, vo, h1, h2, h3, h4, h5⟩ := h.ms
 have hf := Fr.drew (fun _ => False) W
 exact ⟨⟨vm, vs, vo, h1.fr hf (fun _ _ h => h), h2, h3, h4, h5⟩, hf.bk h.n id, hf.bk h.e id, hf.bk h.A id, hf.bk h.B id, hf.bk h.C id, hf.bk h.r id, hf.below h.below (fun _ h => h.elim), h.ne⟩
theorem ne_ty {W : World} {g g' : Nat} {T T' : TypeId} {cs cs' : Array Value} (h : Bk W g T cs) (k : Bk W g' T' cs') (hT : T ≠ T') : g ≠ g' := by
 rintro rfl
 unfold Bk at h k
 rw [h] at k
 injection k with k
 injection k with _ k _
 exact hT k
theorem bk_cell1 {W : World} {g : Nat} {T : TypeId} {x : Value} (h : Bk W g T #[x]) (y : Value) : Bk (W.setCell ⟨g, 0, none⟩ y) g T #[y] := bk_set' h rfl
theorem RunSt.err {w0 : World} {b : RunB} {k : Int} {m : MV} {e : Int} {W : World} (h : RunSt w0 b k m e W) (e' : Int) : RunSt w0 b k m e' (W.setCell ⟨b.ge, 0, none⟩ (.int .i64 e')) := by
 obtain ⟨vm, vs, vo, h1, h2, h3, h4, h5⟩ := h.ms
 have hf : Fr (fun j => j = b.ge) W (W.setCell ⟨b.ge, 0, none⟩ (.int .i64 e')) := Fr.setCell W (p := ⟨b.ge, 0, none⟩) (S := fun j => j = b.ge) rfl _
 have hm := h1.not h.e (by decide) (by decide) (by decide) (by decide)
 exact ⟨⟨vm, vs, vo, h1.fr hf (fun j hj e => hm (e ▸ hj)), h2, h3, h4, h5⟩, hf.bk h.n (ne_ty h.n h.e (by decide)), bk_cell1 h.e _, hf.bk h.A (ne_ty h.A h.e (by decide)), hf.bk h.B (ne_ty h.B h.e (by decide)), hf.bk h.C (ne_ty h.C h.e (by decide)), hf.bk h.r (ne_ty h.r h.e (by decide)), hf.below h.below (fun i hi => by have := h.ne.2.1; omega), h.ne⟩
theorem RunSt.num {w0 : World} {b : RunB} {k : Int} {m : MV} {e : Int} {W : World} (h : RunSt w0 b k m e W) (k' : Int) : RunSt w0 b k' m e (W.setCell ⟨b.gn, 0, none⟩ (.int .i64 k')) := by
 obtain ⟨vm, vs, vo, h1, h2, h3, h4, h5⟩ := h.ms
 have hf : Fr (fun j => j = b.gn) W (W.setCell ⟨b.gn, 0, none⟩ (.int .i64 k')) := Fr.setCell W (p := ⟨b.gn, 0, none⟩) (S := fun j => j = b.gn) rfl _
 exact ⟨⟨vm, vs, vo, h1.fr hf (fun j hj e => h2 (e ▸ hj)), h2, h3, h4, h5⟩, bk_cell1 h.n _, hf.bk h.e (ne_ty h.e h.n (by decide)), hf.bk h.A h.ne.2.2.2.2.1, hf.bk h.B (ne_ty h.B h.n (by decide)), hf.bk h.C (ne_ty h.C h.n (by decide)), hf.bk h.r (ne_ty h.r h.n (by decide)), hf.below h.below (fun i hi => by have := h.ne.2.2.1; omega), h.ne⟩
theorem RunSt.stepped {w0 : World} {b : RunB} {k : Int} {m : MV} {e : Int} {W : World} (h : RunSt w0 b k m e W) {vm vs vo : Value} (h1 : MS b.base b.gm vm vs vo m W) (h2 : ¬ mS b.gm vm vs vo b.gn) (h3 : ¬ mS b.gm vm vs vo b.gA) (h4 : ¬ mS b.gm vm vs vo b.gB) (h5 : ¬ mS b.gm vm vs vo b.gC)
  {m' : MV} {vs' vo' : Value} {W' : World} (hm : MS b.base b.gm vm vs' vo' m' W') (hf : Fr (mS b.gm vm vs vo) W W') (n1 : NewB vs vs' W) (n2 : NewB vo vo' W) : RunSt w0 b k m' e W' := by
 have hn : ∀ j, ¬ mS b.gm vm vs vo j → j < W.heap.size → ¬ mS b.gm vm vs' vo' j := by
  intro j hj hl hk
  rcases hk with hk | hk | hk | hk
  ·exact hj (.inl hk)
  ·exact hj (.inr (.inl hk))
  ·rcases n1 j hk with h | h
   ·exact hj (.inr (.inr (.inl h)))
   ·omega
  ·rcases n2 j hk with h | h
   ·exact hj (.inr (.inr (.inr h)))
   ·omega
 have he := h1.not h.e (by decide) (by decide) (by decide) (by decide)
 have hr : ¬ mS b.gm vm vs vo b.gr := by
  rintro (q | q | q | q)
  ·exact h.ne.2.2.2.2.2.2 q
  ·exact own_ty h1.om h.r (by decide) q
  ·exact own_ty h1.os h.r (by decide) q
  ·exact own_ty h1.oo h.r (by decide) q
 refine ⟨⟨vm, vs', vo', hm, hn _ h2 h.n.lt, hn _ h3 h.A.lt, hn _ h4 h.B.lt, hn _ h5 h.C.lt⟩, hf.bk h.n h2, hf.bk h.e he, hf.bk h.A h3, hf.bk h.B h4, hf.bk h.C h5, hf.bk h.r hr, hf.below h.below (fun i hi => ?_), h.ne⟩
 have hb := h.ne.2.2.2.1
 rcases hi with rfl | hi | hi | hi
 ·exact h.ne.1
 ·have := (own_lt h1.om hi).1; omega
 ·have := (own_lt h1.os hi).1; omega
 ·have := (own_lt h1.oo hi).1; omega
def RunL (w0 : World) (b : RunB) (l D : Nat) (o1 o2 : Obj) (k : Int) (m : MV) (e : Int) (W : World) : Prop := RunSt w0 b k m e W ∧ W.heap[l]? = some o1 ∧ W.heap[D]? = some o2
section
variable {w0 : World} {b : RunB} {l D : Nat} {o1 o2 : Obj} {k : Int} {m : MV} {e : Int} {W : World}
theorem RunL.drew (h : RunL w0 b l D o1 o2 k m e W) : RunL w0 b l D o1 o2 k m e W.drew := ⟨h.1.drew, h.2.1, h.2.2⟩
theorem RunL.err (h : RunL w0 b l D o1 o2 k m e W) (h1 : o1.isCells = false) (h2 : o2.isCells = false) (e' : Int) : RunL w0 b l D o1 o2 k m e' (W.setCell ⟨b.ge, 0, none⟩ (.int .i64 e')) := by
 have hf : Fr (fun j => j = b.ge) W (W.setCell ⟨b.ge, 0, none⟩ (.int .i64 e')) := Fr.setCell W (p := ⟨b.ge, 0, none⟩) (S := fun j => j = b.ge) rfl _
 exact ⟨h.1.err e', (hf.block l (Array.getElem?_eq_some_iff.1 h.2.1).1 (fun q => bk_noncell h.1.e h.2.1 h1 q.symm)).trans h.2.1, (hf.block D (Array.getElem?_eq_some_iff.1 h.2.2).1 (fun q => bk_noncell h.1.e h.2.2 h2 q.symm)).trans h.2.2⟩
theorem RunL.one (h : RunL w0 b l D o1 o2 k m e W) (h1 : o1.isCells = false) (h2 : o2.isCells = false) (hok : m.Ok) (ht : Tab w0) :
  Calls Tryz.prog 97 #[.pointer (some ⟨b.gm, 0, none⟩)] W fun r W' => r = .returned (.int .i64 m.err) ∧ RunL w0 b l D o1 o2 k m.after e W' := by
 obtain ⟨vm, vs, vo, g1, g2, g3, g4, g5⟩ := h.1.ms
 refine (one_any g1 hok (ht.below h.1.below) (Nat.le_trans h.1.ne.2.2.2.2.2.1 (Nat.le_of_lt h.1.n.lt))).mono ?_
 rintro r W' ⟨rfl, vs', vo', hm, hf, n1, n2⟩
 have kp : ∀ (j : Nat) (o : Obj), W.heap[j]? = some o → o.isCells = false → W'.heap[j]? = some o := fun j o hj ho => (hf.block j (Array.getElem?_eq_some_iff.1 hj).1 (fun hk => by
  obtain ⟨T, cs, hb⟩ := ms_cells g1 hk
  exact bk_noncell hb hj ho rfl)).trans hj
 exact ⟨rfl, h.1.stepped g1 g2 g3 g4 g5 hm hf n1 n2, kp _ _ h.2.1 h1, kp _ _ h.2.2 h2⟩
end
end Go.Proofs.YtpjhjefjbkjhkaaGreatDoor
namespace Go.Proofs.YtpjhjefjbkjhkaaGreatDoor
open El (cl)
open Go Go.RowKit Go.Shelf
attribute [local go_sem] Oper.semAt_some
theorem run_next {m : MV} {f : Nat} (h : m.err = 0) : m.run (f + 1) = ((m.after.run f).1, (m.after.run f).2.1 + 1, (m.after.run f).2.2) := by
 obtain ⟨n, hn⟩ := err_zero.1 h
 rw [run_ok hn, show m.after = n by unfold MV.after; rw [hn]]
theorem run_stop {m : MV} {f : Nat} (h : m.err ≠ 0) : m.run (f + 1) = (m, 0, m.err) ∧ m.after = m := by
 cases ho : m.one with
 | ok n => exact absurd (err_zero.2 ⟨n, ho⟩) h
 | error e => exact ⟨by rw [run_er ho, show m.err = e by unfold MV.err; rw [ho]], by unfold MV.after; rw [ho]⟩
theorem after_ok {m : MV} (h : m.Ok) : m.after.Ok := by
 unfold MV.after
 cases ho : m.one with
 | ok n => exact one_ok h ho
 | error e => exact h
theorem iter_any (w0 : World) (b : RunB) (n l D fu : Nat) (o1 o2 : Obj) (h1 : o1.isCells = false) (h2 : o2.isCells = false) (hn : 1 ≤ n) (ht : Tab w0)
  (hY : ∀ (k : Nat) (m : MV) (at_ : Int) (W : World), k < fu → RunL w0 b l D o1 o2 k m 0 W → YieldAt Fence.wide (n - 1) Tryz.prog l #[.int .i64 at_] W fun e W' => e = .returned (.bool true) ∧ RunL w0 b l D o1 o2 ((k + 1 : Nat) : Int) m 0 W')
  (hf : b.f = fu) (hfu : fu ≤ 5000) (m : MV) (hok : m.Ok) (W : World) (h0 : RunL w0 b l D o1 o2 0 m 0 W) :
  CallsIn Fence.wide n Tryz.prog 96 #[.func (.yield l) #[] #[], .pointer (some ⟨b.gA, 0, none⟩), .pointer (some ⟨b.gB, 0, none⟩), .pointer (some ⟨b.gC, 0, none⟩)] W fun e W' =>
   (∃ v, e = .returned v) ∧ RunL w0 b l D o1 o2 (m.run fu).2.1 (m.run fu).1 (m.run fu).2.2 W' := by
 have on := fun (k : Nat) (mk : MV) (hk : mk.Ok) W (h : RunL w0 b l D o1 o2 k mk 0 W) => h.one h1 h2 hk ht
 have er := fun (k : Nat) (mk : MV) W (h : RunL w0 b l D o1 o2 k mk 0 W) (e' : Int) => h.err h1 h2 e'
 have er' := fun (k : Nat) (mk : MV) W e (h : RunL w0 b l D o1 o2 k mk e W) (e' : Int) => h.err h1 h2 e'
 have dr := fun (k : Nat) (mk : MV) W (h : RunL w0 b l D o1 o2 k mk 0 W) => h.drew
 have cl := fun (k : Nat) (mk : MV) (e : Int) W (h : RunL w0 b l D o1 o2 k mk e W) => (show W.cell? ⟨b.gA, 0, none⟩ = some (.int .i64 fu) ∧ W.cell? ⟨b.gB, 0, none⟩ = some (.pointer (some ⟨b.gm, 0, none⟩)) ∧ W.cell? ⟨b.gC, 0, none⟩ = some (.pointer (some ⟨b.ge, 0, none⟩)) ∧ W.cell? ⟨b.ge, 0, none⟩ = some (.int .i64 e) ∧ W.cell? ⟨b.gm, 59, none⟩ = some (.int .i64 mk.c.at_) ∧ W.frozen? ⟨b.ge, 0, none⟩ = false from by
  obtain ⟨vm, vs, vo, g1, _⟩ := h.1.ms
  refine ⟨by rw [← hf]; exact h.1.A.cell 0, h.1.B.cell 0, h.1.C.cell 0, h.1.e.cell 0, (g1.mB.cell 59).trans (mcs_hi g1.h8 3), h.1.e.frozen 0⟩)
 obtain ⟨base, gm, ge, gn, gA, gB, gC, gr, f⟩ := b
 obtain ⟨bb, hbb⟩ : ∃ bb, bb = RunB.mk base gm ge gn gA gB gC gr f := ⟨_, rfl⟩
 rw [← hbb] at hY h0 on er er' dr cl ⊢
 have c1 : bb.gm = gm := by rw [hbb]
 have c2 : bb.ge = ge := by rw [hbb]
 have c3 : bb.gA = gA := by rw [hbb]
 have c4 : bb.gB = gB := by rw [hbb]
 have c5 : bb.gC = gC := by rw [hbb]
 rw [c1] at on
 rw [c2] at er er'
 simp only [c1, c2, c3, c4, c5] at cl
 rw [c3, c4, c5]
 clear c1 c2 c3 c4 c5 hf hbb h1 h2 ht
 obtain ⟨f0, _⟩ := cl 0 m 0 W h0
 have HY := Lib.hid hY
 have ON := Lib.hid on
 have ER := Lib.hid er
 have ER' := Lib.hid er'
 have DR := Lib.hid dr
 have CL := Lib.hid cl
 have H0 := Lib.hid h0
 clear hY on er er' dr cl h0
 refine callsIn_of_wp Tryz.func96 rfl trivial ?_ rfl
 simp only [Tryz.ntmps96, List.size_toArray, List.length_cons, List.length_nil, Nat.reduceAdd, Nat.reduceSub, Array.replicate_succ, Array.replicate_zero, List.push_toArray, List.append_toArray, List.nil_append, List.cons_append]
 gi_wp2
 gi_loopw [7] (fun p wr => ∃ (k : Nat) (mk : MV), p = .int .i64 k ∧ k ≤ fu ∧ mk.Ok ∧ RunL w0 bb l D o1 o2 k mk 0 wr ∧ m.run fu = ((mk.run (fu - k)).1, k + (mk.run (fu - k)).2.1, (mk.run (fu - k)).2.2)) (fun i _ => fu - (intOf i).toNat)
 case atStart => exact ⟨0, m, rfl, Nat.zero_le _, hok, H0.out, by simp⟩
 case round =>
  obtain ⟨k, mk, rfl, hk, hmk, hs, hrun⟩ := hrel
  obtain ⟨b1, b2, b3, b4, b5, b6⟩ := CL.out k mk 0 _ hs
  by_cases hlt : k < fu
  ·have q1 : (k : Int) < fu := by omega
   have HS := Lib.hid hs
   have HRUN := Lib.hid hrun
   clear hs hrun
   gi_wp2
   gi_region_with (refine ⟨trivial, ?_⟩; gi_at_call 97; refine (callsIn_wide.2 (ON.out k mk hmk _ (by first | exact HS.out | exact DR.out _ _ _ HS.out))).mono ?_; rintro e w' ⟨rfl, hr⟩; obtain ⟨d1, d2, d3, d4, d5, d6⟩ := CL.out k _ 0 _ hr; have HR := Lib.hid hr; clear hr)
   all_goals
    have h5 := ER.out k _ _ HR.out mk.err
    obtain ⟨e1, e2, e3, e4, e5, e6⟩ := CL.out k mk.after mk.err _ h5
    obtain ⟨w5, hw5⟩ : ∃ w5, w5 = w'.setCell ⟨ge, 0, none⟩ (.int .i64 mk.err) := ⟨_, rfl⟩
    rw [← hw5] at h5 e1 e2 e3 e4 e5 e6 ⊢
    clear hw5 d1 d2 d3 d4 d5 d6 b1 b2 b3 b4 b5 b6 HR f0
    by_cases he : mk.err = 0
    ·rw [he] at h5 e4 ⊢
     obtain ⟨fn, tmps, assign, body, hy, hR⟩ := HY.out k mk.after mk.c.at_ w5 hlt h5
     have hfin : m.run fu = ((mk.after.run (fu - (k + 1))).1, ((k + 1) + (mk.after.run (fu - (k + 1))).2.1), (mk.after.run (fu - (k + 1))).2.2) := by
      rw [HRUN.out, show fu - k = (fu - (k + 1)) + 1 by omega, run_next he]
      simp only [Nat.add_assoc, Nat.add_comm 1]
     have hok' := after_ok hmk
     have HFIN := Lib.hid hfin
     have HR2 := Lib.hid hR
     clear h5 he hfin hR
     gi_wp2
     refine HR2.out.mono ?_
     rintro e W6 ⟨rfl, h6⟩
     have H6 := Lib.hid h6
     clear h6
     gi_wp2
     go_roundw
     case rel => exact ⟨k + 1, mk.after, by go_num, by omega, hok', H6.out, HFIN.out⟩
     case measure => simp [intOf]; omega
    ·have g1 : (mk.err != 0) = true := by simpa using he
     have H5 := Lib.hid h5
     have HE := Lib.hid he
     clear h5 he
     gi_wp2
     refine ⟨fun _ h => (by cases h), ?_⟩
     gi_wp2
     refine bodyPost_ret (results_none rfl _ _ _) rfl ?_
     have hst := run_stop (f := fu - k - 1) HE.out
     rw [HRUN.out, show fu - k = (fu - k - 1) + 1 by omega, hst.1]
     have := H5.out
     rw [hst.2] at this
     exact ⟨⟨_, rfl⟩, this⟩
  ·have q1 : ¬ ((k : Int) < fu) := by omega
   obtain rfl : k = fu := by omega
   have h5 := ER.out k _ _ hs 15
   rw [Nat.sub_self] at hrun
   have H5 := Lib.hid h5
   have HRUN := Lib.hid hrun
   clear h5 hrun hs
   gi_wp2
   go_end0
   trace_state
   rw [HRUN.out]
   exact ⟨⟨_, rfl⟩, H5.out⟩
end Go.Proofs.YtpjhjefjbkjhkaaGreatDoor
namespace Go.Proofs.YtpjhjefjbkjhkaaGreatDoor
open Go.RowKit
def runE (m : MV) (f : Int) : Int := if f < 0 ∨ 5000 < f then 1 else m.check
def runF (m : MV) (f : Int) : MV × Int × Int := if runE m f ≠ 0 then (zeroMV, 0, runE m f) else ((m.run f.toNat).1, (m.run f.toNat).2.1, (m.run f.toNat).2.2)
theorem rcheck_any (m : MV) (ma sa oa : Option Addr) (mc sc oc : Nat) (f : Int) (w : World) (h8 : m.R.length = 8)
  (hm : Sl w ma m.mem.length m.mem) (hs : Sl w sa m.stk.length m.stk) (ho : Sl w oa m.out.length m.out) : Calls Tryz.prog 59 #[.agg (mcs m.R m.c (.slice ma m.mem.length mc) (.slice sa m.stk.length sc) (.slice oa m.out.length oc)), .int .i64 f] w fun e w' => e = .returned (.int .i64 (runE m f)) ∧ Below w.heap.size w w' := by
 have hsz := mcs_size (c := m.c) (ms := .slice ma m.mem.length mc) (ss := .slice sa m.stk.length sc) (os := .slice oa m.out.length oc) h8
 have sck := scheck_any m.R m.c m.mem m.stk m.out ma sa oa mc sc oc
 obtain ⟨cs, hcs⟩ : ∃ cs, cs = mcs m.R m.c (.slice ma m.mem.length mc) (.slice sa m.stk.length sc) (.slice oa m.out.length oc) := ⟨_, rfl⟩
 rw [← hcs] at hsz sck ⊢
 have hex : cs.extract 0 (0 + 64) = cs := by rw [Array.extract_eq_self_of_le (by rw [hsz]; omega)]
 obtain ⟨w1, hw1⟩ : ∃ w1, w1 = w.alloc (.cells cs 72) := ⟨_, rfl⟩
 have hB : Bk w1 w.heap.size 72 cs := by rw [hw1]; exact bk_new _ _ _
 have h1w : Below w.heap.size w w1 := by rw [hw1]; exact ext_alloc (Below.refl _ _) _
 have sc1 := sck w1 h8 (hm.below h1w) (hs.below h1w) (ho.below h1w)
 have SC := Lib.hid sc1
 have HW1 := Lib.hid hw1
 have HSZ := Lib.hid hsz
 have HEX := Lib.hid hex
 have HB := Lib.hid hB
 have H1W := Lib.hid h1w
 clear hsz hex hB h1w hw1 hm hs ho h8 sck sc1 hcs
 have hcase : (f < 0 ∧ runE m f = 1) ∨ (¬ f < 0 ∧ 5000 < f ∧ runE m f = 1) ∨ (¬ f < 0 ∧ ¬ 5000 < f ∧ runE m f = stepCheck m.R m.c m.mem m.stk m.out) := by
  unfold runE
  by_cases c0 : f < 0
  ·exact .inl ⟨c0, if_pos (.inl c0)⟩
  ·by_cases c1 : 5000 < f
   ·exact .inr (.inl ⟨c0, c1, if_pos (.inr c1)⟩)
   ·exact .inr (.inr ⟨c0, c1, if_neg (by omega)⟩)
 generalize runE m f = ec at *
 rcases hcase with ⟨c0, rfl⟩ | ⟨c0, c1, rfl⟩ | ⟨c0, c1, rfl⟩
 ·have b0 : decide (f < 0) = true := by simpa using c0
  go_enter Tryz.func59, Tryz.ntmps59
  go_upto_region 1 with (fail)
  rw [← HW1.out]
  go_wp2
  go_ret
  exact ⟨rfl, H1W.out⟩
 ·have b0 : decide (f < 0) = false := by simpa using c0
  have b1 : decide (5000 < f) = true := by simpa using c1
  go_enter Tryz.func59, Tryz.ntmps59
  go_upto_region 1 with (fail)
  rw [← HW1.out]
  go_wp2
  go_ret
  exact ⟨rfl, H1W.out⟩
 ·have b0 : decide (f < 0) = false := by simpa using c0
  have b1 : decide (5000 < f) = false := by simpa using c1
  go_enter Tryz.func59, Tryz.ntmps59
  go_upto_region 1 with (fail)
  rw [← HW1.out]
  go_wp2_with (first
   | (refine wpList_load_sub rfl 72 (.tmp 2) rfl w.heap.size 0 64 rfl 72 _ _ HB.out Tryz.underlying72 rfl (by kernel_rfl) (by have := HSZ.out; omega) _ HEX.out ?_)
   | (go_at_call 94; ((with_reducible refine SC.out.mono ?_); rintro e w' ⟨rfl, hb⟩; obtain ⟨y1, rfl⟩ := later_call (Below.refl _ _) hb; clear hb)))
  go_ret
  exact ⟨rfl, ext_trans H1W.out y1.ok⟩
end Go.Proofs.YtpjhjefjbkjhkaaGreatDoor
namespace Go.Proofs.YtpjhjefjbkjhkaaGreatDoor
open Go Go.RowKit Go.Shelf
attribute [local go_sem] Oper.semAt_some
def RunRes (w : World) (m : MV) (n er : Int) (e : Ending) (w' : World) : Prop :=
 ∃ vm vs vo, e = .returned (.tuple #[.agg (mcs m.R m.c vm vs vo), .int .i64 n, .int .i64 er]) ∧ Own w' w.heap.size 68 vm m.mem ∧ Own w' w.heap.size 193 vs m.stk ∧ Own w' w.heap.size 3 vo m.out ∧ Below w.heap.size w w'
theorem results_row3b {P : Program} {fn : Func} {p q r : Tmp} {ty : TypeId} (h : fn.results = #[.cell p ty, .tmp q, .tmp r]) (tmps : Array Value) (w : World) (g : Nat) (t : TypeId) (cs : Array Value) (fr : Nat × Nat) (d : TypeDesc)
  (hp : tmps.getD p undef = .pointer (some ⟨g, 0, none⟩)) (hg : w.heap[g]? = some (.cells cs t fr))
  (hu : P.underlying ty = some d) (hd : (match d with | .struct _ | .array _ _ => true | _ => false) = true) (hi : (P.info? ty).map (·.size) = some cs.size) :
  (results fn tmps).run P w = .ok (.tuple #[.agg cs, tmps.getD q undef, tmps.getD r undef]) w := by
 have hp' : tmps[p]?.getD undef = .pointer (some ⟨g, 0, none⟩) := by simpa using hp
 simp [results, h, hp', asAddr, run_loadVar_row w g t ty cs fr d hg hu hd hi]
theorem steps_any (gm ge : Nat) (f : Int) (W : World) : Calls Tryz.prog 61 #[.pointer (some ⟨gm, 0, none⟩), .int .i64 f, .pointer (some ⟨ge, 0, none⟩)] W fun e w' =>
  e = .returned (.func (.func 96) #[] #[.pointer (some ⟨W.heap.size + 1, 0, none⟩), .pointer (some ⟨W.heap.size, 0, none⟩), .pointer (some ⟨W.heap.size + 2, 0, none⟩)]) ∧
   w' = ((W.alloc (.cells #[.pointer (some ⟨gm, 0, none⟩)] 134)).alloc (.cells #[.int .i64 f] 3)).alloc (.cells #[.pointer (some ⟨ge, 0, none⟩)] 135) := by
 have hmf : ∀ (fn : Fn) (first cap : Array Value) (w : World), (Instr.makeFunc fn first cap).run Tryz.prog w = .ok (.func fn first cap) w := fun _ _ _ _ => rfl
 go_enter Tryz.func61, Tryz.ntmps61
 go_wp2
 go_ret
 exact ⟨by simp, rfl⟩
theorem run_bad (m : MV) (ma sa oa : Option Addr) (mc sc oc : Nat) (f : Int) (w : World) (h8 : m.R.length = 8)
  (hm : Sl w ma m.mem.length m.mem) (hs : Sl w sa m.stk.length m.stk) (ho : Sl w oa m.out.length m.out) (hc : runE m f ≠ 0) : Calls Tryz.prog 29 #[.agg (mcs m.R m.c (.slice ma m.mem.length mc) (.slice sa m.stk.length sc) (.slice oa m.out.length oc)), .int .i64 f] w (RunRes w zeroMV 0 (runE m f)) := by
 have hsz := mcs_size (c := m.c) (ms := .slice ma m.mem.length mc) (ss := .slice sa m.stk.length sc) (os := .slice oa m.out.length oc) h8
 have sck := rcheck_any m ma sa oa mc sc oc f
 obtain ⟨cs, hcs⟩ : ∃ cs, cs = mcs m.R m.c (.slice ma m.mem.length mc) (.slice sa m.stk.length sc) (.slice oa m.out.length oc) := ⟨_, rfl⟩
 rw [← hcs] at hsz sck ⊢
 have hex : cs.extract 0 (0 + 64) = cs := by rw [Array.extract_eq_self_of_le (by rw [hsz]; omega)]
 obtain ⟨w1, hw1⟩ : ∃ w1, w1 = (w.alloc (.cells cs 72)).alloc (.cells #[.bool false, .int .i64 0, .int .i64 0, .int .i64 0, .int .i64 0, .int .i64 0, .int .i64 0, .bool false, .int .i64 0, .int .i64 0, .int .i64 0, .int .i64 0, .int .i64 0, .int .i64 0, .bool false, .int .i64 0, .int .i64 0, .int .i64 0, .int .i64 0, .int .i64 0, .int .i64 0, .bool false, .int .i64 0, .int .i64 0, .int .i64 0, .int .i64 0, .int .i64 0, .int .i64 0, .bool false, .int .i64 0, .int .i64 0, .int .i64 0, .int .i64 0, .int .i64 0, .int .i64 0, .bool false, .int .i64 0, .int .i64 0, .int .i64 0, .int .i64 0, .int .i64 0, .int .i64 0, .bool false, .int .i64 0, .int .i64 0, .int .i64 0, .int .i64 0, .int .i64 0, .int .i64 0, .bool false, .int .i64 0, .int .i64 0, .int .i64 0, .int .i64 0, .int .i64 0, .int .i64 0, .int .i64 0, .int .i64 0, .int .i64 0, .int .i64 0, .int .i64 0, .slice none 0 0, .slice none 0 0, .slice none 0 0] 72) := ⟨_, rfl⟩
 have hB : Bk w1 w.heap.size 72 cs := by rw [hw1]; exact bk_old _ (bk_new _ _ _)
 have hB2 : Bk w1 (w.heap.size + 1) 72 zmc := by rw [hw1]; exact bk_new' _ _ (by simp)
 have h1w : Below w.heap.size w w1 := by rw [hw1]; exact ext_alloc (ext_alloc (Below.refl _ _) _) _
 have sc1 := sck w1 h8 (hm.below h1w) (hs.below h1w) (ho.below h1w)
 generalize runE m f = ec at *
 have g1 : (ec == 0) = false := by simpa using hc
 have g2 : (ec != 0) = true := by simpa using hc
 have SC := Lib.hid sc1
 have HW1 := Lib.hid hw1
 have HSZ := Lib.hid hsz
 have HEX := Lib.hid hex
 have HB := Lib.hid hB
 have HB2 := Lib.hid hB2
 have H1W := Lib.hid h1w
 clear hsz hex hB hB2 h1w hw1 hm hs ho h8 sck sc1 hcs hc
 go_enter Tryz.func29, Tryz.ntmps29
 go_upto_region 1 with (fail)
 rw [← HW1.out]
 go_wp2_with (first
  | (refine wpList_load_sub rfl 72 (.tmp 2) rfl w.heap.size 0 64 rfl 72 _ _ HB.out Tryz.underlying72 rfl (by kernel_rfl) (by have := HSZ.out; omega) _ HEX.out ?_)
  | (go_at_call 59; ((with_reducible refine SC.out.mono ?_); rintro e w' ⟨rfl, hb⟩; obtain ⟨y1, rfl⟩ := later_call (Below.refl _ _) hb; clear hb))
  | (refine wpList_store_rowTo rfl 72 (.tmp 4) (.tmp 15) rfl rfl (w.heap.size + 1) zmc rfl (by first | rfl | kernel_rfl) 72 _ (y1.bk HB2.out) (by kernel_rfl) (by kernel_rfl) (by kernel_rfl) ?_))
 refine bodyPost_ret (results_row3b (g := w.heap.size + 1) (t := 72) (cs := zmc) (fr := (0, 0)) rfl _ _ _ rfl (bk_setRow (y1.bk HB2.out) _) Tryz.underlying72 rfl (by kernel_rfl)) rfl ?_
 exact ⟨_, _, _, by rw [show mcs zeroMV.R zeroMV.c _ _ _ = zmc from zmc_eq]; rfl, Own.nil _ _ _, Own.nil _ _ _, Own.nil _ _ _, ext_setRow (ext_trans H1W.out y1.ok) (by omega) _⟩
end Go.Proofs.YtpjhjefjbkjhkaaGreatDoor
namespace Go.Proofs.YtpjhjefjbkjhkaaGreatDoor
open Go Go.RowKit Go.Shelf
attribute [local go_sem] Oper.semAt_some
theorem own_cells {α : Type} [El α] {W : World} {base : Nat} {T : TypeId} {v : Value} {xs : List α} (ho : Own W base T v xs) {k : Nat} (hv : v.ownBlock = some k) : ∃ T cs, Bk W k T cs := by
 rcases ho.2 with ⟨rfl, _⟩ | ⟨g', c, cur, rfl, _, hg', _⟩
 ·cases hv
 ·injection hv with hv; subst hv; exact ⟨_, _, hg'⟩
theorem run_good (m : MV) (ma sa oa : Option Addr) (mc sc oc : Nat) (fu : Nat) (w : World) (h8 : m.R.length = 8)
  (hm : Sl w ma m.mem.length m.mem) (hs : Sl w sa m.stk.length m.stk) (ho : Sl w oa m.out.length m.out) (hok : m.Ok) (ht : Tab w) (hfu : fu ≤ 5000) : Calls Tryz.prog 29 #[.agg (mcs m.R m.c (.slice ma m.mem.length mc) (.slice sa m.stk.length sc) (.slice oa m.out.length oc)), .int .i64 fu] w (RunRes w (m.run fu).1 (m.run fu).2.1 (m.run fu).2.2) := by
 have hsz := mcs_size (c := m.c) (ms := .slice ma m.mem.length mc) (ss := .slice sa m.stk.length sc) (os := .slice oa m.out.length oc) h8
 have sck := rcheck_any m ma sa oa mc sc oc fu
 have cpd := copied_any m.R m.c m.mem m.stk m.out ma sa oa mc sc oc
 obtain ⟨cs, hcs⟩ : ∃ cs, cs = mcs m.R m.c (.slice ma m.mem.length mc) (.slice sa m.stk.length sc) (.slice oa m.out.length oc) := ⟨_, rfl⟩
 rw [← hcs] at hsz sck cpd ⊢
 have hex : cs.extract 0 (0 + 64) = cs := by rw [Array.extract_eq_self_of_le (by rw [hsz]; omega)]
 obtain ⟨w1, hw1⟩ : ∃ w1, w1 = (w.alloc (.cells cs 72)).alloc (.cells #[.bool false, .int .i64 0, .int .i64 0, .int .i64 0, .int .i64 0, .int .i64 0, .int .i64 0, .bool false, .int .i64 0, .int .i64 0, .int .i64 0, .int .i64 0, .int .i64 0, .int .i64 0, .bool false, .int .i64 0, .int .i64 0, .int .i64 0, .int .i64 0, .int .i64 0, .int .i64 0, .bool false, .int .i64 0, .int .i64 0, .int .i64 0, .int .i64 0, .int .i64 0, .int .i64 0, .bool false, .int .i64 0, .int .i64 0, .int .i64 0, .int .i64 0, .int .i64 0, .int .i64 0, .bool false, .int .i64 0, .int .i64 0, .int .i64 0, .int .i64 0, .int .i64 0, .int .i64 0, .bool false, .int .i64 0, .int .i64 0, .int .i64 0, .int .i64 0, .int .i64 0, .int .i64 0, .bool false, .int .i64 0, .int .i64 0, .int .i64 0, .int .i64 0, .int .i64 0, .int .i64 0, .int .i64 0, .int .i64 0, .int .i64 0, .int .i64 0, .int .i64 0, .slice none 0 0, .slice none 0 0, .slice none 0 0] 72) := ⟨_, rfl⟩
 have hB : Bk w1 w.heap.size 72 cs := by rw [hw1]; exact bk_old _ (bk_new _ _ _)
 have hB2 : Bk w1 (w.heap.size + 1) 72 zmc := by rw [hw1]; exact bk_new' _ _ (by simp)
 have h1w : Below w.heap.size w w1 := by rw [hw1]; exact ext_alloc (ext_alloc (Below.refl _ _) _) _
 have sc1 := sck w1 h8 (hm.below h1w) (hs.below h1w) (ho.below h1w)
 have l400 := hok.1.len
 have l16 := hok.1.deep
 have l100 := hok.1.told
 have hc : runE m fu = 0 := by
  unfold runE MV.check
  rw [if_neg (by omega)]
  exact stepCheck_zero.2 hok.1
 rw [hc] at sc1
 have cp := fun y : Later w1 => cpd y.val h8 ((hm.below h1w).below y.ok) ((hs.below h1w).below y.ok) ((ho.below h1w).below y.ok) (by omega) (by omega) (by omega)
 unfold MPost at cp
 have SC := Lib.hid sc1
 have CP := Lib.hid cp
 have HW1 := Lib.hid hw1
 have HSZ := Lib.hid hsz
 have HEX := Lib.hid hex
 have HB := Lib.hid hB
 have HB2 := Lib.hid hB2
 have H1W := Lib.hid h1w
 have HOK := Lib.hid hok
 have HT := Lib.hid ht
 have H8 := Lib.hid h8
 have hz1 : w1.heap.size = w.heap.size + 2 := by rw [hw1]; simp
 clear hsz hex hB hB2 h1w hw1 hm hs ho h8 sck cpd sc1 cp hcs hc hok ht
 refine (callsIn_wide (n := 3)).1 ?_
 refine callsIn_of_wp_marks Tryz.func29 rfl trivial ?_ rfl
 refine wpIn_wide.2 ?_
 simp only [Tryz.ntmps29, List.size_toArray, List.length_cons, List.length_nil, Nat.reduceAdd, Nat.reduceSub, Array.replicate_succ, Array.replicate_zero, List.push_toArray, List.append_toArray, List.nil_append, List.cons_append]
 go_upto_region 1 with (fail)
 rw [← HW1.out]
 go_upto_region 5 with (first
  | (refine wpList_load_sub rfl 72 (.tmp 2) rfl w.heap.size 0 64 rfl 72 _ _ HB.out Tryz.underlying72 rfl (by kernel_rfl) (by have := HSZ.out; omega) _ HEX.out ?_)
  | (refine wpList_load_sub rfl 72 (.tmp 2) rfl w.heap.size 0 64 rfl 72 _ _ (y1.bk HB.out) Tryz.underlying72 rfl (by kernel_rfl) (by have := HSZ.out; omega) _ HEX.out ?_)
  | (go_at_call 59; ((with_reducible refine SC.out.mono ?_); rintro e w' ⟨rfl, hb⟩; obtain ⟨y1, rfl⟩ := later_call (Below.refl _ _) hb; clear hb))
  | (go_at_call 60; ((with_reducible refine (CP.out y1).mono ?_); rintro e w2 ⟨vm, vs, vo, rfl, om, os, oo, hb2⟩; obtain ⟨mma, mmc, rfl, _, _⟩ := om.sl; obtain ⟨ssa, ssc, rfl, _, _⟩ := os.sl; obtain ⟨ooa, ooc, rfl, _, _⟩ := oo.sl; have OM := Lib.hid om; have OS := Lib.hid os; have OO := Lib.hid oo; have HB22 := Lib.hid hb2; have HSZ2 := Lib.hid (mcs_size (c := m.c) (ms := .slice mma m.mem.length mmc) (ss := .slice ssa m.stk.length ssc) (os := .slice ooa m.out.length ooc) H8.out); have HONE := Lib.hid (mcs_one (R := m.R) (c := m.c) (ownsOne om) (ownsOne os) (ownsOne oo)); clear om os oo hb2))
  | (refine wpList_store_rowTo rfl 72 (.tmp 2) (.tmp 18) rfl rfl w.heap.size (mcs m.R m.c (.slice mma m.mem.length mmc) (.slice ssa m.stk.length ssc) (.slice ooa m.out.length ooc)) rfl rfl 72 _ (bk_keep HB22.out (y1.bk HB.out)) (by rw [HSZ2.out]; kernel_rfl) (by rw [HSZ2.out, HSZ.out]) HONE.out ?_))
 obtain ⟨base, hbase⟩ : ∃ base, base = y1.val.heap.size := ⟨_, rfl⟩
 obtain ⟨W0, hW0⟩ : ∃ W0, W0 = w2.setRow w.heap.size (mcs m.R m.c (.slice mma m.mem.length mmc) (.slice ssa m.stk.length ssc) (.slice ooa m.out.length ooc)) := ⟨_, rfl⟩
 have hwl : w.heap.size + 2 ≤ y1.val.heap.size := by rw [← hz1]; exact y1.ok.size
 have hy2 : y1.val.heap.size ≤ w2.heap.size := HB22.out.size
 have k1 := bk_keep HB22.out (y1.bk HB.out)
 have hsz0 : W0.heap.size = w2.heap.size := by rw [hW0]; simp
 have hm0 : MS base w.heap.size (.slice mma m.mem.length mmc) (.slice ssa m.stk.length ssc) (.slice ooa m.out.length ooc) m W0 := by
  rw [hW0, hbase]
  exact ⟨H8.out, bk_setRow k1 _, own_setRow OM.out k1 (by decide) _, own_setRow OS.out k1 (by decide) _, own_setRow OO.out k1 (by decide) _⟩
 have h0w : Below w.heap.size w W0 := by rw [hW0]; exact ext_setRow (ext_trans (ext_trans H1W.out y1.ok) HB22.out) (Nat.le_refl _) _
 have r0 : Bk W0 (w.heap.size + 1) 72 zmc := by rw [hW0]; exact (setRow_other _ _ _ _ (by omega)).trans (bk_keep HB22.out (y1.bk HB2.out))
 have hbw : w.heap.size + 2 ≤ base := by omega
 have hb0 : base ≤ W0.heap.size := by omega
 rw [← hW0]
 have HM0 := Lib.hid hm0
 have H0W := Lib.hid h0w
 have R0 := Lib.hid r0
 clear hW0 k1 hm0 h0w r0 OM OS OO HB22 HSZ2 HONE hsz0 hy2 hbase
 go_wp2_with (go_at_call 61; (refine (steps_any _ _ _ _).mono ?_); rintro e w5 ⟨rfl, rfl⟩)
 obtain ⟨H, hH⟩ : ∃ H, H = W0.heap.size := ⟨_, rfl⟩
 obtain ⟨W5, hW5⟩ : ∃ W5, W5 = ((((W0.alloc (.cells #[.int .i64 0] 29)).alloc (.cells #[.int .i64 0] 3)).alloc (.cells #[.pointer (some ⟨w.heap.size, 0, none⟩)] 134)).alloc (.cells #[.int .i64 fu] 3)).alloc (.cells #[.pointer (some ⟨W0.heap.size, 0, none⟩)] 135) := ⟨_, rfl⟩
 have b05 : Below W0.heap.size W0 W5 := by rw [hW5]; exact ext_alloc (ext_alloc (ext_alloc (ext_alloc (ext_alloc (Below.refl _ _) _) _) _) _) _
 have z5 : W5.heap.size = W0.heap.size + 5 := by rw [hW5]; simp
 have lt := fun k (hk : mS w.heap.size (.slice mma m.mem.length mmc) (.slice ssa m.stk.length ssc) (.slice ooa m.out.length ooc) k) => HM0.out.lt hk
 obtain ⟨bb, hbb⟩ : ∃ bb, bb = RunB.mk base w.heap.size H (H + 1) (H + 1 + 1 + 1) (H + 1 + 1) (H + 1 + 1 + 2) (w.heap.size + 1) fu := ⟨_, rfl⟩
 have hst : RunSt w bb 0 m 0 W5 := by
  rw [hbb, hH]
  refine ⟨⟨_, _, _, HM0.out.below b05, fun h => ?_, fun h => ?_, fun h => ?_, fun h => ?_⟩, ?_, ?_, ?_, ?_, ?_, bk_keep b05 R0.out, ext_trans H0W.out b05, ?_⟩
  ·have := lt _ h; simp only at this; omega
  ·have := lt _ h; simp only at this; omega
  ·have := lt _ h; simp only at this; omega
  ·have := lt _ h; simp only at this; omega
  ·rw [hW5]; exact bk_old _ (bk_old _ (bk_old _ (bk_new' _ _ (by simp))))
  ·rw [hW5]; exact bk_old _ (bk_old _ (bk_old _ (bk_old _ (bk_new' _ _ (by simp)))))
  ·rw [hW5]; exact bk_old _ (bk_new' _ _ (by simp))
  ·rw [hW5]; exact bk_old _ (bk_old _ (bk_new' _ _ (by simp)))
  ·rw [hW5]; exact bk_new' _ _ (by simp)
  ·have := H0W.out.size
   refine ⟨?_, ?_, ?_, ?_, ?_, ?_, ?_⟩ <;> simp only <;> omega
 rw [← hH] at hW5 z5
 simp only [← hH]
 rw [← hW5]
 have HST := Lib.hid hst
 have HBB := Lib.hid hbb
 have hHw : w.heap.size + 2 ≤ H := by omega
 clear hW5 hst hbb hH lt b05 HM0
 refine (wpIn_wide (n := 3)).1 ?_
 refine wpIn_rangeFunc_go (β := Nat × MV × Int) rfl (by decide) (gf := 96) (lb := #[.pointer (some ⟨H + 1 + 1 + 1, 0, none⟩), .pointer (some ⟨H + 1 + 1, 0, none⟩), .pointer (some ⟨H + 1 + 1 + 2, 0, none⟩)]) rfl trivial (enters_of Tryz.func96 (by kernel_rfl) rfl)
  (fun x => #[.int .i64 x.2.2]) (fun _ => rfl) (fun x W => x.1 < fu ∧ RunSt w bb x.1 x.2.1 0 W) (fun x W => RunSt w bb ((x.1 + 1 : Nat) : Int) x.2.1 0 W) (fun W => RunSt w bb (m.run fu).2.1 (m.run fu).1 (m.run fu).2.2 W)
  (fun x W l o o' h hl hk hc => ⟨h.1, h.2.putObj hk hc (by omega)⟩) (fun x W l o o' h hl hk hc => h.putObj hk hc (by omega)) (fun W l o o' h hl hk hc => h.putObj hk hc (by omega)) (fun x => { tmps := #[.agg cs, .int .i64 fu, .pointer (some ⟨w.heap.size, 0, none⟩), undef, .pointer (some ⟨w.heap.size + 1, 0, none⟩), .int .i64 0, .int .i64 0, .int .i64 0, .pointer (some ⟨H, 0, none⟩), .pointer (some ⟨H + 1, 0, none⟩), .agg cs, .int .i64 fu, .int .i64 0, .int .i64 0, .bool false, undef, undef, .agg cs,
   .agg (mcs m.R m.c (.slice mma m.mem.length mmc) (.slice ssa m.stk.length ssc) (.slice ooa m.out.length ooc)), .int .i64 fu, .func (.func 96) #[] #[.pointer (some ⟨H + 1 + 1 + 1, 0, none⟩), .pointer (some ⟨H + 1 + 1, 0, none⟩), .pointer (some ⟨H + 1 + 1 + 2, 0, none⟩)], .int .i64 x.2.2, undef, undef, undef, undef, undef], defers := [] })
  ?assign ?body ?iter ?done
 case assign =>
  intro l x W K hK
  gi_wp2
  simpa using hK
 case body =>
  rintro l ⟨k, mk, at_⟩ W ⟨hk, hW⟩
  simp only at hk hW
  have n0 : W.cell? ⟨H + 1, 0, none⟩ = some (.int .i64 k) := by have := hW.n.cell 0; rw [HBB.out] at this; exact this
  have n1 : W.frozen? ⟨H + 1, 0, none⟩ = false := by have := hW.n.frozen 0; rw [HBB.out] at this; exact this
  have w64 : wrap64 ((k : Int) + 1) = ((k + 1 : Nat) : Int) := by rw [IntWalk.wrap64_in _ ⟨by omega, by omega⟩]; omega
  have hn := hW.num ((k + 1 : Nat) : Int)
  rw [HBB.out] at hn
  simp only at hn
  rw [← HBB.out] at hn
  have HN := Lib.hid hn
  clear hn hW hk
  gi_wp2
  try rw [w64]
  exact ⟨(KeepsOthers.setCell _ _ _).from _, HN.out⟩
 case iter =>
  intro o1 o2 h1 h2 hY
  have hbf : bb.f = fu := by rw [HBB.out]
  have b5 : Below W5.heap.size W5 ((W5.alloc o2).alloc o1) := ext_alloc (ext_alloc (Below.refl _ _) _) _
  have hst := HST.out
  have hst2 : RunSt w bb 0 m 0 ((W5.alloc o2).alloc o1) := by
   obtain ⟨vm, vs, vo, g1, g2, g3, g4, g5⟩ := hst.ms
   exact ⟨⟨vm, vs, vo, g1.below b5, g2, g3, g4, g5⟩, bk_keep b5 hst.n, bk_keep b5 hst.e, bk_keep b5 hst.A, bk_keep b5 hst.B, bk_keep b5 hst.C, bk_keep b5 hst.r, ext_trans hst.below b5, hst.ne⟩
  have hl1 : ((W5.alloc o2).alloc o1).heap[W5.heap.size + 1]? = some o1 := by
   have := World.alloc_heap_new (W5.alloc o2) o1; rwa [World.size_alloc] at this
  have hl2 : ((W5.alloc o2).alloc o1).heap[W5.heap.size]? = some o2 := (Below.heap_alloc _ _ _ (by simp)).trans (World.alloc_heap_new W5 o2)
  have it := iter_any w bb 2 (W5.heap.size + 1) W5.heap.size fu o1 o2 h1 h2 (by decide) HT.out (fun k mk at_ W hk hL => (hY (k, mk, at_) W ⟨hk, hL.1⟩ hL.2.1 hL.2.2)) hbf hfu m HOK.out ((W5.alloc o2).alloc o1) ⟨hst2, hl1, hl2⟩
  rw [HBB.out] at it ⊢
  exact it
 case done =>
  intro W hT hD
  generalize (m.run fu).2.1 = rn at *
  generalize (m.run fu).2.2 = re at *
  generalize (m.run fu).1 = rm at *
  obtain ⟨vm, vs, vo, g1, g2, g3, g4, g5⟩ := hT.ms
  have hne := hT.ne
  have n0 := hT.n.cell 0
  have e0 := hT.e.cell 0
  have r0 := hT.r
  have hbel := hT.below
  have hz5 := z5
  rw [HBB.out] at g1 n0 e0 r0 hne
  simp only [List.getElem?_toArray, List.getElem?_cons_zero] at n0 e0 r0 g1 hne
  have nL := hT.n.lt
  have eL := hT.e.lt
  rw [HBB.out] at nL eL
  simp only at nL eL
  have hcs := mcs_size (c := rm.c) (ms := vm) (ss := vs) (os := vo) g1.h8
  have HSZ9 := Lib.hid hcs
  have HEX9 := Lib.hid (show (mcs rm.R rm.c vm vs vo).extract 0 (0 + 64) = mcs rm.R rm.c vm vs vo by rw [Array.extract_eq_self_of_le (by rw [hcs]; omega)])
  have HON9 := Lib.hid (mcs_one (R := rm.R) (c := rm.c) (ownsOne g1.om) (ownsOne g1.os) (ownsOne g1.oo))
  have G1 := Lib.hid g1
  have RB := Lib.hid r0
  have HBEL := Lib.hid hbel
  have HD := Lib.hid hD
  clear hcs g1 r0 hbel hD hT g2 g3 g4 g5 hne HST HBB SC CP HW1 HSZ HEX HB HB2 HOK HT H8
  go_wp2
  have s0 : ∀ W1, Below W.heap.size W W1 → W1.cell? ⟨H + 1, 0, none⟩ = some (.int .i64 rn) ∧ W1.cell? ⟨H, 0, none⟩ = some (.int .i64 re) := fun W1 hb => ⟨(hb.cell (p := ⟨H + 1, 0, none⟩) nL).trans n0, (hb.cell (p := ⟨H, 0, none⟩) eL).trans e0⟩
  have S0 := Lib.hid (s0 (World.drew W) (ext_drew (Below.refl _ _)))
  have s1 : (World.setRow (World.drew W) (w.heap.size + 1) (mcs rm.R rm.c vm vs vo)).cell? ⟨H + 1, 0, none⟩ = some (.int .i64 rn) ∧ (World.setRow (World.drew W) (w.heap.size + 1) (mcs rm.R rm.c vm vs vo)).cell? ⟨H, 0, none⟩ = some (.int .i64 re) := ⟨(cell_setRow_other _ _ _ ⟨H + 1, 0, none⟩ (by simp only; omega)).trans S0.out.1, (cell_setRow_other _ _ _ ⟨H, 0, none⟩ (by simp only; omega)).trans S0.out.2⟩
  have S1 := Lib.hid s1
  clear s0 s1 n0 e0
  refine wp_region_noPanic ?_
  refine wp_region_held_drew (S := fun W1 => W1.cell? ⟨H + 1, 0, none⟩ = some (.int .i64 rn) ∧ W1.cell? ⟨H, 0, none⟩ = some (.int .i64 re)) (by kernel_rfl) (S0.out) (fun hHeld => ?_)
  refine wpAnyH_take (i := 1) (v := ?_) rfl (by kernel_rfl) (by kernel_rfl) (by kernel_rfl) (fun _ _ _ h => h) (Or.inl ⟨by rfl, ?hyT⟩) hHeld ?restT
  case hyT => (intro w hSw; obtain ⟨q1, q2⟩ := hSw; go_simp; try with_reducible rfl)
  case restT =>
   try simp only [Act.put, List.setIfInBounds_toArray, List.set_cons_zero, List.set_cons_succ]
   refine wpAnyH_take (i := 2) (v := ?_) rfl (by kernel_rfl) (by kernel_rfl) (by kernel_rfl) (fun _ _ _ h => h) (Or.inl ⟨by rfl, ?hyT⟩) hHeld ?restT
   case hyT => (intro w hSw; obtain ⟨q1, q2⟩ := hSw; go_simp; try with_reducible rfl)
   case restT =>
    try simp only [Act.put, List.setIfInBounds_toArray, List.set_cons_zero, List.set_cons_succ]
    refine wpAnyH_ready (rs := [0]) (by kernel_rfl) (by simp) ?_
    refine AllReadyH.cons rfl (fun K hK => ?_) AllReadyH.nil
    refine step_load_sub rfl 72 (.tmp 2) rfl w.heap.size 0 64 rfl 72 _ _ (show Bk (World.drew W) w.heap.size 72 (mcs rm.R rm.c vm vs vo) from G1.out.mB) Tryz.underlying72 rfl (by kernel_rfl) (by rw [HSZ9.out]; decide) _ HEX9.out ?_
    refine hK.out _ _ (S0.out) (fun hHeld => ?_)
    clear hK K
    try simp only [Act.put, List.setIfInBounds_toArray, List.set_cons_zero, List.set_cons_succ]
    refine wpAnyH_ready (rs := [3]) (by kernel_rfl) (by simp) ?_
    refine AllReadyH.cons rfl (fun K hK => ?_) AllReadyH.nil
    refine step_store_row rfl 72 (.tmp 4) (.tmp 24) rfl (w.heap.size + 1) (mcs rm.R rm.c vm vs vo) rfl rfl 72 _ (show Bk (World.drew W) (w.heap.size + 1) 72 zmc from RB.out) (by rw [HSZ9.out]; kernel_rfl) (by rw [HSZ9.out]; kernel_rfl) HON9.out ?_
    refine hK.out _ _ (S1.out) (fun hHeld => ?_)
    clear hK K
    try simp only [Act.put, List.setIfInBounds_toArray, List.set_cons_zero, List.set_cons_succ]
    refine wpAnyH_ready (rs := [4]) (by kernel_rfl) (by simp) ?_
    refine AllReadyH.cons rfl (fun K hK => ?_) AllReadyH.nil
    go_simp
    refine hK.out _ _ (S1.out) (fun hHeld => ?_)
    clear hK K
    try simp only [Act.put, List.setIfInBounds_toArray, List.set_cons_zero, List.set_cons_succ]
    refine wpAnyH_ready (rs := [5]) (by kernel_rfl) (by simp) ?_
    refine AllReadyH.cons rfl (fun K hK => ?_) AllReadyH.nil
    go_simp
    refine hK.out _ _ (S1.out) (fun hHeld => ?_)
    clear hK K
    try simp only [Act.put, List.setIfInBounds_toArray, List.set_cons_zero, List.set_cons_succ]
    refine wpAnyH_done (by kernel_rfl) ?_ _
    refine NoPanic.normal ?_
    go_wp2
    obtain ⟨W8, hW8⟩ : ∃ W8, W8 = World.setRow (World.drew W) (w.heap.size + 1) (mcs rm.R rm.c vm vs vo) := ⟨_, rfl⟩
    have kr : Bk W8 (w.heap.size + 1) 72 (mcs rm.R rm.c vm vs vo) := by rw [hW8]; exact bk_setRow (w := World.drew W) RB.out _
    have hD8 : W8.heap[H + 5]? = some (.deferred (some [])) := by
     rw [hW8, ← hz5]
     exact (setRow_other (World.drew W) _ _ _ (by omega)).trans HD.out
    have o1 : Own W8 base 68 vm rm.mem := by rw [hW8]; exact own_setRow (w := World.drew W) G1.out.om RB.out (by decide) _
    have o2 : Own W8 base 193 vs rm.stk := by rw [hW8]; exact own_setRow (w := World.drew W) G1.out.os RB.out (by decide) _
    have o3 : Own W8 base 3 vo rm.out := by rw [hW8]; exact own_setRow (w := World.drew W) G1.out.oo RB.out (by decide) _
    have b8 : Below w.heap.size w W8 := by rw [hW8]; exact ext_setRow (ext_drew HBEL.out) (by omega) _
    rw [← hW8]
    have hp := Fr.putObj (o' := .deferred none) hD8
    refine ⟨by simp, .inl ⟨_, _, rfl, run_takeDeferred hD8, ?_⟩⟩
    have k2 := bk_putObj (o' := .deferred none) kr hD8 rfl
    refine ⟨_, results_row3b (g := w.heap.size + 1) (t := 72) (cs := mcs rm.R rm.c vm vs vo) (fr := (0, 0)) rfl _ _ _ rfl k2 Tryz.underlying72 rfl (by rw [HSZ9.out]; kernel_rfl), ?_⟩
    have ow : ∀ {α : Type} [El α] {T : TypeId} {v : Value} {xs : List α}, Own W8 base T v xs → Own (W8.putObj (H + 5) (.deferred none)) w.heap.size T v xs := fun ho => (hp.own ho (fun g hg e => by
     obtain ⟨_, _, hbk⟩ := own_cells ho hg
     exact bk_noncell hbk hD8 rfl e)).mono (by omega)
    exact ⟨_, _, _, rfl, ow o1, ow o2, ow o3, hp.below b8 (fun i hi => by omega)⟩
theorem run_any (m : MV) (ma sa oa : Option Addr) (mc sc oc : Nat) (f : Int) (w : World) (h8 : m.R.length = 8)
  (hm : Sl w ma m.mem.length m.mem) (hs : Sl w sa m.stk.length m.stk) (ho : Sl w oa m.out.length m.out) (ht : Tab w) : Calls Tryz.prog 29 #[.agg (mcs m.R m.c (.slice ma m.mem.length mc) (.slice sa m.stk.length sc) (.slice oa m.out.length oc)), .int .i64 f] w (RunRes w (runF m f).1 (runF m f).2.1 (runF m f).2.2) := by
 unfold runF
 by_cases hc : runE m f = 0
 ·rw [if_neg (by simp [hc])]
  unfold runE at hc
  by_cases hf : f < 0 ∨ 5000 < f
  ·rw [if_pos hf] at hc; cases hc
  ·rw [if_neg hf] at hc
   obtain ⟨fu, hfu⟩ := Int.eq_ofNat_of_zero_le (show 0 ≤ f by omega)
   subst hfu
   exact run_good m ma sa oa mc sc oc fu w h8 hm hs ho ⟨stepCheck_zero.1 hc, h8⟩ ht (by omega)
 ·rw [if_pos hc]
  exact run_bad m ma sa oa mc sc oc f w h8 hm hs ho hc
end Go.Proofs.YtpjhjefjbkjhkaaGreatDoor
namespace Go.Proofs.YtpjhjefjbkjhkaaGreatDoor
open Go.RowKit
theorem runE_small {m : MV} {f : Nat} (h : f ≤ 5000) : runE m f = m.check := if_neg (by omega)
theorem runF_good {m : MV} {f : Nat} (h : f ≤ 5000) (hc : m.check = 0) : runF m f = ((m.run f).1, ((m.run f).2.1 : Int), (m.run f).2.2) := by
 unfold runF
 rw [runE_small h, if_neg (by simp [hc])]
 rfl
theorem ok_of_check {m : MV} (h8 : m.R.length = 8) (h : m.check = 0) : m.Ok := ⟨stepCheck_zero.1 h, h8⟩
theorem check_of_ok {m : MV} (h : m.Ok) : m.check = 0 := stepCheck_zero.2 h.1
theorem runF_h8 {m : MV} (h8 : m.R.length = 8) (f : Int) : (runF m f).1.R.length = 8 := by
 unfold runF
 by_cases hc : runE m f = 0
 ·rw [if_neg (by simp [hc])]
  unfold runE at hc
  by_cases hf : f < 0 ∨ 5000 < f
  ·rw [if_pos hf] at hc; cases hc
  ·rw [if_neg hf] at hc
   exact (run_okM f.toNat m (ok_of_check h8 hc)).2
 ·rw [if_pos hc]; rfl
structure MBox (g : Nat) (m : MV) (cs : Array Value) (W : World) : Prop where
 h8 : m.R.length = 8
 bk : Bk W g 72 cs
 row : ∃ ma sa oa mc sc oc, cs = mcs m.R m.c (.slice ma m.mem.length mc) (.slice sa m.stk.length sc) (.slice oa m.out.length oc) ∧ Sl W ma m.mem.length m.mem ∧ Sl W sa m.stk.length m.stk ∧ Sl W oa m.out.length m.out
section
variable {g : Nat} {m : MV} {cs : Array Value} {W W' : World}
theorem MBox.below (h : MBox g m cs W) (hb : Below W.heap.size W W') : MBox g m cs W' := by
 obtain ⟨ma, sa, oa, mc, sc, oc, e, h1, h2, h3⟩ := h.row
 exact ⟨h.h8, bk_keep hb h.bk, ma, sa, oa, mc, sc, oc, e, h1.below hb, h2.below hb, h3.below hb⟩
theorem MBox.sz (h : MBox g m cs W) : cs.size = 64 := by
 obtain ⟨ma, sa, oa, mc, sc, oc, e, _⟩ := h.row
 rw [e, mcs_size h.h8]
theorem MBox.size (h : MBox g m cs W) : 0 + 64 ≤ cs.size := by rw [h.sz]; decide
theorem MBox.all (h : MBox g m cs W) : cs.extract 0 (0 + 64) = cs := by
 rw [Array.extract_eq_self_of_le (by rw [h.sz]; decide)]
theorem MBox.one (h : MBox g m cs W) : cs.all (·.oneCell') = true := by
 obtain ⟨ma, sa, oa, mc, sc, oc, e, _⟩ := h.row
 rw [e]
 exact mcs_one rfl rfl rfl
end
end Go.Proofs.YtpjhjefjbkjhkaaGreatDoor
namespace Go.Proofs.YtpjhjefjbkjhkaaGreatDoor
open Go.RowKit
structure MOwn (base : Nat) (m : MV) (cs : Array Value) (W : World) : Prop where
 h8 : m.R.length = 8
 own : ∃ vm vs vo, cs = mcs m.R m.c vm vs vo ∧ Own W base 68 vm m.mem ∧ Own W base 193 vs m.stk ∧ Own W base 3 vo m.out
section
variable {base g : Nat} {m : MV} {cs old : Array Value} {W W' : World}
theorem MOwn.sz (h : MOwn base m cs W) : cs.size = 64 := by
 obtain ⟨vm, vs, vo, e, _⟩ := h.own
 rw [e, mcs_size h.h8]
theorem MOwn.one (h : MOwn base m cs W) : cs.all (·.oneCell') = true := by
 obtain ⟨vm, vs, vo, e, h1, h2, h3⟩ := h.own
 rw [e]
 exact mcs_one (ownsOne h1) (ownsOne h2) (ownsOne h3)
theorem MOwn.box (h : MOwn base m cs W) (hb : Bk W g 72 cs) : MBox g m cs W := by
 obtain ⟨vm, vs, vo, e, h1, h2, h3⟩ := h.own
 obtain ⟨ma, mc, rfl, k1, _⟩ := h1.sl
 obtain ⟨sa, sc, rfl, k2, _⟩ := h2.sl
 obtain ⟨oa, oc, rfl, k3, _⟩ := h3.sl
 exact ⟨h.h8, hb, ma, sa, oa, mc, sc, oc, e, k1, k2, k3⟩
theorem MOwn.below (h : MOwn base m cs W) (hb : Below W.heap.size W W') : MOwn base m cs W' := by
 obtain ⟨vm, vs, vo, e, h1, h2, h3⟩ := h.own
 exact ⟨h.h8, vm, vs, vo, e, h1.below hb, h2.below hb, h3.below hb⟩
theorem MOwn.alloc (h : MOwn base m cs W) : MBox W.heap.size m cs (W.alloc (.cells cs 72)) := (h.below (ext_alloc (Below.refl _ _) _)).box (bk_new _ _ _)
theorem MOwn.setRow (h : MOwn base m cs W) (hg : Bk W g 72 old) : MBox g m cs (W.setRow g cs) := by
 have hb := bk_setRow hg cs
 obtain ⟨vm, vs, vo, e, h1, h2, h3⟩ := h.own
 exact MOwn.box ⟨h.h8, vm, vs, vo, e, own_setRow h1 hg (by decide) cs, own_setRow h2 hg (by decide) cs, own_setRow h3 hg (by decide) cs⟩ hb
theorem run_own (h : MBox g m cs W) (ht : Tab W) (f : Int) {X : MV} {n er : Int} (hr : runF m f = (X, n, er)) :
  Calls Tryz.prog 29 #[.agg cs, .int .i64 f] W fun e w' => ∃ cs', e = .returned (.tuple #[.agg cs', .int .i64 n, .int .i64 er]) ∧ MOwn W.heap.size X cs' w' ∧ Below W.heap.size W w' := by
 have hX : X.R.length = 8 := by have := runF_h8 h.h8 f; rw [hr] at this; exact this
 obtain ⟨ma, sa, oa, mc, sc, oc, rfl, h1, h2, h3⟩ := h.row
 have := run_any m ma sa oa mc sc oc f W h.h8 h1 h2 h3 ht
 rw [hr] at this
 refine this.mono ?_
 rintro e w' ⟨vm, vs, vo, rfl, om, os, oo, hb⟩
 exact ⟨_, rfl, ⟨hX, vm, vs, vo, rfl, om, os, oo⟩, hb⟩
end
end Go.Proofs.YtpjhjefjbkjhkaaGreatDoor
