/- Blocks that are known whole, carried from world to world. No program in sight. -/
import Derived.Below
import Derived.Laws.Rows
import Derived.Laws.OwnMore
import Derived.WalkKit
import Derived.Deep.Light
import Derived.BigQuiet
import Derived.Deep.Draws
namespace Go.Proofs.Ytcdcmbehnccicaa
open Go.RowKit
set_option linter.unusedVariables false

/-- Block g is just these cells. -/
def Bk (w : World) (g : Nat) (T : TypeId) (cs : Array Value) : Prop := w.heap[g]? = some (.cells cs T (0, 0))
theorem Bk.lt {w : World} {g : Nat} {T : TypeId} {cs : Array Value} (h : Bk w g T cs) : g < w.heap.size := by
  rcases Nat.lt_or_ge g w.heap.size with hlt | hge
  · exact hlt
  · unfold Bk at h; rw [Array.getElem?_eq_none hge] at h; cases h
theorem bk_new (w : World) (T : TypeId) (cs : Array Value) : Bk (w.alloc (.cells cs T)) w.heap.size T cs := by
  show (w.heap.push _)[w.heap.size]? = _
  simp
theorem bk_new' {w : World} {g : Nat} (T : TypeId) (cs : Array Value) (h : g = w.heap.size) : Bk (w.alloc (.cells cs T)) g T cs := h ▸ bk_new w T cs
theorem bk_old {w : World} {g : Nat} {T : TypeId} {cs : Array Value} (o : Obj) (h : Bk w g T cs) : Bk (w.alloc o) g T cs := (Below.heap_alloc w o g h.lt).trans h
theorem bk_drew {w : World} {g : Nat} {T : TypeId} {cs : Array Value} (h : Bk w g T cs) : Bk w.drew g T cs := h
theorem bk_keep {W w : World} {g : Nat} {T : TypeId} {cs : Array Value} (hb : Below W.heap.size W w) (h : Bk W g T cs) : Bk w g T cs := (hb.block g h.lt).trans h
theorem bk_far {w : World} {g : Nat} {T : TypeId} {cs : Array Value} {p : Addr} (v : Value) (hp : g ≠ p.block) (h : Bk w g T cs) : Bk (w.setCell p v) g T cs := (Below.heap_setCell w p v g hp).trans h
theorem bk_set {w : World} {g : Nat} {T : TypeId} {cs : Array Value} (i : Nat) (v : Value) (h : Bk w g T cs) : Bk (w.setCell ⟨g, i, none⟩ v) g T (cs.setIfInBounds i v) := by
  unfold Bk at h ⊢
  simp [World.setCell, Array.getElem?_modify, h]
theorem bk_far' {w : World} {g b i : Nat} {T : TypeId} {cs : Array Value} (v : Value) (hp : g ≠ b) (h : Bk w g T cs) : Bk (w.setCell ⟨b, i, none⟩ v) g T cs := bk_far v hp h
theorem bk_set' {w : World} {g i : Nat} {T : TypeId} {cs cs' : Array Value} {v : Value} (h : Bk w g T cs) (e : cs' = cs.setIfInBounds i v) : Bk (w.setCell ⟨g, i, none⟩ v) g T cs' := e ▸ bk_set i v h
theorem Bk.cell {w : World} {g : Nat} {T : TypeId} {cs : Array Value} (h : Bk w g T cs) (i : Nat) : w.cell? ⟨g, i, none⟩ = cs[i]? := cell_of_row w g i cs T (0, 0) h
theorem Bk.frozen {w : World} {g : Nat} {T : TypeId} {cs : Array Value} (h : Bk w g T cs) (i : Nat) : w.frozen? ⟨g, i, none⟩ = false := by
  unfold Bk at h
  simp [World.frozen?, h]
theorem bk_ne {w : World} {g g' : Nat} {T T' : TypeId} {cs cs' : Array Value} (h : Bk w g T cs) (h' : Bk w g' T' cs') (hne : T ≠ T') : g ≠ g' := by
  rintro rfl
  unfold Bk at h h'
  rw [h] at h'
  injection h' with h'
  injection h' with _ ht
  exact hne ht
/-- A block that was not there in an older world has another number than one that was. -/
theorem bk_new_ne {w : World} {g : Nat} {T : TypeId} {cs : Array Value} (h : Bk w g T cs) : w.heap.size ≠ g := by have := h.lt; omega
theorem cells1 {w : World} {g : Nat} {T : TypeId} {v0 : Value} (h : Bk w g T #[v0]) : w.cell? ⟨g, 0, none⟩ = some v0 := h.cell 0
theorem cells3 {w : World} {g : Nat} {T : TypeId} {v0 v1 v2 : Value} (h : Bk w g T #[v0, v1, v2]) :
    w.cell? ⟨g, 0, none⟩ = some v0 ∧ w.cell? ⟨g, 1, none⟩ = some v1 ∧ w.cell? ⟨g, 2, none⟩ = some v2 := ⟨h.cell 0, h.cell 1, h.cell 2⟩
theorem cells5 {w : World} {g : Nat} {T : TypeId} {v0 v1 v2 v3 v4 : Value} (h : Bk w g T #[v0, v1, v2, v3, v4]) :
    w.cell? ⟨g, 0, none⟩ = some v0 ∧ w.cell? ⟨g, 1, none⟩ = some v1 ∧ w.cell? ⟨g, 2, none⟩ = some v2 ∧ w.cell? ⟨g, 3, none⟩ = some v3 ∧ w.cell? ⟨g, 4, none⟩ = some v4 :=
  ⟨h.cell 0, h.cell 1, h.cell 2, h.cell 3, h.cell 4⟩
theorem cells7 {w : World} {g : Nat} {T : TypeId} {v0 v1 v2 v3 v4 v5 v6 : Value} (h : Bk w g T #[v0, v1, v2, v3, v4, v5, v6]) :
    w.cell? ⟨g, 0, none⟩ = some v0 ∧ w.cell? ⟨g, 1, none⟩ = some v1 ∧ w.cell? ⟨g, 2, none⟩ = some v2 ∧ w.cell? ⟨g, 3, none⟩ = some v3 ∧ w.cell? ⟨g, 4, none⟩ = some v4 ∧ w.cell? ⟨g, 5, none⟩ = some v5 ∧ w.cell? ⟨g, 6, none⟩ = some v6 :=
  ⟨h.cell 0, h.cell 1, h.cell 2, h.cell 3, h.cell 4, h.cell 5, h.cell 6⟩
theorem ext_trans {a b c : World} (h : Below a.heap.size a b) (k : Below b.heap.size b c) : Below a.heap.size a c := h.trans (k.mono h.size)
theorem ext_alloc {a b : World} (h : Below a.heap.size a b) (o : Obj) : Below a.heap.size a (b.alloc o) := h.alloc h.size o
theorem ext_drew {a b : World} (h : Below a.heap.size a b) : Below a.heap.size a b.drew := h.drew
theorem ext_drewN {a b : World} (h : Below a.heap.size a b) (n : Nat) : Below a.heap.size a (b.drewN n) := h.trans (Below.mono ⟨rfl, rfl, rfl, Nat.le_refl _, fun _ _ => rfl⟩ (Nat.le_refl _))
theorem ext_set {a b : World} (h : Below a.heap.size a b) {p : Addr} (hp : a.heap.size ≤ p.block) (u : Value) : Below a.heap.size a (b.setCell p u) := h.setCell hp u
/-- The worlds that meet S. -/
structure Wd (S : World → Prop) where
  val : World
  ok : S val
/-- A region that draws its order, whose operations read cells that S names and whose callees keep S: one walk in the order of the text. -/
theorem region_below {P : Program} {S : World → Prop} {id : Nat} {Q : Exit → Act → World → Prop} {a : Act} {w : World} {l : List Oper} (hS : S w) (hd : ∀ w, S w → S w.drew) (hm : P.follows .mixedOrders = true) (hB : Region.lexB .any l.toArray = true)
    (h : Nonempty (Wd S) → wpQuiet P l.toArray (fun W => ∃ x : Wd S, W = x.val) (fun a' => ∀ w', S w' → Q .normal a' w') l a) : (Code.region id l.toArray true).wp P Q a w := by
  refine wp_region_quiet (C := fun W => ∃ x : Wd S, W = x.val) hm hB ⟨⟨_, hd _ hS⟩, rfl⟩ ?_
  have e : (fun a' => ∀ w', S w' → Q .normal a' w') = (fun a' => ∀ w', (∃ x : Wd S, w' = x.val) → Q .normal a' w') := by
    funext a'
    exact propext ⟨fun h w' ⟨x, hx⟩ => h w' (hx ▸ x.ok), fun h w' hw => h w' ⟨⟨w', hw⟩, rfl⟩⟩
  have h1 := h ⟨⟨w, hS⟩⟩
  rw [e] at h1
  simpa using h1
theorem wd_call {P : Program} {S : World → Prop} {f : FuncId} {args : Array Value} {v : Value} {x : Wd S} (hk : ∀ W W', S W → Below W.heap.size W W' → S W')
    (h : Calls P f args x.val fun e w' => e = .returned v ∧ Below x.val.heap.size x.val w') : Calls P f args x.val fun e w'' => e = .returned v ∧ ∃ y : Wd S, w'' = y.val :=
  h.mono fun _ _ ⟨he, hb⟩ => ⟨he, ⟨_, hk _ _ x.ok hb⟩, rfl⟩
theorem wd_same {P : Program} {S : World → Prop} {f : FuncId} {args : Array Value} {v : Value} {x : Wd S}
    (h : Calls P f args x.val fun e w' => e = .returned v ∧ x.val = w') : Calls P f args x.val fun e w'' => e = .returned v ∧ ∃ y : Wd S, w'' = y.val :=
  h.mono fun _ _ ⟨he, hb⟩ => ⟨he, x, hb.symm⟩
end Go.Proofs.Ytcdcmbehnccicaa
