import Derived.Below
import Derived.BigQuiet
import Derived.Deep.Draws
import Derived.Deep.Light
import Derived.Deep.Slices
import Derived.Laws.CopyOwn
import Derived.Laws.IdiomCopy
import Derived.Laws.OwnMore
import Derived.Laws.Rows
import Derived.Maps.AppendAt
import Derived.OwnWalk
import Derived.Test.YtpjhjefjbkjhkaaGreatDoorPk00
import Derived.WalkKit
set_option maxHeartbeats 40000000
set_option maxRecDepth 100000
set_option linter.unusedVariables false
set_option linter.unusedSimpArgs false
namespace Go.Proofs.YtpjhjefjbkjhkaaGreatDoor
open Go.RowKit
def Bk (w : World) (g : Nat) (T : TypeId) (cs : Array Value) : Prop := w.heap[g]? = some (.cells cs T (0, 0))
theorem Bk.lt {w : World} {g : Nat} {T : TypeId} {cs : Array Value} (h : Bk w g T cs) : g < w.heap.size := by
 rcases Nat.lt_or_ge g w.heap.size with hlt | hge
 ·exact hlt
 ·unfold Bk at h; rw [Array.getElem?_eq_none hge] at h; cases h
theorem bk_new (w : World) (T : TypeId) (cs : Array Value) : Bk (w.alloc (.cells cs T)) w.heap.size T cs := by
 show (w.heap.push _)[w.heap.size]? = _
 simp
theorem bk_new' {w : World} {g : Nat} (T : TypeId) (cs : Array Value) (h : g = w.heap.size) : Bk (w.alloc (.cells cs T)) g T cs := h ▸ bk_new w T cs
theorem bk_old {w : World} {g : Nat} {T : TypeId} {cs : Array Value} (o : Obj) (h : Bk w g T cs) : Bk (w.alloc o) g T cs := (Below.heap_alloc w o g h.lt).trans h
theorem bk_drew {w : World} {g : Nat} {T : TypeId} {cs : Array Value} (h : Bk w g T cs) : Bk w.drew g T cs := h
theorem bk_keep {W w : World} {g : Nat} {T : TypeId} {cs : Array Value} (hb : Below W.heap.size W w) (h : Bk W g T cs) : Bk w g T cs := (hb.block g h.lt).trans h
theorem bk_far {w : World} {g : Nat} {T : TypeId} {cs : Array Value} {p : Addr} (v : Value) (hp : g ≠ p.block) (h : Bk w g T cs) : Bk (w.setCell p v) g T cs := (Below.heap_setCell w p v g hp).trans h
theorem bk_set {w : World} {g : Nat} {T : TypeId} {cs : Array Value} (i : Nat) (v : Value) (h : Bk w g T cs) : Bk (w.setCell ⟨g, i, none⟩ v) g T (cs.setIfInBounds i v) := by
 unfold Bk at h ⊢
 simp [World.setCell, Array.getElem?_modify, h]
theorem bk_far' {w : World} {g b i : Nat} {T : TypeId} {cs : Array Value} (v : Value) (hp : g ≠ b) (h : Bk w g T cs) : Bk (w.setCell ⟨b, i, none⟩ v) g T cs := bk_far v hp h
theorem bk_set' {w : World} {g i : Nat} {T : TypeId} {cs cs' : Array Value} {v : Value} (h : Bk w g T cs) (e : cs' = cs.setIfInBounds i v) : Bk (w.setCell ⟨g, i, none⟩ v) g T cs' := e ▸ bk_set i v h
theorem Bk.cell {w : World} {g : Nat} {T : TypeId} {cs : Array Value} (h : Bk w g T cs) (i : Nat) : w.cell? ⟨g, i, none⟩ = cs[i]? := cell_of_row w g i cs T (0, 0) h
theorem Bk.frozen {w : World} {g : Nat} {T : TypeId} {cs : Array Value} (h : Bk w g T cs) (i : Nat) : w.frozen? ⟨g, i, none⟩ = false := by
 unfold Bk at h
 simp [World.frozen?, h]
theorem bk_ne {w : World} {g g' : Nat} {T T' : TypeId} {cs cs' : Array Value} (h : Bk w g T cs) (h' : Bk w g' T' cs') (hne : T ≠ T') : g ≠ g' := by
 rintro rfl
 unfold Bk at h h'
 rw [h] at h'
 injection h' with h'
 injection h' with _ ht
 exact hne ht
theorem cells3 {w : World} {g : Nat} {T : TypeId} {v0 v1 v2 : Value} (h : Bk w g T #[v0, v1, v2]) :
  w.cell? ⟨g, 0, none⟩ = some v0 ∧ w.cell? ⟨g, 1, none⟩ = some v1 ∧ w.cell? ⟨g, 2, none⟩ = some v2 := ⟨h.cell 0, h.cell 1, h.cell 2⟩
theorem cells5 {w : World} {g : Nat} {T : TypeId} {v0 v1 v2 v3 v4 : Value} (h : Bk w g T #[v0, v1, v2, v3, v4]) :
  w.cell? ⟨g, 0, none⟩ = some v0 ∧ w.cell? ⟨g, 1, none⟩ = some v1 ∧ w.cell? ⟨g, 2, none⟩ = some v2 ∧ w.cell? ⟨g, 3, none⟩ = some v3 ∧ w.cell? ⟨g, 4, none⟩ = some v4 :=
 ⟨h.cell 0, h.cell 1, h.cell 2, h.cell 3, h.cell 4⟩
theorem cells7 {w : World} {g : Nat} {T : TypeId} {v0 v1 v2 v3 v4 v5 v6 : Value} (h : Bk w g T #[v0, v1, v2, v3, v4, v5, v6]) :
  w.cell? ⟨g, 0, none⟩ = some v0 ∧ w.cell? ⟨g, 1, none⟩ = some v1 ∧ w.cell? ⟨g, 2, none⟩ = some v2 ∧ w.cell? ⟨g, 3, none⟩ = some v3 ∧ w.cell? ⟨g, 4, none⟩ = some v4 ∧ w.cell? ⟨g, 5, none⟩ = some v5 ∧ w.cell? ⟨g, 6, none⟩ = some v6 :=
 ⟨h.cell 0, h.cell 1, h.cell 2, h.cell 3, h.cell 4, h.cell 5, h.cell 6⟩
theorem ext_trans {a b c : World} (h : Below a.heap.size a b) (k : Below b.heap.size b c) : Below a.heap.size a c := h.trans (k.mono h.size)
theorem ext_alloc {a b : World} (h : Below a.heap.size a b) (o : Obj) : Below a.heap.size a (b.alloc o) := h.alloc h.size o
theorem ext_drew {a b : World} (h : Below a.heap.size a b) : Below a.heap.size a b.drew := h.drew
theorem ext_drewN {a b : World} (h : Below a.heap.size a b) (n : Nat) : Below a.heap.size a (b.drewN n) := h.trans (Below.mono ⟨rfl, rfl, rfl, Nat.le_refl _, fun _ _ => rfl⟩ (Nat.le_refl _))
theorem ext_set {a b : World} (h : Below a.heap.size a b) {p : Addr} (hp : a.heap.size ≤ p.block) (u : Value) : Below a.heap.size a (b.setCell p u) := h.setCell hp u
structure Wd (S : World → Prop) where
 val : World
 ok : S val
end Go.Proofs.YtpjhjefjbkjhkaaGreatDoor
namespace Go.Proofs.YtpjhjefjbkjhkaaGreatDoor
open Go.RowKit
abbrev Later (w0 : World) := Wd (fun W => Below w0.heap.size w0 W)
theorem later_call {w0 : World} {W w' : World} (h : Below w0.heap.size w0 W) (hb : Below W.heap.size W w') : ∃ y : Later w0, w' = y.val := ⟨⟨w', ext_trans h hb⟩, rfl⟩
theorem Later.bk {w0 : World} (x : Later w0) {g : Nat} {T : TypeId} {cs : Array Value} (h : Bk w0 g T cs) : Bk x.val g T cs := bk_keep x.ok h
theorem Later.lt {w0 : World} (x : Later w0) {g : Nat} (h : g < w0.heap.size) : g < x.val.heap.size := Nat.lt_of_lt_of_le h x.ok.size
theorem later_self {w0 W : World} (h : W = w0) : ∃ x : Later w0, W = x.val := ⟨⟨W, by subst h; exact Below.refl _ _⟩, rfl⟩
end Go.Proofs.YtpjhjefjbkjhkaaGreatDoor
namespace Go.Proofs.YtpjhjefjbkjhkaaGreatDoor
open Go.RowKit
class El (α : Type) where
 k : Nat
 cl : α → List Value
 z : α
 len : ∀ x, (cl x).length = k
 one : ∀ x, ∀ u ∈ cl x, u.oneCell' = true
 pos : 0 < k
open El (cl)
section
variable {α : Type} [El α]
def cls (xs : List α) : List Value := xs.flatMap cl
theorem cls_cons (x : α) (xs : List α) : cls (x :: xs) = cl x ++ cls xs := by simp [cls]
theorem cls_append (xs ys : List α) : cls (xs ++ ys) = cls xs ++ cls ys := by simp [cls]
theorem cls_one (x : α) : cls [x] = cl x := by simp [cls]
theorem cls_length (xs : List α) : (cls xs).length = xs.length * El.k α := by
 induction xs with
 | nil => simp [cls]
 | cons x xs ih => rw [cls_cons, List.length_append, ih, El.len, List.length_cons, Nat.add_mul]; omega
theorem cls_oneCell (xs : List α) : ∀ u ∈ cls xs, u.oneCell' = true := by
 intro u hu
 obtain ⟨x, hx, h⟩ := List.mem_flatMap.1 hu
 exact El.one x u h
theorem cls_at (xs : List α) (i : Nat) (hi : i < xs.length) (j : Nat) (hj : j < El.k α) : (cls xs)[i * El.k α + j]? = (cl (xs[i]))[j]? := by
 induction xs generalizing i with
 | nil => simp at hi
 | cons x xs ih =>
  rw [cls_cons]
  cases i with
  | zero => rw [Nat.zero_mul, Nat.zero_add, List.getElem?_append_left (by rw [El.len]; exact hj)]; rfl
  | succ i =>
   have h1 : (i + 1) * El.k α + j = (cl x).length + (i * El.k α + j) := by rw [El.len, Nat.add_mul]; omega
   rw [h1, List.getElem?_append_right (by omega), Nat.add_sub_cancel_left, ih i (by simpa using hi)]
   rfl
theorem cls_take (xs : List α) (i : Nat) : cls (xs.take i) = (cls xs).take (i * El.k α) := by
 induction xs generalizing i with
 | nil => simp [cls]
 | cons x xs ih =>
  cases i with
  | zero => simp [cls]
  | succ i =>
   rw [List.take_succ_cons, cls_cons, cls_cons, ih, List.take_append, El.len]
   have h : (i + 1) * El.k α - El.k α = i * El.k α := by rw [Nat.add_mul]; omega
   rw [h, List.take_of_length_le (l := cl x)]
   rw [El.len, Nat.add_mul]; omega
theorem cls_drop (xs : List α) (i : Nat) : cls (xs.drop i) = (cls xs).drop (i * El.k α) := by
 induction xs generalizing i with
 | nil => simp [cls]
 | cons x xs ih =>
  cases i with
  | zero => simp
  | succ i =>
   rw [List.drop_succ_cons, cls_cons, ih, List.drop_append, El.len]
   have h : (i + 1) * El.k α - El.k α = i * El.k α := by rw [Nat.add_mul]; omega
   rw [h, List.drop_of_length_le (l := cl x), List.nil_append]
   rw [El.len, Nat.add_mul]; omega
theorem cls_set (xs : List α) (i : Nat) (hi : i < xs.length) (x : α) : cls (xs.set i x) = (cls xs).take (i * El.k α) ++ cl x ++ (cls xs).drop ((i + 1) * El.k α) := by
 rw [List.set_eq_take_append_cons_drop, if_pos hi, cls_append, cls_cons, cls_take, cls_drop, List.append_assoc]
theorem el_block (a : Addr) (i : Nat) : (a.add i).block = a.block := by unfold Addr.add; split <;> rfl
structure Sl (w : World) (ao : Option Addr) (n : Nat) (xs : List α) : Prop where
 len : xs.length = n
 max : n ≤ maxLen
 row : 0 < n → ∃ a, ao = some a ∧ a.block < w.heap.size ∧ ∀ j u, (cls xs)[j]? = some u → w.cell? (a.add j) = some u
variable {w w' : World} {ao : Option Addr} {n : Nat} {xs : List α}
theorem Sl.at {i : Nat} (h : Sl w ao n xs) (hi : i < n) : ∃ a x, ao = some a ∧ a.block < w.heap.size ∧ xs[i]? = some x ∧ ∀ j u, (cl x)[j]? = some u → w.cell? (a.add (i * El.k α + j)) = some u := by
 obtain ⟨a, e, hb, hc⟩ := h.row (by omega)
 have hl : i < xs.length := by have := h.len; omega
 refine ⟨a, xs[i], e, hb, List.getElem?_eq_getElem hl, fun j u hu => hc _ u ?_⟩
 have hj : j < El.k α := by
  rw [← El.len (xs[i])]
  exact (List.getElem?_eq_some_iff.1 hu).1
 rw [cls_at xs i hl j hj]
 exact hu
theorem Sl.keep (h : Sl w ao n xs) (hs : w.heap.size ≤ w'.heap.size) (hk : ∀ a, ao = some a → w'.heap[a.block]? = w.heap[a.block]?) : Sl w' ao n xs :=
 ⟨h.len, h.max, fun hn => by
  obtain ⟨a, e, hb, hc⟩ := h.row hn
  refine ⟨a, e, Nat.lt_of_lt_of_le hb hs, fun j u hu => ?_⟩
  exact (World.cell?_of_block (w := w) (by rw [el_block]; exact hk a e)).trans (hc j u hu)⟩
theorem Sl.below (h : Sl w ao n xs) (hb : Below w.heap.size w w') : Sl w' ao n xs :=
 ⟨h.len, h.max, fun hn => by
  obtain ⟨a, e, h1, hc⟩ := h.row hn
  refine ⟨a, e, Nat.lt_of_lt_of_le h1 hb.size, fun j u hu => ?_⟩
  rw [hb.cell (p := a.add j) (by rw [el_block]; exact h1)]
  exact hc j u hu⟩
theorem Sl.drew (h : Sl w ao n xs) : Sl w.drew ao n xs := ⟨h.len, h.max, h.row⟩
theorem Sl.drewN (h : Sl w ao n xs) (k : Nat) : Sl (w.drewN k) ao n xs := ⟨h.len, h.max, h.row⟩
theorem Sl.alloc (h : Sl w ao n xs) (o : Obj) : Sl (w.alloc o) ao n xs := h.below ((Below.refl _ _).alloc (Nat.le_refl _) o)
theorem Sl.grown (h : Sl w ao n xs) {row : Option Nat} (hg : w.grownBy w' row) (hr : ∀ a, ao = some a → a.block < w.heap.size → some a.block ≠ row) : Sl w' ao n xs :=
 ⟨h.len, h.max, fun hn => by
  obtain ⟨a, e, h1, hc⟩ := h.row hn
  refine ⟨a, e, Nat.lt_of_lt_of_le h1 hg.size, fun j u hu => ?_⟩
  exact (World.cell?_of_block (w := w) (by rw [el_block]; exact hg.block _ h1 (hr a e h1))).trans (hc j u hu)⟩
theorem Sl.nil (w : World) (ao : Option Addr) : Sl w ao 0 ([] : List α) := ⟨rfl, by unfold maxLen; omega, fun h => absurd h (by omega)⟩
def Own (w : World) (base : Nat) (T : TypeId) (v : Value) (xs : List α) : Prop := w.ownsRow base T (El.k α) v xs.length (cls xs)
variable {base : Nat} {T : TypeId} {v : Value}
theorem Own.form (h : Own w base T v xs) : (v = .slice none 0 0 ∧ xs = []) ∨ ∃ g cap, v = .slice (some ⟨g, 0, none⟩) xs.length cap ∧ base ≤ g ∧ g < w.heap.size ∧ xs.length ≤ cap ∧ cap ≤ maxLen := by
 rcases h.2 with ⟨h1, h2⟩ | ⟨g, cap, cur, h1, h2, h3, h4, h5, _⟩
 ·exact .inl ⟨h1, List.eq_nil_of_length_eq_zero h2⟩
 ·exact .inr ⟨g, cap, h1, h2, (Array.getElem?_eq_some_iff.1 h3).1, h4, h5⟩
theorem Own.sl (h : Own w base T v xs) : ∃ ao cap, v = .slice ao xs.length cap ∧ Sl w ao xs.length xs ∧ (∀ a, ao = some a → base ≤ a.block ∧ a.block < w.heap.size) := by
 rcases h.form with ⟨rfl, rfl⟩ | ⟨g, cap, rfl, h2, h3, h4, h5⟩
 ·exact ⟨none, 0, rfl, Sl.nil _ _, fun a h => by cases h⟩
 ·refine ⟨some ⟨g, 0, none⟩, cap, rfl, ⟨rfl, by omega, fun _ => ⟨_, rfl, h3, h.cells rfl⟩⟩, fun a e => ?_⟩
  injection e with e
  subst e
  exact ⟨h2, h3⟩
theorem Own.kept (h : Own w base T v xs) {row : Option Nat} (hg : w.grownBy w' row) (hne : v.ownBlock = none ∨ v.ownBlock ≠ row) : Own w' base T v xs := World.ownsRow.kept h hg hne
theorem Own.below (h : Own w base T v xs) (hb : Below w.heap.size w w') : Own w' base T v xs := by
 refine World.ownsRow.kept (row := none) h ⟨hb.os, hb.tape, hb.output, hb.size, fun k hk _ => hb.block k hk⟩ ?_
 cases v.ownBlock <;> simp
theorem Own.alloc (h : Own w base T v xs) (o : Obj) : Own (w.alloc o) base T v xs := World.ownsRow.alloc h o
theorem Own.drew (h : Own w base T v xs) : Own w.drew base T v xs := h
theorem Own.nil (w : World) (base : Nat) (T : TypeId) : Own w base T (.slice none 0 0) ([] : List α) := World.ownsRow_nil w base T _
theorem Own.frozen (h : Own w base T v xs) {g : Nat} (hg : v.ownBlock = some g) (j : Nat) : w.frozen? ⟨g, j, none⟩ = false := by
 rcases h.form with ⟨rfl, rfl⟩ | ⟨g', cap, rfl, _⟩
 ·simp [Value.ownBlock] at hg
 ·simp [Value.ownBlock] at hg
  subst hg
  exact World.ownsRow.frozenAt h j
theorem Own.mono {b : Nat} (h : Own w base T v xs) (hb : b ≤ base) : Own w b T v xs := by
 refine ⟨h.1, ?_⟩
 rcases h.2 with hn | ⟨g, cap, cur, h1, h2, h3⟩
 ·exact .inl hn
 ·exact .inr ⟨g, cap, cur, h1, Nat.le_trans hb h2, h3⟩
theorem own_lit (w : World) (T : TypeId) (base : Nat) (hb : base ≤ w.heap.size) (cs : Array Value) (n : Nat) (hn : xs.length = n) (hm : n ≤ maxLen) (hc : cs.toList = cls xs) :
  Own (w.alloc (.cells cs T)) base T (.slice (some ⟨w.heap.size, 0, none⟩) n n) xs := by
 subst hn
 unfold Own
 rw [← hc]
 exact World.ownsRow_lit w cs _ hb hm (by rw [← Array.length_toList, hc, cls_length])
theorem run_append_sl {P : Program} (w : World) (base : Nat) (t ty e : TypeId) (i : TypeInfo) (z : Value) (bytes : Nat) (ht : P.underlying t = some (.slice e)) (hi : P.info? e = some i) (hz : i.zero = some z)
  (hsize : i.size = El.k α) (hby : i.bytes = bytes) (hzs : z.cells.size = El.k α)
  (v : Value) (xs : List α) (hown : Own w base e v xs) (ao : Option Addr) (m c : Nat) (ys : List α) (hr : Sl w ao m ys)
  (h63 : xs.length + m ≤ maxLen) (hbytes : (xs.length + m) * bytes ≤ 140737488355328) (hbase : base ≤ w.heap.size) :
  ∃ v' w', (Builtin.append_ #[t, t] ty #[v, .slice ao m c]).run P w = .ok v' w' ∧ Own w' base e v' (xs ++ ys) ∧ w.grownBy w' v.ownBlock ∧ (v'.ownBlock = v.ownBlock ∨ v'.ownBlock = some w.heap.size) := by
 have hl := hr.len
 rcases Nat.eq_zero_or_pos m with h0 | h0
 ·subst h0
  have hn : ys = [] := List.eq_nil_of_length_eq_zero hl
  subst hn
  rcases ao with _ | ad
  ·refine ⟨v, w, ?_, by simpa using hown, World.grownBy.refl w _, .inl rfl⟩
   rcases hown.form with ⟨rfl, rfl⟩ | ⟨g, cap, rfl, _, _, hnc, _⟩
   ·simp [Builtin.append_, run_underlying ht, sizeOf, typeInfo, hi, Builtin.lenOf, Builtin.firstCells]
   ·simp [Builtin.append_, run_underlying ht, sizeOf, typeInfo, hi, Builtin.lenOf, Builtin.firstCells, hnc, storeCells]
  ·obtain ⟨v', w', hrun, h2, h3, _, h5⟩ := run_append_own_at (P := P) w base t ty e i z (El.k α) bytes ht hi hz hsize hby hzs El.pos v xs.length (cls xs) hown ad 0 c [] (by simp) (by simp) (by simp) h63 hbytes hbase
   refine ⟨v', w', hrun, ?_, h3, h5⟩
   unfold Own
   rw [cls_append, List.length_append]
   exact h2
 ·obtain ⟨ad, rfl, hb, hc⟩ := hr.row h0
  obtain ⟨v', w', hrun, h2, h3, _, h5⟩ := run_append_own_at (P := P) w base t ty e i z (El.k α) bytes ht hi hz hsize hby hzs El.pos v xs.length (cls xs) hown ad m c (cls ys) (by rw [cls_length, hl]) hc (cls_oneCell ys) h63 hbytes hbase
  refine ⟨v', w', hrun, ?_, h3, h5⟩
  unfold Own
  rw [cls_append, List.length_append, hl]
  exact h2
theorem wp_append_sl {P : Program} {w : World} {o : Oper} {a : Act} {K : Act → World → Prop} {Q : Exit → Act → World → Prop} (s x : Operand) (t : TypeId)
  (ho : o.op = .call { callee := .builtin .append, args := #[s, x], argTypes := #[t, t] })
  (base : Nat) (e : TypeId) (i : TypeInfo) (z : Value) (bytes : Nat) (ht : P.underlying t = some (.slice e)) (hi : P.info? e = some i) (hz : i.zero = some z)
  (hsize : i.size = El.k α) (hby : i.bytes = bytes) (hzs : z.cells.size = El.k α)
  (v : Value) (xs : List α) (hs : a.eval s = v) (hown : Own w base e v xs)
  (ao : Option Addr) (m c : Nat) (ys : List α) (hx : a.eval x = .slice ao m c) (hr : Sl w ao m ys)
  (h63 : xs.length + m ≤ maxLen) (hbytes : (xs.length + m) * bytes ≤ 140737488355328) (hbase : base ≤ w.heap.size)
  (h : ∀ v' w', Own w' base e v' (xs ++ ys) → w.grownBy w' v.ownBlock → (v'.ownBlock = v.ownBlock ∨ v'.ownBlock = some w.heap.size) → K (a.put o.dst v') w') : o.wp P a w K Q := by
 obtain ⟨v', w', hrun, h2, h3, h4⟩ := run_append_sl (P := P) w base t o.type e i z bytes ht hi hz hsize hby hzs v xs hown ao m c ys hr h63 hbytes hbase
 unfold Oper.wp execOp
 simp only [ho, resolve, invoke, builtin, Sem.run_bind, Sem.run_pure, Result.andThen_ok, List.map_toArray, List.map_cons, List.map_nil, hs, hx, hrun]
 exact h v' w' h2 h3 h4
theorem wpList_append_sl {P : Program} {w : World} {ops : Array Oper} {rest : List Oper} {o : Oper} {a : Act} {Q : Exit → Act → World → Prop} (hgd : o.guard = none) (s x : Operand) (t : TypeId)
  (ho : o.op = .call { callee := .builtin .append, args := #[s, x], argTypes := #[t, t] })
  (base : Nat) (e : TypeId) (i : TypeInfo) (z : Value) (bytes : Nat) (ht : P.underlying t = some (.slice e)) (hi : P.info? e = some i) (hz : i.zero = some z)
  (hsize : i.size = El.k α) (hby : i.bytes = bytes) (hzs : z.cells.size = El.k α)
  (v : Value) (xs : List α) (hs : a.eval s = v) (hown : Own w base e v xs)
  (ao : Option Addr) (m c : Nat) (ys : List α) (hx : a.eval x = .slice ao m c) (hr : Sl w ao m ys)
  (h63 : xs.length + m ≤ maxLen) (hbytes : (xs.length + m) * bytes ≤ 140737488355328) (hbase : base ≤ w.heap.size)
  (h : ∀ v' w', Own w' base e v' (xs ++ ys) → w.grownBy w' v.ownBlock → (v'.ownBlock = v.ownBlock ∨ v'.ownBlock = some w.heap.size) → wpList P ops Q rest (a.put o.dst v') w') : wpList P ops Q (o :: rest) a w :=
 wpList_plain hgd fun _ hK => wp_append_sl s x t ho base e i z bytes ht hi hz hsize hby hzs v xs hs hown ao m c ys hx hr h63 hbytes hbase fun v' w' h2 h3 h4 => hK _ _ (h v' w' h2 h3 h4)
def setL (l : List Value) : Nat → List Value → List Value
 | _, [] => l
 | i, u :: us => setL (l.set i u) (i + 1) us
theorem setL_eq : ∀ (us l : List Value) (i : Nat), i + us.length ≤ l.length → setL l i us = l.take i ++ us ++ l.drop (i + us.length)
 | [], l, i, _ => by simp [setL]
 | u :: us, l, i, h => by
  simp only [List.length_cons] at h
  have h1 : i < l.length := by omega
  rw [setL, setL_eq us (l.set i u) (i + 1) (by rw [List.length_set]; omega)]
  have e1 : (l.set i u).take (i + 1) = l.take i ++ [u] := by
   rw [List.take_set, List.take_succ_eq_append_getElem h1, List.set_append_right _ _ (by rw [List.length_take]; omega), List.length_take, Nat.min_eq_left (by omega)]
   simp
  have e2 : (l.set i u).drop (i + 1 + us.length) = l.drop (i + (us.length + 1)) := by
   rw [List.drop_set_of_lt (by omega)]
   congr 1
   omega
  rw [e1, e2]
  simp
theorem row_stored {w : World} {base : Nat} {e : TypeId} {size g n cap : Nat} : ∀ (us : List Value) (w : World) (xs : List Value) (i : Nat), w.ownsRow base e size (.slice (some ⟨g, 0, none⟩) n cap) n xs →
  (w.setCells g i us).ownsRow base e size (.slice (some ⟨g, 0, none⟩) n cap) n (setL xs i us) ∧ w.grownBy (w.setCells g i us) (some g)
 | [], w, xs, i, h => ⟨h, World.grownBy.refl w _⟩
 | u :: us, w, xs, i, h => by
  obtain ⟨h1, h2⟩ := h.stored i u
  obtain ⟨h3, h4⟩ := row_stored (w := w) us _ _ (i + 1) h1
  exact ⟨h3, h2.trans h4⟩
theorem own_set {g cap i : Nat} (h : Own w base T (.slice (some ⟨g, 0, none⟩) xs.length cap) xs) (hi : i < xs.length) (x : α) :
  Own (w.setCells g (i * El.k α) (cl x)) base T (.slice (some ⟨g, 0, none⟩) xs.length cap) (xs.set i x) ∧ w.grownBy (w.setCells g (i * El.k α) (cl x)) (some g) := by
 obtain ⟨h1, h2⟩ := row_stored (w := w) (cl x) w (cls xs) (i * El.k α) h
 refine ⟨?_, h2⟩
 unfold Own
 rw [List.length_set, cls_set xs i hi x]
 have hl : i * El.k α + (cl x).length ≤ (cls xs).length := by
  rw [cls_length, El.len]
  have := Nat.mul_le_mul_right (El.k α) (show i + 1 ≤ xs.length from hi)
  rw [Nat.add_mul] at this
  omega
 rw [setL_eq _ _ _ hl, El.len] at h1
 rw [Nat.add_mul, Nat.one_mul]
 exact h1
def OwnPost (w : World) (T : TypeId) (xs : List α) (e : Ending) (w' : World) : Prop := ∃ v, e = .returned v ∧ Own w' w.heap.size T v xs ∧ Below w.heap.size w w'
end
end Go.Proofs.YtpjhjefjbkjhkaaGreatDoor
namespace Go.Proofs.YtpjhjefjbkjhkaaGreatDoor
open El (cl)
open Go.RowKit
section
variable {α : Type} [El α]
theorem cls_set_cell : ∀ {xs : List α} {i j : Nat} {x y : α} {u : Value}, xs[i]? = some x → j < El.k α → cl y = (cl x).set j u → (cls xs).set (i * El.k α + j) u = cls (xs.set i y)
 | [], i, j, x, y, u, h, _, _ => by simp at h
 | z :: xs, 0, j, x, y, u, h, hj, hc => by
  simp at h
  subst h
  rw [cls_cons, List.set_cons_zero, cls_cons, Nat.zero_mul, Nat.zero_add, List.set_append_left _ _ (by rw [El.len]; exact hj), hc]
 | z :: xs, i + 1, j, x, y, u, h, hj, hc => by
  rw [cls_cons, List.set_cons_succ, cls_cons]
  have e : (i + 1) * El.k α + j = (cl z).length + (i * El.k α + j) := by rw [El.len, Nat.add_mul]; omega
  rw [e, List.set_append_right _ _ (by omega), Nat.add_sub_cancel_left, cls_set_cell (by simpa using h) hj hc]
variable {w : World} {base : Nat} {T : TypeId} {xs : List α}
theorem own_set_cell {g cap i j : Nat} {x y : α} {u : Value} (h : Own w base T (.slice (some ⟨g, 0, none⟩) xs.length cap) xs) (hx : xs[i]? = some x) (hj : j < El.k α) (hc : cl y = (cl x).set j u) :
  Own (w.setCell ⟨g, i * El.k α + j, none⟩ u) base T (.slice (some ⟨g, 0, none⟩) xs.length cap) (xs.set i y) ∧ w.grownBy (w.setCell ⟨g, i * El.k α + j, none⟩ u) (some g) := by
 obtain ⟨h1, h2⟩ := World.ownsRow.stored h (i * El.k α + j) u
 refine ⟨?_, h2⟩
 rw [cls_set_cell hx hj hc] at h1
 unfold Own
 rw [List.length_set]
 exact h1
theorem Own.some {v : Value} (h : Own w base T v xs) (hn : 0 < xs.length) : ∃ g cap, v = .slice (some ⟨g, 0, none⟩) xs.length cap ∧ base ≤ g ∧ g < w.heap.size ∧ Sl w (some ⟨g, 0, none⟩) xs.length xs ∧ ∀ j, w.frozen? ⟨g, j, none⟩ = false := by
 rcases h.form with ⟨_, rfl⟩ | ⟨g, cap, rfl, h1, h2, h3, h4⟩
 ·simp at hn
 ·obtain ⟨ao, c, e, hs, _⟩ := h.sl
  injection e with e _ _
  subst e
  exact ⟨g, cap, rfl, h1, h2, hs, fun j => h.frozen rfl j⟩
end
def fi {α : Type} (t : α → Bool) (l : List α) : Int := match l.findIdx? t with | some k => (k : Int) | none => -1
end Go.Proofs.YtpjhjefjbkjhkaaGreatDoor
namespace Go.Proofs.YtpjhjefjbkjhkaaGreatDoor
open El (cl)
open Go.RowKit
section
variable {α β : Type} [El α] [El β] {w w' : World} {base base' : Nat} {T T' : TypeId} {v v' : Value} {xs : List α} {ys : List β}
theorem own_obj (h : Own w base T v xs) {k : Nat} (hk : v.ownBlock = some k) : ∃ cur fr, w.heap[k]? = some (.cells cur T fr) := by
 rcases h.2 with ⟨rfl, _⟩ | ⟨g, cap, cur, rfl, _, h3, _⟩
 ·cases hk
 ·injection hk with hk; subst hk; exact ⟨_, _, h3⟩
theorem own_shape (h : Own w base T v xs) : ∃ a N c, v = .slice a N c := by
 obtain ⟨a, c, h, _, _⟩ := h.sl
 exact ⟨_, _, _, h⟩
theorem own_span (h : Own w base T v xs) {k : Nat} (hk : v.ownBlock = some k) : base ≤ k ∧ k < w.heap.size := by
 rcases h.form with ⟨rfl, _⟩ | ⟨g, cap, rfl, h1, h2, _⟩
 ·cases hk
 ·injection hk with hk; subst hk; exact ⟨h1, h2⟩
theorem own_not_bk (h : Own w base T v xs) {k : Nat} {cs : Array Value} (hb : Bk w k T' cs) (hT : T' ≠ T) : v.ownBlock ≠ some k := by
 intro e
 obtain ⟨cur, fr, h1⟩ := own_obj h e
 unfold Bk at hb
 rw [hb] at h1
 injection h1 with h1
 injection h1 with _ h1 _
 exact hT h1
theorem own_apart (h : Own w base T v xs) (h' : Own w base' T' v' ys) (hT : T' ≠ T) : v.ownBlock = none ∨ v.ownBlock ≠ v'.ownBlock := by
 cases e : v.ownBlock with
 | none => exact .inl rfl
 | some k =>
  right
  intro e'
  obtain ⟨c1, f1, h1⟩ := own_obj h e
  obtain ⟨c2, f2, h2⟩ := own_obj h' e'.symm
  rw [h1] at h2
  injection h2 with h2
  injection h2 with _ h2 _
  exact hT h2.symm
theorem own_other (h : Own w base T v xs) (h' : Own w base' T' v' ys) (hT : T' ≠ T) (g : w.grownBy w' v'.ownBlock) : Own w' base T v xs := h.kept g (own_apart h h' hT)
theorem bk_other {k : Nat} {cs : Array Value} (hb : Bk w k T' cs) (h : Own w base T v xs) (hT : T' ≠ T) (g : w.grownBy w' v.ownBlock) : Bk w' k T' cs :=
 (g.block k hb.lt (fun e => own_not_bk h hb hT e.symm)).trans hb
theorem bk_grown {k : Nat} {cs : Array Value} (hb : Bk w k T cs) {row : Option Nat} (g : w.grownBy w' row) (hn : row ≠ some k) : Bk w' k T cs := (g.block k hb.lt (fun e => hn e.symm)).trans hb
theorem grown_setCell (w : World) (g i : Nat) (u : Value) : w.grownBy (w.setCell ⟨g, i, none⟩ u) (some g) :=
 ⟨rfl, rfl, rfl, by simp [World.setCell], fun k _ hk => Below.heap_setCell w _ u k (fun e => hk (by rw [e]))⟩
theorem own_cell (h : Own w base T v xs) {k : Nat} {cs : Array Value} (hb : Bk w k T' cs) (hT : T' ≠ T) (i : Nat) (u : Value) : Own (w.setCell ⟨k, i, none⟩ u) base T v xs :=
 h.kept (grown_setCell w k i u) (.inr (own_not_bk h hb hT))
theorem bk_cell {g k : Nat} {cs : Array Value} (hb : Bk w k T cs) (hn : k ≠ g) (i : Nat) (u : Value) : Bk (w.setCell ⟨g, i, none⟩ u) k T cs := bk_grown hb (grown_setCell w g i u) (fun e => hn (by injection e with e; exact e.symm))
end
theorem lit_sl1 {α : Type} [El α] {w : World} {T : TypeId} (cs : Array Value) (k : α) (hc : cs.toList = cl k) : Sl (w.alloc (.cells cs T)) (some ⟨w.heap.size, 0, none⟩) 1 [k] := by
 have h0 := own_lit (xs := [k]) w T 0 (Nat.zero_le _) cs 1 rfl (by decide) (by rw [hc, cls_one])
 obtain ⟨ao, c, e, h, _⟩ := h0.sl
 injection e with e _ _
 subst e
 exact h
end Go.Proofs.YtpjhjefjbkjhkaaGreatDoor
