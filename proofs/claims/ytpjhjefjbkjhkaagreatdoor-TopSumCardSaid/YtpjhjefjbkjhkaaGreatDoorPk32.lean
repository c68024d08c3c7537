import Derived.Test.YtpjhjefjbkjhkaaGreatDoorPk31
import Derived.Test.YtpjhjefjbkjhkaaGreatDoorPk08
import Derived.Test.YtpjhjefjbkjhkaaGreatDoorPk26
import Derived.Test.YtpjhjefjbkjhkaaGreatDoorPk01
import Derived.Test.YtpjhjefjbkjhkaaGreatDoorPk27
import Derived.BigQuiet
import Derived.Deep.QuietTactic
import Derived.Laws.StructEq
import Derived.Test.YtpjhjefjbkjhkaaGreatDoorPk23
import Derived.Test.YtpjhjefjbkjhkaaGreatDoorRows
import Derived.WalkKit
import Derived.WalkSpells
set_option maxHeartbeats 40000000
set_option maxRecDepth 100000
set_option linter.unusedVariables false
set_option linter.unusedSimpArgs false
namespace Go.Proofs.YtpjhjefjbkjhkaaGreatDoor
open Go.RowKit
def NZ {α : Type} (x : Ex α) : Prop := ∀ k, x = .error k → k ≠ 0
theorem NZ.ok {α : Type} (a : α) : NZ (.ok a : Ex α) := fun k h => by cases h
theorem NZ.err {α : Type} {k : Int} (h : k ≠ 0) : NZ (.error k : Ex α) := fun j e => by injection e with e; rw [← e]; exact h
theorem NZ.bind {α β : Type} {x : Ex α} {f : α → Ex β} (h : NZ x) (hf : ∀ a, NZ (f a)) : NZ (x >>= f) := by
 cases x with
 | error k =>
  have hk := h k rfl
  intro j e
  rw [eb1] at e
  injection e with e
  rw [← e]
  exact hk
 | ok a => exact hf a
theorem NZ.ite {α : Type} {p : Prop} [Decidable p] {x y : Ex α} (h : NZ x) (k : NZ y) : NZ (if p then x else y) := by split; exact h; exact k
theorem NZ.num (m : MV) (r : Int) : NZ (m.num r) := by unfold MV.num; exact NZ.ite (NZ.err (by decide)) (NZ.ok _)
theorem NZ.key (m : MV) (r : Int) : NZ (m.key r) := by unfold MV.key; exact NZ.ite (NZ.ok _) (NZ.err (by decide))
theorem NZ.res {α : Type} (q : α × Int) : NZ (resE q) := by
 rcases res_cases q with ⟨_, e⟩ | ⟨h, e⟩ <;> rw [e]
 ·exact NZ.ok _
 ·exact NZ.err h
theorem NZ.goes (m : MV) (n : Int) : NZ (m.goes n) := by unfold MV.goes; exact NZ.ite (NZ.err (by decide)) (NZ.ok _)
theorem NZ.exec (m : MV) (i : InstV) : NZ (m.exec i) := by
 unfold MV.exec
 refine NZ.ite (NZ.err (by decide)) (NZ.ite (NZ.goes _ _) (NZ.ite (NZ.bind (NZ.num _ _) fun n => NZ.goes _ _) (NZ.ite ?_ (NZ.ite ?_ (NZ.bind ?_ fun _ => NZ.ok _)))))
 ·unfold MV.call
  exact NZ.bind (NZ.key _ _) fun a => NZ.bind (NZ.key _ _) fun b => NZ.ite (NZ.err (by decide)) (NZ.ite (NZ.err (by decide)) (NZ.ite (NZ.err (by decide)) (NZ.ok _)))
 ·unfold MV.back
  split
  ·exact NZ.err (by decide)
  ·exact NZ.ok _
 ·unfold MV.plain
  refine NZ.ite (NZ.ok _) (NZ.ite (NZ.ok _) (NZ.ite ?_ (NZ.ite ?_ (NZ.ite (NZ.ok _) (NZ.ite (NZ.ok _) (NZ.ite ?_ ?_))))))
  ·unfold MV.numbers
   refine NZ.bind (NZ.num _ _) fun b => NZ.bind (NZ.num _ _) fun c => NZ.bind ?_ fun _ => NZ.ok _
   unfold opN divE
   exact NZ.ite (NZ.ok _) (NZ.ite (NZ.ok _) (NZ.ite (NZ.ok _) (NZ.ite (NZ.ok _) (NZ.ite (NZ.err (by decide)) (NZ.ok _)))))
  ·unfold MV.ask
   exact NZ.ite (NZ.ok _) (NZ.bind (NZ.key _ _) fun _ => NZ.ok _)
  ·unfold MV.tell
   exact NZ.bind (NZ.num _ _) fun _ => NZ.ite (NZ.err (by decide)) (NZ.ok _)
  ·unfold MV.byKey
   refine NZ.bind (NZ.key _ _) fun k => NZ.ite (NZ.bind (NZ.res _) fun _ => NZ.ok _) (NZ.ite ?_ (NZ.ite (NZ.bind (NZ.num _ _) fun _ => NZ.bind (NZ.res _) fun _ => NZ.ok _) (NZ.ite (NZ.bind (NZ.num _ _) fun _ => NZ.bind (NZ.res _) fun _ => NZ.ok _)
    (NZ.ite (NZ.bind (NZ.res _) fun _ => NZ.ok _) (NZ.ite (NZ.bind (NZ.key _ _) fun _ => NZ.bind (NZ.res _) fun _ => NZ.ok _) (NZ.bind (NZ.key _ _) fun _ => NZ.bind (NZ.res _) fun _ => NZ.ok _))))))
   intro j
   split
   ·rename_i h; exact fun e => by injection e with e; rw [← e]; exact h
   ·exact fun e => by cases e
theorem NZ.fetch (m : MV) : NZ m.fetch := by
 unfold MV.fetch
 intro j
 simp only
 split
 ·rename_i h; exact fun e => by injection e with e; rw [← e]; exact h
 ·exact NZ.ite (NZ.err (by decide)) (NZ.ite (NZ.ok _) (NZ.err (by decide))) j
theorem err_zero {m : MV} : m.err = 0 ↔ ∃ m', m.one = .ok m' := by
 unfold MV.err
 have h : NZ m.one := by unfold MV.one; exact NZ.bind (NZ.fetch m) fun i => NZ.exec m i
 cases e : m.one with
 | error k => simp [h k e]
 | ok m' => simp
def zeroMV : MV := ⟨zeroR, zeroK, [], [], []⟩
def MV.check (m : MV) : Int := stepCheck m.R m.c m.mem m.stk m.out
end Go.Proofs.YtpjhjefjbkjhkaaGreatDoor
namespace Go.Proofs.YtpjhjefjbkjhkaaGreatDoor
open Go.RowKit
end Go.Proofs.YtpjhjefjbkjhkaaGreatDoor
namespace Go.Proofs.YtpjhjefjbkjhkaaGreatDoor
open Go.RowKit
theorem setRow_alloc (w : World) (T : TypeId) (old cells : Array Value) : (w.alloc (.cells old T)).setRow w.heap.size cells = w.alloc (.cells cells T) := by
 unfold World.setRow
 show World.mk .. = World.mk ..
 congr 1
 apply Array.ext_getElem?
 intro i
 show ((w.heap.push (.cells old T)).modify w.heap.size _)[i]? = (w.heap.push (.cells cells T))[i]?
 rw [Array.getElem?_modify, Array.getElem?_push, Array.getElem?_push]
 by_cases h : i = w.heap.size
 ·subst h; simp
 ·rw [if_neg h, if_neg h, if_neg (fun e => h e.symm)]
theorem wpList_store_fresh {P : Program} {ops : Array Oper} {rest : List Oper} {o : Oper} {a : Act} {w0 : World} {Q : Exit → Act → World → Prop} (hgd : o.guard = none) (ty : TypeId) (x y : Operand) (ho : o.op = .store ty x y)
  (hd : o.dst = none) (cells : Array Value) (t : TypeId) (old : Array Value) (hx : a.eval x = .pointer (some ⟨w0.heap.size, 0, none⟩)) (hy : a.eval y = .agg cells)
  (hi : (P.info? ty).map (·.size) = some cells.size) (hold : old.size = cells.size) (h1 : cells.all (·.oneCell') = true)
  (h : wpList P ops Q rest a (w0.alloc (.cells cells t))) : wpList P ops Q (o :: rest) a (w0.alloc (.cells old t)) :=
 wpList_store_rowTo hgd ty x y ho hd w0.heap.size cells hx hy t old (bk_new _ _ _) hi hold h1 (by rw [setRow_alloc]; exact h)
end Go.Proofs.YtpjhjefjbkjhkaaGreatDoor
namespace Go.Proofs.YtpjhjefjbkjhkaaGreatDoor
open Go.RowKit
end Go.Proofs.YtpjhjefjbkjhkaaGreatDoor
namespace Go.Proofs.YtpjhjefjbkjhkaaGreatDoor
open Go.RowKit
end Go.Proofs.YtpjhjefjbkjhkaaGreatDoor
namespace Go.Proofs.YtpjhjefjbkjhkaaGreatDoor
open Go.RowKit
end Go.Proofs.YtpjhjefjbkjhkaaGreatDoor
namespace Go.Proofs.YtpjhjefjbkjhkaaGreatDoor
open Go.RowKit
end Go.Proofs.YtpjhjefjbkjhkaaGreatDoor
namespace Go.Proofs.YtpjhjefjbkjhkaaGreatDoor
open Go.RowKit
end Go.Proofs.YtpjhjefjbkjhkaaGreatDoor
namespace Go.Proofs.YtpjhjefjbkjhkaaGreatDoor
open El (cl)
open Go Go.RowKit
instance : El HoleV where
 k := 7
 cl x := [.int .i64 x.line, .int .i64 x.at_, .int .i64 x.i.op, .int .i64 x.i.a, .int .i64 x.i.b, .int .i64 x.i.c, .string x.name]
 z := ⟨0, 0, zeroI, ByteArray.empty⟩
 len _ := rfl
 one _ := by intro u hu; simp at hu; rcases hu with rfl | rfl | rfl | rfl | rfl | rfl | rfl <;> rfl
 pos := by decide
instance : Inhabited HoleV := ⟨⟨0, 0, zeroI, ByteArray.empty⟩⟩
theorem add_moreHoleV (a : Addr) (i j : Nat) (hj : 0 < j) : a.add (i + j) = ⟨(a.add i).block, (a.add i).off + j, none⟩ := by
 unfold Addr.add
 rw [if_neg (by omega)]
 by_cases hi : i = 0
 ·subst hi; simp
 ·rw [if_neg hi]; simp [Nat.add_assoc]
theorem sl_HoleV {w : World} {ao : Option Addr} {n : Nat} {ks : List HoleV} (h : Sl w ao n ks) {i : Nat} (hi : i < n) {x : HoleV} (hx : ks[i]? = some x) : ∃ a, ao = some a ∧ (a.add (i * 7)).block < w.heap.size ∧
  w.cell? (a.add (i * 7)) = some (.int .i64 x.line) ∧ w.cell? ⟨(a.add (i * 7)).block, (a.add (i * 7)).off + 1, none⟩ = some (.int .i64 x.at_) ∧ w.cell? ⟨(a.add (i * 7)).block, (a.add (i * 7)).off + 2, none⟩ = some (.int .i64 x.i.op) ∧ w.cell? ⟨(a.add (i * 7)).block, (a.add (i * 7)).off + 3, none⟩ = some (.int .i64 x.i.a) ∧ w.cell? ⟨(a.add (i * 7)).block, (a.add (i * 7)).off + 4, none⟩ = some (.int .i64 x.i.b) ∧ w.cell? ⟨(a.add (i * 7)).block, (a.add (i * 7)).off + 5, none⟩ = some (.int .i64 x.i.c) ∧ w.cell? ⟨(a.add (i * 7)).block, (a.add (i * 7)).off + 6, none⟩ = some (.string x.name) := by
 obtain ⟨a, y, e, hb, hy, hc⟩ := h.at hi
 obtain rfl : y = x := by rw [hx] at hy; injection hy with hy; exact hy.symm
 refine ⟨a, e, by rw [el_block]; exact hb, ?_⟩
 rw [← add_moreHoleV a (i * 7) 1 (by decide), ← add_moreHoleV a (i * 7) 2 (by decide), ← add_moreHoleV a (i * 7) 3 (by decide), ← add_moreHoleV a (i * 7) 4 (by decide), ← add_moreHoleV a (i * 7) 5 (by decide), ← add_moreHoleV a (i * 7) 6 (by decide)]
 exact ⟨hc 0 _ rfl, hc 1 _ rfl, hc 2 _ rfl, hc 3 _ rfl, hc 4 _ rfl, hc 5 _ rfl, hc 6 _ rfl⟩
structure RdSt (g : Nat) (r : RdV) (vc vl vh : Value) (W : World) : Prop where
 b : Bk W g 176 #[vc, vl, vh]
 c : Own W g 3 vc r.code
 l : Own W g 83 vl r.labels
 h : Own W g 179 vh r.holes
section
variable {g : Nat} {r : RdV} {vc vl vh u : Value} {w W W' : World}
theorem RdSt.below (h : RdSt g r vc vl vh W) (hb : Below W.heap.size W W') : RdSt g r vc vl vh W' := ⟨bk_keep hb h.b, h.c.below hb, h.l.below hb, h.h.below hb⟩
theorem RdSt.drew (h : RdSt g r vc vl vh W) : RdSt g r vc vl vh W.drew := h.below (ext_drew (Below.refl _ _))
theorem RdSt.setC {C : List Int} (h : RdSt g r vc vl vh W) (hg : W.grownBy W' vc.ownBlock) (ho : Own W' g 3 u C) : RdSt g ⟨C, r.labels, r.holes⟩ u vl vh (W'.setCell ⟨g, 0, none⟩ u) := by
 have hb := bk_other h.b h.c (by decide) hg
 exact ⟨bk_set' hb rfl, own_cell ho hb (by decide) _ _, own_cell (own_other h.l h.c (by decide) hg) hb (by decide) _ _, own_cell (own_other h.h h.c (by decide) hg) hb (by decide) _ _⟩
theorem RdSt.setL {L : List NamV} (h : RdSt g r vc vl vh W) (hg : W.grownBy W' vl.ownBlock) (ho : Own W' g 83 u L) : RdSt g ⟨r.code, L, r.holes⟩ vc u vh (W'.setCell ⟨g, 1, none⟩ u) := by
 have hb := bk_other h.b h.l (by decide) hg
 exact ⟨bk_set' hb rfl, own_cell (own_other h.c h.l (by decide) hg) hb (by decide) _ _, own_cell ho hb (by decide) _ _, own_cell (own_other h.h h.l (by decide) hg) hb (by decide) _ _⟩
theorem RdSt.setH {H : List HoleV} (h : RdSt g r vc vl vh W) (hg : W.grownBy W' vh.ownBlock) (ho : Own W' g 179 u H) : RdSt g ⟨r.code, r.labels, H⟩ vc vl u (W'.setCell ⟨g, 2, none⟩ u) := by
 have hb := bk_other h.b h.h (by decide) hg
 exact ⟨bk_set' hb rfl, own_cell (own_other h.c h.h (by decide) hg) hb (by decide) _ _, own_cell (own_other h.l h.h (by decide) hg) hb (by decide) _ _, own_cell ho hb (by decide) _ _⟩
theorem RdSt.under {α : Type} [El α] {T : TypeId} {v : Value} {xs : List α} (ho : Own W g T v xs) (hb : Below g w W) (hgs : g ≤ W.heap.size) (hg : W.grownBy W' v.ownBlock) (i : Nat) (x : Value) : Below g w (W'.setCell ⟨g, i, none⟩ x) := by
 have h1 : Below g w W' := hb.grown hg hgs (fun k e => (own_span ho e).1)
 exact h1.grown (grown_setCell W' g i x) (Nat.le_trans hgs hg.size) (fun k e => by injection e with e; omega)
end
def RdPost (g : Nat) (w : World) (r : RdV) (er : Int) (e : Ending) (w' : World) : Prop := e = .returned (.int .i64 er) ∧ (∃ vc vl vh, RdSt g r vc vl vh w') ∧ Below g w w'
theorem find_at {l : List NamV} {s : ByteArray} {k : Nat} {x : NamV} (hx : l[k]? = some x) (hs : x.name = s) (hn : ∀ y ∈ l.take k, y.name ≠ s) : findA l s = x.at_ := by
 obtain ⟨hk, e⟩ := List.getElem?_eq_some_iff.1 hx
 have e0 : l = l.take k ++ x :: l.drop (k + 1) := by rw [← e, ← List.drop_eq_getElem_cons hk, List.take_append_drop]
 have h0 : (l.take k).find? (fun x => decide (x.name = s)) = none := List.find?_eq_none.2 fun y hy => by simpa using hn y hy
 unfold findA
 rw [e0, List.find?_append, h0]
 simp [hs]
theorem find_no {l : List NamV} {s : ByteArray} (hn : ∀ y ∈ l, y.name ≠ s) : findA l s = -1 := by
 unfold findA
 rw [List.find?_eq_none.2 fun y hy => by simpa using hn y hy]
theorem take_no {l : List NamV} {s : ByteArray} {k : Nat} {x : NamV} (hx : l[k]? = some x) (hs : x.name ≠ s) (hn : ∀ y ∈ l.take k, y.name ≠ s) : ∀ y ∈ l.take (k + 1), y.name ≠ s := by
 intro y hy
 rw [List.take_add_one, hx] at hy
 rcases List.mem_append.1 hy with h | h
 ·exact hn y h
 ·simp at h; subst h; exact hs
theorem info_holeL : (Tryz.prog.info? 179).map (fun i => (i.zero, i.size, i.bytes)) = some (some (.agg #[.int .i64 0, .int .i64 0, .int .i64 0, .int .i64 0, .int .i64 0, .int .i64 0, .string ⟨#[]⟩]), 7, 64) := by kernel_rfl
theorem info_labelL : (Tryz.prog.info? 83).map (fun i => (i.zero, i.size, i.bytes)) = some (some (.agg #[.string ⟨#[]⟩, .int .i64 0]), 2, 24) := by kernel_rfl
theorem rfind_any (g : Nat) (r : RdV) (vc vl vh : Value) (s : ByteArray) (w : World) (h : RdSt g r vc vl vh w) :
  Calls Tryz.prog 89 #[.pointer (some ⟨g, 0, none⟩), .string s] w fun e w' => e = .returned (.int .i64 (findA r.labels s)) ∧ Below w.heap.size w w' := by
 obtain ⟨la, lc, rfl, hsl, _⟩ := h.l.sl
 obtain ⟨c0, c1, c2⟩ := cells3 h.b
 have gL := h.b.lt
 obtain ⟨l, hl⟩ : ∃ l, r.labels = l := ⟨_, rfl⟩
 rw [hl] at hsl c1 ⊢
 obtain ⟨n, hn⟩ : ∃ n, l.length = n := ⟨_, rfl⟩
 rw [hn] at hsl c1
 have hm := hsl.max
 unfold maxLen at hm
 have HS := Lib.hid hsl
 have HN := Lib.hid hn
 clear hsl hn hl h
 go_enter Tryz.func89, Tryz.ntmps89
 go_wp2
 clear c0 c1 c2 gL
 go_loopw [12] (fun i wr => ∃ k : Nat, k ≤ n ∧ i = .int .i64 k ∧ (∀ y ∈ l.take k, y.name ≠ s) ∧ Below w.heap.size w wr) (fun i _ => n - (intOf i).toNat)
 case atStart => exact ⟨0, Nat.zero_le _, rfl, by simp, Below.refl _ _⟩
 case round =>
  obtain ⟨k, hk, rfl, hno, hb⟩ := hrel
  have HNO := Lib.hid hno
  have HB := Lib.hid hb
  clear hno hb
  by_cases hlt : k < n
  ·have q0 : (0 : Int) ≤ k := by omega
   have q1 : (k : Int) < n := by omega
   obtain ⟨x, hx⟩ : ∃ x, l[k]? = some x := ⟨_, List.getElem?_eq_getElem (by have := HN.out; omega)⟩
   obtain ⟨ad, hao, hab, e0, e1⟩ := sl_NamV (HS.out.below HB.out) hlt hx
   subst hao
   have HX := Lib.hid hx
   clear hx
   by_cases he : x.name = s
   ·have f : (x.name.toList == s.toList) = true := by simp [he]
    have hfa := find_at HX.out he HNO.out
    have HFA := Lib.hid hfa
    clear he hfa
    go_wp2
    go_ret
    exact ⟨ret_int HFA.out.symm, ext_alloc HB.out _⟩
   ·have f : (x.name.toList == s.toList) = false := beq_eq_false_iff_ne.2 fun e => he (name_eq.1 e)
    have hfn := take_no HX.out he HNO.out
    have HFN := Lib.hid hfn
    clear he hfn
    go_wp2
    go_roundw
    case rel => exact ⟨k + 1, by omega, by go_num, HFN.out, ext_alloc HB.out _⟩
    case measure => simp [intOf]; omega
  ·have q1 : ¬ ((k : Int) < n) := by omega
   have hfn : findA l s = -1 := find_no fun y hy => HNO.out y (by rw [List.take_of_length_le (by have := HN.out; omega)]; exact hy)
   have HFN := Lib.hid hfn
   clear hfn
   go_wp2
   go_ret
   exact ⟨ret_int HFN.out.symm, HB.out⟩
end Go.Proofs.YtpjhjefjbkjhkaaGreatDoor
namespace Go.Proofs.YtpjhjefjbkjhkaaGreatDoor
open Go.RowKit
theorem eqs_Int (ao bo : Option Addr) (n c d : Nat) (xs : List Int) (w : World) (hx : Sl w ao n xs) (hy : Sl w bo n xs) :
  Calls Tryz.prog 19 #[.slice ao n c, .slice bo n d] w fun e w' => e = .returned (.bool true) ∧ Below w.heap.size w w' := by
 have hlx := hx.len
 have hm := hx.max
 unfold maxLen at hm
 have g1 : ((n : Int) != (n : Int)) = false := by simp
 have HX := Lib.hid hx
 have HY := Lib.hid hy
 clear hx hy
 go_enter Tryz.func19, Tryz.ntmps19
 go_wp2
 go_loopw [14] (fun i wr => ∃ k : Nat, k ≤ n ∧ i = .int .i64 k ∧ Below w.heap.size w wr) (fun i _ => n - (intOf i).toNat)
 case atStart => exact ⟨0, Nat.zero_le _, rfl, Below.refl _ _⟩
 case round =>
  obtain ⟨k, hk, rfl, hb⟩ := hrel
  have HB := Lib.hid hb
  clear hb
  by_cases hlt : k < n
  ·have q0 : (0 : Int) ≤ k := by omega
   have q1 : (k : Int) < n := by omega
   obtain ⟨x, hgx⟩ : ∃ x, xs[k]? = some x := ⟨_, List.getElem?_eq_getElem (by omega)⟩
   obtain ⟨ad, rfl, bx, e0⟩ := sl_int (HX.out.below HB.out) hlt hgx
   obtain ⟨bd, rfl, by_, g0⟩ := sl_int (HY.out.below HB.out) hlt hgx
   have q : (x != x) = false := by simp
   clear hgx
   go_wp2
   go_roundw
   case rel => exact ⟨k + 1, by omega, by go_num, by repeat (first | exact HB.out | with_reducible refine ext_alloc ?_ _ | with_reducible refine ext_drewN ?_ _ | with_reducible refine ext_drew ?_)⟩
   case measure => simp [intOf]; omega
  ·have q1 : ¬ ((k : Int) < n) := by omega
   go_wp2
   go_ret
   exact ⟨rfl, HB.out⟩
end Go.Proofs.YtpjhjefjbkjhkaaGreatDoor
