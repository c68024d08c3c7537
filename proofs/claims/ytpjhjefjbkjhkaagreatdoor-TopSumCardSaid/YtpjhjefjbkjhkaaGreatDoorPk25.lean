import Derived.Carry
import Derived.ChangeSame
import Derived.Lib.SmallJoins
import Derived.OpenShut
import Derived.ProofKit
import Derived.SizedLaws
import Derived.Test.YtpjhjefjbkjhkaaGreatDoorPk00
import Derived.Test.YtpjhjefjbkjhkaaGreatDoorPk01
import Derived.Test.YtpjhjefjbkjhkaaGreatDoorPk05
import Derived.Test.YtpjhjefjbkjhkaaGreatDoorRows
import Derived.Test.YtpjhjefjbkjhkaaGreatDoorPk24
set_option maxHeartbeats 40000000
set_option maxRecDepth 100000
set_option linter.unusedVariables false
set_option linter.unusedSimpArgs false
namespace Go.Proofs.YtpjhjefjbkjhkaaGreatDoor
open Go.ChangeShapes Go.WideShapes Go.ChangeAt Go.RowKit
theorem own : ownKnob Tryz.prog.godebug = none := by kernel_rfl
theorem laidOut : laidOutB Tryz.prog = true := by kernel_rfl
section
variable {H : Type} {enc : TypeId × Value → H} {P : Program}
theorem post_of_below {f : Func} {s : ChangeSpec} {apart fresh handsOn : Bool} {W W' : World} {args : Array Value} {v : Value} {ds gs : List (DataW H)} {before pa pv : List MemPlace}
  (hW : DataW.Whole enc P f.params.toList s.vars apart W args.toList ds gs before)
  (hres : ∀ (b : Nat) (sp : Nat → Bool) (hd : Bool), DataW.TrodAll enc P W' b sp hd f.resultTypes.toList (v.resultList f.resultTypes.size) (s.fn H (ds ++ gs)).results [])
  (hargs : DataW.TrodAll enc P W' 0 (fun b => decide (b < W.heap.size)) true f.params.toList args.toList (s.fn H (ds ++ gs)).args pa)
  (hvars : DataW.TrodVars enc P W' (fun b => decide (b < W.heap.size)) s.vars (s.fn H (ds ++ gs)).vars pv)
  (hps : before = pa ++ pv) (hb : Below W.heap.size W W') :
  s.post enc P f apart fresh handsOn false W args v W' := by
 refine ⟨ds, gs, before, [], pa, pv, hW, hres _ _ _, hargs, hvars, World.keptBut_mono (fun p hp => ⟨hp, ?_⟩) (hb.frame (· ∈ before)), fun h => by cases h⟩
 rw [hps, List.mem_append] at hp
 exact Or.inr hp
theorem trodAll_below {W W' : World} (hl : laidOutB P = true) (hb : Below W.heap.size W W') : ∀ {ts : List TypeId} {vs : List Value} {ds : List (DataW H)} {ps : List MemPlace},
  (∀ t ∈ ts, P.readableRec t = true ∧ t < P.types.size) → DataW.TrodAll enc P W 0 (fun _ => true) true ts vs ds ps → (∀ x ∈ ps, x.block < W.heap.size) →
  DataW.TrodAll enc P W' 0 (fun b => decide (b < W.heap.size)) true ts vs ds ps
 | [], vs, ds, ps, _, h, _ => by
  obtain ⟨rfl, rfl, rfl⟩ := trodAll_nil h
  exact trodAll_mk0
 | t :: ts, vs, ds, ps, ht, h, hp => by
  obtain ⟨v0, vs0, d0, ds0, p0, q0, rfl, rfl, rfl, h0, r0⟩ := trodAll_cons h
  obtain ⟨h1, h2⟩ := ht t (by simp)
  exact trodAll_cons_mk (Below.trod hl h1 h2 h0 hb (fun x hx => hp x (by simp [hx]))) (trodAll_below hl hb (fun t' ht' => ht t' (by simp [ht'])) r0 (fun x hx => hp x (by simp [hx])))
end
theorem law_post {H : Type} {enc : TypeId × Value → H} {f : Func} {s : ChangeSpec} {W W' : World} {args : Array Value} {ds : List (DataW H)} {p : List MemPlace}
  (hW : DataW.Whole enc Tryz.prog f.params.toList s.vars false W args.toList ds [] p)
  (hA : DataW.TrodAll enc Tryz.prog W 0 (fun _ => true) true f.params.toList args.toList ds p)
  (hr : f.resultTypes = #[4]) (hv : s.vars = []) (hs : s.fn H (ds ++ []) = { results := [.lit (.bool true)], args := ds })
  (hp : (f.params.toList.all fun t => Tryz.prog.readableRec t && decide (t < Tryz.prog.types.size)) = true)
  (hb : Below W.heap.size W W') :
  s.post enc Tryz.prog f false true false false W args (.bool true) W' := by
 have hlt : ∀ x ∈ p, x.block < W.heap.size := fun x hx => by simpa using hW.lt x hx
 refine post_of_below (pa := p) (pv := []) (gs := []) hW (fun b sp hd => ?_) ?_ ?_ (by simp) hb
 ·rw [hs, hr]
  exact trodAll_cons_mk (shut_bool Tryz.underlying4 _) trodAll_mk0
 ·rw [hs]
  refine trodAll_below laidOut hb (fun t ht => ?_) hA hlt
  have := List.all_eq_true.1 hp t ht
  simpa using this
 ·rw [hs, hv]
  exact rfl
end Go.Proofs.YtpjhjefjbkjhkaaGreatDoor
namespace Go.Proofs.YtpjhjefjbkjhkaaGreatDoor
open Go.Joins Go.ChangeShapes Go.WideShapes Go.ChangeAt Go.RowKit Go.Deep
section
variable {H : Type} {enc : TypeId × Value → H} {w : World} {base : Nat} {spare : Nat → Bool} {held : Bool}
end
end Go.Proofs.YtpjhjefjbkjhkaaGreatDoor
namespace Go.Proofs.YtpjhjefjbkjhkaaGreatDoor
open Go.Joins Go.ChangeShapes Go.WideShapes Go.ChangeAt Go.RowKit Go.Deep
section
variable {H : Type} {enc : TypeId × Value → H} {w : World} {base : Nat} {spare : Nat → Bool} {held : Bool}
end
end Go.Proofs.YtpjhjefjbkjhkaaGreatDoor
namespace Go.Proofs.YtpjhjefjbkjhkaaGreatDoor
open El (cl)
open Go.Joins Go.ChangeShapes Go.WideShapes Go.ChangeAt Go.RowKit Go.Deep
structure SlV (α : Type) where
 ao : Option Addr
 n : Nat
 cap : Nat
 vs : List α
def SlV.val {α : Type} (x : SlV α) : Value := .slice x.ao x.n x.cap
structure SlV.ok {α : Type} [El α] (P : α → Prop) (w : World) (x : SlV α) : Prop where
 sl : Sl w x.ao x.n x.vs
 wf : ∀ v ∈ x.vs, P v
 le : x.n ≤ x.cap
section
variable {α : Type} [El α]
theorem cls_of_cells {w : World} {a : Addr} : ∀ {xs : List α}, (∀ i x, xs[i]? = some x → ∀ j, j < El.k α → w.cell? (a.add (i * El.k α + j)) = (cl x)[j]?) → ∀ j u, (cls xs)[j]? = some u → w.cell? (a.add j) = some u := by
 intro xs h j u hu
 have hk : 0 < El.k α := El.pos
 have hj : j < xs.length * El.k α := by
  rw [← cls_length]
  exact (List.getElem?_eq_some_iff.1 hu).1
 have hd : j / El.k α < xs.length := Nat.div_lt_of_lt_mul (by rw [Nat.mul_comm]; exact hj)
 have hm : j % El.k α < El.k α := Nat.mod_lt _ hk
 have e : j / El.k α * El.k α + j % El.k α = j := Nat.div_add_mod' _ _
 have h1 := cls_at xs (j / El.k α) hd (j % El.k α) hm
 rw [e, hu] at h1
 have h2 := h (j / El.k α) _ (List.getElem?_eq_getElem hd) _ hm
 rw [e] at h2
 rw [h2, h1]
end
section
variable {H : Type} {enc : TypeId × Value → H} {w : World} {spare : Nat → Bool} {held : Bool}
theorem open_els {α : Type} [El α] [Inhabited α] {r : Reach} {b0 : Nat} {t e : TypeId} {v : Value} {d : DataW H} {p : List MemPlace} {Q : α → Prop} (ht : Tryz.prog.underlying t = some (.slice e)) (hk : Tryz.prog.cellsOf e = El.k α)
  (el : ∀ fuel cs x, DataW.trod enc Tryz.prog w 0 spare held fuel e cs = some x → cs.length = El.k α → ∃ y : α, cs = cl y ∧ Q y)
  (hv : Value.okWide Tryz.prog w r b0 t v) (h : DataW.Trod enc Tryz.prog w 0 spare held t v d p) : ∃ x : SlV α, v = x.val ∧ x.ok Q w ∧ (x.n = 0 ∨ ∃ es sp, d = .slice es sp ∧ es.length = x.n) := by
 obtain ⟨a0, len, cap, rfl⟩ := okWide_slice ht hv
 obtain ⟨fuel, hf⟩ := h
 rcases open_slice ht hf with ⟨hcs, _⟩ | ⟨a, len', cap', m, n, D, Pl, hcs, hb, hl, hm, hmm, hx, hi⟩
 ·simp [Value.cells] at hcs
  obtain ⟨rfl, rfl, rfl⟩ := hcs
  exact ⟨⟨none, 0, 0, []⟩, rfl, ⟨Sl.nil _ _, fun v hv => by simp at hv, Nat.le_refl _⟩, .inl rfl⟩
 ·simp [Value.cells] at hcs
  obtain ⟨rfl, rfl, rfl⟩ := hcs
  have hlm : len ≤ m := by rw [hmm]; split <;> omega
  obtain ⟨f, hf⟩ := choose_lt (α := α) (n := len) (p := fun i y => (∀ j, j < El.k α → w.cell? (a.add (i * El.k α + j)) = (cl y)[j]?) ∧ Q y) (fun i hil => by
   obtain ⟨cs', h1, h2⟩ := hi i (by omega)
   rw [hk] at h1
   obtain ⟨_, hcl, hat⟩ := World.cells?_some h1
   obtain ⟨y, rfl, hy⟩ := el n cs' _ h2 hcl
   exact ⟨y, fun j hj => by rw [← Go.Deep.add_add]; exact hat j hj, hy⟩)
  have hcells : ∀ j u, (cls ((List.range len).map f))[j]? = some u → w.cell? (a.add j) = some u := cls_of_cells (fun i x hx j hj => by
   rw [List.getElem?_map] at hx
   have hil : i < len := by
    rcases Nat.lt_or_ge i len with h | h
    ·exact h
    ·rw [List.getElem?_eq_none (by simpa using h)] at hx; cases hx
   rw [List.getElem?_range hil] at hx
   simp at hx
   subst hx
   exact (hf i hil).1 j hj)
  simp only [Prod.mk.injEq] at hx
  refine ⟨⟨some a, len, cap, (List.range len).map f⟩, rfl, ⟨⟨by simp, Nat.le_trans hl hm, fun hn => ⟨a, rfl, ?_, hcells⟩⟩, fun v hv => ?_, hl⟩, .inr ⟨_, _, hx.1, by simp⟩⟩
  ·have h0 := (hf 0 hn).1 0 El.pos
   have hl0 : 0 < (cl (f 0)).length := by rw [El.len]; exact El.pos
   rw [List.getElem?_eq_getElem hl0] at h0
   have := World.block_lt_of_cell? w _ h0
   rw [el_block] at this
   exact this
  ·obtain ⟨i, hi1, rfl⟩ := List.mem_map.1 hv
   exact (hf i (List.mem_range.1 hi1)).2
end
end Go.Proofs.YtpjhjefjbkjhkaaGreatDoor
namespace Go.Proofs.YtpjhjefjbkjhkaaGreatDoor
open Go.Joins Go.ChangeShapes Go.WideShapes Go.ChangeAt Go.RowKit Go.Deep
structure MachA where
 R : List ValV
 c : KeyV
 mem : List ValV
 stk : List FrameV
 out : List Int
 ma : Option Addr
 sa : Option Addr
 oa : Option Addr
 mc : Nat
 sc : Nat
 oc : Nat
def MachA.val (x : MachA) : Value := .agg (mcs x.R x.c (.slice x.ma x.mem.length x.mc) (.slice x.sa x.stk.length x.sc) (.slice x.oa x.out.length x.oc))
structure MachA.ok (w : World) (x : MachA) : Prop where
 h8 : x.R.length = 8
 mem : Sl w x.ma x.mem.length x.mem
 stk : Sl w x.sa x.stk.length x.stk
 out : Sl w x.oa x.out.length x.out
 wR : ∀ v ∈ x.R, v.wf
 wc : x.c.wf
 wm : ∀ v ∈ x.mem, v.wf
 ws : ∀ f ∈ x.stk, f.wf
 wo : ∀ n ∈ x.out, I64 n
section
variable {H : Type} {enc : TypeId × Value → H} {w : World} {spare : Nat → Bool} {held : Bool}
end
end Go.Proofs.YtpjhjefjbkjhkaaGreatDoor
namespace Go.Proofs.YtpjhjefjbkjhkaaGreatDoor
open Go.RowKit
def textL (i : InstV) : List UInt8 := wordL i.op.toNat ++ sufL i.a (shA i.op) true ++ sufL i.b (shB i.op) true ++ sufL i.c (shC i.op != 0) (shC i.op == 114)
theorem itext_bad (op a b c : Int) (hk : instOk ⟨op, a, b, c⟩ = false) (w : World) (ht : Tab w) : Calls Tryz.prog 140 #[.agg #[.int .i64 op, .int .i64 a, .int .i64 b, .int .i64 c]] w fun e w' => e = .returned (.tuple #[.string ⟨#[]⟩, .int .i64 1]) ∧ Below w.heap.size w w' := by
 obtain ⟨w1, hw1⟩ : ∃ w1, w1 = w.alloc (.cells #[.int .i64 op, .int .i64 a, .int .i64 b, .int .i64 c] 49) := ⟨_, rfl⟩
 have hB : Bk w1 w.heap.size 49 #[.int .i64 op, .int .i64 a, .int .i64 b, .int .i64 c] := by rw [hw1]; exact bk_new _ _ _
 have h1w : Below w.heap.size w w1 := by rw [hw1]; exact ext_alloc (Below.refl _ _) _
 have p0 := hB.cell 0
 have p1 := hB.cell 1
 have p2 := hB.cell 2
 have p3 := hB.cell 3
 simp only [List.getElem?_toArray, List.getElem?_cons_succ, List.getElem?_cons_zero] at p0 p1 p2 p3
 have ck := icheck_any op a b c w1 (ht.below h1w)
 rw [hk] at ck
 simp only [Bool.false_eq_true, if_false] at ck
 have HW1 := Lib.hid hw1
 have H1W := Lib.hid h1w
 have CK := Lib.hid ck
 clear ck hk hw1 h1w ht hB
 go_enter Tryz.func140, Tryz.ntmps140
 go_upto_region 1 with (fail)
 rw [← HW1.out]
 go_wp2_with (go_at_call 54; ((with_reducible refine CK.out.mono ?_); rintro e w' ⟨rfl, hb⟩; obtain ⟨y, rfl⟩ := later_call (Below.refl _ _) hb; clear hb))
 go_ret2
 exact ⟨rfl, ext_trans H1W.out y.ok⟩
theorem wordL_len (k : Nat) : (wordL k).length ≤ 6 := by
 by_cases h : k < 23
 ·have hall : ∀ k, k < 23 → (wordL k).length ≤ 6 := by decide
  exact hall k h
 ·have e : wordL k = [] := by unfold wordL; rw [List.getD_eq_getElem?_getD, List.getElem?_eq_none (by simp; omega)]; rfl
  rw [e]; decide
theorem sufL_len (n : Int) (hn : I64 n) (has ir : Bool) : (sufL n has ir).length ≤ 23 := by
 have := Lib.itoa_length_le n hn.1 hn.2
 unfold sufL
 cases has <;> cases ir <;> simp <;> omega
theorem ba_len (l : List UInt8) : (⟨l.toArray⟩ : ByteArray).size = l.length := by simp [ByteArray.size]
theorem ba_app (l r : List UInt8) : (⟨l.toArray⟩ : ByteArray) ++ ⟨r.toArray⟩ = ⟨(l ++ r).toArray⟩ := ByteArray.ext (by simp)
theorem opB_of {op a b c : Int} (h : instOk ⟨op, a, b, c⟩ = true) : opB op = true := by
 unfold instOk at h
 simp only [Bool.and_eq_true] at h
 exact h.1
theorem itext_ok (op a b c : Int) (hk : instOk ⟨op, a, b, c⟩ = true) (w : World) (ht : Tab w) (h10 : Tab10 w) : Calls Tryz.prog 140 #[.agg #[.int .i64 op, .int .i64 a, .int .i64 b, .int .i64 c]] w fun e w' => e = .returned (.tuple #[.string ⟨(textL ⟨op, a, b, c⟩).toArray⟩, .int .i64 0]) ∧ Below w.heap.size w w' := by
 obtain ⟨w1, hw1⟩ : ∃ w1, w1 = w.alloc (.cells #[.int .i64 op, .int .i64 a, .int .i64 b, .int .i64 c] 49) := ⟨_, rfl⟩
 have hB : Bk w1 w.heap.size 49 #[.int .i64 op, .int .i64 a, .int .i64 b, .int .i64 c] := by rw [hw1]; exact bk_new _ _ _
 have h1w : Below w.heap.size w w1 := by rw [hw1]; exact ext_alloc (Below.refl _ _) _
 have p0 := hB.cell 0
 have p1 := hB.cell 1
 have p2 := hB.cell 2
 have p3 := hB.cell 3
 simp only [List.getElem?_toArray, List.getElem?_cons_succ, List.getElem?_cons_zero] at p0 p1 p2 p3
 have q0 : ∀ x : Later w1, x.val.cell? ⟨w.heap.size, 0, none⟩ = some (.int .i64 op) := fun x => (x.bk hB).cell 0
 have q1 : ∀ x : Later w1, x.val.cell? ⟨w.heap.size, 1, none⟩ = some (.int .i64 a) := fun x => (x.bk hB).cell 1
 have q2 : ∀ x : Later w1, x.val.cell? ⟨w.heap.size, 2, none⟩ = some (.int .i64 b) := fun x => (x.bk hB).cell 2
 have q3 : ∀ x : Later w1, x.val.cell? ⟨w.heap.size, 3, none⟩ = some (.int .i64 c) := fun x => (x.bk hB).cell 3
 have qL : ∀ x : Later w1, w.heap.size < x.val.heap.size := fun x => x.lt hB.lt
 have ck := icheck_any op a b c w1 (ht.below h1w)
 rw [hk] at ck
 simp only [if_true] at ck
 have sh : ∀ x : Later w1, Calls Tryz.prog 90 #[.int .i64 op] x.val fun e w' => e = .returned (.tuple #[.agg #[.string ⟨(wordL op.toNat).toArray⟩, .bool (shA op), .bool (shB op), .int .u8 (shC op)], .bool true]) ∧ Below x.val.heap.size x.val w' := by
  intro x
  have h := shape_any op x.val ((ht.below h1w).below x.ok)
  rw [opB_of hk] at h
  exact h
 have HW1 := Lib.hid hw1
 have H1W := Lib.hid h1w
 have CK := Lib.hid ck
 have SH := Lib.hid sh
 have HB := Lib.hid hB
 have H10 := Lib.hid h10
 have HK := Lib.hid hk
 clear ck hk hw1 h1w ht hB sh h10
 go_enter Tryz.func140, Tryz.ntmps140
 go_upto_region 1 with (fail)
 rw [← HW1.out]
 go_upto_region 7 with (first
  | (go_at_call 54; ((with_reducible refine CK.out.mono ?_); rintro e w' ⟨rfl, hb⟩; obtain ⟨y, rfl⟩ := later_call (Below.refl _ _) hb; clear hb))
  | (go_at_call 90; ((with_reducible refine (SH.out y).mono ?_); rintro e w' ⟨rfl, hb⟩; obtain ⟨z, rfl⟩ := later_call y.ok hb; clear hb)))
 obtain ⟨w3, hw3⟩ : ∃ w3, w3 = z.val.alloc (.cells #[.string ⟨(wordL op.toNat).toArray⟩, .bool (shA op), .bool (shB op), .int .u8 (shC op)] 183) := ⟨_, rfl⟩
 obtain ⟨w4, hw4⟩ : ∃ w4, w4 = w3.alloc (.cells #[.string ⟨(wordL op.toNat).toArray⟩] 9) := ⟨_, rfl⟩
 have hz3 : w3.heap.size = z.val.heap.size + 1 := by rw [hw3, World.size_alloc]
 have kS : Bk w3 z.val.heap.size 183 #[.string ⟨(wordL op.toNat).toArray⟩, .bool (shA op), .bool (shB op), .int .u8 (shC op)] := by rw [hw3]; exact bk_new _ _ _
 have kI : Bk w3 w.heap.size 49 #[.int .i64 op, .int .i64 a, .int .i64 b, .int .i64 c] := by rw [hw3]; exact bk_old _ (z.bk HB.out)
 have h13 : Below w1.heap.size w1 w3 := by rw [hw3]; exact ext_alloc z.ok _
 have k4 : Bk w4 (z.val.heap.size + 1) 9 #[.string ⟨(wordL op.toNat).toArray⟩] := by rw [hw4, ← hz3]; exact bk_new _ _ _
 have h34 : Below w3.heap.size w3 w4 := by rw [hw4]; exact ext_alloc (Below.refl _ _) _
 have t3 : Tab10 w3 := (H10.out.below H1W.out).below h13
 have r1 : ∀ x : Later w3, x.val.cell? ⟨w.heap.size, 1, none⟩ = some (.int .i64 a) := fun x => (x.bk kI).cell 1
 have r2 : ∀ x : Later w3, x.val.cell? ⟨w.heap.size, 2, none⟩ = some (.int .i64 b) := fun x => (x.bk kI).cell 2
 have r3 : ∀ x : Later w3, x.val.cell? ⟨w.heap.size, 3, none⟩ = some (.int .i64 c) := fun x => (x.bk kI).cell 3
 have s1 : ∀ x : Later w3, x.val.cell? ⟨z.val.heap.size, 1, none⟩ = some (.bool (shA op)) := fun x => (x.bk kS).cell 1
 have s2 : ∀ x : Later w3, x.val.cell? ⟨z.val.heap.size, 2, none⟩ = some (.bool (shB op)) := fun x => (x.bk kS).cell 2
 have s3 : ∀ x : Later w3, x.val.cell? ⟨z.val.heap.size, 3, none⟩ = some (.int .u8 (shC op)) := fun x => (x.bk kS).cell 3
 obtain ⟨o0, o1, a0, a1, b0, b1, c0, c1⟩ := instOk_bd HK.out
 have ad : ∀ (n : Int) (hn : -2048 ≤ n ∧ n ≤ 2047) (has ir : Bool) (l : List UInt8) (hl : l.length ≤ 500) (x : Later w3) (hx : Bk x.val (z.val.heap.size + 1) 9 #[.string ⟨l.toArray⟩]), Calls Tryz.prog 185 #[.int .i64 n, .bool has, .bool ir, .pointer (some ⟨z.val.heap.size + 1, 0, none⟩)] x.val fun e w' => e = .returned (.tuple #[]) ∧ ∃ y : Later w3, w' = y.val ∧ Bk y.val (z.val.heap.size + 1) 9 #[.string ⟨(l ++ sufL n has ir).toArray⟩] := by
  intro n hn has ir l hl x hx
  refine (tadd_any n ⟨by omega, by omega⟩ has ir _ _ x.val (by rw [ba_len]; omega) hx (t3.below x.ok)).mono ?_
  rintro e w' ⟨he, hb, hk⟩
  rw [ba_app] at hk
  rw [← hz3] at hb
  exact ⟨he, ⟨w', x.ok.trans hb⟩, rfl, hk⟩
 have l0 := wordL_len op.toNat
 have l1 := sufL_len a ⟨by omega, by omega⟩ (shA op) true
 have l2 := sufL_len b ⟨by omega, by omega⟩ (shB op) true
 have A1 := Lib.hid (ad a (by omega) (shA op) true _ (by omega) ⟨w4, h34⟩ k4)
 have A2 := Lib.hid (fun y hy => ad b (by omega) (shB op) true (wordL op.toNat ++ sufL a (shA op) true) (by simp only [List.length_append]; omega) y hy)
 have A3 := Lib.hid (fun y hy => ad c (by omega) (shC op != 0) (shC op == 114) (wordL op.toNat ++ sufL a (shA op) true ++ sufL b (shB op) true) (by simp only [List.length_append]; omega) y hy)
 have fin := Lib.hid (fun x : Later w3 => ext_trans (ext_trans H1W.out h13) x.ok)
 have kL : ∀ x : Later w3, z.val.heap.size < x.val.heap.size := fun x => x.lt kS.lt
 have iL : ∀ x : Later w3, w.heap.size < x.val.heap.size := fun x => x.lt kI.lt
 have m1 := r1 ⟨w4, h34⟩
 have m2 := s1 ⟨w4, h34⟩
 simp only at m1 m2
 have HW3 := Lib.hid hw3
 have HW4 := Lib.hid hw4
 rw [← HW3.out, ← HW4.out]
 clear ad l0 l1 l2 hz3 kS kI h13 k4 t3 hw3 hw4 HK a0 a1 b0 b1 c0 c1 o0 o1 q0 q1 q2 q3 p0 p1 p2 p3 CK SH
 go_wp2_with (first
  | (go_at_call 185; ((with_reducible refine A1.out.mono ?_); rintro e w' ⟨rfl, y5, rfl, hc⟩; have C5 := Lib.hid hc; clear hc))
  | (go_at_call 185; ((with_reducible refine (A2.out y5 C5.out).mono ?_); rintro e w' ⟨rfl, y6, rfl, hc⟩; have C6 := Lib.hid hc; clear hc))
  | (go_at_call 185; ((with_reducible refine (A3.out y6 C6.out).mono ?_); rintro e w' ⟨rfl, y7, rfl, hc⟩; have c7 := hc.cell 0; simp only [List.getElem?_toArray, List.getElem?_cons_zero] at c7; have C7 := Lib.hid hc; clear hc)))
 go_ret2
 have e : textL ⟨op, a, b, c⟩ = wordL op.toNat ++ (sufL a (shA op) true ++ (sufL b (shB op) true ++ sufL c (shC op != 0) (shC op == 114))) := by unfold textL; simp only [List.append_assoc]
 rw [e]
 exact ⟨rfl, fin.out y7⟩
end Go.Proofs.YtpjhjefjbkjhkaaGreatDoor
