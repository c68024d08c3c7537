import Derived.BigQuiet
import Derived.Deep.QuietTactic
import Derived.IntWalk
import Derived.StillTailTactics
import Derived.Test.YtpjhjefjbkjhkaaGreatDoorPk02
import Derived.Test.YtpjhjefjbkjhkaaGreatDoorPk04
import Derived.Test.YtpjhjefjbkjhkaaGreatDoorPk07
import Derived.Test.YtpjhjefjbkjhkaaGreatDoorPk08
set_option maxHeartbeats 40000000
set_option maxRecDepth 100000
set_option linter.unusedVariables false
set_option linter.unusedSimpArgs false
namespace Go.Proofs.YtpjhjefjbkjhkaaGreatDoor
open Go.RowKit
end Go.Proofs.YtpjhjefjbkjhkaaGreatDoor
namespace Go.Proofs.YtpjhjefjbkjhkaaGreatDoor
open El (cl)
open Go.RowKit
theorem setL_app_left : ∀ (us l m : List Value) (i : Nat), i + us.length ≤ l.length → setL (l ++ m) i us = setL l i us ++ m
 | [], l, m, i, _ => rfl
 | u :: us, l, m, i, h => by
  rw [List.length_cons] at h
  rw [setL, setL, List.set_append_left _ _ (by omega), setL_app_left us (l.set i u) m (i + 1) (by rw [List.length_set]; omega)]
theorem setL_app_right : ∀ (us l m : List Value) (i : Nat), setL (l ++ m) (l.length + i) us = l ++ setL m i us
 | [], l, m, i => rfl
 | u :: us, l, m, i => by
  rw [setL, setL, List.set_append_right _ _ (by omega), Nat.add_sub_cancel_left, show l.length + i + 1 = l.length + (i + 1) by omega, setL_app_right us l (m.set i u) (i + 1)]
theorem setL_part {α : Type} [El α] : ∀ {xs : List α} {i j : Nat} {x y : α} {us : List Value}, xs[i]? = some x → j + us.length ≤ El.k α → cl y = setL (cl x) j us → setL (cls xs) (i * El.k α + j) us = cls (xs.set i y)
 | [], i, j, x, y, us, h, _, _ => by simp at h
 | z :: xs, 0, j, x, y, us, h, hj, hc => by
  simp at h
  subst h
  rw [cls_cons, List.set_cons_zero, cls_cons, Nat.zero_mul, Nat.zero_add, setL_app_left _ _ _ _ (by rw [El.len]; exact hj), hc]
 | z :: xs, i + 1, j, x, y, us, h, hj, hc => by
  rw [cls_cons, List.set_cons_succ, cls_cons]
  have e : (i + 1) * El.k α + j = (cl z).length + (i * El.k α + j) := by rw [El.len, Nat.add_mul]; omega
  rw [e, setL_app_right, setL_part (by simpa using h) hj hc]
theorem bk_setCells {w : World} {g : Nat} {T : TypeId} : ∀ (us l : List Value) (i : Nat) (w : World), Bk w g T l.toArray → Bk (w.setCells g i us) g T (setL l i us).toArray
 | [], l, i, w, h => h
 | u :: us, l, i, w, h => by
  have h1 := bk_set i u h
  rw [List.setIfInBounds_toArray] at h1
  exact bk_setCells (w := w) (g := g) us (l.set i u) (i + 1) _ h1
theorem grown_setCells (g : Nat) : ∀ (us : List Value) (i : Nat) (w : World), w.grownBy (w.setCells g i us) (some g)
 | [], i, w => World.grownBy.refl w _
 | u :: us, i, w => by
  have h1 : w.grownBy (w.setCell ⟨g, i, none⟩ u) (some g) := ⟨rfl, rfl, rfl, by simp [World.setCell], fun k _ hk => Below.heap_setCell w _ u k (fun e => hk (by rw [e]))⟩
  exact h1.trans (grown_setCells g us (i + 1) _)
theorem below_setCells {a b : World} (h : Below a.heap.size a b) {g : Nat} (hg : a.heap.size ≤ g) (i : Nat) (us : List Value) : Below a.heap.size a (b.setCells g i us) :=
 h.grown (grown_setCells g us i b) h.size (fun k e => by injection e with e; omega)
theorem own_setCells_bk {α : Type} [El α] {w : World} {base : Nat} {T : TypeId} {v : Value} {xs : List α} (h : Own w base T v xs) {g : Nat} {T' : TypeId} {cs : Array Value} (hg : Bk w g T' cs) (hT : T' ≠ T) (i : Nat) (us : List Value) : Own (w.setCells g i us) base T v xs := by
 refine h.kept (grown_setCells g us i w) ?_
 rcases h.2 with ⟨rfl, _⟩ | ⟨g', cap, cur, rfl, _, hg', _⟩
 ·exact .inl rfl
 ·right
  intro e
  simp [Value.ownBlock] at e
  subst e
  unfold Bk at hg
  rw [hg] at hg'
  injection hg' with hg'
  injection hg' with _ ht _
  exact hT ht
theorem own_bk_ne {α : Type} [El α] {w : World} {base : Nat} {T : TypeId} {xs : List α} {g n cap : Nat} (h : Own w base T (.slice (some ⟨g, 0, none⟩) n cap) xs) {k : Nat} {T' : TypeId} {cs : Array Value} (hk : Bk w k T' cs) (hT : T' ≠ T) : g ≠ k := by
 rintro rfl
 rcases h.2 with ⟨e, _⟩ | ⟨g', c, cur, e, _, hg', _⟩
 ·cases e
 ·injection e with e _ _
  injection e with e
  injection e with e _ _
  subst e
  unfold Bk at hk
  rw [hk] at hg'
  injection hg' with hg'
  injection hg' with _ ht _
  exact hT ht
theorem mcs_regset {R : List ValV} {c : KeyV} {ms ss os : Value} (h8 : R.length = 8) {k : Nat} {x y : ValV} (hx : R[k]? = some x) {us : List Value} (hu : us = cl y) : (setL (cls R ++ [.int .i64 c.perm, .int .i64 c.base, .int .i64 c.len, .int .i64 c.at_, .int .i64 c.seal_, ms, ss, os]) (k * 7) us).toArray = mcs (R.set k y) c ms ss os := by
 have hk : k < 8 := by have := (List.getElem?_eq_some_iff.1 hx).1; omega
 have e7 : El.k ValV = 7 := rfl
 have hl : us.length = 7 := by rw [hu, El.len]; rfl
 unfold mcs
 rw [setL_app_left _ _ _ _ (by rw [regs_cells h8, hl]; omega)]
 have := setL_part (y := y) (j := 0) (us := us) hx (by rw [hl, e7]; exact Nat.le_refl _) (by
  rw [hu, setL_eq _ _ _ (by rw [El.len, El.len, e7]; exact Nat.le_refl _), List.take_zero, List.nil_append, List.drop_of_length_le (by rw [El.len, El.len]; omega), List.append_nil])
 rw [e7, Nat.add_zero] at this
 rw [this]
theorem mcs_codeset {R : List ValV} {c d : KeyV} {ms ss os : Value} (h8 : R.length = 8) : (setL (cls R ++ [.int .i64 c.perm, .int .i64 c.base, .int .i64 c.len, .int .i64 c.at_, .int .i64 c.seal_, ms, ss, os]) 56 [.int .i64 d.perm, .int .i64 d.base, .int .i64 d.len, .int .i64 d.at_, .int .i64 d.seal_]).toArray = mcs R d ms ss os := by
 unfold mcs
 rw [show 56 = (cls R).length + 0 by rw [regs_cells h8], setL_app_right]
 rfl
theorem step_load_sub {P : Program} {ops : Array Oper} {o : Oper} {a : Act} {w : World} {K : Act → World → Prop} {Q : Exit → Act → World → Prop} {E : Prop}
  (hgd : o.guard = none) (ty : TypeId) (x : Operand) (ho : o.op = .load ty x)
  (g off k : Nat) (hx : a.eval x = .pointer (some ⟨g, off, none⟩)) (t : TypeId) (cs : Array Value) (d : TypeDesc) (hg : w.heap[g]? = some (.cells cs t (0, 0)))
  (hu : P.underlying ty = some d) (hd : (match d with | .struct _ | .array _ _ => true | _ => false) = true) (hi : (P.info? ty).map (·.size) = some k) (hk : off + k ≤ cs.size) (u : Array Value) (he : cs.extract off (off + k) = u)
  (hK : K (a.put o.dst (.agg u)) w) : if Region.wanted o (yielded ops a.tmps) = true then Oper.wp P o a w K Q else E := by
 have hw : Region.wanted o (yielded ops a.tmps) = true := by simp [Region.wanted, hgd]
 rw [if_pos hw]
 exact wp_load_sub ty x ho g off k hx t cs d hg hu hd hi hk (he ▸ hK)
theorem step_store_row {P : Program} {ops : Array Oper} {o : Oper} {a : Act} {w : World} {K : Act → World → Prop} {Q : Exit → Act → World → Prop} {E : Prop}
  (hgd : o.guard = none) (ty : TypeId) (x y : Operand) (ho : o.op = .store ty x y)
  (g : Nat) (cells : Array Value) (hx : a.eval x = .pointer (some ⟨g, 0, none⟩)) (hy : a.eval y = .agg cells)
  (t : TypeId) (old : Array Value) (hg : w.heap[g]? = some (.cells old t (0, 0))) (hi : (P.info? ty).map (·.size) = some cells.size)
  (hold : old.size = cells.size) (h1 : cells.all (·.oneCell') = true)
  (hK : K (a.put o.dst undef) (w.setRow g cells)) : if Region.wanted o (yielded ops a.tmps) = true then Oper.wp P o a w K Q else E := by
 have hw : Region.wanted o (yielded ops a.tmps) = true := by simp [Region.wanted, hgd]
 rw [if_pos hw]
 exact wp_store_row ty x y ho g cells hx hy t old hg hi hold h1 hK
theorem own_at {α : Type} [El α] {w : World} {base : Nat} {T : TypeId} {ao : Option Addr} {n cap : Nat} {xs : List α} (h : Own w base T (.slice ao n cap) xs) {k : Nat} {x : α} (hx : xs[k]? = some x) :
  ∃ g, ao = some ⟨g, 0, none⟩ ∧ xs.length = n ∧ base ≤ g ∧ g < w.heap.size ∧ (∀ j, w.frozen? ⟨g, j, none⟩ = false) ∧ ∀ j u, (cl x)[j]? = some u → w.cell? ⟨g, k * El.k α + j, none⟩ = some u := by
 have hk : k < xs.length := (List.getElem?_eq_some_iff.1 hx).1
 obtain ⟨g, c, e, h1, h2, hs, hf⟩ := Own.some h (by omega)
 injection e with e1 e2 e3
 refine ⟨g, e1, e2.symm, h1, h2, hf, fun j u hu => ?_⟩
 obtain ⟨a, y, ea, _, hy, hc⟩ := hs.at hk
 injection ea with ea
 subst ea
 obtain rfl : y = x := by rw [hx] at hy; injection hy with hy; exact hy.symm
 have := hc j u hu
 rw [Addr.add_lit, Nat.zero_add] at this
 exact this
structure SwSt (w Z : World) (gm gb base : Nat) (TM TB TV TF TI : TypeId) (b n : Int) (vm vs vo : Value) (R : List ValV) (c : KeyV) (mem : List ValV) (stk : List FrameV) (out : List Int) (cnt : Int) (W : World) : Prop where
 h8 : R.length = 8
 mB : Bk W gm TM (mcs R c vm vs vo)
 bB : Bk W gb TB #[.int .i64 b, .int .i64 n, .int .i64 cnt]
 om : Own W base TV vm mem
 os : Own W base TF vs stk
 oo : Own W base TI vo out
 bel : Below w.heap.size w W
 bs : base ≤ W.heap.size
 keep : ∀ k, k < base → k ≠ gm → W.heap[k]? = Z.heap[k]?
section
variable {w Z : World} {gm gb base : Nat} {TM TB TV TF TI : TypeId} {b n : Int} {vm vs vo : Value} {R : List ValV} {c : KeyV} {mem : List ValV} {stk : List FrameV} {out : List Int} {cnt : Int} {W W1 : World}
theorem SwSt.below (h : SwSt w Z gm gb base TM TB TV TF TI b n vm vs vo R c mem stk out cnt W) (hb : Below W.heap.size W W1) : SwSt w Z gm gb base TM TB TV TF TI b n vm vs vo R c mem stk out cnt W1 :=
 ⟨h.h8, bk_keep hb h.mB, bk_keep hb h.bB, h.om.below hb, h.os.below hb, h.oo.below hb, ext_trans h.bel hb, Nat.le_trans h.bs hb.size, fun k hk hn => (hb.block k (Nat.lt_of_lt_of_le hk h.bs)).trans (h.keep k hk hn)⟩
end
end Go.Proofs.YtpjhjefjbkjhkaaGreatDoor
namespace Go.Proofs.YtpjhjefjbkjhkaaGreatDoor
open Go.RowKit
structure Fr (S : Nat → Prop) (w w' : World) : Prop where
 os : w'.os = w.os
 tape : w'.tape = w.tape
 output : w'.output = w.output
 size : w.heap.size ≤ w'.heap.size
 block : ∀ k, k < w.heap.size → ¬ S k → w'.heap[k]? = w.heap[k]?
theorem Fr.refl (S : Nat → Prop) (w : World) : Fr S w w := ⟨rfl, rfl, rfl, Nat.le_refl _, fun _ _ _ => rfl⟩
theorem Fr.trans {S S' : Nat → Prop} {a b c : World} (h : Fr S a b) (k : Fr S' b c) (hs : ∀ i, i < a.heap.size → S' i → S i) : Fr S a c :=
 ⟨k.os.trans h.os, k.tape.trans h.tape, k.output.trans h.output, Nat.le_trans h.size k.size, fun i hi hn => (k.block i (Nat.lt_of_lt_of_le hi h.size) (fun h' => hn (hs i hi h'))).trans (h.block i hi hn)⟩
theorem Fr.of {S : Nat → Prop} {w w' : World} (h : Below w.heap.size w w') : Fr S w w' := ⟨h.os, h.tape, h.output, h.size, fun k hk _ => h.block k hk⟩
theorem Fr.grown {S : Nat → Prop} {w w' : World} {row : Option Nat} (h : w.grownBy w' row) (hr : ∀ k, row = some k → S k ∨ w.heap.size ≤ k) : Fr S w w' :=
 ⟨h.os, h.tape, h.output, h.size, fun k hk hn => h.block k hk (fun e => by rcases hr k e.symm with h | h; exact hn h; omega)⟩
theorem Fr.drew (S : Nat → Prop) (w : World) : Fr S w w.drew := ⟨rfl, rfl, rfl, Nat.le_refl _, fun _ _ _ => rfl⟩
theorem Fr.alloc (S : Nat → Prop) (w : World) (o : Obj) : Fr S w (w.alloc o) := Fr.of ((Below.refl _ _).alloc (Nat.le_refl _) o)
theorem Fr.setCell {S : Nat → Prop} (w : World) {p : Addr} (hp : S p.block) (v : Value) : Fr S w (w.setCell p v) :=
 ⟨rfl, rfl, rfl, by simp [World.setCell], fun k hk hn => Below.heap_setCell w p v k (fun e => hn (e ▸ hp))⟩
theorem Fr.setCells {S : Nat → Prop} (w : World) {g : Nat} (hp : S g) (i : Nat) (us : List Value) : Fr S w (w.setCells g i us) :=
 Fr.grown (grown_setCells g us i w) (fun k e => by injection e with e; subst e; exact .inl hp)
theorem Fr.mono {S S' : Nat → Prop} {a b : World} (h : Fr S a b) (hs : ∀ i, i < a.heap.size → S i → S' i) : Fr S' a b :=
 ⟨h.os, h.tape, h.output, h.size, fun i hi hn => h.block i hi (fun h' => hn (hs i hi h'))⟩
theorem Fr.below {S : Nat → Prop} {w0 a b : World} (h : Fr S a b) (hb : Below w0.heap.size w0 a) (hs : ∀ i, S i → w0.heap.size ≤ i) : Below w0.heap.size w0 b :=
 hb.trans ⟨h.os, h.tape, h.output, h.size, fun i hi => h.block i (Nat.lt_of_lt_of_le hi hb.size) (fun h' => by have := hs i h'; omega)⟩
theorem Fr.bk {S : Nat → Prop} {w w' : World} (h : Fr S w w') {g : Nat} {T : TypeId} {cs : Array Value} (hb : Bk w g T cs) (hn : ¬ S g) : Bk w' g T cs := (h.block g hb.lt hn).trans hb
theorem own_heap {α : Type} [El α] {w w' : World} {base : Nat} {T : TypeId} {v : Value} {xs : List α} (h : Own w base T v xs) (hk : ∀ g, v.ownBlock = some g → w'.heap[g]? = w.heap[g]?) : Own w' base T v xs := by
 refine ⟨h.1, ?_⟩
 rcases h.2 with hn | ⟨g, cap, cur, h1, h2, h3, h4⟩
 ·exact .inl hn
 ·exact .inr ⟨g, cap, cur, h1, h2, (hk g (by rw [h1]; rfl)).trans h3, h4⟩
theorem own_lt {α : Type} [El α] {w : World} {base : Nat} {T : TypeId} {v : Value} {xs : List α} (h : Own w base T v xs) {g : Nat} (hg : v.ownBlock = some g) : base ≤ g ∧ g < w.heap.size := by
 rcases h.form with ⟨rfl, _⟩ | ⟨g', cap, rfl, h1, h2, _⟩
 ·cases hg
 ·injection hg with hg; subst hg; exact ⟨h1, h2⟩
theorem Fr.own {S : Nat → Prop} {w w' : World} (h : Fr S w w') {α : Type} [El α] {base : Nat} {T : TypeId} {v : Value} {xs : List α} (ho : Own w base T v xs) (hn : ∀ g, v.ownBlock = some g → ¬ S g) : Own w' base T v xs :=
 own_heap ho fun g hg => h.block g (own_lt ho hg).2 (hn g hg)
structure MSt (TM TV TF TI : TypeId) (base gm : Nat) (vm vs vo : Value) (m : MV) (W : World) : Prop where
 h8 : m.R.length = 8
 mB : Bk W gm TM (mcs m.R m.c vm vs vo)
 om : Own W base TV vm m.mem
 os : Own W base TF vs m.stk
 oo : Own W base TI vo m.out
def mS (gm : Nat) (vm vs vo : Value) (k : Nat) : Prop := k = gm ∨ vm.ownBlock = some k ∨ vs.ownBlock = some k ∨ vo.ownBlock = some k
section
variable {TM TV TF TI : TypeId} {base gm : Nat} {vm vs vo : Value} {m : MV} {W W' : World}
theorem own_ty {α : Type} [El α] {w : World} {base : Nat} {T : TypeId} {v : Value} {xs : List α} (h : Own w base T v xs) {k : Nat} {T' : TypeId} {cs : Array Value} (hk : Bk w k T' cs) (hT : T' ≠ T) : v.ownBlock ≠ some k := by
 intro e
 rcases h.form with ⟨rfl, _⟩ | ⟨g', cap, rfl, _⟩
 ·cases e
 ·injection e with e; exact own_bk_ne h hk hT e
theorem MSt.not (h : MSt TM TV TF TI base gm vm vs vo m W) {g : Nat} {T : TypeId} {cs : Array Value} (hb : Bk W g T cs) (t1 : T ≠ TM) (t2 : T ≠ TV) (t3 : T ≠ TF) (t4 : T ≠ TI) : ¬ mS gm vm vs vo g := by
 rintro (rfl | e | e | e)
 ·exact bk_ne hb h.mB t1 rfl
 ·exact own_ty h.om hb t2 e
 ·exact own_ty h.os hb t3 e
 ·exact own_ty h.oo hb t4 e
theorem MSt.fr (h : MSt TM TV TF TI base gm vm vs vo m W) {S : Nat → Prop} (hf : Fr S W W') (hs : ∀ k, mS gm vm vs vo k → ¬ S k) : MSt TM TV TF TI base gm vm vs vo m W' :=
 ⟨h.h8, hf.bk h.mB (hs _ (.inl rfl)), hf.own h.om fun g e => hs g (.inr (.inl e)), hf.own h.os fun g e => hs g (.inr (.inr (.inl e))), hf.own h.oo fun g e => hs g (.inr (.inr (.inr e)))⟩
theorem MSt.below (h : MSt TM TV TF TI base gm vm vs vo m W) (hb : Below W.heap.size W W') : MSt TM TV TF TI base gm vm vs vo m W' :=
 ⟨h.h8, bk_keep hb h.mB, h.om.below hb, h.os.below hb, h.oo.below hb⟩
theorem MSt.lt (h : MSt TM TV TF TI base gm vm vs vo m W) {k : Nat} (hk : mS gm vm vs vo k) : k < W.heap.size := by
 rcases hk with rfl | e | e | e
 ·exact h.mB.lt
 ·exact (own_lt h.om e).2
 ·exact (own_lt h.os e).2
 ·exact (own_lt h.oo e).2
theorem MSt.put (h : MSt TM TV TF TI base gm vm vs vo m W) (t2 : TM ≠ TV) (t3 : TM ≠ TF) (t4 : TM ≠ TI) (i : Nat) (us : List Value) {m' : MV} (h8 : m'.R.length = 8) (e1 : m'.mem = m.mem) (e2 : m'.stk = m.stk) (e3 : m'.out = m.out)
  (e : (setL (cls m.R ++ [.int .i64 m.c.perm, .int .i64 m.c.base, .int .i64 m.c.len, .int .i64 m.c.at_, .int .i64 m.c.seal_, vm, vs, vo]) i us).toArray = mcs m'.R m'.c vm vs vo) :
  MSt TM TV TF TI base gm vm vs vo m' (W.setCells gm i us) :=
 ⟨h8, e ▸ bk_setCells (w := W) us _ i W h.mB, e1 ▸ own_setCells_bk h.om h.mB t2 i us, e2 ▸ own_setCells_bk h.os h.mB t3 i us, e3 ▸ own_setCells_bk h.oo h.mB t4 i us⟩
end
end Go.Proofs.YtpjhjefjbkjhkaaGreatDoor
