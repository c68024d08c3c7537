import Derived.BigQuiet
import Derived.Deep.QuietTactic
import Derived.IntWalk
import Derived.StillTailTactics
import Derived.Test.YtmmmmeeepieemaaDoorBuC
import Derived.Test.YtmmmmeeepieemaaDoorBuE
import Derived.Test.YtmmmmeeepieemaaDoorMachCheckZ
import Derived.Test.YtmmmmeeepieemaaDoorMachCopiedZ
/- What the broom of package sweep does. -/
namespace Go.Proofs.YtmmmmeeepieemaaDoor
open Go.RowKit
set_option linter.unusedVariables false
set_option linter.unusedSimpArgs false
end Go.Proofs.YtmmmmeeepieemaaDoor
/- The state of a machine of the call's own, and what stores into it leave. -/
namespace Go.Proofs.YtmmmmeeepieemaaDoor
open El (cl)
open Go.RowKit
set_option linter.unusedVariables false
set_option linter.unusedSimpArgs false
theorem setL_app_left : ∀ (us l m : List Value) (i : Nat), i + us.length ≤ l.length → setL (l ++ m) i us = setL l i us ++ m
  | [], l, m, i, _ => rfl
  | u :: us, l, m, i, h => by
    rw [List.length_cons] at h
    rw [setL, setL, List.set_append_left _ _ (by omega), setL_app_left us (l.set i u) m (i + 1) (by rw [List.length_set]; omega)]
theorem setL_app_right : ∀ (us l m : List Value) (i : Nat), setL (l ++ m) (l.length + i) us = l ++ setL m i us
  | [], l, m, i => rfl
  | u :: us, l, m, i => by
    rw [setL, setL, List.set_append_right _ _ (by omega), Nat.add_sub_cancel_left, show l.length + i + 1 = l.length + (i + 1) by omega, setL_app_right us l (m.set i u) (i + 1)]
theorem setL_part {α : Type} [El α] : ∀ {xs : List α} {i j : Nat} {x y : α} {us : List Value}, xs[i]? = some x → j + us.length ≤ El.k α → cl y = setL (cl x) j us → setL (cls xs) (i * El.k α + j) us = cls (xs.set i y)
  | [], i, j, x, y, us, h, _, _ => by simp at h
  | z :: xs, 0, j, x, y, us, h, hj, hc => by
    simp at h
    subst h
    rw [cls_cons, List.set_cons_zero, cls_cons, Nat.zero_mul, Nat.zero_add, setL_app_left _ _ _ _ (by rw [El.len]; exact hj), hc]
  | z :: xs, i + 1, j, x, y, us, h, hj, hc => by
    rw [cls_cons, List.set_cons_succ, cls_cons]
    have e : (i + 1) * El.k α + j = (cl z).length + (i * El.k α + j) := by rw [El.len, Nat.add_mul]; omega
    rw [e, setL_app_right, setL_part (by simpa using h) hj hc]
theorem bk_setCells {w : World} {g : Nat} {T : TypeId} : ∀ (us l : List Value) (i : Nat) (w : World), Bk w g T l.toArray → Bk (w.setCells g i us) g T (setL l i us).toArray
  | [], l, i, w, h => h
  | u :: us, l, i, w, h => by
    have h1 := bk_set i u h
    rw [List.setIfInBounds_toArray] at h1
    exact bk_setCells (w := w) (g := g) us (l.set i u) (i + 1) _ h1
theorem grown_setCells (g : Nat) : ∀ (us : List Value) (i : Nat) (w : World), w.grownBy (w.setCells g i us) (some g)
  | [], i, w => World.grownBy.refl w _
  | u :: us, i, w => by
    have h1 : w.grownBy (w.setCell ⟨g, i, none⟩ u) (some g) := ⟨rfl, rfl, rfl, by simp [World.setCell], fun k _ hk => Below.heap_setCell w _ u k (fun e => hk (by rw [e]))⟩
    exact h1.trans (grown_setCells g us (i + 1) _)
theorem below_setCells {a b : World} (h : Below a.heap.size a b) {g : Nat} (hg : a.heap.size ≤ g) (i : Nat) (us : List Value) : Below a.heap.size a (b.setCells g i us) :=
  h.grown (grown_setCells g us i b) h.size (fun k e => by injection e with e; omega)
theorem bk_setCells_far {w : World} {g h : Nat} {T : TypeId} {cs : Array Value} (hb : Bk w h T cs) (hne : h ≠ g) (i : Nat) (us : List Value) : Bk (w.setCells g i us) h T cs :=
  ((grown_setCells g us i w).block h hb.lt (fun e => hne (by injection e))).trans hb
theorem own_part {α : Type} [El α] {w : World} {base : Nat} {T : TypeId} {xs : List α} {g cap i j : Nat} {x y : α} {us : List Value} (h : Own w base T (.slice (some ⟨g, 0, none⟩) xs.length cap) xs) (hx : xs[i]? = some x) (hj : j + us.length ≤ El.k α) (hc : cl y = setL (cl x) j us) :
    Own (w.setCells g (i * El.k α + j) us) base T (.slice (some ⟨g, 0, none⟩) xs.length cap) (xs.set i y) := by
  obtain ⟨h1, _⟩ := row_stored (w := w) us w (cls xs) (i * El.k α + j) h
  rw [setL_part hx hj hc] at h1
  unfold Own
  rw [List.length_set]
  exact h1
theorem own_setCells_bk {α : Type} [El α] {w : World} {base : Nat} {T : TypeId} {v : Value} {xs : List α} (h : Own w base T v xs) {g : Nat} {T' : TypeId} {cs : Array Value} (hg : Bk w g T' cs) (hT : T' ≠ T) (i : Nat) (us : List Value) : Own (w.setCells g i us) base T v xs := by
  refine h.kept (grown_setCells g us i w) ?_
  rcases h.2 with ⟨rfl, _⟩ | ⟨g', cap, cur, rfl, _, hg', _⟩
  · exact .inl rfl
  · right
    intro e
    simp [Value.ownBlock] at e
    subst e
    unfold Bk at hg
    rw [hg] at hg'
    injection hg' with hg'
    injection hg' with _ ht _
    exact hT ht
theorem own_setCells_own {α β : Type} [El α] [El β] {w : World} {base base' : Nat} {T T' : TypeId} {v : Value} {xs : List α} {ys : List β} (h : Own w base T v xs) {g n cap : Nat} (hg : Own w base' T' (.slice (some ⟨g, 0, none⟩) n cap) ys) (hT : T' ≠ T) (i : Nat) (us : List Value) : Own (w.setCells g i us) base T v xs := by
  obtain ⟨cur, hcur⟩ : ∃ cur, Bk w g T' cur := by
    rcases hg.2 with ⟨e, _⟩ | ⟨g', c, cur, e, _, hg', _⟩
    · cases e
    · injection e with e _ _
      injection e with e
      injection e with e _ _
      subst e
      exact ⟨cur, hg'⟩
  exact own_setCells_bk h hcur hT i us
theorem own_bk_ne {α : Type} [El α] {w : World} {base : Nat} {T : TypeId} {xs : List α} {g n cap : Nat} (h : Own w base T (.slice (some ⟨g, 0, none⟩) n cap) xs) {k : Nat} {T' : TypeId} {cs : Array Value} (hk : Bk w k T' cs) (hT : T' ≠ T) : g ≠ k := by
  rintro rfl
  rcases h.2 with ⟨e, _⟩ | ⟨g', c, cur, e, _, hg', _⟩
  · cases e
  · injection e with e _ _
    injection e with e
    injection e with e _ _
    subst e
    unfold Bk at hk
    rw [hk] at hg'
    injection hg' with hg'
    injection hg' with _ ht _
    exact hT ht
theorem setCells_one (w : World) (g i : Nat) (v : Value) : w.setCells g i [v] = w.setCell ⟨g, i, none⟩ v := rfl
theorem mcs_regset {R : List ValV} {c : KeyV} {ms ss os : Value} (h8 : R.length = 8) {k : Nat} {x y : ValV} (hx : R[k]? = some x) {us : List Value} (hu : us = cl y) : (setL (cls R ++ [.int .i64 c.perm, .int .i64 c.base, .int .i64 c.len, .int .i64 c.at_, .int .i64 c.seal_, ms, ss, os]) (k * 7) us).toArray = mcs (R.set k y) c ms ss os := by
  have hk : k < 8 := by have := (List.getElem?_eq_some_iff.1 hx).1; omega
  have e7 : El.k ValV = 7 := rfl
  have hl : us.length = 7 := by rw [hu, El.len]; rfl
  unfold mcs
  rw [setL_app_left _ _ _ _ (by rw [regs_cells h8, hl]; omega)]
  have := setL_part (y := y) (j := 0) (us := us) hx (by rw [hl, e7]; exact Nat.le_refl _) (by
    rw [hu, setL_eq _ _ _ (by rw [El.len, El.len, e7]; exact Nat.le_refl _), List.take_zero, List.nil_append, List.drop_of_length_le (by rw [El.len, El.len]; omega), List.append_nil])
  rw [e7, Nat.add_zero] at this
  rw [this]
theorem mcs_codeset {R : List ValV} {c d : KeyV} {ms ss os : Value} (h8 : R.length = 8) : (setL (cls R ++ [.int .i64 c.perm, .int .i64 c.base, .int .i64 c.len, .int .i64 c.at_, .int .i64 c.seal_, ms, ss, os]) 56 [.int .i64 d.perm, .int .i64 d.base, .int .i64 d.len, .int .i64 d.at_, .int .i64 d.seal_]).toArray = mcs R d ms ss os := by
  unfold mcs
  rw [show 56 = (cls R).length + 0 by rw [regs_cells h8], setL_app_right]
  rfl
/-- A load of a part of a block at the head of a region that draws its order. -/
theorem wpStill_load_sub {P : Program} {ops : Array Oper} {w : World} {Q : Act → Prop} {a : Act} {o : Oper} {rest : List Oper} (hgd : o.guard = none) (ty : TypeId) (x : Operand) (ho : o.op = .load ty x)
    (g off k : Nat) (hx : a.eval x = .pointer (some ⟨g, off, none⟩)) (t : TypeId) (cs : Array Value) (d : TypeDesc) (hg : w.heap[g]? = some (.cells cs t (0, 0)))
    (hu : P.underlying ty = some d) (hd : (match d with | .struct _ | .array _ _ => true | _ => false) = true) (hi : (P.info? ty).map (·.size) = some k) (hk : off + k ≤ cs.size) (u : Array Value) (he : cs.extract off (off + k) = u)
    (h : wpStill P ops w Q rest (a.put o.dst (.agg u))) : wpStill P ops w Q (o :: rest) a := by
  refine wpStill_step (fun K hK => ?_)
  have hw : Region.wanted o (yielded ops a.tmps) = true := by simp [Region.wanted, hgd]
  rw [if_pos hw]
  unfold Oper.still execOp
  simp only [ho, hx, Instr.loadAt, Instr.sureAddr, Sem.run_bind, Sem.run_pure, Result.andThen_ok, run_loadVar_sub w g off t ty cs _ d k hg hu hd hi hk, he, Oper.stillUpon]
  exact ⟨trivial, hK _ h⟩
theorem step_load_sub {P : Program} {ops : Array Oper} {o : Oper} {a : Act} {w : World} {K : Act → World → Prop} {Q : Exit → Act → World → Prop} {E : Prop}
    (hgd : o.guard = none) (ty : TypeId) (x : Operand) (ho : o.op = .load ty x)
    (g off k : Nat) (hx : a.eval x = .pointer (some ⟨g, off, none⟩)) (t : TypeId) (cs : Array Value) (d : TypeDesc) (hg : w.heap[g]? = some (.cells cs t (0, 0)))
    (hu : P.underlying ty = some d) (hd : (match d with | .struct _ | .array _ _ => true | _ => false) = true) (hi : (P.info? ty).map (·.size) = some k) (hk : off + k ≤ cs.size) (u : Array Value) (he : cs.extract off (off + k) = u)
    (hK : K (a.put o.dst (.agg u)) w) : if Region.wanted o (yielded ops a.tmps) = true then Oper.wp P o a w K Q else E := by
  have hw : Region.wanted o (yielded ops a.tmps) = true := by simp [Region.wanted, hgd]
  rw [if_pos hw]
  exact wp_load_sub ty x ho g off k hx t cs d hg hu hd hi hk (he ▸ hK)
theorem step_store_row {P : Program} {ops : Array Oper} {o : Oper} {a : Act} {w : World} {K : Act → World → Prop} {Q : Exit → Act → World → Prop} {E : Prop}
    (hgd : o.guard = none) (ty : TypeId) (x y : Operand) (ho : o.op = .store ty x y)
    (g : Nat) (cells : Array Value) (hx : a.eval x = .pointer (some ⟨g, 0, none⟩)) (hy : a.eval y = .agg cells)
    (t : TypeId) (old : Array Value) (hg : w.heap[g]? = some (.cells old t (0, 0))) (hi : (P.info? ty).map (·.size) = some cells.size)
    (hold : old.size = cells.size) (h1 : cells.all (·.oneCell') = true)
    (hK : K (a.put o.dst undef) (w.setRow g cells)) : if Region.wanted o (yielded ops a.tmps) = true then Oper.wp P o a w K Q else E := by
  have hw : Region.wanted o (yielded ops a.tmps) = true := by simp [Region.wanted, hgd]
  rw [if_pos hw]
  exact wp_store_row ty x y ho g cells hx hy t old hg hi hold h1 hK
theorem results_row3 {P : Program} {fn : Func} {p q r : Tmp} {ty : TypeId} (h : fn.results = #[.cell p ty, .tmp q, .tmp r]) (tmps : Array Value) (w : World) (g : Nat) (t : TypeId) (cs : Array Value) (fr : Nat × Nat) (d : TypeDesc)
    (hp : tmps.getD p undef = .pointer (some ⟨g, 0, none⟩)) (hg : w.heap[g]? = some (.cells cs t fr))
    (hu : P.underlying ty = some d) (hd : (match d with | .struct _ | .array _ _ => true | _ => false) = true) (hi : (P.info? ty).map (·.size) = some cs.size) :
    (results fn tmps).run P w = .ok (.tuple #[.agg cs, tmps.getD q undef, tmps.getD r undef]) w := by
  have hp' : tmps[p]?.getD undef = .pointer (some ⟨g, 0, none⟩) := by simpa using hp
  simp [results, h, hp', asAddr, run_loadVar_row w g t ty cs fr d hg hu hd hi]
theorem own_at {α : Type} [El α] {w : World} {base : Nat} {T : TypeId} {ao : Option Addr} {n cap : Nat} {xs : List α} (h : Own w base T (.slice ao n cap) xs) {k : Nat} {x : α} (hx : xs[k]? = some x) :
    ∃ g, ao = some ⟨g, 0, none⟩ ∧ xs.length = n ∧ base ≤ g ∧ g < w.heap.size ∧ (∀ j, w.frozen? ⟨g, j, none⟩ = false) ∧ ∀ j u, (cl x)[j]? = some u → w.cell? ⟨g, k * El.k α + j, none⟩ = some u := by
  have hk : k < xs.length := (List.getElem?_eq_some_iff.1 hx).1
  obtain ⟨g, c, e, h1, h2, hs, hf⟩ := Own.some h (by omega)
  injection e with e1 e2 e3
  refine ⟨g, e1, e2.symm, h1, h2, hf, fun j u hu => ?_⟩
  obtain ⟨a, y, ea, _, hy, hc⟩ := hs.at hk
  injection ea with ea
  subst ea
  obtain rfl : y = x := by rw [hx] at hy; injection hy with hy; exact hy.symm
  have := hc j u hu
  rw [Addr.add_lit, Nat.zero_add] at this
  exact this
/-- The state while a sweep goes on. -/
structure SwSt (w Z : World) (gm gb base : Nat) (TM TB TV TF TI : TypeId) (b n : Int) (vm vs vo : Value) (R : List ValV) (c : KeyV) (mem : List ValV) (stk : List FrameV) (out : List Int) (cnt : Int) (W : World) : Prop where
  h8 : R.length = 8
  mB : Bk W gm TM (mcs R c vm vs vo)
  bB : Bk W gb TB #[.int .i64 b, .int .i64 n, .int .i64 cnt]
  om : Own W base TV vm mem
  os : Own W base TF vs stk
  oo : Own W base TI vo out
  bel : Below w.heap.size w W
  bs : base ≤ W.heap.size
  keep : ∀ k, k < base → k ≠ gm → W.heap[k]? = Z.heap[k]?
section
variable {w Z : World} {gm gb base : Nat} {TM TB TV TF TI : TypeId} {b n : Int} {vm vs vo : Value} {R : List ValV} {c : KeyV} {mem : List ValV} {stk : List FrameV} {out : List Int} {cnt : Int} {W W1 : World}
theorem SwSt.below (h : SwSt w Z gm gb base TM TB TV TF TI b n vm vs vo R c mem stk out cnt W) (hb : Below W.heap.size W W1) : SwSt w Z gm gb base TM TB TV TF TI b n vm vs vo R c mem stk out cnt W1 :=
  ⟨h.h8, bk_keep hb h.mB, bk_keep hb h.bB, h.om.below hb, h.os.below hb, h.oo.below hb, ext_trans h.bel hb, Nat.le_trans h.bs hb.size, fun k hk hn => (hb.block k (Nat.lt_of_lt_of_le hk h.bs)).trans (h.keep k hk hn)⟩
/-- One more was counted. -/
theorem SwSt.count (h : SwSt w Z gm gb base TM TB TV TF TI b n vm vs vo R c mem stk out cnt W) (hbase : w.heap.size ≤ base) (hgb : base ≤ gb) (t1 : TM ≠ TB) (t2 : TB ≠ TV) (t3 : TB ≠ TF) (t4 : TB ≠ TI) :
    SwSt w Z gm gb base TM TB TV TF TI b n vm vs vo R c mem stk out (cnt + 1) (W.setCell ⟨gb, 2, none⟩ (.int .i64 (cnt + 1))) :=
  ⟨h.h8, bk_far' _ (bk_ne h.mB h.bB t1) h.mB, bk_set' h.bB rfl, own_setCells_bk h.om h.bB t2 2 [.int .i64 (cnt + 1)], own_setCells_bk h.os h.bB t3 2 [.int .i64 (cnt + 1)], own_setCells_bk h.oo h.bB t4 2 [.int .i64 (cnt + 1)], ext_set h.bel (p := ⟨gb, 2, none⟩) (Nat.le_trans hbase hgb) _, by rw [show (W.setCell ⟨gb, 2, none⟩ (.int .i64 (cnt + 1))).heap.size = W.heap.size by simp [World.setCell]]; exact h.bs, fun k hk hn => (Below.heap_setCell W ⟨gb, 2, none⟩ _ k (by simp only; omega)).trans (h.keep k hk hn)⟩
theorem SwSt.mach (h : SwSt w Z gm gb base TM TB TV TF TI b n vm vs vo R c mem stk out cnt W) (hgm : w.heap.size ≤ gm) (t1 : TM ≠ TB) (t2 : TM ≠ TV) (t3 : TM ≠ TF) (t4 : TM ≠ TI) (i : Nat) (us : List Value) (R' : List ValV) (c' : KeyV) (h8 : R'.length = 8)
    (e : (setL (cls R ++ [.int .i64 c.perm, .int .i64 c.base, .int .i64 c.len, .int .i64 c.at_, .int .i64 c.seal_, vm, vs, vo]) i us).toArray = mcs R' c' vm vs vo) :
    SwSt w Z gm gb base TM TB TV TF TI b n vm vs vo R' c' mem stk out cnt (W.setCells gm i us) :=
  ⟨h8, e ▸ bk_setCells (w := W) us _ i W h.mB, bk_setCells_far h.bB (bk_ne h.mB h.bB t1).symm i us, own_setCells_bk h.om h.mB t2 i us, own_setCells_bk h.os h.mB t3 i us, own_setCells_bk h.oo h.mB t4 i us, below_setCells h.bel hgm i us, Nat.le_trans h.bs (grown_setCells gm us i W).size, fun k hk hn => ((grown_setCells gm us i W).block k (Nat.lt_of_lt_of_le hk h.bs) (fun e => hn (by injection e))).trans (h.keep k hk hn)⟩
theorem SwSt.memSet {g cap m : Nat} (h : SwSt w Z gm gb base TM TB TV TF TI b n (.slice (some ⟨g, 0, none⟩) m cap) vs vo R c mem stk out cnt W) (hm : mem.length = m) (hbase : w.heap.size ≤ base) (t1 : TM ≠ TV) (t2 : TB ≠ TV) (t3 : TV ≠ TF) (t4 : TV ≠ TI) {k : Nat} {x y : ValV} (hx : mem[k]? = some x) {us : List Value} (hu : us = cl y) :
    SwSt w Z gm gb base TM TB TV TF TI b n (.slice (some ⟨g, 0, none⟩) m cap) vs vo R c (mem.set k y) stk out cnt (W.setCells g (k * 7) us) := by
  subst hm
  have hl : us.length = 7 := by rw [hu, El.len]; rfl
  have e7 : El.k ValV = 7 := rfl
  have hg : base ≤ g := by
    rcases h.om.form with ⟨e, _⟩ | ⟨g', c', e, h1, _⟩
    · cases e
    · injection e with e _ _
      injection e with e
      injection e with e _ _
      omega
  have ho := own_part (y := y) (j := 0) (us := us) h.om hx (by rw [hl, e7]; exact Nat.le_refl _) (by
    rw [hu, setL_eq _ _ _ (by rw [El.len, El.len, e7]; exact Nat.le_refl _), List.take_zero, List.nil_append, List.drop_of_length_le (by rw [El.len, El.len]; omega), List.append_nil])
  rw [e7, Nat.add_zero] at ho
  exact ⟨h.h8, bk_setCells_far h.mB (own_bk_ne h.om h.mB t1).symm _ us, bk_setCells_far h.bB (own_bk_ne h.om h.bB t2).symm _ us, ho, own_setCells_own h.os h.om t3 _ us, own_setCells_own h.oo h.om t4 _ us, below_setCells h.bel (Nat.le_trans hbase hg) _ us, Nat.le_trans h.bs (grown_setCells g us _ W).size, fun k' hk hn => ((grown_setCells g us _ W).block k' (Nat.lt_of_lt_of_le hk h.bs) (fun e => by injection e; omega)).trans (h.keep k' hk hn)⟩
theorem SwSt.stkSet {g cap m : Nat} (h : SwSt w Z gm gb base TM TB TV TF TI b n vm (.slice (some ⟨g, 0, none⟩) m cap) vo R c mem stk out cnt W) (hm : stk.length = m) (hbase : w.heap.size ≤ base) (t1 : TM ≠ TF) (t2 : TB ≠ TF) (t3 : TF ≠ TV) (t4 : TF ≠ TI) {k j : Nat} {x y : FrameV} (hx : stk[k]? = some x) {us : List Value} (hj : j + us.length ≤ 12) (hc : cl y = setL (cl x) j us) :
    SwSt w Z gm gb base TM TB TV TF TI b n vm (.slice (some ⟨g, 0, none⟩) m cap) vo R c mem (stk.set k y) out cnt (W.setCells g (k * 12 + j) us) := by
  subst hm
  have hg : base ≤ g := by
    rcases h.os.form with ⟨e, _⟩ | ⟨g', c', e, h1, _⟩
    · cases e
    · injection e with e _ _
      injection e with e
      injection e with e _ _
      omega
  exact ⟨h.h8, bk_setCells_far h.mB (own_bk_ne h.os h.mB t1).symm _ us, bk_setCells_far h.bB (own_bk_ne h.os h.bB t2).symm _ us, own_setCells_own h.om h.os t3 _ us, own_part h.os hx hj hc, own_setCells_own h.oo h.os t4 _ us, below_setCells h.bel (Nat.le_trans hbase hg) _ us, Nat.le_trans h.bs (grown_setCells g us _ W).size, fun k' hk hn => ((grown_setCells g us _ W).block k' (Nat.lt_of_lt_of_le hk h.bs) (fun e => by injection e; omega)).trans (h.keep k' hk hn)⟩
end
end Go.Proofs.YtmmmmeeepieemaaDoor
/- A world in which all but some blocks are as they were; a machine in memory. -/
namespace Go.Proofs.YtmmmmeeepieemaaDoor
open Go.RowKit
set_option linter.unusedVariables false
/-- All blocks but those of S are as they were. -/
structure Fr (S : Nat → Prop) (w w' : World) : Prop where
  os : w'.os = w.os
  tape : w'.tape = w.tape
  output : w'.output = w.output
  size : w.heap.size ≤ w'.heap.size
  block : ∀ k, k < w.heap.size → ¬ S k → w'.heap[k]? = w.heap[k]?
theorem Fr.refl (S : Nat → Prop) (w : World) : Fr S w w := ⟨rfl, rfl, rfl, Nat.le_refl _, fun _ _ _ => rfl⟩
theorem Fr.trans {S S' : Nat → Prop} {a b c : World} (h : Fr S a b) (k : Fr S' b c) (hs : ∀ i, i < a.heap.size → S' i → S i) : Fr S a c :=
  ⟨k.os.trans h.os, k.tape.trans h.tape, k.output.trans h.output, Nat.le_trans h.size k.size, fun i hi hn => (k.block i (Nat.lt_of_lt_of_le hi h.size) (fun h' => hn (hs i hi h'))).trans (h.block i hi hn)⟩
theorem Fr.of {S : Nat → Prop} {w w' : World} (h : Below w.heap.size w w') : Fr S w w' := ⟨h.os, h.tape, h.output, h.size, fun k hk _ => h.block k hk⟩
theorem Fr.grown {S : Nat → Prop} {w w' : World} {row : Option Nat} (h : w.grownBy w' row) (hr : ∀ k, row = some k → S k ∨ w.heap.size ≤ k) : Fr S w w' :=
  ⟨h.os, h.tape, h.output, h.size, fun k hk hn => h.block k hk (fun e => by rcases hr k e.symm with h | h; exact hn h; omega)⟩
theorem Fr.drew (S : Nat → Prop) (w : World) : Fr S w w.drew := ⟨rfl, rfl, rfl, Nat.le_refl _, fun _ _ _ => rfl⟩
theorem Fr.alloc (S : Nat → Prop) (w : World) (o : Obj) : Fr S w (w.alloc o) := Fr.of ((Below.refl _ _).alloc (Nat.le_refl _) o)
theorem Fr.setCell {S : Nat → Prop} (w : World) {p : Addr} (hp : S p.block) (v : Value) : Fr S w (w.setCell p v) :=
  ⟨rfl, rfl, rfl, by simp [World.setCell], fun k hk hn => Below.heap_setCell w p v k (fun e => hn (e ▸ hp))⟩
theorem Fr.setCells {S : Nat → Prop} (w : World) {g : Nat} (hp : S g) (i : Nat) (us : List Value) : Fr S w (w.setCells g i us) :=
  Fr.grown (grown_setCells g us i w) (fun k e => by injection e with e; subst e; exact .inl hp)
theorem Fr.mono {S S' : Nat → Prop} {a b : World} (h : Fr S a b) (hs : ∀ i, i < a.heap.size → S i → S' i) : Fr S' a b :=
  ⟨h.os, h.tape, h.output, h.size, fun i hi hn => h.block i hi (fun h' => hn (hs i hi h'))⟩
/-- What lies before all of S stays. -/
theorem Fr.below {S : Nat → Prop} {w0 a b : World} (h : Fr S a b) (hb : Below w0.heap.size w0 a) (hs : ∀ i, S i → w0.heap.size ≤ i) : Below w0.heap.size w0 b :=
  hb.trans ⟨h.os, h.tape, h.output, h.size, fun i hi => h.block i (Nat.lt_of_lt_of_le hi hb.size) (fun h' => by have := hs i h'; omega)⟩
theorem Fr.bk {S : Nat → Prop} {w w' : World} (h : Fr S w w') {g : Nat} {T : TypeId} {cs : Array Value} (hb : Bk w g T cs) (hn : ¬ S g) : Bk w' g T cs := (h.block g hb.lt hn).trans hb
/-- An owned row in a world that has its block. -/
theorem own_heap {α : Type} [El α] {w w' : World} {base : Nat} {T : TypeId} {v : Value} {xs : List α} (h : Own w base T v xs) (hk : ∀ g, v.ownBlock = some g → w'.heap[g]? = w.heap[g]?) : Own w' base T v xs := by
  refine ⟨h.1, ?_⟩
  rcases h.2 with hn | ⟨g, cap, cur, h1, h2, h3, h4⟩
  · exact .inl hn
  · exact .inr ⟨g, cap, cur, h1, h2, (hk g (by rw [h1]; rfl)).trans h3, h4⟩
theorem own_lt {α : Type} [El α] {w : World} {base : Nat} {T : TypeId} {v : Value} {xs : List α} (h : Own w base T v xs) {g : Nat} (hg : v.ownBlock = some g) : base ≤ g ∧ g < w.heap.size := by
  rcases h.form with ⟨rfl, _⟩ | ⟨g', cap, rfl, h1, h2, _⟩
  · cases hg
  · injection hg with hg; subst hg; exact ⟨h1, h2⟩
theorem Fr.own {S : Nat → Prop} {w w' : World} (h : Fr S w w') {α : Type} [El α] {base : Nat} {T : TypeId} {v : Value} {xs : List α} (ho : Own w base T v xs) (hn : ∀ g, v.ownBlock = some g → ¬ S g) : Own w' base T v xs :=
  own_heap ho fun g hg => h.block g (own_lt ho hg).2 (hn g hg)
/-- A machine: its block, and its memory, stack and numbers in rows of its own. -/
structure MSt (TM TV TF TI : TypeId) (base gm : Nat) (vm vs vo : Value) (m : MV) (W : World) : Prop where
  h8 : m.R.length = 8
  mB : Bk W gm TM (mcs m.R m.c vm vs vo)
  om : Own W base TV vm m.mem
  os : Own W base TF vs m.stk
  oo : Own W base TI vo m.out
/-- The blocks of a machine. -/
def mS (gm : Nat) (vm vs vo : Value) (k : Nat) : Prop := k = gm ∨ vm.ownBlock = some k ∨ vs.ownBlock = some k ∨ vo.ownBlock = some k
section
variable {TM TV TF TI : TypeId} {base gm : Nat} {vm vs vo : Value} {m : MV} {W W' : World}
theorem own_ty {α : Type} [El α] {w : World} {base : Nat} {T : TypeId} {v : Value} {xs : List α} (h : Own w base T v xs) {k : Nat} {T' : TypeId} {cs : Array Value} (hk : Bk w k T' cs) (hT : T' ≠ T) : v.ownBlock ≠ some k := by
  intro e
  rcases h.form with ⟨rfl, _⟩ | ⟨g', cap, rfl, _⟩
  · cases e
  · injection e with e; exact own_bk_ne h hk hT e
/-- A block of another type is none of a machine's. -/
theorem MSt.not (h : MSt TM TV TF TI base gm vm vs vo m W) {g : Nat} {T : TypeId} {cs : Array Value} (hb : Bk W g T cs) (t1 : T ≠ TM) (t2 : T ≠ TV) (t3 : T ≠ TF) (t4 : T ≠ TI) : ¬ mS gm vm vs vo g := by
  rintro (rfl | e | e | e)
  · exact bk_ne hb h.mB t1 rfl
  · exact own_ty h.om hb t2 e
  · exact own_ty h.os hb t3 e
  · exact own_ty h.oo hb t4 e
theorem MSt.fr (h : MSt TM TV TF TI base gm vm vs vo m W) {S : Nat → Prop} (hf : Fr S W W') (hs : ∀ k, mS gm vm vs vo k → ¬ S k) : MSt TM TV TF TI base gm vm vs vo m W' :=
  ⟨h.h8, hf.bk h.mB (hs _ (.inl rfl)), hf.own h.om fun g e => hs g (.inr (.inl e)), hf.own h.os fun g e => hs g (.inr (.inr (.inl e))), hf.own h.oo fun g e => hs g (.inr (.inr (.inr e)))⟩
theorem MSt.below (h : MSt TM TV TF TI base gm vm vs vo m W) (hb : Below W.heap.size W W') : MSt TM TV TF TI base gm vm vs vo m W' :=
  ⟨h.h8, bk_keep hb h.mB, h.om.below hb, h.os.below hb, h.oo.below hb⟩
theorem MSt.lt (h : MSt TM TV TF TI base gm vm vs vo m W) {k : Nat} (hk : mS gm vm vs vo k) : k < W.heap.size := by
  rcases hk with rfl | e | e | e
  · exact h.mB.lt
  · exact (own_lt h.om e).2
  · exact (own_lt h.os e).2
  · exact (own_lt h.oo e).2
/-- Some cells of the machine's own block stored. -/
theorem MSt.put (h : MSt TM TV TF TI base gm vm vs vo m W) (t2 : TM ≠ TV) (t3 : TM ≠ TF) (t4 : TM ≠ TI) (i : Nat) (us : List Value) {m' : MV} (h8 : m'.R.length = 8) (e1 : m'.mem = m.mem) (e2 : m'.stk = m.stk) (e3 : m'.out = m.out)
    (e : (setL (cls m.R ++ [.int .i64 m.c.perm, .int .i64 m.c.base, .int .i64 m.c.len, .int .i64 m.c.at_, .int .i64 m.c.seal_, vm, vs, vo]) i us).toArray = mcs m'.R m'.c vm vs vo) :
    MSt TM TV TF TI base gm vm vs vo m' (W.setCells gm i us) :=
  ⟨h8, e ▸ bk_setCells (w := W) us _ i W h.mB, e1 ▸ own_setCells_bk h.om h.mB t2 i us, e2 ▸ own_setCells_bk h.os h.mB t3 i us, e3 ▸ own_setCells_bk h.oo h.mB t4 i us⟩
end
end Go.Proofs.YtmmmmeeepieemaaDoor
