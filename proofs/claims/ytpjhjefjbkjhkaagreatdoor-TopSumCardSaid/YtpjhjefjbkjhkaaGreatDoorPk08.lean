import Derived.BigRegion
import Derived.Deep.DeepCutAuto
import Derived.Laws.CopyOwn
import Derived.Test.YtpjhjefjbkjhkaaGreatDoorPk05
import Derived.Test.YtpjhjefjbkjhkaaGreatDoorPk07
set_option maxHeartbeats 40000000
set_option maxRecDepth 100000
set_option linter.unusedVariables false
set_option linter.unusedSimpArgs false
namespace Go.Proofs.YtpjhjefjbkjhkaaGreatDoor
open Go.RowKit
def zmc : Array Value := #[.bool false, .int .i64 0, .int .i64 0, .int .i64 0, .int .i64 0, .int .i64 0, .int .i64 0, .bool false, .int .i64 0, .int .i64 0, .int .i64 0, .int .i64 0, .int .i64 0, .int .i64 0, .bool false, .int .i64 0, .int .i64 0, .int .i64 0, .int .i64 0, .int .i64 0, .int .i64 0, .bool false, .int .i64 0, .int .i64 0, .int .i64 0, .int .i64 0, .int .i64 0, .int .i64 0, .bool false, .int .i64 0, .int .i64 0, .int .i64 0, .int .i64 0, .int .i64 0, .int .i64 0, .bool false, .int .i64 0, .int .i64 0, .int .i64 0, .int .i64 0, .int .i64 0, .int .i64 0, .bool false, .int .i64 0, .int .i64 0, .int .i64 0, .int .i64 0, .int .i64 0, .int .i64 0, .bool false, .int .i64 0, .int .i64 0, .int .i64 0, .int .i64 0, .int .i64 0, .int .i64 0, .int .i64 0, .int .i64 0, .int .i64 0, .int .i64 0, .int .i64 0, .slice none 0 0, .slice none 0 0, .slice none 0 0]
def zeroR : List ValV := List.replicate 8 zeroV
theorem zmc_eq : mcs zeroR zeroK (.slice none 0 0) (.slice none 0 0) (.slice none 0 0) = zmc := rfl
theorem mcs_set61 {R : List ValV} {c : KeyV} {a b d : Value} (h : R.length = 8) (x : Value) : (mcs R c a b d).setIfInBounds 61 x = mcs R c x b d := by
 unfold mcs
 rw [List.setIfInBounds_toArray, show 61 = (cls R).length + 5 by rw [regs_cells h], List.set_append_right _ _ (by omega), Nat.add_sub_cancel_left]
 rfl
theorem mcs_set62 {R : List ValV} {c : KeyV} {a b d : Value} (h : R.length = 8) (x : Value) : (mcs R c a b d).setIfInBounds 62 x = mcs R c a x d := by
 unfold mcs
 rw [List.setIfInBounds_toArray, show 62 = (cls R).length + 6 by rw [regs_cells h], List.set_append_right _ _ (by omega), Nat.add_sub_cancel_left]
 rfl
theorem mcs_set63 {R : List ValV} {c : KeyV} {a b d : Value} (h : R.length = 8) (x : Value) : (mcs R c a b d).setIfInBounds 63 x = mcs R c a b x := by
 unfold mcs
 rw [List.setIfInBounds_toArray, show 63 = (cls R).length + 7 by rw [regs_cells h], List.set_append_right _ _ (by omega), Nat.add_sub_cancel_left]
 rfl
def MPost (w : World) (R : List ValV) (c : KeyV) (mem : List ValV) (stk : List FrameV) (out : List Int) (e : Ending) (w' : World) : Prop :=
 ∃ vm vs vo, e = .returned (.agg (mcs R c vm vs vo)) ∧ Own w' w.heap.size 68 vm mem ∧ Own w' w.heap.size 193 vs stk ∧ Own w' w.heap.size 3 vo out ∧ Below w.heap.size w w'
def CopCut (w : World) (R : List ValV) (c : KeyV) (mem : List ValV) (stk : List FrameV) (out : List Int) (W : World) : Prop :=
 ∃ vm vs vo, Bk W w.heap.size 72 (mcs R c vm vs vo) ∧ Bk W (w.heap.size + 1) 72 zmc ∧ Own W w.heap.size 68 vm mem ∧ Own W w.heap.size 193 vs stk ∧ Own W w.heap.size 3 vo out ∧ Below w.heap.size w W
theorem own_farB {α : Type} [El α] {w : World} {base m : Nat} {T : TypeId} {v : Value} {xs : List α} (h : Own w base T v xs) {p : Addr} (hp : p.block < base) (hb : m ≤ base) (u : Value) : Own (w.setCell p u) m T v xs :=
 (show Own (w.setCell p u) base T v xs from ownsRow_setCell_below h hp u).mono hb
theorem ownsOne {v : Value} {w : World} {base : Nat} {T : TypeId} {α : Type} [El α] {xs : List α} (h : Own w base T v xs) : v.oneCell' = true := by
 obtain ⟨a, c, rfl, _⟩ := h.sl
 rfl
theorem mcs_one {R : List ValV} {c : KeyV} {ms ss os : Value} (h1 : ms.oneCell' = true) (h2 : ss.oneCell' = true) (h3 : os.oneCell' = true) : (mcs R c ms ss os).all (·.oneCell') = true := by
 rw [Array.all_eq_true']
 intro u hu
 unfold mcs at hu
 rw [List.mem_toArray, List.mem_append] at hu
 rcases hu with hu | hu
 ·exact cls_oneCell R u hu
 ·simp at hu
  rcases hu with rfl | rfl | rfl | rfl | rfl | rfl | rfl | rfl
  all_goals first | rfl | assumption
theorem bk_setRow {w : World} {g : Nat} {T : TypeId} {cs : Array Value} (h : Bk w g T cs) (ds : Array Value) : Bk (w.setRow g ds) g T ds := setRow_heap w g cs ds T (0, 0) h
theorem ext_setRow {a b : World} (h : Below a.heap.size a b) {g : Nat} (hg : a.heap.size ≤ g) (cs : Array Value) : Below a.heap.size a (b.setRow g cs) := below_setRow h hg cs
theorem own_setRow {α : Type} [El α] {w : World} {base : Nat} {T : TypeId} {v : Value} {xs : List α} (h : Own w base T v xs) {g : Nat} {T' : TypeId} {cs : Array Value} (hg : Bk w g T' cs) (hT : T' ≠ T) (ds : Array Value) : Own (w.setRow g ds) base T v xs := by
 have hgr : w.grownBy (w.setRow g ds) (some g) := ⟨rfl, rfl, rfl, by simp, fun k _ hk => setRow_other w g k ds (fun e => hk (by rw [e]))⟩
 refine h.kept hgr ?_
 rcases h.2 with ⟨rfl, _⟩ | ⟨g', cap, cur, rfl, _, hg', _⟩
 ·exact .inl rfl
 ·right
  intro e
  simp [Value.ownBlock] at e
  subst e
  unfold Bk at hg
  rw [hg] at hg'
  injection hg' with hg'
  injection hg' with _ ht _
  exact hT ht
theorem copied_any (R : List ValV) (c : KeyV) (mem : List ValV) (stk : List FrameV) (out : List Int) (ma sa oa : Option Addr) (mc sc oc : Nat) (w : World) (h8 : R.length = 8)
  (hm : Sl w ma mem.length mem) (hs : Sl w sa stk.length stk) (ho : Sl w oa out.length out) (zm : mem.length * 56 ≤ 140737488355328) (zs : stk.length * 96 ≤ 140737488355328) (zo : out.length * 8 ≤ 140737488355328) :
  Calls Tryz.prog 60 #[.agg (mcs R c (.slice ma mem.length mc) (.slice sa stk.length sc) (.slice oa out.length oc))] w (MPost w R c mem stk out) := by
 have hsz := mcs_size (c := c) (ms := .slice ma mem.length mc) (ss := .slice sa stk.length sc) (os := .slice oa out.length oc) h8
 have hhi := mcs_hi (c := c) (ms := .slice ma mem.length mc) (ss := .slice sa stk.length sc) (os := .slice oa out.length oc) h8
 obtain ⟨cs, hcs⟩ : ∃ cs, cs = mcs R c (.slice ma mem.length mc) (.slice sa stk.length sc) (.slice oa out.length oc) := ⟨_, rfl⟩
 rw [← hcs] at hsz hhi ⊢
 obtain ⟨w1, hw1⟩ : ∃ w1, w1 = (w.alloc (.cells cs 72)).alloc (.cells #[.bool false, .int .i64 0, .int .i64 0, .int .i64 0, .int .i64 0, .int .i64 0, .int .i64 0, .bool false, .int .i64 0, .int .i64 0, .int .i64 0, .int .i64 0, .int .i64 0, .int .i64 0, .bool false, .int .i64 0, .int .i64 0, .int .i64 0, .int .i64 0, .int .i64 0, .int .i64 0, .bool false, .int .i64 0, .int .i64 0, .int .i64 0, .int .i64 0, .int .i64 0, .int .i64 0, .bool false, .int .i64 0, .int .i64 0, .int .i64 0, .int .i64 0, .int .i64 0, .int .i64 0, .bool false, .int .i64 0, .int .i64 0, .int .i64 0, .int .i64 0, .int .i64 0, .int .i64 0, .bool false, .int .i64 0, .int .i64 0, .int .i64 0, .int .i64 0, .int .i64 0, .int .i64 0, .bool false, .int .i64 0, .int .i64 0, .int .i64 0, .int .i64 0, .int .i64 0, .int .i64 0, .int .i64 0, .int .i64 0, .int .i64 0, .int .i64 0, .int .i64 0, .slice none 0 0, .slice none 0 0, .slice none 0 0] 72) := ⟨_, rfl⟩
 have hB : Bk w1 w.heap.size 72 cs := by rw [hw1]; exact bk_old _ (bk_new _ _ _)
 have hB2 : Bk w1 (w.heap.size + 1) 72 zmc := by rw [hw1]; exact bk_new' _ _ (by simp)
 have h1w : Below w.heap.size w w1 := by rw [hw1]; exact ext_alloc (ext_alloc (Below.refl _ _) _) _
 have q61 : ∀ x : Later w1, x.val.cell? ⟨w.heap.size, 61, none⟩ = some (.slice ma mem.length mc) := fun x => ((x.bk hB).cell _).trans (hhi 5)
 have q62 : ∀ x : Later w1, x.val.cell? ⟨w.heap.size, 62, none⟩ = some (.slice sa stk.length sc) := fun x => ((x.bk hB).cell _).trans (hhi 6)
 have q63 : ∀ x : Later w1, x.val.cell? ⟨w.heap.size, 63, none⟩ = some (.slice oa out.length oc) := fun x => ((x.bk hB).cell _).trans (hhi 7)
 have p61 : w1.cell? ⟨w.heap.size, 61, none⟩ = some (.slice ma mem.length mc) := (hB.cell _).trans (hhi 5)
 have p62 : w1.cell? ⟨w.heap.size, 62, none⟩ = some (.slice sa stk.length sc) := (hB.cell _).trans (hhi 6)
 have p63 : w1.cell? ⟨w.heap.size, 63, none⟩ = some (.slice oa out.length oc) := (hB.cell _).trans (hhi 7)
 have qf : ∀ (x : Later w1) j, x.val.frozen? ⟨w.heap.size, j, none⟩ = false := fun x j => (x.bk hB).frozen j
 have qL : ∀ x : Later w1, w.heap.size < x.val.heap.size := fun x => x.lt hB.lt
 have cv : ∀ x : Later w1, Calls Tryz.prog 53 #[.slice ma mem.length mc] x.val fun e w' => ∃ (v : Value) (y : Later w1), e = .returned v ∧ w' = y.val ∧ Own y.val x.val.heap.size 68 v mem ∧ Below x.val.heap.size x.val y.val := fun x =>
  (clone_val ma _ mc mem x.val ((hm.below h1w).below x.ok) zm).mono fun e w' ⟨v, e1, e2, e3⟩ => ⟨v, ⟨w', ext_trans x.ok e3⟩, e1, rfl, e2, e3⟩
 have cf : ∀ x : Later w1, Calls Tryz.prog 95 #[.slice sa stk.length sc] x.val fun e w' => ∃ (v : Value) (y : Later w1), e = .returned v ∧ w' = y.val ∧ Own y.val x.val.heap.size 193 v stk ∧ Below x.val.heap.size x.val y.val := fun x =>
  (clone_frame sa _ sc stk x.val ((hs.below h1w).below x.ok) zs).mono fun e w' ⟨v, e1, e2, e3⟩ => ⟨v, ⟨w', ext_trans x.ok e3⟩, e1, rfl, e2, e3⟩
 have ci : ∀ x : Later w1, Calls Tryz.prog 49 #[.slice oa out.length oc] x.val fun e w' => ∃ (v : Value) (y : Later w1), e = .returned v ∧ w' = y.val ∧ Own y.val x.val.heap.size 3 v out ∧ Below x.val.heap.size x.val y.val := fun x =>
  (clone_int oa _ oc out x.val ((ho.below h1w).below x.ok) zo).mono fun e w' ⟨v, e1, e2, e3⟩ => ⟨v, ⟨w', ext_trans x.ok e3⟩, e1, rfl, e2, e3⟩
 have fin1 : ∀ (x0 y1 y2 y3 : Later w1) {a1 a2 a3 : Option Addr} {n1 n2 n3 c1 c2 c3 : Nat}, Own y1.val x0.val.heap.size 68 (.slice a1 n1 c1) mem → Own y2.val y1.val.heap.size 193 (.slice a2 n2 c2) stk → Own y3.val y2.val.heap.size 3 (.slice a3 n3 c3) out →
   Below x0.val.heap.size x0.val y1.val → Below y1.val.heap.size y1.val y2.val → Below y2.val.heap.size y2.val y3.val →
   CopCut w R c mem stk out (((y3.val.setCell ⟨w.heap.size, 61, none⟩ (.slice a1 n1 c1)).setCell ⟨w.heap.size, 62, none⟩ (.slice a2 n2 c2)).setCell ⟨w.heap.size, 63, none⟩ (.slice a3 n3 c3)) := by
  intro x0 y1 y2 y3 a1 a2 a3 n1 n2 n3 c1 c2 c3 o1 o2 o3 b1 b2 b3
  have l0 := qL x0
  have l1 := qL y1
  have l2 := qL y2
  have hk := y3.bk hB
  rw [hcs] at hk
  refine ⟨.slice a1 n1 c1, .slice a2 n2 c2, .slice a3 n3 c3, ?_, bk_far' _ (by omega) (bk_far' _ (by omega) (bk_far' _ (by omega) (y3.bk hB2))), ?_, ?_, ?_, ext_set (ext_set (ext_set (ext_trans h1w y3.ok) (by simp) _) (by simp) _) (by simp) _⟩
  ·have k1 := bk_set 61 (.slice a1 n1 c1) hk
   rw [mcs_set61 h8] at k1
   have k2 := bk_set 62 (.slice a2 n2 c2) k1
   rw [mcs_set62 h8] at k2
   have k3 := bk_set 63 (.slice a3 n3 c3) k2
   rw [mcs_set63 h8] at k3
   exact k3
  ·exact (own_farB (own_farB (own_farB ((o1.below b2).below b3) (m := x0.val.heap.size) l0 (Nat.le_refl _) _) l0 (Nat.le_refl _) _) l0 (Nat.le_of_lt l0) _)
  ·exact (own_farB (own_farB (own_farB (o2.below b3) (m := y1.val.heap.size) l1 (Nat.le_refl _) _) l1 (Nat.le_refl _) _) l1 (Nat.le_of_lt l1) _)
  ·exact (own_farB (own_farB (own_farB o3 (m := y2.val.heap.size) l2 (Nat.le_refl _) _) l2 (Nat.le_refl _) _) l2 (Nat.le_of_lt l2) _)
 have FIN1 := Lib.hid fin1
 have HW1 := Lib.hid hw1
 have HSZ := Lib.hid hsz
 have HCS := Lib.hid hcs
 have HB := Lib.hid hB
 have HB2 := Lib.hid hB2
 have H1W := Lib.hid h1w
 have CV := Lib.hid cv
 have CF := Lib.hid cf
 have CI := Lib.hid ci
 obtain ⟨x0, hx0⟩ : ∃ x : Later w1, w1.drew = x.val := ⟨⟨_, ext_drew (Below.refl _ _)⟩, rfl⟩
 have HX0 := Lib.hid hx0
 have H8 := Lib.hid h8
 clear hsz hhi hB hB2 h1w hw1 hm hs ho h8 cv cf ci hcs hx0 fin1
 go_enter Tryz.func60, Tryz.ntmps60
 go_upto_region 1 with (fail)
 rw [← HW1.out]
 go_cut [5] (fun s5 wx => CopCut w R c mem stk out wx)
 case first =>
  go_region_with (first
   | (go_at_call 53; (rw [HX0.out]; (with_reducible refine (CV.out _).mono ?_); rintro e w' ⟨vm, y1, rfl, rfl, om, b1⟩; obtain ⟨ma1, mc1, rfl, _, _⟩ := om.sl; have OM := Lib.hid om; have B1 := Lib.hid b1; clear om b1))
   | (go_at_call 95; ((with_reducible refine (CF.out _).mono ?_); rintro e w' ⟨vs, y2, rfl, rfl, os, b2⟩; obtain ⟨sa1, sc1, rfl, _, _⟩ := os.sl; have OS := Lib.hid os; have B2 := Lib.hid b2; clear os b2))
   | (go_at_call 49; ((with_reducible refine (CI.out _).mono ?_); rintro e w' ⟨vo, y3, rfl, rfl, oo, b3⟩; obtain ⟨oa1, oc1, rfl, _, _⟩ := oo.sl; have OO := Lib.hid oo; have B3 := Lib.hid b3; clear oo b3)))
  all_goals
   go_wp2_with fail
   go_meet
   exact FIN1.out x0 y1 y2 y3 OM.out OS.out OO.out B1.out B2.out B3.out
 case rest =>
  obtain ⟨vm, vs, vo, k1, k2, o1, o2, o3, hb⟩ := hcut
  have hsz := mcs_size (c := c) (ms := vm) (ss := vs) (os := vo) H8.out
  have hone := mcs_one (R := R) (c := c) (ownsOne o1) (ownsOne o2) (ownsOne o3)
  have K1 := Lib.hid k1
  have K2 := Lib.hid k2
  have O1 := Lib.hid o1
  have O2 := Lib.hid o2
  have O3 := Lib.hid o3
  have HBW := Lib.hid hb
  have HSZ2 := Lib.hid hsz
  have HONE := Lib.hid hone
  have HEX := Lib.hid (show (mcs R c vm vs vo).extract 0 (0 + 64) = mcs R c vm vs vo by rw [Array.extract_eq_self_of_le (by rw [hsz]; omega)])
  clear k1 k2 o1 o2 o3 hb hsz hone
  go_wp2_with (first
   | (refine wpList_load_sub rfl 72 (.tmp 1) rfl w.heap.size 0 64 rfl 72 _ _ K1.out Tryz.underlying72 rfl (by kernel_rfl) (by have := HSZ2.out; omega) _ HEX.out ?_)
   | (refine wpList_store_rowTo rfl 72 (.tmp 2) (.tmp 15) rfl rfl (w.heap.size + 1) (mcs R c vm vs vo) rfl rfl 72 _ K2.out (by rw [HSZ2.out]; kernel_rfl) (by rw [HSZ2.out]; kernel_rfl) HONE.out ?_))
  refine bodyPost_ret (results_cell_row (g := w.heap.size + 1) (t := 72) (cs := mcs R c vm vs vo) (fr := (0, 0)) rfl _ _ _ rfl (bk_setRow K2.out _) Tryz.underlying72 rfl (by rw [HSZ2.out]; kernel_rfl)) rfl ?_
  exact ⟨vm, vs, vo, rfl, own_setRow O1.out K2.out (by decide) _, own_setRow O2.out K2.out (by decide) _, own_setRow O3.out K2.out (by decide) _, ext_setRow HBW.out (by omega) _⟩
end Go.Proofs.YtpjhjefjbkjhkaaGreatDoor
