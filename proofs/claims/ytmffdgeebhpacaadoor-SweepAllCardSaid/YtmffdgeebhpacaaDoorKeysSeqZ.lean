import Derived.RangeFuncCalls
import Derived.RangeFuncLeaves
import Derived.Shelf.SlIter.Collect
import Derived.Test.YtmffdgeebhpacaaDoorBuB
import Derived.Test.YtmffdgeebhpacaaDoorBuU
import Derived.Test.YtmffdgeebhpacaaDoorKeysCmpZ
import Derived.Test.YtmffdgeebhpacaaDoorRows
import Derived.Test.YtmffdgeebhpacaaDoorRunSeq
/- The keys of a set, one after another, and a list of them. -/
namespace Go.Proofs.YtmffdgeebhpacaaDoor
open El (cl)
open Go Go.RowKit Go.Shelf
open Go.Maps (Keyed)
set_option linter.unusedVariables false
set_option linter.unusedSimpArgs false
attribute [local go_sem] Oper.semAt_some
instance elKey : El KeyV where
  k := 5
  cl v := [.int .i64 v.perm, .int .i64 v.base, .int .i64 v.len, .int .i64 v.at_, .int .i64 v.seal_]
  z := zeroK
  len _ := rfl
  one _ := by intro u hu; simp at hu; rcases hu with rfl | rfl | rfl | rfl | rfl <;> rfl
  pos := by decide
theorem info_keyS : (Tryd.prog.info? 23).map (fun i => (i.zero, i.size, i.bytes)) = some (some (.agg #[.int .i64 0, .int .i64 0, .int .i64 0, .int .i64 0, .int .i64 0]), 5, 40) := by kernel_rfl
theorem addKey_le (xs : List Lit) : ∀ acc : List Lit, (xs.foldl Maps.addKey acc).length ≤ acc.length + xs.length := by
  induction xs with
  | nil => intro acc; exact Nat.le_refl _
  | cons x xs ih =>
    intro acc
    refine Nat.le_trans (ih _) ?_
    unfold Maps.addKey
    split <;> simp <;> omega
theorem size_setD_le (S : List KeyV) : Maps.size (setD S) ≤ S.length := by
  unfold setD
  rw [Maps.size_setOf _ _ (by intro x hx; obtain ⟨y, _, rfl⟩ := List.mem_map.1 hx; exact isKeyLit_keyLit y)]
  refine Nat.le_trans (addKey_le _ _) ?_
  simp
/-- What has come, and what is left. -/
structure KCome (S : List KeyV) (left : Lit → Bool) (cnt : Nat) (ss : List KeyV) : Prop where
  len : ss.length + cnt ≤ S.length
  left_ : ∀ kl, left kl = true → Maps.has (setD S) kl = true
  ok : ∀ x ∈ ss, x ∈ S
  all : ∀ y ∈ S, y ∈ ss ∨ left (keyLit y) = true
  out : ∀ y ∈ ss, left (keyLit y) = false
  nodup : ss.Nodup
theorem KCome.start {S : List KeyV} (hS : ∀ x ∈ S, x.wf) : KCome S (Maps.has (setD S)) (Maps.size (setD S)) [] :=
  ⟨by simpa using size_setD_le S, fun _ h => h, (by intro _ h; cases h), fun y hy => .inr (by rw [has_setD hS (hS y hy)]; exact decide_eq_true hy), (by intro _ h; cases h), List.nodup_nil⟩
theorem KCome.step {S : List KeyV} {left : Lit → Bool} {cnt cnt2 : Nat} {ss : List KeyV} (h : KCome S left cnt ss) (hS : ∀ x ∈ S, x.wf) {x : KeyV} (hx : x ∈ S) (hlx : left (keyLit x) = true) (hlt : cnt2 < cnt) : KCome S (fun z => left z && !z.sameKey (keyLit x)) cnt2 (ss ++ [x]) := by
  have := h.len
  refine ⟨by simp; omega, fun kl hk => h.left_ kl ?_, fun y hy => ?_, fun y hy => ?_, fun y hy => ?_, ?_⟩
  · simp only [Bool.and_eq_true] at hk; exact hk.1
  · rcases List.mem_append.1 hy with hy | hy
    · exact h.ok y hy
    · rw [List.mem_singleton.1 hy]; exact hx
  · by_cases e : y = x
    · exact .inl (by rw [e]; simp)
    · rcases h.all y hy with h1 | h1
      · exact .inl (by simp [h1])
      · right
        have : (keyLit y).sameKey (keyLit x) = false := Maps.sameKey_ne fun h => e (keyLit_inj (hS y hy) (hS x hx) h)
        simp [h1, this]
  · rcases List.mem_append.1 hy with hy | hy
    · simp [h.out y hy]
    · rw [List.mem_singleton.1 hy]
      simp [WideAt.sameKey_self (isKeyLit_keyLit x)]
  · rw [List.nodup_append]
    refine ⟨h.nodup, by simp, fun a ha b hb e => ?_⟩
    rw [List.mem_singleton.1 hb] at e
    rw [e] at ha
    rw [h.out x ha] at hlx
    cases hlx
set_option maxRecDepth 100000 in
set_option maxHeartbeats 2000000 in
/-- The iterator over a set's keys gives them all, some order. -/
theorem keysIter_gives (n : Nat) (hn : 1 ≤ n) (Bm b : Nat) (S : List KeyV) (hS : ∀ x ∈ S, x.wf) (w : World) (hBm : Bm < w.heap.size) (hm : w.cell? ⟨Bm, 0, none⟩ = some (.map (some b)))
    (hown : w.ownsMap Tryd.prog 23 (unitElem (H := Unit)) b S.length (setD S)) :
    SeqGives Fence.wide n Tryd.prog 84 #[.pointer (some ⟨Bm, 0, none⟩)] KeyV.val (fun ss => (∀ x, x ∈ ss ↔ x ∈ S) ∧ ss.length ≤ S.length ∧ ss.Nodup) S.length w := fun l J W hW hJ hY h0 => by
  have hown' := owns_heap hown (hW.block b hown.lt)
  have hm' := (hW.cell (p := ⟨Bm, 0, none⟩) hBm).trans hm
  have hsz := size_setD_le S
  clear hown hm
  refine callsIn_of_wp Tryd.func84 rfl trivial ?_ rfl
  simp only [Tryd.ntmps84, List.size_toArray, List.length_cons, List.length_nil, Nat.reduceAdd, Nat.reduceSub, Array.replicate_succ, Array.replicate_zero, List.push_toArray, List.append_toArray, List.nil_append, List.cons_append]
  gi_wp2_with (first
    | (gi_at_range; refine wpListIn_range_own _ rfl _ 138 rfl 23 139 keyedK Tryd.underlying138 (unitElem (H := Unit)) b _ _ rfl hown' ?_; intro w0 hrg0 hg0 hs0)
    | gi_in)
  go_frame
  gi_loopw [3] (fun _ wr => ∃ (left : Lit → Bool) (cnt : Nat) (ss : List KeyV), wr.ranges Tryd.prog 23 (unitElem (H := Unit)) b W.heap.size S.length (setD S) left cnt ∧ KCome S left cnt ss ∧ J ss wr)
    (fun _ wr => wr.rangeLeft b W.heap.size)
  case atStart =>
    exact ⟨_, _, [], hrg0, KCome.start hS, hJ [] W w0 none h0 hg0 (fun r e => by cases e)⟩
  case round =>
    obtain ⟨left, cnt, ss, hrg, hC, hJs⟩ := hrel
    have hlen := hC.len
    gi_wp2_with (first
      | (gi_at_next; refine wpListIn_next_ranges _ rfl _ rfl 23 keyedK (unitElem (H := Unit)) id id (fun key kl hk => ⟨key, rfl⟩) (fun v _ _ => ⟨v, rfl⟩) b W.heap.size S.length _ _ _ rfl hrg ?_ ?_)
      | gi_in)
    · intro hc0 hl0
      gi_wp2
      go_end0
      exact ⟨⟨_, rfl⟩, ss, ⟨fun x => ⟨hC.ok x, fun hx => (hC.all x hx).elim id (fun h => by rw [hl0] at h; cases h)⟩, by omega, hC.nodup⟩, hJs⟩
    · intro key v kl yd yp w2 cnt2 hkey hlk hv hat hrg2 hlt hg2 hs2 hen
      obtain ⟨x, hx, rfl⟩ := has_setD_mem (hC.left_ kl hlk)
      have hxw := hS x hx
      obtain rfl : key = x.val := keyedK.inj hkey (keyOf_key hxw)
      obtain ⟨rfl, _⟩ := unitElem_inv hv
      have hJ2 : J ss w2 := hJ ss wr w2 (some W.heap.size) hJs hg2 (fun r e => by cases e; exact ⟨Nat.le_refl _, hrg.iter_walk⟩)
      have hC2 := hC.step hS hx hlk hlt
      obtain ⟨p, bb, ll, aa, se⟩ := x
      have hJ3 : J ss (w2.alloc (.cells #[.int .i64 p, .int .i64 bb, .int .i64 ll, .int .i64 aa, .int .i64 se] 23)) := hJ ss w2 _ none hJ2 ⟨rfl, rfl, rfl, by simp, fun k hk _ => Below.heap_alloc _ _ k hk⟩ (fun r e => by cases e)
      obtain ⟨fn, tmps, assign, body, hy, hR⟩ := hY ss ⟨p, bb, ll, aa, se⟩ _ hJ3 (by omega)
      have hrg3 := hrg2.of_walks (KeepsWalks.alloc w2 (.cells #[.int .i64 p, .int .i64 bb, .int .i64 ll, .int .i64 aa, .int .i64 se] 23))
      have HC2 := Lib.hid hC2
      have HR := Lib.hid hR
      have HRG3 := Lib.hid hrg3
      clear hs2 hC hC2 hR hx hxw hrg3 hrg2 hJ3 hJ2 hJs hg2 hkey hlk hv hat hlen
      simp only [KeyV.val, id] at *
      gi_wp2
      refine HR.out.mono ?_
      rintro e W3 ⟨rfl, hJ4, hk3⟩
      have hrg4 := HRG3.out.of_walks hk3
      have HJ4 := Lib.hid hJ4
      have HRG4 := Lib.hid hrg4
      clear hJ4 hrg4 hk3
      gi_wp2
      go_roundw
      case rel => exact ⟨_, cnt2, ss ++ [⟨p, bb, ll, aa, se⟩], HRG4.out, HC2.out, HJ4.out⟩
      case measure => rw [HRG4.out.left_eq, hrg.left_eq]; exact hlt
/-- What stands while keys are appended. -/
structure ApSt (w0 : World) (gs : Nat) (ss : List KeyV) (W : World) : Prop where
  box : ∃ v, Bk W gs 82 #[v] ∧ Own W w0.heap.size 23 v ss
  below : Below w0.heap.size w0 W
  ge : w0.heap.size ≤ gs
theorem ApSt.grown {w0 : World} {gs : Nat} {ss : List KeyV} {W W' : World} {row : Option Nat} (h : ApSt w0 gs ss W) (hg : W.grownBy W' row) (hr : ∀ r, row = some r → w0.heap.size ≤ r ∧ ∃ o : Obj, W.heap[r]? = some o ∧ o.isCells = false) : ApSt w0 gs ss W' := by
  obtain ⟨v, hb, ho⟩ := h.box
  refine ⟨⟨v, (hg.block gs hb.lt (fun e => ?_)).trans hb, ho.kept hg ?_⟩, h.below.grown hg h.below.size (fun k e => (hr k e).1), h.ge⟩
  · obtain ⟨o, h1, h2⟩ := (hr gs e.symm).2
    unfold Bk at hb
    rw [hb] at h1
    cases h1
    cases h2
  · rcases ho.2 with ⟨rfl, _⟩ | ⟨g, c, cur, rfl, _, hg', _⟩
    · exact .inl rfl
    · right
      intro e
      have e' : row = some g := by rw [← e]; rfl
      obtain ⟨o, h1, h2⟩ := (hr g e').2
      rw [hg'] at h1
      cases h1
      cases h2
theorem putObj_grown (W : World) (l : Nat) (o : Obj) : W.grownBy (W.putObj l o) (some l) := ⟨rfl, rfl, rfl, by simp, fun k _ hk => World.putObj_heap_other (fun e => hk (by rw [e]))⟩
theorem others_grown {W W' : World} {row : Option Nat} (hg : W.grownBy W' row) (hr : ∀ r, row = some r → ∃ T cs, Bk W r T cs) : KeepsOthers W W' := by
  refine ⟨hg.size, fun k o hk ho => (hg.block k (Array.getElem?_eq_some_iff.1 hk).1 (fun e => ?_)).trans hk⟩
  obtain ⟨T, cs, hb⟩ := hr k e.symm
  unfold Bk at hb
  rw [hb] at hk
  cases hk
  cases ho
set_option maxRecDepth 100000 in
set_option maxHeartbeats 4000000 in
theorem appendSeq_any (n : Nat) (hn : 2 ≤ n) (gf : Nat) (lb : Array Value) (eg : ∀ args w, (callFunc gf args).run Tryd.prog w = .ok (.enter gf args) w) (S : List KeyV → Prop) (N : Nat) (hN : N ≤ 100000) (w : World)
    (hseq : SeqGives Fence.wide (n - 1) Tryd.prog gf lb KeyV.val S N w) :
    CallsIn Fence.wide n Tryd.prog 102 #[.slice none 0 0, .func (.func gf) #[] lb] w fun e w' => ∃ (v : Value) (ss : List KeyV), e = .returned v ∧ S ss ∧ Own w' w.heap.size 23 v ss ∧ Below w.heap.size w w' := by
  obtain ⟨w1, hw1⟩ : ∃ w1, w1 = w.alloc (.cells #[.slice none 0 0] 82) := ⟨_, rfl⟩
  have hs1 : w1.heap.size = w.heap.size + 1 := by rw [hw1]; simp
  have h1w : Below w.heap.size w w1 := by rw [hw1]; exact ext_alloc (Below.refl _ _) _
  have hst : ApSt w w.heap.size [] w1 := ⟨⟨.slice none 0 0, by rw [hw1]; exact bk_new _ _ _, World.ownsRow_nil _ _ _ _⟩, h1w, Nat.le_refl _⟩
  have hseq1 := hseq.later h1w
  obtain ⟨i0, hi0, hz0, hz1, hz2⟩ := info_parts info_keyS
  have HW1 := Lib.hid hw1
  have HST := Lib.hid hst
  have HSEQ := Lib.hid hseq1
  clear hw1 hst hseq1 hseq
  refine callsIn_of_wp_marks Tryd.func102 rfl trivial ?_ rfl
  simp only [Tryd.ntmps102, List.size_toArray, List.length_cons, List.length_nil, Nat.reduceAdd, Nat.reduceSub, Array.replicate_succ, Array.replicate_zero, List.push_toArray, List.append_toArray, List.nil_append, List.cons_append]
  gi_wp2
  rw [← HW1.out]
  clear HW1
  have HI := Lib.hid (And.intro hi0 (And.intro hz0 (And.intro hz1 hz2)))
  clear hi0 hz0 hz1 hz2
  refine wpIn_rangeFunc_seq (α := KeyV) rfl (by omega) (gf := gf) (lb := lb) rfl trivial eg KeyV.val S N HSEQ.out (fun ss W => ApSt w w.heap.size ss W)
    (fun ss x a1 W => ApSt w w.heap.size ss W ∧ ∃ gx, w1.heap.size ≤ gx ∧ Bk W gx 23 #[.int .i64 x.perm, .int .i64 x.base, .int .i64 x.len, .int .i64 x.at_, .int .i64 x.seal_] ∧ a1 = { tmps := #[.slice none 0 0, .func (.func gf) #[] lb, .pointer (some ⟨w.heap.size, 0, none⟩), undef, .slice none 0 0, .pointer (some ⟨gx, 0, none⟩), .func (.func gf) #[] lb, x.val, undef, undef, undef, undef, undef], defers := [] })
    (fun s W W' row h hg hr => h.grown hg (fun r e => ⟨by have := (hr r e).1; omega, (hr r e).2⟩))
    (fun s x a1 W l o o' h hl ho hc => ⟨h.1.grown (putObj_grown _ _ _) (fun r e => by cases e; exact ⟨by omega, o, ho, hc⟩), ?_⟩) HST.out ?assign ?body ?done
  · obtain ⟨_, gx, h1, h2, h3⟩ := h
    refine ⟨gx, h1, (World.putObj_heap_other (fun e => ?_)).trans h2, h3⟩
    unfold Bk at h2
    rw [e, ho] at h2
    cases h2
    cases hc
  case assign =>
    intro l s x W K hJ hK
    obtain ⟨p, bb, ll, aa, se⟩ := x
    have hb := hJ.below.size
    have hK' := hK _ _ (KeepsOthers.alloc W (.cells #[.int .i64 p, .int .i64 bb, .int .i64 ll, .int .i64 aa, .int .i64 se] 23)) ⟨hJ.grown (row := none) ⟨rfl, rfl, rfl, by simp, fun k hk _ => Below.heap_alloc _ _ k hk⟩ (fun r e => by cases e), W.heap.size, by have := (show w.heap.size < W.heap.size from by obtain ⟨v, h1, _⟩ := hJ.box; exact h1.lt); omega, bk_new _ _ _, rfl⟩
    have HK := Lib.hid hK'
    clear hK hK' hJ
    simp only [KeyV.val]
    gi_wp2
    exact HK.out
  case body =>
    rintro l s x a1 W hlen ⟨hst, gx, hgx, hx, rfl⟩
    obtain ⟨v, hbx, how⟩ := hst.box
    have hbel := hst.below
    have c0 := hbx.cell 0
    have f0 := hbx.frozen 0
    simp only [List.getElem?_toArray, List.getElem?_cons_zero] at c0
    have hbl := hbx.lt
    have hxl := hx.lt
    obtain ⟨p, bb, ll, aa, se⟩ := x
    simp only at hx
    obtain ⟨x0, x1, x2, x3, x4⟩ := cells5 hx
    have hbw := hbel.size
    have HOW := Lib.hid how
    have HBX := Lib.hid hbx
    have HBEL := Lib.hid hbel
    have HN := Lib.hid hN
    clear hst hx how hbx hbel hN HSEQ HST hgx
    simp only [KeyV.val]
    obtain ⟨i1, z0, z1, z2⟩ := HI.out
    have hnew : ∀ (j : Nat) (u : Value), [Value.int .i64 p, .int .i64 bb, .int .i64 ll, .int .i64 aa, .int .i64 se][j]? = some u → (W.alloc (.cells #[.int .i64 p, .int .i64 bb, .int .i64 ll, .int .i64 aa, .int .i64 se] 23)).cell? ((⟨W.heap.size, 0, none⟩ : Addr).add j) = some u := fun j u hu => by
      have h1 := (bk_new W 23 #[.int .i64 p, .int .i64 bb, .int .i64 ll, .int .i64 aa, .int .i64 se]).cell j
      have e : ((⟨W.heap.size, 0, none⟩ : Addr).add j) = ⟨W.heap.size, j, none⟩ := by unfold Addr.add; simp; try (intro h; exact h.symm)
      rw [e, h1]
      simpa using hu
    have hb1 : s.length + 1 ≤ maxLen := by have := HN.out; unfold maxLen; omega
    have hb2 : (s.length + 1) * 40 ≤ 140737488355328 := by have := HN.out; omega
    have hb3 : w.heap.size ≤ (W.alloc (.cells #[.int .i64 p, .int .i64 bb, .int .i64 ll, .int .i64 aa, .int .i64 se] 23)).heap.size := by rw [World.size_alloc]; omega
    have HNEW := Lib.hid hnew
    have HB1 := Lib.hid hb1
    have HB2 := Lib.hid hb2
    have HB3 := Lib.hid hb3
    clear hnew hb1 hb2 hb3
    gi_wp2_with (first
      | (gi_at_builtin; go_loud (refine wpListIn_append_own _ rfl _ _ 82 rfl w.heap.size 23 i0 (.agg #[.int .i64 0, .int .i64 0, .int .i64 0, .int .i64 0, .int .i64 0]) 5 40 Tryd.underlying82 i1 z0 z1 z2 rfl (by decide) v s.length (cls s) rfl (HOW.out.alloc _) ⟨W.heap.size, 0, none⟩ 1 1 [.int .i64 p, .int .i64 bb, .int .i64 ll, .int .i64 aa, .int .i64 se] rfl rfl HNEW.out (El.one (⟨p, bb, ll, aa, se⟩ : KeyV)) HB1.out HB2.out HB3.out ?_)
         intro v3 w3 hown3 hg3 hnil3
         have hown3' : Own w3 w.heap.size 23 v3 (s ++ [⟨p, bb, ll, aa, se⟩]) := by
           unfold Own
           rw [List.length_append, cls_append, cls_one]
           exact hown3
         obtain ⟨g3, cap3, rfl, hbase3, hlt3, hcap3, hmax3⟩ : ∃ g3 cap3, v3 = .slice (some ⟨g3, 0, none⟩) (s.length + 1) cap3 ∧ w.heap.size ≤ g3 ∧ g3 < w3.heap.size ∧ s.length + 1 ≤ cap3 ∧ cap3 ≤ maxLen := by
           rcases hown3'.form with ⟨_, h⟩ | ⟨g, c, h1, h2, h3, h4, h5⟩
           · simp at h
           · exact ⟨g, c, by rw [h1]; simp, h2, h3, by simpa using h4, h5⟩
         have hkb : Bk w3 w.heap.size 82 #[v] := (hg3.block _ (by rw [World.size_alloc]; omega) (fun e => by
           rcases HOW.out.2 with ⟨rfl, _⟩ | ⟨g, c, cur, rfl, _, hg', _⟩
           · cases e
           · have e' : w.heap.size = g := Option.some.inj e
             have := HBX.out
             unfold Bk at this
             rw [e', hg'] at this
             injection this with this
             injection this with _ this _
             exact absurd this (by decide))).trans (bk_old _ HBX.out)
         have c3 := hkb.cell 0
         have f3 := hkb.frozen 0
         simp only [List.getElem?_toArray, List.getElem?_cons_zero] at c3
         have HG3 := Lib.hid hg3
         have HO3 := Lib.hid hown3'
         have HK3 := Lib.hid hkb
         clear hown3 hown3' hg3 hnil3 hkb
         go_frame)
      | gi_round_op_a)
    have hg3ne : g3 ≠ w.heap.size := by
      rintro rfl
      rcases HO3.out.2 with ⟨e, _⟩ | ⟨g, c, cur, e, _, hg', _⟩
      · cases e
      · injection e with e
        injection e with e
        injection e with e
        have := HK3.out
        unfold Bk at this
        rw [e, hg'] at this
        injection this with this
        injection this with _ this _
        exact absurd this (by decide)
    have hbelow := HBEL.out
    refine ⟨((KeepsOthers.alloc W _).trans (KeepsOthers.of_grownBy HG3.out ?_)).trans (KeepsOthers.setCell _ _ _), ⟨_, bk_set' HK3.out rfl, HO3.out.kept (grownBy_setCell0_a _ _ _) (.inr ?_)⟩, ?_, Nat.le_refl _⟩
    · intro j o hj ho
      rcases (HOW.out.alloc _).2 with ⟨rfl, _⟩ | ⟨g, c, cur, rfl, _, hg', _⟩
      · cases hj
      · obtain rfl : g = j := Option.some.inj hj
        rw [hg'] at ho
        cases ho
        rfl
    · intro e
      exact hg3ne (Option.some.inj e)
    · exact ((ext_alloc hbelow _).grown HG3.out (by rw [World.size_alloc]; omega) (fun k e => by
        rcases HOW.out.2 with ⟨rfl, _⟩ | ⟨g, c, cur, rfl, hle, _, _⟩
        · cases e
        · obtain rfl : g = k := Option.some.inj e
          exact hle)).setCell (Nat.le_refl _) _
  case done =>
    intro ss W hS hJ hD
    obtain ⟨v, hbx, how⟩ := hJ.box
    have c0 := hbx.cell 0
    simp only [List.getElem?_toArray, List.getElem?_cons_zero] at c0
    have HBEL := Lib.hid hJ.below
    have HOW := Lib.hid how
    have HD := Lib.hid hD
    have HS := Lib.hid hS
    clear hJ hbx how hD hS HSEQ HST HI
    gi_wp2
    refine ⟨by simp, .inl ⟨_, _, rfl, run_takeDeferred HD.out, ?_⟩⟩
    refine ⟨_, results_tmp rfl _ _ _, v, ss, rfl, HS.out, HOW.out.kept (grownBy_putObj_a _ _ _) ?_, HBEL.out.grown (grownBy_putObj_a _ _ _) HBEL.out.size (fun k e => by cases e; omega)⟩
    rcases HOW.out.2 with ⟨rfl, _⟩ | ⟨g, c, cur, rfl, _, hg', _⟩
    · exact .inl rfl
    · right
      intro e
      have e' : g = w1.heap.size := Option.some.inj e
      have := HD.out
      rw [← e', hg'] at this
      cases this
set_option maxHeartbeats 1000000 in
theorem collect_any (n : Nat) (hn : 3 ≤ n) (gf : Nat) (lb : Array Value) (eg : ∀ args w, (callFunc gf args).run Tryd.prog w = .ok (.enter gf args) w) (S : List KeyV → Prop) (N : Nat) (hN : N ≤ 100000) (w : World)
    (hseq : SeqGives Fence.wide (n - 1 - 1) Tryd.prog gf lb KeyV.val S N w) :
    CallsIn Fence.wide n Tryd.prog 82 #[.func (.func gf) #[] lb] w fun e w' => ∃ (v : Value) (ss : List KeyV), e = .returned v ∧ S ss ∧ Own w' w.heap.size 23 v ss ∧ Below w.heap.size w w' := by
  have hfA : Fence.wide.fn 102 := trivial
  have h1 : 1 ≤ n := by omega
  have hap := appendSeq_any (n - 1) (by omega) gf lb eg S N hN w hseq
  refine callsIn_of_wp Tryd.func82 rfl trivial ?_ rfl
  simp only [Tryd.ntmps82, List.size_toArray, List.length_cons, List.length_nil, Nat.reduceAdd, Nat.reduceSub, Array.replicate_succ, Array.replicate_zero, List.push_toArray, List.append_toArray, List.nil_append, List.cons_append]
  gi_wp2_with (gi_at_call 102; refine hap.mono ?_; rintro e w' ⟨v, ss, rfl, hS, ho, hb⟩)
  go_ret
  exact ⟨v, ss, rfl, hS, ho, hb⟩
end Go.Proofs.YtmffdgeebhpacaaDoor
