import Derived.Test.YtpjhjefjbkjhkaaGreatDoorBuB
import Derived.Test.YtpjhjefjbkjhkaaGreatDoorHeapAppendZ
import Derived.Test.YtpjhjefjbkjhkaaGreatDoorProgMathZ
/- The reader of a program: its rows. -/
namespace Go.Proofs.YtpjhjefjbkjhkaaGreatDoor
open El (cl)
open Go Go.RowKit
set_option linter.unusedVariables false
set_option linter.unusedSimpArgs false
instance : El HoleV where
  k := 7
  cl x := [.int .i64 x.line, .int .i64 x.at_, .int .i64 x.i.op, .int .i64 x.i.a, .int .i64 x.i.b, .int .i64 x.i.c, .string x.name]
  z := ⟨0, 0, zeroI, ByteArray.empty⟩
  len _ := rfl
  one _ := by intro u hu; simp at hu; rcases hu with rfl | rfl | rfl | rfl | rfl | rfl | rfl <;> rfl
  pos := by decide
instance : Inhabited HoleV := ⟨⟨0, 0, zeroI, ByteArray.empty⟩⟩
theorem add_moreHoleV (a : Addr) (i j : Nat) (hj : 0 < j) : a.add (i + j) = ⟨(a.add i).block, (a.add i).off + j, none⟩ := by
  unfold Addr.add
  rw [if_neg (by omega)]
  by_cases hi : i = 0
  · subst hi; simp
  · rw [if_neg hi]; simp [Nat.add_assoc]
theorem sl_HoleV {w : World} {ao : Option Addr} {n : Nat} {ks : List HoleV} (h : Sl w ao n ks) {i : Nat} (hi : i < n) {x : HoleV} (hx : ks[i]? = some x) : ∃ a, ao = some a ∧ (a.add (i * 7)).block < w.heap.size ∧
    w.cell? (a.add (i * 7)) = some (.int .i64 x.line) ∧ w.cell? ⟨(a.add (i * 7)).block, (a.add (i * 7)).off + 1, none⟩ = some (.int .i64 x.at_) ∧ w.cell? ⟨(a.add (i * 7)).block, (a.add (i * 7)).off + 2, none⟩ = some (.int .i64 x.i.op) ∧ w.cell? ⟨(a.add (i * 7)).block, (a.add (i * 7)).off + 3, none⟩ = some (.int .i64 x.i.a) ∧ w.cell? ⟨(a.add (i * 7)).block, (a.add (i * 7)).off + 4, none⟩ = some (.int .i64 x.i.b) ∧ w.cell? ⟨(a.add (i * 7)).block, (a.add (i * 7)).off + 5, none⟩ = some (.int .i64 x.i.c) ∧ w.cell? ⟨(a.add (i * 7)).block, (a.add (i * 7)).off + 6, none⟩ = some (.string x.name) := by
  obtain ⟨a, y, e, hb, hy, hc⟩ := h.at hi
  obtain rfl : y = x := by rw [hx] at hy; injection hy with hy; exact hy.symm
  refine ⟨a, e, by rw [el_block]; exact hb, ?_⟩
  rw [← add_moreHoleV a (i * 7) 1 (by decide), ← add_moreHoleV a (i * 7) 2 (by decide), ← add_moreHoleV a (i * 7) 3 (by decide), ← add_moreHoleV a (i * 7) 4 (by decide), ← add_moreHoleV a (i * 7) 5 (by decide), ← add_moreHoleV a (i * 7) 6 (by decide)]
  exact ⟨hc 0 _ rfl, hc 1 _ rfl, hc 2 _ rfl, hc 3 _ rfl, hc 4 _ rfl, hc 5 _ rfl, hc 6 _ rfl⟩
/-- The reader under way. -/
structure RdSt (g : Nat) (r : RdV) (vc vl vh : Value) (W : World) : Prop where
  b : Bk W g 176 #[vc, vl, vh]
  c : Own W g 3 vc r.code
  l : Own W g 83 vl r.labels
  h : Own W g 179 vh r.holes
section
variable {g : Nat} {r : RdV} {vc vl vh u : Value} {w W W' : World}
theorem RdSt.below (h : RdSt g r vc vl vh W) (hb : Below W.heap.size W W') : RdSt g r vc vl vh W' := ⟨bk_keep hb h.b, h.c.below hb, h.l.below hb, h.h.below hb⟩
theorem RdSt.drew (h : RdSt g r vc vl vh W) : RdSt g r vc vl vh W.drew := h.below (ext_drew (Below.refl _ _))
theorem RdSt.setC {C : List Int} (h : RdSt g r vc vl vh W) (hg : W.grownBy W' vc.ownBlock) (ho : Own W' g 3 u C) : RdSt g ⟨C, r.labels, r.holes⟩ u vl vh (W'.setCell ⟨g, 0, none⟩ u) := by
  have hb := bk_other h.b h.c (by decide) hg
  exact ⟨bk_set' hb rfl, own_cell ho hb (by decide) _ _, own_cell (own_other h.l h.c (by decide) hg) hb (by decide) _ _, own_cell (own_other h.h h.c (by decide) hg) hb (by decide) _ _⟩
theorem RdSt.setL {L : List NamV} (h : RdSt g r vc vl vh W) (hg : W.grownBy W' vl.ownBlock) (ho : Own W' g 83 u L) : RdSt g ⟨r.code, L, r.holes⟩ vc u vh (W'.setCell ⟨g, 1, none⟩ u) := by
  have hb := bk_other h.b h.l (by decide) hg
  exact ⟨bk_set' hb rfl, own_cell (own_other h.c h.l (by decide) hg) hb (by decide) _ _, own_cell ho hb (by decide) _ _, own_cell (own_other h.h h.l (by decide) hg) hb (by decide) _ _⟩
theorem RdSt.setH {H : List HoleV} (h : RdSt g r vc vl vh W) (hg : W.grownBy W' vh.ownBlock) (ho : Own W' g 179 u H) : RdSt g ⟨r.code, r.labels, H⟩ vc vl u (W'.setCell ⟨g, 2, none⟩ u) := by
  have hb := bk_other h.b h.h (by decide) hg
  exact ⟨bk_set' hb rfl, own_cell (own_other h.c h.h (by decide) hg) hb (by decide) _ _, own_cell (own_other h.l h.h (by decide) hg) hb (by decide) _ _, own_cell ho hb (by decide) _ _⟩
/-- What lies before the reader stays. -/
theorem RdSt.under {α : Type} [El α] {T : TypeId} {v : Value} {xs : List α} (ho : Own W g T v xs) (hb : Below g w W) (hgs : g ≤ W.heap.size) (hg : W.grownBy W' v.ownBlock) (i : Nat) (x : Value) : Below g w (W'.setCell ⟨g, i, none⟩ x) := by
  have h1 : Below g w W' := hb.grown hg hgs (fun k e => (own_span ho e).1)
  exact h1.grown (grown_setCell W' g i x) (Nat.le_trans hgs hg.size) (fun k e => by injection e with e; omega)
end
/-- What a step of the reader leaves. -/
def RdPost (g : Nat) (w : World) (r : RdV) (er : Int) (e : Ending) (w' : World) : Prop := e = .returned (.int .i64 er) ∧ (∃ vc vl vh, RdSt g r vc vl vh w') ∧ Below g w w'
theorem find_at {l : List NamV} {s : ByteArray} {k : Nat} {x : NamV} (hx : l[k]? = some x) (hs : x.name = s) (hn : ∀ y ∈ l.take k, y.name ≠ s) : findA l s = x.at_ := by
  obtain ⟨hk, e⟩ := List.getElem?_eq_some_iff.1 hx
  have e0 : l = l.take k ++ x :: l.drop (k + 1) := by rw [← e, ← List.drop_eq_getElem_cons hk, List.take_append_drop]
  have h0 : (l.take k).find? (fun x => decide (x.name = s)) = none := List.find?_eq_none.2 fun y hy => by simpa using hn y hy
  unfold findA
  rw [e0, List.find?_append, h0]
  simp [hs]
theorem find_no {l : List NamV} {s : ByteArray} (hn : ∀ y ∈ l, y.name ≠ s) : findA l s = -1 := by
  unfold findA
  rw [List.find?_eq_none.2 fun y hy => by simpa using hn y hy]
theorem take_no {l : List NamV} {s : ByteArray} {k : Nat} {x : NamV} (hx : l[k]? = some x) (hs : x.name ≠ s) (hn : ∀ y ∈ l.take k, y.name ≠ s) : ∀ y ∈ l.take (k + 1), y.name ≠ s := by
  intro y hy
  rw [List.take_add_one, hx] at hy
  rcases List.mem_append.1 hy with h | h
  · exact hn y h
  · simp at h; subst h; exact hs
theorem info_holeL : (Tryz.prog.info? 179).map (fun i => (i.zero, i.size, i.bytes)) = some (some (.agg #[.int .i64 0, .int .i64 0, .int .i64 0, .int .i64 0, .int .i64 0, .int .i64 0, .string ⟨#[]⟩]), 7, 64) := by kernel_rfl
theorem info_labelL : (Tryz.prog.info? 83).map (fun i => (i.zero, i.size, i.bytes)) = some (some (.agg #[.string ⟨#[]⟩, .int .i64 0]), 2, 24) := by kernel_rfl
set_option maxHeartbeats 4000000 in
set_option maxRecDepth 100000 in
theorem rfind_any (g : Nat) (r : RdV) (vc vl vh : Value) (s : ByteArray) (w : World) (h : RdSt g r vc vl vh w) :
    Calls Tryz.prog 89 #[.pointer (some ⟨g, 0, none⟩), .string s] w fun e w' => e = .returned (.int .i64 (findA r.labels s)) ∧ Below w.heap.size w w' := by
  obtain ⟨la, lc, rfl, hsl, _⟩ := h.l.sl
  obtain ⟨c0, c1, c2⟩ := cells3 h.b
  have gL := h.b.lt
  obtain ⟨l, hl⟩ : ∃ l, r.labels = l := ⟨_, rfl⟩
  rw [hl] at hsl c1 ⊢
  obtain ⟨n, hn⟩ : ∃ n, l.length = n := ⟨_, rfl⟩
  rw [hn] at hsl c1
  have hm := hsl.max
  unfold maxLen at hm
  have HS := Lib.hid hsl
  have HN := Lib.hid hn
  clear hsl hn hl h
  go_enter Tryz.func89, Tryz.ntmps89
  go_wp2
  clear c0 c1 c2 gL
  go_loopw [12] (fun i wr => ∃ k : Nat, k ≤ n ∧ i = .int .i64 k ∧ (∀ y ∈ l.take k, y.name ≠ s) ∧ Below w.heap.size w wr) (fun i _ => n - (intOf i).toNat)
  case atStart => exact ⟨0, Nat.zero_le _, rfl, by simp, Below.refl _ _⟩
  case round =>
    obtain ⟨k, hk, rfl, hno, hb⟩ := hrel
    have HNO := Lib.hid hno
    have HB := Lib.hid hb
    clear hno hb
    by_cases hlt : k < n
    · have q0 : (0 : Int) ≤ k := by omega
      have q1 : (k : Int) < n := by omega
      obtain ⟨x, hx⟩ : ∃ x, l[k]? = some x := ⟨_, List.getElem?_eq_getElem (by have := HN.out; omega)⟩
      obtain ⟨ad, hao, hab, e0, e1⟩ := sl_NamV (HS.out.below HB.out) hlt hx
      subst hao
      have HX := Lib.hid hx
      clear hx
      by_cases he : x.name = s
      · have f : (x.name.toList == s.toList) = true := by simp [he]
        have hfa := find_at HX.out he HNO.out
        have HFA := Lib.hid hfa
        clear he hfa
        go_wp2
        go_ret
        exact ⟨ret_int HFA.out.symm, ext_alloc HB.out _⟩
      · have f : (x.name.toList == s.toList) = false := beq_eq_false_iff_ne.2 fun e => he (name_eq.1 e)
        have hfn := take_no HX.out he HNO.out
        have HFN := Lib.hid hfn
        clear he hfn
        go_wp2
        go_roundw
        case rel => exact ⟨k + 1, by omega, by go_num, HFN.out, ext_alloc HB.out _⟩
        case measure => simp [intOf]; omega
    · have q1 : ¬ ((k : Int) < n) := by omega
      have hfn : findA l s = -1 := find_no fun y hy => HNO.out y (by rw [List.take_of_length_le (by have := HN.out; omega)]; exact hy)
      have HFN := Lib.hid hfn
      clear hfn
      go_wp2
      go_ret
      exact ⟨ret_int HFN.out.symm, HB.out⟩
end Go.Proofs.YtpjhjefjbkjhkaaGreatDoor
