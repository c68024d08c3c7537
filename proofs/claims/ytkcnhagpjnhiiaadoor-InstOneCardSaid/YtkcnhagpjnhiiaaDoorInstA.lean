/- What shapeOf, bounds, reg and Check of package inst compute. -/
import Derived.Test.YtkcnhagpjnhiiaaDoorInstMath
import Derived.Test.YtkcnhagpjnhiiaaDoorBlk
import Derived.Test.YtkcnhagpjnhiiaaDoorShelf
import Derived.Test.YtkcnhagpjnhiiaaDoorRows
import Derived.WalkKit
import Derived.WalkSpells
namespace Go.Proofs.YtkcnhagpjnhiiaaDoor
open Go.RowKit
set_option linter.unusedVariables false
set_option linter.unusedSimpArgs false
/-- The one table of the library that is read stands. -/
def Tab (w : World) : Prop := Lib.TabIs Tryd.prog w "strings.asciiSpace" .u8 Lib.asciiSpaceTab
theorem Tab.below {w w' : World} (h : Tab w) (hb : Below w.heap.size w w') : Tab w' := by
  unfold Tab Lib.TabIs at h ⊢
  unfold World.var? at h ⊢
  cases hg : Tryd.prog.globalNamed "strings.asciiSpace" with
  | none => rw [hg] at h; cases h
  | some g =>
    rw [hg] at h
    simp only [Option.bind_some] at h ⊢
    have hlt : g < w.heap.size := by
      rcases Nat.lt_or_ge g w.heap.size with hlt | hge
      · exact hlt
      · rw [Array.getElem?_eq_none hge] at h; cases h
    rw [hb.block g hlt]
    exact h
theorem fields_words : (Lib.fields wordsL).map (fun l => Value.string ⟨l.toArray⟩) = (List.range 23).map fun k => Value.string ⟨(wordL k).toArray⟩ := by
  have : Lib.fields wordsL = (List.range 23).map wordL := by decide +kernel
  rw [this]
  rfl
theorem words_ascii (s : ByteArray) (hs : s.data.toList = wordsL) : ∀ (j : Nat) b, s.data.toList[j]? = some b → b.toNat < 128 := by
  intro j b hb
  rw [hs] at hb
  have hall : ∀ b ∈ wordsL, b.toNat < 128 := by decide +kernel
  exact hall b (List.mem_of_getElem? hb)
theorem fields_any (s : ByteArray) (hs : s.data.toList = wordsL) (w : World) (ht : Tab w) :
    Calls Tryd.prog 32 #[.string s] w fun e w' => e = .returned (.slice (some ⟨w.heap.size, 0, none⟩) 23 23) ∧ Below w.heap.size w w' ∧ ∀ k, k < 23 → w'.cell? ⟨w.heap.size, k, none⟩ = some (.string ⟨(wordL k).toArray⟩) := by
  have hsz : s.size < 4294967281 := by
    have h1 : s.size = s.data.toList.length := rfl
    rw [h1, hs]; decide
  refine (Tryd.strings_Fields s w hsz (words_ascii s hs) ht).mono fun e w' ⟨he, hw⟩ => ?_
  have hl : (Lib.fields s.data.toList).length = 23 := by rw [hs]; decide +kernel
  rw [hl] at he
  refine ⟨he, ?_, ?_⟩
  · rw [hw]; exact ext_alloc (Below.refl _ _) _
  · intro k hk
    rw [hw, hs, fields_words]
    refine (Bk.cell (bk_new w _ _) k).trans ?_
    rw [List.getElem?_toArray, List.getElem?_map, List.getElem?_range hk]
    rfl
theorem cells4 {w : World} {g : Nat} {T : TypeId} {v0 v1 v2 v3 : Value} (h : Bk w g T #[v0, v1, v2, v3]) :
    w.cell? ⟨g, 0, none⟩ = some v0 ∧ w.cell? ⟨g, 1, none⟩ = some v1 ∧ w.cell? ⟨g, 2, none⟩ = some v2 ∧ w.cell? ⟨g, 3, none⟩ = some v3 := ⟨h.cell 0, h.cell 1, h.cell 2, h.cell 3⟩
def ShPost (w : World) (op : Int) (wd : List UInt8) (ok : Bool) (e : Ending) (w' : World) : Prop :=
  e = .returned (.tuple #[.agg #[.string ⟨wd.toArray⟩, .bool (ok && shA op), .bool (ok && shB op), .int .u8 (if ok then shC op else 0)], .bool ok]) ∧ Below w.heap.size w w'
set_option maxHeartbeats 1000000 in
theorem shape_0 (w : World) (ht : Tab w) : Calls Tryd.prog 15 #[.int .i64 0] w fun e w' => e = .returned (.tuple #[.agg #[.string ⟨(wordL 0).toArray⟩, .bool false, .bool false, .int .u8 0], .bool true]) ∧ Below w.heap.size w w' := by
  have FW := Lib.hid fields_any
  have HT := Lib.hid ht
  clear ht
  go_enter Tryd.func15, Tryd.ntmps15
  go_wp2_with (go_at_call 32; ((with_reducible refine (FW.out _ (by decide +kernel) _ (HT.out.below (ext_alloc (Below.refl _ _) _))).mono ?_); rintro e w1 ⟨rfl, hb1, hc1⟩; have hq := hc1 0 (by decide); simp only [World.size_alloc] at hq; have hql := World.block_lt_of_cell? w1 _ hq; have rB := bk_keep hb1 (bk_new w 41 #[.string ⟨#[]⟩, .bool false, .bool false, .int .u8 0]); obtain ⟨r0, r1, r2, r3⟩ := cells4 rB; have rL := rB.lt; have rF := fun i => Bk.frozen rB i; have HB1 := Lib.hid hb1; clear hb1 hc1 rB))
  refine bodyPost_ret (v := .tuple #[.agg #[.string ⟨(wordL 0).toArray⟩, .bool false, .bool false, .int .u8 0], .bool true]) (by simp [results, Tryd.results15, go_sem, *]; try rfl) rfl ⟨rfl, ?_⟩
  repeat (first | with_reducible exact Below.refl _ _ | with_reducible refine ext_set ?_ (by first | omega | (simp; done) | (simp; omega)) _ | with_reducible refine ext_alloc ?_ _ | with_reducible refine ext_trans ?_ HB1.out)
set_option maxHeartbeats 1000000 in
theorem shape_1 (w : World) (ht : Tab w) : Calls Tryd.prog 15 #[.int .i64 1] w fun e w' => e = .returned (.tuple #[.agg #[.string ⟨(wordL 1).toArray⟩, .bool true, .bool false, .int .u8 110], .bool true]) ∧ Below w.heap.size w w' := by
  have FW := Lib.hid fields_any
  have HT := Lib.hid ht
  clear ht
  go_enter Tryd.func15, Tryd.ntmps15
  go_wp2_with (go_at_call 32; ((with_reducible refine (FW.out _ (by decide +kernel) _ (HT.out.below (ext_alloc (Below.refl _ _) _))).mono ?_); rintro e w1 ⟨rfl, hb1, hc1⟩; have hq := hc1 1 (by decide); simp only [World.size_alloc] at hq; have hql := World.block_lt_of_cell? w1 _ hq; have rB := bk_keep hb1 (bk_new w 41 #[.string ⟨#[]⟩, .bool false, .bool false, .int .u8 0]); obtain ⟨r0, r1, r2, r3⟩ := cells4 rB; have rL := rB.lt; have rF := fun i => Bk.frozen rB i; have HB1 := Lib.hid hb1; clear hb1 hc1 rB))
  refine bodyPost_ret (v := .tuple #[.agg #[.string ⟨(wordL 1).toArray⟩, .bool true, .bool false, .int .u8 110], .bool true]) (by simp [results, Tryd.results15, go_sem, *]; try rfl) rfl ⟨rfl, ?_⟩
  repeat (first | with_reducible exact Below.refl _ _ | with_reducible refine ext_set ?_ (by first | omega | (simp; done) | (simp; omega)) _ | with_reducible refine ext_alloc ?_ _ | with_reducible refine ext_trans ?_ HB1.out)
set_option maxHeartbeats 1000000 in
theorem shape_2 (w : World) (ht : Tab w) : Calls Tryd.prog 15 #[.int .i64 2] w fun e w' => e = .returned (.tuple #[.agg #[.string ⟨(wordL 2).toArray⟩, .bool true, .bool true, .int .u8 0], .bool true]) ∧ Below w.heap.size w w' := by
  have FW := Lib.hid fields_any
  have HT := Lib.hid ht
  clear ht
  go_enter Tryd.func15, Tryd.ntmps15
  go_wp2_with (go_at_call 32; ((with_reducible refine (FW.out _ (by decide +kernel) _ (HT.out.below (ext_alloc (Below.refl _ _) _))).mono ?_); rintro e w1 ⟨rfl, hb1, hc1⟩; have hq := hc1 2 (by decide); simp only [World.size_alloc] at hq; have hql := World.block_lt_of_cell? w1 _ hq; have rB := bk_keep hb1 (bk_new w 41 #[.string ⟨#[]⟩, .bool false, .bool false, .int .u8 0]); obtain ⟨r0, r1, r2, r3⟩ := cells4 rB; have rL := rB.lt; have rF := fun i => Bk.frozen rB i; have HB1 := Lib.hid hb1; clear hb1 hc1 rB))
  refine bodyPost_ret (v := .tuple #[.agg #[.string ⟨(wordL 2).toArray⟩, .bool true, .bool true, .int .u8 0], .bool true]) (by simp [results, Tryd.results15, go_sem, *]; try rfl) rfl ⟨rfl, ?_⟩
  repeat (first | with_reducible exact Below.refl _ _ | with_reducible refine ext_set ?_ (by first | omega | (simp; done) | (simp; omega)) _ | with_reducible refine ext_alloc ?_ _ | with_reducible refine ext_trans ?_ HB1.out)
set_option maxHeartbeats 1000000 in
theorem shape_3 (w : World) (ht : Tab w) : Calls Tryd.prog 15 #[.int .i64 3] w fun e w' => e = .returned (.tuple #[.agg #[.string ⟨(wordL 3).toArray⟩, .bool true, .bool true, .int .u8 114], .bool true]) ∧ Below w.heap.size w w' := by
  have FW := Lib.hid fields_any
  have HT := Lib.hid ht
  clear ht
  go_enter Tryd.func15, Tryd.ntmps15
  go_wp2_with (go_at_call 32; ((with_reducible refine (FW.out _ (by decide +kernel) _ (HT.out.below (ext_alloc (Below.refl _ _) _))).mono ?_); rintro e w1 ⟨rfl, hb1, hc1⟩; have hq := hc1 3 (by decide); simp only [World.size_alloc] at hq; have hql := World.block_lt_of_cell? w1 _ hq; have rB := bk_keep hb1 (bk_new w 41 #[.string ⟨#[]⟩, .bool false, .bool false, .int .u8 0]); obtain ⟨r0, r1, r2, r3⟩ := cells4 rB; have rL := rB.lt; have rF := fun i => Bk.frozen rB i; have HB1 := Lib.hid hb1; clear hb1 hc1 rB))
  refine bodyPost_ret (v := .tuple #[.agg #[.string ⟨(wordL 3).toArray⟩, .bool true, .bool true, .int .u8 114], .bool true]) (by simp [results, Tryd.results15, go_sem, *]; try rfl) rfl ⟨rfl, ?_⟩
  repeat (first | with_reducible exact Below.refl _ _ | with_reducible refine ext_set ?_ (by first | omega | (simp; done) | (simp; omega)) _ | with_reducible refine ext_alloc ?_ _ | with_reducible refine ext_trans ?_ HB1.out)
set_option maxHeartbeats 1000000 in
theorem shape_4 (w : World) (ht : Tab w) : Calls Tryd.prog 15 #[.int .i64 4] w fun e w' => e = .returned (.tuple #[.agg #[.string ⟨(wordL 4).toArray⟩, .bool true, .bool true, .int .u8 114], .bool true]) ∧ Below w.heap.size w w' := by
  have FW := Lib.hid fields_any
  have HT := Lib.hid ht
  clear ht
  go_enter Tryd.func15, Tryd.ntmps15
  go_wp2_with (go_at_call 32; ((with_reducible refine (FW.out _ (by decide +kernel) _ (HT.out.below (ext_alloc (Below.refl _ _) _))).mono ?_); rintro e w1 ⟨rfl, hb1, hc1⟩; have hq := hc1 4 (by decide); simp only [World.size_alloc] at hq; have hql := World.block_lt_of_cell? w1 _ hq; have rB := bk_keep hb1 (bk_new w 41 #[.string ⟨#[]⟩, .bool false, .bool false, .int .u8 0]); obtain ⟨r0, r1, r2, r3⟩ := cells4 rB; have rL := rB.lt; have rF := fun i => Bk.frozen rB i; have HB1 := Lib.hid hb1; clear hb1 hc1 rB))
  refine bodyPost_ret (v := .tuple #[.agg #[.string ⟨(wordL 4).toArray⟩, .bool true, .bool true, .int .u8 114], .bool true]) (by simp [results, Tryd.results15, go_sem, *]; try rfl) rfl ⟨rfl, ?_⟩
  repeat (first | with_reducible exact Below.refl _ _ | with_reducible refine ext_set ?_ (by first | omega | (simp; done) | (simp; omega)) _ | with_reducible refine ext_alloc ?_ _ | with_reducible refine ext_trans ?_ HB1.out)
set_option maxHeartbeats 1000000 in
theorem shape_5 (w : World) (ht : Tab w) : Calls Tryd.prog 15 #[.int .i64 5] w fun e w' => e = .returned (.tuple #[.agg #[.string ⟨(wordL 5).toArray⟩, .bool true, .bool true, .int .u8 114], .bool true]) ∧ Below w.heap.size w w' := by
  have FW := Lib.hid fields_any
  have HT := Lib.hid ht
  clear ht
  go_enter Tryd.func15, Tryd.ntmps15
  go_wp2_with (go_at_call 32; ((with_reducible refine (FW.out _ (by decide +kernel) _ (HT.out.below (ext_alloc (Below.refl _ _) _))).mono ?_); rintro e w1 ⟨rfl, hb1, hc1⟩; have hq := hc1 5 (by decide); simp only [World.size_alloc] at hq; have hql := World.block_lt_of_cell? w1 _ hq; have rB := bk_keep hb1 (bk_new w 41 #[.string ⟨#[]⟩, .bool false, .bool false, .int .u8 0]); obtain ⟨r0, r1, r2, r3⟩ := cells4 rB; have rL := rB.lt; have rF := fun i => Bk.frozen rB i; have HB1 := Lib.hid hb1; clear hb1 hc1 rB))
  refine bodyPost_ret (v := .tuple #[.agg #[.string ⟨(wordL 5).toArray⟩, .bool true, .bool true, .int .u8 114], .bool true]) (by simp [results, Tryd.results15, go_sem, *]; try rfl) rfl ⟨rfl, ?_⟩
  repeat (first | with_reducible exact Below.refl _ _ | with_reducible refine ext_set ?_ (by first | omega | (simp; done) | (simp; omega)) _ | with_reducible refine ext_alloc ?_ _ | with_reducible refine ext_trans ?_ HB1.out)
set_option maxHeartbeats 1000000 in
theorem shape_6 (w : World) (ht : Tab w) : Calls Tryd.prog 15 #[.int .i64 6] w fun e w' => e = .returned (.tuple #[.agg #[.string ⟨(wordL 6).toArray⟩, .bool true, .bool true, .int .u8 114], .bool true]) ∧ Below w.heap.size w w' := by
  have FW := Lib.hid fields_any
  have HT := Lib.hid ht
  clear ht
  go_enter Tryd.func15, Tryd.ntmps15
  go_wp2_with (go_at_call 32; ((with_reducible refine (FW.out _ (by decide +kernel) _ (HT.out.below (ext_alloc (Below.refl _ _) _))).mono ?_); rintro e w1 ⟨rfl, hb1, hc1⟩; have hq := hc1 6 (by decide); simp only [World.size_alloc] at hq; have hql := World.block_lt_of_cell? w1 _ hq; have rB := bk_keep hb1 (bk_new w 41 #[.string ⟨#[]⟩, .bool false, .bool false, .int .u8 0]); obtain ⟨r0, r1, r2, r3⟩ := cells4 rB; have rL := rB.lt; have rF := fun i => Bk.frozen rB i; have HB1 := Lib.hid hb1; clear hb1 hc1 rB))
  refine bodyPost_ret (v := .tuple #[.agg #[.string ⟨(wordL 6).toArray⟩, .bool true, .bool true, .int .u8 114], .bool true]) (by simp [results, Tryd.results15, go_sem, *]; try rfl) rfl ⟨rfl, ?_⟩
  repeat (first | with_reducible exact Below.refl _ _ | with_reducible refine ext_set ?_ (by first | omega | (simp; done) | (simp; omega)) _ | with_reducible refine ext_alloc ?_ _ | with_reducible refine ext_trans ?_ HB1.out)
set_option maxHeartbeats 1000000 in
theorem shape_7 (w : World) (ht : Tab w) : Calls Tryd.prog 15 #[.int .i64 7] w fun e w' => e = .returned (.tuple #[.agg #[.string ⟨(wordL 7).toArray⟩, .bool true, .bool true, .int .u8 114], .bool true]) ∧ Below w.heap.size w w' := by
  have FW := Lib.hid fields_any
  have HT := Lib.hid ht
  clear ht
  go_enter Tryd.func15, Tryd.ntmps15
  go_wp2_with (go_at_call 32; ((with_reducible refine (FW.out _ (by decide +kernel) _ (HT.out.below (ext_alloc (Below.refl _ _) _))).mono ?_); rintro e w1 ⟨rfl, hb1, hc1⟩; have hq := hc1 7 (by decide); simp only [World.size_alloc] at hq; have hql := World.block_lt_of_cell? w1 _ hq; have rB := bk_keep hb1 (bk_new w 41 #[.string ⟨#[]⟩, .bool false, .bool false, .int .u8 0]); obtain ⟨r0, r1, r2, r3⟩ := cells4 rB; have rL := rB.lt; have rF := fun i => Bk.frozen rB i; have HB1 := Lib.hid hb1; clear hb1 hc1 rB))
  refine bodyPost_ret (v := .tuple #[.agg #[.string ⟨(wordL 7).toArray⟩, .bool true, .bool true, .int .u8 114], .bool true]) (by simp [results, Tryd.results15, go_sem, *]; try rfl) rfl ⟨rfl, ?_⟩
  repeat (first | with_reducible exact Below.refl _ _ | with_reducible refine ext_set ?_ (by first | omega | (simp; done) | (simp; omega)) _ | with_reducible refine ext_alloc ?_ _ | with_reducible refine ext_trans ?_ HB1.out)
set_option maxHeartbeats 1000000 in
theorem shape_8 (w : World) (ht : Tab w) : Calls Tryd.prog 15 #[.int .i64 8] w fun e w' => e = .returned (.tuple #[.agg #[.string ⟨(wordL 8).toArray⟩, .bool false, .bool false, .int .u8 110], .bool true]) ∧ Below w.heap.size w w' := by
  have FW := Lib.hid fields_any
  have HT := Lib.hid ht
  clear ht
  go_enter Tryd.func15, Tryd.ntmps15
  go_wp2_with (go_at_call 32; ((with_reducible refine (FW.out _ (by decide +kernel) _ (HT.out.below (ext_alloc (Below.refl _ _) _))).mono ?_); rintro e w1 ⟨rfl, hb1, hc1⟩; have hq := hc1 8 (by decide); simp only [World.size_alloc] at hq; have hql := World.block_lt_of_cell? w1 _ hq; have rB := bk_keep hb1 (bk_new w 41 #[.string ⟨#[]⟩, .bool false, .bool false, .int .u8 0]); obtain ⟨r0, r1, r2, r3⟩ := cells4 rB; have rL := rB.lt; have rF := fun i => Bk.frozen rB i; have HB1 := Lib.hid hb1; clear hb1 hc1 rB))
  refine bodyPost_ret (v := .tuple #[.agg #[.string ⟨(wordL 8).toArray⟩, .bool false, .bool false, .int .u8 110], .bool true]) (by simp [results, Tryd.results15, go_sem, *]; try rfl) rfl ⟨rfl, ?_⟩
  repeat (first | with_reducible exact Below.refl _ _ | with_reducible refine ext_set ?_ (by first | omega | (simp; done) | (simp; omega)) _ | with_reducible refine ext_alloc ?_ _ | with_reducible refine ext_trans ?_ HB1.out)
set_option maxHeartbeats 1000000 in
theorem shape_9 (w : World) (ht : Tab w) : Calls Tryd.prog 15 #[.int .i64 9] w fun e w' => e = .returned (.tuple #[.agg #[.string ⟨(wordL 9).toArray⟩, .bool true, .bool false, .int .u8 110], .bool true]) ∧ Below w.heap.size w w' := by
  have FW := Lib.hid fields_any
  have HT := Lib.hid ht
  clear ht
  go_enter Tryd.func15, Tryd.ntmps15
  go_wp2_with (go_at_call 32; ((with_reducible refine (FW.out _ (by decide +kernel) _ (HT.out.below (ext_alloc (Below.refl _ _) _))).mono ?_); rintro e w1 ⟨rfl, hb1, hc1⟩; have hq := hc1 9 (by decide); simp only [World.size_alloc] at hq; have hql := World.block_lt_of_cell? w1 _ hq; have rB := bk_keep hb1 (bk_new w 41 #[.string ⟨#[]⟩, .bool false, .bool false, .int .u8 0]); obtain ⟨r0, r1, r2, r3⟩ := cells4 rB; have rL := rB.lt; have rF := fun i => Bk.frozen rB i; have HB1 := Lib.hid hb1; clear hb1 hc1 rB))
  refine bodyPost_ret (v := .tuple #[.agg #[.string ⟨(wordL 9).toArray⟩, .bool true, .bool false, .int .u8 110], .bool true]) (by simp [results, Tryd.results15, go_sem, *]; try rfl) rfl ⟨rfl, ?_⟩
  repeat (first | with_reducible exact Below.refl _ _ | with_reducible refine ext_set ?_ (by first | omega | (simp; done) | (simp; omega)) _ | with_reducible refine ext_alloc ?_ _ | with_reducible refine ext_trans ?_ HB1.out)
set_option maxHeartbeats 1000000 in
theorem shape_10 (w : World) (ht : Tab w) : Calls Tryd.prog 15 #[.int .i64 10] w fun e w' => e = .returned (.tuple #[.agg #[.string ⟨(wordL 10).toArray⟩, .bool true, .bool true, .int .u8 110], .bool true]) ∧ Below w.heap.size w w' := by
  have FW := Lib.hid fields_any
  have HT := Lib.hid ht
  clear ht
  go_enter Tryd.func15, Tryd.ntmps15
  go_wp2_with (go_at_call 32; ((with_reducible refine (FW.out _ (by decide +kernel) _ (HT.out.below (ext_alloc (Below.refl _ _) _))).mono ?_); rintro e w1 ⟨rfl, hb1, hc1⟩; have hq := hc1 10 (by decide); simp only [World.size_alloc] at hq; have hql := World.block_lt_of_cell? w1 _ hq; have rB := bk_keep hb1 (bk_new w 41 #[.string ⟨#[]⟩, .bool false, .bool false, .int .u8 0]); obtain ⟨r0, r1, r2, r3⟩ := cells4 rB; have rL := rB.lt; have rF := fun i => Bk.frozen rB i; have HB1 := Lib.hid hb1; clear hb1 hc1 rB))
  refine bodyPost_ret (v := .tuple #[.agg #[.string ⟨(wordL 10).toArray⟩, .bool true, .bool true, .int .u8 110], .bool true]) (by simp [results, Tryd.results15, go_sem, *]; try rfl) rfl ⟨rfl, ?_⟩
  repeat (first | with_reducible exact Below.refl _ _ | with_reducible refine ext_set ?_ (by first | omega | (simp; done) | (simp; omega)) _ | with_reducible refine ext_alloc ?_ _ | with_reducible refine ext_trans ?_ HB1.out)
set_option maxHeartbeats 1000000 in
theorem shape_11 (w : World) (ht : Tab w) : Calls Tryd.prog 15 #[.int .i64 11] w fun e w' => e = .returned (.tuple #[.agg #[.string ⟨(wordL 11).toArray⟩, .bool true, .bool true, .int .u8 110], .bool true]) ∧ Below w.heap.size w w' := by
  have FW := Lib.hid fields_any
  have HT := Lib.hid ht
  clear ht
  go_enter Tryd.func15, Tryd.ntmps15
  go_wp2_with (go_at_call 32; ((with_reducible refine (FW.out _ (by decide +kernel) _ (HT.out.below (ext_alloc (Below.refl _ _) _))).mono ?_); rintro e w1 ⟨rfl, hb1, hc1⟩; have hq := hc1 11 (by decide); simp only [World.size_alloc] at hq; have hql := World.block_lt_of_cell? w1 _ hq; have rB := bk_keep hb1 (bk_new w 41 #[.string ⟨#[]⟩, .bool false, .bool false, .int .u8 0]); obtain ⟨r0, r1, r2, r3⟩ := cells4 rB; have rL := rB.lt; have rF := fun i => Bk.frozen rB i; have HB1 := Lib.hid hb1; clear hb1 hc1 rB))
  refine bodyPost_ret (v := .tuple #[.agg #[.string ⟨(wordL 11).toArray⟩, .bool true, .bool true, .int .u8 110], .bool true]) (by simp [results, Tryd.results15, go_sem, *]; try rfl) rfl ⟨rfl, ?_⟩
  repeat (first | with_reducible exact Below.refl _ _ | with_reducible refine ext_set ?_ (by first | omega | (simp; done) | (simp; omega)) _ | with_reducible refine ext_alloc ?_ _ | with_reducible refine ext_trans ?_ HB1.out)
set_option maxHeartbeats 1000000 in
theorem shape_12 (w : World) (ht : Tab w) : Calls Tryd.prog 15 #[.int .i64 12] w fun e w' => e = .returned (.tuple #[.agg #[.string ⟨(wordL 12).toArray⟩, .bool true, .bool true, .int .u8 114], .bool true]) ∧ Below w.heap.size w w' := by
  have FW := Lib.hid fields_any
  have HT := Lib.hid ht
  clear ht
  go_enter Tryd.func15, Tryd.ntmps15
  go_wp2_with (go_at_call 32; ((with_reducible refine (FW.out _ (by decide +kernel) _ (HT.out.below (ext_alloc (Below.refl _ _) _))).mono ?_); rintro e w1 ⟨rfl, hb1, hc1⟩; have hq := hc1 12 (by decide); simp only [World.size_alloc] at hq; have hql := World.block_lt_of_cell? w1 _ hq; have rB := bk_keep hb1 (bk_new w 41 #[.string ⟨#[]⟩, .bool false, .bool false, .int .u8 0]); obtain ⟨r0, r1, r2, r3⟩ := cells4 rB; have rL := rB.lt; have rF := fun i => Bk.frozen rB i; have HB1 := Lib.hid hb1; clear hb1 hc1 rB))
  refine bodyPost_ret (v := .tuple #[.agg #[.string ⟨(wordL 12).toArray⟩, .bool true, .bool true, .int .u8 114], .bool true]) (by simp [results, Tryd.results15, go_sem, *]; try rfl) rfl ⟨rfl, ?_⟩
  repeat (first | with_reducible exact Below.refl _ _ | with_reducible refine ext_set ?_ (by first | omega | (simp; done) | (simp; omega)) _ | with_reducible refine ext_alloc ?_ _ | with_reducible refine ext_trans ?_ HB1.out)
set_option maxHeartbeats 1000000 in
theorem shape_13 (w : World) (ht : Tab w) : Calls Tryd.prog 15 #[.int .i64 13] w fun e w' => e = .returned (.tuple #[.agg #[.string ⟨(wordL 13).toArray⟩, .bool true, .bool true, .int .u8 114], .bool true]) ∧ Below w.heap.size w w' := by
  have FW := Lib.hid fields_any
  have HT := Lib.hid ht
  clear ht
  go_enter Tryd.func15, Tryd.ntmps15
  go_wp2_with (go_at_call 32; ((with_reducible refine (FW.out _ (by decide +kernel) _ (HT.out.below (ext_alloc (Below.refl _ _) _))).mono ?_); rintro e w1 ⟨rfl, hb1, hc1⟩; have hq := hc1 13 (by decide); simp only [World.size_alloc] at hq; have hql := World.block_lt_of_cell? w1 _ hq; have rB := bk_keep hb1 (bk_new w 41 #[.string ⟨#[]⟩, .bool false, .bool false, .int .u8 0]); obtain ⟨r0, r1, r2, r3⟩ := cells4 rB; have rL := rB.lt; have rF := fun i => Bk.frozen rB i; have HB1 := Lib.hid hb1; clear hb1 hc1 rB))
  refine bodyPost_ret (v := .tuple #[.agg #[.string ⟨(wordL 13).toArray⟩, .bool true, .bool true, .int .u8 114], .bool true]) (by simp [results, Tryd.results15, go_sem, *]; try rfl) rfl ⟨rfl, ?_⟩
  repeat (first | with_reducible exact Below.refl _ _ | with_reducible refine ext_set ?_ (by first | omega | (simp; done) | (simp; omega)) _ | with_reducible refine ext_alloc ?_ _ | with_reducible refine ext_trans ?_ HB1.out)
set_option maxHeartbeats 1000000 in
theorem shape_14 (w : World) (ht : Tab w) : Calls Tryd.prog 15 #[.int .i64 14] w fun e w' => e = .returned (.tuple #[.agg #[.string ⟨(wordL 14).toArray⟩, .bool true, .bool true, .int .u8 112], .bool true]) ∧ Below w.heap.size w w' := by
  have FW := Lib.hid fields_any
  have HT := Lib.hid ht
  clear ht
  go_enter Tryd.func15, Tryd.ntmps15
  go_wp2_with (go_at_call 32; ((with_reducible refine (FW.out _ (by decide +kernel) _ (HT.out.below (ext_alloc (Below.refl _ _) _))).mono ?_); rintro e w1 ⟨rfl, hb1, hc1⟩; have hq := hc1 14 (by decide); simp only [World.size_alloc] at hq; have hql := World.block_lt_of_cell? w1 _ hq; have rB := bk_keep hb1 (bk_new w 41 #[.string ⟨#[]⟩, .bool false, .bool false, .int .u8 0]); obtain ⟨r0, r1, r2, r3⟩ := cells4 rB; have rL := rB.lt; have rF := fun i => Bk.frozen rB i; have HB1 := Lib.hid hb1; clear hb1 hc1 rB))
  refine bodyPost_ret (v := .tuple #[.agg #[.string ⟨(wordL 14).toArray⟩, .bool true, .bool true, .int .u8 112], .bool true]) (by simp [results, Tryd.results15, go_sem, *]; try rfl) rfl ⟨rfl, ?_⟩
  repeat (first | with_reducible exact Below.refl _ _ | with_reducible refine ext_set ?_ (by first | omega | (simp; done) | (simp; omega)) _ | with_reducible refine ext_alloc ?_ _ | with_reducible refine ext_trans ?_ HB1.out)
set_option maxHeartbeats 1000000 in
theorem shape_15 (w : World) (ht : Tab w) : Calls Tryd.prog 15 #[.int .i64 15] w fun e w' => e = .returned (.tuple #[.agg #[.string ⟨(wordL 15).toArray⟩, .bool true, .bool true, .int .u8 114], .bool true]) ∧ Below w.heap.size w w' := by
  have FW := Lib.hid fields_any
  have HT := Lib.hid ht
  clear ht
  go_enter Tryd.func15, Tryd.ntmps15
  go_wp2_with (go_at_call 32; ((with_reducible refine (FW.out _ (by decide +kernel) _ (HT.out.below (ext_alloc (Below.refl _ _) _))).mono ?_); rintro e w1 ⟨rfl, hb1, hc1⟩; have hq := hc1 15 (by decide); simp only [World.size_alloc] at hq; have hql := World.block_lt_of_cell? w1 _ hq; have rB := bk_keep hb1 (bk_new w 41 #[.string ⟨#[]⟩, .bool false, .bool false, .int .u8 0]); obtain ⟨r0, r1, r2, r3⟩ := cells4 rB; have rL := rB.lt; have rF := fun i => Bk.frozen rB i; have HB1 := Lib.hid hb1; clear hb1 hc1 rB))
  refine bodyPost_ret (v := .tuple #[.agg #[.string ⟨(wordL 15).toArray⟩, .bool true, .bool true, .int .u8 114], .bool true]) (by simp [results, Tryd.results15, go_sem, *]; try rfl) rfl ⟨rfl, ?_⟩
  repeat (first | with_reducible exact Below.refl _ _ | with_reducible refine ext_set ?_ (by first | omega | (simp; done) | (simp; omega)) _ | with_reducible refine ext_alloc ?_ _ | with_reducible refine ext_trans ?_ HB1.out)
set_option maxHeartbeats 1000000 in
theorem shape_16 (w : World) (ht : Tab w) : Calls Tryd.prog 15 #[.int .i64 16] w fun e w' => e = .returned (.tuple #[.agg #[.string ⟨(wordL 16).toArray⟩, .bool true, .bool true, .int .u8 114], .bool true]) ∧ Below w.heap.size w w' := by
  have FW := Lib.hid fields_any
  have HT := Lib.hid ht
  clear ht
  go_enter Tryd.func15, Tryd.ntmps15
  go_wp2_with (go_at_call 32; ((with_reducible refine (FW.out _ (by decide +kernel) _ (HT.out.below (ext_alloc (Below.refl _ _) _))).mono ?_); rintro e w1 ⟨rfl, hb1, hc1⟩; have hq := hc1 16 (by decide); simp only [World.size_alloc] at hq; have hql := World.block_lt_of_cell? w1 _ hq; have rB := bk_keep hb1 (bk_new w 41 #[.string ⟨#[]⟩, .bool false, .bool false, .int .u8 0]); obtain ⟨r0, r1, r2, r3⟩ := cells4 rB; have rL := rB.lt; have rF := fun i => Bk.frozen rB i; have HB1 := Lib.hid hb1; clear hb1 hc1 rB))
  refine bodyPost_ret (v := .tuple #[.agg #[.string ⟨(wordL 16).toArray⟩, .bool true, .bool true, .int .u8 114], .bool true]) (by simp [results, Tryd.results15, go_sem, *]; try rfl) rfl ⟨rfl, ?_⟩
  repeat (first | with_reducible exact Below.refl _ _ | with_reducible refine ext_set ?_ (by first | omega | (simp; done) | (simp; omega)) _ | with_reducible refine ext_alloc ?_ _ | with_reducible refine ext_trans ?_ HB1.out)
set_option maxHeartbeats 1000000 in
theorem shape_17 (w : World) (ht : Tab w) : Calls Tryd.prog 15 #[.int .i64 17] w fun e w' => e = .returned (.tuple #[.agg #[.string ⟨(wordL 17).toArray⟩, .bool true, .bool true, .int .u8 113], .bool true]) ∧ Below w.heap.size w w' := by
  have FW := Lib.hid fields_any
  have HT := Lib.hid ht
  clear ht
  go_enter Tryd.func15, Tryd.ntmps15
  go_wp2_with (go_at_call 32; ((with_reducible refine (FW.out _ (by decide +kernel) _ (HT.out.below (ext_alloc (Below.refl _ _) _))).mono ?_); rintro e w1 ⟨rfl, hb1, hc1⟩; have hq := hc1 17 (by decide); simp only [World.size_alloc] at hq; have hql := World.block_lt_of_cell? w1 _ hq; have rB := bk_keep hb1 (bk_new w 41 #[.string ⟨#[]⟩, .bool false, .bool false, .int .u8 0]); obtain ⟨r0, r1, r2, r3⟩ := cells4 rB; have rL := rB.lt; have rF := fun i => Bk.frozen rB i; have HB1 := Lib.hid hb1; clear hb1 hc1 rB))
  refine bodyPost_ret (v := .tuple #[.agg #[.string ⟨(wordL 17).toArray⟩, .bool true, .bool true, .int .u8 113], .bool true]) (by simp [results, Tryd.results15, go_sem, *]; try rfl) rfl ⟨rfl, ?_⟩
  repeat (first | with_reducible exact Below.refl _ _ | with_reducible refine ext_set ?_ (by first | omega | (simp; done) | (simp; omega)) _ | with_reducible refine ext_alloc ?_ _ | with_reducible refine ext_trans ?_ HB1.out)
set_option maxHeartbeats 1000000 in
theorem shape_18 (w : World) (ht : Tab w) : Calls Tryd.prog 15 #[.int .i64 18] w fun e w' => e = .returned (.tuple #[.agg #[.string ⟨(wordL 18).toArray⟩, .bool true, .bool true, .int .u8 0], .bool true]) ∧ Below w.heap.size w w' := by
  have FW := Lib.hid fields_any
  have HT := Lib.hid ht
  clear ht
  go_enter Tryd.func15, Tryd.ntmps15
  go_wp2_with (go_at_call 32; ((with_reducible refine (FW.out _ (by decide +kernel) _ (HT.out.below (ext_alloc (Below.refl _ _) _))).mono ?_); rintro e w1 ⟨rfl, hb1, hc1⟩; have hq := hc1 18 (by decide); simp only [World.size_alloc] at hq; have hql := World.block_lt_of_cell? w1 _ hq; have rB := bk_keep hb1 (bk_new w 41 #[.string ⟨#[]⟩, .bool false, .bool false, .int .u8 0]); obtain ⟨r0, r1, r2, r3⟩ := cells4 rB; have rL := rB.lt; have rF := fun i => Bk.frozen rB i; have HB1 := Lib.hid hb1; clear hb1 hc1 rB))
  refine bodyPost_ret (v := .tuple #[.agg #[.string ⟨(wordL 18).toArray⟩, .bool true, .bool true, .int .u8 0], .bool true]) (by simp [results, Tryd.results15, go_sem, *]; try rfl) rfl ⟨rfl, ?_⟩
  repeat (first | with_reducible exact Below.refl _ _ | with_reducible refine ext_set ?_ (by first | omega | (simp; done) | (simp; omega)) _ | with_reducible refine ext_alloc ?_ _ | with_reducible refine ext_trans ?_ HB1.out)
set_option maxHeartbeats 1000000 in
theorem shape_19 (w : World) (ht : Tab w) : Calls Tryd.prog 15 #[.int .i64 19] w fun e w' => e = .returned (.tuple #[.agg #[.string ⟨(wordL 19).toArray⟩, .bool false, .bool false, .int .u8 0], .bool true]) ∧ Below w.heap.size w w' := by
  have FW := Lib.hid fields_any
  have HT := Lib.hid ht
  clear ht
  go_enter Tryd.func15, Tryd.ntmps15
  go_wp2_with (go_at_call 32; ((with_reducible refine (FW.out _ (by decide +kernel) _ (HT.out.below (ext_alloc (Below.refl _ _) _))).mono ?_); rintro e w1 ⟨rfl, hb1, hc1⟩; have hq := hc1 19 (by decide); simp only [World.size_alloc] at hq; have hql := World.block_lt_of_cell? w1 _ hq; have rB := bk_keep hb1 (bk_new w 41 #[.string ⟨#[]⟩, .bool false, .bool false, .int .u8 0]); obtain ⟨r0, r1, r2, r3⟩ := cells4 rB; have rL := rB.lt; have rF := fun i => Bk.frozen rB i; have HB1 := Lib.hid hb1; clear hb1 hc1 rB))
  refine bodyPost_ret (v := .tuple #[.agg #[.string ⟨(wordL 19).toArray⟩, .bool false, .bool false, .int .u8 0], .bool true]) (by simp [results, Tryd.results15, go_sem, *]; try rfl) rfl ⟨rfl, ?_⟩
  repeat (first | with_reducible exact Below.refl _ _ | with_reducible refine ext_set ?_ (by first | omega | (simp; done) | (simp; omega)) _ | with_reducible refine ext_alloc ?_ _ | with_reducible refine ext_trans ?_ HB1.out)
set_option maxHeartbeats 1000000 in
theorem shape_20 (w : World) (ht : Tab w) : Calls Tryd.prog 15 #[.int .i64 20] w fun e w' => e = .returned (.tuple #[.agg #[.string ⟨(wordL 20).toArray⟩, .bool true, .bool false, .int .u8 0], .bool true]) ∧ Below w.heap.size w w' := by
  have FW := Lib.hid fields_any
  have HT := Lib.hid ht
  clear ht
  go_enter Tryd.func15, Tryd.ntmps15
  go_wp2_with (go_at_call 32; ((with_reducible refine (FW.out _ (by decide +kernel) _ (HT.out.below (ext_alloc (Below.refl _ _) _))).mono ?_); rintro e w1 ⟨rfl, hb1, hc1⟩; have hq := hc1 20 (by decide); simp only [World.size_alloc] at hq; have hql := World.block_lt_of_cell? w1 _ hq; have rB := bk_keep hb1 (bk_new w 41 #[.string ⟨#[]⟩, .bool false, .bool false, .int .u8 0]); obtain ⟨r0, r1, r2, r3⟩ := cells4 rB; have rL := rB.lt; have rF := fun i => Bk.frozen rB i; have HB1 := Lib.hid hb1; clear hb1 hc1 rB))
  refine bodyPost_ret (v := .tuple #[.agg #[.string ⟨(wordL 20).toArray⟩, .bool true, .bool false, .int .u8 0], .bool true]) (by simp [results, Tryd.results15, go_sem, *]; try rfl) rfl ⟨rfl, ?_⟩
  repeat (first | with_reducible exact Below.refl _ _ | with_reducible refine ext_set ?_ (by first | omega | (simp; done) | (simp; omega)) _ | with_reducible refine ext_alloc ?_ _ | with_reducible refine ext_trans ?_ HB1.out)
set_option maxHeartbeats 1000000 in
theorem shape_21 (w : World) (ht : Tab w) : Calls Tryd.prog 15 #[.int .i64 21] w fun e w' => e = .returned (.tuple #[.agg #[.string ⟨(wordL 21).toArray⟩, .bool false, .bool false, .int .u8 109], .bool true]) ∧ Below w.heap.size w w' := by
  have FW := Lib.hid fields_any
  have HT := Lib.hid ht
  clear ht
  go_enter Tryd.func15, Tryd.ntmps15
  go_wp2_with (go_at_call 32; ((with_reducible refine (FW.out _ (by decide +kernel) _ (HT.out.below (ext_alloc (Below.refl _ _) _))).mono ?_); rintro e w1 ⟨rfl, hb1, hc1⟩; have hq := hc1 21 (by decide); simp only [World.size_alloc] at hq; have hql := World.block_lt_of_cell? w1 _ hq; have rB := bk_keep hb1 (bk_new w 41 #[.string ⟨#[]⟩, .bool false, .bool false, .int .u8 0]); obtain ⟨r0, r1, r2, r3⟩ := cells4 rB; have rL := rB.lt; have rF := fun i => Bk.frozen rB i; have HB1 := Lib.hid hb1; clear hb1 hc1 rB))
  refine bodyPost_ret (v := .tuple #[.agg #[.string ⟨(wordL 21).toArray⟩, .bool false, .bool false, .int .u8 109], .bool true]) (by simp [results, Tryd.results15, go_sem, *]; try rfl) rfl ⟨rfl, ?_⟩
  repeat (first | with_reducible exact Below.refl _ _ | with_reducible refine ext_set ?_ (by first | omega | (simp; done) | (simp; omega)) _ | with_reducible refine ext_alloc ?_ _ | with_reducible refine ext_trans ?_ HB1.out)
set_option maxHeartbeats 1000000 in
theorem shape_22 (w : World) (ht : Tab w) : Calls Tryd.prog 15 #[.int .i64 22] w fun e w' => e = .returned (.tuple #[.agg #[.string ⟨(wordL 22).toArray⟩, .bool true, .bool false, .int .u8 0], .bool true]) ∧ Below w.heap.size w w' := by
  have FW := Lib.hid fields_any
  have HT := Lib.hid ht
  clear ht
  go_enter Tryd.func15, Tryd.ntmps15
  go_wp2_with (go_at_call 32; ((with_reducible refine (FW.out _ (by decide +kernel) _ (HT.out.below (ext_alloc (Below.refl _ _) _))).mono ?_); rintro e w1 ⟨rfl, hb1, hc1⟩; have hq := hc1 22 (by decide); simp only [World.size_alloc] at hq; have hql := World.block_lt_of_cell? w1 _ hq; have rB := bk_keep hb1 (bk_new w 41 #[.string ⟨#[]⟩, .bool false, .bool false, .int .u8 0]); obtain ⟨r0, r1, r2, r3⟩ := cells4 rB; have rL := rB.lt; have rF := fun i => Bk.frozen rB i; have HB1 := Lib.hid hb1; clear hb1 hc1 rB))
  refine bodyPost_ret (v := .tuple #[.agg #[.string ⟨(wordL 22).toArray⟩, .bool true, .bool false, .int .u8 0], .bool true]) (by simp [results, Tryd.results15, go_sem, *]; try rfl) rfl ⟨rfl, ?_⟩
  repeat (first | with_reducible exact Below.refl _ _ | with_reducible refine ext_set ?_ (by first | omega | (simp; done) | (simp; omega)) _ | with_reducible refine ext_alloc ?_ _ | with_reducible refine ext_trans ?_ HB1.out)
set_option maxHeartbeats 1000000 in
theorem shape_neg (op : Int) (h : op < 0) (w : World) (ht : Tab w) : Calls Tryd.prog 15 #[.int .i64 op] w fun e w' => e = .returned (.tuple #[.agg #[.string ⟨([]).toArray⟩, .bool false, .bool false, .int .u8 0], .bool false]) ∧ Below w.heap.size w w' := by
  have FW := Lib.hid fields_any
  have HT := Lib.hid ht
  clear ht
  go_enter Tryd.func15, Tryd.ntmps15
  go_wp2_with (go_at_call 32; ((with_reducible refine (FW.out _ (by decide +kernel) _ (HT.out.below (ext_alloc (Below.refl _ _) _))).mono ?_); rintro e w1 ⟨rfl, hb1, hc1⟩; have rB := bk_keep hb1 (bk_new w 41 #[.string ⟨#[]⟩, .bool false, .bool false, .int .u8 0]); obtain ⟨r0, r1, r2, r3⟩ := cells4 rB; have rL := rB.lt; have rF := fun i => Bk.frozen rB i; have HB1 := Lib.hid hb1; clear hb1 hc1 rB))
  refine bodyPost_ret (v := .tuple #[.agg #[.string ⟨([]).toArray⟩, .bool false, .bool false, .int .u8 0], .bool false]) (by simp [results, Tryd.results15, go_sem, *]; try rfl) rfl ⟨rfl, ?_⟩
  repeat (first | with_reducible exact Below.refl _ _ | with_reducible refine ext_set ?_ (by first | omega | (simp; done) | (simp; omega)) _ | with_reducible refine ext_alloc ?_ _ | with_reducible refine ext_trans ?_ HB1.out)
set_option maxHeartbeats 1000000 in
theorem shape_big (op : Int) (h : 23 ≤ op) (w : World) (ht : Tab w) : Calls Tryd.prog 15 #[.int .i64 op] w fun e w' => e = .returned (.tuple #[.agg #[.string ⟨([]).toArray⟩, .bool false, .bool false, .int .u8 0], .bool false]) ∧ Below w.heap.size w w' := by
  have h0 : ¬ (op < 0) := by omega
  have FW := Lib.hid fields_any
  have HT := Lib.hid ht
  clear ht
  go_enter Tryd.func15, Tryd.ntmps15
  go_wp2_with (go_at_call 32; ((with_reducible refine (FW.out _ (by decide +kernel) _ (HT.out.below (ext_alloc (Below.refl _ _) _))).mono ?_); rintro e w1 ⟨rfl, hb1, hc1⟩; have rB := bk_keep hb1 (bk_new w 41 #[.string ⟨#[]⟩, .bool false, .bool false, .int .u8 0]); obtain ⟨r0, r1, r2, r3⟩ := cells4 rB; have rL := rB.lt; have rF := fun i => Bk.frozen rB i; have HB1 := Lib.hid hb1; clear hb1 hc1 rB))
  refine bodyPost_ret (v := .tuple #[.agg #[.string ⟨([]).toArray⟩, .bool false, .bool false, .int .u8 0], .bool false]) (by simp [results, Tryd.results15, go_sem, *]; try rfl) rfl ⟨rfl, ?_⟩
  repeat (first | with_reducible exact Below.refl _ _ | with_reducible refine ext_set ?_ (by first | omega | (simp; done) | (simp; omega)) _ | with_reducible refine ext_alloc ?_ _ | with_reducible refine ext_trans ?_ HB1.out)
theorem shape_any (op : Int) (w : World) (ht : Tab w) : Calls Tryd.prog 15 #[.int .i64 op] w (ShPost w op (if opB op then wordL op.toNat else []) (opB op)) := by
  by_cases h0 : op < 0
  · have e : opB op = false := by unfold opB; simp; omega
    rw [e]
    exact shape_neg op h0 w ht
  · by_cases h1 : 23 ≤ op
    · have e : opB op = false := by unfold opB; simp; omega
      rw [e]
      exact shape_big op h1 w ht
    · obtain ⟨k, hk⟩ := Int.eq_ofNat_of_zero_le (show 0 ≤ op by omega)
      subst hk
      have hk : k < 23 := by omega
      match k, hk with
      | 0, _ => exact shape_0 w ht
      | 1, _ => exact shape_1 w ht
      | 2, _ => exact shape_2 w ht
      | 3, _ => exact shape_3 w ht
      | 4, _ => exact shape_4 w ht
      | 5, _ => exact shape_5 w ht
      | 6, _ => exact shape_6 w ht
      | 7, _ => exact shape_7 w ht
      | 8, _ => exact shape_8 w ht
      | 9, _ => exact shape_9 w ht
      | 10, _ => exact shape_10 w ht
      | 11, _ => exact shape_11 w ht
      | 12, _ => exact shape_12 w ht
      | 13, _ => exact shape_13 w ht
      | 14, _ => exact shape_14 w ht
      | 15, _ => exact shape_15 w ht
      | 16, _ => exact shape_16 w ht
      | 17, _ => exact shape_17 w ht
      | 18, _ => exact shape_18 w ht
      | 19, _ => exact shape_19 w ht
      | 20, _ => exact shape_20 w ht
      | 21, _ => exact shape_21 w ht
      | 22, _ => exact shape_22 w ht
      | k + 23, h => omega
end Go.Proofs.YtkcnhagpjnhiiaaDoor
