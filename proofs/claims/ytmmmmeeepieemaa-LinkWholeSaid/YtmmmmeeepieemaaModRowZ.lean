import Derived.Test.YtmmmmeeepieemaaBuC
import Derived.Test.YtmmmmeeepieemaaLinkMathZ
/- Rows of what modules are made of. -/
namespace Go.Proofs.Ytmmmmeeepieemaa
open El (cl)
open Go.RowKit
set_option linter.unusedVariables false
set_option linter.unusedSimpArgs false
instance : El NamV where
  k := 2
  cl x := [.string x.name, .int .i64 x.at_]
  z := ⟨ByteArray.empty, 0⟩
  len _ := rfl
  one _ := by intro u hu; simp at hu; rcases hu with rfl | rfl <;> rfl
  pos := by decide
instance : Inhabited NamV := ⟨⟨ByteArray.empty, 0⟩⟩
theorem add_moreNamV (a : Addr) (i j : Nat) (hj : 0 < j) : a.add (i + j) = ⟨(a.add i).block, (a.add i).off + j, none⟩ := by
  unfold Addr.add
  rw [if_neg (by omega)]
  by_cases hi : i = 0
  · subst hi; simp
  · rw [if_neg hi]; simp [Nat.add_assoc]
theorem sl_NamV {w : World} {ao : Option Addr} {n : Nat} {ks : List NamV} (h : Sl w ao n ks) {i : Nat} (hi : i < n) {x : NamV} (hx : ks[i]? = some x) : ∃ a, ao = some a ∧ (a.add (i * 2)).block < w.heap.size ∧
    w.cell? (a.add (i * 2)) = some (.string x.name) ∧ w.cell? ⟨(a.add (i * 2)).block, (a.add (i * 2)).off + 1, none⟩ = some (.int .i64 x.at_) := by
  obtain ⟨a, y, e, hb, hy, hc⟩ := h.at hi
  obtain rfl : y = x := by rw [hx] at hy; injection hy with hy; exact hy.symm
  refine ⟨a, e, by rw [el_block]; exact hb, ?_⟩
  rw [← add_moreNamV a (i * 2) 1 (by decide)]
  exact ⟨hc 0 _ rfl, hc 1 _ rfl⟩
instance : El PlaceV where
  k := 4
  cl x := [.int .i64 x.base, .int .i64 x.code, .int .i64 x.data, .int .i64 x.seal_]
  z := ⟨0, 0, 0, 0⟩
  len _ := rfl
  one _ := by intro u hu; simp at hu; rcases hu with rfl | rfl | rfl | rfl <;> rfl
  pos := by decide
instance : Inhabited PlaceV := ⟨⟨0, 0, 0, 0⟩⟩
theorem add_morePlaceV (a : Addr) (i j : Nat) (hj : 0 < j) : a.add (i + j) = ⟨(a.add i).block, (a.add i).off + j, none⟩ := by
  unfold Addr.add
  rw [if_neg (by omega)]
  by_cases hi : i = 0
  · subst hi; simp
  · rw [if_neg hi]; simp [Nat.add_assoc]
theorem sl_PlaceV {w : World} {ao : Option Addr} {n : Nat} {ks : List PlaceV} (h : Sl w ao n ks) {i : Nat} (hi : i < n) {x : PlaceV} (hx : ks[i]? = some x) : ∃ a, ao = some a ∧ (a.add (i * 4)).block < w.heap.size ∧
    w.cell? (a.add (i * 4)) = some (.int .i64 x.base) ∧ w.cell? ⟨(a.add (i * 4)).block, (a.add (i * 4)).off + 1, none⟩ = some (.int .i64 x.code) ∧ w.cell? ⟨(a.add (i * 4)).block, (a.add (i * 4)).off + 2, none⟩ = some (.int .i64 x.data) ∧ w.cell? ⟨(a.add (i * 4)).block, (a.add (i * 4)).off + 3, none⟩ = some (.int .i64 x.seal_) := by
  obtain ⟨a, y, e, hb, hy, hc⟩ := h.at hi
  obtain rfl : y = x := by rw [hx] at hy; injection hy with hy; exact hy.symm
  refine ⟨a, e, by rw [el_block]; exact hb, ?_⟩
  rw [← add_morePlaceV a (i * 4) 1 (by decide), ← add_morePlaceV a (i * 4) 2 (by decide), ← add_morePlaceV a (i * 4) 3 (by decide)]
  exact ⟨hc 0 _ rfl, hc 1 _ rfl, hc 2 _ rfl, hc 3 _ rfl⟩
instance : El EntryV where
  k := 11
  cl x := [.string x.name, .int .i64 x.code.perm, .int .i64 x.code.base, .int .i64 x.code.len, .int .i64 x.code.at_, .int .i64 x.code.seal_, .int .i64 x.data.perm, .int .i64 x.data.base, .int .i64 x.data.len, .int .i64 x.data.at_, .int .i64 x.data.seal_]
  z := zeroE
  len _ := rfl
  one _ := by intro u hu; simp at hu; rcases hu with rfl | rfl | rfl | rfl | rfl | rfl | rfl | rfl | rfl | rfl | rfl <;> rfl
  pos := by decide
instance : Inhabited EntryV := ⟨zeroE⟩
theorem add_moreEntryV (a : Addr) (i j : Nat) (hj : 0 < j) : a.add (i + j) = ⟨(a.add i).block, (a.add i).off + j, none⟩ := by
  unfold Addr.add
  rw [if_neg (by omega)]
  by_cases hi : i = 0
  · subst hi; simp
  · rw [if_neg hi]; simp [Nat.add_assoc]
theorem sl_EntryV {w : World} {ao : Option Addr} {n : Nat} {ks : List EntryV} (h : Sl w ao n ks) {i : Nat} (hi : i < n) {x : EntryV} (hx : ks[i]? = some x) : ∃ a, ao = some a ∧ (a.add (i * 11)).block < w.heap.size ∧
    w.cell? (a.add (i * 11)) = some (.string x.name) ∧ w.cell? ⟨(a.add (i * 11)).block, (a.add (i * 11)).off + 1, none⟩ = some (.int .i64 x.code.perm) ∧ w.cell? ⟨(a.add (i * 11)).block, (a.add (i * 11)).off + 2, none⟩ = some (.int .i64 x.code.base) ∧ w.cell? ⟨(a.add (i * 11)).block, (a.add (i * 11)).off + 3, none⟩ = some (.int .i64 x.code.len) ∧ w.cell? ⟨(a.add (i * 11)).block, (a.add (i * 11)).off + 4, none⟩ = some (.int .i64 x.code.at_) ∧ w.cell? ⟨(a.add (i * 11)).block, (a.add (i * 11)).off + 5, none⟩ = some (.int .i64 x.code.seal_) ∧ w.cell? ⟨(a.add (i * 11)).block, (a.add (i * 11)).off + 6, none⟩ = some (.int .i64 x.data.perm) ∧ w.cell? ⟨(a.add (i * 11)).block, (a.add (i * 11)).off + 7, none⟩ = some (.int .i64 x.data.base) ∧ w.cell? ⟨(a.add (i * 11)).block, (a.add (i * 11)).off + 8, none⟩ = some (.int .i64 x.data.len) ∧ w.cell? ⟨(a.add (i * 11)).block, (a.add (i * 11)).off + 9, none⟩ = some (.int .i64 x.data.at_) ∧ w.cell? ⟨(a.add (i * 11)).block, (a.add (i * 11)).off + 10, none⟩ = some (.int .i64 x.data.seal_) := by
  obtain ⟨a, y, e, hb, hy, hc⟩ := h.at hi
  obtain rfl : y = x := by rw [hx] at hy; injection hy with hy; exact hy.symm
  refine ⟨a, e, by rw [el_block]; exact hb, ?_⟩
  rw [← add_moreEntryV a (i * 11) 1 (by decide), ← add_moreEntryV a (i * 11) 2 (by decide), ← add_moreEntryV a (i * 11) 3 (by decide), ← add_moreEntryV a (i * 11) 4 (by decide), ← add_moreEntryV a (i * 11) 5 (by decide), ← add_moreEntryV a (i * 11) 6 (by decide), ← add_moreEntryV a (i * 11) 7 (by decide), ← add_moreEntryV a (i * 11) 8 (by decide), ← add_moreEntryV a (i * 11) 9 (by decide), ← add_moreEntryV a (i * 11) 10 (by decide)]
  exact ⟨hc 0 _ rfl, hc 1 _ rfl, hc 2 _ rfl, hc 3 _ rfl, hc 4 _ rfl, hc 5 _ rfl, hc 6 _ rfl, hc 7 _ rfl, hc 8 _ rfl, hc 9 _ rfl, hc 10 _ rfl⟩
/-- A slice value. -/
structure SlR where
  a : Option Addr
  n : Nat
  c : Nat
def SlR.val (s : SlR) : Value := .slice s.a s.n s.c
/-- A module as a row: four slices. -/
structure ModR where
  code : SlR
  data : SlR
  ex : SlR
  im : SlR
instance : El ModR where
  k := 4
  cl x := [.slice x.code.a x.code.n x.code.c, .slice x.data.a x.data.n x.data.c, .slice x.ex.a x.ex.n x.ex.c, .slice x.im.a x.im.n x.im.c]
  z := ⟨⟨none, 0, 0⟩, ⟨none, 0, 0⟩, ⟨none, 0, 0⟩, ⟨none, 0, 0⟩⟩
  len _ := rfl
  one _ := by intro u hu; simp at hu; rcases hu with rfl | rfl | rfl | rfl <;> rfl
  pos := by decide
instance : Inhabited ModR := ⟨⟨⟨none, 0, 0⟩, ⟨none, 0, 0⟩, ⟨none, 0, 0⟩, ⟨none, 0, 0⟩⟩⟩
theorem add_moreModR (a : Addr) (i j : Nat) (hj : 0 < j) : a.add (i + j) = ⟨(a.add i).block, (a.add i).off + j, none⟩ := by
  unfold Addr.add
  rw [if_neg (by omega)]
  by_cases hi : i = 0
  · subst hi; simp
  · rw [if_neg hi]; simp [Nat.add_assoc]
theorem sl_ModR {w : World} {ao : Option Addr} {n : Nat} {ks : List ModR} (h : Sl w ao n ks) {i : Nat} (hi : i < n) {x : ModR} (hx : ks[i]? = some x) : ∃ a, ao = some a ∧ (a.add (i * 4)).block < w.heap.size ∧
    w.cell? (a.add (i * 4)) = some (.slice x.code.a x.code.n x.code.c) ∧ w.cell? ⟨(a.add (i * 4)).block, (a.add (i * 4)).off + 1, none⟩ = some (.slice x.data.a x.data.n x.data.c) ∧ w.cell? ⟨(a.add (i * 4)).block, (a.add (i * 4)).off + 2, none⟩ = some (.slice x.ex.a x.ex.n x.ex.c) ∧ w.cell? ⟨(a.add (i * 4)).block, (a.add (i * 4)).off + 3, none⟩ = some (.slice x.im.a x.im.n x.im.c) := by
  obtain ⟨a, y, e, hb, hy, hc⟩ := h.at hi
  obtain rfl : y = x := by rw [hx] at hy; injection hy with hy; exact hy.symm
  refine ⟨a, e, by rw [el_block]; exact hb, ?_⟩
  rw [← add_moreModR a (i * 4) 1 (by decide), ← add_moreModR a (i * 4) 2 (by decide), ← add_moreModR a (i * 4) 3 (by decide)]
  exact ⟨hc 0 _ rfl, hc 1 _ rfl, hc 2 _ rfl, hc 3 _ rfl⟩
structure NamV.wf (x : NamV) : Prop where
  name : x.name.size ≤ 9223372036854775807
  at_ : I64 x.at_
/-- A module lies behind its row. -/
structure ModR.has (w : World) (r : ModR) (m : ModV) : Prop where
  code : Sl w r.code.a r.code.n m.code
  data : Sl w r.data.a r.data.n m.data
  ex : Sl w r.ex.a r.ex.n m.ex
  im : Sl w r.im.a r.im.n m.im
  le : r.code.n ≤ r.code.c ∧ r.data.n ≤ r.data.c ∧ r.ex.n ≤ r.ex.c ∧ r.im.n ≤ r.im.c
  wc : ∀ n ∈ m.code, I64 n
  wd : ∀ n ∈ m.data, I64 n
  we : ∀ x ∈ m.ex, x.wf
  wi : ∀ x ∈ m.im, x.wf
theorem ModR.has.below {w w' : World} {r : ModR} {m : ModV} (h : r.has w m) (hb : Below w.heap.size w w') : r.has w' m :=
  ⟨h.code.below hb, h.data.below hb, h.ex.below hb, h.im.below hb, h.le, h.wc, h.wd, h.we, h.wi⟩
/-- Modules lie behind a row of rows. -/
structure Mods (w : World) (ao : Option Addr) (n : Nat) (rs : List ModR) (ms : List ModV) : Prop where
  sl : Sl w ao n rs
  len : rs.length = ms.length
  at_ : ∀ (i : Nat) (r : ModR) (m : ModV), rs[i]? = some r → ms[i]? = some m → r.has w m
theorem Mods.below {w w' : World} {ao : Option Addr} {n : Nat} {rs : List ModR} {ms : List ModV} (h : Mods w ao n rs ms) (hb : Below w.heap.size w w') : Mods w' ao n rs ms :=
  ⟨h.sl.below hb, h.len, fun i r m h1 h2 => (h.at_ i r m h1 h2).below hb⟩
theorem Mods.n {w : World} {ao : Option Addr} {n : Nat} {rs : List ModR} {ms : List ModV} (h : Mods w ao n rs ms) : ms.length = n := by rw [← h.len]; exact h.sl.len
theorem Mods.get {w : World} {ao : Option Addr} {n : Nat} {rs : List ModR} {ms : List ModV} (h : Mods w ao n rs ms) {i : Nat} (hi : i < n) : ∃ r m, rs[i]? = some r ∧ ms[i]? = some m ∧ r.has w m := by
  have h1 := h.n
  have h2 := h.len
  exact ⟨_, _, List.getElem?_eq_getElem (by omega), List.getElem?_eq_getElem (by omega), h.at_ i _ _ (List.getElem?_eq_getElem (by omega)) (List.getElem?_eq_getElem (by omega))⟩
end Go.Proofs.Ytmmmmeeepieemaa
