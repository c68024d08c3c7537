import Derived.Lib.Hide
import Derived.Test.YtpjhjefjbkjhkaaGreatDoorPk00
import Derived.Test.YtpjhjefjbkjhkaaGreatDoorPk02
set_option maxHeartbeats 40000000
set_option maxRecDepth 100000
set_option linter.unusedVariables false
set_option linter.unusedSimpArgs false
namespace Go.Proofs.YtpjhjefjbkjhkaaGreatDoor
open Go.RowKit
structure NamV where
 name : ByteArray
 at_ : Int
structure ModV where
 code : List Int
 data : List Int
 ex : List NamV
 im : List NamV
structure PlaceV where
 base : Int
 code : Int
 data : Int
 seal_ : Int
deriving DecidableEq
structure EntryV where
 name : ByteArray
 code : KeyV
 data : KeyV
deriving DecidableEq
def zeroE : EntryV := ⟨ByteArray.empty, zeroK, zeroK⟩
def ModV.cells (m : ModV) : List Int := m.code ++ m.data
def total (ms : List ModV) : Nat := (ms.map fun m => m.code.length + m.data.length).sum
def exNames (ms : List ModV) : List ByteArray := ms.flatMap fun m => m.ex.map (·.name)
def imNames (ms : List ModV) : List ByteArray := ms.flatMap fun m => m.im.map (·.name)
def nums32 (l : List Int) : Prop := ∀ n ∈ l, -2147483648 ≤ n ∧ n ≤ 2147483647
structure ModOk (nm : ByteArray → Bool) (m : ModV) : Prop where
 l1 : m.code.length ≤ 120
 l2 : m.data.length ≤ 60
 l3 : m.ex.length ≤ 20
 l4 : m.im.length ≤ 20
 n1 : nums32 m.code
 n2 : nums32 m.data
 e1 : ∀ x ∈ m.ex, nm x.name = true ∧ 0 ≤ x.at_ ∧ x.at_ < m.code.length
 e2 : m.ex.Pairwise fun x y => x.name ≠ y.name
 i1 : ∀ x ∈ m.im, nm x.name = true ∧ 0 ≤ x.at_ ∧ x.at_ ≤ (m.data.length : Int) - 2
 i2 : m.im.Pairwise fun x y => x.at_ + 2 ≤ y.at_ ∨ y.at_ + 2 ≤ x.at_
structure LinkOk (nm : ByteArray → Bool) (ms : List ModV) : Prop where
 l : ms.length ≤ 8
 m : ∀ m ∈ ms, ModOk nm m
 nd : (exNames ms).Nodup
 t : total ms ≤ 400
 im : ∀ x ∈ imNames ms, x ∈ exNames ms
theorem total_nil : total [] = 0 := rfl
theorem total_cons (m : ModV) (ms : List ModV) : total (m :: ms) = m.code.length + m.data.length + total ms := by unfold total; simp
theorem total_append (a b : List ModV) : total (a ++ b) = total a + total b := by unfold total; simp
theorem total_snoc (a : List ModV) (m : ModV) : total (a ++ [m]) = total a + (m.code.length + m.data.length) := by rw [total_append]; rw [total_cons, total_nil]; omega
theorem exNames_append (a b : List ModV) : exNames (a ++ b) = exNames a ++ exNames b := by unfold exNames; simp
theorem exNames_snoc (a : List ModV) (m : ModV) : exNames (a ++ [m]) = exNames a ++ m.ex.map (·.name) := by unfold exNames; simp
def placeOf (b n : Nat) (m : ModV) : PlaceV := ⟨b, m.code.length, m.data.length, n + 1⟩
def placesF : Nat → Nat → List ModV → List PlaceV
 | _, _, [] => []
 | b, n, m :: ms => placeOf b n m :: placesF (b + (m.code.length + m.data.length)) (n + 1) ms
def entryOf (b n : Nat) (m : ModV) (x : NamV) : EntryV := ⟨x.name, ⟨5, b, m.code.length, b + x.at_, n + 1⟩, ⟨27, b + m.code.length, m.data.length, b + m.code.length, n + 1⟩⟩
def entriesF : Nat → Nat → List ModV → List EntryV
 | _, _, [] => []
 | b, n, m :: ms => m.ex.map (entryOf b n m) ++ entriesF (b + (m.code.length + m.data.length)) (n + 1) ms
def mem0 (ms : List ModV) : List ValV := ms.flatMap fun m => m.cells.map ValV.num
def findE (es : List EntryV) (s : ByteArray) : Option EntryV := es.find? fun x => decide (x.name = s)
def wire1 (es : List EntryV) (b : Nat) (mem : List ValV) (x : NamV) : List ValV :=
 let e := (findE es x.name).getD zeroE
 (mem.set (b + x.at_.toNat) ⟨true, 0, e.code⟩).set (b + x.at_.toNat + 1) ⟨true, 0, e.data⟩
def wireM (es : List EntryV) (b : Nat) (mem : List ValV) (l : List NamV) : List ValV := l.foldl (wire1 es b) mem
def wireF (es : List EntryV) : Nat → List ValV → List ModV → List ValV
 | _, mem, [] => mem
 | b, mem, m :: ms => wireF es (b + (m.code.length + m.data.length)) (wireM es (b + m.code.length) mem m.im) ms
def linkMem (ms : List ModV) : List ValV := wireF (entriesF 0 0 ms) 0 (mem0 ms) ms
theorem placesF_snoc (m : ModV) : ∀ (ms : List ModV) (b n : Nat), placesF b n (ms ++ [m]) = placesF b n ms ++ [placeOf (b + total ms) (n + ms.length) m]
 | [], b, n => by simp [placesF, total_nil]
 | x :: ms, b, n => by
  rw [List.cons_append, placesF, placesF_snoc m ms, placesF, total_cons, List.cons_append, List.length_cons]
  congr 4 <;> omega
theorem entriesF_snoc (m : ModV) : ∀ (ms : List ModV) (b n : Nat), entriesF b n (ms ++ [m]) = entriesF b n ms ++ m.ex.map (entryOf (b + total ms) (n + ms.length) m)
 | [], b, n => by simp [entriesF, total_nil]
 | x :: ms, b, n => by
  rw [List.cons_append, entriesF, entriesF_snoc m ms, entriesF, total_cons, List.append_assoc, List.length_cons]
  congr 4 <;> omega
theorem wireF_snoc (es : List EntryV) (m : ModV) : ∀ (ms : List ModV) (b : Nat) (mem : List ValV), wireF es b mem (ms ++ [m]) = wireM es (b + total ms + m.code.length) (wireF es b mem ms) m.im
 | [], b, mem => by simp [wireF, total_nil]
 | x :: ms, b, mem => by
  rw [List.cons_append, wireF, wireF_snoc es m ms, wireF, total_cons]
  congr 2; omega
theorem placesF_len (ms : List ModV) : ∀ b n, (placesF b n ms).length = ms.length := by
 induction ms with
 | nil => intro b n; rfl
 | cons m ms ih => intro b n; rw [placesF, List.length_cons, List.length_cons, ih]
theorem placesF_at : ∀ (ms : List ModV) (b n i : Nat) (m : ModV), ms[i]? = some m → (placesF b n ms)[i]? = some (placeOf (b + total (ms.take i)) (n + i) m)
 | [], b, n, i, m, h => by simp at h
 | x :: ms, b, n, 0, m, h => by simp at h; subst h; simp [placesF, total_nil]
 | x :: ms, b, n, i + 1, m, h => by
  rw [placesF, List.getElem?_cons_succ, placesF_at ms _ _ i m (by simpa using h), List.take_succ_cons, total_cons]
  congr 2 <;> omega
theorem mem0_len (ms : List ModV) : (mem0 ms).length = total ms := by
 induction ms with
 | nil => rfl
 | cons m ms ih =>
  unfold mem0 at ih ⊢
  rw [List.flatMap_cons, List.length_append, ih, total_cons]
  simp [ModV.cells]
theorem mem0_snoc (ms : List ModV) (m : ModV) : mem0 (ms ++ [m]) = mem0 ms ++ m.cells.map ValV.num := by unfold mem0; simp
theorem wire1_len (es : List EntryV) (b : Nat) (mem : List ValV) (x : NamV) : (wire1 es b mem x).length = mem.length := by unfold wire1; simp
theorem wireM_len (es : List EntryV) (b : Nat) : ∀ (l : List NamV) (mem : List ValV), (wireM es b mem l).length = mem.length
 | [], mem => rfl
 | x :: l, mem => by
  show (wireM es b (wire1 es b mem x) l).length = _
  rw [wireM_len es b l, wire1_len]
theorem wireM_snoc (es : List EntryV) (b : Nat) (l : List NamV) (mem : List ValV) (x : NamV) : wireM es b mem (l ++ [x]) = wire1 es b (wireM es b mem l) x := by unfold wireM; simp
theorem wireF_len (es : List EntryV) : ∀ (ms : List ModV) (b : Nat) (mem : List ValV), (wireF es b mem ms).length = mem.length
 | [], b, mem => rfl
 | m :: ms, b, mem => by rw [wireF, wireF_len es ms, wireM_len]
theorem linkMem_len (ms : List ModV) : (linkMem ms).length = total ms := by unfold linkMem; rw [wireF_len, mem0_len]
theorem total_take_le (ms : List ModV) (i : Nat) : total (ms.take i) ≤ total ms := by
 have : total ms = total (ms.take i) + total (ms.drop i) := by rw [← total_append, List.take_append_drop]
 omega
theorem total_take_succ {ms : List ModV} {i : Nat} {m : ModV} (h : ms[i]? = some m) : total (ms.take (i + 1)) = total (ms.take i) + (m.code.length + m.data.length) := by
 rw [List.take_add_one, h]
 exact total_snoc _ _
end Go.Proofs.YtpjhjefjbkjhkaaGreatDoor
namespace Go.Proofs.YtpjhjefjbkjhkaaGreatDoor
open El (cl)
open Go.RowKit
instance : El NamV where
 k := 2
 cl x := [.string x.name, .int .i64 x.at_]
 z := ⟨ByteArray.empty, 0⟩
 len _ := rfl
 one _ := by intro u hu; simp at hu; rcases hu with rfl | rfl <;> rfl
 pos := by decide
instance : Inhabited NamV := ⟨⟨ByteArray.empty, 0⟩⟩
theorem add_moreNamV (a : Addr) (i j : Nat) (hj : 0 < j) : a.add (i + j) = ⟨(a.add i).block, (a.add i).off + j, none⟩ := by
 unfold Addr.add
 rw [if_neg (by omega)]
 by_cases hi : i = 0
 ·subst hi; simp
 ·rw [if_neg hi]; simp [Nat.add_assoc]
theorem sl_NamV {w : World} {ao : Option Addr} {n : Nat} {ks : List NamV} (h : Sl w ao n ks) {i : Nat} (hi : i < n) {x : NamV} (hx : ks[i]? = some x) : ∃ a, ao = some a ∧ (a.add (i * 2)).block < w.heap.size ∧
  w.cell? (a.add (i * 2)) = some (.string x.name) ∧ w.cell? ⟨(a.add (i * 2)).block, (a.add (i * 2)).off + 1, none⟩ = some (.int .i64 x.at_) := by
 obtain ⟨a, y, e, hb, hy, hc⟩ := h.at hi
 obtain rfl : y = x := by rw [hx] at hy; injection hy with hy; exact hy.symm
 refine ⟨a, e, by rw [el_block]; exact hb, ?_⟩
 rw [← add_moreNamV a (i * 2) 1 (by decide)]
 exact ⟨hc 0 _ rfl, hc 1 _ rfl⟩
instance : El PlaceV where
 k := 4
 cl x := [.int .i64 x.base, .int .i64 x.code, .int .i64 x.data, .int .i64 x.seal_]
 z := ⟨0, 0, 0, 0⟩
 len _ := rfl
 one _ := by intro u hu; simp at hu; rcases hu with rfl | rfl | rfl | rfl <;> rfl
 pos := by decide
instance : Inhabited PlaceV := ⟨⟨0, 0, 0, 0⟩⟩
theorem add_morePlaceV (a : Addr) (i j : Nat) (hj : 0 < j) : a.add (i + j) = ⟨(a.add i).block, (a.add i).off + j, none⟩ := by
 unfold Addr.add
 rw [if_neg (by omega)]
 by_cases hi : i = 0
 ·subst hi; simp
 ·rw [if_neg hi]; simp [Nat.add_assoc]
theorem sl_PlaceV {w : World} {ao : Option Addr} {n : Nat} {ks : List PlaceV} (h : Sl w ao n ks) {i : Nat} (hi : i < n) {x : PlaceV} (hx : ks[i]? = some x) : ∃ a, ao = some a ∧ (a.add (i * 4)).block < w.heap.size ∧
  w.cell? (a.add (i * 4)) = some (.int .i64 x.base) ∧ w.cell? ⟨(a.add (i * 4)).block, (a.add (i * 4)).off + 1, none⟩ = some (.int .i64 x.code) ∧ w.cell? ⟨(a.add (i * 4)).block, (a.add (i * 4)).off + 2, none⟩ = some (.int .i64 x.data) ∧ w.cell? ⟨(a.add (i * 4)).block, (a.add (i * 4)).off + 3, none⟩ = some (.int .i64 x.seal_) := by
 obtain ⟨a, y, e, hb, hy, hc⟩ := h.at hi
 obtain rfl : y = x := by rw [hx] at hy; injection hy with hy; exact hy.symm
 refine ⟨a, e, by rw [el_block]; exact hb, ?_⟩
 rw [← add_morePlaceV a (i * 4) 1 (by decide), ← add_morePlaceV a (i * 4) 2 (by decide), ← add_morePlaceV a (i * 4) 3 (by decide)]
 exact ⟨hc 0 _ rfl, hc 1 _ rfl, hc 2 _ rfl, hc 3 _ rfl⟩
instance : El EntryV where
 k := 11
 cl x := [.string x.name, .int .i64 x.code.perm, .int .i64 x.code.base, .int .i64 x.code.len, .int .i64 x.code.at_, .int .i64 x.code.seal_, .int .i64 x.data.perm, .int .i64 x.data.base, .int .i64 x.data.len, .int .i64 x.data.at_, .int .i64 x.data.seal_]
 z := zeroE
 len _ := rfl
 one _ := by intro u hu; simp at hu; rcases hu with rfl | rfl | rfl | rfl | rfl | rfl | rfl | rfl | rfl | rfl | rfl <;> rfl
 pos := by decide
instance : Inhabited EntryV := ⟨zeroE⟩
theorem add_moreEntryV (a : Addr) (i j : Nat) (hj : 0 < j) : a.add (i + j) = ⟨(a.add i).block, (a.add i).off + j, none⟩ := by
 unfold Addr.add
 rw [if_neg (by omega)]
 by_cases hi : i = 0
 ·subst hi; simp
 ·rw [if_neg hi]; simp [Nat.add_assoc]
theorem sl_EntryV {w : World} {ao : Option Addr} {n : Nat} {ks : List EntryV} (h : Sl w ao n ks) {i : Nat} (hi : i < n) {x : EntryV} (hx : ks[i]? = some x) : ∃ a, ao = some a ∧ (a.add (i * 11)).block < w.heap.size ∧
  w.cell? (a.add (i * 11)) = some (.string x.name) ∧ w.cell? ⟨(a.add (i * 11)).block, (a.add (i * 11)).off + 1, none⟩ = some (.int .i64 x.code.perm) ∧ w.cell? ⟨(a.add (i * 11)).block, (a.add (i * 11)).off + 2, none⟩ = some (.int .i64 x.code.base) ∧ w.cell? ⟨(a.add (i * 11)).block, (a.add (i * 11)).off + 3, none⟩ = some (.int .i64 x.code.len) ∧ w.cell? ⟨(a.add (i * 11)).block, (a.add (i * 11)).off + 4, none⟩ = some (.int .i64 x.code.at_) ∧ w.cell? ⟨(a.add (i * 11)).block, (a.add (i * 11)).off + 5, none⟩ = some (.int .i64 x.code.seal_) ∧ w.cell? ⟨(a.add (i * 11)).block, (a.add (i * 11)).off + 6, none⟩ = some (.int .i64 x.data.perm) ∧ w.cell? ⟨(a.add (i * 11)).block, (a.add (i * 11)).off + 7, none⟩ = some (.int .i64 x.data.base) ∧ w.cell? ⟨(a.add (i * 11)).block, (a.add (i * 11)).off + 8, none⟩ = some (.int .i64 x.data.len) ∧ w.cell? ⟨(a.add (i * 11)).block, (a.add (i * 11)).off + 9, none⟩ = some (.int .i64 x.data.at_) ∧ w.cell? ⟨(a.add (i * 11)).block, (a.add (i * 11)).off + 10, none⟩ = some (.int .i64 x.data.seal_) := by
 obtain ⟨a, y, e, hb, hy, hc⟩ := h.at hi
 obtain rfl : y = x := by rw [hx] at hy; injection hy with hy; exact hy.symm
 refine ⟨a, e, by rw [el_block]; exact hb, ?_⟩
 rw [← add_moreEntryV a (i * 11) 1 (by decide), ← add_moreEntryV a (i * 11) 2 (by decide), ← add_moreEntryV a (i * 11) 3 (by decide), ← add_moreEntryV a (i * 11) 4 (by decide), ← add_moreEntryV a (i * 11) 5 (by decide), ← add_moreEntryV a (i * 11) 6 (by decide), ← add_moreEntryV a (i * 11) 7 (by decide), ← add_moreEntryV a (i * 11) 8 (by decide), ← add_moreEntryV a (i * 11) 9 (by decide), ← add_moreEntryV a (i * 11) 10 (by decide)]
 exact ⟨hc 0 _ rfl, hc 1 _ rfl, hc 2 _ rfl, hc 3 _ rfl, hc 4 _ rfl, hc 5 _ rfl, hc 6 _ rfl, hc 7 _ rfl, hc 8 _ rfl, hc 9 _ rfl, hc 10 _ rfl⟩
structure SlR where
 a : Option Addr
 n : Nat
 c : Nat
def SlR.val (s : SlR) : Value := .slice s.a s.n s.c
structure ModR where
 code : SlR
 data : SlR
 ex : SlR
 im : SlR
instance : El ModR where
 k := 4
 cl x := [.slice x.code.a x.code.n x.code.c, .slice x.data.a x.data.n x.data.c, .slice x.ex.a x.ex.n x.ex.c, .slice x.im.a x.im.n x.im.c]
 z := ⟨⟨none, 0, 0⟩, ⟨none, 0, 0⟩, ⟨none, 0, 0⟩, ⟨none, 0, 0⟩⟩
 len _ := rfl
 one _ := by intro u hu; simp at hu; rcases hu with rfl | rfl | rfl | rfl <;> rfl
 pos := by decide
instance : Inhabited ModR := ⟨⟨⟨none, 0, 0⟩, ⟨none, 0, 0⟩, ⟨none, 0, 0⟩, ⟨none, 0, 0⟩⟩⟩
theorem add_moreModR (a : Addr) (i j : Nat) (hj : 0 < j) : a.add (i + j) = ⟨(a.add i).block, (a.add i).off + j, none⟩ := by
 unfold Addr.add
 rw [if_neg (by omega)]
 by_cases hi : i = 0
 ·subst hi; simp
 ·rw [if_neg hi]; simp [Nat.add_assoc]
theorem sl_ModR {w : World} {ao : Option Addr} {n : Nat} {ks : List ModR} (h : Sl w ao n ks) {i : Nat} (hi : i < n) {x : ModR} (hx : ks[i]? = some x) : ∃ a, ao = some a ∧ (a.add (i * 4)).block < w.heap.size ∧
  w.cell? (a.add (i * 4)) = some (.slice x.code.a x.code.n x.code.c) ∧ w.cell? ⟨(a.add (i * 4)).block, (a.add (i * 4)).off + 1, none⟩ = some (.slice x.data.a x.data.n x.data.c) ∧ w.cell? ⟨(a.add (i * 4)).block, (a.add (i * 4)).off + 2, none⟩ = some (.slice x.ex.a x.ex.n x.ex.c) ∧ w.cell? ⟨(a.add (i * 4)).block, (a.add (i * 4)).off + 3, none⟩ = some (.slice x.im.a x.im.n x.im.c) := by
 obtain ⟨a, y, e, hb, hy, hc⟩ := h.at hi
 obtain rfl : y = x := by rw [hx] at hy; injection hy with hy; exact hy.symm
 refine ⟨a, e, by rw [el_block]; exact hb, ?_⟩
 rw [← add_moreModR a (i * 4) 1 (by decide), ← add_moreModR a (i * 4) 2 (by decide), ← add_moreModR a (i * 4) 3 (by decide)]
 exact ⟨hc 0 _ rfl, hc 1 _ rfl, hc 2 _ rfl, hc 3 _ rfl⟩
structure NamV.wf (x : NamV) : Prop where
 name : x.name.size ≤ 9223372036854775807
 at_ : I64 x.at_
structure ModR.has (w : World) (r : ModR) (m : ModV) : Prop where
 code : Sl w r.code.a r.code.n m.code
 data : Sl w r.data.a r.data.n m.data
 ex : Sl w r.ex.a r.ex.n m.ex
 im : Sl w r.im.a r.im.n m.im
 le : r.code.n ≤ r.code.c ∧ r.data.n ≤ r.data.c ∧ r.ex.n ≤ r.ex.c ∧ r.im.n ≤ r.im.c
 wc : ∀ n ∈ m.code, I64 n
 wd : ∀ n ∈ m.data, I64 n
 we : ∀ x ∈ m.ex, x.wf
 wi : ∀ x ∈ m.im, x.wf
theorem ModR.has.below {w w' : World} {r : ModR} {m : ModV} (h : r.has w m) (hb : Below w.heap.size w w') : r.has w' m :=
 ⟨h.code.below hb, h.data.below hb, h.ex.below hb, h.im.below hb, h.le, h.wc, h.wd, h.we, h.wi⟩
structure Mods (w : World) (ao : Option Addr) (n : Nat) (rs : List ModR) (ms : List ModV) : Prop where
 sl : Sl w ao n rs
 len : rs.length = ms.length
 at_ : ∀ (i : Nat) (r : ModR) (m : ModV), rs[i]? = some r → ms[i]? = some m → r.has w m
theorem Mods.below {w w' : World} {ao : Option Addr} {n : Nat} {rs : List ModR} {ms : List ModV} (h : Mods w ao n rs ms) (hb : Below w.heap.size w w') : Mods w' ao n rs ms :=
 ⟨h.sl.below hb, h.len, fun i r m h1 h2 => (h.at_ i r m h1 h2).below hb⟩
theorem Mods.n {w : World} {ao : Option Addr} {n : Nat} {rs : List ModR} {ms : List ModV} (h : Mods w ao n rs ms) : ms.length = n := by rw [← h.len]; exact h.sl.len
theorem Mods.get {w : World} {ao : Option Addr} {n : Nat} {rs : List ModR} {ms : List ModV} (h : Mods w ao n rs ms) {i : Nat} (hi : i < n) : ∃ r m, rs[i]? = some r ∧ ms[i]? = some m ∧ r.has w m := by
 have h1 := h.n
 have h2 := h.len
 exact ⟨_, _, List.getElem?_eq_getElem (by omega), List.getElem?_eq_getElem (by omega), h.at_ i _ _ (List.getElem?_eq_getElem (by omega)) (List.getElem?_eq_getElem (by omega))⟩
end Go.Proofs.YtpjhjefjbkjhkaaGreatDoor
