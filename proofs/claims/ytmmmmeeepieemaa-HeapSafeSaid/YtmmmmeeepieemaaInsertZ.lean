import Derived.Deep.RegionLaw
import Derived.Lib.Overlaps
import Derived.Shelf.Spec.SlicesInsert
import Derived.Test.YtmmmmeeepieemaaCopyKZ
import Derived.Test.YtmmmmeeepieemaaHeapBZ
/- slices.Insert of one piece into a row of the call's own. -/
namespace Go.Proofs.Ytmmmmeeepieemaa
open El (cl)
open Go.RowKit
set_option linter.unusedVariables false
set_option linter.unusedSimpArgs false
set_option maxHeartbeats 2000000 in
set_option maxRecDepth 100000 in
theorem insert_shift (base g cap i : Nat) (xs : List PieceV) (x : PieceV) (w : World) (hown : Own w base 87 (.slice (some ⟨g, 0, none⟩) xs.length cap) xs) (hi : i < xs.length) (hroom : xs.length + 1 ≤ cap)
    (vb : Nat) (hvb : vb ≠ g) (hv : w.heap[vb]? = some (.cells (cl x).toArray 87 (0, 0))) (hn30 : xs.length ≤ 30) :
    Calls Try.prog 46 #[.slice (some ⟨g, 0, none⟩) xs.length cap, .int .i64 i, .slice (some ⟨vb, 0, none⟩) 1 1] w fun e w' =>
      e = .returned (.slice (some ⟨g, 0, none⟩) (xs.length + 1) cap) ∧ Own w' base 87 (.slice (some ⟨g, 0, none⟩) (xs.length + 1) cap) (xs.take i ++ x :: xs.drop i) ∧ w.grownBy w' (some g) := by
  obtain ⟨hbg, C, hg, hc1, hc2, hCl⟩ := own_parts hown
  obtain ⟨i0, hi0, hz0, hz1, hz2⟩ := info_parts info_piece
  have hk : El.k PieceV = 3 := rfl
  have hsz : (Try.prog.info? 87).map (·.size) = some 3 := by rw [hi0]; simp [hz1]
  obtain ⟨n, hn⟩ : ∃ n, n = xs.length := ⟨_, rfl⟩
  have hAl : (cls (xs.take i)).length = i * 3 := by rw [cls_length, List.length_take, hk]; congr 1; omega
  have hBl : (cls (xs.drop i)).length = (n - i) * 3 := by rw [cls_length, List.length_drop, hk, hn]
  have hAB : cls xs = cls (xs.take i) ++ cls (xs.drop i) := by rw [← cls_append, List.take_append_drop]
  have hXl : (cl x).length = 3 := El.len x
  have hCl3 : 3 ≤ C.length := by rw [hCl, hk, ← hn]; omega
  have hcur : cls xs ++ C = cls (xs.take i) ++ (cls (xs.drop i) ++ C) := by rw [hAB, List.append_assoc]
  have hsp := (splice_shift (A := cls (xs.take i)) (B := cls (xs.drop i)) (C := C) hXl).resolve_right (by omega)
  rw [hAl] at hsp
  have hLl : (cls (xs.take i) ++ (cls (xs.drop i) ++ C)).length = n * 3 + C.length := by simp [hAl, hBl]; omega
  rw [hcur] at hg
  generalize hA : cls (xs.take i) ++ (cls (xs.drop i) ++ C) = L at *
  have hLb : ∀ j v, (cls (xs.drop i))[j]? = some v → L[i * 3 + j]? = some v := fun j v hj => by
    have hjl := (List.getElem?_eq_some_iff.1 hj).1
    rw [← hA, List.getElem?_append_right (by omega), hAl, show i * 3 + j - i * 3 = j by omega, List.getElem?_append_left hjl]
    exact hj
  have hgl : g < w.heap.size := (Array.getElem?_eq_some_iff.1 hg).1
  have hvl : vb < w.heap.size := (Array.getElem?_eq_some_iff.1 hv).1
  have hLc : ∀ (W : World) (M : List Value) (o : Nat), W.heap[g]? = some (.cells M.toArray 87 (0, 0)) → W.cell? ⟨g, o, none⟩ = M[o]? := fun W M o h => by simp [World.cell?, h]
  have hm1 : Nat.min (n + 1 - i) (n + 1 - (i + 1)) = n - i := by simp only [Nat.min_def]; split <;> omega
  have hm2 : Nat.min 1 (n + 1 - i) = 1 := by simp only [Nat.min_def]; split <;> omega
  obtain ⟨M, hM⟩ : ∃ M, M = splice L (i * 3 + 3) (cls (xs.drop i)) := ⟨_, rfl⟩
  have hfit1 : i * 3 + 3 + (cls (xs.drop i)).length ≤ L.length := by omega
  have hMl : M.length = L.length := by rw [hM, length_splice _ _ _ hfit1]
  obtain ⟨W1, hW1⟩ : ∃ W1, W1 = w.drew.setRow g M.toArray := ⟨_, rfl⟩
  have hcp1 : ∀ ty dc sc, (Builtin.copy_ #[77, 77] ty #[.slice (some ⟨g, (i + 1) * 3, none⟩) (n + 1 - (i + 1)) dc, .slice (some ⟨g, i * 3, none⟩) (n + 1 - i) sc]).run Try.prog w.drew = .ok (goInt ((n - i : Nat) : Int)) W1 := fun ty dc sc => by
    rw [hW1, hM, show (i + 1) * 3 = i * 3 + 3 by omega]
    exact run_copy_rowK w.drew _ _ ty 87 3 g (i * 3 + 3) (n + 1 - (i + 1)) dc ⟨g, i * 3, none⟩ (n + 1 - i) sc (n - i) L 87 (cls (xs.drop i)) Try.underlying77 hsz hg hm1 hBl
      (fun j v hj => by rw [Addr.add_lit, hLc w.drew L _ hg]; exact hLb j v hj) hfit1 (cls_oneCell _)
  have hg1 : W1.heap[g]? = some (.cells M.toArray 87 (0, 0)) := by rw [hW1]; exact setRow_heap w.drew g _ _ _ _ hg
  have hv1 : W1.heap[vb]? = some (.cells (cl x).toArray 87 (0, 0)) := by rw [hW1, setRow_other w.drew g vb _ hvb]; exact hv
  obtain ⟨W2, hW2⟩ : ∃ W2, W2 = W1.setRow g (splice M (i * 3) (cl x)).toArray := ⟨_, rfl⟩
  have hcp2 : ∀ ty dc, (Builtin.copy_ #[77, 77] ty #[.slice (some ⟨g, i * 3, none⟩) (n + 1 - i) dc, .slice (some ⟨vb, 0, none⟩) 1 1]).run Try.prog W1 = .ok (goInt ((1 : Nat) : Int)) W2 := fun ty dc => by
    rw [hW2]
    exact run_copy_rowK W1 _ _ ty 87 3 g (i * 3) (n + 1 - i) dc ⟨vb, 0, none⟩ 1 1 1 M 87 (cl x) Try.underlying77 hsz hg1 hm2 hXl
      (fun j v hj => by rw [Addr.add_lit]; simp [World.cell?, hv1]; exact hj) (by omega) (El.one x)
  have hg2 : W2.heap[g]? = some (.cells (cls (xs.take i ++ x :: xs.drop i) ++ C.drop 3).toArray 87 (0, 0)) := by
    rw [hW2, setRow_heap W1 g _ _ _ _ hg1, hM, hsp, cls_append, cls_cons, List.append_assoc, List.append_assoc]
  have hlen2 : (xs.take i ++ x :: xs.drop i).length = xs.length + 1 := by simp; omega
  have hfin : Own W2 base 87 (.slice (some ⟨g, 0, none⟩) (xs.length + 1) cap) (xs.take i ++ x :: xs.drop i) := by
    rw [← hlen2]
    exact own_row hbg hg2 (by rw [hlen2]; omega) hc2 (by rw [List.length_drop, hCl, hk, hlen2]; omega)
  have hbel : w.grownBy W2 (some g) := by
    rw [hW2, hW1]
    refine ⟨rfl, rfl, rfl, by simp [World.setRow], fun k hk hne => ?_⟩
    have hkg : k ≠ g := fun h => hne (by rw [h])
    rw [setRow_other _ g k _ hkg, setRow_other _ g k _ hkg]
    rfl
  have hov : ∀ lb cb, (callFunc 57 #[.slice (some ⟨vb, 0, none⟩) 1 1, .slice (some ⟨g, (i + 1) * 3, none⟩) lb cb]).run Try.prog w = .ok (.value (.bool false)) w := fun lb cb => by
    rw [run_callFunc_extern Try.func57 (by kernel_rfl) (by kernel_rfl) (by kernel_rfl) (e := Extern.SlicesOverlaps.overlaps #[77, 77] #[4]) (by kernel_rfl),
      Lib.run_overlaps_apart w 77 4 87 Try.underlying77 3 (fun w => by simp [sizeOf, typeInfo, hi0, hz1]) ⟨vb, 0, none⟩ ⟨g, (i + 1) * 3, none⟩ 1 1 lb cb hvb 87 87 3 L.length (by simp [World.shape?, hv, hXl]) (by simp [World.shape?, hg]) (by omega)
        (by simp [World.frozen?, hv]) (by simp [World.frozen?, hv])]
    rfl
  have HFIN := Lib.hid hfin
  have HBEL := Lib.hid hbel
  have HC1 := Lib.hid hcp1
  have HC2 := Lib.hid hcp2
  have HOV := Lib.hid hov
  subst hn
  have hc63 : cap ≤ 9223372036854775807 := hc2
  clear hfin hbel hg2 hW2 hcp2 hv1 hg1 hcp1 hW1 hMl hfit1 hM hm1 hm2 hLc hLb hsp hcur hAB hAl hBl hXl hLl hA hown hg hv hsz hCl hCl3
  have hz2' : ¬ ((i : Int) = (xs.length : Int)) := by omega
  have hz3 : ¬ ((cap : Int) < (xs.length : Int) + 1) := by omega
  go_enter Try.func46, Try.ntmps46
  go_wp2_with (simp only [HOV.out])
  have hw1 : IntKind.i64.wrap ((i : Int) + 1) = (i : Int) + 1 := by rw [IntKind.wrap_i64]; omega
  have hb1 : (0 : Int) ≤ (i : Int) + 1 := by omega
  have hin : i ≤ xs.length := by omega
  have htn : ((i : Int) + 1).toNat = i + 1 := by omega
  have hb3 : (i : Int) ≤ (xs.length : Int) + 1 := by omega
  have hb2 : ¬ (cap = i + 1) := by omega
  have hb4 : ¬ (cap = i) := by omega
  go_region_law (refine step_copy_runI rfl _ _ 77 77 rfl (.slice (some ⟨g, (i + 1) * 3, none⟩) (xs.length + 1 - (i + 1)) (cap - (i + 1))) (.slice (some ⟨g, i * 3, none⟩) (xs.length + 1 - i) (cap - i)) (by simp [Act.eval, Act.put]) (by simp [Act.eval, Act.put]) (HC1.out _ _ _) ?_)
  go_wp2_with (simp only [HC2.out])
  go_ret
  exact ⟨rfl, HFIN.out, HBEL.out⟩
set_option maxHeartbeats 2000000 in
set_option maxRecDepth 100000 in
theorem insert_grow (base g cap i : Nat) (xs : List PieceV) (x : PieceV) (w : World) (hown : Own w base 87 (.slice (some ⟨g, 0, none⟩) xs.length cap) xs) (hi : i < xs.length) (hroom : cap < xs.length + 1)
    (vb : Nat) (hvb : vb ≠ g) (hv : w.heap[vb]? = some (.cells (cl x).toArray 87 (0, 0))) (hn30 : xs.length ≤ 30) (hbw : base ≤ w.heap.size) :
    Calls Try.prog 46 #[.slice (some ⟨g, 0, none⟩) xs.length cap, .int .i64 i, .slice (some ⟨vb, 0, none⟩) 1 1] w fun e w' =>
      ∃ c, e = .returned (.slice (some ⟨w.heap.size, 0, none⟩) (xs.length + 1) c) ∧ Own w' base 87 (.slice (some ⟨w.heap.size, 0, none⟩) (xs.length + 1) c) (xs.take i ++ x :: xs.drop i) ∧ w.grownBy w' (some g) := by
  obtain ⟨hbg, C, hg, hc1, hc2, hCl⟩ := own_parts hown
  obtain ⟨i0, hi0, hz0, hz1, hz2⟩ := info_parts info_piece
  have hk : El.k PieceV = 3 := rfl
  have hsz : (Try.prog.info? 87).map (·.size) = some 3 := by rw [hi0]; simp [hz1]
  obtain ⟨n, hn⟩ : ∃ n, n = xs.length := ⟨_, rfl⟩
  have hAl : (cls (xs.take i)).length = i * 3 := by rw [cls_length, List.length_take, hk]; congr 1; omega
  have hBl : (cls (xs.drop i)).length = (n - i) * 3 := by rw [cls_length, List.length_drop, hk, hn]
  have hAB : cls xs = cls (xs.take i) ++ cls (xs.drop i) := by rw [← cls_append, List.take_append_drop]
  have hXl : (cl x).length = 3 := El.len x
  rw [hAB, List.append_assoc] at hg
  have hgl : g < w.heap.size := (Array.getElem?_eq_some_iff.1 hg).1
  have hvl : vb < w.heap.size := (Array.getElem?_eq_some_iff.1 hv).1
  have hLc : ∀ (W : World) (b : Nat) (M : List Value) (o : Nat), W.heap[b]? = some (.cells M.toArray 87 (0, 0)) → W.cell? ⟨b, o, none⟩ = M[o]? := fun W b M o h => by simp [World.cell?, h]
  have hold : (Builtin.firstCells i0.size i (.slice (some ⟨g, 0, none⟩) i cap)).run Try.prog w.drew = .ok (cls (xs.take i)).toArray w.drew := by
    rw [hz1]
    exact run_firstCells_some w.drew 3 i ⟨g, 0, none⟩ i cap _ hAl (fun j v hj => by
      rw [Addr.add_lit, Nat.zero_add, hLc w.drew g _ _ hg, List.getElem?_append_left (List.getElem?_eq_some_iff.1 hj).1]; exact hj)
  obtain ⟨G, hG⟩ : ∃ G, G = grownCap w (n + 1) cap 87 := ⟨_, rfl⟩
  have hGn : n + 1 ≤ G := by rw [hG]; exact grownCap_ge w _ _ _
  have hGm : G ≤ maxLen := by rw [hG]; exact grownCap_le_maxLen w _ _ _ (by unfold maxLen; omega)
  obtain ⟨Z, hZ⟩ : ∃ Z : List Value, Z = (Builtin.zeroCells (Value.agg #[Value.int IntKind.i64 0, Value.int IntKind.i64 0, Value.int IntKind.i64 0]).cells (n + 1 - i)).toList := ⟨_, rfl⟩
  obtain ⟨Z2, hZ2⟩ : ∃ Z : List Value, Z = (Builtin.zeroCells (Value.agg #[Value.int IntKind.i64 0, Value.int IntKind.i64 0, Value.int IntKind.i64 0]).cells (G - (n + 1))).toList := ⟨_, rfl⟩
  have hZl : Z.length = (n + 1 - i) * 3 := by rw [hZ]; simp [Builtin.zeroCells, Value.cells]
  have hZ2l : Z2.length = (G - (n + 1)) * 3 := by rw [hZ2]; simp [Builtin.zeroCells, Value.cells]
  have hkk : (n : Int) + 1 - (i : Int) = ((n + 1 - i : Nat) : Int) := by omega
  have hik : i + (n + 1 - i) = n + 1 := by omega
  obtain ⟨L, hL⟩ : ∃ L : List Value, L = cls (xs.take i) ++ (Z ++ Z2) := ⟨_, rfl⟩
  obtain ⟨W1, hW1⟩ : ∃ W1, W1 = w.drew.alloc (.cells L.toArray 87) := ⟨_, rfl⟩
  have hrz : ∀ ty, (Builtin.append_ #[77, 3] ty #[.slice (some ⟨g, 0, none⟩) i cap, .int .i64 ((n : Int) + 1 - (i : Int))]).run Try.prog w = .ok (.slice (some ⟨w.heap.size, 0, none⟩) (n + 1) G) W1 := fun ty => by
    have h := Lib.run_append_grow_zeros w 77 3 ty 87 i0 _ .i64 .i64 Try.underlying77 Try.underlying3 hi0 hz0 (some ⟨g, 0, none⟩) i cap (cls (xs.take i)) hold (n + 1 - i) (by omega) (by omega) (by omega) (by omega) (by rw [hz2]; omega)
      (by rw [hz2, hik]; exact growslice_fits (by omega) (by omega))
    rw [hik, ← hG] at h
    rw [hkk, h, hW1, hL, hZ, hZ2]
    congr 3
    simp
  have hLl : L.length = G * 3 := by rw [hL, List.length_append, List.length_append, hAl, hZl, hZ2l]; omega
  have hg1 : W1.heap[w.heap.size]? = some (.cells L.toArray 87 (0, 0)) := by rw [hW1]; exact heap_alloc_new w.drew _
  have hv1 : W1.heap[vb]? = some (.cells (cl x).toArray 87 (0, 0)) := by rw [hW1, heap_alloc_old w.drew _ hvl]; exact hv
  have hs1 : W1.heap[g]? = some (.cells (cls (xs.take i) ++ (cls (xs.drop i) ++ C)).toArray 87 (0, 0)) := by rw [hW1, heap_alloc_old w.drew _ hgl]; exact hg
  have hm1 : Nat.min 1 (n + 1 - i) = 1 := by simp only [Nat.min_def]; split <;> omega
  have hm2 : Nat.min (n - i) (n + 1 - (i + 1)) = n - i := by simp only [Nat.min_def]; split <;> omega
  obtain ⟨M, hM⟩ : ∃ M, M = splice L (i * 3) (cl x) := ⟨_, rfl⟩
  have hfit1 : i * 3 + (cl x).length ≤ L.length := by omega
  have hMl : M.length = L.length := by rw [hM, length_splice _ _ _ hfit1]
  obtain ⟨W2, hW2⟩ : ∃ W2, W2 = W1.setRow w.heap.size M.toArray := ⟨_, rfl⟩
  have hcp1 : ∀ ty dc, (Builtin.copy_ #[77, 77] ty #[.slice (some ⟨w.heap.size, i * 3, none⟩) (n + 1 - i) dc, .slice (some ⟨vb, 0, none⟩) 1 1]).run Try.prog W1 = .ok (goInt ((1 : Nat) : Int)) W2 := fun ty dc => by
    rw [hW2, hM]
    exact run_copy_rowK W1 _ _ ty 87 3 w.heap.size (i * 3) (n + 1 - i) dc ⟨vb, 0, none⟩ 1 1 1 L 87 (cl x) Try.underlying77 hsz hg1 hm1 hXl
      (fun j v hj => by rw [Addr.add_lit]; simp [World.cell?, hv1]; exact hj) hfit1 (El.one x)
  have hg2 : W2.heap[w.heap.size]? = some (.cells M.toArray 87 (0, 0)) := by rw [hW2]; exact setRow_heap W1 _ _ _ _ _ hg1
  have hs2 : W2.heap[g]? = some (.cells (cls (xs.take i) ++ (cls (xs.drop i) ++ C)).toArray 87 (0, 0)) := by rw [hW2, setRow_other W1 _ g _ (by omega)]; exact hs1
  obtain ⟨W3, hW3⟩ : ∃ W3, W3 = W2.drew.setRow w.heap.size (splice M (i * 3 + 3) (cls (xs.drop i))).toArray := ⟨_, rfl⟩
  have hcp2 : ∀ ty dc sc, (Builtin.copy_ #[77, 77] ty #[.slice (some ⟨w.heap.size, (i + 1) * 3, none⟩) (n + 1 - (i + 1)) dc, .slice (some ⟨g, i * 3, none⟩) (n - i) sc]).run Try.prog W2.drew = .ok (goInt ((n - i : Nat) : Int)) W3 := fun ty dc sc => by
    rw [hW3, show (i + 1) * 3 = i * 3 + 3 by omega]
    exact run_copy_rowK W2.drew _ _ ty 87 3 w.heap.size (i * 3 + 3) (n + 1 - (i + 1)) dc ⟨g, i * 3, none⟩ (n - i) sc (n - i) M 87 (cls (xs.drop i)) Try.underlying77 hsz hg2 hm2 hBl
      (fun j v hj => by
        rw [Addr.add_lit, hLc W2.drew g _ _ hs2, List.getElem?_append_right (by omega), hAl, show i * 3 + j - i * 3 = j by omega, List.getElem?_append_left (List.getElem?_eq_some_iff.1 hj).1]; exact hj) (by omega) (cls_oneCell _)
  have hsp := splice_fill (A := cls (xs.take i)) (B := cls (xs.drop i)) (Z := Z) (Z2 := Z2) hXl (by omega)
  rw [hAl] at hsp
  have hg3 : W3.heap[w.heap.size]? = some (.cells (cls (xs.take i ++ x :: xs.drop i) ++ Z2).toArray 87 (0, 0)) := by
    rw [hW3, setRow_heap W2.drew w.heap.size _ _ _ _ hg2, hM, hL, hsp, cls_append, cls_cons, List.append_assoc, List.append_assoc]
  have hlen2 : (xs.take i ++ x :: xs.drop i).length = xs.length + 1 := by simp; omega
  have hfin : Own W3 base 87 (.slice (some ⟨w.heap.size, 0, none⟩) (xs.length + 1) G) (xs.take i ++ x :: xs.drop i) := by
    rw [← hlen2]
    exact own_row hbw hg3 (by rw [hlen2]; omega) hGm (by rw [hZ2l, hk, hlen2, hn])
  have hbel : w.grownBy W3 (some g) := by
    rw [hW3, hW2, hW1]
    refine ⟨rfl, rfl, rfl, by simp [World.setRow], fun k hk hne => ?_⟩
    rw [setRow_other _ _ k _ (by omega)]
    change ((w.drew.alloc _).setRow w.heap.size _).heap[k]? = _
    rw [setRow_other _ _ k _ (by omega), heap_alloc_old w.drew _ hk]
    rfl
  have HFIN := Lib.hid hfin
  have HBEL := Lib.hid hbel
  have HC1 := Lib.hid hcp1
  have HC2 := Lib.hid hcp2
  have HRZ := Lib.hid hrz
  subst hn
  have hc63 : cap ≤ 9223372036854775807 := hc2
  have hG63 : G ≤ 9223372036854775807 := hGm
  clear hfin hbel hg3 hsp hcp2 hW3 hs2 hg2 hcp1 hW2 hMl hfit1 hM hm1 hm2 hs1 hv1 hg1 hLl hrz hW1 hL hkk hik hZl hZ2l hZ hZ2 hG hold hLc hAB hAl hBl hXl hown hg hv hsz hCl
  have hz2' : ¬ ((i : Int) = (xs.length : Int)) := by omega
  have hz3 : (cap : Int) < (xs.length : Int) + 1 := by omega
  have hw1 : IntKind.i64.wrap ((i : Int) + 1) = (i : Int) + 1 := by rw [IntKind.wrap_i64]; omega
  have hb1 : (0 : Int) ≤ (i : Int) + 1 := by omega
  have hin : i ≤ xs.length := by omega
  have htn : ((i : Int) + 1).toNat = i + 1 := by omega
  have hb3 : (i : Int) ≤ (xs.length : Int) := by omega
  have hGi : ¬ (G = i) := by omega
  have hGim : ¬ (G = i + 1) := by omega
  have hci : ¬ (cap = i) := by omega
  go_enter Try.func46, Try.ntmps46
  go_wp2_with (first | (at_builtin; refine Lib.wpList_append_run _ rfl _ _ _ _ rfl _ _ rfl rfl _ _ (HRZ.out _) ?_) | (simp only [HC1.out]))
  go_region_law (refine step_copy_runI rfl _ _ 77 77 rfl (.slice (some ⟨w.heap.size, (i + 1) * 3, none⟩) (xs.length + 1 - (i + 1)) (G - (i + 1))) (.slice (some ⟨g, i * 3, none⟩) (xs.length - i) (cap - i)) (by simp [Act.eval, Act.put]) (by simp [Act.eval, Act.put]) (HC2.out _ _ _) ?_)
  go_wp2
  go_ret
  exact ⟨_, rfl, HFIN.out, HBEL.out⟩
set_option maxHeartbeats 2000000 in
set_option maxRecDepth 100000 in
theorem insert_end (base g cap : Nat) (xs : List PieceV) (x : PieceV) (w : World) (hown : Own w base 87 (.slice (some ⟨g, 0, none⟩) xs.length cap) xs)
    (vb : Nat) (hs : Sl w (some ⟨vb, 0, none⟩) 1 [x]) (hn30 : xs.length ≤ 30) (hbw : base ≤ w.heap.size) (hbg : base ≤ g) (hc1 : xs.length ≤ cap) :
    Calls Try.prog 46 #[.slice (some ⟨g, 0, none⟩) xs.length cap, .int .i64 xs.length, .slice (some ⟨vb, 0, none⟩) 1 1] w fun e w' =>
      ∃ v, e = .returned v ∧ Own w' base 87 v (xs ++ [x]) ∧ w.grownBy w' (some g) := by
  obtain ⟨i0, hi, hz0, hz1, hz2⟩ := info_parts info_piece
  have c63 : xs.length + 1 ≤ maxLen := by unfold maxLen; omega
  have c47 : (xs.length + 1) * 24 ≤ 140737488355328 := by omega
  have C63 := Lib.hid c63
  have C47 := Lib.hid c47
  have HOWN := Lib.hid hown
  have HS := Lib.hid hs
  have HBW := Lib.hid hbw
  have HBG := Lib.hid hbg
  clear c63 c47 hown hs hbw hbg
  go_enter Try.func46, Try.ntmps46
  go_wp2_with (at_builtin; refine wpList_append_sl rfl (.tmp 23) (.tmp 24) 77 rfl base 87 i0 _ 24 Try.underlying77 hi hz0 hz1 hz2 rfl (.slice (some ⟨g, 0, none⟩) xs.length cap) xs rfl HOWN.out (some ⟨vb, 0, none⟩) 1 1 [x] rfl HS.out C63.out C47.out HBW.out ?_; intro v1 w1 hown1 hgr1 hat1; have HO1 := Lib.hid hown1; have HG1 := Lib.hid hgr1; clear hown1 hgr1 hat1)
  all_goals (go_ret; exact ⟨_, rfl, HO1.out, HG1.out⟩)
/-- One piece laid into a row. -/
theorem insert_piece (base g cap i : Nat) (xs : List PieceV) (x : PieceV) (w : World) (hown : Own w base 87 (.slice (some ⟨g, 0, none⟩) xs.length cap) xs) (hi : i ≤ xs.length)
    (vb : Nat) (hvb : vb ≠ g) (hv : w.heap[vb]? = some (.cells (cl x).toArray 87 (0, 0))) (hn30 : xs.length ≤ 30) (hbw : base ≤ w.heap.size) :
    Calls Try.prog 46 #[.slice (some ⟨g, 0, none⟩) xs.length cap, .int .i64 i, .slice (some ⟨vb, 0, none⟩) 1 1] w fun e w' =>
      ∃ v, e = .returned v ∧ Own w' base 87 v (xs.take i ++ x :: xs.drop i) ∧ w.grownBy w' (some g) := by
  obtain ⟨hbg, C, hg, hc1, hc2, hCl⟩ := own_parts hown
  by_cases h1 : i = xs.length
  · subst h1
    rw [List.take_length, List.drop_length]
    refine insert_end base g cap xs x w hown vb ⟨rfl, by unfold maxLen; omega, fun _ => ⟨_, rfl, (Array.getElem?_eq_some_iff.1 hv).1, fun j u hj => ?_⟩⟩ hn30 hbw hbg hc1
    rw [cls_one] at hj
    rw [Addr.add_lit]
    simp [World.cell?, hv]
    exact hj
  · by_cases h2 : xs.length + 1 ≤ cap
    · exact (insert_shift base g cap i xs x w hown (by omega) h2 vb hvb hv hn30).mono fun e w' h => ⟨_, h.1, h.2⟩
    · exact (insert_grow base g cap i xs x w hown (by omega) (by omega) vb hvb hv hn30 hbw).mono fun e w' h => by obtain ⟨c, h1, h2⟩ := h; exact ⟨_, h1, h2⟩
end Go.Proofs.Ytmmmmeeepieemaa
