import Derived.Test.YtopdnihokbhjfaaDoorBuO
/- A machine handed in, and its size. -/
namespace Go.Proofs.YtopdnihokbhjfaaDoor
open Go.Joins Go.ChangeShapes Go.WideShapes Go.ChangeAt Go.RowKit Go.Deep
set_option linter.unusedVariables false
set_option linter.unusedSimpArgs false
/-- What the reach of memory leaves of a machine's rows. -/
structure MachA.zOk (x : MachA) : Prop where
  mem : x.mem.length * 56 ≤ 140737488351232
  stk : x.stk.length * 96 ≤ 140737488351232
  out : x.out.length * 8 ≤ 140737488351232
theorem sized_at {H : Type} {ts : List TypeId} {ds : List (DataW H)} {j : Nat} {t : TypeId} {d : DataW H} (h : (DataW.weightsEach Tryd.prog ts ds).all (· ≤ reachBytes) = true) (ht : ts[j]? = some t) (hd : ds[j]? = some d) : (d.weights Tryd.prog t).all (· ≤ reachBytes) = true :=
  List.all_eq_true.2 fun x hx => List.all_eq_true.1 h x (DataW.weights_mem_each ht hd x hx)
theorem sized_agg {H : Type} {t : TypeId} {fs : Array Field} {parts : List (DataW H)} (hu : Tryd.prog.underlying t = some (.struct fs)) (h : ((DataW.agg parts : DataW H).weights Tryd.prog t).all (· ≤ reachBytes) = true) : (DataW.weightsEach Tryd.prog (fs.toList.map (·.type)) parts).all (· ≤ reachBytes) = true := by
  simpa [DataW.weights, hu] using h
section
variable {H : Type} {enc : TypeId × Value → H} {w : World} {spare : Nat → Bool} {held : Bool}
set_option maxRecDepth 100000 in
theorem open_mach_sized {r : Reach} {b0 : Nat} {v : Value} {d : DataW H} {p : List MemPlace} (hv : Value.okWide Tryd.prog w r b0 31 v) (h : DataW.Trod enc Tryd.prog w 0 spare held 31 v d p) (hz : (d.weights Tryd.prog 31).all (· ≤ reachBytes) = true) :
    ∃ x : MachA, v = x.val ∧ x.ok w ∧ x.zOk := by
  obtain ⟨cs, rfl, hsz⟩ := okWide_struct Tryd.underlying31 hv
  have hs : Tryd.prog.cellsOf 31 = 64 := by kernel_rfl
  obtain ⟨l⟩ := cs
  have hl : l.length = 64 := hsz.trans hs
  obtain ⟨fuel, hf⟩ := h
  obtain ⟨xs, n, _, hx, _, hlen, hg⟩ := DataW.trod_struct Tryd.underlying31 hf
  have hd : d = .agg (xs.map (·.1)) := congrArg Prod.fst hx
  rw [hd] at hz
  have hw3 := sized_agg Tryd.underlying31 hz
  have ha : Tryd.prog.cellsOf 26 = 56 := by kernel_rfl
  have hk : Tryd.prog.cellsOf 23 = 5 := by kernel_rfl
  have hm : Tryd.prog.cellsOf 27 = 1 := by kernel_rfl
  have hst : Tryd.prog.cellsOf 28 = 1 := by kernel_rfl
  have ho : Tryd.prog.cellsOf 29 = 1 := by kernel_rfl
  have hv7 : Tryd.prog.cellsOf 25 = 7 := by kernel_rfl
  have g0 : DataW.trod enc Tryd.prog w 0 spare held n 26 (l.take 56) = xs[0]? := by simpa [ha, Value.cells] using hg 0 _ rfl
  have g1 : DataW.trod enc Tryd.prog w 0 spare held n 23 ((l.drop 56).take 5) = xs[1]? := by simpa [hk, Value.cells] using hg 1 _ rfl
  have g2 : DataW.trod enc Tryd.prog w 0 spare held n 27 ((l.drop 61).take 1) = xs[2]? := by simpa [hm, Value.cells] using hg 2 _ rfl
  have g3 : DataW.trod enc Tryd.prog w 0 spare held n 28 ((l.drop 62).take 1) = xs[3]? := by simpa [hst, Value.cells] using hg 3 _ rfl
  have g4 : DataW.trod enc Tryd.prog w 0 spare held n 29 ((l.drop 63).take 1) = xs[4]? := by simpa [ho, Value.cells] using hg 4 _ rfl
  have e0 : xs[0]? = some (xs[0]'(by rw [hlen]; decide)) := List.getElem?_eq_getElem _
  have e1 : xs[1]? = some (xs[1]'(by rw [hlen]; decide)) := List.getElem?_eq_getElem _
  have e2 : xs[2]? = some (xs[2]'(by rw [hlen]; decide)) := List.getElem?_eq_getElem _
  have e3 : xs[3]? = some (xs[3]'(by rw [hlen]; decide)) := List.getElem?_eq_getElem _
  have e4 : xs[4]? = some (xs[4]'(by rw [hlen]; decide)) := List.getElem?_eq_getElem _
  obtain ⟨ys, n', _, _, _, hl8, hy⟩ := DataW.trod_array Tryd.underlying26 (g0.trans e0)
  obtain ⟨R, r1, r2, r3⟩ := cls_of_chunks (α := ValV) (Q := ValV.wf) 8 (l.take 56) (by rw [List.length_take, hl]; rfl) (fun i hi => by
    have h1 := hy i hi
    rw [hv7] at h1
    have e : ys[i]? = some (ys[i]'(by omega)) := List.getElem?_eq_getElem _
    exact val_cells' (h1.trans e) (by have e7 : El.k ValV = 7 := rfl; simp only [List.length_take, List.length_drop, hl, e7]; omega))
  obtain ⟨k0, k1, k2, k3, k4, hkc⟩ : ∃ a b c d e, (l.drop 56).take 5 = [a, b, c, d, e] := by
    have : ((l.drop 56).take 5).length = 5 := by rw [List.length_take, List.length_drop, hl]; rfl
    match (l.drop 56).take 5, this with
    | [a, b, c, d, e], _ => exact ⟨a, b, c, d, e, rfl⟩
  obtain ⟨u2, hu2⟩ : ∃ a, (l.drop 61).take 1 = [a] := by
    have : ((l.drop 61).take 1).length = 1 := by rw [List.length_take, List.length_drop, hl]; rfl
    match (l.drop 61).take 1, this with
    | [a], _ => exact ⟨a, rfl⟩
  obtain ⟨u3, hu3⟩ : ∃ a, (l.drop 62).take 1 = [a] := by
    have : ((l.drop 62).take 1).length = 1 := by rw [List.length_take, List.length_drop, hl]; rfl
    match (l.drop 62).take 1, this with
    | [a], _ => exact ⟨a, rfl⟩
  obtain ⟨u4, hu4⟩ : ∃ a, (l.drop 63).take 1 = [a] := by
    have : ((l.drop 63).take 1).length = 1 := by rw [List.length_take, List.length_drop, hl]; rfl
    match (l.drop 63).take 1, this with
    | [a], _ => exact ⟨a, rfl⟩
  rw [hkc] at g1
  rw [hu2] at g2
  rw [hu3] at g3
  rw [hu4] at g4
  obtain ⟨k, rfl, rfl, rfl, rfl, rfl, kw⟩ := key_cells (g1.trans e1)
  obtain ⟨x2, rfl, ok2, y2⟩ := open_els_in (α := ValV) (Q := ValV.wf) Tryd.underlying27 hv7 (fun fuel cs x hx hl => val_cells' hx hl) (g2.trans e2)
  obtain ⟨x3, rfl, ok3, y3⟩ := open_els_in (α := FrameV) (Q := FrameV.wf) Tryd.underlying28 (by kernel_rfl) (fun fuel cs x hx hl => frame_cells hx hl) (g3.trans e3)
  obtain ⟨x4, rfl, ok4, y4⟩ := open_els_in (α := Int) (Q := I64) Tryd.underlying29 (by kernel_rfl) (fun fuel cs x hx hl => int_cells hx hl) (g4.trans e4)
  have m2 : (xs.map (·.1))[2]? = some (xs[2]'(by rw [hlen]; decide)).1 := by rw [List.getElem?_map, e2]; rfl
  have m3 : (xs.map (·.1))[3]? = some (xs[3]'(by rw [hlen]; decide)).1 := by rw [List.getElem?_map, e3]; rfl
  have m4 : (xs.map (·.1))[4]? = some (xs[4]'(by rw [hlen]; decide)).1 := by rw [List.getElem?_map, e4]; rfl
  have s2 := sized_els (j := 2) hw3 rfl m2 Tryd.underlying27 (show Tryd.prog.bytesOf 25 = 56 by kernel_rfl) y2
  have s3 := sized_els (j := 3) hw3 rfl m3 Tryd.underlying28 (show Tryd.prog.bytesOf 58 = 96 by kernel_rfl) y3
  have s4 := sized_els (j := 4) hw3 rfl m4 Tryd.underlying29 (show Tryd.prog.bytesOf 3 = 8 by kernel_rfl) y4
  have hl2 : l = cls R ++ [.int .i64 k.perm, .int .i64 k.base, .int .i64 k.len, .int .i64 k.at_, .int .i64 k.seal_, x2.val, x3.val, x4.val] := by
    have h1 : l = l.take 56 ++ (l.drop 56).take 5 ++ (l.drop 61).take 1 ++ (l.drop 62).take 1 ++ (l.drop 63).take 1 := by
      have d1 : (l.drop 56).drop 5 = l.drop 61 := by rw [List.drop_drop]
      have d2 : (l.drop 61).drop 1 = l.drop 62 := by rw [List.drop_drop]
      have d3 : (l.drop 62).drop 1 = l.drop 63 := by rw [List.drop_drop]
      have d4 : (l.drop 63).take 1 = l.drop 63 := List.take_of_length_le (by rw [List.length_drop, hl]; exact Nat.le_refl _)
      rw [d4, List.append_assoc, List.append_assoc, List.append_assoc, ← d3, List.take_append_drop, ← d2, List.take_append_drop, ← d1, List.take_append_drop, List.take_append_drop]
    rw [hkc, hu2, hu3, hu4, r2] at h1
    rw [h1]
    simp
  obtain ⟨a2, n2, c2, vs2⟩ := x2
  obtain ⟨a3, n3, c3, vs3⟩ := x3
  obtain ⟨a4, n4, c4, vs4⟩ := x4
  have z2 := ok2.sl.len
  have z3 := ok3.sl.len
  have z4 := ok4.sl.len
  simp only at z2 z3 z4 s2 s3 s4
  subst z2 z3 z4
  refine ⟨⟨R, k, vs2, vs3, vs4, a2, a3, a4, c2, c3, c4⟩, ?_, ⟨r1, ok2.sl, ok3.sl, ok4.sl, r3, kw, ok2.wf, ok3.wf, ok4.wf⟩, ⟨s2, s3, s4⟩⟩
  rw [hl2]
  rfl
end
end Go.Proofs.YtopdnihokbhjfaaDoor
