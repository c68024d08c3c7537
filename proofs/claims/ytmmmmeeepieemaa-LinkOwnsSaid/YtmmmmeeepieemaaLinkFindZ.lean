import Derived.Great.BuildSlice
import Derived.Laws.CopyOwn
import Derived.Laws.Tables
import Derived.Test.YtmmmmeeepieemaaModCheck2Z
/- link.Find. -/
namespace Go.Proofs.Ytmmmmeeepieemaa
open Go Go.RowKit Go.Shelf
set_option linter.unusedVariables false
set_option linter.unusedSimpArgs false
/-- An entry's cells. -/
def EntryV.cs (x : EntryV) : Array Value := #[.string x.name, .int .i64 x.code.perm, .int .i64 x.code.base, .int .i64 x.code.len, .int .i64 x.code.at_, .int .i64 x.code.seal_, .int .i64 x.data.perm, .int .i64 x.data.base, .int .i64 x.data.len, .int .i64 x.data.at_, .int .i64 x.data.seal_]
def EntryV.val (x : EntryV) : Value := .agg x.cs
theorem EntryV.one (x : EntryV) : x.cs.all (·.oneCell') = true := by kernel_rfl
theorem findE_snoc (es : List EntryV) (x : EntryV) (s : ByteArray) (h : findE es s = none) : findE (es ++ [x]) s = if x.name = s then some x else none := by
  unfold findE at h ⊢
  rw [List.find?_append, h, List.find?_singleton]
  simp
theorem findE_front {es : List EntryV} {j : Nat} {x : EntryV} {s : ByteArray} (h : findE (es.take j) s = none) (hx : es[j]? = some x) (hs : x.name = s) : findE es s = some x := by
  obtain ⟨hk, e⟩ := List.getElem?_eq_some_iff.1 hx
  have e0 : es = es.take j ++ x :: es.drop (j + 1) := by rw [← e, ← List.drop_eq_getElem_cons hk, List.take_append_drop]
  unfold findE at h ⊢
  rw [e0, List.find?_append, h]
  simp [hs]
theorem results_rowE {P : Program} {fn : Func} {p q : Tmp} {ty : TypeId} (h : fn.results = #[.cell p ty, .tmp q]) (tmps : Array Value) (w : World) (g : Nat) (t : TypeId) (cs : Array Value) (fr : Nat × Nat) (d : TypeDesc)
    (hp : tmps.getD p undef = .pointer (some ⟨g, 0, none⟩)) (hg : w.heap[g]? = some (.cells cs t fr))
    (hu : P.underlying ty = some d) (hd : (match d with | .struct _ | .array _ _ => true | _ => false) = true) (hi : (P.info? ty).map (·.size) = some cs.size) :
    (results fn tmps).run P w = .ok (.tuple #[.agg cs, tmps.getD q undef]) w := by
  have hp' : tmps[p]?.getD undef = .pointer (some ⟨g, 0, none⟩) := by simpa using hp
  simp [results, h, hp', asAddr, run_loadVar_row w g t ty cs fr d hg hu hd hi]
theorem bk_setRowE {w : World} {g : Nat} {T : TypeId} {cs : Array Value} (h : Bk w g T cs) (ds : Array Value) : Bk (w.setRow g ds) g T ds := setRow_heap w g cs ds T (0, 0) h
theorem cells11 {w : World} {g : Nat} {T : TypeId} {v0 v1 v2 v3 v4 v5 v6 v7 v8 v9 v10 : Value} (h : Bk w g T #[v0, v1, v2, v3, v4, v5, v6, v7, v8, v9, v10]) : w.cell? ⟨g, 0, none⟩ = some v0 ∧ w.cell? ⟨g, 1, none⟩ = some v1 ∧ w.cell? ⟨g, 2, none⟩ = some v2 ∧ w.cell? ⟨g, 3, none⟩ = some v3 ∧ w.cell? ⟨g, 4, none⟩ = some v4 ∧ w.cell? ⟨g, 5, none⟩ = some v5 ∧ w.cell? ⟨g, 6, none⟩ = some v6 ∧ w.cell? ⟨g, 7, none⟩ = some v7 ∧ w.cell? ⟨g, 8, none⟩ = some v8 ∧ w.cell? ⟨g, 9, none⟩ = some v9 ∧ w.cell? ⟨g, 10, none⟩ = some v10 :=
  ⟨h.cell 0, h.cell 1, h.cell 2, h.cell 3, h.cell 4, h.cell 5, h.cell 6, h.cell 7, h.cell 8, h.cell 9, h.cell 10⟩
set_option maxHeartbeats 4000000 in
set_option maxRecDepth 100000 in
theorem find_any (ma pa ea : Option Addr) (mn mc pn pc en ec : Nat) (es : List EntryV) (s : ByteArray) (w : World) (h : Sl w ea en es) :
    Calls Try.prog 17 #[.agg #[.slice ma mn mc, .slice pa pn pc, .slice ea en ec], .string s] w fun e w' => e = .returned (.tuple #[((findE es s).getD zeroE).val, .bool (findE es s).isSome]) ∧ Below w.heap.size w w' := by
  have hm := h.max
  have hl := h.len
  unfold maxLen at hm
  obtain ⟨w1, hw1⟩ : ∃ w1, w1 = (w.alloc (.cells #[.slice ma mn mc, .slice pa pn pc, .slice ea en ec] 27)).alloc (.cells #[.string ⟨#[]⟩, .int .i64 0, .int .i64 0, .int .i64 0, .int .i64 0, .int .i64 0, .int .i64 0, .int .i64 0, .int .i64 0, .int .i64 0, .int .i64 0] 51) := ⟨_, rfl⟩
  have h1w : Below w.heap.size w w1 := by rw [hw1]; exact ext_alloc (ext_alloc (Below.refl _ _) _) _
  have b1 : Bk w1 w.heap.size 27 #[.slice ma mn mc, .slice pa pn pc, .slice ea en ec] := by rw [hw1]; exact bk_old _ (bk_new _ _ _)
  have r1 : Bk w1 (w.heap.size + 1) 51 #[.string ⟨#[]⟩, .int .i64 0, .int .i64 0, .int .i64 0, .int .i64 0, .int .i64 0, .int .i64 0, .int .i64 0, .int .i64 0, .int .i64 0, .int .i64 0] := by rw [hw1]; exact bk_new' _ _ (by simp)
  obtain ⟨c0, c1, c2⟩ := cells3 b1
  have bL := b1.lt
  have HW1 := Lib.hid hw1
  have H1W := Lib.hid h1w
  have R1 := Lib.hid r1
  have HS := Lib.hid (h.below h1w)
  clear hw1 h1w b1 r1 h
  go_enter Try.func17, Try.ntmps17
  go_upto_region 1 with (fail)
  rw [← HW1.out]
  go_wp2
  clear c0 c1 c2 bL
  go_loopw [11] (fun i wr => ∃ j : Nat, j ≤ en ∧ i = .int .i64 j ∧ findE (es.take j) s = none ∧ Below w1.heap.size w1 wr) (fun i _ => en - (intOf i).toNat)
  case atStart => exact ⟨0, Nat.zero_le _, rfl, rfl, Below.refl _ _⟩
  case round =>
    obtain ⟨j, hj, rfl, hf, hb⟩ := hrel
    have rk := bk_keep hb R1.out
    have HF := Lib.hid hf
    clear hf
    by_cases hlt : j < en
    · have q0 : (0 : Int) ≤ j := by omega
      have q1 : (j : Int) < en := by omega
      obtain ⟨x, hx⟩ : ∃ x, es[j]? = some x := ⟨_, List.getElem?_eq_getElem (by omega)⟩
      obtain ⟨ad, hao, hab, e0, e1, e2, e3, e4, e5, e6, e7, e8, e9, e10⟩ := sl_EntryV (HS.out.below hb) hlt hx
      subst hao
      obtain ⟨w2, hw2⟩ : ∃ w2, w2 = wr.alloc (.cells #[.string x.name, .int .i64 x.code.perm, .int .i64 x.code.base, .int .i64 x.code.len, .int .i64 x.code.at_, .int .i64 x.code.seal_, .int .i64 x.data.perm, .int .i64 x.data.base, .int .i64 x.data.len, .int .i64 x.data.at_, .int .i64 x.data.seal_] 51) := ⟨_, rfl⟩
      have b2 : Below w1.heap.size w1 w2 := by rw [hw2]; exact ext_alloc hb _
      have x2 : Bk w2 wr.heap.size 51 #[.string x.name, .int .i64 x.code.perm, .int .i64 x.code.base, .int .i64 x.code.len, .int .i64 x.code.at_, .int .i64 x.code.seal_, .int .i64 x.data.perm, .int .i64 x.data.base, .int .i64 x.data.len, .int .i64 x.data.at_, .int .i64 x.data.seal_] := by rw [hw2]; exact bk_new _ _ _
      have r2 : Bk w2 (w.heap.size + 1) 51 #[.string ⟨#[]⟩, .int .i64 0, .int .i64 0, .int .i64 0, .int .i64 0, .int .i64 0, .int .i64 0, .int .i64 0, .int .i64 0, .int .i64 0, .int .i64 0] := bk_keep b2 R1.out
      obtain ⟨gx, hgx⟩ : ∃ gx, gx = wr.heap.size := ⟨_, rfl⟩
      rw [← hgx] at x2
      have HX := Lib.hid hx
      have HW2 := Lib.hid hw2
      have HGX := Lib.hid hgx
      have B2 := Lib.hid b2
      have X2 := Lib.hid x2
      have R2 := Lib.hid r2
      clear hw2 hgx b2 x2 hx hb r2 rk
      go_upto_region 4 with (fail)
      rw [← HW2.out, ← HGX.out]
      clear e0 e1 e2 e3 e4 e5 e6 e7 e8 e9 e10 HW2 HGX hab
      obtain ⟨t0, t1, t2, t3, t4, t5, t6, t7, t8, t9, t10⟩ := cells11 X2.out
      have tL := X2.out.lt
      by_cases hs : x.name = s
      · have f : (x.name.toList == s.toList) = true := by simp [hs]
        have rL := R2.out.lt
        have hfe := findE_front HF.out HX.out hs
        have HFE := Lib.hid hfe
        clear hs hfe
        go_wp2_with (refine wpList_store_rowTo rfl 51 (.tmp 4) (.tmp 19) rfl rfl (w.heap.size + 1) x.cs rfl rfl 51 _ R2.out (by kernel_rfl) rfl (EntryV.one _) ?_)
        refine bodyPost_ret (results_rowE (g := w.heap.size + 1) (t := 51) (cs := x.cs) (fr := (0, 0)) rfl _ _ _ rfl (bk_setRowE R2.out _) Try.underlying51 rfl (by kernel_rfl)) rfl ?_
        exact ⟨by rw [HFE.out]; rfl, below_setRow (ext_trans H1W.out B2.out) (by omega) _⟩
      · have f : (x.name.toList == s.toList) = false := beq_eq_false_iff_ne.2 fun e => hs (name_eq.1 e)
        have hfn : findE (es.take (j + 1)) s = none := by
          rw [List.take_add_one, HX.out]
          exact (findE_snoc _ _ _ HF.out).trans (if_neg hs)
        have HFN := Lib.hid hfn
        clear hs hfn
        go_wp2
        go_roundw
        case rel => exact ⟨j + 1, by omega, by go_num, HFN.out, B2.out⟩
        case measure => simp [intOf]; omega
    · have q1 : ¬ ((j : Int) < en) := by omega
      have hfn : findE es s = none := by have := HF.out; rwa [List.take_of_length_le (by omega)] at this
      have rL := rk.lt
      have R2 := Lib.hid rk
      have HB := Lib.hid hb
      have HFN := Lib.hid hfn
      clear hb rk
      go_wp2_with (refine wpList_store_rowTo rfl 51 (.tmp 4) (.tmp 21) rfl rfl (w.heap.size + 1) zeroE.cs rfl rfl 51 _ R2.out (by kernel_rfl) rfl (EntryV.one _) ?_)
      refine bodyPost_ret (results_rowE (g := w.heap.size + 1) (t := 51) (cs := zeroE.cs) (fr := (0, 0)) rfl _ _ _ rfl (bk_setRowE R2.out _) Try.underlying51 rfl (by kernel_rfl)) rfl ?_
      exact ⟨rfl, below_setRow (ext_trans H1W.out HB.out) (by omega) _⟩
end Go.Proofs.Ytmmmmeeepieemaa
