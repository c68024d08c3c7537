import Derived.Great.BuildSlice
import Derived.Test.YtpjhjefjbkjhkaaGreatDoorFileRdZ
import Derived.Test.YtpjhjefjbkjhkaaGreatDoorModMakeZ
/- What Read of package file computes. -/
namespace Go.Proofs.YtpjhjefjbkjhkaaGreatDoor
open Go Go.RowKit Go.Joins
set_option linter.unusedVariables false
set_option linter.unusedSimpArgs false
theorem numsK_i64 (k : Nat) (l : List UInt8) : ∀ x ∈ numsK k l, I64 x := by
  intro x hx
  unfold numsK at hx
  obtain ⟨i, _, rfl⟩ := List.mem_map.1 hx
  have := numK_lt 4 (l.drop (4 * i))
  exact ⟨by omega, by omega⟩
/-- The module that bytes tell. -/
def modK (l : List UInt8) : ModV :=
  ⟨numsK (numK 1 l) (l.drop 4), numsK (numK 1 (l.drop 1)) ((l.drop 4).drop (4 * numK 1 l)),
   (nmsK (numK 1 (l.drop 2)) (((l.drop 4).drop (4 * numK 1 l)).drop (4 * numK 1 (l.drop 1)))).1,
   (nmsK (numK 1 (l.drop 3)) (nmsK (numK 1 (l.drop 2)) (((l.drop 4).drop (4 * numK 1 l)).drop (4 * numK 1 (l.drop 1)))).2).1⟩
/-- Is the sum of a file what it should be? -/
def SumOk (L : List UInt8) : Prop := L.take (L.length - 2) ++ sumL (L.take (L.length - 2)) = L
def fileM (L : List UInt8) : ModV := modK ((L.take (L.length - 2)).drop 3)
/-- Why a file is none. -/
def FWhy (L : List UInt8) (er : Int) : Prop :=
  (4000 < L.length ∧ er = 2) ∨ (L.length < 9 ∧ er = 4) ∨ (9 ≤ L.length ∧ L.length ≤ 4000 ∧ ¬ SumOk L ∧ er = 6) ∨
  (9 ≤ L.length ∧ L.length ≤ 4000 ∧ SumOk L ∧ ¬ (ModOk isNameB (fileM L) ∧ packM (fileM L) = L) ∧ er = 5)
def FReadPost (w : World) (L : List UInt8) (e : Ending) (w' : World) : Prop :=
  ((∃ er, e = .returned (.tuple #[.agg #[.slice none 0 0, .slice none 0 0, .slice none 0 0, .slice none 0 0], .int .i64 er]) ∧ FWhy L er) ∨
   (∃ r : ModR, e = .returned (.tuple #[.agg #[.slice r.code.a r.code.n r.code.c, .slice r.data.a r.data.n r.data.c, .slice r.ex.a r.ex.n r.ex.c, .slice r.im.a r.im.n r.im.c], .int .i64 0]) ∧ r.has w' (fileM L) ∧
     9 ≤ L.length ∧ L.length ≤ 4000 ∧ SumOk L ∧ ModOk isNameB (fileM L) ∧ packM (fileM L) = L)) ∧ Below w.heap.size w w'
theorem results_rowF {P : Program} {fn : Func} {p q : Tmp} {ty : TypeId} (h : fn.results = #[.cell p ty, .tmp q]) (tmps : Array Value) (w : World) (g : Nat) (t : TypeId) (cs : Array Value) (fr : Nat × Nat) (d : TypeDesc)
    (hp : tmps.getD p undef = .pointer (some ⟨g, 0, none⟩)) (hg : w.heap[g]? = some (.cells cs t fr))
    (hu : P.underlying ty = some d) (hd : (match d with | .struct _ | .array _ _ => true | _ => false) = true) (hi : (P.info? ty).map (·.size) = some cs.size) :
    (results fn tmps).run P w = .ok (.tuple #[.agg cs, tmps.getD q undef]) w := by
  have hp' : tmps[p]?.getD undef = .pointer (some ⟨g, 0, none⟩) := by simpa using hp
  simp [results, h, hp', asAddr, run_loadVar_row w g t ty cs fr d hg hu hd hi]
theorem info_LabelF : (Tryz.prog.info? 83).map (fun i => (i.zero, i.size, i.bytes)) = some (some (.agg #[.string ⟨#[]⟩, .int .i64 0]), 2, 24) := by kernel_rfl
theorem info_ImportF : (Tryz.prog.info? 118).map (fun i => (i.zero, i.size, i.bytes)) = some (some (.agg #[.string ⟨#[]⟩, .int .i64 0]), 2, 24) := by kernel_rfl
theorem sl_labF (w : World) (x : NamV) (T : TypeId) : Sl (w.alloc (.cells #[.string x.name, .int .i64 x.at_] T)) (some ⟨w.heap.size, 0, none⟩) 1 [x] := lit_sl1 _ _ rfl
theorem nameK_wf (l : List UInt8) : (nameK l).wf := by
  have h1 := numK_lt 1 l
  have h2 := numK_lt 1 ((l.drop 1).drop (numK 1 l))
  refine ⟨?_, ?_, ?_⟩
  · show (ba ((l.drop 1).take (numK 1 l))).size ≤ _
    rw [show (ba ((l.drop 1).take (numK 1 l))).size = ((l.drop 1).take (numK 1 l)).length from ba_len _, List.length_take]
    omega
  · show _ ≤ ((numK 1 ((l.drop 1).drop (numK 1 l)) : Nat) : Int)
    omega
  · show ((numK 1 ((l.drop 1).drop (numK 1 l)) : Nat) : Int) ≤ _
    omega
theorem nmsK_wf : ∀ (k : Nat) (l : List UInt8), ∀ x ∈ (nmsK k l).1, x.wf
  | 0, _ => fun x hx => by simp [nmsK] at hx
  | k + 1, l => fun x hx => by
    rw [nmsK] at hx
    rcases List.mem_append.1 hx with h | h
    · exact nmsK_wf k l x h
    · simp at h; subst h; exact nameK_wf _
theorem own_sl3 {α : Type} [El α] {w : World} {B : Nat} {T : TypeId} {a : Option Addr} {n c : Nat} {xs : List α} (h : Own w B T (.slice a n c) xs) : Sl w a n xs ∧ n ≤ c ∧ ∀ ad, a = some ad → B ≤ ad.block := by
  rcases h.form with ⟨e, rfl⟩ | ⟨g, cap, e, h2, h3, h4, h5⟩
  · injection e with e1 e2 e3
    subst e1 e2 e3
    exact ⟨Sl.nil _ _, Nat.le_refl _, fun ad h => by cases h⟩
  · injection e with e1 e2 e3
    subst e1 e2 e3
    refine ⟨⟨rfl, by omega, fun _ => ⟨_, rfl, h3, h.cells rfl⟩⟩, h4, fun ad e => ?_⟩
    injection e with e
    subst e
    exact h2
/-- The reader's loops. -/
structure RLp (B gR g9 : Nat) (l : List UInt8) (a b c d : Value) (xs ys : List Int) (es is : List NamV) (w0 wr : World) : Prop where
  rb : Bk wr gR 146 #[.string (ba l)]
  mb : Bk wr g9 28 #[a, b, c, d]
  oa : Own wr B 3 a xs
  ob : Own wr B 3 b ys
  oc : Own wr B 83 c es
  od : Own wr B 118 d is
  below : Below B w0 wr
  hne : gR ≠ g9
  hR : B ≤ gR
  h9 : B ≤ g9
section
variable {B gR g9 : Nat} {l l' : List UInt8} {a b c d : Value} {xs ys : List Int} {es is : List NamV} {w0 wr w' : World}
theorem RLp.name (h : RLp B gR g9 l a b c d xs ys es is w0 wr) (k : RdSt2 gR l' wr w') : RLp B gR g9 l' a b c d xs ys es is w0 w' :=
  ⟨k.b, bk_grown h.mb k.gr (fun e => h.hne (by injection e)), h.oa.kept k.gr (.inr (own_not_bk h.oa h.rb (by decide))), h.ob.kept k.gr (.inr (own_not_bk h.ob h.rb (by decide))),
   h.oc.kept k.gr (.inr (own_not_bk h.oc h.rb (by decide))), h.od.kept k.gr (.inr (own_not_bk h.od h.rb (by decide))), h.below.trans (k.below h.hR h.rb.lt), h.hne, h.hR, h.h9⟩
theorem RLp.le (h : RLp B gR g9 l a b c d xs ys es is w0 wr) : B ≤ wr.heap.size := by have := h.rb.lt; have := h.hR; omega
theorem RLp.lab (h : RLp B gR g9 l a b c d xs ys es is w0 wr) (o : Obj) {c' : Value} {x : NamV} (ho : Own w' B 83 c' (es ++ [x])) (hg : (wr.alloc o).grownBy w' c.ownBlock) :
    Bk w' g9 28 #[a, b, c, d] ∧ RLp B gR g9 l a b c' d xs ys (es ++ [x]) is w0 (w'.setCell ⟨g9, 2, none⟩ c') := by
  have hc := h.oc.alloc o
  have mb := bk_other (bk_old _ h.mb) hc (by decide) hg
  have rb := bk_other (bk_old _ h.rb) hc (by decide) hg
  refine ⟨mb, bk_cell rb h.hne 2 _, bk_set' mb rfl, own_cell (own_other (h.oa.alloc o) hc (by decide) hg) mb (by decide) 2 _, own_cell (own_other (h.ob.alloc o) hc (by decide) hg) mb (by decide) 2 _, own_cell ho mb (by decide) 2 _, own_cell (own_other (h.od.alloc o) hc (by decide) hg) mb (by decide) 2 _, ?_, h.hne, h.hR, h.h9⟩
  exact ((h.below.alloc h.le _).grown hg (by rw [World.size_alloc]; have := h.le; omega) (fun k hk => (own_span hc hk).1)).setCell h.h9 _
theorem RLp.imp (h : RLp B gR g9 l a b c d xs ys es is w0 wr) (o : Obj) {d' : Value} {x : NamV} (ho : Own w' B 118 d' (is ++ [x])) (hg : (wr.alloc o).grownBy w' d.ownBlock) :
    Bk w' g9 28 #[a, b, c, d] ∧ RLp B gR g9 l a b c d' xs ys es (is ++ [x]) w0 (w'.setCell ⟨g9, 3, none⟩ d') := by
  have hc := h.od.alloc o
  have mb := bk_other (bk_old _ h.mb) hc (by decide) hg
  have rb := bk_other (bk_old _ h.rb) hc (by decide) hg
  refine ⟨mb, bk_cell rb h.hne 3 _, bk_set' mb rfl, own_cell (own_other (h.oa.alloc o) hc (by decide) hg) mb (by decide) 3 _, own_cell (own_other (h.ob.alloc o) hc (by decide) hg) mb (by decide) 3 _, own_cell (own_other (h.oc.alloc o) hc (by decide) hg) mb (by decide) 3 _, own_cell ho mb (by decide) 3 _, ?_, h.hne, h.hR, h.h9⟩
  exact ((h.below.alloc h.le _).grown hg (by rw [World.size_alloc]; have := h.le; omega) (fun k hk => (own_span hc hk).1)).setCell h.h9 _
end
set_option maxHeartbeats 4000000 in
set_option maxRecDepth 100000 in
theorem fread_long (S : ByteArray) (w : World) (h : 4000 < S.size) : Calls Tryz.prog 36 #[.string S] w (FReadPost w S.data.toList) := by
  have hszl : S.data.toList.length = S.size := by rw [Array.length_toList]; rfl
  obtain ⟨w1, hw1⟩ : ∃ w1, w1 = w.alloc (.cells #[.slice none 0 0, .slice none 0 0, .slice none 0 0, .slice none 0 0] 28) := ⟨_, rfl⟩
  have h1w : Below w.heap.size w w1 := by rw [hw1]; exact ext_alloc (Below.refl _ _) _
  have b1 : Bk w1 w.heap.size 28 #[.slice none 0 0, .slice none 0 0, .slice none 0 0, .slice none 0 0] := by rw [hw1]; exact bk_new _ _ _
  have HW1 := Lib.hid hw1
  have H1W := Lib.hid h1w
  have B1 := Lib.hid b1
  clear hw1 h1w b1
  have o1 : (4000 : Int) < S.size := by omega
  go_enter Tryz.func36, Tryz.ntmps36
  go_upto_region 1 with (fail)
  rw [← HW1.out]
  go_wp2_with (refine wpList_store_rowTo rfl 28 (.tmp 2) (.tmp 20) rfl rfl w.heap.size #[.slice none 0 0, .slice none 0 0, .slice none 0 0, .slice none 0 0] rfl rfl 28 _ B1.out (by kernel_rfl) rfl (by kernel_rfl) ?_)
  refine bodyPost_ret (results_rowF (g := w.heap.size) (t := 28) (cs := #[.slice none 0 0, .slice none 0 0, .slice none 0 0, .slice none 0 0]) (fr := (0, 0)) rfl _ _ _ rfl (bk_setRowM B1.out _) Tryz.underlying28 rfl (by kernel_rfl)) rfl ?_
  exact ⟨.inl ⟨2, rfl, .inl ⟨by omega, rfl⟩⟩, below_setRow H1W.out (Nat.le_refl _) _⟩
set_option maxHeartbeats 4000000 in
set_option maxRecDepth 100000 in
theorem fread_short (S : ByteArray) (w : World) (h : S.size < 9) : Calls Tryz.prog 36 #[.string S] w (FReadPost w S.data.toList) := by
  have hszl : S.data.toList.length = S.size := by rw [Array.length_toList]; rfl
  obtain ⟨w1, hw1⟩ : ∃ w1, w1 = w.alloc (.cells #[.slice none 0 0, .slice none 0 0, .slice none 0 0, .slice none 0 0] 28) := ⟨_, rfl⟩
  have h1w : Below w.heap.size w w1 := by rw [hw1]; exact ext_alloc (Below.refl _ _) _
  have b1 : Bk w1 w.heap.size 28 #[.slice none 0 0, .slice none 0 0, .slice none 0 0, .slice none 0 0] := by rw [hw1]; exact bk_new _ _ _
  have HW1 := Lib.hid hw1
  have H1W := Lib.hid h1w
  have B1 := Lib.hid b1
  clear hw1 h1w b1
  have o1 : ¬ ((4000 : Int) < S.size) := by omega
  have o2 : (S.size : Int) < 9 := by omega
  go_enter Tryz.func36, Tryz.ntmps36
  go_upto_region 1 with (fail)
  rw [← HW1.out]
  go_wp2_with (refine wpList_store_rowTo rfl 28 (.tmp 2) (.tmp 25) rfl rfl w.heap.size #[.slice none 0 0, .slice none 0 0, .slice none 0 0, .slice none 0 0] rfl rfl 28 _ B1.out (by kernel_rfl) rfl (by kernel_rfl) ?_)
  refine bodyPost_ret (results_rowF (g := w.heap.size) (t := 28) (cs := #[.slice none 0 0, .slice none 0 0, .slice none 0 0, .slice none 0 0]) (fr := (0, 0)) rfl _ _ _ rfl (bk_setRowM B1.out _) Tryz.underlying28 rfl (by kernel_rfl)) rfl ?_
  exact ⟨.inl ⟨4, rfl, .inr (.inl ⟨by omega, rfl⟩)⟩, below_setRow H1W.out (Nat.le_refl _) _⟩
set_option maxHeartbeats 4000000 in
set_option maxRecDepth 100000 in
theorem fread_sum (S : ByteArray) (w : World) (h1 : 9 ≤ S.size) (h2 : S.size ≤ 4000) (hs : ¬ SumOk S.data.toList) : Calls Tryz.prog 36 #[.string S] w (FReadPost w S.data.toList) := by
  have hszl : S.data.toList.length = S.size := by rw [Array.length_toList]; rfl
  obtain ⟨w1, hw1⟩ : ∃ w1, w1 = w.alloc (.cells #[.slice none 0 0, .slice none 0 0, .slice none 0 0, .slice none 0 0] 28) := ⟨_, rfl⟩
  have h1w : Below w.heap.size w w1 := by rw [hw1]; exact ext_alloc (Below.refl _ _) _
  have b1 : Bk w1 w.heap.size 28 #[.slice none 0 0, .slice none 0 0, .slice none 0 0, .slice none 0 0] := by rw [hw1]; exact bk_new _ _ _
  have HW1 := Lib.hid hw1
  have H1W := Lib.hid h1w
  have B1 := Lib.hid b1
  clear hw1 h1w b1
  have o1 : ¬ ((4000 : Int) < S.size) := by omega
  have o2 : ¬ ((S.size : Int) < 9) := by omega
  obtain ⟨k, hk⟩ : ∃ k : Nat, S.size = k + 2 := ⟨S.size - 2, by omega⟩
  have hk1 : (S.size : Int) - 2 = (k : Int) := by omega
  have hk2 : (0 : Int) ≤ k := by omega
  have hkw : IntKind.i64.wrap (k : Int) = (k : Int) := by rw [IntKind.wrap_i64]; omega
  have hkt : ((k : Int)).toNat = k := by omega
  have hk3 : (k : Int) ≤ S.size := by omega
  have hk4 : k ≤ S.size := by omega
  obtain ⟨P, hP⟩ : ∃ P, S.extract 0 k = P := ⟨_, rfl⟩
  have hPl : P.data.toList = S.data.toList.take k := by
    rw [← hP]
    simp only [ByteArray.data_extract, Array.toList_extract, List.extract_eq_take_drop, List.drop_zero, Nat.sub_zero]
  have hPs : P.size ≤ 4000 := by
    have : P.size = P.data.toList.length := by rw [Array.length_toList]; rfl
    rw [this, hPl, List.length_take]; omega
  have hkl : S.data.toList.length - 2 = k := by omega
  obtain ⟨Q, hQ⟩ : ∃ Q, (⟨(sumL P.data.toList).toArray⟩ : ByteArray) = Q := ⟨_, rfl⟩
  have hQs : Q.size = 2 := by rw [← hQ]; rfl
  obtain ⟨PQ, hPQ⟩ : ∃ PQ, P ++ Q = PQ := ⟨_, rfl⟩
  have hadd : Op.stringOp .add P Q = pure (.string PQ) := by rw [← hPQ]; exact str_add _ _ (by omega)
  have hPQl : PQ.data.toList = S.data.toList.take k ++ sumL (S.data.toList.take k) := by rw [← hPQ, ← hQ, ← hPl]; simp
  have hso : SumOk S.data.toList ↔ PQ.toList = S.toList := by
    unfold SumOk
    rw [hkl, ByteArray.toList_eq, ByteArray.toList_eq, hPQl]
  have hne : (PQ.toList == S.toList) = false := beq_false_of_ne fun h => hs (hso.2 h)
  have hne2 : (PQ.toList != S.toList) = true := by rw [bne, hne]; rfl
  go_enter Tryz.func36, Tryz.ntmps36
  go_upto_region 1 with (fail)
  rw [← HW1.out]
  have HQ := Lib.hid hQ
  have SM := Lib.hid (fun (W : World) => fsum_any P W (by omega))
  have HSO := Lib.hid hso
  have HKL := Lib.hid hk
  have HZ := Lib.hid hszl
  clear hPQ hPQl hPl hQ hkl hszl hso hk hPs hQs
  go_upto_region 5 with (fail)
  go_region_law (go_simp; go_at_call 71; ((with_reducible refine (SM.out _).mono ?_); rintro e w10 ⟨ao, c, rfl, hos, hb10⟩; have hcv := rowB_string (P := Tryz.prog) hos (by unfold sumL; simp) Tryz.underlying91 Tryz.underlying5 Tryz.underlying9; rw [HQ.out] at hcv; have hbx : Below w1.heap.size w1 w10 := ext_trans (ext_drew (Below.refl _ _)) hb10; have B2 := Lib.hid (bk_keep hbx B1.out); have H2W := Lib.hid (ext_trans H1W.out hbx); clear hos hb10 hbx))
  go_wp2_with (refine wpList_store_rowTo rfl 28 (.tmp 2) (.tmp 42) rfl rfl w.heap.size #[.slice none 0 0, .slice none 0 0, .slice none 0 0, .slice none 0 0] rfl rfl 28 _ B2.out (by kernel_rfl) rfl (by kernel_rfl) ?_)
  refine bodyPost_ret (results_rowF (g := w.heap.size) (t := 28) (cs := #[.slice none 0 0, .slice none 0 0, .slice none 0 0, .slice none 0 0]) (fr := (0, 0)) rfl _ _ _ rfl (bk_setRowM B2.out _) Tryz.underlying28 rfl (by kernel_rfl)) rfl ?_
  exact ⟨.inl ⟨6, rfl, .inr (.inr (.inl ⟨by rw [HZ.out]; exact h1, by rw [HZ.out]; exact h2, hs, rfl⟩))⟩, below_setRow H2W.out (Nat.le_refl _) _⟩
set_option maxHeartbeats 4000000 in
set_option maxRecDepth 100000 in
theorem fread_good (S : ByteArray) (w : World) (h1 : 9 ≤ S.size) (h2 : S.size ≤ 4000) (hs : SumOk S.data.toList) : Calls Tryz.prog 36 #[.string S] w (FReadPost w S.data.toList) := by
  have hszl : S.data.toList.length = S.size := by rw [Array.length_toList]; rfl
  obtain ⟨w1, hw1⟩ : ∃ w1, w1 = w.alloc (.cells #[.slice none 0 0, .slice none 0 0, .slice none 0 0, .slice none 0 0] 28) := ⟨_, rfl⟩
  have h1w : Below w.heap.size w w1 := by rw [hw1]; exact ext_alloc (Below.refl _ _) _
  have b1 : Bk w1 w.heap.size 28 #[.slice none 0 0, .slice none 0 0, .slice none 0 0, .slice none 0 0] := by rw [hw1]; exact bk_new _ _ _
  have HW1 := Lib.hid hw1
  have H1W := Lib.hid h1w
  have B1 := Lib.hid b1
  clear hw1 h1w b1
  have o1 : ¬ ((4000 : Int) < S.size) := by omega
  have o2 : ¬ ((S.size : Int) < 9) := by omega
  obtain ⟨k, hk⟩ : ∃ k : Nat, S.size = k + 2 := ⟨S.size - 2, by omega⟩
  have hk1 : (S.size : Int) - 2 = (k : Int) := by omega
  have hk2 : (0 : Int) ≤ k := by omega
  have hkw : IntKind.i64.wrap (k : Int) = (k : Int) := by rw [IntKind.wrap_i64]; omega
  have hkt : ((k : Int)).toNat = k := by omega
  have hk3 : (k : Int) ≤ S.size := by omega
  have hk4 : k ≤ S.size := by omega
  obtain ⟨P, hP⟩ : ∃ P, S.extract 0 k = P := ⟨_, rfl⟩
  have hPl : P.data.toList = S.data.toList.take k := by
    rw [← hP]
    simp only [ByteArray.data_extract, Array.toList_extract, List.extract_eq_take_drop, List.drop_zero, Nat.sub_zero]
  have hPs : P.size ≤ 4000 := by
    have : P.size = P.data.toList.length := by rw [Array.length_toList]; rfl
    rw [this, hPl, List.length_take]; omega
  have hkl : S.data.toList.length - 2 = k := by omega
  obtain ⟨Q, hQ⟩ : ∃ Q, (⟨(sumL P.data.toList).toArray⟩ : ByteArray) = Q := ⟨_, rfl⟩
  have hQs : Q.size = 2 := by rw [← hQ]; rfl
  obtain ⟨PQ, hPQ⟩ : ∃ PQ, P ++ Q = PQ := ⟨_, rfl⟩
  have hadd : Op.stringOp .add P Q = pure (.string PQ) := by rw [← hPQ]; exact str_add _ _ (by omega)
  have hPQl : PQ.data.toList = S.data.toList.take k ++ sumL (S.data.toList.take k) := by rw [← hPQ, ← hQ, ← hPl]; simp
  have hso : SumOk S.data.toList ↔ PQ.toList = S.toList := by
    unfold SumOk
    rw [hkl, ByteArray.toList_eq, ByteArray.toList_eq, hPQl]
  have hne : (PQ.toList == S.toList) = true := by rw [hso.1 hs]; exact beq_self_eq_true _
  have hne2 : (PQ.toList != S.toList) = false := by rw [bne, hne]; rfl
  obtain ⟨l0, hl0⟩ : ∃ l0, l0 = (S.data.toList.take k).drop 3 := ⟨_, rfl⟩
  have hR : S.extract 3 k = ba l0 := by
    rw [hl0]; refine ByteArray.ext ?_
    apply Array.ext'
    simp only [ba, ByteArray.data_extract, Array.toList_extract, List.extract_eq_take_drop]
    rw [List.drop_take]
  have hll : l0.length ≤ 4000 := by rw [hl0, List.length_drop, List.length_take]; omega
  have hr3 : (3 : Int) ≤ k := by omega
  have hr4 : 3 ≤ k := by omega
  have hfm : fileM S.data.toList = modK l0 := by unfold fileM; rw [hkl, hl0]
  have HFM := Lib.hid hfm
  have HLL := Lib.hid hll
  have HR := Lib.hid hR
  clear hl0 hll hfm
  go_enter Tryz.func36, Tryz.ntmps36
  go_upto_region 1 with (fail)
  rw [← HW1.out]
  have HQ := Lib.hid hQ
  have SM := Lib.hid (fun (W : World) => fsum_any P W (by omega))
  have HSO := Lib.hid hso
  have HKL := Lib.hid hk
  have HZ := Lib.hid hszl
  clear hPQ hPQl hPl hQ hkl hszl hso hk hPs hQs
  go_upto_region 5 with (fail)
  go_region_law (go_simp; go_at_call 71; ((with_reducible refine (SM.out _).mono ?_); rintro e w10 ⟨ao, c, rfl, hos, hb10⟩; have hcv := rowB_string (P := Tryz.prog) hos (by unfold sumL; simp) Tryz.underlying91 Tryz.underlying5 Tryz.underlying9; rw [HQ.out] at hcv; have hbx : Below w1.heap.size w1 w10 := ext_trans (ext_drew (Below.refl _ _)) hb10; have B2 := Lib.hid (bk_keep hbx B1.out); have H2W := Lib.hid (ext_trans H1W.out hbx); clear hos hb10 hbx))
  have hB10 : w.heap.size ≤ w10.heap.size := H2W.out.size
  go_upto_region 8 with (fail)
  obtain ⟨gR, hgR⟩ : ∃ gR, w10.heap.size = gR := ⟨_, rfl⟩
  obtain ⟨w11, hw11⟩ : ∃ w11, w11 = w10.alloc (.cells #[.string (ba l0)] 146) := ⟨_, rfl⟩
  rw [← hw11]
  try rw [hgR]
  have r11 : Bk w11 gR 146 #[.string (ba l0)] := by rw [hw11, ← hgR]; exact bk_new _ _ _
  have d11 : Below w10.heap.size w10 w11 := by rw [hw11]; exact ext_alloc (Below.refl _ _) _
  have z11 : w11.heap.size = gR + 1 := by rw [hw11, World.size_alloc, hgR]
  have HLL := HLL.out
  have lb : ∀ n : Nat, (l0.drop n).length ≤ 4000 := fun n => by rw [List.length_drop]; omega
  have cA := Lib.hid (fun W h => fnumber_one l0 HLL gR W h)
  have cB := fun W h => fnumber_one (l0.drop 1) (lb 1) gR W h
  have cC := fun W h => fnumber_one (l0.drop 2) (lb 2) gR W h
  have cD := fun W h => fnumber_one (l0.drop 3) (lb 3) gR W h
  rw [List.drop_drop] at cB cC cD
  obtain ⟨na, hna⟩ : ∃ n, numK 1 l0 = n := ⟨_, rfl⟩
  obtain ⟨nb, hnb⟩ : ∃ n, numK 1 (l0.drop 1) = n := ⟨_, rfl⟩
  obtain ⟨nc, hnc⟩ : ∃ n, numK 1 (l0.drop 2) = n := ⟨_, rfl⟩
  obtain ⟨nd, hnd⟩ : ∃ n, numK 1 (l0.drop 3) = n := ⟨_, rfl⟩
  have ka : na ≤ 255 := by have := numK_lt 1 l0; omega
  have kb : nb ≤ 255 := by have := numK_lt 1 (l0.drop 1); omega
  have kc : nc ≤ 255 := by have := numK_lt 1 (l0.drop 2); omega
  have kd : nd ≤ 255 := by have := numK_lt 1 (l0.drop 3); omega
  have cE := fun W h => fnumbers_any (l0.drop 4) (lb 4) na ka gR W h
  have cF := fun W h => fnumbers_any ((l0.drop 4).drop (4 * na)) (by rw [List.drop_drop]; exact lb _) nb kb gR W h
  obtain ⟨l6, hl6⟩ : ∃ l, ((l0.drop 4).drop (4 * na)).drop (4 * nb) = l := ⟨_, rfl⟩
  have l6b : l6.length ≤ 4000 := by rw [← hl6, List.drop_drop, List.drop_drop]; exact lb _
  obtain ⟨xs, hxs⟩ : ∃ x, numsK na (l0.drop 4) = x := ⟨_, rfl⟩
  obtain ⟨ys, hys⟩ : ∃ x, numsK nb ((l0.drop 4).drop (4 * na)) = x := ⟨_, rfl⟩
  have hmod : modK l0 = ⟨xs, ys, (nmsK nc l6).1, (nmsK nd (nmsK nc l6).2).1⟩ := by unfold modK; rw [hna, hnb, hnc, hnd, hl6, hxs, hys]
  have lxs : xs.length = na := by rw [← hxs]; exact numsK_len _ _
  have lys : ys.length = nb := by rw [← hys]; exact numsK_len _ _
  have ixs : ∀ x ∈ xs, I64 x := by rw [← hxs]; exact numsK_i64 _ _
  have iys : ∀ x ∈ ys, I64 x := by rw [← hys]; exact numsK_i64 _ _
  rw [hnb] at cB
  rw [hnc] at cC
  rw [hnd] at cD
  rw [hna] at cA
  rw [hxs] at cE
  rw [hys, hl6] at cF
  obtain ⟨l5, hl5⟩ : ∃ l, (l0.drop 4).drop (4 * na) = l := ⟨_, rfl⟩
  rw [hl5] at cE cF
  obtain ⟨l4, hl4⟩ : ∃ l, l0.drop 4 = l := ⟨_, rfl⟩
  rw [show (3 + 1 : Nat) = 4 from rfl, hl4] at cD
  rw [hl4] at cE
  obtain ⟨l3, hl3⟩ : ∃ l, l0.drop 3 = l := ⟨_, rfl⟩
  rw [show (2 + 1 : Nat) = 3 from rfl, hl3] at cC
  rw [hl3] at cD
  obtain ⟨l2, hl2⟩ : ∃ l, l0.drop 2 = l := ⟨_, rfl⟩
  rw [show (1 + 1 : Nat) = 2 from rfl, hl2] at cB
  rw [hl2] at cC
  obtain ⟨l1, hl1⟩ : ∃ l, l0.drop 1 = l := ⟨_, rfl⟩
  rw [hl1] at cA cB
  have CB := Lib.hid cB
  have CC := Lib.hid cC
  have CD := Lib.hid cD
  have CE := Lib.hid cE
  have CF := Lib.hid cF
  have HMOD := Lib.hid hmod
  have HXS := Lib.hid (And.intro lxs ixs)
  have HYS := Lib.hid (And.intro lys iys)
  have HL6 := Lib.hid l6b
  have R11 := Lib.hid r11
  have D11 := Lib.hid d11
  clear cB cC cD cE cF hmod lxs lys ixs iys hna hnb hnc hnd hl1 hl2 hl3 hl4 hl5 hl6 hxs hys lb l6b r11 d11 HLL hw11
  go_upto_region 9 with (first
    | (go_at_call 72; ((with_reducible refine (cA.out w11 R11.out).mono ?_); rintro e w12 ⟨rfl, hs⟩; have S1 := Lib.hid hs; clear hs))
    | (go_at_call 72; ((with_reducible refine (CB.out w12 S1.out.b).mono ?_); rintro e w13 ⟨rfl, hs⟩; have S2 := Lib.hid (S1.out.trans hs); clear hs))
    | (go_at_call 72; ((with_reducible refine (CC.out w13 S2.out.b).mono ?_); rintro e w14 ⟨rfl, hs⟩; have S3 := Lib.hid (S2.out.trans hs); clear hs))
    | (go_at_call 72; ((with_reducible refine (CD.out w14 S3.out.b).mono ?_); rintro e w15 ⟨rfl, hs⟩; have S4 := Lib.hid (S3.out.trans hs); clear hs)))
  go_upto_region 10 with (first
    | (go_at_call 73; ((with_reducible refine (CE.out w15 S4.out.b).mono ?_); rintro e w16 ⟨v16, rfl, ho, hs⟩; obtain ⟨xa, xn, xc, rfl⟩ := own_shape ho; have S5 := Lib.hid (S4.out.trans hs); have O5 := Lib.hid ho; clear hs ho))
    | (go_at_call 73; ((with_reducible refine (CF.out w16 S5.out.b).mono ?_); rintro e w17 ⟨v17, rfl, ho, hs⟩; obtain ⟨ya, yn, yc, rfl⟩ := own_shape ho; have O5' := Lib.hid (O5.out.kept hs.gr (.inr (own_not_bk O5.out S5.out.b (by decide)))); have S6 := Lib.hid (S5.out.trans hs); have O6 := Lib.hid ho; clear hs ho)))
  obtain ⟨g9, hg9⟩ : ∃ g, w17.heap.size = g := ⟨_, rfl⟩
  obtain ⟨w18, hw18⟩ : ∃ x, x = w17.alloc (.cells #[.slice xa xn xc, .slice ya yn yc, .slice none 0 0, .slice none 0 0] 28) := ⟨_, rfl⟩
  rw [← hw18]
  try rw [hg9]
  have z5 : w10.heap.size ≤ w15.heap.size := by have := S4.out.gr.size; omega
  have z6 : w10.heap.size ≤ w16.heap.size := by have := S5.out.gr.size; omega
  have z7 : gR < w17.heap.size := S6.out.b.lt
  have LP := Lib.hid (show RLp w10.heap.size gR g9 (nmsK 0 l6).2 (.slice xa xn xc) (.slice ya yn yc) (.slice none 0 0) (.slice none 0 0) xs ys (nmsK 0 l6).1 [] w10 w18 by
    rw [hw18, ← hg9]
    exact ⟨bk_old _ S6.out.b, bk_new _ _ _, (ownsRow_le O5'.out z5 : Own w17 _ _ _ _).alloc _, (ownsRow_le O6.out z6 : Own w17 _ _ _ _).alloc _, Own.nil _ _ _, Own.nil _ _ _, ((D11.out.trans (S6.out.below (Nat.le_of_eq hgR) (by rw [z11]; omega))).alloc (by omega) _), by omega, by omega, by omega⟩)
  clear hw18 S1 S2 S3 S4 S5 S6 O5 O5' O6 cA CB CC CD CE CF R11
  go_wp2
  go_loopw [66] (fun i wr => ∃ (j : Nat) (v : Value), j ≤ nc ∧ i = .int .i64 j ∧ RLp w10.heap.size gR g9 (nmsK j l6).2 (.slice xa xn xc) (.slice ya yn yc) v (.slice none 0 0) xs ys (nmsK j l6).1 [] w10 wr) (fun i _ => nc - (intOf i).toNat)
  case atStart => exact ⟨0, _, Nat.zero_le _, rfl, LP.out⟩
  case round =>
    obtain ⟨j, v, hj, rfl, hst⟩ := hrel
    obtain ⟨va, vn, vc, rfl⟩ := own_shape hst.oc
    by_cases hlj : j < nc
    · have o1 : (j : Int) < nc := by omega
      have hlr : (nmsK j l6).2.length ≤ 4000 := Nat.le_trans (nmsK_rest j l6) HL6.out
      have fr := fname_read (nmsK j l6).2 hlr gR wr hst.rb
      have hn := nmsK_len j l6
      have hsu : nmsK (j + 1) l6 = ((nmsK j l6).1 ++ [nameK (nmsK j l6).2], nameR (nmsK j l6).2) := rfl
      obtain ⟨x, hx⟩ : ∃ x, nameK (nmsK j l6).2 = x := ⟨_, rfl⟩
      obtain ⟨lr, hr⟩ : ∃ x, nameR (nmsK j l6).2 = x := ⟨_, rfl⟩
      rw [hx, hr] at fr hsu
      obtain ⟨i0, i1, z0, z1, z2⟩ := info_parts info_LabelF
      have c63 : (nmsK j l6).1.length + 1 ≤ maxLen := by rw [hn]; unfold maxLen; omega
      have c47 : ((nmsK j l6).1.length + 1) * 24 ≤ 140737488355328 := by rw [hn]; omega
      have FR := Lib.hid fr
      have HST := Lib.hid hst
      have HSU := Lib.hid hsu
      clear fr hst hsu hx hr hn hlr
      go_wp2_with (first
        | (go_at_call 74; ((with_reducible refine FR.out.mono ?_); rintro e w19 ⟨rfl, hs⟩; have h2 := HST.out.name hs; obtain ⟨m0, m1, m2, m3⟩ := cellsM4 h2.mb; have mL := h2.mb.lt; have hle : w10.heap.size ≤ (w19.alloc (.cells #[.string x.name, .int .i64 x.at_] 83)).heap.size := (by have := h2.le; rw [World.size_alloc]; omega); have H2 := Lib.hid h2; clear hs h2))
        | (at_builtin; go_loud (refine wpList_append_sl (α := NamV) rfl (.tmp 74) (.tmp 78) 25 rfl w10.heap.size 83 i0 _ 24 Tryz.underlying25 i1 z0 z1 z2 rfl (.slice va vn vc) (nmsK j l6).1 rfl (H2.out.oc.alloc _) (some ⟨w19.heap.size, 0, none⟩) 1 1 [x] rfl (sl_labF w19 x _) c63 c47 hle ?_; intro v20 w20 ho hg _; obtain ⟨ua, un, uc, rfl⟩ := own_shape ho; obtain ⟨h4, h5⟩ := H2.out.lab _ ho hg; obtain ⟨q0, q1, q2, q3⟩ := cellsM4 h4; have qL := h4.lt; have qF := fun i => Bk.frozen h4 i; have H5 := Lib.hid h5; clear ho hg h4 h5)))
      go_roundw
      case rel => exact ⟨j + 1, _, by omega, by go_num, by rw [HSU.out]; exact H5.out⟩
      case measure => simp [intOf]; omega
    · have o1 : ¬ ((j : Int) < nc) := by omega
      obtain rfl : j = nc := by omega
      have HST := Lib.hid hst
      have l7b : (nmsK j l6).2.length ≤ 4000 := Nat.le_trans (nmsK_rest j l6) HL6.out
      have l7e : (nmsK j l6).1.length = j := nmsK_len j l6
      have wes := nmsK_wf j l6
      obtain ⟨es, hes⟩ : ∃ x, (nmsK j l6).1 = x := ⟨_, rfl⟩
      obtain ⟨l7, hl7⟩ : ∃ x, (nmsK j l6).2 = x := ⟨_, rfl⟩
      rw [hes] at HST HMOD l7e wes
      have WES := Lib.hid wes
      rw [hl7] at HST HMOD l7b
      clear hst hes hl7 HL6 wes
      have HL6 := Lib.hid l7b
      have LP := Lib.hid (show RLp w10.heap.size gR g9 (nmsK 0 l7).2 (.slice xa xn xc) (.slice ya yn yc) (.slice va vn vc) (.slice none 0 0) xs ys es (nmsK 0 l7).1 w10 wr from HST.out)
      clear l7b HST
      go_wp2
      go_loopw [83] (fun i wr => ∃ (j : Nat) (v : Value), j ≤ nd ∧ i = .int .i64 j ∧ RLp w10.heap.size gR g9 (nmsK j l7).2 (.slice xa xn xc) (.slice ya yn yc) (.slice va vn vc) v xs ys es (nmsK j l7).1 w10 wr) (fun i _ => nd - (intOf i).toNat)
      case atStart => exact ⟨0, _, Nat.zero_le _, rfl, LP.out⟩
      case round =>
        obtain ⟨j, v, hj, rfl, hst⟩ := hrel
        obtain ⟨za, zn, zc, rfl⟩ := own_shape hst.od
        by_cases hlj : j < nd
        · have o1 : (j : Int) < nd := by omega
          have hlr : (nmsK j l7).2.length ≤ 4000 := Nat.le_trans (nmsK_rest j l7) HL6.out
          have fr := fname_read (nmsK j l7).2 hlr gR wr hst.rb
          have hn := nmsK_len j l7
          have hsu : nmsK (j + 1) l7 = ((nmsK j l7).1 ++ [nameK (nmsK j l7).2], nameR (nmsK j l7).2) := rfl
          obtain ⟨x, hx⟩ : ∃ x, nameK (nmsK j l7).2 = x := ⟨_, rfl⟩
          obtain ⟨lr, hr⟩ : ∃ x, nameR (nmsK j l7).2 = x := ⟨_, rfl⟩
          rw [hx, hr] at fr hsu
          obtain ⟨i0, i1, z0, z1, z2⟩ := info_parts info_ImportF
          have c63 : (nmsK j l7).1.length + 1 ≤ maxLen := by rw [hn]; unfold maxLen; omega
          have c47 : ((nmsK j l7).1.length + 1) * 24 ≤ 140737488355328 := by rw [hn]; omega
          have FR := Lib.hid fr
          have HST := Lib.hid hst
          have HSU := Lib.hid hsu
          clear fr hst hsu hx hr hn hlr
          go_wp2_with (first
            | (go_at_call 74; ((with_reducible refine FR.out.mono ?_); rintro e w19 ⟨rfl, hs⟩; have h2 := HST.out.name hs; obtain ⟨m0, m1, m2, m3⟩ := cellsM4 h2.mb; have mL := h2.mb.lt; have hle : w10.heap.size ≤ (w19.alloc (.cells #[.string x.name, .int .i64 x.at_] 118)).heap.size := (by have := h2.le; rw [World.size_alloc]; omega); have H2 := Lib.hid h2; clear hs h2))
            | (at_builtin; go_loud (refine wpList_append_sl (α := NamV) rfl (.tmp 91) (.tmp 95) 26 rfl w10.heap.size 118 i0 _ 24 Tryz.underlying26 i1 z0 z1 z2 rfl (.slice za zn zc) (nmsK j l7).1 rfl (H2.out.od.alloc _) (some ⟨w19.heap.size, 0, none⟩) 1 1 [x] rfl (sl_labF w19 x _) c63 c47 hle ?_; intro v20 w20 ho hg _; obtain ⟨ua, un, uc, rfl⟩ := own_shape ho; obtain ⟨h4, h5⟩ := H2.out.imp _ ho hg; obtain ⟨q0, q1, q2, q3⟩ := cellsM4 h4; have qL := h4.lt; have qF := fun i => Bk.frozen h4 i; have H5 := Lib.hid h5; clear ho hg h4 h5)))
          go_roundw
          case rel => exact ⟨j + 1, _, by omega, by go_num, by rw [HSU.out]; exact H5.out⟩
          case measure => simp [intOf]; omega
        · have o1 : ¬ ((j : Int) < nd) := by omega
          obtain rfl : j = nd := by omega
          have HST := Lib.hid hst
          obtain ⟨is, his⟩ : ∃ x, (nmsK j l7).1 = x := ⟨_, rfl⟩
          have wis := nmsK_wf j l7
          rw [his] at HST HMOD wis
          have hh : ModR.has wr ⟨⟨xa, xn, xc⟩, ⟨ya, yn, yc⟩, ⟨va, vn, vc⟩, ⟨za, zn, zc⟩⟩ ⟨xs, ys, es, is⟩ :=
            ⟨(own_sl3 HST.out.oa).1, (own_sl3 HST.out.ob).1, (own_sl3 HST.out.oc).1, (own_sl3 HST.out.od).1, ⟨(own_sl3 HST.out.oa).2.1, (own_sl3 HST.out.ob).2.1, (own_sl3 HST.out.oc).2.1, (own_sl3 HST.out.od).2.1⟩, HXS.out.2, HYS.out.2, WES.out, wis⟩
          have hfm : fileM S.data.toList = ⟨xs, ys, es, is⟩ := HFM.out.trans HMOD.out
          have b2 : Bk wr w.heap.size 28 #[.slice none 0 0, .slice none 0 0, .slice none 0 0, .slice none 0 0] := bk_keep HST.out.below B2.out
          have hlt : w.heap.size < w10.heap.size := B2.out.lt
          obtain ⟨m0, m1, m2, m3⟩ := cellsM4 HST.out.mb
          have mL := HST.out.mb.lt
          have HBR := Lib.hid (ext_trans H2W.out HST.out.below)
          have HH := Lib.hid hh
          have HF := Lib.hid hfm
          clear hst his wis hh hfm hne hne2 hadd hP
          by_cases hok : ModOk isNameB ⟨xs, ys, es, is⟩
          · have pk := fpack_ok _ _ wr HH.out hok
            have HOK := Lib.hid hok
            by_cases heq : packM ⟨xs, ys, es, is⟩ = S.data.toList
            · have hS : (⟨(packM ⟨xs, ys, es, is⟩).toArray⟩ : ByteArray) = S := by rw [heq]
              rw [hS] at pk
              have PK := Lib.hid pk
              have HEQ := Lib.hid heq
              clear pk hok heq hS
              go_wp2_with (first
                | (go_at_call 35; ((with_reducible refine PK.out.mono ?_); rintro e w21 ⟨rfl, hb21⟩; have B21 := Lib.hid (bk_keep hb21 b2); have H21 := Lib.hid (ext_trans HBR.out hb21); have HH21 := Lib.hid (HH.out.below hb21); (try clear m0 m1 m2 m3 mL); obtain ⟨n0, n1, n2, n3⟩ := cellsM4 (bk_keep hb21 HST.out.mb); have nL := (bk_keep hb21 HST.out.mb).lt; clear hb21))
                | (refine wpList_store_rowTo rfl 28 (.tmp 2) (.tmp 112) rfl rfl w.heap.size #[.slice xa xn xc, .slice ya yn yc, .slice va vn vc, .slice za zn zc] rfl rfl 28 _ B21.out (by kernel_rfl) rfl (by kernel_rfl) ?_))
              refine bodyPost_ret (results_rowF (g := w.heap.size) (t := 28) (cs := #[.slice xa xn xc, .slice ya yn yc, .slice va vn vc, .slice za zn zc]) (fr := (0, 0)) rfl _ _ _ rfl (bk_setRowM B21.out _) Tryz.underlying28 rfl (by kernel_rfl)) rfl ?_
              have hkeep : ∀ {α : Type} [El α] {ao : Option Addr} {n : Nat} {x : List α}, Sl w21 ao n x → (∀ a, ao = some a → w10.heap.size ≤ a.block) → Sl (w21.setRow w.heap.size #[.slice xa xn xc, .slice ya yn yc, .slice va vn vc, .slice za zn zc]) ao n x := fun hsl hne =>
                hsl.keep (by simp [World.setRow]) (fun a ha => by
                  have := hne a ha
                  exact setRow_otherM _ _ _ (by omega))
              have q := HST.out
              have hx := HH21.out
              exact ⟨.inr ⟨⟨⟨xa, xn, xc⟩, ⟨ya, yn, yc⟩, ⟨va, vn, vc⟩, ⟨za, zn, zc⟩⟩, rfl, by rw [HF.out]; exact ⟨hkeep hx.code (own_sl3 q.oa).2.2, hkeep hx.data (own_sl3 q.ob).2.2, hkeep hx.ex (own_sl3 q.oc).2.2, hkeep hx.im (own_sl3 q.od).2.2, hx.le, hx.wc, hx.wd, hx.we, hx.wi⟩, by rw [HZ.out]; exact h1, by rw [HZ.out]; exact h2, hs, by rw [HF.out]; exact HOK.out, by rw [HF.out]; exact HEQ.out⟩, below_setRow H21.out (Nat.le_refl _) _⟩
            · obtain ⟨TT, hTT⟩ : ∃ x, (⟨(packM ⟨xs, ys, es, is⟩).toArray⟩ : ByteArray) = x := ⟨_, rfl⟩
              rw [hTT] at pk
              have hq : (TT.toList == S.toList) = false := beq_false_of_ne (fun h => heq (by rw [ByteArray.toList_eq, ByteArray.toList_eq, ← hTT] at h; simpa using h))
              have hq2 : (TT.toList != S.toList) = true := by rw [bne, hq]; rfl
              have PK := Lib.hid pk
              have HNO := Lib.hid (show ¬ (ModOk isNameB (fileM S.data.toList) ∧ packM (fileM S.data.toList) = S.data.toList) from fun h => heq (by rw [← HF.out]; exact h.2))
              clear pk hok heq hTT
              go_wp2_with (first
                | (go_at_call 35; ((with_reducible refine PK.out.mono ?_); rintro e w21 ⟨rfl, hb21⟩; have B21 := Lib.hid (bk_keep hb21 b2); have H21 := Lib.hid (ext_trans HBR.out hb21); have HH21 := Lib.hid (HH.out.below hb21); (try clear m0 m1 m2 m3 mL); obtain ⟨n0, n1, n2, n3⟩ := cellsM4 (bk_keep hb21 HST.out.mb); have nL := (bk_keep hb21 HST.out.mb).lt; clear hb21))
                | (refine wpList_store_rowTo rfl 28 (.tmp 2) (.tmp 111) rfl rfl w.heap.size #[.slice none 0 0, .slice none 0 0, .slice none 0 0, .slice none 0 0] rfl rfl 28 _ B21.out (by kernel_rfl) rfl (by kernel_rfl) ?_))
              refine bodyPost_ret (results_rowF (g := w.heap.size) (t := 28) (cs := #[.slice none 0 0, .slice none 0 0, .slice none 0 0, .slice none 0 0]) (fr := (0, 0)) rfl _ _ _ rfl (bk_setRowM B21.out _) Tryz.underlying28 rfl (by kernel_rfl)) rfl ?_
              exact ⟨.inl ⟨5, rfl, .inr (.inr (.inr ⟨by rw [HZ.out]; exact h1, by rw [HZ.out]; exact h2, hs, HNO.out, rfl⟩))⟩, below_setRow H21.out (Nat.le_refl _) _⟩
          · have PK := Lib.hid (fpack_bad _ _ wr HH.out hok)
            have HNO := Lib.hid (show ¬ (ModOk isNameB (fileM S.data.toList) ∧ packM (fileM S.data.toList) = S.data.toList) from fun h => hok (by rw [← HF.out]; exact h.1))
            clear hok
            go_wp2_with (first
              | (go_at_call 35; ((with_reducible refine PK.out.mono ?_); rintro e w21 ⟨er, hne0, rfl, hb21⟩; have q1 : (er != 0) = true := (by simpa using hne0); have q2 : (er == 0) = false := (by simpa using hne0); have B21 := Lib.hid (bk_keep hb21 b2); have H21 := Lib.hid (ext_trans HBR.out hb21); have HH21 := Lib.hid (HH.out.below hb21); (try clear m0 m1 m2 m3 mL); obtain ⟨n0, n1, n2, n3⟩ := cellsM4 (bk_keep hb21 HST.out.mb); have nL := (bk_keep hb21 HST.out.mb).lt; clear hb21))
              | (refine wpList_store_rowTo rfl 28 (.tmp 2) (.tmp 111) rfl rfl w.heap.size #[.slice none 0 0, .slice none 0 0, .slice none 0 0, .slice none 0 0] rfl rfl 28 _ B21.out (by kernel_rfl) rfl (by kernel_rfl) ?_))
            refine bodyPost_ret (results_rowF (g := w.heap.size) (t := 28) (cs := #[.slice none 0 0, .slice none 0 0, .slice none 0 0, .slice none 0 0]) (fr := (0, 0)) rfl _ _ _ rfl (bk_setRowM B21.out _) Tryz.underlying28 rfl (by kernel_rfl)) rfl ?_
            exact ⟨.inl ⟨5, rfl, .inr (.inr (.inr ⟨by rw [HZ.out]; exact h1, by rw [HZ.out]; exact h2, hs, HNO.out, rfl⟩))⟩, below_setRow H21.out (Nat.le_refl _) _⟩
end Go.Proofs.YtpjhjefjbkjhkaaGreatDoor
