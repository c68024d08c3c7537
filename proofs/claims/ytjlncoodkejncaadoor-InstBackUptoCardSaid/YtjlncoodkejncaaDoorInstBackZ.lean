import Derived.Test.YtjlncoodkejncaaDoorInstOneWalkZ
import Derived.Test.YtjlncoodkejncaaDoorParseZ
/- The walk of InstBack. -/
namespace Go.Proofs.YtjlncoodkejncaaDoor
open Go Go.RowKit
set_option linter.unusedVariables false
set_option linter.unusedSimpArgs false
theorem run_neq_inst (x : InstV) (W : World) : (binOp .neq 23 x.val x.val).run Tryd.prog W = .ok (.bool false) W := by
  obtain ⟨op, a, b, c⟩ := x
  simp only [InstV.val]
  rw [run_neq_struct]
  go_simp
theorem textL_len {i : InstV} (h : instOk i = true) : (textL i).length ≤ 100 := by
  obtain ⟨o0, o1, a0, a1, b0, b1, c0, c1⟩ := instOk_bd h
  have l0 := wordL_len i.op.toNat
  have l1 := sufL_len i.a ⟨by omega, by omega⟩ (shA i.op) true
  have l2 := sufL_len i.b ⟨by omega, by omega⟩ (shB i.op) true
  have l3 := sufL_len i.c ⟨by omega, by omega⟩ (shC i.op != 0) (shC i.op == 114)
  unfold textL
  simp only [List.length_append]
  omega
theorem textL_ne {i : InstV} (h : instOk i = true) : textL i ≠ [] := by
  have hop : 0 ≤ i.op ∧ i.op < 23 := by
    have := opB_of (op := i.op) (a := i.a) (b := i.b) (c := i.c) h
    simpa [opB] using this
  have hall : ∀ k, k < 23 → wordL k ≠ [] := by decide
  have h1 := hall i.op.toNat (by omega)
  intro e
  unfold textL at e
  simp only [List.append_assoc, List.append_eq_nil_iff] at e
  exact h1 e.1
set_option maxHeartbeats 4000000 in
set_option maxRecDepth 100000 in
theorem instBack_000 (op a b c n : Int) (s : ByteArray) (w : World) (hn : I64 n) (hs : s.size ≤ 1048576) (he : PEnv w) (h1 : instOk ⟨op, a, b, c⟩ = false) (h2 : instOk (unpack n) = false) (h3 : (parseF s.data.toList).2 ≠ 0) : Calls Tryd.prog 3 #[.agg #[.int .i64 op, .int .i64 a, .int .i64 b, .int .i64 c], .int .i64 n, .string s] w fun e w' => e = .returned (.bool true) ∧ Below w.heap.size w w' := by
  obtain ⟨w1, hw1⟩ : ∃ w1, w1 = w.alloc (.cells #[.int .i64 op, .int .i64 a, .int .i64 b, .int .i64 c] 23) := ⟨_, rfl⟩
  have hB : Bk w1 w.heap.size 23 #[.int .i64 op, .int .i64 a, .int .i64 b, .int .i64 c] := by rw [hw1]; exact bk_new _ _ _
  have h1w : Below w.heap.size w w1 := by rw [hw1]; exact ext_alloc (Below.refl _ _) _
  obtain ⟨i0, i1, i2, i3⟩ := cells4 hB
  have iL := hB.lt
  have ev : ∀ W, Below w.heap.size w W → PEnv W := fun W hW => he.below hW
  have pi := fun W (hW : Below w.heap.size w W) => ipack_any op a b c W (ev W hW).asc
  have ti := fun W (hW : Below w.heap.size w W) => itext_any op a b c W (ev W hW).asc (ev W hW).ten
  have ci := fun W (hW : Below w.heap.size w W) => icheck_any op a b c W (ev W hW).asc
  have rn := fun W (hW : Below w.heap.size w W) => iread_any n hn W (ev W hW).asc
  have ps := fun W (hW : Below w.heap.size w W) => parse_any s W (ev W hW) hs
  simp only [h1, Bool.false_eq_true, if_false] at pi ti ci
  simp only [h2, Bool.false_eq_true, if_false] at rn
  have px := fun W (hW : Below w.heap.size w W) => ipack_any 0 0 0 0 W (ev W hW).asc
  have ez := run_eql_inst zeroI zeroI
  simp only [InstV.val, zeroI, decide_true] at ez
  obtain ⟨qv, hqv⟩ : ∃ qv : Int, (if instOk ⟨0, 0, 0, 0⟩ then packF ⟨0, 0, 0, 0⟩ else 0) = qv := ⟨_, rfl⟩
  obtain ⟨qe, hqe⟩ : ∃ qe : Int, (if instOk ⟨0, 0, 0, 0⟩ then 0 else 1) = qe := ⟨_, rfl⟩
  simp only [hqv, hqe] at px
  have hpp : parseF s.data.toList = (zeroI, 3) := by
    unfold parseF at h3 ⊢
    split at h3
    · exact absurd rfl h3
    · next hh => rw [if_neg hh]
  simp only [hpp, InstV.val, zeroI] at ps
  have ez' := run_eql_inst zeroI zeroI
  simp only [InstV.val, zeroI, decide_true] at ez'
  have ts := fun W (hW : Below w.heap.size w W) => itext_any 0 0 0 0 W (ev W hW).asc (ev W hW).ten
  obtain ⟨tv, htv⟩ : ∃ tv : ByteArray, (if instOk ⟨0, 0, 0, 0⟩ then (⟨(textL ⟨0, 0, 0, 0⟩).toArray⟩ : ByteArray) else ⟨#[]⟩) = tv := ⟨_, rfl⟩
  obtain ⟨te, hte⟩ : ∃ te : Int, (if instOk ⟨0, 0, 0, 0⟩ then 0 else 1) = te := ⟨_, rfl⟩
  simp only [htv, hte] at ts
  clear hpp h3 htv hte
  have PI := Lib.hid pi
  have TI := Lib.hid ti
  have CI := Lib.hid ci
  have RN := Lib.hid rn
  have PS := Lib.hid ps
  have PX := Lib.hid px
  have TS := Lib.hid ts
  have HW1 := Lib.hid hw1
  have H1W := Lib.hid h1w
  have Riw1 := Lib.hid hB
  clear pi ti ci rn ps px ts hw1 h1w hB ev he h1 h2 hn hs hqv hqe
  go_enter Tryd.func3, Tryd.ntmps3
  go_upto_region 1 with (fail)
  rw [← HW1.out]
  go_upto_region 2 with (go_at_call 9; ((with_reducible refine (PI.out w1 H1W.out).mono ?_); rintro e u2 ⟨rfl, hb2⟩; have HB2 := Lib.hid (ext_trans H1W.out hb2); have Riu2 := Lib.hid (bk_keep hb2 Riw1.out); (try clear i0 i1 i2 i3 iL); obtain ⟨i0, i1, i2, i3⟩ := cells4 Riu2.out; have iL := Riu2.out.lt; clear hb2))
  go_upto_region 3 with (go_at_call 10; ((with_reducible refine (TI.out u2 HB2.out).mono ?_); rintro e u3 ⟨rfl, hb3⟩; have HB3 := Lib.hid (ext_trans HB2.out hb3); have Riu3 := Lib.hid (bk_keep hb3 Riu2.out); (try clear i0 i1 i2 i3 iL); obtain ⟨i0, i1, i2, i3⟩ := cells4 Riu3.out; have iL := Riu3.out.lt; clear hb3))
  go_upto_region 11 with (first
    | (go_at_call 11; ((with_reducible refine (CI.out u3 HB3.out).mono ?_); rintro e u4 ⟨rfl, hb4⟩; have HB4 := Lib.hid (ext_trans HB3.out hb4); have Riu4 := Lib.hid (bk_keep hb4 Riu3.out); (try clear i0 i1 i2 i3 iL); obtain ⟨i0, i1, i2, i3⟩ := cells4 Riu4.out; have iL := Riu4.out.lt; clear hb4))
    | (go_at_call 12; ((with_reducible refine (RN.out u4 HB4.out).mono ?_); rintro e u9 ⟨rfl, hb9⟩; have HB9 := Lib.hid (ext_trans HB4.out hb9); have Riu9 := Lib.hid (bk_keep hb9 Riu4.out); (try clear i0 i1 i2 i3 iL); obtain ⟨i0, i1, i2, i3⟩ := cells4 Riu9.out; have iL := Riu9.out.lt; clear hb9)))
  obtain ⟨gkv, hgkv⟩ : ∃ gkv, u9.heap.size = gkv := ⟨_, rfl⟩
  obtain ⟨u10, hw10⟩ : ∃ u10, u10 = u9.alloc (.cells #[.int .i64 0, .int .i64 0, .int .i64 0, .int .i64 0] 23) := ⟨_, rfl⟩
  rw [← hw10]
  try rw [hgkv]
  have hb10 : Below u9.heap.size u9 u10 := by rw [hw10]; exact ext_alloc (Below.refl _ _) _
  have HB10 := Lib.hid (ext_trans HB9.out hb10)
  have Rkvu10 := Lib.hid (show Bk u10 gkv 23 #[.int .i64 0, .int .i64 0, .int .i64 0, .int .i64 0] by rw [hw10, ← hgkv]; exact bk_new _ _ _)
  obtain ⟨kv0, kv1, kv2, kv3⟩ := cells4 Rkvu10.out
  have kvL := Rkvu10.out.lt
  clear hb10 hw10 hgkv
  go_upto_region 12 with (go_at_call 9; ((with_reducible refine (PX.out u10 HB10.out).mono ?_); rintro e u11 ⟨rfl, hb11⟩; have HB11 := Lib.hid (ext_trans HB10.out hb11); have Rkvu11 := Lib.hid (bk_keep hb11 Rkvu10.out); (try clear kv0 kv1 kv2 kv3 kvL); obtain ⟨kv0, kv1, kv2, kv3⟩ := cells4 Rkvu11.out; have kvL := Rkvu11.out.lt; clear hb11))
  go_upto_region 13 with (go_at_call 13; ((with_reducible refine (PS.out u11 HB11.out).mono ?_); rintro e u12 ⟨rfl, hb12⟩; have HB12 := Lib.hid (ext_trans HB11.out hb12); have Rkvu12 := Lib.hid (bk_keep hb12 Rkvu11.out); (try clear kv0 kv1 kv2 kv3 kvL); obtain ⟨kv0, kv1, kv2, kv3⟩ := cells4 Rkvu12.out; have kvL := Rkvu12.out.lt; clear hb12))
  obtain ⟨gkz, hgkz⟩ : ∃ gkz, u12.heap.size = gkz := ⟨_, rfl⟩
  obtain ⟨u13, hw13⟩ : ∃ u13, u13 = u12.alloc (.cells #[.int .i64 0, .int .i64 0, .int .i64 0, .int .i64 0] 23) := ⟨_, rfl⟩
  rw [← hw13]
  try rw [hgkz]
  have hb13 : Below u12.heap.size u12 u13 := by rw [hw13]; exact ext_alloc (Below.refl _ _) _
  have HB13 := Lib.hid (ext_trans HB12.out hb13)
  have Rkvu13 := Lib.hid (bk_keep hb13 Rkvu12.out)
  (try clear kv0 kv1 kv2 kv3 kvL)
  obtain ⟨kv0, kv1, kv2, kv3⟩ := cells4 Rkvu13.out
  have kvL := Rkvu13.out.lt
  have Rkzu13 := Lib.hid (show Bk u13 gkz 23 #[.int .i64 0, .int .i64 0, .int .i64 0, .int .i64 0] by rw [hw13, ← hgkz]; exact bk_new _ _ _)
  obtain ⟨kz0, kz1, kz2, kz3⟩ := cells4 Rkzu13.out
  have kzL := Rkzu13.out.lt
  clear hb13 hw13 hgkz
  go_upto_region 14 with (go_at_call 10; ((with_reducible refine (TS.out u13 HB13.out).mono ?_); rintro e u14 ⟨rfl, hb14⟩; have HB14 := Lib.hid (ext_trans HB13.out hb14); have Rkvu14 := Lib.hid (bk_keep hb14 Rkvu13.out); (try clear kv0 kv1 kv2 kv3 kvL); obtain ⟨kv0, kv1, kv2, kv3⟩ := cells4 Rkvu14.out; have kvL := Rkvu14.out.lt; have Rkzu14 := Lib.hid (bk_keep hb14 Rkzu13.out); (try clear kz0 kz1 kz2 kz3 kzL); obtain ⟨kz0, kz1, kz2, kz3⟩ := cells4 Rkzu14.out; have kzL := Rkzu14.out.lt; clear hb14))
  go_wp2_with (fail)
  go_ret
  exact ⟨rfl, HB14.out⟩
set_option maxHeartbeats 4000000 in
set_option maxRecDepth 100000 in
theorem instBack_001 (op a b c n : Int) (s : ByteArray) (w : World) (hn : I64 n) (hs : s.size ≤ 1048576) (he : PEnv w) (h1 : instOk ⟨op, a, b, c⟩ = false) (h2 : instOk (unpack n) = false) (h3 : (parseF s.data.toList).2 = 0) : Calls Tryd.prog 3 #[.agg #[.int .i64 op, .int .i64 a, .int .i64 b, .int .i64 c], .int .i64 n, .string s] w fun e w' => e = .returned (.bool true) ∧ Below w.heap.size w w' := by
  obtain ⟨w1, hw1⟩ : ∃ w1, w1 = w.alloc (.cells #[.int .i64 op, .int .i64 a, .int .i64 b, .int .i64 c] 23) := ⟨_, rfl⟩
  have hB : Bk w1 w.heap.size 23 #[.int .i64 op, .int .i64 a, .int .i64 b, .int .i64 c] := by rw [hw1]; exact bk_new _ _ _
  have h1w : Below w.heap.size w w1 := by rw [hw1]; exact ext_alloc (Below.refl _ _) _
  obtain ⟨i0, i1, i2, i3⟩ := cells4 hB
  have iL := hB.lt
  have ev : ∀ W, Below w.heap.size w W → PEnv W := fun W hW => he.below hW
  have pi := fun W (hW : Below w.heap.size w W) => ipack_any op a b c W (ev W hW).asc
  have ti := fun W (hW : Below w.heap.size w W) => itext_any op a b c W (ev W hW).asc (ev W hW).ten
  have ci := fun W (hW : Below w.heap.size w W) => icheck_any op a b c W (ev W hW).asc
  have rn := fun W (hW : Below w.heap.size w W) => iread_any n hn W (ev W hW).asc
  have ps := fun W (hW : Below w.heap.size w W) => parse_any s W (ev W hW) hs
  simp only [h1, Bool.false_eq_true, if_false] at pi ti ci
  simp only [h2, Bool.false_eq_true, if_false] at rn
  have px := fun W (hW : Below w.heap.size w W) => ipack_any 0 0 0 0 W (ev W hW).asc
  have ez := run_eql_inst zeroI zeroI
  simp only [InstV.val, zeroI, decide_true] at ez
  obtain ⟨qv, hqv⟩ : ∃ qv : Int, (if instOk ⟨0, 0, 0, 0⟩ then packF ⟨0, 0, 0, 0⟩ else 0) = qv := ⟨_, rfl⟩
  obtain ⟨qe, hqe⟩ : ∃ qe : Int, (if instOk ⟨0, 0, 0, 0⟩ then 0 else 1) = qe := ⟨_, rfl⟩
  simp only [hqv, hqe] at px
  obtain ⟨p, hp0⟩ : ∃ p, (parseF s.data.toList).1 = p := ⟨_, rfl⟩
  have hpp : parseF s.data.toList = (p, 0) := by rw [← hp0, ← h3]
  obtain ⟨pk, ptx⟩ := parse_ok hpp
  simp only [hpp, InstV.val] at ps
  obtain ⟨p0, p1, p2, p3⟩ := p
  have ts := fun W (hW : Below w.heap.size w W) => itext_any p0 p1 p2 p3 W (ev W hW).asc (ev W hW).ten
  have hst : (⟨(textL ⟨p0, p1, p2, p3⟩).toArray⟩ : ByteArray) = s := by rw [ptx]
  simp only [pk, if_true, hst] at ts
  clear hpp hp0 pk ptx hst h3
  have PI := Lib.hid pi
  have TI := Lib.hid ti
  have CI := Lib.hid ci
  have RN := Lib.hid rn
  have PS := Lib.hid ps
  have PX := Lib.hid px
  have TS := Lib.hid ts
  have HW1 := Lib.hid hw1
  have H1W := Lib.hid h1w
  have Riw1 := Lib.hid hB
  clear pi ti ci rn ps px ts hw1 h1w hB ev he h1 h2 hn hs hqv hqe
  go_enter Tryd.func3, Tryd.ntmps3
  go_upto_region 1 with (fail)
  rw [← HW1.out]
  go_upto_region 2 with (go_at_call 9; ((with_reducible refine (PI.out w1 H1W.out).mono ?_); rintro e u2 ⟨rfl, hb2⟩; have HB2 := Lib.hid (ext_trans H1W.out hb2); have Riu2 := Lib.hid (bk_keep hb2 Riw1.out); (try clear i0 i1 i2 i3 iL); obtain ⟨i0, i1, i2, i3⟩ := cells4 Riu2.out; have iL := Riu2.out.lt; clear hb2))
  go_upto_region 3 with (go_at_call 10; ((with_reducible refine (TI.out u2 HB2.out).mono ?_); rintro e u3 ⟨rfl, hb3⟩; have HB3 := Lib.hid (ext_trans HB2.out hb3); have Riu3 := Lib.hid (bk_keep hb3 Riu2.out); (try clear i0 i1 i2 i3 iL); obtain ⟨i0, i1, i2, i3⟩ := cells4 Riu3.out; have iL := Riu3.out.lt; clear hb3))
  go_upto_region 11 with (first
    | (go_at_call 11; ((with_reducible refine (CI.out u3 HB3.out).mono ?_); rintro e u4 ⟨rfl, hb4⟩; have HB4 := Lib.hid (ext_trans HB3.out hb4); have Riu4 := Lib.hid (bk_keep hb4 Riu3.out); (try clear i0 i1 i2 i3 iL); obtain ⟨i0, i1, i2, i3⟩ := cells4 Riu4.out; have iL := Riu4.out.lt; clear hb4))
    | (go_at_call 12; ((with_reducible refine (RN.out u4 HB4.out).mono ?_); rintro e u9 ⟨rfl, hb9⟩; have HB9 := Lib.hid (ext_trans HB4.out hb9); have Riu9 := Lib.hid (bk_keep hb9 Riu4.out); (try clear i0 i1 i2 i3 iL); obtain ⟨i0, i1, i2, i3⟩ := cells4 Riu9.out; have iL := Riu9.out.lt; clear hb9)))
  obtain ⟨gkv, hgkv⟩ : ∃ gkv, u9.heap.size = gkv := ⟨_, rfl⟩
  obtain ⟨u10, hw10⟩ : ∃ u10, u10 = u9.alloc (.cells #[.int .i64 0, .int .i64 0, .int .i64 0, .int .i64 0] 23) := ⟨_, rfl⟩
  rw [← hw10]
  try rw [hgkv]
  have hb10 : Below u9.heap.size u9 u10 := by rw [hw10]; exact ext_alloc (Below.refl _ _) _
  have HB10 := Lib.hid (ext_trans HB9.out hb10)
  have Rkvu10 := Lib.hid (show Bk u10 gkv 23 #[.int .i64 0, .int .i64 0, .int .i64 0, .int .i64 0] by rw [hw10, ← hgkv]; exact bk_new _ _ _)
  obtain ⟨kv0, kv1, kv2, kv3⟩ := cells4 Rkvu10.out
  have kvL := Rkvu10.out.lt
  clear hb10 hw10 hgkv
  go_upto_region 12 with (go_at_call 9; ((with_reducible refine (PX.out u10 HB10.out).mono ?_); rintro e u11 ⟨rfl, hb11⟩; have HB11 := Lib.hid (ext_trans HB10.out hb11); have Rkvu11 := Lib.hid (bk_keep hb11 Rkvu10.out); (try clear kv0 kv1 kv2 kv3 kvL); obtain ⟨kv0, kv1, kv2, kv3⟩ := cells4 Rkvu11.out; have kvL := Rkvu11.out.lt; clear hb11))
  go_upto_region 13 with (go_at_call 13; ((with_reducible refine (PS.out u11 HB11.out).mono ?_); rintro e u12 ⟨rfl, hb12⟩; have HB12 := Lib.hid (ext_trans HB11.out hb12); have Rkvu12 := Lib.hid (bk_keep hb12 Rkvu11.out); (try clear kv0 kv1 kv2 kv3 kvL); obtain ⟨kv0, kv1, kv2, kv3⟩ := cells4 Rkvu12.out; have kvL := Rkvu12.out.lt; clear hb12))
  obtain ⟨gkz, hgkz⟩ : ∃ gkz, u12.heap.size = gkz := ⟨_, rfl⟩
  obtain ⟨u13, hw13⟩ : ∃ u13, u13 = u12.alloc (.cells #[.int .i64 p0, .int .i64 p1, .int .i64 p2, .int .i64 p3] 23) := ⟨_, rfl⟩
  rw [← hw13]
  try rw [hgkz]
  have hb13 : Below u12.heap.size u12 u13 := by rw [hw13]; exact ext_alloc (Below.refl _ _) _
  have HB13 := Lib.hid (ext_trans HB12.out hb13)
  have Rkvu13 := Lib.hid (bk_keep hb13 Rkvu12.out)
  (try clear kv0 kv1 kv2 kv3 kvL)
  obtain ⟨kv0, kv1, kv2, kv3⟩ := cells4 Rkvu13.out
  have kvL := Rkvu13.out.lt
  have Rkzu13 := Lib.hid (show Bk u13 gkz 23 #[.int .i64 p0, .int .i64 p1, .int .i64 p2, .int .i64 p3] by rw [hw13, ← hgkz]; exact bk_new _ _ _)
  obtain ⟨kz0, kz1, kz2, kz3⟩ := cells4 Rkzu13.out
  have kzL := Rkzu13.out.lt
  clear hb13 hw13 hgkz
  go_upto_region 14 with (go_at_call 10; ((with_reducible refine (TS.out u13 HB13.out).mono ?_); rintro e u14 ⟨rfl, hb14⟩; have HB14 := Lib.hid (ext_trans HB13.out hb14); have Rkvu14 := Lib.hid (bk_keep hb14 Rkvu13.out); (try clear kv0 kv1 kv2 kv3 kvL); obtain ⟨kv0, kv1, kv2, kv3⟩ := cells4 Rkvu14.out; have kvL := Rkvu14.out.lt; have Rkzu14 := Lib.hid (bk_keep hb14 Rkzu13.out); (try clear kz0 kz1 kz2 kz3 kzL); obtain ⟨kz0, kz1, kz2, kz3⟩ := cells4 Rkzu14.out; have kzL := Rkzu14.out.lt; clear hb14))
  go_wp2_with (fail)
  go_ret
  exact ⟨rfl, HB14.out⟩
set_option maxHeartbeats 4000000 in
set_option maxRecDepth 100000 in
theorem instBack_010 (op a b c n : Int) (s : ByteArray) (w : World) (hn : I64 n) (hs : s.size ≤ 1048576) (he : PEnv w) (h1 : instOk ⟨op, a, b, c⟩ = false) (h2 : instOk (unpack n) = true) (h3 : (parseF s.data.toList).2 ≠ 0) : Calls Tryd.prog 3 #[.agg #[.int .i64 op, .int .i64 a, .int .i64 b, .int .i64 c], .int .i64 n, .string s] w fun e w' => e = .returned (.bool true) ∧ Below w.heap.size w w' := by
  obtain ⟨w1, hw1⟩ : ∃ w1, w1 = w.alloc (.cells #[.int .i64 op, .int .i64 a, .int .i64 b, .int .i64 c] 23) := ⟨_, rfl⟩
  have hB : Bk w1 w.heap.size 23 #[.int .i64 op, .int .i64 a, .int .i64 b, .int .i64 c] := by rw [hw1]; exact bk_new _ _ _
  have h1w : Below w.heap.size w w1 := by rw [hw1]; exact ext_alloc (Below.refl _ _) _
  obtain ⟨i0, i1, i2, i3⟩ := cells4 hB
  have iL := hB.lt
  have ev : ∀ W, Below w.heap.size w W → PEnv W := fun W hW => he.below hW
  have pi := fun W (hW : Below w.heap.size w W) => ipack_any op a b c W (ev W hW).asc
  have ti := fun W (hW : Below w.heap.size w W) => itext_any op a b c W (ev W hW).asc (ev W hW).ten
  have ci := fun W (hW : Below w.heap.size w W) => icheck_any op a b c W (ev W hW).asc
  have rn := fun W (hW : Below w.heap.size w W) => iread_any n hn W (ev W hW).asc
  have ps := fun W (hW : Below w.heap.size w W) => parse_any s W (ev W hW) hs
  simp only [h1, Bool.false_eq_true, if_false] at pi ti ci
  have pu := pack_unpack n
  obtain ⟨x, hx⟩ : ∃ x, unpack n = x := ⟨_, rfl⟩
  rw [hx] at pu h2
  obtain ⟨x0, x1, x2, x3⟩ := x
  simp only [hx, h2, if_true] at rn
  have px := fun W (hW : Below w.heap.size w W) => ipack_any x0 x1 x2 x3 W (ev W hW).asc
  simp only [h2, if_true, pu] at px
  have hpp : parseF s.data.toList = (zeroI, 3) := by
    unfold parseF at h3 ⊢
    split at h3
    · exact absurd rfl h3
    · next hh => rw [if_neg hh]
  simp only [hpp, InstV.val, zeroI] at ps
  have ez' := run_eql_inst zeroI zeroI
  simp only [InstV.val, zeroI, decide_true] at ez'
  have ts := fun W (hW : Below w.heap.size w W) => itext_any 0 0 0 0 W (ev W hW).asc (ev W hW).ten
  obtain ⟨tv, htv⟩ : ∃ tv : ByteArray, (if instOk ⟨0, 0, 0, 0⟩ then (⟨(textL ⟨0, 0, 0, 0⟩).toArray⟩ : ByteArray) else ⟨#[]⟩) = tv := ⟨_, rfl⟩
  obtain ⟨te, hte⟩ : ∃ te : Int, (if instOk ⟨0, 0, 0, 0⟩ then 0 else 1) = te := ⟨_, rfl⟩
  simp only [htv, hte] at ts
  clear hpp h3 htv hte
  have PI := Lib.hid pi
  have TI := Lib.hid ti
  have CI := Lib.hid ci
  have RN := Lib.hid rn
  have PS := Lib.hid ps
  have PX := Lib.hid px
  have TS := Lib.hid ts
  have HW1 := Lib.hid hw1
  have H1W := Lib.hid h1w
  have Riw1 := Lib.hid hB
  clear pi ti ci rn ps px ts hw1 h1w hB ev he h1 h2 hn hs pu hx
  go_enter Tryd.func3, Tryd.ntmps3
  go_upto_region 1 with (fail)
  rw [← HW1.out]
  go_upto_region 2 with (go_at_call 9; ((with_reducible refine (PI.out w1 H1W.out).mono ?_); rintro e u2 ⟨rfl, hb2⟩; have HB2 := Lib.hid (ext_trans H1W.out hb2); have Riu2 := Lib.hid (bk_keep hb2 Riw1.out); (try clear i0 i1 i2 i3 iL); obtain ⟨i0, i1, i2, i3⟩ := cells4 Riu2.out; have iL := Riu2.out.lt; clear hb2))
  go_upto_region 3 with (go_at_call 10; ((with_reducible refine (TI.out u2 HB2.out).mono ?_); rintro e u3 ⟨rfl, hb3⟩; have HB3 := Lib.hid (ext_trans HB2.out hb3); have Riu3 := Lib.hid (bk_keep hb3 Riu2.out); (try clear i0 i1 i2 i3 iL); obtain ⟨i0, i1, i2, i3⟩ := cells4 Riu3.out; have iL := Riu3.out.lt; clear hb3))
  go_upto_region 11 with (first
    | (go_at_call 11; ((with_reducible refine (CI.out u3 HB3.out).mono ?_); rintro e u4 ⟨rfl, hb4⟩; have HB4 := Lib.hid (ext_trans HB3.out hb4); have Riu4 := Lib.hid (bk_keep hb4 Riu3.out); (try clear i0 i1 i2 i3 iL); obtain ⟨i0, i1, i2, i3⟩ := cells4 Riu4.out; have iL := Riu4.out.lt; clear hb4))
    | (go_at_call 12; ((with_reducible refine (RN.out u4 HB4.out).mono ?_); rintro e u9 ⟨rfl, hb9⟩; have HB9 := Lib.hid (ext_trans HB4.out hb9); have Riu9 := Lib.hid (bk_keep hb9 Riu4.out); (try clear i0 i1 i2 i3 iL); obtain ⟨i0, i1, i2, i3⟩ := cells4 Riu9.out; have iL := Riu9.out.lt; clear hb9)))
  obtain ⟨gkv, hgkv⟩ : ∃ gkv, u9.heap.size = gkv := ⟨_, rfl⟩
  obtain ⟨u10, hw10⟩ : ∃ u10, u10 = u9.alloc (.cells #[.int .i64 x0, .int .i64 x1, .int .i64 x2, .int .i64 x3] 23) := ⟨_, rfl⟩
  rw [← hw10]
  try rw [hgkv]
  have hb10 : Below u9.heap.size u9 u10 := by rw [hw10]; exact ext_alloc (Below.refl _ _) _
  have HB10 := Lib.hid (ext_trans HB9.out hb10)
  have Rkvu10 := Lib.hid (show Bk u10 gkv 23 #[.int .i64 x0, .int .i64 x1, .int .i64 x2, .int .i64 x3] by rw [hw10, ← hgkv]; exact bk_new _ _ _)
  obtain ⟨kv0, kv1, kv2, kv3⟩ := cells4 Rkvu10.out
  have kvL := Rkvu10.out.lt
  clear hb10 hw10 hgkv
  go_upto_region 12 with (go_at_call 9; ((with_reducible refine (PX.out u10 HB10.out).mono ?_); rintro e u11 ⟨rfl, hb11⟩; have HB11 := Lib.hid (ext_trans HB10.out hb11); have Rkvu11 := Lib.hid (bk_keep hb11 Rkvu10.out); (try clear kv0 kv1 kv2 kv3 kvL); obtain ⟨kv0, kv1, kv2, kv3⟩ := cells4 Rkvu11.out; have kvL := Rkvu11.out.lt; clear hb11))
  go_upto_region 13 with (go_at_call 13; ((with_reducible refine (PS.out u11 HB11.out).mono ?_); rintro e u12 ⟨rfl, hb12⟩; have HB12 := Lib.hid (ext_trans HB11.out hb12); have Rkvu12 := Lib.hid (bk_keep hb12 Rkvu11.out); (try clear kv0 kv1 kv2 kv3 kvL); obtain ⟨kv0, kv1, kv2, kv3⟩ := cells4 Rkvu12.out; have kvL := Rkvu12.out.lt; clear hb12))
  obtain ⟨gkz, hgkz⟩ : ∃ gkz, u12.heap.size = gkz := ⟨_, rfl⟩
  obtain ⟨u13, hw13⟩ : ∃ u13, u13 = u12.alloc (.cells #[.int .i64 0, .int .i64 0, .int .i64 0, .int .i64 0] 23) := ⟨_, rfl⟩
  rw [← hw13]
  try rw [hgkz]
  have hb13 : Below u12.heap.size u12 u13 := by rw [hw13]; exact ext_alloc (Below.refl _ _) _
  have HB13 := Lib.hid (ext_trans HB12.out hb13)
  have Rkvu13 := Lib.hid (bk_keep hb13 Rkvu12.out)
  (try clear kv0 kv1 kv2 kv3 kvL)
  obtain ⟨kv0, kv1, kv2, kv3⟩ := cells4 Rkvu13.out
  have kvL := Rkvu13.out.lt
  have Rkzu13 := Lib.hid (show Bk u13 gkz 23 #[.int .i64 0, .int .i64 0, .int .i64 0, .int .i64 0] by rw [hw13, ← hgkz]; exact bk_new _ _ _)
  obtain ⟨kz0, kz1, kz2, kz3⟩ := cells4 Rkzu13.out
  have kzL := Rkzu13.out.lt
  clear hb13 hw13 hgkz
  go_upto_region 14 with (go_at_call 10; ((with_reducible refine (TS.out u13 HB13.out).mono ?_); rintro e u14 ⟨rfl, hb14⟩; have HB14 := Lib.hid (ext_trans HB13.out hb14); have Rkvu14 := Lib.hid (bk_keep hb14 Rkvu13.out); (try clear kv0 kv1 kv2 kv3 kvL); obtain ⟨kv0, kv1, kv2, kv3⟩ := cells4 Rkvu14.out; have kvL := Rkvu14.out.lt; have Rkzu14 := Lib.hid (bk_keep hb14 Rkzu13.out); (try clear kz0 kz1 kz2 kz3 kzL); obtain ⟨kz0, kz1, kz2, kz3⟩ := cells4 Rkzu14.out; have kzL := Rkzu14.out.lt; clear hb14))
  go_wp2_with (fail)
  go_ret
  exact ⟨rfl, HB14.out⟩
set_option maxHeartbeats 4000000 in
set_option maxRecDepth 100000 in
theorem instBack_011 (op a b c n : Int) (s : ByteArray) (w : World) (hn : I64 n) (hs : s.size ≤ 1048576) (he : PEnv w) (h1 : instOk ⟨op, a, b, c⟩ = false) (h2 : instOk (unpack n) = true) (h3 : (parseF s.data.toList).2 = 0) : Calls Tryd.prog 3 #[.agg #[.int .i64 op, .int .i64 a, .int .i64 b, .int .i64 c], .int .i64 n, .string s] w fun e w' => e = .returned (.bool true) ∧ Below w.heap.size w w' := by
  obtain ⟨w1, hw1⟩ : ∃ w1, w1 = w.alloc (.cells #[.int .i64 op, .int .i64 a, .int .i64 b, .int .i64 c] 23) := ⟨_, rfl⟩
  have hB : Bk w1 w.heap.size 23 #[.int .i64 op, .int .i64 a, .int .i64 b, .int .i64 c] := by rw [hw1]; exact bk_new _ _ _
  have h1w : Below w.heap.size w w1 := by rw [hw1]; exact ext_alloc (Below.refl _ _) _
  obtain ⟨i0, i1, i2, i3⟩ := cells4 hB
  have iL := hB.lt
  have ev : ∀ W, Below w.heap.size w W → PEnv W := fun W hW => he.below hW
  have pi := fun W (hW : Below w.heap.size w W) => ipack_any op a b c W (ev W hW).asc
  have ti := fun W (hW : Below w.heap.size w W) => itext_any op a b c W (ev W hW).asc (ev W hW).ten
  have ci := fun W (hW : Below w.heap.size w W) => icheck_any op a b c W (ev W hW).asc
  have rn := fun W (hW : Below w.heap.size w W) => iread_any n hn W (ev W hW).asc
  have ps := fun W (hW : Below w.heap.size w W) => parse_any s W (ev W hW) hs
  simp only [h1, Bool.false_eq_true, if_false] at pi ti ci
  have pu := pack_unpack n
  obtain ⟨x, hx⟩ : ∃ x, unpack n = x := ⟨_, rfl⟩
  rw [hx] at pu h2
  obtain ⟨x0, x1, x2, x3⟩ := x
  simp only [hx, h2, if_true] at rn
  have px := fun W (hW : Below w.heap.size w W) => ipack_any x0 x1 x2 x3 W (ev W hW).asc
  simp only [h2, if_true, pu] at px
  obtain ⟨p, hp0⟩ : ∃ p, (parseF s.data.toList).1 = p := ⟨_, rfl⟩
  have hpp : parseF s.data.toList = (p, 0) := by rw [← hp0, ← h3]
  obtain ⟨pk, ptx⟩ := parse_ok hpp
  simp only [hpp, InstV.val] at ps
  obtain ⟨p0, p1, p2, p3⟩ := p
  have ts := fun W (hW : Below w.heap.size w W) => itext_any p0 p1 p2 p3 W (ev W hW).asc (ev W hW).ten
  have hst : (⟨(textL ⟨p0, p1, p2, p3⟩).toArray⟩ : ByteArray) = s := by rw [ptx]
  simp only [pk, if_true, hst] at ts
  clear hpp hp0 pk ptx hst h3
  have PI := Lib.hid pi
  have TI := Lib.hid ti
  have CI := Lib.hid ci
  have RN := Lib.hid rn
  have PS := Lib.hid ps
  have PX := Lib.hid px
  have TS := Lib.hid ts
  have HW1 := Lib.hid hw1
  have H1W := Lib.hid h1w
  have Riw1 := Lib.hid hB
  clear pi ti ci rn ps px ts hw1 h1w hB ev he h1 h2 hn hs pu hx
  go_enter Tryd.func3, Tryd.ntmps3
  go_upto_region 1 with (fail)
  rw [← HW1.out]
  go_upto_region 2 with (go_at_call 9; ((with_reducible refine (PI.out w1 H1W.out).mono ?_); rintro e u2 ⟨rfl, hb2⟩; have HB2 := Lib.hid (ext_trans H1W.out hb2); have Riu2 := Lib.hid (bk_keep hb2 Riw1.out); (try clear i0 i1 i2 i3 iL); obtain ⟨i0, i1, i2, i3⟩ := cells4 Riu2.out; have iL := Riu2.out.lt; clear hb2))
  go_upto_region 3 with (go_at_call 10; ((with_reducible refine (TI.out u2 HB2.out).mono ?_); rintro e u3 ⟨rfl, hb3⟩; have HB3 := Lib.hid (ext_trans HB2.out hb3); have Riu3 := Lib.hid (bk_keep hb3 Riu2.out); (try clear i0 i1 i2 i3 iL); obtain ⟨i0, i1, i2, i3⟩ := cells4 Riu3.out; have iL := Riu3.out.lt; clear hb3))
  go_upto_region 11 with (first
    | (go_at_call 11; ((with_reducible refine (CI.out u3 HB3.out).mono ?_); rintro e u4 ⟨rfl, hb4⟩; have HB4 := Lib.hid (ext_trans HB3.out hb4); have Riu4 := Lib.hid (bk_keep hb4 Riu3.out); (try clear i0 i1 i2 i3 iL); obtain ⟨i0, i1, i2, i3⟩ := cells4 Riu4.out; have iL := Riu4.out.lt; clear hb4))
    | (go_at_call 12; ((with_reducible refine (RN.out u4 HB4.out).mono ?_); rintro e u9 ⟨rfl, hb9⟩; have HB9 := Lib.hid (ext_trans HB4.out hb9); have Riu9 := Lib.hid (bk_keep hb9 Riu4.out); (try clear i0 i1 i2 i3 iL); obtain ⟨i0, i1, i2, i3⟩ := cells4 Riu9.out; have iL := Riu9.out.lt; clear hb9)))
  obtain ⟨gkv, hgkv⟩ : ∃ gkv, u9.heap.size = gkv := ⟨_, rfl⟩
  obtain ⟨u10, hw10⟩ : ∃ u10, u10 = u9.alloc (.cells #[.int .i64 x0, .int .i64 x1, .int .i64 x2, .int .i64 x3] 23) := ⟨_, rfl⟩
  rw [← hw10]
  try rw [hgkv]
  have hb10 : Below u9.heap.size u9 u10 := by rw [hw10]; exact ext_alloc (Below.refl _ _) _
  have HB10 := Lib.hid (ext_trans HB9.out hb10)
  have Rkvu10 := Lib.hid (show Bk u10 gkv 23 #[.int .i64 x0, .int .i64 x1, .int .i64 x2, .int .i64 x3] by rw [hw10, ← hgkv]; exact bk_new _ _ _)
  obtain ⟨kv0, kv1, kv2, kv3⟩ := cells4 Rkvu10.out
  have kvL := Rkvu10.out.lt
  clear hb10 hw10 hgkv
  go_upto_region 12 with (go_at_call 9; ((with_reducible refine (PX.out u10 HB10.out).mono ?_); rintro e u11 ⟨rfl, hb11⟩; have HB11 := Lib.hid (ext_trans HB10.out hb11); have Rkvu11 := Lib.hid (bk_keep hb11 Rkvu10.out); (try clear kv0 kv1 kv2 kv3 kvL); obtain ⟨kv0, kv1, kv2, kv3⟩ := cells4 Rkvu11.out; have kvL := Rkvu11.out.lt; clear hb11))
  go_upto_region 13 with (go_at_call 13; ((with_reducible refine (PS.out u11 HB11.out).mono ?_); rintro e u12 ⟨rfl, hb12⟩; have HB12 := Lib.hid (ext_trans HB11.out hb12); have Rkvu12 := Lib.hid (bk_keep hb12 Rkvu11.out); (try clear kv0 kv1 kv2 kv3 kvL); obtain ⟨kv0, kv1, kv2, kv3⟩ := cells4 Rkvu12.out; have kvL := Rkvu12.out.lt; clear hb12))
  obtain ⟨gkz, hgkz⟩ : ∃ gkz, u12.heap.size = gkz := ⟨_, rfl⟩
  obtain ⟨u13, hw13⟩ : ∃ u13, u13 = u12.alloc (.cells #[.int .i64 p0, .int .i64 p1, .int .i64 p2, .int .i64 p3] 23) := ⟨_, rfl⟩
  rw [← hw13]
  try rw [hgkz]
  have hb13 : Below u12.heap.size u12 u13 := by rw [hw13]; exact ext_alloc (Below.refl _ _) _
  have HB13 := Lib.hid (ext_trans HB12.out hb13)
  have Rkvu13 := Lib.hid (bk_keep hb13 Rkvu12.out)
  (try clear kv0 kv1 kv2 kv3 kvL)
  obtain ⟨kv0, kv1, kv2, kv3⟩ := cells4 Rkvu13.out
  have kvL := Rkvu13.out.lt
  have Rkzu13 := Lib.hid (show Bk u13 gkz 23 #[.int .i64 p0, .int .i64 p1, .int .i64 p2, .int .i64 p3] by rw [hw13, ← hgkz]; exact bk_new _ _ _)
  obtain ⟨kz0, kz1, kz2, kz3⟩ := cells4 Rkzu13.out
  have kzL := Rkzu13.out.lt
  clear hb13 hw13 hgkz
  go_upto_region 14 with (go_at_call 10; ((with_reducible refine (TS.out u13 HB13.out).mono ?_); rintro e u14 ⟨rfl, hb14⟩; have HB14 := Lib.hid (ext_trans HB13.out hb14); have Rkvu14 := Lib.hid (bk_keep hb14 Rkvu13.out); (try clear kv0 kv1 kv2 kv3 kvL); obtain ⟨kv0, kv1, kv2, kv3⟩ := cells4 Rkvu14.out; have kvL := Rkvu14.out.lt; have Rkzu14 := Lib.hid (bk_keep hb14 Rkzu13.out); (try clear kz0 kz1 kz2 kz3 kzL); obtain ⟨kz0, kz1, kz2, kz3⟩ := cells4 Rkzu14.out; have kzL := Rkzu14.out.lt; clear hb14))
  go_wp2_with (fail)
  go_ret
  exact ⟨rfl, HB14.out⟩
set_option maxHeartbeats 4000000 in
set_option maxRecDepth 100000 in
theorem instBack_100 (op a b c n : Int) (s : ByteArray) (w : World) (hn : I64 n) (hs : s.size ≤ 1048576) (he : PEnv w) (h1 : instOk ⟨op, a, b, c⟩ = true) (h2 : instOk (unpack n) = false) (h3 : (parseF s.data.toList).2 ≠ 0) : Calls Tryd.prog 3 #[.agg #[.int .i64 op, .int .i64 a, .int .i64 b, .int .i64 c], .int .i64 n, .string s] w fun e w' => e = .returned (.bool true) ∧ Below w.heap.size w w' := by
  obtain ⟨w1, hw1⟩ : ∃ w1, w1 = w.alloc (.cells #[.int .i64 op, .int .i64 a, .int .i64 b, .int .i64 c] 23) := ⟨_, rfl⟩
  have hB : Bk w1 w.heap.size 23 #[.int .i64 op, .int .i64 a, .int .i64 b, .int .i64 c] := by rw [hw1]; exact bk_new _ _ _
  have h1w : Below w.heap.size w w1 := by rw [hw1]; exact ext_alloc (Below.refl _ _) _
  obtain ⟨i0, i1, i2, i3⟩ := cells4 hB
  have iL := hB.lt
  have ev : ∀ W, Below w.heap.size w W → PEnv W := fun W hW => he.below hW
  have pi := fun W (hW : Below w.heap.size w W) => ipack_any op a b c W (ev W hW).asc
  have ti := fun W (hW : Below w.heap.size w W) => itext_any op a b c W (ev W hW).asc (ev W hW).ten
  have ci := fun W (hW : Below w.heap.size w W) => icheck_any op a b c W (ev W hW).asc
  have rn := fun W (hW : Below w.heap.size w W) => iread_any n hn W (ev W hW).asc
  have ps := fun W (hW : Below w.heap.size w W) => parse_any s W (ev W hW) hs
  have hl := textL_len h1
  have hne := textL_ne h1
  have hp := packF_bd h1
  have hu := unpack_pack h1
  have rd := fun W (hW : Below w.heap.size w W) => iread_any (packF ⟨op, a, b, c⟩) ⟨by omega, by omega⟩ W (ev W hW).asc
  obtain ⟨S1, hS1⟩ : ∃ S1 : ByteArray, (⟨(textL ⟨op, a, b, c⟩).toArray⟩ : ByteArray) = S1 := ⟨_, rfl⟩
  have hSd : S1.data.toList = textL ⟨op, a, b, c⟩ := by rw [← hS1]
  have hSz : S1.size ≤ 1048576 := by have h2 : S1.size = S1.data.toList.length := rfl; rw [h2, hSd]; omega
  have pt := fun W (hW : Below w.heap.size w W) => parse_any S1 W (ev W hW) hSz
  rw [hSd, parse_text h1] at pt
  simp only [InstV.val, hu, h1, hS1, if_true] at pi ti ci rd pt
  have fe : S1.toList.isEmpty = false := by
    rw [ByteArray.toList_eq, hSd]
    cases hh : textL ⟨op, a, b, c⟩ with
    | nil => exact absurd hh hne
    | cons x y => rfl
  obtain ⟨P1, hP1⟩ : ∃ P1, packF ⟨op, a, b, c⟩ = P1 := ⟨_, rfl⟩
  rw [hP1] at pi rd
  have ne := run_neq_inst ⟨op, a, b, c⟩
  simp only [InstV.val] at ne
  have RD := Lib.hid rd
  have PT := Lib.hid pt
  clear hl hne hp hu rd pt hSd hSz hS1 hP1
  simp only [h2, Bool.false_eq_true, if_false] at rn
  have px := fun W (hW : Below w.heap.size w W) => ipack_any 0 0 0 0 W (ev W hW).asc
  have ez := run_eql_inst zeroI zeroI
  simp only [InstV.val, zeroI, decide_true] at ez
  obtain ⟨qv, hqv⟩ : ∃ qv : Int, (if instOk ⟨0, 0, 0, 0⟩ then packF ⟨0, 0, 0, 0⟩ else 0) = qv := ⟨_, rfl⟩
  obtain ⟨qe, hqe⟩ : ∃ qe : Int, (if instOk ⟨0, 0, 0, 0⟩ then 0 else 1) = qe := ⟨_, rfl⟩
  simp only [hqv, hqe] at px
  have hpp : parseF s.data.toList = (zeroI, 3) := by
    unfold parseF at h3 ⊢
    split at h3
    · exact absurd rfl h3
    · next hh => rw [if_neg hh]
  simp only [hpp, InstV.val, zeroI] at ps
  have ez' := run_eql_inst zeroI zeroI
  simp only [InstV.val, zeroI, decide_true] at ez'
  have ts := fun W (hW : Below w.heap.size w W) => itext_any 0 0 0 0 W (ev W hW).asc (ev W hW).ten
  obtain ⟨tv, htv⟩ : ∃ tv : ByteArray, (if instOk ⟨0, 0, 0, 0⟩ then (⟨(textL ⟨0, 0, 0, 0⟩).toArray⟩ : ByteArray) else ⟨#[]⟩) = tv := ⟨_, rfl⟩
  obtain ⟨te, hte⟩ : ∃ te : Int, (if instOk ⟨0, 0, 0, 0⟩ then 0 else 1) = te := ⟨_, rfl⟩
  simp only [htv, hte] at ts
  clear hpp h3 htv hte
  have PI := Lib.hid pi
  have TI := Lib.hid ti
  have CI := Lib.hid ci
  have RN := Lib.hid rn
  have PS := Lib.hid ps
  have PX := Lib.hid px
  have TS := Lib.hid ts
  have HW1 := Lib.hid hw1
  have H1W := Lib.hid h1w
  have Riw1 := Lib.hid hB
  clear pi ti ci rn ps px ts hw1 h1w hB ev he h1 h2 hn hs hqv hqe
  go_enter Tryd.func3, Tryd.ntmps3
  go_upto_region 1 with (fail)
  rw [← HW1.out]
  go_upto_region 2 with (go_at_call 9; ((with_reducible refine (PI.out w1 H1W.out).mono ?_); rintro e u2 ⟨rfl, hb2⟩; have HB2 := Lib.hid (ext_trans H1W.out hb2); have Riu2 := Lib.hid (bk_keep hb2 Riw1.out); (try clear i0 i1 i2 i3 iL); obtain ⟨i0, i1, i2, i3⟩ := cells4 Riu2.out; have iL := Riu2.out.lt; clear hb2))
  go_upto_region 3 with (go_at_call 10; ((with_reducible refine (TI.out u2 HB2.out).mono ?_); rintro e u3 ⟨rfl, hb3⟩; have HB3 := Lib.hid (ext_trans HB2.out hb3); have Riu3 := Lib.hid (bk_keep hb3 Riu2.out); (try clear i0 i1 i2 i3 iL); obtain ⟨i0, i1, i2, i3⟩ := cells4 Riu3.out; have iL := Riu3.out.lt; clear hb3))
  go_upto_region 7 with (first
    | (go_at_call 11; ((with_reducible refine (CI.out u3 HB3.out).mono ?_); rintro e u4 ⟨rfl, hb4⟩; have HB4 := Lib.hid (ext_trans HB3.out hb4); have Riu4 := Lib.hid (bk_keep hb4 Riu3.out); (try clear i0 i1 i2 i3 iL); obtain ⟨i0, i1, i2, i3⟩ := cells4 Riu4.out; have iL := Riu4.out.lt; clear hb4))
    | (go_at_call 12; ((with_reducible refine (RD.out u4 HB4.out).mono ?_); rintro e u5 ⟨rfl, hb5⟩; have HB5 := Lib.hid (ext_trans HB4.out hb5); have Riu5 := Lib.hid (bk_keep hb5 Riu4.out); (try clear i0 i1 i2 i3 iL); obtain ⟨i0, i1, i2, i3⟩ := cells4 Riu5.out; have iL := Riu5.out.lt; clear hb5)))
  obtain ⟨gkx, hgkx⟩ : ∃ gkx, u5.heap.size = gkx := ⟨_, rfl⟩
  obtain ⟨u6, hw6⟩ : ∃ u6, u6 = u5.alloc (.cells #[.int .i64 op, .int .i64 a, .int .i64 b, .int .i64 c] 23) := ⟨_, rfl⟩
  rw [← hw6]
  try rw [hgkx]
  have hb6 : Below u5.heap.size u5 u6 := by rw [hw6]; exact ext_alloc (Below.refl _ _) _
  have HB6 := Lib.hid (ext_trans HB5.out hb6)
  have Riu6 := Lib.hid (bk_keep hb6 Riu5.out)
  (try clear i0 i1 i2 i3 iL)
  obtain ⟨i0, i1, i2, i3⟩ := cells4 Riu6.out
  have iL := Riu6.out.lt
  have Rkxu6 := Lib.hid (show Bk u6 gkx 23 #[.int .i64 op, .int .i64 a, .int .i64 b, .int .i64 c] by rw [hw6, ← hgkx]; exact bk_new _ _ _)
  obtain ⟨kx0, kx1, kx2, kx3⟩ := cells4 Rkxu6.out
  have kxL := Rkxu6.out.lt
  clear hb6 hw6 hgkx
  go_upto_region 8 with (go_at_call 13; ((with_reducible refine (PT.out u6 HB6.out).mono ?_); rintro e u7 ⟨rfl, hb7⟩; have HB7 := Lib.hid (ext_trans HB6.out hb7); have Riu7 := Lib.hid (bk_keep hb7 Riu6.out); (try clear i0 i1 i2 i3 iL); obtain ⟨i0, i1, i2, i3⟩ := cells4 Riu7.out; have iL := Riu7.out.lt; have Rkxu7 := Lib.hid (bk_keep hb7 Rkxu6.out); (try clear kx0 kx1 kx2 kx3 kxL); obtain ⟨kx0, kx1, kx2, kx3⟩ := cells4 Rkxu7.out; have kxL := Rkxu7.out.lt; clear hb7))
  obtain ⟨gky, hgky⟩ : ∃ gky, u7.heap.size = gky := ⟨_, rfl⟩
  obtain ⟨u8, hw8⟩ : ∃ u8, u8 = u7.alloc (.cells #[.int .i64 op, .int .i64 a, .int .i64 b, .int .i64 c] 23) := ⟨_, rfl⟩
  rw [← hw8]
  try rw [hgky]
  have hb8 : Below u7.heap.size u7 u8 := by rw [hw8]; exact ext_alloc (Below.refl _ _) _
  have HB8 := Lib.hid (ext_trans HB7.out hb8)
  have Riu8 := Lib.hid (bk_keep hb8 Riu7.out)
  (try clear i0 i1 i2 i3 iL)
  obtain ⟨i0, i1, i2, i3⟩ := cells4 Riu8.out
  have iL := Riu8.out.lt
  have Rkxu8 := Lib.hid (bk_keep hb8 Rkxu7.out)
  (try clear kx0 kx1 kx2 kx3 kxL)
  obtain ⟨kx0, kx1, kx2, kx3⟩ := cells4 Rkxu8.out
  have kxL := Rkxu8.out.lt
  have Rkyu8 := Lib.hid (show Bk u8 gky 23 #[.int .i64 op, .int .i64 a, .int .i64 b, .int .i64 c] by rw [hw8, ← hgky]; exact bk_new _ _ _)
  obtain ⟨ky0, ky1, ky2, ky3⟩ := cells4 Rkyu8.out
  have kyL := Rkyu8.out.lt
  clear hb8 hw8 hgky
  go_upto_region 11 with (go_at_call 12; ((with_reducible refine (RN.out u8 HB8.out).mono ?_); rintro e u9 ⟨rfl, hb9⟩; have HB9 := Lib.hid (ext_trans HB8.out hb9); have Riu9 := Lib.hid (bk_keep hb9 Riu8.out); (try clear i0 i1 i2 i3 iL); obtain ⟨i0, i1, i2, i3⟩ := cells4 Riu9.out; have iL := Riu9.out.lt; have Rkxu9 := Lib.hid (bk_keep hb9 Rkxu8.out); (try clear kx0 kx1 kx2 kx3 kxL); obtain ⟨kx0, kx1, kx2, kx3⟩ := cells4 Rkxu9.out; have kxL := Rkxu9.out.lt; have Rkyu9 := Lib.hid (bk_keep hb9 Rkyu8.out); (try clear ky0 ky1 ky2 ky3 kyL); obtain ⟨ky0, ky1, ky2, ky3⟩ := cells4 Rkyu9.out; have kyL := Rkyu9.out.lt; clear hb9))
  obtain ⟨gkv, hgkv⟩ : ∃ gkv, u9.heap.size = gkv := ⟨_, rfl⟩
  obtain ⟨u10, hw10⟩ : ∃ u10, u10 = u9.alloc (.cells #[.int .i64 0, .int .i64 0, .int .i64 0, .int .i64 0] 23) := ⟨_, rfl⟩
  rw [← hw10]
  try rw [hgkv]
  have hb10 : Below u9.heap.size u9 u10 := by rw [hw10]; exact ext_alloc (Below.refl _ _) _
  have HB10 := Lib.hid (ext_trans HB9.out hb10)
  have Rkvu10 := Lib.hid (show Bk u10 gkv 23 #[.int .i64 0, .int .i64 0, .int .i64 0, .int .i64 0] by rw [hw10, ← hgkv]; exact bk_new _ _ _)
  obtain ⟨kv0, kv1, kv2, kv3⟩ := cells4 Rkvu10.out
  have kvL := Rkvu10.out.lt
  clear hb10 hw10 hgkv
  go_upto_region 12 with (go_at_call 9; ((with_reducible refine (PX.out u10 HB10.out).mono ?_); rintro e u11 ⟨rfl, hb11⟩; have HB11 := Lib.hid (ext_trans HB10.out hb11); have Rkvu11 := Lib.hid (bk_keep hb11 Rkvu10.out); (try clear kv0 kv1 kv2 kv3 kvL); obtain ⟨kv0, kv1, kv2, kv3⟩ := cells4 Rkvu11.out; have kvL := Rkvu11.out.lt; clear hb11))
  go_upto_region 13 with (go_at_call 13; ((with_reducible refine (PS.out u11 HB11.out).mono ?_); rintro e u12 ⟨rfl, hb12⟩; have HB12 := Lib.hid (ext_trans HB11.out hb12); have Rkvu12 := Lib.hid (bk_keep hb12 Rkvu11.out); (try clear kv0 kv1 kv2 kv3 kvL); obtain ⟨kv0, kv1, kv2, kv3⟩ := cells4 Rkvu12.out; have kvL := Rkvu12.out.lt; clear hb12))
  obtain ⟨gkz, hgkz⟩ : ∃ gkz, u12.heap.size = gkz := ⟨_, rfl⟩
  obtain ⟨u13, hw13⟩ : ∃ u13, u13 = u12.alloc (.cells #[.int .i64 0, .int .i64 0, .int .i64 0, .int .i64 0] 23) := ⟨_, rfl⟩
  rw [← hw13]
  try rw [hgkz]
  have hb13 : Below u12.heap.size u12 u13 := by rw [hw13]; exact ext_alloc (Below.refl _ _) _
  have HB13 := Lib.hid (ext_trans HB12.out hb13)
  have Rkvu13 := Lib.hid (bk_keep hb13 Rkvu12.out)
  (try clear kv0 kv1 kv2 kv3 kvL)
  obtain ⟨kv0, kv1, kv2, kv3⟩ := cells4 Rkvu13.out
  have kvL := Rkvu13.out.lt
  have Rkzu13 := Lib.hid (show Bk u13 gkz 23 #[.int .i64 0, .int .i64 0, .int .i64 0, .int .i64 0] by rw [hw13, ← hgkz]; exact bk_new _ _ _)
  obtain ⟨kz0, kz1, kz2, kz3⟩ := cells4 Rkzu13.out
  have kzL := Rkzu13.out.lt
  clear hb13 hw13 hgkz
  go_upto_region 14 with (go_at_call 10; ((with_reducible refine (TS.out u13 HB13.out).mono ?_); rintro e u14 ⟨rfl, hb14⟩; have HB14 := Lib.hid (ext_trans HB13.out hb14); have Rkvu14 := Lib.hid (bk_keep hb14 Rkvu13.out); (try clear kv0 kv1 kv2 kv3 kvL); obtain ⟨kv0, kv1, kv2, kv3⟩ := cells4 Rkvu14.out; have kvL := Rkvu14.out.lt; have Rkzu14 := Lib.hid (bk_keep hb14 Rkzu13.out); (try clear kz0 kz1 kz2 kz3 kzL); obtain ⟨kz0, kz1, kz2, kz3⟩ := cells4 Rkzu14.out; have kzL := Rkzu14.out.lt; clear hb14))
  go_wp2_with (fail)
  go_ret
  exact ⟨rfl, HB14.out⟩
set_option maxHeartbeats 4000000 in
set_option maxRecDepth 100000 in
theorem instBack_101 (op a b c n : Int) (s : ByteArray) (w : World) (hn : I64 n) (hs : s.size ≤ 1048576) (he : PEnv w) (h1 : instOk ⟨op, a, b, c⟩ = true) (h2 : instOk (unpack n) = false) (h3 : (parseF s.data.toList).2 = 0) : Calls Tryd.prog 3 #[.agg #[.int .i64 op, .int .i64 a, .int .i64 b, .int .i64 c], .int .i64 n, .string s] w fun e w' => e = .returned (.bool true) ∧ Below w.heap.size w w' := by
  obtain ⟨w1, hw1⟩ : ∃ w1, w1 = w.alloc (.cells #[.int .i64 op, .int .i64 a, .int .i64 b, .int .i64 c] 23) := ⟨_, rfl⟩
  have hB : Bk w1 w.heap.size 23 #[.int .i64 op, .int .i64 a, .int .i64 b, .int .i64 c] := by rw [hw1]; exact bk_new _ _ _
  have h1w : Below w.heap.size w w1 := by rw [hw1]; exact ext_alloc (Below.refl _ _) _
  obtain ⟨i0, i1, i2, i3⟩ := cells4 hB
  have iL := hB.lt
  have ev : ∀ W, Below w.heap.size w W → PEnv W := fun W hW => he.below hW
  have pi := fun W (hW : Below w.heap.size w W) => ipack_any op a b c W (ev W hW).asc
  have ti := fun W (hW : Below w.heap.size w W) => itext_any op a b c W (ev W hW).asc (ev W hW).ten
  have ci := fun W (hW : Below w.heap.size w W) => icheck_any op a b c W (ev W hW).asc
  have rn := fun W (hW : Below w.heap.size w W) => iread_any n hn W (ev W hW).asc
  have ps := fun W (hW : Below w.heap.size w W) => parse_any s W (ev W hW) hs
  have hl := textL_len h1
  have hne := textL_ne h1
  have hp := packF_bd h1
  have hu := unpack_pack h1
  have rd := fun W (hW : Below w.heap.size w W) => iread_any (packF ⟨op, a, b, c⟩) ⟨by omega, by omega⟩ W (ev W hW).asc
  obtain ⟨S1, hS1⟩ : ∃ S1 : ByteArray, (⟨(textL ⟨op, a, b, c⟩).toArray⟩ : ByteArray) = S1 := ⟨_, rfl⟩
  have hSd : S1.data.toList = textL ⟨op, a, b, c⟩ := by rw [← hS1]
  have hSz : S1.size ≤ 1048576 := by have h2 : S1.size = S1.data.toList.length := rfl; rw [h2, hSd]; omega
  have pt := fun W (hW : Below w.heap.size w W) => parse_any S1 W (ev W hW) hSz
  rw [hSd, parse_text h1] at pt
  simp only [InstV.val, hu, h1, hS1, if_true] at pi ti ci rd pt
  have fe : S1.toList.isEmpty = false := by
    rw [ByteArray.toList_eq, hSd]
    cases hh : textL ⟨op, a, b, c⟩ with
    | nil => exact absurd hh hne
    | cons x y => rfl
  obtain ⟨P1, hP1⟩ : ∃ P1, packF ⟨op, a, b, c⟩ = P1 := ⟨_, rfl⟩
  rw [hP1] at pi rd
  have ne := run_neq_inst ⟨op, a, b, c⟩
  simp only [InstV.val] at ne
  have RD := Lib.hid rd
  have PT := Lib.hid pt
  clear hl hne hp hu rd pt hSd hSz hS1 hP1
  simp only [h2, Bool.false_eq_true, if_false] at rn
  have px := fun W (hW : Below w.heap.size w W) => ipack_any 0 0 0 0 W (ev W hW).asc
  have ez := run_eql_inst zeroI zeroI
  simp only [InstV.val, zeroI, decide_true] at ez
  obtain ⟨qv, hqv⟩ : ∃ qv : Int, (if instOk ⟨0, 0, 0, 0⟩ then packF ⟨0, 0, 0, 0⟩ else 0) = qv := ⟨_, rfl⟩
  obtain ⟨qe, hqe⟩ : ∃ qe : Int, (if instOk ⟨0, 0, 0, 0⟩ then 0 else 1) = qe := ⟨_, rfl⟩
  simp only [hqv, hqe] at px
  obtain ⟨p, hp0⟩ : ∃ p, (parseF s.data.toList).1 = p := ⟨_, rfl⟩
  have hpp : parseF s.data.toList = (p, 0) := by rw [← hp0, ← h3]
  obtain ⟨pk, ptx⟩ := parse_ok hpp
  simp only [hpp, InstV.val] at ps
  obtain ⟨p0, p1, p2, p3⟩ := p
  have ts := fun W (hW : Below w.heap.size w W) => itext_any p0 p1 p2 p3 W (ev W hW).asc (ev W hW).ten
  have hst : (⟨(textL ⟨p0, p1, p2, p3⟩).toArray⟩ : ByteArray) = s := by rw [ptx]
  simp only [pk, if_true, hst] at ts
  clear hpp hp0 pk ptx hst h3
  have PI := Lib.hid pi
  have TI := Lib.hid ti
  have CI := Lib.hid ci
  have RN := Lib.hid rn
  have PS := Lib.hid ps
  have PX := Lib.hid px
  have TS := Lib.hid ts
  have HW1 := Lib.hid hw1
  have H1W := Lib.hid h1w
  have Riw1 := Lib.hid hB
  clear pi ti ci rn ps px ts hw1 h1w hB ev he h1 h2 hn hs hqv hqe
  go_enter Tryd.func3, Tryd.ntmps3
  go_upto_region 1 with (fail)
  rw [← HW1.out]
  go_upto_region 2 with (go_at_call 9; ((with_reducible refine (PI.out w1 H1W.out).mono ?_); rintro e u2 ⟨rfl, hb2⟩; have HB2 := Lib.hid (ext_trans H1W.out hb2); have Riu2 := Lib.hid (bk_keep hb2 Riw1.out); (try clear i0 i1 i2 i3 iL); obtain ⟨i0, i1, i2, i3⟩ := cells4 Riu2.out; have iL := Riu2.out.lt; clear hb2))
  go_upto_region 3 with (go_at_call 10; ((with_reducible refine (TI.out u2 HB2.out).mono ?_); rintro e u3 ⟨rfl, hb3⟩; have HB3 := Lib.hid (ext_trans HB2.out hb3); have Riu3 := Lib.hid (bk_keep hb3 Riu2.out); (try clear i0 i1 i2 i3 iL); obtain ⟨i0, i1, i2, i3⟩ := cells4 Riu3.out; have iL := Riu3.out.lt; clear hb3))
  go_upto_region 7 with (first
    | (go_at_call 11; ((with_reducible refine (CI.out u3 HB3.out).mono ?_); rintro e u4 ⟨rfl, hb4⟩; have HB4 := Lib.hid (ext_trans HB3.out hb4); have Riu4 := Lib.hid (bk_keep hb4 Riu3.out); (try clear i0 i1 i2 i3 iL); obtain ⟨i0, i1, i2, i3⟩ := cells4 Riu4.out; have iL := Riu4.out.lt; clear hb4))
    | (go_at_call 12; ((with_reducible refine (RD.out u4 HB4.out).mono ?_); rintro e u5 ⟨rfl, hb5⟩; have HB5 := Lib.hid (ext_trans HB4.out hb5); have Riu5 := Lib.hid (bk_keep hb5 Riu4.out); (try clear i0 i1 i2 i3 iL); obtain ⟨i0, i1, i2, i3⟩ := cells4 Riu5.out; have iL := Riu5.out.lt; clear hb5)))
  obtain ⟨gkx, hgkx⟩ : ∃ gkx, u5.heap.size = gkx := ⟨_, rfl⟩
  obtain ⟨u6, hw6⟩ : ∃ u6, u6 = u5.alloc (.cells #[.int .i64 op, .int .i64 a, .int .i64 b, .int .i64 c] 23) := ⟨_, rfl⟩
  rw [← hw6]
  try rw [hgkx]
  have hb6 : Below u5.heap.size u5 u6 := by rw [hw6]; exact ext_alloc (Below.refl _ _) _
  have HB6 := Lib.hid (ext_trans HB5.out hb6)
  have Riu6 := Lib.hid (bk_keep hb6 Riu5.out)
  (try clear i0 i1 i2 i3 iL)
  obtain ⟨i0, i1, i2, i3⟩ := cells4 Riu6.out
  have iL := Riu6.out.lt
  have Rkxu6 := Lib.hid (show Bk u6 gkx 23 #[.int .i64 op, .int .i64 a, .int .i64 b, .int .i64 c] by rw [hw6, ← hgkx]; exact bk_new _ _ _)
  obtain ⟨kx0, kx1, kx2, kx3⟩ := cells4 Rkxu6.out
  have kxL := Rkxu6.out.lt
  clear hb6 hw6 hgkx
  go_upto_region 8 with (go_at_call 13; ((with_reducible refine (PT.out u6 HB6.out).mono ?_); rintro e u7 ⟨rfl, hb7⟩; have HB7 := Lib.hid (ext_trans HB6.out hb7); have Riu7 := Lib.hid (bk_keep hb7 Riu6.out); (try clear i0 i1 i2 i3 iL); obtain ⟨i0, i1, i2, i3⟩ := cells4 Riu7.out; have iL := Riu7.out.lt; have Rkxu7 := Lib.hid (bk_keep hb7 Rkxu6.out); (try clear kx0 kx1 kx2 kx3 kxL); obtain ⟨kx0, kx1, kx2, kx3⟩ := cells4 Rkxu7.out; have kxL := Rkxu7.out.lt; clear hb7))
  obtain ⟨gky, hgky⟩ : ∃ gky, u7.heap.size = gky := ⟨_, rfl⟩
  obtain ⟨u8, hw8⟩ : ∃ u8, u8 = u7.alloc (.cells #[.int .i64 op, .int .i64 a, .int .i64 b, .int .i64 c] 23) := ⟨_, rfl⟩
  rw [← hw8]
  try rw [hgky]
  have hb8 : Below u7.heap.size u7 u8 := by rw [hw8]; exact ext_alloc (Below.refl _ _) _
  have HB8 := Lib.hid (ext_trans HB7.out hb8)
  have Riu8 := Lib.hid (bk_keep hb8 Riu7.out)
  (try clear i0 i1 i2 i3 iL)
  obtain ⟨i0, i1, i2, i3⟩ := cells4 Riu8.out
  have iL := Riu8.out.lt
  have Rkxu8 := Lib.hid (bk_keep hb8 Rkxu7.out)
  (try clear kx0 kx1 kx2 kx3 kxL)
  obtain ⟨kx0, kx1, kx2, kx3⟩ := cells4 Rkxu8.out
  have kxL := Rkxu8.out.lt
  have Rkyu8 := Lib.hid (show Bk u8 gky 23 #[.int .i64 op, .int .i64 a, .int .i64 b, .int .i64 c] by rw [hw8, ← hgky]; exact bk_new _ _ _)
  obtain ⟨ky0, ky1, ky2, ky3⟩ := cells4 Rkyu8.out
  have kyL := Rkyu8.out.lt
  clear hb8 hw8 hgky
  go_upto_region 11 with (go_at_call 12; ((with_reducible refine (RN.out u8 HB8.out).mono ?_); rintro e u9 ⟨rfl, hb9⟩; have HB9 := Lib.hid (ext_trans HB8.out hb9); have Riu9 := Lib.hid (bk_keep hb9 Riu8.out); (try clear i0 i1 i2 i3 iL); obtain ⟨i0, i1, i2, i3⟩ := cells4 Riu9.out; have iL := Riu9.out.lt; have Rkxu9 := Lib.hid (bk_keep hb9 Rkxu8.out); (try clear kx0 kx1 kx2 kx3 kxL); obtain ⟨kx0, kx1, kx2, kx3⟩ := cells4 Rkxu9.out; have kxL := Rkxu9.out.lt; have Rkyu9 := Lib.hid (bk_keep hb9 Rkyu8.out); (try clear ky0 ky1 ky2 ky3 kyL); obtain ⟨ky0, ky1, ky2, ky3⟩ := cells4 Rkyu9.out; have kyL := Rkyu9.out.lt; clear hb9))
  obtain ⟨gkv, hgkv⟩ : ∃ gkv, u9.heap.size = gkv := ⟨_, rfl⟩
  obtain ⟨u10, hw10⟩ : ∃ u10, u10 = u9.alloc (.cells #[.int .i64 0, .int .i64 0, .int .i64 0, .int .i64 0] 23) := ⟨_, rfl⟩
  rw [← hw10]
  try rw [hgkv]
  have hb10 : Below u9.heap.size u9 u10 := by rw [hw10]; exact ext_alloc (Below.refl _ _) _
  have HB10 := Lib.hid (ext_trans HB9.out hb10)
  have Rkvu10 := Lib.hid (show Bk u10 gkv 23 #[.int .i64 0, .int .i64 0, .int .i64 0, .int .i64 0] by rw [hw10, ← hgkv]; exact bk_new _ _ _)
  obtain ⟨kv0, kv1, kv2, kv3⟩ := cells4 Rkvu10.out
  have kvL := Rkvu10.out.lt
  clear hb10 hw10 hgkv
  go_upto_region 12 with (go_at_call 9; ((with_reducible refine (PX.out u10 HB10.out).mono ?_); rintro e u11 ⟨rfl, hb11⟩; have HB11 := Lib.hid (ext_trans HB10.out hb11); have Rkvu11 := Lib.hid (bk_keep hb11 Rkvu10.out); (try clear kv0 kv1 kv2 kv3 kvL); obtain ⟨kv0, kv1, kv2, kv3⟩ := cells4 Rkvu11.out; have kvL := Rkvu11.out.lt; clear hb11))
  go_upto_region 13 with (go_at_call 13; ((with_reducible refine (PS.out u11 HB11.out).mono ?_); rintro e u12 ⟨rfl, hb12⟩; have HB12 := Lib.hid (ext_trans HB11.out hb12); have Rkvu12 := Lib.hid (bk_keep hb12 Rkvu11.out); (try clear kv0 kv1 kv2 kv3 kvL); obtain ⟨kv0, kv1, kv2, kv3⟩ := cells4 Rkvu12.out; have kvL := Rkvu12.out.lt; clear hb12))
  obtain ⟨gkz, hgkz⟩ : ∃ gkz, u12.heap.size = gkz := ⟨_, rfl⟩
  obtain ⟨u13, hw13⟩ : ∃ u13, u13 = u12.alloc (.cells #[.int .i64 p0, .int .i64 p1, .int .i64 p2, .int .i64 p3] 23) := ⟨_, rfl⟩
  rw [← hw13]
  try rw [hgkz]
  have hb13 : Below u12.heap.size u12 u13 := by rw [hw13]; exact ext_alloc (Below.refl _ _) _
  have HB13 := Lib.hid (ext_trans HB12.out hb13)
  have Rkvu13 := Lib.hid (bk_keep hb13 Rkvu12.out)
  (try clear kv0 kv1 kv2 kv3 kvL)
  obtain ⟨kv0, kv1, kv2, kv3⟩ := cells4 Rkvu13.out
  have kvL := Rkvu13.out.lt
  have Rkzu13 := Lib.hid (show Bk u13 gkz 23 #[.int .i64 p0, .int .i64 p1, .int .i64 p2, .int .i64 p3] by rw [hw13, ← hgkz]; exact bk_new _ _ _)
  obtain ⟨kz0, kz1, kz2, kz3⟩ := cells4 Rkzu13.out
  have kzL := Rkzu13.out.lt
  clear hb13 hw13 hgkz
  go_upto_region 14 with (go_at_call 10; ((with_reducible refine (TS.out u13 HB13.out).mono ?_); rintro e u14 ⟨rfl, hb14⟩; have HB14 := Lib.hid (ext_trans HB13.out hb14); have Rkvu14 := Lib.hid (bk_keep hb14 Rkvu13.out); (try clear kv0 kv1 kv2 kv3 kvL); obtain ⟨kv0, kv1, kv2, kv3⟩ := cells4 Rkvu14.out; have kvL := Rkvu14.out.lt; have Rkzu14 := Lib.hid (bk_keep hb14 Rkzu13.out); (try clear kz0 kz1 kz2 kz3 kzL); obtain ⟨kz0, kz1, kz2, kz3⟩ := cells4 Rkzu14.out; have kzL := Rkzu14.out.lt; clear hb14))
  go_wp2_with (fail)
  go_ret
  exact ⟨rfl, HB14.out⟩
set_option maxHeartbeats 4000000 in
set_option maxRecDepth 100000 in
theorem instBack_110 (op a b c n : Int) (s : ByteArray) (w : World) (hn : I64 n) (hs : s.size ≤ 1048576) (he : PEnv w) (h1 : instOk ⟨op, a, b, c⟩ = true) (h2 : instOk (unpack n) = true) (h3 : (parseF s.data.toList).2 ≠ 0) : Calls Tryd.prog 3 #[.agg #[.int .i64 op, .int .i64 a, .int .i64 b, .int .i64 c], .int .i64 n, .string s] w fun e w' => e = .returned (.bool true) ∧ Below w.heap.size w w' := by
  obtain ⟨w1, hw1⟩ : ∃ w1, w1 = w.alloc (.cells #[.int .i64 op, .int .i64 a, .int .i64 b, .int .i64 c] 23) := ⟨_, rfl⟩
  have hB : Bk w1 w.heap.size 23 #[.int .i64 op, .int .i64 a, .int .i64 b, .int .i64 c] := by rw [hw1]; exact bk_new _ _ _
  have h1w : Below w.heap.size w w1 := by rw [hw1]; exact ext_alloc (Below.refl _ _) _
  obtain ⟨i0, i1, i2, i3⟩ := cells4 hB
  have iL := hB.lt
  have ev : ∀ W, Below w.heap.size w W → PEnv W := fun W hW => he.below hW
  have pi := fun W (hW : Below w.heap.size w W) => ipack_any op a b c W (ev W hW).asc
  have ti := fun W (hW : Below w.heap.size w W) => itext_any op a b c W (ev W hW).asc (ev W hW).ten
  have ci := fun W (hW : Below w.heap.size w W) => icheck_any op a b c W (ev W hW).asc
  have rn := fun W (hW : Below w.heap.size w W) => iread_any n hn W (ev W hW).asc
  have ps := fun W (hW : Below w.heap.size w W) => parse_any s W (ev W hW) hs
  have hl := textL_len h1
  have hne := textL_ne h1
  have hp := packF_bd h1
  have hu := unpack_pack h1
  have rd := fun W (hW : Below w.heap.size w W) => iread_any (packF ⟨op, a, b, c⟩) ⟨by omega, by omega⟩ W (ev W hW).asc
  obtain ⟨S1, hS1⟩ : ∃ S1 : ByteArray, (⟨(textL ⟨op, a, b, c⟩).toArray⟩ : ByteArray) = S1 := ⟨_, rfl⟩
  have hSd : S1.data.toList = textL ⟨op, a, b, c⟩ := by rw [← hS1]
  have hSz : S1.size ≤ 1048576 := by have h2 : S1.size = S1.data.toList.length := rfl; rw [h2, hSd]; omega
  have pt := fun W (hW : Below w.heap.size w W) => parse_any S1 W (ev W hW) hSz
  rw [hSd, parse_text h1] at pt
  simp only [InstV.val, hu, h1, hS1, if_true] at pi ti ci rd pt
  have fe : S1.toList.isEmpty = false := by
    rw [ByteArray.toList_eq, hSd]
    cases hh : textL ⟨op, a, b, c⟩ with
    | nil => exact absurd hh hne
    | cons x y => rfl
  obtain ⟨P1, hP1⟩ : ∃ P1, packF ⟨op, a, b, c⟩ = P1 := ⟨_, rfl⟩
  rw [hP1] at pi rd
  have ne := run_neq_inst ⟨op, a, b, c⟩
  simp only [InstV.val] at ne
  have RD := Lib.hid rd
  have PT := Lib.hid pt
  clear hl hne hp hu rd pt hSd hSz hS1 hP1
  have pu := pack_unpack n
  obtain ⟨x, hx⟩ : ∃ x, unpack n = x := ⟨_, rfl⟩
  rw [hx] at pu h2
  obtain ⟨x0, x1, x2, x3⟩ := x
  simp only [hx, h2, if_true] at rn
  have px := fun W (hW : Below w.heap.size w W) => ipack_any x0 x1 x2 x3 W (ev W hW).asc
  simp only [h2, if_true, pu] at px
  have hpp : parseF s.data.toList = (zeroI, 3) := by
    unfold parseF at h3 ⊢
    split at h3
    · exact absurd rfl h3
    · next hh => rw [if_neg hh]
  simp only [hpp, InstV.val, zeroI] at ps
  have ez' := run_eql_inst zeroI zeroI
  simp only [InstV.val, zeroI, decide_true] at ez'
  have ts := fun W (hW : Below w.heap.size w W) => itext_any 0 0 0 0 W (ev W hW).asc (ev W hW).ten
  obtain ⟨tv, htv⟩ : ∃ tv : ByteArray, (if instOk ⟨0, 0, 0, 0⟩ then (⟨(textL ⟨0, 0, 0, 0⟩).toArray⟩ : ByteArray) else ⟨#[]⟩) = tv := ⟨_, rfl⟩
  obtain ⟨te, hte⟩ : ∃ te : Int, (if instOk ⟨0, 0, 0, 0⟩ then 0 else 1) = te := ⟨_, rfl⟩
  simp only [htv, hte] at ts
  clear hpp h3 htv hte
  have PI := Lib.hid pi
  have TI := Lib.hid ti
  have CI := Lib.hid ci
  have RN := Lib.hid rn
  have PS := Lib.hid ps
  have PX := Lib.hid px
  have TS := Lib.hid ts
  have HW1 := Lib.hid hw1
  have H1W := Lib.hid h1w
  have Riw1 := Lib.hid hB
  clear pi ti ci rn ps px ts hw1 h1w hB ev he h1 h2 hn hs pu hx
  go_enter Tryd.func3, Tryd.ntmps3
  go_upto_region 1 with (fail)
  rw [← HW1.out]
  go_upto_region 2 with (go_at_call 9; ((with_reducible refine (PI.out w1 H1W.out).mono ?_); rintro e u2 ⟨rfl, hb2⟩; have HB2 := Lib.hid (ext_trans H1W.out hb2); have Riu2 := Lib.hid (bk_keep hb2 Riw1.out); (try clear i0 i1 i2 i3 iL); obtain ⟨i0, i1, i2, i3⟩ := cells4 Riu2.out; have iL := Riu2.out.lt; clear hb2))
  go_upto_region 3 with (go_at_call 10; ((with_reducible refine (TI.out u2 HB2.out).mono ?_); rintro e u3 ⟨rfl, hb3⟩; have HB3 := Lib.hid (ext_trans HB2.out hb3); have Riu3 := Lib.hid (bk_keep hb3 Riu2.out); (try clear i0 i1 i2 i3 iL); obtain ⟨i0, i1, i2, i3⟩ := cells4 Riu3.out; have iL := Riu3.out.lt; clear hb3))
  go_upto_region 7 with (first
    | (go_at_call 11; ((with_reducible refine (CI.out u3 HB3.out).mono ?_); rintro e u4 ⟨rfl, hb4⟩; have HB4 := Lib.hid (ext_trans HB3.out hb4); have Riu4 := Lib.hid (bk_keep hb4 Riu3.out); (try clear i0 i1 i2 i3 iL); obtain ⟨i0, i1, i2, i3⟩ := cells4 Riu4.out; have iL := Riu4.out.lt; clear hb4))
    | (go_at_call 12; ((with_reducible refine (RD.out u4 HB4.out).mono ?_); rintro e u5 ⟨rfl, hb5⟩; have HB5 := Lib.hid (ext_trans HB4.out hb5); have Riu5 := Lib.hid (bk_keep hb5 Riu4.out); (try clear i0 i1 i2 i3 iL); obtain ⟨i0, i1, i2, i3⟩ := cells4 Riu5.out; have iL := Riu5.out.lt; clear hb5)))
  obtain ⟨gkx, hgkx⟩ : ∃ gkx, u5.heap.size = gkx := ⟨_, rfl⟩
  obtain ⟨u6, hw6⟩ : ∃ u6, u6 = u5.alloc (.cells #[.int .i64 op, .int .i64 a, .int .i64 b, .int .i64 c] 23) := ⟨_, rfl⟩
  rw [← hw6]
  try rw [hgkx]
  have hb6 : Below u5.heap.size u5 u6 := by rw [hw6]; exact ext_alloc (Below.refl _ _) _
  have HB6 := Lib.hid (ext_trans HB5.out hb6)
  have Riu6 := Lib.hid (bk_keep hb6 Riu5.out)
  (try clear i0 i1 i2 i3 iL)
  obtain ⟨i0, i1, i2, i3⟩ := cells4 Riu6.out
  have iL := Riu6.out.lt
  have Rkxu6 := Lib.hid (show Bk u6 gkx 23 #[.int .i64 op, .int .i64 a, .int .i64 b, .int .i64 c] by rw [hw6, ← hgkx]; exact bk_new _ _ _)
  obtain ⟨kx0, kx1, kx2, kx3⟩ := cells4 Rkxu6.out
  have kxL := Rkxu6.out.lt
  clear hb6 hw6 hgkx
  go_upto_region 8 with (go_at_call 13; ((with_reducible refine (PT.out u6 HB6.out).mono ?_); rintro e u7 ⟨rfl, hb7⟩; have HB7 := Lib.hid (ext_trans HB6.out hb7); have Riu7 := Lib.hid (bk_keep hb7 Riu6.out); (try clear i0 i1 i2 i3 iL); obtain ⟨i0, i1, i2, i3⟩ := cells4 Riu7.out; have iL := Riu7.out.lt; have Rkxu7 := Lib.hid (bk_keep hb7 Rkxu6.out); (try clear kx0 kx1 kx2 kx3 kxL); obtain ⟨kx0, kx1, kx2, kx3⟩ := cells4 Rkxu7.out; have kxL := Rkxu7.out.lt; clear hb7))
  obtain ⟨gky, hgky⟩ : ∃ gky, u7.heap.size = gky := ⟨_, rfl⟩
  obtain ⟨u8, hw8⟩ : ∃ u8, u8 = u7.alloc (.cells #[.int .i64 op, .int .i64 a, .int .i64 b, .int .i64 c] 23) := ⟨_, rfl⟩
  rw [← hw8]
  try rw [hgky]
  have hb8 : Below u7.heap.size u7 u8 := by rw [hw8]; exact ext_alloc (Below.refl _ _) _
  have HB8 := Lib.hid (ext_trans HB7.out hb8)
  have Riu8 := Lib.hid (bk_keep hb8 Riu7.out)
  (try clear i0 i1 i2 i3 iL)
  obtain ⟨i0, i1, i2, i3⟩ := cells4 Riu8.out
  have iL := Riu8.out.lt
  have Rkxu8 := Lib.hid (bk_keep hb8 Rkxu7.out)
  (try clear kx0 kx1 kx2 kx3 kxL)
  obtain ⟨kx0, kx1, kx2, kx3⟩ := cells4 Rkxu8.out
  have kxL := Rkxu8.out.lt
  have Rkyu8 := Lib.hid (show Bk u8 gky 23 #[.int .i64 op, .int .i64 a, .int .i64 b, .int .i64 c] by rw [hw8, ← hgky]; exact bk_new _ _ _)
  obtain ⟨ky0, ky1, ky2, ky3⟩ := cells4 Rkyu8.out
  have kyL := Rkyu8.out.lt
  clear hb8 hw8 hgky
  go_upto_region 11 with (go_at_call 12; ((with_reducible refine (RN.out u8 HB8.out).mono ?_); rintro e u9 ⟨rfl, hb9⟩; have HB9 := Lib.hid (ext_trans HB8.out hb9); have Riu9 := Lib.hid (bk_keep hb9 Riu8.out); (try clear i0 i1 i2 i3 iL); obtain ⟨i0, i1, i2, i3⟩ := cells4 Riu9.out; have iL := Riu9.out.lt; have Rkxu9 := Lib.hid (bk_keep hb9 Rkxu8.out); (try clear kx0 kx1 kx2 kx3 kxL); obtain ⟨kx0, kx1, kx2, kx3⟩ := cells4 Rkxu9.out; have kxL := Rkxu9.out.lt; have Rkyu9 := Lib.hid (bk_keep hb9 Rkyu8.out); (try clear ky0 ky1 ky2 ky3 kyL); obtain ⟨ky0, ky1, ky2, ky3⟩ := cells4 Rkyu9.out; have kyL := Rkyu9.out.lt; clear hb9))
  obtain ⟨gkv, hgkv⟩ : ∃ gkv, u9.heap.size = gkv := ⟨_, rfl⟩
  obtain ⟨u10, hw10⟩ : ∃ u10, u10 = u9.alloc (.cells #[.int .i64 x0, .int .i64 x1, .int .i64 x2, .int .i64 x3] 23) := ⟨_, rfl⟩
  rw [← hw10]
  try rw [hgkv]
  have hb10 : Below u9.heap.size u9 u10 := by rw [hw10]; exact ext_alloc (Below.refl _ _) _
  have HB10 := Lib.hid (ext_trans HB9.out hb10)
  have Rkvu10 := Lib.hid (show Bk u10 gkv 23 #[.int .i64 x0, .int .i64 x1, .int .i64 x2, .int .i64 x3] by rw [hw10, ← hgkv]; exact bk_new _ _ _)
  obtain ⟨kv0, kv1, kv2, kv3⟩ := cells4 Rkvu10.out
  have kvL := Rkvu10.out.lt
  clear hb10 hw10 hgkv
  go_upto_region 12 with (go_at_call 9; ((with_reducible refine (PX.out u10 HB10.out).mono ?_); rintro e u11 ⟨rfl, hb11⟩; have HB11 := Lib.hid (ext_trans HB10.out hb11); have Rkvu11 := Lib.hid (bk_keep hb11 Rkvu10.out); (try clear kv0 kv1 kv2 kv3 kvL); obtain ⟨kv0, kv1, kv2, kv3⟩ := cells4 Rkvu11.out; have kvL := Rkvu11.out.lt; clear hb11))
  go_upto_region 13 with (go_at_call 13; ((with_reducible refine (PS.out u11 HB11.out).mono ?_); rintro e u12 ⟨rfl, hb12⟩; have HB12 := Lib.hid (ext_trans HB11.out hb12); have Rkvu12 := Lib.hid (bk_keep hb12 Rkvu11.out); (try clear kv0 kv1 kv2 kv3 kvL); obtain ⟨kv0, kv1, kv2, kv3⟩ := cells4 Rkvu12.out; have kvL := Rkvu12.out.lt; clear hb12))
  obtain ⟨gkz, hgkz⟩ : ∃ gkz, u12.heap.size = gkz := ⟨_, rfl⟩
  obtain ⟨u13, hw13⟩ : ∃ u13, u13 = u12.alloc (.cells #[.int .i64 0, .int .i64 0, .int .i64 0, .int .i64 0] 23) := ⟨_, rfl⟩
  rw [← hw13]
  try rw [hgkz]
  have hb13 : Below u12.heap.size u12 u13 := by rw [hw13]; exact ext_alloc (Below.refl _ _) _
  have HB13 := Lib.hid (ext_trans HB12.out hb13)
  have Rkvu13 := Lib.hid (bk_keep hb13 Rkvu12.out)
  (try clear kv0 kv1 kv2 kv3 kvL)
  obtain ⟨kv0, kv1, kv2, kv3⟩ := cells4 Rkvu13.out
  have kvL := Rkvu13.out.lt
  have Rkzu13 := Lib.hid (show Bk u13 gkz 23 #[.int .i64 0, .int .i64 0, .int .i64 0, .int .i64 0] by rw [hw13, ← hgkz]; exact bk_new _ _ _)
  obtain ⟨kz0, kz1, kz2, kz3⟩ := cells4 Rkzu13.out
  have kzL := Rkzu13.out.lt
  clear hb13 hw13 hgkz
  go_upto_region 14 with (go_at_call 10; ((with_reducible refine (TS.out u13 HB13.out).mono ?_); rintro e u14 ⟨rfl, hb14⟩; have HB14 := Lib.hid (ext_trans HB13.out hb14); have Rkvu14 := Lib.hid (bk_keep hb14 Rkvu13.out); (try clear kv0 kv1 kv2 kv3 kvL); obtain ⟨kv0, kv1, kv2, kv3⟩ := cells4 Rkvu14.out; have kvL := Rkvu14.out.lt; have Rkzu14 := Lib.hid (bk_keep hb14 Rkzu13.out); (try clear kz0 kz1 kz2 kz3 kzL); obtain ⟨kz0, kz1, kz2, kz3⟩ := cells4 Rkzu14.out; have kzL := Rkzu14.out.lt; clear hb14))
  go_wp2_with (fail)
  go_ret
  exact ⟨rfl, HB14.out⟩
set_option maxHeartbeats 4000000 in
set_option maxRecDepth 100000 in
theorem instBack_111 (op a b c n : Int) (s : ByteArray) (w : World) (hn : I64 n) (hs : s.size ≤ 1048576) (he : PEnv w) (h1 : instOk ⟨op, a, b, c⟩ = true) (h2 : instOk (unpack n) = true) (h3 : (parseF s.data.toList).2 = 0) : Calls Tryd.prog 3 #[.agg #[.int .i64 op, .int .i64 a, .int .i64 b, .int .i64 c], .int .i64 n, .string s] w fun e w' => e = .returned (.bool true) ∧ Below w.heap.size w w' := by
  obtain ⟨w1, hw1⟩ : ∃ w1, w1 = w.alloc (.cells #[.int .i64 op, .int .i64 a, .int .i64 b, .int .i64 c] 23) := ⟨_, rfl⟩
  have hB : Bk w1 w.heap.size 23 #[.int .i64 op, .int .i64 a, .int .i64 b, .int .i64 c] := by rw [hw1]; exact bk_new _ _ _
  have h1w : Below w.heap.size w w1 := by rw [hw1]; exact ext_alloc (Below.refl _ _) _
  obtain ⟨i0, i1, i2, i3⟩ := cells4 hB
  have iL := hB.lt
  have ev : ∀ W, Below w.heap.size w W → PEnv W := fun W hW => he.below hW
  have pi := fun W (hW : Below w.heap.size w W) => ipack_any op a b c W (ev W hW).asc
  have ti := fun W (hW : Below w.heap.size w W) => itext_any op a b c W (ev W hW).asc (ev W hW).ten
  have ci := fun W (hW : Below w.heap.size w W) => icheck_any op a b c W (ev W hW).asc
  have rn := fun W (hW : Below w.heap.size w W) => iread_any n hn W (ev W hW).asc
  have ps := fun W (hW : Below w.heap.size w W) => parse_any s W (ev W hW) hs
  have hl := textL_len h1
  have hne := textL_ne h1
  have hp := packF_bd h1
  have hu := unpack_pack h1
  have rd := fun W (hW : Below w.heap.size w W) => iread_any (packF ⟨op, a, b, c⟩) ⟨by omega, by omega⟩ W (ev W hW).asc
  obtain ⟨S1, hS1⟩ : ∃ S1 : ByteArray, (⟨(textL ⟨op, a, b, c⟩).toArray⟩ : ByteArray) = S1 := ⟨_, rfl⟩
  have hSd : S1.data.toList = textL ⟨op, a, b, c⟩ := by rw [← hS1]
  have hSz : S1.size ≤ 1048576 := by have h2 : S1.size = S1.data.toList.length := rfl; rw [h2, hSd]; omega
  have pt := fun W (hW : Below w.heap.size w W) => parse_any S1 W (ev W hW) hSz
  rw [hSd, parse_text h1] at pt
  simp only [InstV.val, hu, h1, hS1, if_true] at pi ti ci rd pt
  have fe : S1.toList.isEmpty = false := by
    rw [ByteArray.toList_eq, hSd]
    cases hh : textL ⟨op, a, b, c⟩ with
    | nil => exact absurd hh hne
    | cons x y => rfl
  obtain ⟨P1, hP1⟩ : ∃ P1, packF ⟨op, a, b, c⟩ = P1 := ⟨_, rfl⟩
  rw [hP1] at pi rd
  have ne := run_neq_inst ⟨op, a, b, c⟩
  simp only [InstV.val] at ne
  have RD := Lib.hid rd
  have PT := Lib.hid pt
  clear hl hne hp hu rd pt hSd hSz hS1 hP1
  have pu := pack_unpack n
  obtain ⟨x, hx⟩ : ∃ x, unpack n = x := ⟨_, rfl⟩
  rw [hx] at pu h2
  obtain ⟨x0, x1, x2, x3⟩ := x
  simp only [hx, h2, if_true] at rn
  have px := fun W (hW : Below w.heap.size w W) => ipack_any x0 x1 x2 x3 W (ev W hW).asc
  simp only [h2, if_true, pu] at px
  obtain ⟨p, hp0⟩ : ∃ p, (parseF s.data.toList).1 = p := ⟨_, rfl⟩
  have hpp : parseF s.data.toList = (p, 0) := by rw [← hp0, ← h3]
  obtain ⟨pk, ptx⟩ := parse_ok hpp
  simp only [hpp, InstV.val] at ps
  obtain ⟨p0, p1, p2, p3⟩ := p
  have ts := fun W (hW : Below w.heap.size w W) => itext_any p0 p1 p2 p3 W (ev W hW).asc (ev W hW).ten
  have hst : (⟨(textL ⟨p0, p1, p2, p3⟩).toArray⟩ : ByteArray) = s := by rw [ptx]
  simp only [pk, if_true, hst] at ts
  clear hpp hp0 pk ptx hst h3
  have PI := Lib.hid pi
  have TI := Lib.hid ti
  have CI := Lib.hid ci
  have RN := Lib.hid rn
  have PS := Lib.hid ps
  have PX := Lib.hid px
  have TS := Lib.hid ts
  have HW1 := Lib.hid hw1
  have H1W := Lib.hid h1w
  have Riw1 := Lib.hid hB
  clear pi ti ci rn ps px ts hw1 h1w hB ev he h1 h2 hn hs pu hx
  go_enter Tryd.func3, Tryd.ntmps3
  go_upto_region 1 with (fail)
  rw [← HW1.out]
  go_upto_region 2 with (go_at_call 9; ((with_reducible refine (PI.out w1 H1W.out).mono ?_); rintro e u2 ⟨rfl, hb2⟩; have HB2 := Lib.hid (ext_trans H1W.out hb2); have Riu2 := Lib.hid (bk_keep hb2 Riw1.out); (try clear i0 i1 i2 i3 iL); obtain ⟨i0, i1, i2, i3⟩ := cells4 Riu2.out; have iL := Riu2.out.lt; clear hb2))
  go_upto_region 3 with (go_at_call 10; ((with_reducible refine (TI.out u2 HB2.out).mono ?_); rintro e u3 ⟨rfl, hb3⟩; have HB3 := Lib.hid (ext_trans HB2.out hb3); have Riu3 := Lib.hid (bk_keep hb3 Riu2.out); (try clear i0 i1 i2 i3 iL); obtain ⟨i0, i1, i2, i3⟩ := cells4 Riu3.out; have iL := Riu3.out.lt; clear hb3))
  go_upto_region 7 with (first
    | (go_at_call 11; ((with_reducible refine (CI.out u3 HB3.out).mono ?_); rintro e u4 ⟨rfl, hb4⟩; have HB4 := Lib.hid (ext_trans HB3.out hb4); have Riu4 := Lib.hid (bk_keep hb4 Riu3.out); (try clear i0 i1 i2 i3 iL); obtain ⟨i0, i1, i2, i3⟩ := cells4 Riu4.out; have iL := Riu4.out.lt; clear hb4))
    | (go_at_call 12; ((with_reducible refine (RD.out u4 HB4.out).mono ?_); rintro e u5 ⟨rfl, hb5⟩; have HB5 := Lib.hid (ext_trans HB4.out hb5); have Riu5 := Lib.hid (bk_keep hb5 Riu4.out); (try clear i0 i1 i2 i3 iL); obtain ⟨i0, i1, i2, i3⟩ := cells4 Riu5.out; have iL := Riu5.out.lt; clear hb5)))
  obtain ⟨gkx, hgkx⟩ : ∃ gkx, u5.heap.size = gkx := ⟨_, rfl⟩
  obtain ⟨u6, hw6⟩ : ∃ u6, u6 = u5.alloc (.cells #[.int .i64 op, .int .i64 a, .int .i64 b, .int .i64 c] 23) := ⟨_, rfl⟩
  rw [← hw6]
  try rw [hgkx]
  have hb6 : Below u5.heap.size u5 u6 := by rw [hw6]; exact ext_alloc (Below.refl _ _) _
  have HB6 := Lib.hid (ext_trans HB5.out hb6)
  have Riu6 := Lib.hid (bk_keep hb6 Riu5.out)
  (try clear i0 i1 i2 i3 iL)
  obtain ⟨i0, i1, i2, i3⟩ := cells4 Riu6.out
  have iL := Riu6.out.lt
  have Rkxu6 := Lib.hid (show Bk u6 gkx 23 #[.int .i64 op, .int .i64 a, .int .i64 b, .int .i64 c] by rw [hw6, ← hgkx]; exact bk_new _ _ _)
  obtain ⟨kx0, kx1, kx2, kx3⟩ := cells4 Rkxu6.out
  have kxL := Rkxu6.out.lt
  clear hb6 hw6 hgkx
  go_upto_region 8 with (go_at_call 13; ((with_reducible refine (PT.out u6 HB6.out).mono ?_); rintro e u7 ⟨rfl, hb7⟩; have HB7 := Lib.hid (ext_trans HB6.out hb7); have Riu7 := Lib.hid (bk_keep hb7 Riu6.out); (try clear i0 i1 i2 i3 iL); obtain ⟨i0, i1, i2, i3⟩ := cells4 Riu7.out; have iL := Riu7.out.lt; have Rkxu7 := Lib.hid (bk_keep hb7 Rkxu6.out); (try clear kx0 kx1 kx2 kx3 kxL); obtain ⟨kx0, kx1, kx2, kx3⟩ := cells4 Rkxu7.out; have kxL := Rkxu7.out.lt; clear hb7))
  obtain ⟨gky, hgky⟩ : ∃ gky, u7.heap.size = gky := ⟨_, rfl⟩
  obtain ⟨u8, hw8⟩ : ∃ u8, u8 = u7.alloc (.cells #[.int .i64 op, .int .i64 a, .int .i64 b, .int .i64 c] 23) := ⟨_, rfl⟩
  rw [← hw8]
  try rw [hgky]
  have hb8 : Below u7.heap.size u7 u8 := by rw [hw8]; exact ext_alloc (Below.refl _ _) _
  have HB8 := Lib.hid (ext_trans HB7.out hb8)
  have Riu8 := Lib.hid (bk_keep hb8 Riu7.out)
  (try clear i0 i1 i2 i3 iL)
  obtain ⟨i0, i1, i2, i3⟩ := cells4 Riu8.out
  have iL := Riu8.out.lt
  have Rkxu8 := Lib.hid (bk_keep hb8 Rkxu7.out)
  (try clear kx0 kx1 kx2 kx3 kxL)
  obtain ⟨kx0, kx1, kx2, kx3⟩ := cells4 Rkxu8.out
  have kxL := Rkxu8.out.lt
  have Rkyu8 := Lib.hid (show Bk u8 gky 23 #[.int .i64 op, .int .i64 a, .int .i64 b, .int .i64 c] by rw [hw8, ← hgky]; exact bk_new _ _ _)
  obtain ⟨ky0, ky1, ky2, ky3⟩ := cells4 Rkyu8.out
  have kyL := Rkyu8.out.lt
  clear hb8 hw8 hgky
  go_upto_region 11 with (go_at_call 12; ((with_reducible refine (RN.out u8 HB8.out).mono ?_); rintro e u9 ⟨rfl, hb9⟩; have HB9 := Lib.hid (ext_trans HB8.out hb9); have Riu9 := Lib.hid (bk_keep hb9 Riu8.out); (try clear i0 i1 i2 i3 iL); obtain ⟨i0, i1, i2, i3⟩ := cells4 Riu9.out; have iL := Riu9.out.lt; have Rkxu9 := Lib.hid (bk_keep hb9 Rkxu8.out); (try clear kx0 kx1 kx2 kx3 kxL); obtain ⟨kx0, kx1, kx2, kx3⟩ := cells4 Rkxu9.out; have kxL := Rkxu9.out.lt; have Rkyu9 := Lib.hid (bk_keep hb9 Rkyu8.out); (try clear ky0 ky1 ky2 ky3 kyL); obtain ⟨ky0, ky1, ky2, ky3⟩ := cells4 Rkyu9.out; have kyL := Rkyu9.out.lt; clear hb9))
  obtain ⟨gkv, hgkv⟩ : ∃ gkv, u9.heap.size = gkv := ⟨_, rfl⟩
  obtain ⟨u10, hw10⟩ : ∃ u10, u10 = u9.alloc (.cells #[.int .i64 x0, .int .i64 x1, .int .i64 x2, .int .i64 x3] 23) := ⟨_, rfl⟩
  rw [← hw10]
  try rw [hgkv]
  have hb10 : Below u9.heap.size u9 u10 := by rw [hw10]; exact ext_alloc (Below.refl _ _) _
  have HB10 := Lib.hid (ext_trans HB9.out hb10)
  have Rkvu10 := Lib.hid (show Bk u10 gkv 23 #[.int .i64 x0, .int .i64 x1, .int .i64 x2, .int .i64 x3] by rw [hw10, ← hgkv]; exact bk_new _ _ _)
  obtain ⟨kv0, kv1, kv2, kv3⟩ := cells4 Rkvu10.out
  have kvL := Rkvu10.out.lt
  clear hb10 hw10 hgkv
  go_upto_region 12 with (go_at_call 9; ((with_reducible refine (PX.out u10 HB10.out).mono ?_); rintro e u11 ⟨rfl, hb11⟩; have HB11 := Lib.hid (ext_trans HB10.out hb11); have Rkvu11 := Lib.hid (bk_keep hb11 Rkvu10.out); (try clear kv0 kv1 kv2 kv3 kvL); obtain ⟨kv0, kv1, kv2, kv3⟩ := cells4 Rkvu11.out; have kvL := Rkvu11.out.lt; clear hb11))
  go_upto_region 13 with (go_at_call 13; ((with_reducible refine (PS.out u11 HB11.out).mono ?_); rintro e u12 ⟨rfl, hb12⟩; have HB12 := Lib.hid (ext_trans HB11.out hb12); have Rkvu12 := Lib.hid (bk_keep hb12 Rkvu11.out); (try clear kv0 kv1 kv2 kv3 kvL); obtain ⟨kv0, kv1, kv2, kv3⟩ := cells4 Rkvu12.out; have kvL := Rkvu12.out.lt; clear hb12))
  obtain ⟨gkz, hgkz⟩ : ∃ gkz, u12.heap.size = gkz := ⟨_, rfl⟩
  obtain ⟨u13, hw13⟩ : ∃ u13, u13 = u12.alloc (.cells #[.int .i64 p0, .int .i64 p1, .int .i64 p2, .int .i64 p3] 23) := ⟨_, rfl⟩
  rw [← hw13]
  try rw [hgkz]
  have hb13 : Below u12.heap.size u12 u13 := by rw [hw13]; exact ext_alloc (Below.refl _ _) _
  have HB13 := Lib.hid (ext_trans HB12.out hb13)
  have Rkvu13 := Lib.hid (bk_keep hb13 Rkvu12.out)
  (try clear kv0 kv1 kv2 kv3 kvL)
  obtain ⟨kv0, kv1, kv2, kv3⟩ := cells4 Rkvu13.out
  have kvL := Rkvu13.out.lt
  have Rkzu13 := Lib.hid (show Bk u13 gkz 23 #[.int .i64 p0, .int .i64 p1, .int .i64 p2, .int .i64 p3] by rw [hw13, ← hgkz]; exact bk_new _ _ _)
  obtain ⟨kz0, kz1, kz2, kz3⟩ := cells4 Rkzu13.out
  have kzL := Rkzu13.out.lt
  clear hb13 hw13 hgkz
  go_upto_region 14 with (go_at_call 10; ((with_reducible refine (TS.out u13 HB13.out).mono ?_); rintro e u14 ⟨rfl, hb14⟩; have HB14 := Lib.hid (ext_trans HB13.out hb14); have Rkvu14 := Lib.hid (bk_keep hb14 Rkvu13.out); (try clear kv0 kv1 kv2 kv3 kvL); obtain ⟨kv0, kv1, kv2, kv3⟩ := cells4 Rkvu14.out; have kvL := Rkvu14.out.lt; have Rkzu14 := Lib.hid (bk_keep hb14 Rkzu13.out); (try clear kz0 kz1 kz2 kz3 kzL); obtain ⟨kz0, kz1, kz2, kz3⟩ := cells4 Rkzu14.out; have kzL := Rkzu14.out.lt; clear hb14))
  go_wp2_with (fail)
  go_ret
  exact ⟨rfl, HB14.out⟩
theorem instBack_walk (op a b c n : Int) (s : ByteArray) (w : World) (hn : I64 n) (hs : s.size ≤ 1048576) (he : PEnv w) : Calls Tryd.prog 3 #[.agg #[.int .i64 op, .int .i64 a, .int .i64 b, .int .i64 c], .int .i64 n, .string s] w fun e w' => e = .returned (.bool true) ∧ Below w.heap.size w w' := by
  cases h1 : instOk ⟨op, a, b, c⟩ <;> cases h2 : instOk (unpack n) <;> by_cases h3 : (parseF s.data.toList).2 = 0
  · exact instBack_001 op a b c n s w hn hs he h1 h2 h3
  · exact instBack_000 op a b c n s w hn hs he h1 h2 h3
  · exact instBack_011 op a b c n s w hn hs he h1 h2 h3
  · exact instBack_010 op a b c n s w hn hs he h1 h2 h3
  · exact instBack_101 op a b c n s w hn hs he h1 h2 h3
  · exact instBack_100 op a b c n s w hn hs he h1 h2 h3
  · exact instBack_111 op a b c n s w hn hs he h1 h2 h3
  · exact instBack_110 op a b c n s w hn hs he h1 h2 h3
end Go.Proofs.YtjlncoodkejncaaDoor
