import Derived.BigRegion
import Derived.Deep.RegionLaw
import Derived.Test.YtmmmmeeepieemaaHeapCZ
import Derived.Test.YtmmmmeeepieemaaHeapDZ
import Derived.Test.YtmmmmeeepieemaaHeapEZ
import Derived.Test.YtmmmmeeepieemaaHeapFZ
import Derived.Test.YtmmmmeeepieemaaHeapSafeMathZ
import Derived.Test.YtmmmmeeepieemaaLiftTurnsZ
import Derived.Test.YtmmmmeeepieemaaSweepCZ
import Derived.Test.YtmmmmeeepieemaaTurnOfZ
/- The walk of HeapSafe. -/
namespace Go.Proofs.Ytmmmmeeepieemaa
open El (cl)
open Go Go.RowKit Go.Shelf
set_option linter.unusedVariables false
set_option linter.unusedSimpArgs false
/-- A machine of registers alone. -/
structure MReg (R : List ValV) (cs : Array Value) : Prop where
  h8 : R.length = 8
  row : ∃ (ma sa oa : Option Addr) (mc sc oc : Nat), cs = mcs R zeroK (.slice ma 0 mc) (.slice sa 0 sc) (.slice oa 0 oc)
section
variable {R : List ValV} {cs : Array Value}
theorem MReg.sz (h : MReg R cs) : cs.size = 64 := by obtain ⟨_, _, _, _, _, _, rfl⟩ := h.row; exact mcs_size h.h8
theorem MReg.size (h : MReg R cs) : 0 + 64 ≤ cs.size := by rw [h.sz]; decide
theorem MReg.size56 (h : MReg R cs) : 0 + 56 ≤ cs.size := by rw [h.sz]; decide
theorem MReg.all (h : MReg R cs) : cs.extract 0 (0 + 64) = cs := by rw [Array.extract_eq_self_of_le (by rw [h.sz]; decide)]
theorem MReg.regs (h : MReg R cs) : cs.extract 0 (0 + 56) = (cls R).toArray := by obtain ⟨_, _, _, _, _, _, rfl⟩ := h.row; exact mcs_regs h.h8
theorem MReg.one (h : MReg R cs) : cs.all (·.oneCell') = true := by obtain ⟨_, _, _, _, _, _, rfl⟩ := h.row; exact mcs_one rfl rfl rfl
theorem mreg_zero : MReg zeroR zmc := ⟨rfl, none, none, none, 0, 0, 0, zmc_eq.symm⟩
theorem MReg.cellR {w : World} {g : Nat} {T : TypeId} (h : MReg R cs) (hb : Bk w g T cs) {r j : Nat} {x : ValV} {u : Value} (hx : R[r]? = some x) (hj : j < 7) (hu : (cl x)[j]? = some u) : w.cell? ⟨g, r * 7 + j, none⟩ = some u := by
  obtain ⟨_, _, _, _, _, _, rfl⟩ := h.row
  have hr : r < 8 := by rw [← h.h8]; exact (List.getElem?_eq_some_iff.1 hx).1
  refine (hb.cell (r * 7 + j)).trans ?_
  rw [mcs_lo h.h8 (by omega)]
  have h1 := cls_at R r (by have := h.h8; omega) j (by show j < 7; exact hj)
  have e7 : El.k ValV = 7 := rfl
  rw [e7] at h1
  rw [h1, (List.getElem?_eq_some_iff.1 hx).2]
  exact hu
theorem MReg.put {w : World} {g : Nat} {T : TypeId} (h : MReg R cs) (hb : Bk w g T cs) {j : Nat} (hj : j < 8) (k : KeyV) : ∃ cs', MReg (R.set j ⟨true, 0, k⟩) cs' ∧ Bk (w.setCells g (j * 7) [.bool true, .int .i64 0, .int .i64 k.perm, .int .i64 k.base, .int .i64 k.len, .int .i64 k.at_, .int .i64 k.seal_]) g T cs' := by
  obtain ⟨ma, sa, oa, mc, sc, oc, rfl⟩ := h.row
  obtain ⟨xj, hx⟩ : ∃ x, R[j]? = some x := ⟨_, List.getElem?_eq_getElem (by have := h.h8; omega)⟩
  refine ⟨mcs (R.set j ⟨true, 0, k⟩) zeroK (.slice ma 0 mc) (.slice sa 0 sc) (.slice oa 0 oc), ⟨by rw [List.length_set]; exact h.h8, ma, sa, oa, mc, sc, oc, rfl⟩, ?_⟩
  rw [← mcs_regset (c := zeroK) (ms := .slice ma 0 mc) (ss := .slice sa 0 sc) (os := .slice oa 0 oc) h.h8 hx (y := ⟨true, 0, k⟩) (us := [.bool true, .int .i64 0, .int .i64 k.perm, .int .i64 k.base, .int .i64 k.len, .int .i64 k.at_, .int .i64 k.seal_]) rfl]
  unfold mcs at hb
  exact bk_setCells (w := w) _ _ _ w hb
end
theorem run_slice_regs (g x : Nat) (hx : x ≤ 8) (W : World) : (Instr.sliceAt 60 (.pointer (some ⟨g, 0, none⟩)) none (some (.int .i64 x)) none).run Try.prog W = .ok (.slice (some ⟨g, 0, none⟩) x 8) W := by
  have hl : Try.prog.arrayLen 60 = 8 := by kernel_rfl
  rw [run_sliceAt_array_h W 60 ⟨g, 0, none⟩ (by kernel_rfl) .i64 x (by omega) (by rw [hl]; omega), hl]
  have hs : (sizeOf (Try.prog.elem 60)).run Try.prog W = .ok 7 W := by kernel_rfl
  rw [hs]
  simp [slicedAt, Addr.add]
theorem zeroK_ok' : zeroK.Ok := (okB_iff _).1 (by decide)
theorem sweep_regs {R : List ValV} {cs : Array Value} (h : MReg R cs) (hr : ∀ v ∈ R, v.Ok) (b n : Int) (b0 : 0 ≤ b) (b1 : b ≤ 400) (n0 : 0 ≤ n) (n1 : n ≤ 400 - b) (w : World) :
    Calls Try.prog 32 #[.agg cs, .int .i64 b, .int .i64 n] w fun e w' => ∃ cs' c, e = .returned (.tuple #[.agg cs', .int .i64 c, .int .i64 0]) ∧ MReg (R.map (swV b n)) cs' ∧ Below w.heap.size w w' := by
  obtain ⟨ma, sa, oa, mc, sc, oc, rfl⟩ := h.row
  have hok : MOk R zeroK [] [] [] := ⟨hr, zeroK_ok', by simp, fun v hv => by simp at hv, by simp, fun v hv => by simp at hv, by simp, fun v hv => by simp at hv⟩
  refine (sweep_ok R zeroK [] [] [] ma sa oa mc sc oc b n w h.h8 (Sl.nil _ _) (Sl.nil _ _) (Sl.nil _ _) hok b0 b1 n0 n1).mono ?_
  rintro e w' ⟨vm, vs, vo, rfl, om, os, oo, hb⟩
  obtain ⟨ma2, mc2, rfl, _, _⟩ := om.sl
  obtain ⟨sa2, sc2, rfl, _, _⟩ := os.sl
  obtain ⟨oa2, oc2, rfl, _, _⟩ := oo.sl
  have hz : swK b n zeroK = zeroK := by unfold swK; rw [hits_zero]; rfl
  rw [hz]
  exact ⟨_, _, rfl, ⟨by rw [List.length_map]; exact h.h8, ma2, sa2, oa2, mc2, sc2, oc2, rfl⟩, hb⟩
theorem pair_at {R : List ValV} (h : R.Pairwise kApart) {j x : Nat} {u v : ValV} (hj : j < x) (hu : R[j]? = some u) (hv : R[x]? = some v) : kApart v u := by
  obtain ⟨l1, e1⟩ := List.getElem?_eq_some_iff.1 hu
  obtain ⟨l2, e2⟩ := List.getElem?_eq_some_iff.1 hv
  rw [← e1, ← e2]
  exact kApart_symm (List.pairwise_iff_getElem.1 h j x l1 l2 hj)
theorem own_not_m {α : Type} [El α] {w : World} {base : Nat} {T T' : TypeId} {v : Value} {xs : List α} (h : Own w base T v xs) {k : Nat} {cs : Array Value} (hb : Bk w k T' cs) (hT : T' ≠ T) : v.ownBlock ≠ some k := by
  rcases h.form with ⟨rfl, _⟩ | ⟨g, c, rfl, _, _⟩
  · intro e; cases e
  · intro e
    have e : g = k := by simpa [Value.ownBlock] using e
    subst e
    exact own_bk_ne h hb hT rfl
theorem reg_old {R : List ValV} {cs : Array Value} {w : World} {g : Nat} {T : TypeId} (h : MReg R cs) (hb : Bk w g T cs) {j t : Nat} (hj : j < 8) (ht : t < 7) : ∃ u, w.cell? ⟨g, j * 7 + t, none⟩ = some u := by
  obtain ⟨xj, hx⟩ : ∃ x, R[j]? = some x := ⟨_, List.getElem?_eq_getElem (by have := h.h8; omega)⟩
  obtain ⟨u, hu⟩ : ∃ u, (cl xj)[t]? = some u := ⟨_, List.getElem?_eq_getElem (by show t < 7; exact ht)⟩
  exact ⟨u, h.cellR hb hx ht hu⟩
theorem via_tailH {G : Prop} (h : ∃ T : Prop, T ∧ (T → G)) : G := h.elim fun T hT => hT.2 hT.1
set_option maxHeartbeats 32000000 in
set_option maxRecDepth 100000 in
theorem heapSafe_walk {w : World} (base n : Int) (l : SlV TurnV) (hbase : (Lit.int .i64 base).wf = true) (hn : (Lit.int .i64 n).wf = true) (hl : l.ok TurnV.wf w) :
    Calls Try.prog 10 #[.int .i64 base, .int .i64 n, l.val] w fun e w' => e = .returned (.bool true) ∧ Below w.heap.size w w' := by
  obtain ⟨ao, N, cap, ts⟩ := l
  obtain ⟨hsl, htw, _⟩ := hl
  simp only [SlV.val] at hsl htw ⊢
  have hN := hsl.len
  have hmx := hsl.max
  unfold maxLen at hmx
  have h0 : 0 ≤ base % 390 := by omega
  have h1 : base % 390 < 390 := by omega
  have h2 : 0 ≤ n % (400 - base % 390) := Int.emod_nonneg _ (by omega)
  have h3 : n % (400 - base % 390) < 400 - base % 390 := Int.emod_lt_of_pos _ (by omega)
  have rg := fun W => ranged_any base n W
  obtain ⟨r, hr⟩ : ∃ r, n % (400 - base % 390) + 1 = r := ⟨_, rfl⟩
  obtain ⟨b, hb⟩ : ∃ b, base % 390 = b := ⟨_, rfl⟩
  rw [hr] at rg
  rw [hb] at rg h0 h1 h2 h3 hr
  have hr1 : 1 ≤ r := by omega
  have hr2 : r ≤ 400 - b := by omega
  have hmay : mayB ⟨b, r, 0⟩ = true := mayB_iff.2 ⟨h0, hr1, by simp only; omega, by simp only; omega, by simp, by simp⟩
  have nw := fun W => hnew_any b r W
  rw [if_pos hmay, if_pos hmay] at nw
  unfold ResPost at nw
  have hs0 := hsafe_new hmay
  have RG := Lib.hid rg
  have NW := Lib.hid nw
  have HS0 := Lib.hid hs0
  have HSL := Lib.hid hsl
  have HTW := Lib.hid htw
  have hbn : 0 ≤ b ∧ b ≤ 400 := by omega
  clear rg nw hs0 hsl htw h2 h3 hb hr hmay hbase hn
  go_enter Try.func10, Try.ntmps10
  go_upto_region 5 with (first
    | (go_at_call 26; ((with_reducible refine (RG.out _).mono ?_); rintro e w' ⟨rfl, rfl⟩))
    | (go_at_call 27; ((with_reducible refine (NW.out _).mono ?_); rintro e w1 ⟨v1, rfl, ho1, hb1⟩; have HO1 := Lib.hid ho1; have HB1 := Lib.hid hb1; clear ho1 hb1))
    | (go_at_call 28; ((with_reducible refine (swept_any _).mono ?_); rintro e w2 ⟨rfl, hb2⟩; have HB2 := Lib.hid hb2; clear hb2)))
  go_upto_region 6 with (fail)
  obtain ⟨w3, hw3⟩ : ∃ w3, w3 = w2.alloc (.cells zmc 63) := ⟨_, rfl⟩
  change Code.wp _ _ _ _ (w2.alloc (.cells zmc 63))
  rw [← hw3]
  obtain ⟨g9, hg9⟩ : ∃ g9, w2.heap.size = g9 := ⟨_, rfl⟩
  rw [hg9]
  have b23 : Below w2.heap.size w2 w3 := by rw [hw3]; exact ext_alloc (Below.refl _ _) _
  have m3 : Bk w3 g9 63 zmc := by rw [hw3, ← hg9]; exact bk_new _ _ _
  have hg9w : w.heap.size ≤ g9 := by have h1 := HB1.out.size; have h2 := HB2.out.size; omega
  have O3 := Lib.hid (HO1.out.below (ext_trans HB2.out b23))
  have M3 := Lib.hid m3
  have B3 := Lib.hid (ext_trans HB1.out (ext_trans HB2.out b23))
  clear hw3 hg9 b23 m3 HO1 HB1 HB2 NW
  go_wp2
  go_loopw [7, 46] (fun h i wr => ∃ (k : Nat) (ps : List PieceV) (R : List ValV) (cs : Array Value), k ≤ N ∧ i = .int .i64 k ∧ Own wr w.heap.size 87 h ps ∧ HSafe b r ps R ∧ MReg R cs ∧ Bk wr g9 63 cs ∧ Below w.heap.size w wr) (fun _ i _ => N - (intOf i).toNat)
  case atStart => exact ⟨0, _, zeroR, zmc, Nat.zero_le _, rfl, O3.out, HS0.out, mreg_zero, M3.out, B3.out⟩
  case round =>
    obtain ⟨k, ps, R, cs, hk, rfl, hoh, hsf, hmr, hbm, hbw⟩ := hrel
    have HOH := Lib.hid hoh
    have HSF := Lib.hid hsf
    have HMR := Lib.hid hmr
    have HBM := Lib.hid hbm
    have HBW := Lib.hid hbw
    clear hoh hsf hmr hbm hbw O3 M3 B3
    by_cases hlt : k < N
    · have p0 : (0 : Int) ≤ k := by omega
      have p1 : (k : Int) < N := by omega
      obtain ⟨x, hx⟩ : ∃ x, ts[k]? = some x := ⟨_, List.getElem?_eq_getElem (by omega)⟩
      have hxw := HTW.out x (List.mem_of_getElem? hx)
      obtain ⟨ad, hao, hab, e0, e1, e2⟩ := sl_turn (HSL.out.below HBW.out) hlt hx
      subst hao
      obtain ⟨kd, nn, mm⟩ := x
      have hnw := hxw.n
      simp only at e0 e1 e2 hnw
      have of := fun W => of_any kd nn mm 3 (by decide) (by decide) W
      have t0 : 0 ≤ kd % 3 := Int.emod_nonneg _ (by decide)
      have t5 : kd % 3 < 3 := Int.emod_lt_of_pos _ (by decide)
      generalize kd % 3 = t at *
      have OF := Lib.hid of
      clear of hx hxw
      obtain ⟨w4, hw4⟩ : ∃ w4, w4 = wr.alloc (.cells #[.int .i64 kd, .int .i64 nn, .int .i64 mm] 81) := ⟨_, rfl⟩
      have b4 : Below wr.heap.size wr w4 := by rw [hw4]; exact ext_alloc (Below.refl _ _) _
      have x4 : Bk w4 wr.heap.size 81 #[.int .i64 kd, .int .i64 nn, .int .i64 mm] := by rw [hw4]; exact bk_new _ _ _
      obtain ⟨gx, hgx⟩ : ∃ g, g = wr.heap.size := ⟨_, rfl⟩
      rw [← hgx] at x4
      have HW4 := Lib.hid hw4
      have HGX := Lib.hid hgx
      have B4 := Lib.hid b4
      have X4 := Lib.hid x4
      clear hw4 hgx b4 x4
      obtain ⟨ha, hc, rfl, hslh, _⟩ := HOH.out.sl
      have HSH := Lib.hid hslh
      clear hslh
      go_upto_region 9 with (fail)
      try rw [← HGX.out]
      rw [← HW4.out]
      clear e0 e1 e2 hab HW4 HGX
      obtain ⟨x0, x1, x2⟩ := cells3 X4.out
      have xL := X4.out.lt
      have go := fun (w5 : World) (hb5 : Below w4.heap.size w4 w5) => (⟨bk_keep hb5 X4.out, bk_keep (ext_trans B4.out hb5) HBM.out, HOH.out.below (ext_trans B4.out hb5), HSH.out.below (ext_trans B4.out hb5), ext_trans HBW.out (ext_trans B4.out hb5)⟩ : Bk w5 gx 81 #[.int .i64 kd, .int .i64 nn, .int .i64 mm] ∧ Bk w5 g9 63 cs ∧ Own w5 w.heap.size 87 (.slice ha ps.length hc) ps ∧ Sl w5 ha ps.length ps ∧ Below w.heap.size w w5)
      have GOF := Lib.hid go
      clear go
      rcases (show t = 0 ∨ t = 1 ∨ t = 2 by omega) with h | h | h
      · subst h
        clear t0 t5
        go_upto_region 23 with (first | (go_at_call 29; ((with_reducible refine (OF.out _).mono ?_); rintro e w5 ⟨rfl, hb5⟩; have HB5 := Lib.hid hb5; clear hb5)) | fail)
        obtain ⟨x5, m5, o5, s5, b5⟩ := GOF.out w5 HB5.out
        clear x0 x1 x2 xL
        obtain ⟨x0, x1, x2⟩ := cells3 x5
        have xL := x5.lt
        have gv0 := hgive_any ha _ hc ps nn w5 s5 hnw
        have hgi := fun hc j => hsafe_give (sz := nn) (c := (giveF ps nn).2.2) (m := (giveF ps nn).1) (k := (giveF ps nn).2.1) HSF.out rfl hc j
        generalize giveF ps nn = rr at gv0 hgi
        obtain ⟨gm, q, gc⟩ := rr
        obtain ⟨q0, q1, q2, q3, q4⟩ := q
        simp only at gv0 hgi
        unfold GivePost at gv0
        simp only [KeyV.val] at gv0
        have GV := Lib.hid gv0
        have HGI := Lib.hid hgi
        have X5 := Lib.hid x5
        have M5 := Lib.hid m5
        have O5 := Lib.hid o5
        have B5 := Lib.hid b5
        clear gv0 hgi x5 m5 o5 s5 b5
        by_cases hc0 : gc = 0
        · subst hc0
          have hgs := HGI.out rfl (mm % 8).toNat
          have rs := fun W => rest_any mm 8 W (by decide) (by decide)
          have m0 : 0 ≤ mm % 8 := Int.emod_nonneg _ (by decide)
          have m8 : mm % 8 < 8 := Int.emod_lt_of_pos _ (by decide)
          obtain ⟨j, hj⟩ : ∃ j : Nat, (j : Int) = mm % 8 := ⟨(mm % 8).toNat, by omega⟩
          rw [← hj] at m0 m8 rs hgs
          rw [Int.toNat_natCast] at hgs
          have hj8 : j < 8 := by omega
          have RS := Lib.hid rs
          have HGS := Lib.hid hgs
          clear rs hgs hj
          go_upto_region 24 with (go_at_call 30; ((with_reducible refine (GV.out).mono ?_); rintro e w6 ⟨v6, rfl, ho6, hb6⟩; have HO6 := Lib.hid ho6; have HB6 := Lib.hid hb6; clear ho6 hb6))
          obtain ⟨w7, hw7⟩ : ∃ w7, w7 = w6.alloc (.cells #[.int .i64 q0, .int .i64 q1, .int .i64 q2, .int .i64 q3, .int .i64 q4] 40) := ⟨_, rfl⟩
          rw [← hw7]
          obtain ⟨g13, hg13⟩ : ∃ g, w6.heap.size = g := ⟨_, rfl⟩
          try rw [hg13]
          have b7 : Below w6.heap.size w6 w7 := by rw [hw7]; exact ext_alloc (Below.refl _ _) _
          have k7 : Bk w7 g13 40 #[.int .i64 q0, .int .i64 q1, .int .i64 q2, .int .i64 q3, .int .i64 q4] := by rw [hw7, ← hg13]; exact bk_new _ _ _
          have b57 := ext_trans HB6.out b7
          have x7 := bk_keep b57 X5.out
          have m7 := bk_keep b57 M5.out
          have o7 := HO6.out.below b7
          obtain ⟨x0, x1, x2⟩ := cells3 x7
          have xL := x7.lt
          obtain ⟨y0, y1, y2, y3, y4⟩ := cells5 k7
          have yL := k7.lt
          have mL := m7.lt
          have mF := fun i => m7.frozen i
          have hs6 := HB6.out.size
          have hs5 := B5.out.size
          obtain ⟨cs', hmr', hbk'⟩ := HMR.out.put m7 hj8 ⟨q0, q1, q2, q3, q4⟩
          have M7 := Lib.hid m7
          have O7 := Lib.hid o7
          have B7 := Lib.hid (ext_trans B5.out b57)
          have HMR' := Lib.hid hmr'
          have HBK' := Lib.hid hbk'
          have old := fun (t : Nat) (ht : t < 7) => reg_old HMR.out M7.out hj8 ht
          obtain ⟨a0, r0⟩ := old 0 (by decide)
          obtain ⟨a1, r1⟩ := old 1 (by decide)
          obtain ⟨a2, r2⟩ := old 2 (by decide)
          obtain ⟨a3, r3⟩ := old 3 (by decide)
          obtain ⟨a4, r4⟩ := old 4 (by decide)
          obtain ⟨a5, r5⟩ := old 5 (by decide)
          obtain ⟨a6, r6⟩ := old 6 (by decide)
          rw [Nat.add_zero] at r0
          clear hw7 b7 k7 b57 x7 m7 o7 hmr' hbk' old hg13 GV HO6
          go_upto_region 26 with (fail)
          apply via_tailH
          apply Exists.intro
          apply And.intro
          rotate_left
          · intro tail
            go_region_law (go_simp; go_at_call 13; ((with_reducible refine (RS.out _).mono ?_); rintro e w' ⟨rfl, rfl⟩))
            all_goals with_reducible exact tail
          change Exit.inBlock _ _ _ _ ((w7.setCells g9 (j * 7) [.bool true, .int .i64 0, .int .i64 q0, .int .i64 q1, .int .i64 q2, .int .i64 q3, .int .i64 q4]).drew)
          clear x0 x1 x2 xL y0 y1 y2 y3 y4 yL mF r0 r1 r2 r3 r4 r5 r6
          have hgr := grown_setCells g9 [.bool true, .int .i64 0, .int .i64 q0, .int .i64 q1, .int .i64 q2, .int .i64 q3, .int .i64 q4] (j * 7) w7
          obtain ⟨W, hW⟩ : ∃ W, W = (w7.setCells g9 (j * 7) [.bool true, .int .i64 0, .int .i64 q0, .int .i64 q1, .int .i64 q2, .int .i64 q3, .int .i64 q4]).drew := ⟨_, rfl⟩
          rw [← hW]
          have OW := Lib.hid (show Own W w.heap.size 87 v6 (gm) by rw [hW]; exact (O7.out.kept hgr (.inr (own_not_m O7.out M7.out (by decide)))).drew.mono (by omega))
          have HS := Lib.hid (HGS.out)
          have MR := Lib.hid (HMR'.out)
          have BM := Lib.hid (show Bk W g9 63 _ by rw [hW]; exact bk_drew HBK'.out)
          have BW := Lib.hid (show Below w.heap.size w W by rw [hW]; exact ext_drew (B7.out.grown hgr B7.out.size (fun i e => by injection e with e; omega)))
          clear hW

          clear hgr
          have hok := HS.out.ok
          have hap := HS.out.ap
          have HOK := Lib.hid hok
          have HAP := Lib.hid hap
          have h8 := MR.out.h8
          have mL := BM.out.lt
          clear hok hap
          go_wp2_with (refine wpList_load_sub rfl 60 (.tmp 114) rfl g9 0 56 rfl 63 _ _ BM.out Try.underlying60 rfl (by kernel_rfl) MR.out.size56 _ MR.out.regs ?_)
          go_loopw [116] (fun i wr => ∃ x : Nat, x ≤ 8 ∧ i = .int .i64 x ∧ Below W.heap.size W wr) (fun i _ => 8 - (intOf i).toNat)
          case atStart => exact ⟨0, Nat.zero_le _, rfl, Below.refl _ _⟩
          case round =>
            as_aux_lemma =>
            obtain ⟨x, hx8, rfl, hbq⟩ := hrel
            have HBQ := Lib.hid hbq
            clear hbq
            by_cases hlx : x < 8
            · have y0 : (0 : Int) ≤ x := by omega
              have y1 : (x : Int) < 8 := by omega
              have hsc := fun W' => run_slice_regs g9 x hx8 W'
              obtain ⟨v, hv⟩ : ∃ v, (R.set j ⟨true, 0, ⟨q0, q1, q2, q3, q4⟩⟩)[x]? = some v := ⟨_, List.getElem?_eq_getElem (by omega)⟩
              have hix := fun W' => run_index_regs (R.set j ⟨true, 0, ⟨q0, q1, q2, q3, q4⟩⟩) MR.out.h8 hv W'
              have hvo := kbd (HOK.out v (List.mem_of_getElem? hv))
              have hvx := fun (z : Nat) (u : ValV) (hz : z < x) (hu : (R.set j ⟨true, 0, ⟨q0, q1, q2, q3, q4⟩⟩)[z]? = some u) => pair_at HAP.out hz hu hv
              have HVX := Lib.hid hvx
              clear hvx hv
              obtain ⟨vi, vn, vp, vb, vl, va, vs⟩ := v
              simp only [ValV.val] at hix hvo
              obtain ⟨v0, v1, v2, v3⟩ := hvo
              go_upto_region 34 with (fail)
              obtain ⟨w6, hw6⟩ : ∃ w6, w6 = wr.alloc (.cells #[.bool vi, .int .i64 vn, .int .i64 vp, .int .i64 vb, .int .i64 vl, .int .i64 va, .int .i64 vs] 42) := ⟨_, rfl⟩
              rw [← hw6]
              obtain ⟨g23, hg23⟩ : ∃ g, wr.heap.size = g := ⟨_, rfl⟩
              try rw [hg23]
              have b6 : Below W.heap.size W w6 := by rw [hw6]; exact ext_alloc HBQ.out _
              have x6 : Bk w6 g23 42 #[.bool vi, .int .i64 vn, .int .i64 vp, .int .i64 vb, .int .i64 vl, .int .i64 va, .int .i64 vs] := by rw [hw6, ← hg23]; exact bk_new _ _ _
              have B6 := Lib.hid b6
              have X6 := Lib.hid x6
              have mL6 := (bk_keep b6 BM.out).lt
              clear hw6 hg23 b6 x6 hix
              go_wp2
              go_loopw [124] (fun i wr => ∃ j : Nat, j ≤ x ∧ i = .int .i64 j ∧ Below w6.heap.size w6 wr) (fun i _ => x - (intOf i).toNat)
              case atStart => exact ⟨0, Nat.zero_le _, rfl, Below.refl _ _⟩
              case round =>
                obtain ⟨z, hzx, rfl, hbp⟩ := hrel
                have HBP := Lib.hid hbp
                clear hbp
                by_cases hlz : z < x
                · have z0 : (0 : Int) ≤ z := by omega
                  have z1 : (z : Int) < x := by omega
                  obtain ⟨u, hu⟩ : ∃ u, (R.set j ⟨true, 0, ⟨q0, q1, q2, q3, q4⟩⟩)[z]? = some u := ⟨_, List.getElem?_eq_getElem (by omega)⟩
                  have huo := kbd (HOK.out u (List.mem_of_getElem? hu))
                  have hka := HVX.out z u hlz hu
                  have bm := bk_keep (ext_trans B6.out HBP.out) BM.out
                  have k0 : wr.cell? ⟨g9, z * 7, none⟩ = some (.bool u.is) := MR.out.cellR bm (j := 0) hu (by decide) rfl
                  have k1 := MR.out.cellR bm (j := 1) hu (by decide) (u := .int .i64 u.n) rfl
                  have k2 := MR.out.cellR bm (j := 2) hu (by decide) (u := .int .i64 u.k.perm) rfl
                  have k3 := MR.out.cellR bm (j := 3) hu (by decide) (u := .int .i64 u.k.base) rfl
                  have k4 := MR.out.cellR bm (j := 4) hu (by decide) (u := .int .i64 u.k.len) rfl
                  have k5 := MR.out.cellR bm (j := 5) hu (by decide) (u := .int .i64 u.k.at_) rfl
                  have k6 := MR.out.cellR bm (j := 6) hu (by decide) (u := .int .i64 u.k.seal_) rfl
                  have mLp := bm.lt
                  obtain ⟨ui, un, up, ub, ul, ua, us⟩ := u
                  unfold kApart apart at hka
                  simp only at huo hka k0 k1 k2 k3 k4 k5 k6
                  obtain ⟨u0, u1, u2, u3⟩ := huo
                  obtain ⟨w7, hw7⟩ : ∃ w7, w7 = wr.alloc (.cells #[.bool ui, .int .i64 un, .int .i64 up, .int .i64 ub, .int .i64 ul, .int .i64 ua, .int .i64 us] 42) := ⟨_, rfl⟩
                  have b7 : Below w6.heap.size w6 w7 := by rw [hw7]; exact ext_alloc HBP.out _
                  have x7 : Bk w7 wr.heap.size 42 #[.bool ui, .int .i64 un, .int .i64 up, .int .i64 ub, .int .i64 ul, .int .i64 ua, .int .i64 us] := by rw [hw7]; exact bk_new _ _ _
                  obtain ⟨g25, hg25⟩ : ∃ g, g = wr.heap.size := ⟨_, rfl⟩
                  rw [← hg25] at x7
                  have HW7 := Lib.hid hw7
                  have HG25 := Lib.hid hg25
                  have B7 := Lib.hid b7
                  have X7 := Lib.hid x7
                  clear hw7 hg25 b7 x7 hu bm
                  go_upto_region 37 with (fail)
                  try rw [← HG25.out]
                  rw [← HW7.out]
                  clear k0 k1 k2 k3 k4 k5 k6 HW7 HG25 mLp
                  obtain ⟨s0, s1, s2, s3, s4, s5, s6⟩ := cells7 X7.out
                  have sL := X7.out.lt
                  obtain ⟨t0, t1, t2, t3, t4, t5, t6⟩ := cells7 (bk_keep B7.out X6.out)
                  have tL := (bk_keep B7.out X6.out).lt
                  cases vi <;> cases ui
                  · clear hka
                    go_wp2
                    go_roundw
                    case rel => exact ⟨z + 1, by omega, by go_num, B7.out⟩
                    case measure => simp [intOf]; omega
                  · clear hka
                    go_wp2
                    go_roundw
                    case rel => exact ⟨z + 1, by omega, by go_num, B7.out⟩
                    case measure => simp [intOf]; omega
                  · clear hka
                    go_wp2
                    go_roundw
                    case rel => exact ⟨z + 1, by omega, by go_num, B7.out⟩
                    case measure => simp [intOf]; omega
                  · have hka := hka rfl rfl
                    by_cases hf : vb < ub + ul
                    · have hs : ¬ (ub < vb + vl) := by omega
                      clear hka
                      go_wp2
                      go_roundw
                      case rel => exact ⟨z + 1, by omega, by go_num, B7.out⟩
                      case measure => simp [intOf]; omega
                    · clear hka
                      go_wp2
                      go_roundw
                      case rel => exact ⟨z + 1, by omega, by go_num, B7.out⟩
                      case measure => simp [intOf]; omega
                · have z1 : ¬ ((z : Int) < x) := by omega
                  go_wp2
                  go_roundw
                  case rel => exact ⟨x + 1, by omega, by go_num, ext_trans B6.out HBP.out⟩
                  case measure => simp [intOf]; omega
            · have y1 : ¬ ((x : Int) < 8) := by omega
              go_wp2
              go_roundw
              case rel => exact ⟨k + 1, gm, R.set j ⟨true, 0, ⟨q0, q1, q2, q3, q4⟩⟩, _, by omega, by go_num, OW.out.below HBQ.out, HS.out, MR.out, bk_keep HBQ.out BM.out, ext_trans BW.out HBQ.out⟩
              case measure => simp [intOf]; omega
        · have g1 : (gc == 0) = false := by simp [hc0]
          clear hc0
          go_upto_region 24 with (go_at_call 30; ((with_reducible refine (GV.out).mono ?_); rintro e w6 ⟨v6, rfl, ho6, hb6⟩; have HO6 := Lib.hid ho6; have HB6 := Lib.hid hb6; clear ho6 hb6))
          have hs5 := B5.out.size
          obtain ⟨W, hW⟩ : ∃ W, W = w6.alloc (.cells #[.int .i64 q0, .int .i64 q1, .int .i64 q2, .int .i64 q3, .int .i64 q4] 40) := ⟨_, rfl⟩
          rw [← hW]
          have OW := Lib.hid (show Own W w.heap.size 87 (.slice ha ps.length hc) (ps) by rw [hW]; exact O5.out.below (ext_alloc HB6.out _))
          have HS := Lib.hid (HSF.out)
          have MR := Lib.hid (HMR.out)
          have BM := Lib.hid (show Bk W g9 63 _ by rw [hW]; exact bk_keep (ext_alloc HB6.out _) M5.out)
          have BW := Lib.hid (show Below w.heap.size w W by rw [hW]; exact ext_trans B5.out (ext_alloc HB6.out _))
          clear hW
          have hok := HS.out.ok
          have hap := HS.out.ap
          have HOK := Lib.hid hok
          have HAP := Lib.hid hap
          have h8 := MR.out.h8
          have mL := BM.out.lt
          clear hok hap
          go_wp2_with (refine wpList_load_sub rfl 60 (.tmp 114) rfl g9 0 56 rfl 63 _ _ BM.out Try.underlying60 rfl (by kernel_rfl) MR.out.size56 _ MR.out.regs ?_)
          go_loopw [116] (fun i wr => ∃ x : Nat, x ≤ 8 ∧ i = .int .i64 x ∧ Below W.heap.size W wr) (fun i _ => 8 - (intOf i).toNat)
          case atStart => exact ⟨0, Nat.zero_le _, rfl, Below.refl _ _⟩
          case round =>
            as_aux_lemma =>
            obtain ⟨x, hx8, rfl, hbq⟩ := hrel
            have HBQ := Lib.hid hbq
            clear hbq
            by_cases hlx : x < 8
            · have y0 : (0 : Int) ≤ x := by omega
              have y1 : (x : Int) < 8 := by omega
              have hsc := fun W' => run_slice_regs g9 x hx8 W'
              obtain ⟨v, hv⟩ : ∃ v, (R)[x]? = some v := ⟨_, List.getElem?_eq_getElem (by omega)⟩
              have hix := fun W' => run_index_regs (R) MR.out.h8 hv W'
              have hvo := kbd (HOK.out v (List.mem_of_getElem? hv))
              have hvx := fun (z : Nat) (u : ValV) (hz : z < x) (hu : (R)[z]? = some u) => pair_at HAP.out hz hu hv
              have HVX := Lib.hid hvx
              clear hvx hv
              obtain ⟨vi, vn, vp, vb, vl, va, vs⟩ := v
              simp only [ValV.val] at hix hvo
              obtain ⟨v0, v1, v2, v3⟩ := hvo
              go_upto_region 34 with (fail)
              obtain ⟨w6, hw6⟩ : ∃ w6, w6 = wr.alloc (.cells #[.bool vi, .int .i64 vn, .int .i64 vp, .int .i64 vb, .int .i64 vl, .int .i64 va, .int .i64 vs] 42) := ⟨_, rfl⟩
              rw [← hw6]
              obtain ⟨g23, hg23⟩ : ∃ g, wr.heap.size = g := ⟨_, rfl⟩
              try rw [hg23]
              have b6 : Below W.heap.size W w6 := by rw [hw6]; exact ext_alloc HBQ.out _
              have x6 : Bk w6 g23 42 #[.bool vi, .int .i64 vn, .int .i64 vp, .int .i64 vb, .int .i64 vl, .int .i64 va, .int .i64 vs] := by rw [hw6, ← hg23]; exact bk_new _ _ _
              have B6 := Lib.hid b6
              have X6 := Lib.hid x6
              have mL6 := (bk_keep b6 BM.out).lt
              clear hw6 hg23 b6 x6 hix
              go_wp2
              go_loopw [124] (fun i wr => ∃ j : Nat, j ≤ x ∧ i = .int .i64 j ∧ Below w6.heap.size w6 wr) (fun i _ => x - (intOf i).toNat)
              case atStart => exact ⟨0, Nat.zero_le _, rfl, Below.refl _ _⟩
              case round =>
                obtain ⟨z, hzx, rfl, hbp⟩ := hrel
                have HBP := Lib.hid hbp
                clear hbp
                by_cases hlz : z < x
                · have z0 : (0 : Int) ≤ z := by omega
                  have z1 : (z : Int) < x := by omega
                  obtain ⟨u, hu⟩ : ∃ u, (R)[z]? = some u := ⟨_, List.getElem?_eq_getElem (by omega)⟩
                  have huo := kbd (HOK.out u (List.mem_of_getElem? hu))
                  have hka := HVX.out z u hlz hu
                  have bm := bk_keep (ext_trans B6.out HBP.out) BM.out
                  have k0 : wr.cell? ⟨g9, z * 7, none⟩ = some (.bool u.is) := MR.out.cellR bm (j := 0) hu (by decide) rfl
                  have k1 := MR.out.cellR bm (j := 1) hu (by decide) (u := .int .i64 u.n) rfl
                  have k2 := MR.out.cellR bm (j := 2) hu (by decide) (u := .int .i64 u.k.perm) rfl
                  have k3 := MR.out.cellR bm (j := 3) hu (by decide) (u := .int .i64 u.k.base) rfl
                  have k4 := MR.out.cellR bm (j := 4) hu (by decide) (u := .int .i64 u.k.len) rfl
                  have k5 := MR.out.cellR bm (j := 5) hu (by decide) (u := .int .i64 u.k.at_) rfl
                  have k6 := MR.out.cellR bm (j := 6) hu (by decide) (u := .int .i64 u.k.seal_) rfl
                  have mLp := bm.lt
                  obtain ⟨ui, un, up, ub, ul, ua, us⟩ := u
                  unfold kApart apart at hka
                  simp only at huo hka k0 k1 k2 k3 k4 k5 k6
                  obtain ⟨u0, u1, u2, u3⟩ := huo
                  obtain ⟨w7, hw7⟩ : ∃ w7, w7 = wr.alloc (.cells #[.bool ui, .int .i64 un, .int .i64 up, .int .i64 ub, .int .i64 ul, .int .i64 ua, .int .i64 us] 42) := ⟨_, rfl⟩
                  have b7 : Below w6.heap.size w6 w7 := by rw [hw7]; exact ext_alloc HBP.out _
                  have x7 : Bk w7 wr.heap.size 42 #[.bool ui, .int .i64 un, .int .i64 up, .int .i64 ub, .int .i64 ul, .int .i64 ua, .int .i64 us] := by rw [hw7]; exact bk_new _ _ _
                  obtain ⟨g25, hg25⟩ : ∃ g, g = wr.heap.size := ⟨_, rfl⟩
                  rw [← hg25] at x7
                  have HW7 := Lib.hid hw7
                  have HG25 := Lib.hid hg25
                  have B7 := Lib.hid b7
                  have X7 := Lib.hid x7
                  clear hw7 hg25 b7 x7 hu bm
                  go_upto_region 37 with (fail)
                  try rw [← HG25.out]
                  rw [← HW7.out]
                  clear k0 k1 k2 k3 k4 k5 k6 HW7 HG25 mLp
                  obtain ⟨s0, s1, s2, s3, s4, s5, s6⟩ := cells7 X7.out
                  have sL := X7.out.lt
                  obtain ⟨t0, t1, t2, t3, t4, t5, t6⟩ := cells7 (bk_keep B7.out X6.out)
                  have tL := (bk_keep B7.out X6.out).lt
                  cases vi <;> cases ui
                  · clear hka
                    go_wp2
                    go_roundw
                    case rel => exact ⟨z + 1, by omega, by go_num, B7.out⟩
                    case measure => simp [intOf]; omega
                  · clear hka
                    go_wp2
                    go_roundw
                    case rel => exact ⟨z + 1, by omega, by go_num, B7.out⟩
                    case measure => simp [intOf]; omega
                  · clear hka
                    go_wp2
                    go_roundw
                    case rel => exact ⟨z + 1, by omega, by go_num, B7.out⟩
                    case measure => simp [intOf]; omega
                  · have hka := hka rfl rfl
                    by_cases hf : vb < ub + ul
                    · have hs : ¬ (ub < vb + vl) := by omega
                      clear hka
                      go_wp2
                      go_roundw
                      case rel => exact ⟨z + 1, by omega, by go_num, B7.out⟩
                      case measure => simp [intOf]; omega
                    · clear hka
                      go_wp2
                      go_roundw
                      case rel => exact ⟨z + 1, by omega, by go_num, B7.out⟩
                      case measure => simp [intOf]; omega
                · have z1 : ¬ ((z : Int) < x) := by omega
                  go_wp2
                  go_roundw
                  case rel => exact ⟨x + 1, by omega, by go_num, ext_trans B6.out HBP.out⟩
                  case measure => simp [intOf]; omega
            · have y1 : ¬ ((x : Int) < 8) := by omega
              go_wp2
              go_roundw
              case rel => exact ⟨k + 1, ps, R, _, by omega, by go_num, OW.out.below HBQ.out, HS.out, MR.out, bk_keep HBQ.out BM.out, ext_trans BW.out HBQ.out⟩
              case measure => simp [intOf]; omega
      · subst h
        clear t0 t5
        go_upto_region 28 with (first | (go_at_call 29; ((with_reducible refine (OF.out _).mono ?_); rintro e w5 ⟨rfl, hb5⟩; have HB5 := Lib.hid hb5; clear hb5)) | fail)
        obtain ⟨x5, m5, o5, s5, b5⟩ := GOF.out w5 HB5.out
        clear x0 x1 x2 xL
        obtain ⟨x0, x1, x2⟩ := cells3 x5
        have xL := x5.lt
        have bv0 := hback_any ha _ hc ps nn w5 s5
        have hbi := fun hc => hsafe_back (b := nn) (c := (backF ps nn).2) (m := (backF ps nn).1) HSF.out rfl hc
        generalize backF ps nn = rr at bv0 hbi
        obtain ⟨gm, gc⟩ := rr
        simp only at bv0 hbi
        unfold ResPost at bv0
        have BV := Lib.hid bv0
        have HBI := Lib.hid hbi
        have X5 := Lib.hid x5
        have M5 := Lib.hid m5
        have O5 := Lib.hid o5
        have B5 := Lib.hid b5
        clear bv0 hbi x5 m5 o5 s5 b5
        by_cases hc0 : gc = 0
        · subst hc0
          have HBJ := Lib.hid (HBI.out rfl)
          go_upto_region 31 with (go_at_call 31; ((with_reducible refine (BV.out).mono ?_); rintro e w6 ⟨v6, rfl, ho6, hb6⟩; have HO6 := Lib.hid ho6; have HB6 := Lib.hid hb6; clear ho6 hb6))
          have hs5 := B5.out.size
          obtain ⟨W, hW⟩ : ∃ W, W = w6 := ⟨_, rfl⟩
          rw [← hW]
          have OW := Lib.hid (show Own W w.heap.size 87 v6 (gm) by rw [hW]; exact HO6.out.mono (by omega))
          have HS := Lib.hid (HBJ.out)
          have MR := Lib.hid (HMR.out)
          have BM := Lib.hid (show Bk W g9 63 _ by rw [hW]; exact bk_keep HB6.out M5.out)
          have BW := Lib.hid (show Below w.heap.size w W by rw [hW]; exact ext_trans B5.out HB6.out)
          clear hW
          have hok := HS.out.ok
          have hap := HS.out.ap
          have HOK := Lib.hid hok
          have HAP := Lib.hid hap
          have h8 := MR.out.h8
          have mL := BM.out.lt
          clear hok hap
          go_wp2_with (refine wpList_load_sub rfl 60 (.tmp 114) rfl g9 0 56 rfl 63 _ _ BM.out Try.underlying60 rfl (by kernel_rfl) MR.out.size56 _ MR.out.regs ?_)
          go_loopw [116] (fun i wr => ∃ x : Nat, x ≤ 8 ∧ i = .int .i64 x ∧ Below W.heap.size W wr) (fun i _ => 8 - (intOf i).toNat)
          case atStart => exact ⟨0, Nat.zero_le _, rfl, Below.refl _ _⟩
          case round =>
            as_aux_lemma =>
            obtain ⟨x, hx8, rfl, hbq⟩ := hrel
            have HBQ := Lib.hid hbq
            clear hbq
            by_cases hlx : x < 8
            · have y0 : (0 : Int) ≤ x := by omega
              have y1 : (x : Int) < 8 := by omega
              have hsc := fun W' => run_slice_regs g9 x hx8 W'
              obtain ⟨v, hv⟩ : ∃ v, (R)[x]? = some v := ⟨_, List.getElem?_eq_getElem (by omega)⟩
              have hix := fun W' => run_index_regs (R) MR.out.h8 hv W'
              have hvo := kbd (HOK.out v (List.mem_of_getElem? hv))
              have hvx := fun (z : Nat) (u : ValV) (hz : z < x) (hu : (R)[z]? = some u) => pair_at HAP.out hz hu hv
              have HVX := Lib.hid hvx
              clear hvx hv
              obtain ⟨vi, vn, vp, vb, vl, va, vs⟩ := v
              simp only [ValV.val] at hix hvo
              obtain ⟨v0, v1, v2, v3⟩ := hvo
              go_upto_region 34 with (fail)
              obtain ⟨w6, hw6⟩ : ∃ w6, w6 = wr.alloc (.cells #[.bool vi, .int .i64 vn, .int .i64 vp, .int .i64 vb, .int .i64 vl, .int .i64 va, .int .i64 vs] 42) := ⟨_, rfl⟩
              rw [← hw6]
              obtain ⟨g23, hg23⟩ : ∃ g, wr.heap.size = g := ⟨_, rfl⟩
              try rw [hg23]
              have b6 : Below W.heap.size W w6 := by rw [hw6]; exact ext_alloc HBQ.out _
              have x6 : Bk w6 g23 42 #[.bool vi, .int .i64 vn, .int .i64 vp, .int .i64 vb, .int .i64 vl, .int .i64 va, .int .i64 vs] := by rw [hw6, ← hg23]; exact bk_new _ _ _
              have B6 := Lib.hid b6
              have X6 := Lib.hid x6
              have mL6 := (bk_keep b6 BM.out).lt
              clear hw6 hg23 b6 x6 hix
              go_wp2
              go_loopw [124] (fun i wr => ∃ j : Nat, j ≤ x ∧ i = .int .i64 j ∧ Below w6.heap.size w6 wr) (fun i _ => x - (intOf i).toNat)
              case atStart => exact ⟨0, Nat.zero_le _, rfl, Below.refl _ _⟩
              case round =>
                obtain ⟨z, hzx, rfl, hbp⟩ := hrel
                have HBP := Lib.hid hbp
                clear hbp
                by_cases hlz : z < x
                · have z0 : (0 : Int) ≤ z := by omega
                  have z1 : (z : Int) < x := by omega
                  obtain ⟨u, hu⟩ : ∃ u, (R)[z]? = some u := ⟨_, List.getElem?_eq_getElem (by omega)⟩
                  have huo := kbd (HOK.out u (List.mem_of_getElem? hu))
                  have hka := HVX.out z u hlz hu
                  have bm := bk_keep (ext_trans B6.out HBP.out) BM.out
                  have k0 : wr.cell? ⟨g9, z * 7, none⟩ = some (.bool u.is) := MR.out.cellR bm (j := 0) hu (by decide) rfl
                  have k1 := MR.out.cellR bm (j := 1) hu (by decide) (u := .int .i64 u.n) rfl
                  have k2 := MR.out.cellR bm (j := 2) hu (by decide) (u := .int .i64 u.k.perm) rfl
                  have k3 := MR.out.cellR bm (j := 3) hu (by decide) (u := .int .i64 u.k.base) rfl
                  have k4 := MR.out.cellR bm (j := 4) hu (by decide) (u := .int .i64 u.k.len) rfl
                  have k5 := MR.out.cellR bm (j := 5) hu (by decide) (u := .int .i64 u.k.at_) rfl
                  have k6 := MR.out.cellR bm (j := 6) hu (by decide) (u := .int .i64 u.k.seal_) rfl
                  have mLp := bm.lt
                  obtain ⟨ui, un, up, ub, ul, ua, us⟩ := u
                  unfold kApart apart at hka
                  simp only at huo hka k0 k1 k2 k3 k4 k5 k6
                  obtain ⟨u0, u1, u2, u3⟩ := huo
                  obtain ⟨w7, hw7⟩ : ∃ w7, w7 = wr.alloc (.cells #[.bool ui, .int .i64 un, .int .i64 up, .int .i64 ub, .int .i64 ul, .int .i64 ua, .int .i64 us] 42) := ⟨_, rfl⟩
                  have b7 : Below w6.heap.size w6 w7 := by rw [hw7]; exact ext_alloc HBP.out _
                  have x7 : Bk w7 wr.heap.size 42 #[.bool ui, .int .i64 un, .int .i64 up, .int .i64 ub, .int .i64 ul, .int .i64 ua, .int .i64 us] := by rw [hw7]; exact bk_new _ _ _
                  obtain ⟨g25, hg25⟩ : ∃ g, g = wr.heap.size := ⟨_, rfl⟩
                  rw [← hg25] at x7
                  have HW7 := Lib.hid hw7
                  have HG25 := Lib.hid hg25
                  have B7 := Lib.hid b7
                  have X7 := Lib.hid x7
                  clear hw7 hg25 b7 x7 hu bm
                  go_upto_region 37 with (fail)
                  try rw [← HG25.out]
                  rw [← HW7.out]
                  clear k0 k1 k2 k3 k4 k5 k6 HW7 HG25 mLp
                  obtain ⟨s0, s1, s2, s3, s4, s5, s6⟩ := cells7 X7.out
                  have sL := X7.out.lt
                  obtain ⟨t0, t1, t2, t3, t4, t5, t6⟩ := cells7 (bk_keep B7.out X6.out)
                  have tL := (bk_keep B7.out X6.out).lt
                  cases vi <;> cases ui
                  · clear hka
                    go_wp2
                    go_roundw
                    case rel => exact ⟨z + 1, by omega, by go_num, B7.out⟩
                    case measure => simp [intOf]; omega
                  · clear hka
                    go_wp2
                    go_roundw
                    case rel => exact ⟨z + 1, by omega, by go_num, B7.out⟩
                    case measure => simp [intOf]; omega
                  · clear hka
                    go_wp2
                    go_roundw
                    case rel => exact ⟨z + 1, by omega, by go_num, B7.out⟩
                    case measure => simp [intOf]; omega
                  · have hka := hka rfl rfl
                    by_cases hf : vb < ub + ul
                    · have hs : ¬ (ub < vb + vl) := by omega
                      clear hka
                      go_wp2
                      go_roundw
                      case rel => exact ⟨z + 1, by omega, by go_num, B7.out⟩
                      case measure => simp [intOf]; omega
                    · clear hka
                      go_wp2
                      go_roundw
                      case rel => exact ⟨z + 1, by omega, by go_num, B7.out⟩
                      case measure => simp [intOf]; omega
                · have z1 : ¬ ((z : Int) < x) := by omega
                  go_wp2
                  go_roundw
                  case rel => exact ⟨x + 1, by omega, by go_num, ext_trans B6.out HBP.out⟩
                  case measure => simp [intOf]; omega
            · have y1 : ¬ ((x : Int) < 8) := by omega
              go_wp2
              go_roundw
              case rel => exact ⟨k + 1, gm, R, _, by omega, by go_num, OW.out.below HBQ.out, HS.out, MR.out, bk_keep HBQ.out BM.out, ext_trans BW.out HBQ.out⟩
              case measure => simp [intOf]; omega
        · have g1 : (gc == 0) = false := by simp [hc0]
          clear hc0
          go_upto_region 31 with (go_at_call 31; ((with_reducible refine (BV.out).mono ?_); rintro e w6 ⟨v6, rfl, ho6, hb6⟩; have HO6 := Lib.hid ho6; have HB6 := Lib.hid hb6; clear ho6 hb6))
          have hs5 := B5.out.size
          obtain ⟨W, hW⟩ : ∃ W, W = w6 := ⟨_, rfl⟩
          rw [← hW]
          have OW := Lib.hid (show Own W w.heap.size 87 (.slice ha ps.length hc) (ps) by rw [hW]; exact O5.out.below HB6.out)
          have HS := Lib.hid (HSF.out)
          have MR := Lib.hid (HMR.out)
          have BM := Lib.hid (show Bk W g9 63 _ by rw [hW]; exact bk_keep HB6.out M5.out)
          have BW := Lib.hid (show Below w.heap.size w W by rw [hW]; exact ext_trans B5.out HB6.out)
          clear hW
          have hok := HS.out.ok
          have hap := HS.out.ap
          have HOK := Lib.hid hok
          have HAP := Lib.hid hap
          have h8 := MR.out.h8
          have mL := BM.out.lt
          clear hok hap
          go_wp2_with (refine wpList_load_sub rfl 60 (.tmp 114) rfl g9 0 56 rfl 63 _ _ BM.out Try.underlying60 rfl (by kernel_rfl) MR.out.size56 _ MR.out.regs ?_)
          go_loopw [116] (fun i wr => ∃ x : Nat, x ≤ 8 ∧ i = .int .i64 x ∧ Below W.heap.size W wr) (fun i _ => 8 - (intOf i).toNat)
          case atStart => exact ⟨0, Nat.zero_le _, rfl, Below.refl _ _⟩
          case round =>
            as_aux_lemma =>
            obtain ⟨x, hx8, rfl, hbq⟩ := hrel
            have HBQ := Lib.hid hbq
            clear hbq
            by_cases hlx : x < 8
            · have y0 : (0 : Int) ≤ x := by omega
              have y1 : (x : Int) < 8 := by omega
              have hsc := fun W' => run_slice_regs g9 x hx8 W'
              obtain ⟨v, hv⟩ : ∃ v, (R)[x]? = some v := ⟨_, List.getElem?_eq_getElem (by omega)⟩
              have hix := fun W' => run_index_regs (R) MR.out.h8 hv W'
              have hvo := kbd (HOK.out v (List.mem_of_getElem? hv))
              have hvx := fun (z : Nat) (u : ValV) (hz : z < x) (hu : (R)[z]? = some u) => pair_at HAP.out hz hu hv
              have HVX := Lib.hid hvx
              clear hvx hv
              obtain ⟨vi, vn, vp, vb, vl, va, vs⟩ := v
              simp only [ValV.val] at hix hvo
              obtain ⟨v0, v1, v2, v3⟩ := hvo
              go_upto_region 34 with (fail)
              obtain ⟨w6, hw6⟩ : ∃ w6, w6 = wr.alloc (.cells #[.bool vi, .int .i64 vn, .int .i64 vp, .int .i64 vb, .int .i64 vl, .int .i64 va, .int .i64 vs] 42) := ⟨_, rfl⟩
              rw [← hw6]
              obtain ⟨g23, hg23⟩ : ∃ g, wr.heap.size = g := ⟨_, rfl⟩
              try rw [hg23]
              have b6 : Below W.heap.size W w6 := by rw [hw6]; exact ext_alloc HBQ.out _
              have x6 : Bk w6 g23 42 #[.bool vi, .int .i64 vn, .int .i64 vp, .int .i64 vb, .int .i64 vl, .int .i64 va, .int .i64 vs] := by rw [hw6, ← hg23]; exact bk_new _ _ _
              have B6 := Lib.hid b6
              have X6 := Lib.hid x6
              have mL6 := (bk_keep b6 BM.out).lt
              clear hw6 hg23 b6 x6 hix
              go_wp2
              go_loopw [124] (fun i wr => ∃ j : Nat, j ≤ x ∧ i = .int .i64 j ∧ Below w6.heap.size w6 wr) (fun i _ => x - (intOf i).toNat)
              case atStart => exact ⟨0, Nat.zero_le _, rfl, Below.refl _ _⟩
              case round =>
                obtain ⟨z, hzx, rfl, hbp⟩ := hrel
                have HBP := Lib.hid hbp
                clear hbp
                by_cases hlz : z < x
                · have z0 : (0 : Int) ≤ z := by omega
                  have z1 : (z : Int) < x := by omega
                  obtain ⟨u, hu⟩ : ∃ u, (R)[z]? = some u := ⟨_, List.getElem?_eq_getElem (by omega)⟩
                  have huo := kbd (HOK.out u (List.mem_of_getElem? hu))
                  have hka := HVX.out z u hlz hu
                  have bm := bk_keep (ext_trans B6.out HBP.out) BM.out
                  have k0 : wr.cell? ⟨g9, z * 7, none⟩ = some (.bool u.is) := MR.out.cellR bm (j := 0) hu (by decide) rfl
                  have k1 := MR.out.cellR bm (j := 1) hu (by decide) (u := .int .i64 u.n) rfl
                  have k2 := MR.out.cellR bm (j := 2) hu (by decide) (u := .int .i64 u.k.perm) rfl
                  have k3 := MR.out.cellR bm (j := 3) hu (by decide) (u := .int .i64 u.k.base) rfl
                  have k4 := MR.out.cellR bm (j := 4) hu (by decide) (u := .int .i64 u.k.len) rfl
                  have k5 := MR.out.cellR bm (j := 5) hu (by decide) (u := .int .i64 u.k.at_) rfl
                  have k6 := MR.out.cellR bm (j := 6) hu (by decide) (u := .int .i64 u.k.seal_) rfl
                  have mLp := bm.lt
                  obtain ⟨ui, un, up, ub, ul, ua, us⟩ := u
                  unfold kApart apart at hka
                  simp only at huo hka k0 k1 k2 k3 k4 k5 k6
                  obtain ⟨u0, u1, u2, u3⟩ := huo
                  obtain ⟨w7, hw7⟩ : ∃ w7, w7 = wr.alloc (.cells #[.bool ui, .int .i64 un, .int .i64 up, .int .i64 ub, .int .i64 ul, .int .i64 ua, .int .i64 us] 42) := ⟨_, rfl⟩
                  have b7 : Below w6.heap.size w6 w7 := by rw [hw7]; exact ext_alloc HBP.out _
                  have x7 : Bk w7 wr.heap.size 42 #[.bool ui, .int .i64 un, .int .i64 up, .int .i64 ub, .int .i64 ul, .int .i64 ua, .int .i64 us] := by rw [hw7]; exact bk_new _ _ _
                  obtain ⟨g25, hg25⟩ : ∃ g, g = wr.heap.size := ⟨_, rfl⟩
                  rw [← hg25] at x7
                  have HW7 := Lib.hid hw7
                  have HG25 := Lib.hid hg25
                  have B7 := Lib.hid b7
                  have X7 := Lib.hid x7
                  clear hw7 hg25 b7 x7 hu bm
                  go_upto_region 37 with (fail)
                  try rw [← HG25.out]
                  rw [← HW7.out]
                  clear k0 k1 k2 k3 k4 k5 k6 HW7 HG25 mLp
                  obtain ⟨s0, s1, s2, s3, s4, s5, s6⟩ := cells7 X7.out
                  have sL := X7.out.lt
                  obtain ⟨t0, t1, t2, t3, t4, t5, t6⟩ := cells7 (bk_keep B7.out X6.out)
                  have tL := (bk_keep B7.out X6.out).lt
                  cases vi <;> cases ui
                  · clear hka
                    go_wp2
                    go_roundw
                    case rel => exact ⟨z + 1, by omega, by go_num, B7.out⟩
                    case measure => simp [intOf]; omega
                  · clear hka
                    go_wp2
                    go_roundw
                    case rel => exact ⟨z + 1, by omega, by go_num, B7.out⟩
                    case measure => simp [intOf]; omega
                  · clear hka
                    go_wp2
                    go_roundw
                    case rel => exact ⟨z + 1, by omega, by go_num, B7.out⟩
                    case measure => simp [intOf]; omega
                  · have hka := hka rfl rfl
                    by_cases hf : vb < ub + ul
                    · have hs : ¬ (ub < vb + vl) := by omega
                      clear hka
                      go_wp2
                      go_roundw
                      case rel => exact ⟨z + 1, by omega, by go_num, B7.out⟩
                      case measure => simp [intOf]; omega
                    · clear hka
                      go_wp2
                      go_roundw
                      case rel => exact ⟨z + 1, by omega, by go_num, B7.out⟩
                      case measure => simp [intOf]; omega
                · have z1 : ¬ ((z : Int) < x) := by omega
                  go_wp2
                  go_roundw
                  case rel => exact ⟨x + 1, by omega, by go_num, ext_trans B6.out HBP.out⟩
                  case measure => simp [intOf]; omega
            · have y1 : ¬ ((x : Int) < 8) := by omega
              go_wp2
              go_roundw
              case rel => exact ⟨k + 1, ps, R, _, by omega, by go_num, OW.out.below HBQ.out, HS.out, MR.out, bk_keep HBQ.out BM.out, ext_trans BW.out HBQ.out⟩
              case measure => simp [intOf]; omega
      · subst h
        clear t0 t5
        go_upto_region 10 with (first | (go_at_call 29; ((with_reducible refine (OF.out _).mono ?_); rintro e w5 ⟨rfl, hb5⟩; have HB5 := Lib.hid hb5; clear hb5)) | fail)
        obtain ⟨x5, m5, o5, s5, b5⟩ := GOF.out w5 HB5.out
        clear x0 x1 x2 xL
        have M5 := Lib.hid m5
        have O5 := Lib.hid o5
        have B5 := Lib.hid b5
        have hpl := HSF.out.len
        have hbs := HSF.out.err
        clear x5 m5 o5 s5 b5
        go_wp2
        go_loopw [54] (fun i wr => ∃ (j : Nat) (R2 : List ValV) (cs2 : Array Value), j ≤ ps.length ∧ i = .int .i64 j ∧ Own wr w.heap.size 87 (.slice ha ps.length hc) ps ∧ HSafe b r ps R2 ∧ clearOf ps j R2 ∧ MReg R2 cs2 ∧ Bk wr g9 63 cs2 ∧ Below w.heap.size w wr) (fun i _ => ps.length - (intOf i).toNat)
        case atStart => exact ⟨0, R, cs, Nat.zero_le _, rfl, O5.out, HSF.out, clear_zero _ _, HMR.out, M5.out, B5.out⟩
        case round =>
          obtain ⟨j, R2, cs2, hj, rfl, oq, hs2, hcl, mr2, bm2, bq⟩ := hrel
          have OQ := Lib.hid oq
          have HS2 := Lib.hid hs2
          have HCL := Lib.hid hcl
          have MR2 := Lib.hid mr2
          have BM2 := Lib.hid bm2
          have BQ := Lib.hid bq
          obtain ⟨_, _, e_, hsq, _⟩ := oq.sl
          injection e_ with ea_ _ ec_
          subst ea_ ec_
          have HSQ := Lib.hid hsq
          clear oq hs2 hcl mr2 bm2 bq hsq
          by_cases hlj : j < ps.length
          · have z0 : (0 : Int) ≤ j := by omega
            have z1 : (j : Int) < ps.length := by omega
            obtain ⟨p, hp⟩ : ∃ p, ps[j]? = some p := ⟨_, List.getElem?_eq_getElem (by omega)⟩
            obtain ⟨pd, hpo, hpb, f0, f1, f2⟩ := sl_piece HSQ.out hlj hp
            subst hpo
            have hpm := mayB_iff.1 (hErr_may hbs p (List.mem_of_getElem? hp))
            have hnx := clear_next hp HCL.out
            have hsk := fun h => clear_skip hp h HCL.out
            obtain ⟨pb, pl, pst⟩ := p
            simp only at f0 f1 f2 hpm hnx hsk
            obtain ⟨pm0, pm1, pm2, pm3, pm4, pm5⟩ := hpm
            obtain ⟨w6, hw6⟩ : ∃ w6, w6 = wr.alloc (.cells #[.int .i64 pb, .int .i64 pl, .int .i64 pst] 87) := ⟨_, rfl⟩
            have b6 : Below wr.heap.size wr w6 := by rw [hw6]; exact ext_alloc (Below.refl _ _) _
            have x6 : Bk w6 wr.heap.size 87 #[.int .i64 pb, .int .i64 pl, .int .i64 pst] := by rw [hw6]; exact bk_new _ _ _
            obtain ⟨g18, hg18⟩ : ∃ g, g = wr.heap.size := ⟨_, rfl⟩
            rw [← hg18] at x6
            have HW6 := Lib.hid hw6
            have HG18 := Lib.hid hg18
            have B6 := Lib.hid b6
            have X6 := Lib.hid x6
            have HNX := Lib.hid hnx
            have HSK := Lib.hid hsk
            clear hw6 hg18 b6 x6 hp hnx hsk
            go_upto_region 13 with (fail)
            try rw [← HG18.out]
            rw [← HW6.out]
            clear f0 f1 f2 hpb HW6 HG18
            obtain ⟨y0, y1, y2⟩ := cells3 X6.out
            have yL := X6.out.lt
            by_cases hst : pst = 2
            · subst hst
              have bm6 := bk_keep B6.out BM2.out
              have sw := sweep_regs MR2.out HS2.out.ok pb pl pm0 (by omega) (by omega) (by omega) w6
              have hss := hsafe_sweep (b := pb) (l := pl) HS2.out
              have SW := Lib.hid sw
              have HSS := Lib.hid hss
              have BM6 := Lib.hid bm6
              have hnz : ((0 : Int) != 0) = false := by decide
              clear sw hss bm6
              go_upto_region 17 with (first
                | (refine wpList_load_sub rfl 63 (.tmp 9) rfl g9 0 64 rfl 63 _ _ BM6.out Try.underlying63 rfl (by kernel_rfl) MR2.out.size _ MR2.out.all ?_)
                | (go_at_call 32; ((with_reducible refine (SW.out).mono ?_); rintro e w7 ⟨cs7, c7, rfl, mr7, hb7⟩; have MR7 := Lib.hid mr7; have HB7 := Lib.hid hb7; clear mr7 hb7))
                | (refine wpList_store_fresh rfl 63 (.tmp 19) (.tmp 68) rfl rfl cs7 63 _ rfl (by first | rfl | kernel_rfl) (by rw [MR7.out.sz]; kernel_rfl) (by rw [MR7.out.sz]; kernel_rfl) MR7.out.one ?_))
              obtain ⟨w8, hw8⟩ : ∃ w8, w8 = w7.alloc (.cells cs7 63) := ⟨_, rfl⟩
              rw [← hw8]
              obtain ⟨g19, hg19⟩ : ∃ g, w7.heap.size = g := ⟨_, rfl⟩
              try rw [hg19]
              have b68 : Below w6.heap.size w6 w8 := by rw [hw8]; exact ext_alloc HB7.out _
              have m19 : Bk w8 g19 63 cs7 := by rw [hw8, ← hg19]; exact bk_new _ _ _
              have M19 := Lib.hid m19
              have BM8 := Lib.hid (bk_keep b68 BM6.out)
              have OQ8 := Lib.hid (OQ.out.below (ext_trans B6.out b68))
              have BQ8 := Lib.hid (ext_trans BQ.out (ext_trans B6.out b68))
              have hgL := (bk_keep b68 BM6.out).lt
              clear hw8 b68 m19 y0 y1 y2 yL SW
              go_wp2_with (first
                | (refine wpList_load_sub rfl 63 (.tmp 19) rfl g19 0 64 rfl 63 _ _ M19.out Try.underlying63 rfl (by kernel_rfl) MR7.out.size _ MR7.out.all ?_)
                | (refine wpList_store_rowTo rfl 63 (.tmp 9) (.tmp 73) rfl rfl g9 cs7 rfl rfl 63 _ BM8.out (by rw [MR7.out.sz]; kernel_rfl) (by rw [MR7.out.sz, MR2.out.sz]) MR7.out.one ?_))
              go_roundw
              case rel => exact ⟨j + 1, _, cs7, by omega, by go_num, own_setRow OQ8.out BM8.out (by decide) _, HSS.out, HNX.out, MR7.out, bk_setRow BM8.out _, below_setRow BQ8.out hg9w _⟩
              case measure => simp [intOf]; omega
            · have g1 : (pst == 2) = false := by simp [hst]
              have hcl' := HSK.out hst
              have HCL' := Lib.hid hcl'
              clear hst hcl'
              go_wp2
              go_roundw
              case rel => exact ⟨j + 1, R2, cs2, by omega, by go_num, OQ.out.below B6.out, HS2.out, HCL'.out, MR2.out, bk_keep B6.out BM2.out, ext_trans BQ.out B6.out⟩
              case measure => simp [intOf]; omega
          · have z1 : ¬ ((j : Int) < ps.length) := by omega
            obtain rfl : j = ps.length := by omega
            obtain ⟨hcf, hsc⟩ := hsafe_clean HS2.out hbn.1 HCL.out
            have cv := hclean_any ha _ hc ps wr HSQ.out
            rw [hcf] at cv
            unfold ResPost at cv
            have CV := Lib.hid cv
            have HSC := Lib.hid hsc
            have hnz : ((0 : Int) != 0) = false := by decide
            clear cv hsc hcf
            go_upto_region 31 with (go_at_call 33; ((with_reducible refine (CV.out).mono ?_); rintro e w6 ⟨v6, rfl, ho6, hb6⟩; have HO6 := Lib.hid ho6; have HB6 := Lib.hid hb6; clear ho6 hb6))
            have hs5 := BQ.out.size
            obtain ⟨W, hW⟩ : ∃ W, W = w6 := ⟨_, rfl⟩
            rw [← hW]
            have OW := Lib.hid (show Own W w.heap.size 87 v6 (cleanL ps) by rw [hW]; exact HO6.out.mono (by omega))
            have HS := Lib.hid (HSC.out)
            have MR := Lib.hid (MR2.out)
            have BM := Lib.hid (show Bk W g9 63 _ by rw [hW]; exact bk_keep HB6.out BM2.out)
            have BW := Lib.hid (show Below w.heap.size w W by rw [hW]; exact ext_trans BQ.out HB6.out)
            clear hW
            have hok := HS.out.ok
            have hap := HS.out.ap
            have HOK := Lib.hid hok
            have HAP := Lib.hid hap
            have h8 := MR.out.h8
            have mL := BM.out.lt
            clear hok hap
            go_wp2_with (refine wpList_load_sub rfl 60 (.tmp 114) rfl g9 0 56 rfl 63 _ _ BM.out Try.underlying60 rfl (by kernel_rfl) MR.out.size56 _ MR.out.regs ?_)
            go_loopw [116] (fun i wr => ∃ x : Nat, x ≤ 8 ∧ i = .int .i64 x ∧ Below W.heap.size W wr) (fun i _ => 8 - (intOf i).toNat)
            case atStart => exact ⟨0, Nat.zero_le _, rfl, Below.refl _ _⟩
            case round =>
              as_aux_lemma =>
              obtain ⟨x, hx8, rfl, hbq⟩ := hrel
              have HBQ := Lib.hid hbq
              clear hbq
              by_cases hlx : x < 8
              · have y0 : (0 : Int) ≤ x := by omega
                have y1 : (x : Int) < 8 := by omega
                have hsc := fun W' => run_slice_regs g9 x hx8 W'
                obtain ⟨v, hv⟩ : ∃ v, (R2)[x]? = some v := ⟨_, List.getElem?_eq_getElem (by omega)⟩
                have hix := fun W' => run_index_regs (R2) MR.out.h8 hv W'
                have hvo := kbd (HOK.out v (List.mem_of_getElem? hv))
                have hvx := fun (z : Nat) (u : ValV) (hz : z < x) (hu : (R2)[z]? = some u) => pair_at HAP.out hz hu hv
                have HVX := Lib.hid hvx
                clear hvx hv
                obtain ⟨vi, vn, vp, vb, vl, va, vs⟩ := v
                simp only [ValV.val] at hix hvo
                obtain ⟨v0, v1, v2, v3⟩ := hvo
                go_upto_region 34 with (fail)
                obtain ⟨w6, hw6⟩ : ∃ w6, w6 = wr.alloc (.cells #[.bool vi, .int .i64 vn, .int .i64 vp, .int .i64 vb, .int .i64 vl, .int .i64 va, .int .i64 vs] 42) := ⟨_, rfl⟩
                rw [← hw6]
                obtain ⟨g23, hg23⟩ : ∃ g, wr.heap.size = g := ⟨_, rfl⟩
                try rw [hg23]
                have b6 : Below W.heap.size W w6 := by rw [hw6]; exact ext_alloc HBQ.out _
                have x6 : Bk w6 g23 42 #[.bool vi, .int .i64 vn, .int .i64 vp, .int .i64 vb, .int .i64 vl, .int .i64 va, .int .i64 vs] := by rw [hw6, ← hg23]; exact bk_new _ _ _
                have B6 := Lib.hid b6
                have X6 := Lib.hid x6
                have mL6 := (bk_keep b6 BM.out).lt
                clear hw6 hg23 b6 x6 hix
                go_wp2
                go_loopw [124] (fun i wr => ∃ j : Nat, j ≤ x ∧ i = .int .i64 j ∧ Below w6.heap.size w6 wr) (fun i _ => x - (intOf i).toNat)
                case atStart => exact ⟨0, Nat.zero_le _, rfl, Below.refl _ _⟩
                case round =>
                  obtain ⟨z, hzx, rfl, hbp⟩ := hrel
                  have HBP := Lib.hid hbp
                  clear hbp
                  by_cases hlz : z < x
                  · have z0 : (0 : Int) ≤ z := by omega
                    have z1 : (z : Int) < x := by omega
                    obtain ⟨u, hu⟩ : ∃ u, (R2)[z]? = some u := ⟨_, List.getElem?_eq_getElem (by omega)⟩
                    have huo := kbd (HOK.out u (List.mem_of_getElem? hu))
                    have hka := HVX.out z u hlz hu
                    have bm := bk_keep (ext_trans B6.out HBP.out) BM.out
                    have k0 : wr.cell? ⟨g9, z * 7, none⟩ = some (.bool u.is) := MR.out.cellR bm (j := 0) hu (by decide) rfl
                    have k1 := MR.out.cellR bm (j := 1) hu (by decide) (u := .int .i64 u.n) rfl
                    have k2 := MR.out.cellR bm (j := 2) hu (by decide) (u := .int .i64 u.k.perm) rfl
                    have k3 := MR.out.cellR bm (j := 3) hu (by decide) (u := .int .i64 u.k.base) rfl
                    have k4 := MR.out.cellR bm (j := 4) hu (by decide) (u := .int .i64 u.k.len) rfl
                    have k5 := MR.out.cellR bm (j := 5) hu (by decide) (u := .int .i64 u.k.at_) rfl
                    have k6 := MR.out.cellR bm (j := 6) hu (by decide) (u := .int .i64 u.k.seal_) rfl
                    have mLp := bm.lt
                    obtain ⟨ui, un, up, ub, ul, ua, us⟩ := u
                    unfold kApart apart at hka
                    simp only at huo hka k0 k1 k2 k3 k4 k5 k6
                    obtain ⟨u0, u1, u2, u3⟩ := huo
                    obtain ⟨w7, hw7⟩ : ∃ w7, w7 = wr.alloc (.cells #[.bool ui, .int .i64 un, .int .i64 up, .int .i64 ub, .int .i64 ul, .int .i64 ua, .int .i64 us] 42) := ⟨_, rfl⟩
                    have b7 : Below w6.heap.size w6 w7 := by rw [hw7]; exact ext_alloc HBP.out _
                    have x7 : Bk w7 wr.heap.size 42 #[.bool ui, .int .i64 un, .int .i64 up, .int .i64 ub, .int .i64 ul, .int .i64 ua, .int .i64 us] := by rw [hw7]; exact bk_new _ _ _
                    obtain ⟨g25, hg25⟩ : ∃ g, g = wr.heap.size := ⟨_, rfl⟩
                    rw [← hg25] at x7
                    have HW7 := Lib.hid hw7
                    have HG25 := Lib.hid hg25
                    have B7 := Lib.hid b7
                    have X7 := Lib.hid x7
                    clear hw7 hg25 b7 x7 hu bm
                    go_upto_region 37 with (fail)
                    try rw [← HG25.out]
                    rw [← HW7.out]
                    clear k0 k1 k2 k3 k4 k5 k6 HW7 HG25 mLp
                    obtain ⟨s0, s1, s2, s3, s4, s5, s6⟩ := cells7 X7.out
                    have sL := X7.out.lt
                    obtain ⟨t0, t1, t2, t3, t4, t5, t6⟩ := cells7 (bk_keep B7.out X6.out)
                    have tL := (bk_keep B7.out X6.out).lt
                    cases vi <;> cases ui
                    · clear hka
                      go_wp2
                      go_roundw
                      case rel => exact ⟨z + 1, by omega, by go_num, B7.out⟩
                      case measure => simp [intOf]; omega
                    · clear hka
                      go_wp2
                      go_roundw
                      case rel => exact ⟨z + 1, by omega, by go_num, B7.out⟩
                      case measure => simp [intOf]; omega
                    · clear hka
                      go_wp2
                      go_roundw
                      case rel => exact ⟨z + 1, by omega, by go_num, B7.out⟩
                      case measure => simp [intOf]; omega
                    · have hka := hka rfl rfl
                      by_cases hf : vb < ub + ul
                      · have hs : ¬ (ub < vb + vl) := by omega
                        clear hka
                        go_wp2
                        go_roundw
                        case rel => exact ⟨z + 1, by omega, by go_num, B7.out⟩
                        case measure => simp [intOf]; omega
                      · clear hka
                        go_wp2
                        go_roundw
                        case rel => exact ⟨z + 1, by omega, by go_num, B7.out⟩
                        case measure => simp [intOf]; omega
                  · have z1 : ¬ ((z : Int) < x) := by omega
                    go_wp2
                    go_roundw
                    case rel => exact ⟨x + 1, by omega, by go_num, ext_trans B6.out HBP.out⟩
                    case measure => simp [intOf]; omega
              · have y1 : ¬ ((x : Int) < 8) := by omega
                go_wp2
                go_roundw
                case rel => exact ⟨k + 1, cleanL ps, R2, _, by omega, by go_num, OW.out.below HBQ.out, HS.out, MR.out, bk_keep HBQ.out BM.out, ext_trans BW.out HBQ.out⟩
                case measure => simp [intOf]; omega
    · have p1 : ¬ ((k : Int) < N) := by omega
      go_wp2
      go_ret
      exact ⟨rfl, HBW.out⟩
end Go.Proofs.Ytmmmmeeepieemaa
