import Derived.BigQuiet
import Derived.BigRegion
import Derived.Deep.DeepCutAuto
import Derived.Deep.QuietTactic
import Derived.Deep.RegionLaw
import Derived.Laws.StructEq
import Derived.Test.YtmmmmeeepieemaaHeapAppendZ
import Derived.Test.YtmmmmeeepieemaaLiftModsZ
import Derived.Test.YtmmmmeeepieemaaLinkTwoZ
import Derived.Test.YtmmmmeeepieemaaLinkedZ
import Derived.Test.YtmmmmeeepieemaaWholeLawZ
/- The walk of LinkWhole. -/
namespace Go.Proofs.Ytmmmmeeepieemaa
open Go Go.RowKit Go.Shelf
set_option linter.unusedVariables false
set_option linter.unusedSimpArgs false
theorem via_tail {G : Prop} (h : ∃ T : Prop, T ∧ (T → G)) : G := h.elim fun T hT => hT.2 hT.1
theorem info_intW : (Try.prog.info? 3).map (fun i => (i.zero, i.size, i.bytes)) = some (some (.int .i64 0), 1, 8) := by kernel_rfl
theorem sl_valW {w : World} {ao : Option Addr} {n : Nat} {vs : List ValV} (h : Sl w ao n vs) {i : Nat} {v : ValV} (hv : vs[i]? = some v) : ∃ a, ao = some a ∧ (a.add (i * 7)).block < w.heap.size ∧ ValAt w (a.add (i * 7)) v := by
  have hi : i < n := by rw [← h.len]; exact (List.getElem?_eq_some_iff.1 hv).1
  obtain ⟨a, e, hb, hat⟩ := sl_val h hi
  rw [List.getD, hv] at hat
  exact ⟨a, e, by rw [el_block]; exact hb, hat⟩
set_option maxHeartbeats 8000000 in
set_option maxRecDepth 100000 in
theorem whole_bad (x : ModsA) (w : World) (hx : x.ok w) (hno : ¬ LinkOk isNameB x.ms) : Calls Try.prog 3 #[x.val] w fun e w' => e = .returned (.bool true) ∧ Below w.heap.size w w' := by
  obtain ⟨ao, N, c0, rs, ms⟩ := x
  obtain ⟨hm, hle⟩ := hx
  simp only [ModsA.val] at *
  have hn := hm.n
  have hmx := hm.sl.max
  unfold maxLen at hmx
  have lk := link_bad ao N c0 rs ms w hm hno
  have LK := Lib.hid lk
  clear lk hm
  go_enter Try.func3, Try.ntmps3
  go_upto_region 2 with (go_at_call 11; ((with_reducible refine (LK.out).mono ?_); rintro e w1 ⟨er, her, rfl, hb1⟩; have HB1 := Lib.hid hb1; clear hb1))
  have q1 : (er != 0) = true := by simpa using her
  obtain ⟨w2, hw2⟩ : ∃ w2, w2 = w1.alloc (.cells #[.slice none 0 0, .slice none 0 0, .slice none 0 0] 27) := ⟨_, rfl⟩
  rw [← hw2]
  have HB2 := Lib.hid (show Below w.heap.size w w2 by rw [hw2]; exact ext_alloc HB1.out _)
  clear hw2
  go_wp2_with (go_at_call 12; ((with_reducible refine (linked_any _).mono ?_); rintro e w3 ⟨rfl, hb3⟩; have HB3 := Lib.hid hb3; clear hb3))
  go_ret
  exact ⟨rfl, ext_trans HB2.out HB3.out⟩
set_option maxHeartbeats 16000000 in
set_option maxRecDepth 100000 in
theorem whole_good (x : ModsA) (w : World) (hx : x.ok w) (hok : LinkOk isNameB x.ms) : Calls Try.prog 3 #[x.val] w fun e w' => e = .returned (.bool true) ∧ Below w.heap.size w w' := by
  obtain ⟨ao, N, c0, rs, ms⟩ := x
  obtain ⟨hm, hle⟩ := hx
  simp only [ModsA.val] at *
  have hn := hm.n
  have hmx := hm.sl.max
  unfold maxLen at hmx
  have lk := link_good ao N c0 rs ms w hm hok
  unfold LinkRes at lk
  have hml := linkMem_len ms
  have hpl := placesF_len ms 0 0
  have hl8 := hok.l
  have htot := hok.t
  have hPat : ∀ (t : Nat) (m : ModV), ms[t]? = some m → (placesF 0 0 ms)[t]? = some (placeOf (total (ms.take t)) t m) := fun t m h => by
    have := placesF_at ms 0 0 t m h
    rwa [Nat.zero_add, Nat.zero_add] at this
  have hf := fun (n c : Nat) (m : ModV) => whole_first (n := n) (c := c) (m := m) hok
  have hz := fun (n c : Nat) (m : ModV) (x : Int) => whole_none (n := n) (c := c) (m := m) (x := x) hok
  have hmods := hok.m
  generalize linkMem ms = M at *
  generalize placesF 0 0 ms = P at *
  generalize hE : entriesF 0 0 ms = E at *
  have HM := Lib.hid hm
  have LK := Lib.hid lk
  have HPAT := Lib.hid hPat
  have HF := Lib.hid hf
  have HZ := Lib.hid hz
  have HMO := Lib.hid hmods
  clear lk hm hPat hf hz hmods hok
  obtain ⟨i0_, hi0, hz0, hz1, hz2⟩ := info_parts info_intW
  go_enter Try.func3, Try.ntmps3
  go_upto_region 2 with (go_at_call 11; ((with_reducible refine (LK.out).mono ?_); rintro e w1 ⟨vm, vp, ve, rfl, om, op, oe, hb⟩; obtain ⟨ma1, mc1, rfl, hms, hmc1⟩ := own_slc om; obtain ⟨pa1, pc1, rfl, hps, hpc1⟩ := own_slc op; obtain ⟨ea1, ec1, rfl, hes, hec1⟩ := own_slc oe; have MS1 := Lib.hid hms; have PS1 := Lib.hid hps; have ES1 := Lib.hid hes; have HB1 := Lib.hid hb; clear om op oe hb hms hps hes))
  obtain ⟨tm, htm⟩ : ∃ tm, total ms = tm := ⟨_, rfl⟩
  obtain ⟨en1, hen1⟩ : ∃ en, E.length = en := ⟨_, rfl⟩
  rw [hml, htm] at MS1
  rw [hpl, hn] at PS1
  obtain ⟨w2, hw2⟩ : ∃ w2, w2 = w1.alloc (.cells #[.slice ma1 tm mc1, .slice pa1 N pc1, .slice ea1 en1 ec1] 27) := ⟨_, rfl⟩
  try rw [hen1]
  try rw [htm]
  rw [← hw2]
  obtain ⟨gi, hgi⟩ : ∃ gi, w1.heap.size = gi := ⟨_, rfl⟩
  rw [hgi]
  have b2 : Bk w2 gi 27 #[.slice ma1 tm mc1, .slice pa1 N pc1, .slice ea1 en1 ec1] := by rw [hw2, ← hgi]; exact bk_new _ _ _
  have r2 : Below w1.heap.size w1 w2 := by rw [hw2]; exact ext_alloc (Below.refl _ _) _
  have HB2 := Lib.hid (ext_trans HB1.out r2)
  have B2 := Lib.hid b2
  have MS2 := Lib.hid (MS1.out.below r2)
  have PS2 := Lib.hid (PS1.out.below r2)
  clear b2 hw2 r2 hgi MS1 PS1 ES1 HB1 LK
  go_upto_region 4 with (go_at_call 12; ((with_reducible refine (linked_any _).mono ?_); rintro e w3 ⟨rfl, hb3⟩; have HB3 := Lib.hid hb3; clear hb3))
  obtain ⟨i0, i1, i2⟩ := cells3 (bk_keep HB3.out B2.out)
  have iL := (bk_keep HB3.out B2.out).lt
  have g1 : ((N : Int) != (N : Int)) = false := by simp
  go_wp2
  clear i0 i1 i2 iL
  go_loopw [37] (fun i wr => ∃ k : Nat, k ≤ N ∧ i = .int .i64 k ∧ Below w2.heap.size w2 wr) (fun i _ => N - (intOf i).toNat)
  case atStart => exact ⟨0, Nat.zero_le _, rfl, HB3.out⟩
  case round =>
    obtain ⟨k, hk, rfl, hb⟩ := hrel
    by_cases hlt : k < N
    · have q0 : (0 : Int) ≤ k := by omega
      have q1 : (k : Int) < N := by omega
      obtain ⟨r, m, hr, hm, hhas⟩ := HM.out.get hlt
      obtain ⟨ad, hao, hab, e0, e1, e2, e3⟩ := sl_ModR (HM.out.sl.below (ext_trans HB2.out hb)) hlt hr
      subst hao
      obtain ⟨⟨ca, cn, cc⟩, ⟨da, dn, dc⟩, ⟨xa, xn, xc⟩, ⟨ia, jn, ic⟩⟩ := r
      simp only at e0 e1 e2 e3
      have hmo := HMO.out m (List.mem_of_getElem? hm)
      have hcn := hhas.code.len
      have hdn := hhas.data.len
      have hjn := hhas.im.len
      simp only at hcn hdn hjn
      have h120 := hmo.l1
      have h60 := hmo.l2
      have h20 := hmo.l4
      have hts := total_take_succ hm
      have htl := total_take_le ms (k + 1)
      have hf := HF.out k
      have hz := HZ.out k
      have hpk := HPAT.out k m hm
      have hbd : total (ms.take k) + (cn + dn) ≤ tm := by omega
      generalize total (ms.take k) = tk at *
      obtain ⟨w4, hw4⟩ : ∃ w4, w4 = wr.alloc (.cells #[.slice ca cn cc, .slice da dn dc, .slice xa xn xc, .slice ia jn ic] 36) := ⟨_, rfl⟩
      have r4 : Below wr.heap.size wr w4 := by rw [hw4]; exact ext_alloc (Below.refl _ _) _
      have x4 : Bk w4 wr.heap.size 36 #[.slice ca cn cc, .slice da dn dc, .slice xa xn xc, .slice ia jn ic] := by rw [hw4]; exact bk_new _ _ _
      obtain ⟨gx, hgx⟩ : ∃ gx, gx = wr.heap.size := ⟨_, rfl⟩
      rw [← hgx] at x4
      have HW4 := Lib.hid hw4
      have HGX := Lib.hid hgx
      have X4 := Lib.hid x4
      have HB4 := Lib.hid (ext_trans hb r4)
      have HMM := Lib.hid hm
      have HC := Lib.hid hhas.code
      have HD := Lib.hid hhas.data
      have HI := Lib.hid hhas.im
      have HI1 := Lib.hid (fun y hy => (hmo.i1 y hy).2)
      have HFK := Lib.hid (fun c => hf c m hm)
      have HZK := Lib.hid (fun c x => hz c m x hm)
      have HPK := Lib.hid hpk
      clear hw4 hgx x4 hb r4 hm hr hhas hmo hf hz hpk hts
      go_upto_region 9 with (fail)
      rw [← HW4.out, ← HGX.out]
      clear e0 e1 e2 e3 HW4 HGX hab
      obtain ⟨pd, hpo, hpb, f0, f1, f2, f3⟩ := sl_PlaceV (PS2.out.below HB4.out) hlt HPK.out
      subst hpo
      unfold placeOf at f0 f1 f2 f3
      simp only [hcn, hdn] at f0 f1 f2 f3
      obtain ⟨i0, i1, i2⟩ := cells3 (bk_keep HB4.out B2.out)
      have iL := (bk_keep HB4.out B2.out).lt
      obtain ⟨w5, hw5⟩ : ∃ w5, w5 = w4.alloc (.cells #[.int .i64 tk, .int .i64 cn, .int .i64 dn, .int .i64 ((k : Int) + 1)] 38) := ⟨_, rfl⟩
      obtain ⟨gp, hgp⟩ : ∃ gp, gp = w4.heap.size := ⟨_, rfl⟩
      have r5 : Below w4.heap.size w4 w5 := by rw [hw5]; exact ext_alloc (Below.refl _ _) _
      have x5 : Bk w5 gp 38 #[.int .i64 tk, .int .i64 cn, .int .i64 dn, .int .i64 ((k : Int) + 1)] := by rw [hw5, hgp]; exact bk_new _ _ _
      have HW5 := Lib.hid hw5
      have HGP := Lib.hid hgp
      have X5 := Lib.hid x5
      have HB5 := Lib.hid (ext_trans HB4.out r5)
      have X4' := Lib.hid (bk_keep r5 X4.out)
      clear hw5 hgp x5 r5
      go_upto_region 10 with (fail)
      rw [← HW5.out, ← HGP.out]
      clear f0 f1 f2 f3 i0 i1 i2 iL hpb HW5 HGP HPK
      have hsc : Sl w5 ca cn m.code := HC.out.below (ext_trans HB2.out HB5.out)
      have hsd : Sl w5 da dn m.data := HD.out.below (ext_trans HB2.out HB5.out)
      obtain ⟨v6, w6, hr1, ho6, hg6, _⟩ := run_append_sl (P := Try.prog) w5.drew w5.heap.size 32 32 3 i0_ _ 8 Try.underlying32 hi0 hz0 hz1 hz2 rfl (.slice none 0 0) ([] : List Int) (Own.nil _ _ _) ca cn cc m.code hsc.drew (by unfold maxLen; simp; omega) (by simp; omega) (Nat.le_refl _)
      rw [List.nil_append] at ho6
      have hd6 : Sl w6 da dn m.data := hsd.drew.grown hg6 (fun a _ _ => by simp [Value.ownBlock])
      have hs6 : w5.heap.size ≤ w6.heap.size := hg6.size
      have b6 : Below w5.heap.size w5 w6 := (show Below w5.heap.size w5 w5.drew from ext_drew (Below.refl _ _)).grown hg6 (by simp) (fun k hk => by simp [Value.ownBlock] at hk)
      obtain ⟨v7, w7, hr2, ho7, hg7, _⟩ := run_append_sl (P := Try.prog) w6 w5.heap.size 32 32 3 i0_ _ 8 Try.underlying32 hi0 hz0 hz1 hz2 rfl v6 m.code ho6 da dn dc m.data hd6 (by unfold maxLen; omega) (by omega) hs6
      have b7 : Below w5.heap.size w5 w7 := b6.grown hg7 b6.size (fun g hg => (own_span ho6 hg).1)
      obtain ⟨t0, t1, t2, t3⟩ := cellsM4 X4'.out
      have tL := X4'.out.lt
      obtain ⟨u0_, u1_, u2_, u3_⟩ := cellsM4 (bk_keep b6 X4'.out)
      have uL_ := (bk_keep b6 X4'.out).lt
      obtain ⟨va, vc, rfl, hv7, _⟩ := ho7.sl
      obtain ⟨L, hL⟩ : ∃ L, (m.code ++ m.data).length = L := ⟨_, rfl⟩
      have hLn : L = cn + dn := by rw [← hL, List.length_append]; omega
      rw [hL] at hr2 hv7
      have HR1 := Lib.hid hr1
      have HR2 := Lib.hid hr2
      have HV7 := Lib.hid hv7
      have HB7 := Lib.hid (ext_trans HB5.out b7)
      have X7 := Lib.hid (bk_keep b7 X4'.out)
      have P7 := Lib.hid (bk_keep b7 X5.out)
      clear hr1 ho6 hg6 hd6 hs6 b6 hr2 ho7 hg7 hv7 b7 hsc hsd X4 X4' X5
      apply via_tail
      apply Exists.intro
      apply And.intro
      rotate_left
      · intro tail
        go_region_law (first
          | (refine step_append_run2 rfl _ _ 32 32 rfl (.slice none 0 0) (.slice ca cn cc) (by simp [Act.eval, Act.put]) (by simp [Act.eval, Act.put]) HR1.out ?_)
          | (refine step_append_run2 rfl _ _ 32 32 rfl v6 (.slice da dn dc) (by simp [Act.eval, Act.put]) (by simp [Act.eval, Act.put]) HR2.out ?_))
        all_goals with_reducible exact tail
      clear t0 t1 t2 t3 tL u0_ u1_ u2_ u3_ uL_ HR1 HR2
      go_wp2
      go_loopw [54] (fun i wr => ∃ c : Nat, c ≤ L ∧ i = .int .i64 c ∧ Below w7.heap.size w7 wr) (fun i _ => L - (intOf i).toNat)
      case atStart => exact ⟨0, Nat.zero_le _, rfl, Below.refl _ _⟩
      case round =>
        obtain ⟨c, hc, rfl, hb⟩ := hrel
        by_cases hlc : c < L
        · have o0 : (0 : Int) ≤ c := by omega
          have o1 : (c : Int) < L := by omega
          obtain ⟨x, hx⟩ : ∃ x, (m.code ++ m.data)[c]? = some x := ⟨_, List.getElem?_eq_getElem (by omega)⟩
          obtain ⟨xd, hxo, hxb, e0⟩ := sl_int (HV7.out.below hb) hlc hx
          subst hxo
          obtain ⟨I, hI⟩ : ∃ I, tk + c = I := ⟨_, rfl⟩
          have hsum : (tk : Int) + c = (I : Int) := by omega
          have hIM : (I : Int) < tm := by omega
          have hI0 : (0 : Int) ≤ I := by omega
          obtain ⟨v, hv⟩ : ∃ v, M[I]? = some v := ⟨_, List.getElem?_eq_getElem (by omega)⟩
          obtain ⟨md, hmo, hmb, a0, a1, a2, a3, a4, a5, a6⟩ := sl_valW (MS2.out.below (ext_trans HB7.out hb)) hv
          subst hmo
          have hx0 := HFK.out c
          have hz0' := HZK.out c x
          rw [hI, hcn] at hx0 hz0'
          have HX0 := Lib.hid hx0
          have HZ0 := Lib.hid (hz0' hx)
          obtain ⟨w8, hw8⟩ : ∃ w8, w8 = wr.alloc (.cells #[.bool v.is, .int .i64 v.n, .int .i64 v.k.perm, .int .i64 v.k.base, .int .i64 v.k.len, .int .i64 v.k.at_, .int .i64 v.k.seal_] 42) := ⟨_, rfl⟩
          have r8 : Below wr.heap.size wr w8 := by rw [hw8]; exact ext_alloc (Below.refl _ _) _
          have x8 : Bk w8 wr.heap.size 42 #[.bool v.is, .int .i64 v.n, .int .i64 v.k.perm, .int .i64 v.k.base, .int .i64 v.k.len, .int .i64 v.k.at_, .int .i64 v.k.seal_] := by rw [hw8]; exact bk_new _ _ _
          obtain ⟨gv, hgv⟩ : ∃ gv, gv = wr.heap.size := ⟨_, rfl⟩
          rw [← hgv] at x8
          obtain ⟨i0, i1, i2⟩ := cells3 (bk_keep (ext_trans HB7.out hb) B2.out)
          have iL := (bk_keep (ext_trans HB7.out hb) B2.out).lt
          obtain ⟨p0, p1, p2, p3⟩ := cellsM4 (bk_keep hb P7.out)
          have pL := (bk_keep hb P7.out).lt
          have HW8 := Lib.hid hw8
          have HGV := Lib.hid hgv
          have X8 := Lib.hid x8
          have HB8 := Lib.hid (ext_trans hb r8)
          have HV := Lib.hid hv
          clear hw8 hgv x8 hb r8 hx hv hx0 hz0' hI
          go_upto_region 14 with (fail)
          rw [← HW8.out, ← HGV.out]
          clear e0 a0 a1 a2 a3 a4 a5 a6 hxb hmb i0 i1 i2 iL p0 p1 p2 p3 pL HW8 HGV
          obtain ⟨t0, t1, t2, t3⟩ := cellsM4 (bk_keep HB8.out X7.out)
          have tL := (bk_keep HB8.out X7.out).lt
          go_wp2
          clear t0 t1 t2 t3 tL
          go_loopw [11, 12, 70] (fun f s i wr => ∃ j : Nat, j ≤ jn ∧ i = .int .i64 j ∧ f = .bool (firstB c cn (m.im.take j)) ∧ s = .bool (secondB c cn (m.im.take j)) ∧ Below w8.heap.size w8 wr) (fun _ _ i _ => jn - (intOf i).toNat)
          case atStart => exact ⟨0, Nat.zero_le _, rfl, rfl, rfl, Below.refl _ _⟩
          case round =>
            obtain ⟨j, hj, rfl, rfl, rfl, hb⟩ := hrel
            by_cases hlj : j < jn
            · have s0 : (0 : Int) ≤ j := by omega
              have s1 : (j : Int) < jn := by omega
              obtain ⟨y, hy⟩ : ∃ y, m.im[j]? = some y := ⟨_, List.getElem?_eq_getElem (by omega)⟩
              obtain ⟨yd, hyo, hyb, f0, f1⟩ := sl_NamV (HI.out.below (ext_trans HB2.out (ext_trans HB7.out (ext_trans HB8.out hb)))) hlj hy
              subst hyo
              obtain ⟨y1, y2⟩ := HI1.out y (List.mem_of_getElem? hy)
              obtain ⟨w9, hw9⟩ : ∃ w9, w9 = wr.alloc (.cells #[.string y.name, .int .i64 y.at_] 44) := ⟨_, rfl⟩
              have r9 : Below wr.heap.size wr w9 := by rw [hw9]; exact ext_alloc (Below.refl _ _) _
              have x9 : Bk w9 wr.heap.size 44 #[.string y.name, .int .i64 y.at_] := by rw [hw9]; exact bk_new _ _ _
              obtain ⟨gy, hgy⟩ : ∃ gy, gy = wr.heap.size := ⟨_, rfl⟩
              rw [← hgy] at x9
              obtain ⟨d1, hd1⟩ : ∃ d, ((c : Int) == (cn : Int) + y.at_) = d := ⟨_, rfl⟩
              obtain ⟨d2, hd2⟩ : ∃ d, ((c : Int) == (cn : Int) + y.at_ + 1) = d := ⟨_, rfl⟩
              have hn1 : firstB c cn (m.im.take (j + 1)) = (firstB c cn (m.im.take j) || d1) := by
                rw [List.take_add_one, hy, ← hd1]; exact firstB_snoc _ _ _ _
              have hn2 : secondB c cn (m.im.take (j + 1)) = (secondB c cn (m.im.take j) || d2) := by
                rw [List.take_add_one, hy, ← hd2]; exact secondB_snoc _ _ _ _
              have HW9 := Lib.hid hw9
              have HGY := Lib.hid hgy
              have X9 := Lib.hid x9
              have HB9 := Lib.hid (ext_trans hb r9)
              have HN1 := Lib.hid hn1
              have HN2 := Lib.hid hn2
              clear hw9 hgy x9 hb r9 hy hn1 hn2
              go_upto_region 18 with (fail)
              rw [← HW9.out, ← HGY.out]
              clear f0 f1 hyb HW9 HGY
              obtain ⟨p0, p1, p2, p3⟩ := cellsM4 (bk_keep (ext_trans HB8.out HB9.out) P7.out)
              have pL := (bk_keep (ext_trans HB8.out HB9.out) P7.out).lt
              obtain ⟨k0, k1⟩ := cellsM2 X9.out
              have kL := X9.out.lt
              cases hb1 : firstB c cn (m.im.take j) <;> cases hb2 : secondB c cn (m.im.take j)
              all_goals
                have HB1' := Lib.hid hb1
                have HB2' := Lib.hid hb2
                clear hb1 hb2
                go_wp2
                go_roundw
                case rel => exact ⟨j + 1, by omega, by go_num, by rw [HN1.out, HB1'.out]; rfl, by rw [HN2.out, HB2'.out]; rfl, HB9.out⟩
                case measure => simp [intOf]; omega
            · have s1 : ¬ ((j : Int) < jn) := by omega
              obtain rfl : j = jn := by omega
              rw [List.take_of_length_le (l := m.im) (by omega)]
              have HB9 := Lib.hid hb
              obtain ⟨p0, p1, p2, p3⟩ := cellsM4 (bk_keep (ext_trans HB8.out hb) P7.out)
              have pL := (bk_keep (ext_trans HB8.out hb) P7.out).lt
              obtain ⟨i0, i1, i2⟩ := cells3 (bk_keep (ext_trans HB7.out (ext_trans HB8.out hb)) B2.out)
              have iL := (bk_keep (ext_trans HB7.out (ext_trans HB8.out hb)) B2.out).lt
              have hms := MS2.out.below (ext_trans HB7.out (ext_trans HB8.out hb))
              have x8k := bk_keep hb X8.out
              cases hF : firstB c cn m.im
              · cases hS : secondB c cn m.im
                · have e := HZ0.out hF hS
                  rw [HV.out] at e
                  injection e with e
                  subst e
                  simp only [zeroK] at x8k
                  obtain ⟨b0, b1, b2, b3, b4, b5, b6⟩ := cells7 x8k
                  have bL := x8k.lt
                  have q : ∀ W, (binOp .neq 42 (.agg #[.bool false, .int .i64 x, .int .i64 0, .int .i64 0, .int .i64 0, .int .i64 0, .int .i64 0]) (.agg #[.bool false, .int .i64 x, .int .i64 0, .int .i64 0, .int .i64 0, .int .i64 0, .int .i64 0])).run Try.prog W = .ok (.bool false) W := fun W => by
                    rw [run_neq_struct]
                    go_simp
                  clear hms x8k hb
                  go_wp2
                  go_roundw
                  case rel => exact ⟨c + 1, by omega, by go_num, ext_trans HB8.out HB9.out⟩
                  case measure => simp [intOf]; omega
                · clear hms x8k hb
                  go_wp2
                  go_roundw
                  case rel => exact ⟨c + 1, by omega, by go_num, ext_trans HB8.out HB9.out⟩
                  case measure => simp [intOf]; omega
              · obtain ⟨e, pk, h1, h2⟩ := HX0.out hF
                rw [HV.out] at h1
                injection h1 with h1
                subst h1
                obtain ⟨en_, ⟨ep, eb, el, ea_, es⟩, ⟨dp, db, dl, da_, ds⟩⟩ := e
                obtain ⟨k1, k2, k3, k4, k5⟩ := pk
                simp only at k1 k2 k3 k4 k5 h2 x8k
                subst k1 k2 k3
                obtain ⟨b0, b1, b2, b3, b4, b5, b6⟩ := cells7 x8k
                have bL := x8k.lt
                obtain ⟨I1, hI1⟩ : ∃ I1, I + 1 = I1 := ⟨_, rfl⟩
                have hs1 : (I : Int) + 1 = (I1 : Int) := by omega
                rw [hI1] at h2
                have hlt1 : I1 < M.length := (List.getElem?_eq_some_iff.1 h2).1
                have hIM1 : (I1 : Int) < tm := by omega
                obtain ⟨md', hmo, hmb, a0, a1, a2, a3, a4, a5, a6⟩ := sl_valW hms h2
                injection hmo with hmo
                subst hmo
                simp only at a0 a1 a2 a3 a4 a5 a6
                have g3 : (es == 0) = false := beq_eq_false_iff_ne.2 (by omega)
                have g4 : (es != es) = false := by simp
                clear hms x8k hb h2
                go_wp2
                go_roundw
                case rel => exact ⟨c + 1, by omega, by go_num, ext_trans HB8.out (ext_alloc HB9.out _)⟩
                case measure => simp [intOf]; omega
        · have o1 : ¬ ((c : Int) < L) := by omega
          have HB8 := Lib.hid hb
          clear hb
          go_wp2
          go_roundw
          case rel => exact ⟨k + 1, by omega, by go_num, ext_trans HB7.out HB8.out⟩
          case measure => simp [intOf]; try omega
    · have q1 : ¬ ((k : Int) < N) := by omega
      have HB4 := Lib.hid hb
      clear hb
      go_wp2
      go_ret
      exact ⟨rfl, ext_trans HB2.out HB4.out⟩
theorem linkWhole_walk {w : World} (x : ModsA) (hx : x.ok w) : Calls Try.prog 3 #[x.val] w fun e w' => e = .returned (.bool true) ∧ Below w.heap.size w w' := by
  by_cases h : LinkOk isNameB x.ms
  · exact whole_good x w hx h
  · exact whole_bad x w hx h
end Go.Proofs.Ytmmmmeeepieemaa
