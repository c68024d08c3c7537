import Derived.BigQuiet
import Derived.BigRegion
import Derived.Deep.QuietTactic
import Derived.Laws.StructEq
import Derived.Test.YtmmmmeeepieemaaBuF
import Derived.Test.YtmmmmeeepieemaaLiftModsZ
import Derived.Test.YtmmmmeeepieemaaLinkTwoZ
import Derived.Test.YtmmmmeeepieemaaLinkedZ
import Derived.Test.YtmmmmeeepieemaaOwnsLawZ
/- The walk of LinkOwns. -/
namespace Go.Proofs.Ytmmmmeeepieemaa
open Go Go.RowKit Go.Shelf
set_option linter.unusedVariables false
set_option linter.unusedSimpArgs false
theorem eql_sameE (n : ByteArray) (p b l t q p2 b2 l2 t2 q2 : Int) (W : World) : (binOp .eql 51 (.agg #[.string n, .int .i64 p, .int .i64 b, .int .i64 l, .int .i64 t, .int .i64 q, .int .i64 p2, .int .i64 b2, .int .i64 l2, .int .i64 t2, .int .i64 q2]) (.agg #[.string n, .int .i64 p, .int .i64 b, .int .i64 l, .int .i64 t, .int .i64 q, .int .i64 p2, .int .i64 b2, .int .i64 l2, .int .i64 t2, .int .i64 q2])).run Try.prog W = .ok (.bool true) W := by
  rw [run_eql_struct]
  go_simp
/-- Two new boxes, whichever is first. -/
theorem two_new {w : World} {T : TypeId} (c d : Array Value) : (Bk ((w.alloc (.cells c T)).alloc (.cells d T)) w.heap.size T c ∧ Bk ((w.alloc (.cells c T)).alloc (.cells d T)) (w.heap.size + 1) T d) ∧ Below w.heap.size w ((w.alloc (.cells c T)).alloc (.cells d T)) :=
  ⟨⟨bk_old _ (bk_new _ _ _), bk_new' _ _ (by simp)⟩, ext_alloc (ext_alloc (Below.refl _ _) _) _⟩
set_option maxHeartbeats 8000000 in
set_option maxRecDepth 100000 in
theorem owns_bad (x : ModsA) (s : ByteArray) (w : World) (hx : x.ok w) (hno : ¬ LinkOk isNameB x.ms) : Calls Try.prog 6 #[x.val, .string s] w fun e w' => e = .returned (.bool true) ∧ Below w.heap.size w w' := by
  obtain ⟨ao, N, c0, rs, ms⟩ := x
  obtain ⟨hm, hle⟩ := hx
  simp only [ModsA.val] at *
  have hn := hm.n
  have hmx := hm.sl.max
  unfold maxLen at hmx
  have lk := link_bad ao N c0 rs ms w hm hno
  have LK := Lib.hid lk
  clear lk hm
  go_enter Try.func6, Try.ntmps6
  go_upto_region 2 with (go_at_call 11; ((with_reducible refine (LK.out).mono ?_); rintro e w1 ⟨er, her, rfl, hb1⟩; have HB1 := Lib.hid hb1; clear hb1))
  have q1 : (er != 0) = true := by simpa using her
  obtain ⟨w2, hw2⟩ : ∃ w2, w2 = w1.alloc (.cells #[.slice none 0 0, .slice none 0 0, .slice none 0 0] 27) := ⟨_, rfl⟩
  rw [← hw2]
  have HB2 := Lib.hid (show Below w.heap.size w w2 by rw [hw2]; exact ext_alloc HB1.out _)
  clear hw2
  go_wp2_with (go_at_call 12; ((with_reducible refine (linked_any _).mono ?_); rintro e w3 ⟨rfl, hb3⟩; have HB3 := Lib.hid hb3; clear hb3))
  go_ret
  exact ⟨rfl, ext_trans HB2.out HB3.out⟩
set_option maxHeartbeats 16000000 in
set_option maxRecDepth 100000 in
theorem owns_good (x : ModsA) (s : ByteArray) (w : World) (hx : x.ok w) (hok : LinkOk isNameB x.ms) : Calls Try.prog 6 #[x.val, .string s] w fun e w' => e = .returned (.bool true) ∧ Below w.heap.size w w' := by
  obtain ⟨ao, N, c0, rs, ms⟩ := x
  obtain ⟨hm, hle⟩ := hx
  simp only [ModsA.val] at *
  have hn := hm.n
  have hmx := hm.sl.max
  unfold maxLen at hmx
  have lk := link_good ao N c0 rs ms w hm hok
  unfold LinkRes at lk
  have hml := linkMem_len ms
  have hpl := placesF_len ms 0 0
  have hl8 := hok.l
  have htot := hok.t
  have hPat : ∀ (t : Nat) (m : ModV), ms[t]? = some m → (placesF 0 0 ms)[t]? = some (placeOf (total (ms.take t)) t m) := fun t m h => by
    have := placesF_at ms 0 0 t m h
    rwa [Nat.zero_add, Nat.zero_add] at this
  have hhit := fun (n : Nat) (m : ModV) (y : NamV) (hm : ms[n]? = some m) (hy : y ∈ m.ex) => owns_hit hok hm hy
  have hmiss := owns_miss (ms := ms) (s := s)
  have hmods := hok.m
  generalize linkMem ms = M at *
  generalize placesF 0 0 ms = P at *
  generalize entriesF 0 0 ms = E at *
  have wi1 := fun W => within_any 2 5 W
  have wi2 := fun W => within_any 4 27 W
  rw [show withinB 2 5 = false by decide] at wi1
  rw [show withinB 4 27 = false by decide] at wi2
  have WI1 := Lib.hid wi1
  have WI2 := Lib.hid wi2
  have HM := Lib.hid hm
  have LK := Lib.hid lk
  have HPAT := Lib.hid hPat
  have HHIT := Lib.hid hhit
  have HMISS := Lib.hid hmiss
  have HMO := Lib.hid hmods
  clear lk hm hPat hhit hmiss hmods hok wi1 wi2
  go_enter Try.func6, Try.ntmps6
  go_upto_region 2 with (go_at_call 11; ((with_reducible refine (LK.out).mono ?_); rintro e w1 ⟨vm, vp, ve, rfl, om, op, oe, hb⟩; obtain ⟨ma1, mc1, rfl, hms, hmc1⟩ := own_slc om; obtain ⟨pa1, pc1, rfl, hps, hpc1⟩ := own_slc op; obtain ⟨ea1, ec1, rfl, hes, hec1⟩ := own_slc oe; have MS1 := Lib.hid hms; have PS1 := Lib.hid hps; have ES1 := Lib.hid hes; have HB1 := Lib.hid hb; clear om op oe hb hms hps hes))
  obtain ⟨tm, htm⟩ : ∃ tm, total ms = tm := ⟨_, rfl⟩
  obtain ⟨en1, hen1⟩ : ∃ en, E.length = en := ⟨_, rfl⟩
  rw [hml, htm] at MS1
  rw [hpl, hn] at PS1
  rw [hen1] at ES1
  obtain ⟨w2, hw2⟩ : ∃ w2, w2 = w1.alloc (.cells #[.slice ma1 tm mc1, .slice pa1 N pc1, .slice ea1 en1 ec1] 27) := ⟨_, rfl⟩
  try rw [hen1]
  try rw [htm]
  rw [← hw2]
  obtain ⟨gi, hgi⟩ : ∃ gi, w1.heap.size = gi := ⟨_, rfl⟩
  rw [hgi]
  have b2 : Bk w2 gi 27 #[.slice ma1 tm mc1, .slice pa1 N pc1, .slice ea1 en1 ec1] := by rw [hw2, ← hgi]; exact bk_new _ _ _
  have r2 : Below w1.heap.size w1 w2 := by rw [hw2]; exact ext_alloc (Below.refl _ _) _
  have HB2 := Lib.hid (ext_trans HB1.out r2)
  have B2 := Lib.hid b2
  have PS2 := Lib.hid (PS1.out.below r2)
  have ES2 := Lib.hid (ES1.out.below r2)
  clear b2 hw2 r2 hgi MS1 PS1 ES1 HB1 LK
  go_upto_region 4 with (go_at_call 12; ((with_reducible refine (linked_any _).mono ?_); rintro e w3 ⟨rfl, hb3⟩; have HB3 := Lib.hid hb3; clear hb3))
  obtain ⟨i0, i1, i2⟩ := cells3 (bk_keep HB3.out B2.out)
  have iL := (bk_keep HB3.out B2.out).lt
  have g1 : ((N : Int) != (N : Int)) = false := by simp
  have fn := find_any ma1 pa1 ea1 tm mc1 N pc1 en1 ec1 E s w3 (ES2.out.below HB3.out)
  obtain ⟨fx, hfx⟩ : ∃ fx, (findE E s).getD zeroE = fx := ⟨_, rfl⟩
  obtain ⟨fb, hfb⟩ : ∃ fb, (findE E s).isSome = fb := ⟨_, rfl⟩
  rw [hfx, hfb] at fn
  simp only [EntryV.val, EntryV.cs] at fn
  have FNS := Lib.hid fn
  have HFX := Lib.hid hfx
  have HFB := Lib.hid hfb
  clear fn hfx hfb
  go_upto_region 7 with (go_at_call 17; ((with_reducible refine (FNS.out).mono ?_); rintro e w4 ⟨rfl, hb4⟩; have HB4 := Lib.hid hb4; clear hb4))
  obtain ⟨w5, hw5⟩ : ∃ w5, w5 = w4.alloc (.cells #[.string fx.name, .int .i64 fx.code.perm, .int .i64 fx.code.base, .int .i64 fx.code.len, .int .i64 fx.code.at_, .int .i64 fx.code.seal_, .int .i64 fx.data.perm, .int .i64 fx.data.base, .int .i64 fx.data.len, .int .i64 fx.data.at_, .int .i64 fx.data.seal_] 51) := ⟨_, rfl⟩
  rw [← hw5]
  obtain ⟨g7, hg7⟩ : ∃ g7, w4.heap.size = g7 := ⟨_, rfl⟩
  try rw [hg7]
  have r5 : Below w2.heap.size w2 w5 := by rw [hw5]; exact ext_alloc (ext_trans HB3.out HB4.out) _
  have x5 : Bk w5 g7 51 #[.string fx.name, .int .i64 fx.code.perm, .int .i64 fx.code.base, .int .i64 fx.code.len, .int .i64 fx.code.at_, .int .i64 fx.code.seal_, .int .i64 fx.data.perm, .int .i64 fx.data.base, .int .i64 fx.data.len, .int .i64 fx.data.at_, .int .i64 fx.data.seal_] := by rw [hw5, ← hg7]; exact bk_new _ _ _
  have B5 := Lib.hid (bk_keep r5 B2.out)
  have PS5 := Lib.hid (PS2.out.below r5)
  have ES5 := Lib.hid (ES2.out.below r5)
  have HB5 := Lib.hid (ext_trans HB2.out r5)
  have X5 := Lib.hid x5
  clear hw5 r5 x5 i0 i1 i2 iL hg7 g1
  go_wp2
  go_loopw [45] (fun i wr => ∃ k : Nat, k ≤ N ∧ i = .int .i64 k ∧ (∀ m ∈ ms.take k, ∀ y ∈ m.ex, y.name ≠ s) ∧ Below w5.heap.size w5 wr) (fun i _ => N - (intOf i).toNat)
  case atStart => exact ⟨0, Nat.zero_le _, rfl, fun m hm => by simp at hm, Below.refl _ _⟩
  case round =>
    obtain ⟨k, hk, rfl, hno, hb⟩ := hrel
    have HNO := Lib.hid hno
    clear hno
    by_cases hlt : k < N
    · have q0 : (0 : Int) ≤ k := by omega
      have q1 : (k : Int) < N := by omega
      obtain ⟨r, m, hr, hm, hhas⟩ := HM.out.get hlt
      obtain ⟨ad, hao, hab, e0, e1, e2, e3⟩ := sl_ModR (HM.out.sl.below (ext_trans HB5.out hb)) hlt hr
      subst hao
      obtain ⟨⟨ca, cn, cc⟩, ⟨da, dn, dc⟩, ⟨xa, xn, xc⟩, ⟨ia, jn, ic⟩⟩ := r
      simp only at e0 e1 e2 e3
      have hmo := HMO.out m (List.mem_of_getElem? hm)
      have hcn := hhas.code.len
      have hdn := hhas.data.len
      have hxn := hhas.ex.len
      simp only at hcn hdn hxn
      have h120 := hmo.l1
      have h60 := hmo.l2
      have h20 := hmo.l3
      have htl := total_take_le ms (k + 1)
      have hts := total_take_succ hm
      have hpk := HPAT.out k m hm
      have hhk := fun y hy => HHIT.out k m y hm hy
      have htake : ms.take (k + 1) = ms.take k ++ [m] := by rw [List.take_add_one, hm]; rfl
      have hbd : total (ms.take k) + (cn + dn) ≤ tm := by omega
      generalize total (ms.take k) = tk at *
      obtain ⟨w6, hw6⟩ : ∃ w6, w6 = wr.alloc (.cells #[.slice ca cn cc, .slice da dn dc, .slice xa xn xc, .slice ia jn ic] 36) := ⟨_, rfl⟩
      have r6 : Below wr.heap.size wr w6 := by rw [hw6]; exact ext_alloc (Below.refl _ _) _
      have x6 : Bk w6 wr.heap.size 36 #[.slice ca cn cc, .slice da dn dc, .slice xa xn xc, .slice ia jn ic] := by rw [hw6]; exact bk_new _ _ _
      obtain ⟨gx, hgx⟩ : ∃ gx, gx = wr.heap.size := ⟨_, rfl⟩
      rw [← hgx] at x6
      have HW6 := Lib.hid hw6
      have HGX := Lib.hid hgx
      have X6 := Lib.hid x6
      have HB6 := Lib.hid (ext_trans hb r6)
      have HX := Lib.hid hhas.ex
      have HE1 := Lib.hid hmo.e1
      have HHK := Lib.hid hhk
      have HPK := Lib.hid hpk
      have HTK := Lib.hid htake
      clear hw6 hgx x6 hb r6 hm hr hhas hmo hpk hts hhk htake
      go_upto_region 10 with (fail)
      rw [← HW6.out, ← HGX.out]
      clear e0 e1 e2 e3 HW6 HGX hab
      obtain ⟨pd, hpo, hpb, f0, f1, f2, f3⟩ := sl_PlaceV (PS5.out.below HB6.out) hlt HPK.out
      subst hpo
      unfold placeOf at f0 f1 f2 f3
      simp only [hcn, hdn] at f0 f1 f2 f3
      obtain ⟨i0, i1, i2⟩ := cells3 (bk_keep HB6.out B5.out)
      have iL := (bk_keep HB6.out B5.out).lt
      obtain ⟨w7, hw7⟩ : ∃ w7, w7 = w6.alloc (.cells #[.int .i64 tk, .int .i64 cn, .int .i64 dn, .int .i64 ((k : Int) + 1)] 38) := ⟨_, rfl⟩
      obtain ⟨gp, hgp⟩ : ∃ gp, gp = w6.heap.size := ⟨_, rfl⟩
      have r7 : Below w6.heap.size w6 w7 := by rw [hw7]; exact ext_alloc (Below.refl _ _) _
      have x7 : Bk w7 gp 38 #[.int .i64 tk, .int .i64 cn, .int .i64 dn, .int .i64 ((k : Int) + 1)] := by rw [hw7, hgp]; exact bk_new _ _ _
      have HW7 := Lib.hid hw7
      have HGP := Lib.hid hgp
      have P7 := Lib.hid x7
      have HB7 := Lib.hid (ext_trans HB6.out r7)
      have X7 := Lib.hid (bk_keep r7 X6.out)
      clear hw7 hgp x7 r7
      go_upto_region 11 with (fail)
      rw [← HW7.out, ← HGP.out]
      clear f0 f1 f2 f3 i0 i1 i2 iL hpb HW7 HGP HPK
      obtain ⟨t0, t1, t2, t3⟩ := cellsM4 X7.out
      have tL := X7.out.lt
      go_wp2
      clear t0 t1 t2 t3 tL
      go_loopw [58] (fun i wr => ∃ j : Nat, j ≤ xn ∧ i = .int .i64 j ∧ (∀ y ∈ m.ex.take j, y.name ≠ s) ∧ Below w7.heap.size w7 wr) (fun i _ => xn - (intOf i).toNat)
      case atStart => exact ⟨0, Nat.zero_le _, rfl, fun y hy => by simp at hy, Below.refl _ _⟩
      case round =>
        obtain ⟨j, hj, rfl, hnj, hb⟩ := hrel
        have HNJ := Lib.hid hnj
        clear hnj
        by_cases hlj : j < xn
        · have s0 : (0 : Int) ≤ j := by omega
          have s1 : (j : Int) < xn := by omega
          obtain ⟨y, hy⟩ : ∃ y, m.ex[j]? = some y := ⟨_, List.getElem?_eq_getElem (by omega)⟩
          obtain ⟨yd, hyo, hyb, f0, f1⟩ := sl_NamV (HX.out.below (ext_trans HB5.out (ext_trans HB7.out hb))) hlj hy
          subst hyo
          obtain ⟨_, hy1, hy2⟩ := HE1.out y (List.mem_of_getElem? hy)
          rw [hcn] at hy2
          have hown := HHK.out y (List.mem_of_getElem? hy)
          obtain ⟨w8, hw8⟩ : ∃ w8, w8 = wr.alloc (.cells #[.string y.name, .int .i64 y.at_] 54) := ⟨_, rfl⟩
          have r8 : Below wr.heap.size wr w8 := by rw [hw8]; exact ext_alloc (Below.refl _ _) _
          have x8 : Bk w8 wr.heap.size 54 #[.string y.name, .int .i64 y.at_] := by rw [hw8]; exact bk_new _ _ _
          obtain ⟨gy, hgy⟩ : ∃ gy, gy = wr.heap.size := ⟨_, rfl⟩
          rw [← hgy] at x8
          have HW8 := Lib.hid hw8
          have HGY := Lib.hid hgy
          have X8 := Lib.hid x8
          have HB8 := Lib.hid (ext_trans hb r8)
          have HY := Lib.hid hy
          have HOWN := Lib.hid hown
          clear hw8 hgy x8 hb r8 hy hown
          go_upto_region 14 with (fail)
          rw [← HW8.out, ← HGY.out]
          clear f0 f1 hyb HW8 HGY
          obtain ⟨k0, k1⟩ := cellsM2 X8.out
          have kL := X8.out.lt
          obtain ⟨i0, i1, i2⟩ := cells3 (bk_keep (ext_trans HB7.out HB8.out) B5.out)
          have iL := (bk_keep (ext_trans HB7.out HB8.out) B5.out).lt
          have fn := find_any ma1 (some pd) ea1 tm mc1 N pc1 en1 ec1 E y.name w8 (ES5.out.below (ext_trans HB7.out HB8.out))
          rw [HOWN.out] at fn
          simp only [Option.getD_some, Option.isSome_some, EntryV.val, EntryV.cs, entryOf, hcn, hdn] at fn
          have FNY := Lib.hid fn
          clear fn
          go_upto_region 15 with (go_at_call 17; ((with_reducible refine (FNY.out).mono ?_); rintro e w9 ⟨rfl, hb9⟩; have HB9 := Lib.hid hb9; clear hb9))
          obtain ⟨w10, hw10⟩ : ∃ w10, w10 = w9.alloc (.cells #[.string y.name, .int .i64 5, .int .i64 tk, .int .i64 cn, .int .i64 ((tk : Int) + y.at_), .int .i64 ((k : Int) + 1), .int .i64 27, .int .i64 ((tk : Int) + cn), .int .i64 dn, .int .i64 ((tk : Int) + cn), .int .i64 ((k : Int) + 1)] 51) := ⟨_, rfl⟩
          rw [← hw10]
          obtain ⟨gz, hgz⟩ : ∃ gz, w9.heap.size = gz := ⟨_, rfl⟩
          try rw [hgz]
          have r10 : Below w8.heap.size w8 w10 := by rw [hw10]; exact ext_alloc HB9.out _
          have z10 : Bk w10 gz 51 #[.string y.name, .int .i64 5, .int .i64 tk, .int .i64 cn, .int .i64 ((tk : Int) + y.at_), .int .i64 ((k : Int) + 1), .int .i64 27, .int .i64 ((tk : Int) + cn), .int .i64 dn, .int .i64 ((tk : Int) + cn), .int .i64 ((k : Int) + 1)] := by rw [hw10, ← hgz]; exact bk_new _ _ _
          have Z10 := Lib.hid z10
          have Y10 := Lib.hid (bk_keep r10 X8.out)
          have P10 := Lib.hid (bk_keep (ext_trans HB8.out r10) P7.out)
          have HB10 := Lib.hid (ext_trans HB8.out r10)
          obtain ⟨z0, z1, z2, z3, z4, z5, z6, z7, z8, z9, z10_⟩ := cells11 z10
          have zL := z10.lt
          clear hw10 r10 z10 k0 k1 kL i0 i1 i2 iL hgz HB9 FNY
          go_region
          · obtain ⟨W, hW⟩ : ∃ W, W = ((w10.alloc (.cells #[.int .i64 5, .int .i64 tk, .int .i64 cn, .int .i64 ((tk : Int) + y.at_), .int .i64 ((k : Int) + 1)] 40)).alloc (.cells #[.int .i64 27, .int .i64 ((tk : Int) + cn), .int .i64 dn, .int .i64 ((tk : Int) + cn), .int .i64 ((k : Int) + 1)] 40)).drew := ⟨_, rfl⟩
            rw [← hW]
            obtain ⟨⟨bc, bd⟩, bb⟩ := two_new (w := w10) (T := 40) #[.int .i64 5, .int .i64 tk, .int .i64 cn, .int .i64 ((tk : Int) + y.at_), .int .i64 ((k : Int) + 1)] #[.int .i64 27, .int .i64 ((tk : Int) + cn), .int .i64 dn, .int .i64 ((tk : Int) + cn), .int .i64 ((k : Int) + 1)]
            have bc := bk_drew bc
            have bd := bk_drew bd
            have bb := ext_drew bb
            rw [← hW] at bc bd bb
            obtain ⟨gc, hgc⟩ : ∃ g, w10.heap.size = g := ⟨_, rfl⟩
            obtain ⟨gd, hgd⟩ : ∃ g, w10.heap.size + 1 = g := ⟨_, rfl⟩
            rw [hgc] at bc
            rw [hgd] at bd
            rw [hgd, hgc]
            clear z0 z1 z2 z3 z4 z5 z6 z7 z8 z9 z10_ zL hW hgc hgd
            obtain ⟨c0_, c1_, c2_, c3_, c4_⟩ := cells5 bc
            obtain ⟨d0_, d1_, d2_, d3_, d4_⟩ := cells5 bd
            have cL := bc.lt
            have dL := bd.lt
            have zz := bk_keep bb Z10.out
            obtain ⟨z0, z1, z2, z3, z4, z5, z6, z7, z8, z9, z10_⟩ := cells11 zz
            have zL := zz.lt
            obtain ⟨k0, k1⟩ := cellsM2 (bk_keep bb Y10.out)
            have kL := (bk_keep bb Y10.out).lt
            obtain ⟨p0, p1, p2, p3⟩ := cellsM4 (bk_keep bb P10.out)
            have pL := (bk_keep bb P10.out).lt
            have x7 := bk_keep (ext_trans HB7.out (ext_trans HB10.out bb)) X5.out
            have HBW := Lib.hid (ext_trans HB10.out bb)
            have h1 : (y.name.toList != y.name.toList) = false := by simp
            have h2 : ((k : Int) + 1 != (k : Int) + 1) = false := by simp
            have h3 : ((tk : Int) != (tk : Int)) = false := by simp
            have h4 : ((cn : Int) != (cn : Int)) = false := by simp
            have h5 : ((tk : Int) + y.at_ != (tk : Int) + y.at_) = false := by simp
            have h6 : ((tk : Int) + cn != (tk : Int) + cn) = false := by simp
            have h7 : ((dn : Int) != (dn : Int)) = false := by simp
            clear bc bd bb zz
            by_cases hys : y.name = s
            · have f : (y.name.toList == s.toList) = true := by simp [hys]
              have a1 := HFX.out
              have a2 := HFB.out
              rw [← hys, HOWN.out] at a1 a2
              simp only [Option.getD_some, Option.isSome_some, entryOf] at a1 a2
              subst a1 a2
              simp only [hcn, hdn] at x7
              obtain ⟨y0, y1, y2, y3, y4, y5, y6, y7, y8, y9, y10⟩ := cells11 x7
              have yL := x7.lt
              have q := fun W => eql_sameE y.name 5 tk cn (tk + y.at_) (k + 1) 27 (tk + cn) dn (tk + cn) (k + 1) W
              clear x7
              go_wp2_with (first | (go_at_call 18; (with_reducible refine (WI1.out _).mono ?_); rintro e w' ⟨rfl, rfl⟩) | (go_at_call 18; (with_reducible refine (WI2.out _).mono ?_); rintro e w' ⟨rfl, rfl⟩))
              go_ret
              exact ⟨rfl, ext_trans HB5.out (ext_trans HB7.out HBW.out)⟩
            · have f : (y.name.toList == s.toList) = false := beq_eq_false_iff_ne.2 fun e => hys (name_eq.1 e)
              have hnx : ∀ z ∈ m.ex.take (j + 1), z.name ≠ s := by
                rw [List.take_add_one, HY.out]
                intro z hz
                rcases List.mem_append.1 hz with h | h
                · exact HNJ.out z h
                · obtain rfl : z = y := by simpa using h
                  exact hys
              have HNX := Lib.hid hnx
              clear x7 hnx
              go_wp2_with (first | (go_at_call 18; (with_reducible refine (WI1.out _).mono ?_); rintro e w' ⟨rfl, rfl⟩) | (go_at_call 18; (with_reducible refine (WI2.out _).mono ?_); rintro e w' ⟨rfl, rfl⟩))
              go_roundw
              case rel => exact ⟨j + 1, by omega, by go_num, HNX.out, HBW.out⟩
              case measure => simp [intOf]; try omega
          · obtain ⟨W, hW⟩ : ∃ W, W = ((w10.alloc (.cells #[.int .i64 27, .int .i64 ((tk : Int) + cn), .int .i64 dn, .int .i64 ((tk : Int) + cn), .int .i64 ((k : Int) + 1)] 40)).alloc (.cells #[.int .i64 5, .int .i64 tk, .int .i64 cn, .int .i64 ((tk : Int) + y.at_), .int .i64 ((k : Int) + 1)] 40)).drew := ⟨_, rfl⟩
            rw [← hW]
            obtain ⟨⟨bd, bc⟩, bb⟩ := two_new (w := w10) (T := 40) #[.int .i64 27, .int .i64 ((tk : Int) + cn), .int .i64 dn, .int .i64 ((tk : Int) + cn), .int .i64 ((k : Int) + 1)] #[.int .i64 5, .int .i64 tk, .int .i64 cn, .int .i64 ((tk : Int) + y.at_), .int .i64 ((k : Int) + 1)]
            have bc := bk_drew bc
            have bd := bk_drew bd
            have bb := ext_drew bb
            rw [← hW] at bc bd bb
            obtain ⟨gc, hgc⟩ : ∃ g, w10.heap.size + 1 = g := ⟨_, rfl⟩
            obtain ⟨gd, hgd⟩ : ∃ g, w10.heap.size = g := ⟨_, rfl⟩
            rw [hgc] at bc
            rw [hgd] at bd
            rw [hgc, hgd]
            clear z0 z1 z2 z3 z4 z5 z6 z7 z8 z9 z10_ zL hW hgc hgd
            obtain ⟨c0_, c1_, c2_, c3_, c4_⟩ := cells5 bc
            obtain ⟨d0_, d1_, d2_, d3_, d4_⟩ := cells5 bd
            have cL := bc.lt
            have dL := bd.lt
            have zz := bk_keep bb Z10.out
            obtain ⟨z0, z1, z2, z3, z4, z5, z6, z7, z8, z9, z10_⟩ := cells11 zz
            have zL := zz.lt
            obtain ⟨k0, k1⟩ := cellsM2 (bk_keep bb Y10.out)
            have kL := (bk_keep bb Y10.out).lt
            obtain ⟨p0, p1, p2, p3⟩ := cellsM4 (bk_keep bb P10.out)
            have pL := (bk_keep bb P10.out).lt
            have x7 := bk_keep (ext_trans HB7.out (ext_trans HB10.out bb)) X5.out
            have HBW := Lib.hid (ext_trans HB10.out bb)
            have h1 : (y.name.toList != y.name.toList) = false := by simp
            have h2 : ((k : Int) + 1 != (k : Int) + 1) = false := by simp
            have h3 : ((tk : Int) != (tk : Int)) = false := by simp
            have h4 : ((cn : Int) != (cn : Int)) = false := by simp
            have h5 : ((tk : Int) + y.at_ != (tk : Int) + y.at_) = false := by simp
            have h6 : ((tk : Int) + cn != (tk : Int) + cn) = false := by simp
            have h7 : ((dn : Int) != (dn : Int)) = false := by simp
            clear bc bd bb zz
            by_cases hys : y.name = s
            · have f : (y.name.toList == s.toList) = true := by simp [hys]
              have a1 := HFX.out
              have a2 := HFB.out
              rw [← hys, HOWN.out] at a1 a2
              simp only [Option.getD_some, Option.isSome_some, entryOf] at a1 a2
              subst a1 a2
              simp only [hcn, hdn] at x7
              obtain ⟨y0, y1, y2, y3, y4, y5, y6, y7, y8, y9, y10⟩ := cells11 x7
              have yL := x7.lt
              have q := fun W => eql_sameE y.name 5 tk cn (tk + y.at_) (k + 1) 27 (tk + cn) dn (tk + cn) (k + 1) W
              clear x7
              go_wp2_with (first | (go_at_call 18; (with_reducible refine (WI1.out _).mono ?_); rintro e w' ⟨rfl, rfl⟩) | (go_at_call 18; (with_reducible refine (WI2.out _).mono ?_); rintro e w' ⟨rfl, rfl⟩))
              go_ret
              exact ⟨rfl, ext_trans HB5.out (ext_trans HB7.out HBW.out)⟩
            · have f : (y.name.toList == s.toList) = false := beq_eq_false_iff_ne.2 fun e => hys (name_eq.1 e)
              have hnx : ∀ z ∈ m.ex.take (j + 1), z.name ≠ s := by
                rw [List.take_add_one, HY.out]
                intro z hz
                rcases List.mem_append.1 hz with h | h
                · exact HNJ.out z h
                · obtain rfl : z = y := by simpa using h
                  exact hys
              have HNX := Lib.hid hnx
              clear x7 hnx
              go_wp2_with (first | (go_at_call 18; (with_reducible refine (WI1.out _).mono ?_); rintro e w' ⟨rfl, rfl⟩) | (go_at_call 18; (with_reducible refine (WI2.out _).mono ?_); rintro e w' ⟨rfl, rfl⟩))
              go_roundw
              case rel => exact ⟨j + 1, by omega, by go_num, HNX.out, HBW.out⟩
              case measure => simp [intOf]; try omega
        · have s1 : ¬ ((j : Int) < xn) := by omega
          have HB8 := Lib.hid hb
          clear hb
          go_wp2
          go_roundw
          case rel =>
            refine ⟨k + 1, by omega, by go_num, ?_, ext_trans HB7.out HB8.out⟩
            rw [HTK.out]
            intro m' hm' y hy
            rcases List.mem_append.1 hm' with h | h
            · exact HNO.out m' h y hy
            · obtain rfl : m' = m := by simpa using h
              have := HNJ.out
              rw [List.take_of_length_le (by omega)] at this
              exact this y hy
          case measure => simp [intOf]; try omega
    · have q1 : ¬ ((k : Int) < N) := by omega
      have HB6 := Lib.hid hb
      clear hb
      have hnone := HMISS.out (by have := HNO.out; rwa [List.take_of_length_le (by omega)] at this)
      have h1 := HFX.out
      have h2 := HFB.out
      rw [hnone] at h1 h2
      simp only [Option.getD_none, Option.isSome_none] at h1 h2
      have x6 := bk_keep HB6.out X5.out
      subst h1 h2
      simp only [zeroE, zeroK] at x6
      obtain ⟨z0, z1, z2, z3, z4, z5, z6, z7, z8, z9, z10⟩ := cells11 x6
      have zL := x6.lt
      have q := fun W => eql_sameE ByteArray.empty 0 0 0 0 0 0 0 0 0 0 W
      clear x6 hnone
      go_wp2
      go_ret
      exact ⟨rfl, ext_trans HB5.out HB6.out⟩
theorem linkOwns_walk {w : World} (x : ModsA) (s : ByteArray) (hx : x.ok w) (hs : s.size ≤ maxLen) : Calls Try.prog 6 #[x.val, .string s] w fun e w' => e = .returned (.bool true) ∧ Below w.heap.size w w' := by
  by_cases h : LinkOk isNameB x.ms
  · exact owns_good x s w hx h
  · exact owns_bad x s w hx h
end Go.Proofs.Ytmmmmeeepieemaa
