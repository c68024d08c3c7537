import Derived.BigQuiet
import Derived.Deep.QuietTactic
import Derived.Test.YtmmmmeeepieemaaBuF
import Derived.Test.YtmmmmeeepieemaaLiftModsZ
import Derived.Test.YtmmmmeeepieemaaLinkedZ
/- The walk of LinkApart. -/
namespace Go.Proofs.Ytmmmmeeepieemaa
open Go Go.RowKit Go.Shelf
set_option linter.unusedVariables false
set_option linter.unusedSimpArgs false
set_option maxHeartbeats 8000000 in
set_option maxRecDepth 100000 in
theorem apart_bad (x : ModsA) (w : World) (hx : x.ok w) (hno : ¬ LinkOk isNameB x.ms) : Calls Try.prog 7 #[x.val] w fun e w' => e = .returned (.bool true) ∧ Below w.heap.size w w' := by
  obtain ⟨ao, n, c, rs, ms⟩ := x
  obtain ⟨hm, _⟩ := hx
  simp only [ModsA.val] at *
  have lk := link_bad ao n c rs ms w hm hno
  have LK := Lib.hid lk
  clear lk hm
  go_enter Try.func7, Try.ntmps7
  go_upto_region 2 with (go_at_call 11; ((with_reducible refine (LK.out).mono ?_); rintro e w1 ⟨er, her, rfl, hb1⟩; have HB1 := Lib.hid hb1; clear hb1))
  have q1 : (er != 0) = true := by simpa using her
  obtain ⟨w2, hw2⟩ : ∃ w2, w2 = w1.alloc (.cells #[.slice none 0 0, .slice none 0 0, .slice none 0 0] 27) := ⟨_, rfl⟩
  rw [← hw2]
  have b2 : Bk w2 w1.heap.size 27 #[.slice none 0 0, .slice none 0 0, .slice none 0 0] := by rw [hw2]; exact bk_new _ _ _
  have HB2 := Lib.hid (show Below w.heap.size w w2 by rw [hw2]; exact ext_alloc HB1.out _)
  have B2 := Lib.hid b2
  clear b2 hw2
  go_upto_region 4 with (go_at_call 12; ((with_reducible refine (linked_any _).mono ?_); rintro e w3 ⟨rfl, hb3⟩; have HB3 := Lib.hid hb3; clear hb3))
  obtain ⟨i0, i1, i2⟩ := cells3 (bk_keep HB3.out B2.out)
  have iL := (bk_keep HB3.out B2.out).lt
  go_wp2
  go_ret
  exact ⟨rfl, ext_trans HB2.out HB3.out⟩
set_option maxHeartbeats 8000000 in
set_option maxRecDepth 100000 in
theorem apart_good (x : ModsA) (w : World) (hx : x.ok w) (hok : LinkOk isNameB x.ms) : Calls Try.prog 7 #[x.val] w fun e w' => e = .returned (.bool true) ∧ Below w.heap.size w w' := by
  obtain ⟨ao, n, c, rs, ms⟩ := x
  obtain ⟨hm, _⟩ := hx
  simp only [ModsA.val] at *
  have hn := hm.n
  have lk := link_good ao n c rs ms w hm hok
  unfold LinkRes at lk
  have hml := linkMem_len ms
  have hpl := placesF_len ms 0 0
  have hck := hok.check
  have htot := hok.t
  have hl8 := hok.l
  have hPat : ∀ (t : Nat) (m : ModV), ms[t]? = some m → (placesF 0 0 ms)[t]? = some (placeOf (total (ms.take t)) t m) := fun t m h => by
    have := placesF_at ms 0 0 t m h
    rwa [Nat.zero_add, Nat.zero_add] at this
  generalize linkMem ms = M at *
  generalize placesF 0 0 ms = P at *
  generalize entriesF 0 0 ms = E at *
  have HM := Lib.hid hm
  have LK := Lib.hid lk
  have HCK := Lib.hid hck
  have HPAT := Lib.hid hPat
  have HOK := Lib.hid hok
  clear lk hm hck hPat hok
  go_enter Try.func7, Try.ntmps7
  go_upto_region 2 with (go_at_call 11; ((with_reducible refine (LK.out).mono ?_); rintro e w1 ⟨vm, vp, ve, rfl, om, op, oe, hb⟩; obtain ⟨ma, mc, rfl, hms, _⟩ := om.sl; obtain ⟨pa, pc, rfl, hps, _⟩ := op.sl; obtain ⟨ea, ec, rfl, hes, _⟩ := oe.sl; have HMS := Lib.hid hms; have HPS := Lib.hid hps; have HES := Lib.hid hes; have HB1 := Lib.hid hb; clear om op oe hb hms hps hes))
  rw [hml] at HMS
  rw [hpl, hn] at HPS
  obtain ⟨w2, hw2⟩ : ∃ w2, w2 = w1.alloc (.cells #[.slice ma (total ms) mc, .slice pa n pc, .slice ea E.length ec] 27) := ⟨_, rfl⟩
  rw [← hw2]
  have b2 : Bk w2 w1.heap.size 27 #[.slice ma (total ms) mc, .slice pa n pc, .slice ea E.length ec] := by rw [hw2]; exact bk_new _ _ _
  have r2 : Below w1.heap.size w1 w2 := by rw [hw2]; exact ext_alloc (Below.refl _ _) _
  obtain ⟨gi, hgi⟩ : ∃ gi, gi = w1.heap.size := ⟨_, rfl⟩
  rw [← hgi] at b2
  rw [← hgi]
  have HB2 := Lib.hid (ext_trans HB1.out r2)
  have B2 := Lib.hid b2
  have MS2 := Lib.hid (HMS.out.below r2)
  have PS2 := Lib.hid (HPS.out.below r2)
  clear b2 hw2 r2 hgi HMS HPS HES HB1
  go_upto_region 4 with (go_at_call 12; ((with_reducible refine (linked_any _).mono ?_); rintro e w3 ⟨rfl, hb3⟩; have HB3 := Lib.hid hb3; clear hb3))
  obtain ⟨i0, i1, i2⟩ := cells3 (bk_keep HB3.out B2.out)
  have iL := (bk_keep HB3.out B2.out).lt
  go_wp2
  clear i0 i1 i2 iL
  go_loopw [5, 38] (fun v i wr => ∃ k : Nat, k ≤ n ∧ i = .int .i64 k ∧ v = .int .i64 (total (ms.take k) : Nat) ∧ Below w2.heap.size w2 wr) (fun _ i _ => n - (intOf i).toNat)
  case atStart => exact ⟨0, Nat.zero_le _, rfl, rfl, HB3.out⟩
  case round =>
    obtain ⟨k, hk, rfl, rfl, hb⟩ := hrel
    by_cases hlt : k < n
    · have q0 : (0 : Int) ≤ k := by omega
      have q1 : (k : Int) < n := by omega
      obtain ⟨r, m, hr, hm, hhas⟩ := HM.out.get hlt
      obtain ⟨ad, hao, hab, e0, e1, e2, e3⟩ := sl_ModR (HM.out.sl.below (ext_trans HB2.out hb)) hlt hr
      subst hao
      obtain ⟨⟨ca, cn, cc⟩, ⟨da, dn, dc⟩, ⟨xa, xn, xc⟩, ⟨ia, jn, ic⟩⟩ := r
      simp only at e0 e1 e2 e3
      have hcn := hhas.code.len
      have hdn := hhas.data.len
      simp only at hcn hdn
      have hts := total_take_succ hm
      have htl := total_take_le ms (k + 1)
      obtain ⟨pd, hpo, hpb, f0, f1, f2, f3⟩ := sl_PlaceV (PS2.out.below hb) hlt (HPAT.out k m hm)
      subst hpo
      unfold placeOf at f0 f1 f2 f3
      simp only [hcn, hdn] at f0 f1 f2 f3
      generalize total (ms.take k) = tk at *
      obtain ⟨w4, hw4⟩ : ∃ w4, w4 = wr.alloc (.cells #[.int .i64 tk, .int .i64 cn, .int .i64 dn, .int .i64 ((k : Int) + 1)] 38) := ⟨_, rfl⟩
      have r4 : Below wr.heap.size wr w4 := by rw [hw4]; exact ext_alloc (Below.refl _ _) _
      have x4 : Bk w4 wr.heap.size 38 #[.int .i64 tk, .int .i64 cn, .int .i64 dn, .int .i64 ((k : Int) + 1)] := by rw [hw4]; exact bk_new _ _ _
      obtain ⟨gx, hgx⟩ : ∃ gx, gx = wr.heap.size := ⟨_, rfl⟩
      rw [← hgx] at x4
      have k0 : w4.cell? (ad.add (k * 4)) = some (.slice ca cn cc) := (r4.cell hab).trans e0
      have k1 : w4.cell? ⟨(ad.add (k * 4)).block, (ad.add (k * 4)).off + 1, none⟩ = some (.slice da dn dc) := (r4.cell (p := ⟨(ad.add (k * 4)).block, (ad.add (k * 4)).off + 1, none⟩) hab).trans e1
      have kb := Nat.lt_of_lt_of_le hab r4.size
      have g1 : ((tk : Int) != tk) = false := by simp
      have g2 : ((cn : Int) != cn) = false := by simp
      have g3 : ((dn : Int) != dn) = false := by simp
      have g4 : ((k : Int) + 1 != (k : Int) + 1) = false := by simp
      have HW4 := Lib.hid hw4
      have HGX := Lib.hid hgx
      have X4 := Lib.hid x4
      have HB4 := Lib.hid (ext_trans hb r4)
      clear hw4 hgx x4 hb r4 hm hr hhas
      go_upto_region 12 with (fail)
      rw [← HW4.out, ← HGX.out]
      clear e0 e1 e2 e3 f0 f1 f2 f3 hpb hab HW4 HGX
      obtain ⟨t0, t1, t2, t3⟩ := cellsM4 X4.out
      have tL := X4.out.lt
      go_quiet (fail)
      clear k0 k1 kb
      go_wp2
      go_roundw
      case rel => exact ⟨k + 1, by omega, by go_num, by rw [hts, hcn, hdn]; go_num, ext_drewN HB4.out _⟩
      case measure => simp [intOf]; omega
    · have q1 : ¬ ((k : Int) < n) := by omega
      obtain rfl : k = n := by omega
      have htt : total (ms.take k) = total ms := by rw [List.take_of_length_le (by omega)]
      rw [htt]
      obtain ⟨i0, i1, i2⟩ := cells3 (bk_keep hb B2.out)
      have iL := (bk_keep hb B2.out).lt
      have g1 : ((total ms : Int) == total ms) = true := by simp
      have mc' := mcheck_any ma (total ms) mc M wr (MS2.out.below hb)
      rw [HCK.out] at mc'
      have MC := Lib.hid mc'
      have HB4 := Lib.hid hb
      clear mc' hb htt
      go_wp2_with (go_at_call 19; ((with_reducible refine (MC.out).mono ?_); rintro e w5 ⟨rfl, hb5⟩; have HB5 := Lib.hid hb5; clear hb5))
      go_ret
      exact ⟨rfl, ext_trans HB2.out (ext_trans HB4.out HB5.out)⟩
theorem linkApart_walk {w : World} (x : ModsA) (hx : x.ok w) : Calls Try.prog 7 #[x.val] w fun e w' => e = .returned (.bool true) ∧ Below w.heap.size w w' := by
  by_cases h : LinkOk isNameB x.ms
  · exact apart_good x w hx h
  · exact apart_bad x w hx h
end Go.Proofs.Ytmmmmeeepieemaa
