import Derived.BigQuiet
import Derived.Deep.QuietTactic
import Derived.Test.YtmmmmeeepieemaaBuG
import Derived.Test.YtmmmmeeepieemaaEqSameZ
import Derived.Test.YtmmmmeeepieemaaFrontLawZ
import Derived.Test.YtmmmmeeepieemaaLiftModsZ
import Derived.Test.YtmmmmeeepieemaaLinkTwoZ
import Derived.Test.YtmmmmeeepieemaaLinkedZ
/- The walk of LinkFront. -/
namespace Go.Proofs.Ytmmmmeeepieemaa
open Go Go.RowKit Go.Shelf
set_option linter.unusedVariables false
set_option linter.unusedSimpArgs false
set_option maxHeartbeats 8000000 in
set_option maxRecDepth 100000 in
theorem front_bad (x : ModsA) (a : Int) (k : Nat) (w : World) (hx : x.ok w) (hsm : x.n ≤ 4611686018427387000) (hka : a % (x.n + 1 : Nat) = k) (hno : ¬ (LinkOk isNameB x.ms ∧ LinkOk isNameB (x.ms.take k))) :
    Calls Try.prog 4 #[x.val, .int .i64 a] w fun e w' => e = .returned (.bool true) ∧ Below w.heap.size w w' := by
  obtain ⟨ao, N, c, rs, ms⟩ := x
  obtain ⟨hm, hle⟩ := hx
  simp only [ModsA.val] at *
  have hn := hm.n
  have hmx := hm.sl.max
  unfold maxLen at hmx
  have hk : k ≤ N := by have := Int.emod_lt_of_pos a (show (0 : Int) < (N + 1 : Nat) by omega); omega
  have rs_ := fun W => rest_wide a ((N : Int) + 1) W (by omega) (by omega)
  have hka' : a % ((N : Int) + 1) = (k : Int) := by rw [← hka]; rfl
  rw [hka'] at rs_
  have RS := Lib.hid rs_
  have HM := Lib.hid hm
  have HNO := Lib.hid hno
  clear rs_ hm hka hka' hno
  go_enter Try.func4, Try.ntmps4
  go_upto_region 3 with (go_at_call 12; ((with_reducible refine (linked_any _).mono ?_); rintro e w1 ⟨rfl, hb1⟩; have HB1 := Lib.hid hb1; clear hb1))
  have lk1 := link_some ao N c rs ms w1 (HM.out.below HB1.out)
  have LK1 := Lib.hid lk1
  clear lk1
  go_upto_region 5 with (first
    | (go_at_call 13; ((with_reducible refine (RS.out _).mono ?_); rintro e w' ⟨rfl, rfl⟩))
    | (go_at_call 11; ((with_reducible refine (LK1.out).mono ?_); rintro e w2 ⟨ma2, pa2, ea2, mn2, mc2, pn2, pc2, en2, ec2, er2, rfl, her2, hb⟩; have HB2 := Lib.hid hb; clear hb)))
  have b2 := HB2.out
  obtain ⟨w3, hw3⟩ : ∃ w3, w3 = w2.alloc (.cells #[.slice ma2 mn2 mc2, .slice pa2 pn2 pc2, .slice ea2 en2 ec2] 27) := ⟨_, rfl⟩
  rw [← hw3]
  have b3 : Below w.heap.size w w3 := by rw [hw3]; exact ext_alloc (ext_trans HB1.out b2) _
  have lk2 := link_some ao k c _ _ w3 (mods_take (HM.out.below b3) hk)
  have LK2 := Lib.hid lk2
  have B3 := Lib.hid b3
  have q0 : (0 : Int) ≤ k := by omega
  have q1 : (k : Int) ≤ c := by omega
  clear lk2 hw3 b3 b2
  go_upto_region 6 with (first
    | (go_at_call 11; ((with_reducible refine (LK2.out).mono ?_); rintro e w4 ⟨ma4, pa4, ea4, mn4, mc4, pn4, pc4, en4, ec4, er4, rfl, her4, hb⟩; have HB4 := Lib.hid hb; clear hb)))
  by_cases h2 : er2 = 0
  · have h4 : er4 ≠ 0 := fun h => HNO.out ⟨her2.1 h2, her4.1 h⟩
    have g2 : (er2 != 0) = false := by simp [h2]
    have g4 : (er4 != 0) = true := by simpa using h4
    go_wp2
    go_ret
    exact ⟨rfl, ext_alloc (ext_trans B3.out HB4.out) _⟩
  · have g2 : (er2 != 0) = true := by simpa using h2
    go_wp2
    go_ret
    exact ⟨rfl, ext_alloc (ext_trans B3.out HB4.out) _⟩
set_option maxHeartbeats 8000000 in
set_option maxRecDepth 100000 in
theorem front_good (x : ModsA) (a : Int) (k : Nat) (w : World) (hx : x.ok w) (hsm : x.n ≤ 4611686018427387000) (hka : a % (x.n + 1 : Nat) = k) (ho1 : LinkOk isNameB x.ms) (ho2 : LinkOk isNameB (x.ms.take k)) :
    Calls Try.prog 4 #[x.val, .int .i64 a] w fun e w' => e = .returned (.bool true) ∧ Below w.heap.size w w' := by
  obtain ⟨ao, N, c, rs, ms⟩ := x
  obtain ⟨hm, hle⟩ := hx
  simp only [ModsA.val] at *
  have hn := hm.n
  have hmx := hm.sl.max
  unfold maxLen at hmx
  have hk : k ≤ N := by have := Int.emod_lt_of_pos a (show (0 : Int) < (N + 1 : Nat) by omega); omega
  have rs_ := fun W => rest_wide a ((N : Int) + 1) W (by omega) (by omega)
  have hka' : a % ((N : Int) + 1) = (k : Int) := by rw [← hka]; rfl
  rw [hka'] at rs_
  have f1 := front_mem ho1 ho2
  have f2 := front_places (ms := ms) (k := k) (by omega)
  obtain ⟨f3, f4⟩ := front_entries ms k
  have l1 := linkMem_len ms
  have l2 := linkMem_len (ms.take k)
  have l3 := placesF_len ms 0 0
  have l4 := placesF_len (ms.take k) 0 0
  have l5 := total_take_le ms k
  have l6 := ho1.t
  rw [List.length_take] at l4
  have RS := Lib.hid rs_
  have HM := Lib.hid hm
  have HO1 := Lib.hid ho1
  have HO2 := Lib.hid ho2
  have F1 := Lib.hid f1
  have F2 := Lib.hid f2
  have F3 := Lib.hid f3
  clear rs_ hm hka hka' ho1 ho2 f1 f2 f3
  go_enter Try.func4, Try.ntmps4
  go_upto_region 3 with (go_at_call 12; ((with_reducible refine (linked_any _).mono ?_); rintro e w1 ⟨rfl, hb1⟩; have HB1 := Lib.hid hb1; clear hb1))
  have lk1 := link_good ao N c rs ms w1 (HM.out.below HB1.out) HO1.out
  unfold LinkRes at lk1
  generalize hM : linkMem ms = M at *
  generalize hP : placesF 0 0 ms = P at *
  generalize hE : entriesF 0 0 ms = E at *
  have LK1 := Lib.hid lk1
  clear lk1
  go_upto_region 5 with (first
    | (go_at_call 13; ((with_reducible refine (RS.out _).mono ?_); rintro e w' ⟨rfl, rfl⟩))
    | (go_at_call 11; ((with_reducible refine (LK1.out).mono ?_); rintro e w2 ⟨vm, vp, ve, rfl, om, op, oe, hb⟩; obtain ⟨ma2, mc2, rfl, hms, hmc2⟩ := own_slc om; obtain ⟨pa2, pc2, rfl, hps, hpc2⟩ := own_slc op; obtain ⟨ea2, ec2, rfl, hes, hec2⟩ := own_slc oe; have MS2 := Lib.hid hms; have PS2 := Lib.hid hps; have ES2 := Lib.hid hes; have HB2 := Lib.hid hb; clear om op oe hb hms hps hes)))
  rw [l1] at MS2
  have lN : ms.length = N := hn
  rw [l3, lN] at PS2
  obtain ⟨en2, hen2⟩ : ∃ en, E.length = en := ⟨_, rfl⟩
  rw [hen2] at ES2 hec2 f4
  rw [l1] at hmc2
  rw [l3, lN] at hpc2
  obtain ⟨w3, hw3⟩ : ∃ w3, w3 = w2.alloc (.cells #[.slice ma2 (total ms) mc2, .slice pa2 N pc2, .slice ea2 en2 ec2] 27) := ⟨_, rfl⟩
  rw [hen2, ← hw3]
  obtain ⟨g5, hg5⟩ : ∃ g5, w2.heap.size = g5 := ⟨_, rfl⟩
  have r3 : Below w2.heap.size w2 w3 := by rw [hw3]; exact ext_alloc (Below.refl _ _) _
  have b3 : Below w.heap.size w w3 := ext_trans HB1.out (ext_trans HB2.out r3)
  have x3 : Bk w3 g5 27 #[.slice ma2 (total ms) mc2, .slice pa2 N pc2, .slice ea2 en2 ec2] := by rw [hw3, ← hg5]; exact bk_new _ _ _
  have lk2 := link_good ao k c _ _ w3 (mods_take (HM.out.below b3) hk) HO2.out
  unfold LinkRes at lk2
  have l4' : (placesF 0 0 (ms.take k)).length = k := by omega
  have LK2 := Lib.hid lk2
  have B3 := Lib.hid b3
  have X3 := Lib.hid x3
  have MS3 := Lib.hid (MS2.out.below r3)
  have PS3 := Lib.hid (PS2.out.below r3)
  have ES3 := Lib.hid (ES2.out.below r3)
  have q0 : (0 : Int) ≤ k := by omega
  have q1 : (k : Int) ≤ c := by omega
  clear lk2 hw3 b3 x3 r3 MS2 PS2 ES2 HB2 LK1 l4
  rw [hg5]
  generalize hMk : linkMem (ms.take k) = Mk at *
  generalize hPk : placesF 0 0 (ms.take k) = Pk at *
  generalize hEk : entriesF 0 0 (ms.take k) = Ek at *
  obtain ⟨ek, hek⟩ : ∃ ek, Ek.length = ek := ⟨_, rfl⟩
  obtain ⟨tk, htk⟩ : ∃ tk, total (ms.take k) = tk := ⟨_, rfl⟩
  obtain ⟨tm, htm⟩ : ∃ tm, total ms = tm := ⟨_, rfl⟩
  go_upto_region 6 with (first
    | (go_at_call 11; ((with_reducible refine (LK2.out).mono ?_); rintro e w4 ⟨vm, vp, ve, rfl, om, op, oe, hb⟩; obtain ⟨ma4, mc4, rfl, hms, hmc4⟩ := own_slc om; obtain ⟨pa4, pc4, rfl, hps, hpc4⟩ := own_slc op; obtain ⟨ea4, ec4, rfl, hes, hec4⟩ := own_slc oe; have MS4 := Lib.hid hms; have PS4 := Lib.hid hps; have ES4 := Lib.hid hes; have HB4 := Lib.hid hb; clear om op oe hb hms hps hes)))
  rw [hek] at ES4 hec4
  rw [l2, htk] at MS4 hmc4
  rw [l4'] at PS4 hpc4
  try rw [hek]
  try rw [l2, htk]
  try rw [l4']
  obtain ⟨w5, hw5⟩ : ∃ w5, w5 = w4.alloc (.cells #[.slice ma4 tk mc4, .slice pa4 k pc4, .slice ea4 ek ec4] 27) := ⟨_, rfl⟩
  rw [← hw5]
  obtain ⟨g7, hg7⟩ : ∃ g7, w4.heap.size = g7 := ⟨_, rfl⟩
  rw [hg7]
  have r5 : Below w4.heap.size w4 w5 := by rw [hw5]; exact ext_alloc (Below.refl _ _) _
  have r35 : Below w3.heap.size w3 w5 := ext_trans HB4.out r5
  have x7 : Bk w5 g7 27 #[.slice ma4 tk mc4, .slice pa4 k pc4, .slice ea4 ek ec4] := by rw [hw5, ← hg7]; exact bk_new _ _ _
  have x5 := bk_keep r35 X3.out
  have fm := F1.out
  have fp := F2.out
  have fe := F3.out
  rw [htk] at fm
  rw [hek] at fe f4
  have hms2 : Sl w5 ma2 tk Mk := by rw [fm]; exact sl_front (MS3.out.below r35) (by omega)
  have hps2 : Sl w5 pa2 k Pk := by rw [fp]; exact sl_front (PS3.out.below r35) hk
  have hes2 : Sl w5 ea2 ek Ek := by rw [fe]; exact sl_front (ES3.out.below r35) (by omega)
  have hms4 := MS4.out.below r5
  have hps4 := PS4.out.below r5
  have hes4 := ES4.out.below r5
  have c0 : (tk : Int) ≤ tm := by omega
  have c1 : ((k : Int) == (k : Int)) = true := by simp
  have c2 : (ek : Int) ≤ en2 := by omega
  have c3 : (tk : Int) ≤ mc2 := by omega
  have c4 : (k : Int) ≤ pc2 := by omega
  have c5 : (ek : Int) ≤ ec2 := by omega
  have c6 : (0 : Int) ≤ tk := by omega
  have c7 : (0 : Int) ≤ ek := by omega
  obtain ⟨S, hS⟩ : ∃ S : World → Prop, ∀ W, S W ↔ Below w5.heap.size w5 W := ⟨_, fun _ => Iff.rfl⟩
  have hk_ : ∀ W W', S W → Below W.heap.size W W' → S W' := fun W W' h hb => (hS _).2 (ext_trans ((hS _).1 h) hb)
  have a0 : ∀ x : Wd S, x.val.cell? ⟨g5, 0, none⟩ = some (.slice ma2 tm mc2) := fun x => by have := (bk_keep ((hS _).1 x.ok) x5).cell 0; rwa [htm] at this
  have a1 : ∀ x : Wd S, x.val.cell? ⟨g5, 1, none⟩ = some (.slice pa2 N pc2) := fun x => (bk_keep ((hS _).1 x.ok) x5).cell 1
  have a2 : ∀ x : Wd S, x.val.cell? ⟨g5, 2, none⟩ = some (.slice ea2 en2 ec2) := fun x => (bk_keep ((hS _).1 x.ok) x5).cell 2
  have aL : ∀ x : Wd S, g5 < x.val.heap.size := fun x => (bk_keep ((hS _).1 x.ok) x5).lt
  have d0 : ∀ x : Wd S, x.val.cell? ⟨g7, 0, none⟩ = some (.slice ma4 tk mc4) := fun x => (bk_keep ((hS _).1 x.ok) x7).cell 0
  have d1 : ∀ x : Wd S, x.val.cell? ⟨g7, 1, none⟩ = some (.slice pa4 k pc4) := fun x => (bk_keep ((hS _).1 x.ok) x7).cell 1
  have d2 : ∀ x : Wd S, x.val.cell? ⟨g7, 2, none⟩ = some (.slice ea4 ek ec4) := fun x => (bk_keep ((hS _).1 x.ok) x7).cell 2
  have dL : ∀ x : Wd S, g7 < x.val.heap.size := fun x => (bk_keep ((hS _).1 x.ok) x7).lt
  have ev : ∀ x : Wd S, Calls Try.prog 14 #[.slice ma4 tk mc4, .slice ma2 tk mc2] x.val fun e w' => e = .returned (.bool true) ∧ Below x.val.heap.size x.val w' := fun x => by
    have := eq_val ma4 ma2 tk tk mc4 mc2 Mk Mk x.val (hms4.below ((hS _).1 x.ok)) (hms2.below ((hS _).1 x.ok))
    simpa only [decide_true] using this
  have ep : ∀ x : Wd S, Calls Try.prog 15 #[.slice pa4 k pc4, .slice pa2 k pc2] x.val fun e w' => e = .returned (.bool true) ∧ Below x.val.heap.size x.val w' := fun x => eqs_Place pa4 pa2 k pc4 pc2 Pk x.val (hps4.below ((hS _).1 x.ok)) (hps2.below ((hS _).1 x.ok))
  have ee : ∀ x : Wd S, Calls Try.prog 16 #[.slice ea4 ek ec4, .slice ea2 ek ec2] x.val fun e w' => e = .returned (.bool true) ∧ Below x.val.heap.size x.val w' := fun x => eqs_Entry ea4 ea2 ek ec4 ec2 Ek x.val (hes4.below ((hS _).1 x.ok)) (hes2.below ((hS _).1 x.ok))
  have HK := Lib.hid hk_
  have HS := Lib.hid hS
  have EV := Lib.hid ev
  have EP := Lib.hid ep
  have EE := Lib.hid ee
  have FIN := Lib.hid (ext_trans B3.out r35)
  clear hk_ hS ev ep ee hms4 hps4 hes4 hms2 hps2 hes2 x7 x5 fm fp fe hw5 r5 r35 MS4 PS4 ES4 MS3 PS3 ES3 X3 B3 LK2 HB4
  go_upto_region 8 with (fail)
  refine region_below ((HS.out _).2 (Below.refl _ _)) (fun W h => (HS.out _).2 (ext_drew ((HS.out _).1 h))) (by kernel_rfl) (by kernel_rfl) ?_
  intro hne
  repeat (go_big_quiet_step (first
    | (go_at_call 14; with_reducible exact wd_call HK.out (EV.out _))
    | (go_at_call 15; with_reducible exact wd_call HK.out (EP.out _))
    | (go_at_call 16; with_reducible exact wd_call HK.out (EE.out _))))
  refine wpQuiet_nil ?_
  intro W hSW
  have hbW := (HS.out _).1 hSW
  have HBW := Lib.hid hbW
  clear hbW hSW
  go_wp2
  go_ret
  exact ⟨rfl, ext_trans FIN.out HBW.out⟩
theorem linkFront_walk {w : World} (x : ModsA) (a : Int) (hx : x.ok w) (z : x.n * 96 ≤ 140737488351232) (ha : (Lit.int .i64 a).wf = true) : Calls Try.prog 4 #[x.val, .int .i64 a] w fun e w' => e = .returned (.bool true) ∧ Below w.heap.size w w' := by
  obtain ⟨k, hk⟩ := Int.eq_ofNat_of_zero_le (Int.emod_nonneg a (show ((x.n + 1 : Nat) : Int) ≠ 0 by omega))
  by_cases h : LinkOk isNameB x.ms ∧ LinkOk isNameB (x.ms.take k)
  · exact front_good x a k w hx (by omega) hk h.1 h.2
  · exact front_bad x a k w hx (by omega) hk h
end Go.Proofs.Ytmmmmeeepieemaa
