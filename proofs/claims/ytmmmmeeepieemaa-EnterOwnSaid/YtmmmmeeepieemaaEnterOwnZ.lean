import Derived.BigQuiet
import Derived.Deep.QuietTactic
import Derived.Laws.StructEq
import Derived.Test.YtmmmmeeepieemaaEnterOwnLawZ
import Derived.Test.YtmmmmeeepieemaaEnterZ
import Derived.Test.YtmmmmeeepieemaaLiftIntsZ
import Derived.Test.YtmmmmeeepieemaaLiftModsZ
import Derived.Test.YtmmmmeeepieemaaLiftStrZ
import Derived.Test.YtmmmmeeepieemaaLinkTwoZ
import Derived.Test.YtmmmmeeepieemaaLinkedZ
import Derived.Test.YtmmmmeeepieemaaNearZ
/- The walk of EnterOwn. -/
namespace Go.Proofs.Ytmmmmeeepieemaa
open Go Go.RowKit Go.Shelf
set_option linter.unusedVariables false
set_option linter.unusedSimpArgs false
theorem own_slE {α : Type} [El α] {w : World} {base : Nat} {T : TypeId} {ao : Option Addr} {n c : Nat} {xs : List α} (h : Own w base T (.slice ao n c) xs) : Sl w ao n xs := by
  obtain ⟨a', c', e, hs, _⟩ := h.sl
  injection e with e1 e2 e3
  subst e1 e2
  exact hs
/-- The cells of one who has entered. -/
structure EntC (R : List ValV) (c : KeyV) (M : List ValV) (cs : Array Value) (W : World) : Prop where
  row : MRow R c M [] [] cs W
  one : cs.all (·.oneCell') = true
theorem EntC.sz {R : List ValV} {c : KeyV} {M : List ValV} {cs : Array Value} {W : World} (h : EntC R c M cs W) : cs.size = 64 := by
  obtain ⟨ma, sa, oa, mc, sc, oc, e, _⟩ := h.row.row
  rw [e]; exact mcs_size h.row.h8
theorem EntC.all {R : List ValV} {c : KeyV} {M : List ValV} {cs : Array Value} {W : World} (h : EntC R c M cs W) : cs.extract 0 (0 + 64) = cs := by rw [Array.extract_eq_self_of_le (by rw [h.sz]; decide)]
theorem near_closed {ms : List ModV} {f : Nat} {nl : List Int} (h : NearSt ms f nl) (hc : Cov0 ms nl nl.length) : Closed ms (fun n => (n : Int) ∈ nl) := by
  intro n m x n' m' y hn hm hx hm' hy e
  obtain ⟨i, hi⟩ := List.getElem?_of_mem hn
  have hil : i < nl.length := (List.getElem?_eq_some_iff.1 hi).1
  exact hc i n m hil hi hm x hx n' m' y (List.getElem?_eq_some_iff.1 hm').1 hm' hy e
set_option maxHeartbeats 8000000 in
set_option maxRecDepth 100000 in
theorem own_bad (x0 : ModsA) (s : ByteArray) (l : SlV Int) (w : World) (hx : x0.ok w) (hl : l.ok I64 w) (hno : ¬ LinkOk isNameB x0.ms) : Calls Try.prog 9 #[x0.val, .string s, l.val] w fun e w' => e = .returned (.bool true) ∧ Below w.heap.size w w' := by
  obtain ⟨ao, N, c0, rs, ms⟩ := x0
  obtain ⟨hm, hle⟩ := hx
  obtain ⟨aa, an, ac, args⟩ := l
  obtain ⟨ha, hai, hac⟩ := hl
  simp only [ModsA.val, SlV.val] at *
  have hn := hm.n
  have hmx := hm.sl.max
  unfold maxLen at hmx
  have hal := ha.len
  have hamx := ha.max
  unfold maxLen at hamx
  have lk := link_bad ao N c0 rs ms w hm hno
  have LK := Lib.hid lk
  have HM := Lib.hid hm
  have HA := Lib.hid ha
  have HAI := Lib.hid hai
  clear lk hm ha hai
  go_enter Try.func9, Try.ntmps9
  go_upto_region 2 with (go_at_call 11; ((with_reducible refine (LK.out).mono ?_); rintro e w1 ⟨er, her, rfl, hb1⟩; have HB1 := Lib.hid hb1; clear hb1))
  have q1 : (er != 0) = true := by simpa using her
  obtain ⟨w2, hw2⟩ : ∃ w2, w2 = w1.alloc (.cells #[.slice none 0 0, .slice none 0 0, .slice none 0 0] 27) := ⟨_, rfl⟩
  rw [← hw2]
  have b2 : Bk w2 w1.heap.size 27 #[.slice none 0 0, .slice none 0 0, .slice none 0 0] := by rw [hw2]; exact bk_new _ _ _
  have HB2 := Lib.hid (show Below w.heap.size w w2 by rw [hw2]; exact ext_alloc HB1.out _)
  have B2 := Lib.hid b2
  clear b2 hw2
  go_upto_region 4 with (go_at_call 12; ((with_reducible refine (linked_any _).mono ?_); rintro e w3 ⟨rfl, hb3⟩; have HB3 := Lib.hid hb3; clear hb3))
  have ow := owner_any ao N c0 rs ms s w3 (HM.out.below (ext_trans HB2.out HB3.out))
  have OWN := Lib.hid ow
  clear ow
  go_upto_region 5 with (go_at_call 21; ((with_reducible refine (OWN.out).mono ?_); rintro e w4 ⟨fv, rfl, hfv, hb4⟩; have HFV := Lib.hid hfv; have HB4 := Lib.hid hb4; clear hfv hb4))
  obtain ⟨i0, i1, i2⟩ := cells3 (bk_keep (ext_trans HB3.out HB4.out) B2.out)
  have iL := (bk_keep (ext_trans HB3.out HB4.out) B2.out).lt
  have b04 := ext_trans HB2.out (ext_trans HB3.out HB4.out)
  have en : ∃ ee, Calls Try.prog 20 #[.agg #[.slice none 0 0, .slice none 0 0, .slice none 0 0], .string s, .slice aa an ac] w4 fun e w5 => e = .returned (.tuple #[.agg zmc, .int .i64 ee]) ∧ Below w4.heap.size w4 w5 := by
    refine ⟨enterE [] s args, (enter_any none none none aa 0 0 0 0 0 0 an ac [] [] s args w4 (Sl.nil _ _) (Sl.nil _ _) (HA.out.below b04) im_none HAI.out).mono ?_⟩
    rintro e w5 (⟨_, rfl, hb⟩ | ⟨_, x, vm, hf, _⟩)
    · exact ⟨rfl, hb⟩
    · exact absurd hf (by unfold findE; simp)
  obtain ⟨ee, en⟩ := en
  have EN := Lib.hid en
  have B04 := Lib.hid b04
  clear en b04
  go_upto_region 6 with (first
    | (go_at_call 20; ((with_reducible refine (EN.out).mono ?_); rintro e w5 ⟨rfl, hb5⟩; have HB5 := Lib.hid hb5; clear hb5))
    | (refine wpList_store_fresh rfl 63 (.tmp 10) (.tmp 47) rfl rfl zmc 63 _ rfl (by first | rfl | kernel_rfl) (by kernel_rfl) (by kernel_rfl) (by kernel_rfl) ?_))
  obtain ⟨w6, hw6⟩ : ∃ w6, w6 = w5.alloc (.cells zmc 63) := ⟨_, rfl⟩
  rw [← hw6]
  have HB6 := Lib.hid (show Below w.heap.size w w6 by rw [hw6]; exact ext_alloc (ext_trans B04.out HB5.out) _)
  clear hw6 i0 i1 i2 iL
  go_wp2
  go_ret
  exact ⟨rfl, HB6.out⟩
set_option maxHeartbeats 16000000 in
set_option maxRecDepth 100000 in
theorem own_good (x0 : ModsA) (s : ByteArray) (l : SlV Int) (w : World) (hx : x0.ok w) (hl : l.ok I64 w) (hok : LinkOk isNameB x0.ms) : Calls Try.prog 9 #[x0.val, .string s, l.val] w fun e w' => e = .returned (.bool true) ∧ Below w.heap.size w w' := by
  obtain ⟨ao, N, c0, rs, ms⟩ := x0
  obtain ⟨hm, hle⟩ := hx
  obtain ⟨aa, an, ac, args⟩ := l
  obtain ⟨ha, hai, hac⟩ := hl
  simp only [ModsA.val, SlV.val] at *
  have hn := hm.n
  have hmx := hm.sl.max
  unfold maxLen at hmx
  have hal := ha.len
  have hamx := ha.max
  unfold maxLen at hamx
  have lk := link_good ao N c0 rs ms w hm hok
  unfold LinkRes at lk
  have hio := hok.im_ok
  have hl8 := hok.l
  have htot := hok.t
  have hml := linkMem_len ms
  have hpl := placesF_len ms 0 0
  have hPat : ∀ (t : Nat) (m : ModV), ms[t]? = some m → (placesF 0 0 ms)[t]? = some (placeOf (total (ms.take t)) t m) := fun t m h => by
    have := placesF_at ms 0 0 t m h
    rwa [Nat.zero_add, Nat.zero_add] at this
  have hmem : ∀ x ∈ entriesF 0 0 ms, x ∈ entriesF 0 0 ms := fun _ h => h
  have hhit := fun (n : Nat) (m : ModV) (y : NamV) (hm : ms[n]? = some m) (hy : y ∈ m.ex) => owns_hit hok hm hy
  have hmiss := owns_miss (ms := ms) (s := s)
  have hown := fun (f : Nat) (m : ModV) (y : NamV) (hm : ms[f]? = some m) => own_list (y := y) (args := args) hok hm
  have hdeep := fun (S : Nat → Prop) (hS : Closed ms S) (f : Nat) (m : ModV) (y : NamV) (p a : Int) (n0 : Nat) (hm : ms[f]? = some m) (hf : S f) => own_deep (y := y) (args := args) (p := p) (a := a) (n0 := n0) hok hm hS hf
  generalize linkMem ms = M at *
  generalize placesF 0 0 ms = P at *
  generalize entriesF 0 0 ms = E at *
  have LK := Lib.hid lk
  have HM := Lib.hid hm
  have HA := Lib.hid ha
  have HAI := Lib.hid hai
  have HIO := Lib.hid hio
  have HPAT := Lib.hid hPat
  have HHIT := Lib.hid hhit
  have HMISS := Lib.hid hmiss
  have HOWN := Lib.hid hown
  have HDEEP := Lib.hid hdeep
  have HML := Lib.hid hml
  clear hml lk hm ha hai hio hok hPat hmem hhit hmiss hown hdeep
  go_enter Try.func9, Try.ntmps9
  go_upto_region 2 with (go_at_call 11; ((with_reducible refine (LK.out).mono ?_); rintro e w1 ⟨vm, vp, ve, rfl, om, op, oe, hb⟩; obtain ⟨ma1, mc1, rfl, hms, hmc1⟩ := own_slc om; obtain ⟨pa1, pc1, rfl, hps, hpc1⟩ := own_slc op; obtain ⟨ea1, ec1, rfl, hes, hec1⟩ := own_slc oe; have MS1 := Lib.hid hms; have PS1 := Lib.hid hps; have ES1 := Lib.hid hes; have HB1 := Lib.hid hb; clear om op oe hb hms hps hes))
  obtain ⟨mn, hmn⟩ : ∃ mn, M.length = mn := ⟨_, rfl⟩
  obtain ⟨en1, hen1⟩ : ∃ en, E.length = en := ⟨_, rfl⟩
  rw [hmn] at MS1
  rw [hpl, hn] at PS1
  rw [hen1] at ES1
  obtain ⟨w2, hw2⟩ : ∃ w2, w2 = w1.alloc (.cells #[.slice ma1 mn mc1, .slice pa1 N pc1, .slice ea1 en1 ec1] 27) := ⟨_, rfl⟩
  try rw [hmn]
  try rw [hen1]
  rw [← hw2]
  obtain ⟨gi, hgi⟩ : ∃ gi, w1.heap.size = gi := ⟨_, rfl⟩
  rw [hgi]
  have b2 : Bk w2 gi 27 #[.slice ma1 mn mc1, .slice pa1 N pc1, .slice ea1 en1 ec1] := by rw [hw2, ← hgi]; exact bk_new _ _ _
  have r2 : Below w1.heap.size w1 w2 := by rw [hw2]; exact ext_alloc (Below.refl _ _) _
  have HB2 := Lib.hid (ext_trans HB1.out r2)
  have B2 := Lib.hid b2
  have MS2 := Lib.hid (MS1.out.below r2)
  have PS2 := Lib.hid (PS1.out.below r2)
  have ES2 := Lib.hid (ES1.out.below r2)
  have HMN := Lib.hid hmn
  clear b2 hw2 r2 hgi MS1 PS1 ES1 HB1 LK hpl hmn hen1
  go_upto_region 4 with (go_at_call 12; ((with_reducible refine (linked_any _).mono ?_); rintro e w3 ⟨rfl, hb3⟩; have HB3 := Lib.hid hb3; clear hb3))
  have ow := owner_any ao N c0 rs ms s w3 (HM.out.below (ext_trans HB2.out HB3.out))
  have OWN := Lib.hid ow
  clear ow
  go_upto_region 5 with (go_at_call 21; ((with_reducible refine (OWN.out).mono ?_); rintro e w4 ⟨fv, rfl, hfv, hb4⟩; have HFV := Lib.hid hfv; have HB4 := Lib.hid hb4; clear hfv hb4))
  have b24 := ext_trans HB3.out HB4.out
  obtain ⟨i0, i1, i2⟩ := cells3 (bk_keep b24 B2.out)
  have iL := (bk_keep b24 B2.out).lt
  have B24 := Lib.hid b24
  have B04 := Lib.hid (ext_trans HB2.out b24)
  have en := enter_any ma1 pa1 ea1 aa mn mc1 N pc1 en1 ec1 an ac M E s args w4 (MS2.out.below b24) (ES2.out.below b24) (HA.out.below B04.out) HIO.out HAI.out
  clear b24 OWN HB3 HB4
  by_cases hee : enterE E s args = 0
  · have hall : args.all num32B = true := by
      unfold enterE at hee
      split at hee
      · cases hee
      · split at hee
        · cases hee
        · next h => simpa using h
    have hsome : ∃ x, findE E s = some x := by
      unfold enterE at hee
      split at hee
      · cases hee
      · split at hee
        · cases hee
        · split at hee
          · cases hee
          · next h => exact Option.ne_none_iff_exists'.1 h
    obtain ⟨x, hf⟩ := hsome
    have hxE : x ∈ E := (find_in hf).1
    have hmok := ent_ok HIO.out hxE hall
    rcases HFV.out with ⟨_, hv⟩ | ⟨f, m, y, rfl, hm, hy, hys⟩
    · exact absurd hf (by rw [HMISS.out hv]; exact fun h => by cases h)
    have hx' := HHIT.out f m y hm hy
    rw [hys, hf] at hx'
    injection hx' with hx'
    have en' : Calls Try.prog 20 #[.agg #[.slice ma1 mn mc1, .slice pa1 N pc1, .slice ea1 en1 ec1], .string s, .slice aa an ac] w4 fun e w5 => ∃ cs, e = .returned (.tuple #[.agg cs, .int .i64 0]) ∧ EntC (entR x args) (entK x) M cs w5 ∧ Below w4.heap.size w4 w5 := by
      refine en.mono ?_
      rintro e w5 (⟨h, _⟩ | ⟨_, x', vm, hf', he, ho, hb⟩)
      · exact absurd hee h
      · rw [hf] at hf'
        injection hf' with hf'
        subst hf'
        obtain ⟨va, vc, rfl, hvs, _⟩ := own_slc ho
        exact ⟨_, he, ⟨⟨by unfold entR; rw [List.length_set, argR_len], va, none, none, vc, 0, 0, rfl, hvs, Sl.nil _ _, Sl.nil _ _⟩, mcs_one rfl rfl rfl⟩, hb⟩
    have EN := Lib.hid en'
    obtain ⟨hol, hon⟩ := HOWN.out f m y hm
    have hdp := fun S hS p a n0 hf => HDEEP.out S hS f m y p a n0 hm hf
    rw [← hx'] at hol hon hdp
    have HOL := Lib.hid hol
    have HON := Lib.hid hon
    have HDP := Lib.hid hdp
    have HMOK := Lib.hid hmok
    have HMM := Lib.hid hm
    have hfN : f < N := by rw [← hn]; exact (List.getElem?_eq_some_iff.1 hm).1
    have hnz : ((0 : Int) != 0) = false := by decide
    clear en en' hol hon hdp hmok hm hy hys hx' hf hxE hall hee HFV HHIT HMISS HOWN HDEEP
    go_upto_region 6 with (first
      | (go_at_call 20; ((with_reducible refine (EN.out).mono ?_); rintro e w5 ⟨cs, rfl, hmr, hb5⟩; have HMR := Lib.hid hmr; have HSZ := Lib.hid hmr.sz; have HONE := Lib.hid hmr.one; have HALL := Lib.hid hmr.all; have HB5 := Lib.hid hb5; clear hmr hb5))
      | (refine wpList_store_fresh rfl 63 (.tmp 10) (.tmp 47) rfl rfl cs 63 _ rfl (by first | rfl | kernel_rfl) (by rw [HSZ.out]; kernel_rfl) (by rw [HSZ.out]; kernel_rfl) HONE.out ?_))
    obtain ⟨w6, hw6⟩ : ∃ w6, w6 = w5.alloc (.cells cs 63) := ⟨_, rfl⟩
    rw [← hw6]
    obtain ⟨g10, hg10⟩ : ∃ g, w5.heap.size = g := ⟨_, rfl⟩
    try rw [hg10]
    have b56 : Below w5.heap.size w5 w6 := by rw [hw6]; exact ext_alloc (Below.refl _ _) _
    have m6 : Bk w6 g10 63 cs := by rw [hw6, ← hg10]; exact bk_new _ _ _
    have b46 := ext_trans HB5.out b56
    have b26 := ext_trans B24.out b46
    have I6 := Lib.hid (bk_keep b26 B2.out)
    have PS6 := Lib.hid (PS2.out.below b26)
    have B06 := Lib.hid (ext_trans B04.out b46)
    have M6 := Lib.hid m6
    have HR6 := Lib.hid (HMR.out.row.below b56)
    have f0_ : (0 : Int) ≤ f := by omega
    have f1_ : (f : Int) < N := by omega
    have f2_ : ¬ ((f : Int) < 0) := by omega
    clear hw6 hg10 b56 m6 b46 b26 i0 i1 i2 iL MS2 ES2 PS2 B2 HB2 B24 B04 HB5 HMR EN
    have nr := near_any ao N c0 rs ms f w6 (HM.out.below B06.out) hfN (by omega)
    unfold NearRes at nr
    have NR := Lib.hid nr
    clear nr
    go_upto_region 11 with (go_at_call 22; ((with_reducible refine (NR.out).mono ?_); rintro e w7 ⟨v, nl, rfl, hon, hst, hc0, hb7⟩; obtain ⟨na, nn, nc, rfl⟩ := own_shape hon; have HON7 := Lib.hid hon; have HST := Lib.hid hst; have HC0 := Lib.hid hc0; have HB7 := Lib.hid hb7; clear hon hst hc0 hb7))
    have M7 := Lib.hid (bk_keep HB7.out M6.out)
    have mL7 := M7.out.lt
    have cc1 := cells_any (HR6.out.below HB7.out) false 0 HMOK.out
    unfold PlacesPost at cc1
    rw [HMN.out] at cc1
    rw [HMN.out] at HOL HON
    have HDP' := Lib.hid (fun S hS p a hf => HDP.out S hS p a mn hf)
    obtain ⟨L1, hL1⟩ : ∃ L, hitsL false M (rootsP false (entR x args) (entK x) []) 0 0 mn = L := ⟨_, rfl⟩
    obtain ⟨L2, hL2⟩ : ∃ L, hitsL true M (rootsP true (entR x args) (entK x) []) 2 0 mn = L := ⟨_, rfl⟩
    obtain ⟨L3, hL3⟩ : ∃ L, hitsL true M (rootsP true (entR x args) (entK x) []) 0 0 mn = L := ⟨_, rfl⟩
    have hol := HOL.out
    have hon := HON.out
    rw [hL1] at cc1 hol hon
    have hcl := near_closed HST.out HC0.out
    have hd3 := fun a => HDP'.out _ hcl 0 a HST.out.mem
    have hd2 := fun a => HDP'.out (fun _ => True) (fun n m x n' m' y _ _ _ _ _ _ => trivial) 2 a trivial
    rw [hL3] at hd3
    rw [hL2] at hd2
    have CC1 := Lib.hid cc1
    have HOL' := Lib.hid hol
    have HON' := Lib.hid hon
    have HD2 := Lib.hid hd2
    have HD3 := Lib.hid hd3
    have HL2 := Lib.hid hL2
    have HL3 := Lib.hid hL3
    clear cc1 hol hon hcl hd2 hd3 hL1 hL2 hL3 HOL HON HDP HDP' HC0 NR
    go_upto_region 12 with (first
      | (refine wpList_load_sub rfl 63 (.tmp 10) rfl g10 0 64 rfl 63 _ _ M7.out Try.underlying63 rfl (by kernel_rfl) (by rw [HSZ.out]; decide) _ HALL.out ?_)
      | (go_at_call 23; ((with_reducible refine (CC1.out).mono ?_); rintro e w8 ⟨v, rfl, ho, hb⟩; obtain ⟨a8, n8, c8, rfl⟩ := own_shape ho; have HO8 := Lib.hid ho; have HB8 := Lib.hid hb; clear ho hb)))
    have b68 := ext_trans HB7.out HB8.out
    have M8 := Lib.hid (bk_keep b68 M6.out)
    have mL8 := M8.out.lt
    have cc2 := cells_any (HR6.out.below b68) true 2 HMOK.out
    unfold PlacesPost at cc2
    rw [HMN.out, HL2.out] at cc2
    have CC2 := Lib.hid cc2
    have B68 := Lib.hid b68
    clear cc2 b68 mL7
    go_upto_region 13 with (first
      | (refine wpList_load_sub rfl 63 (.tmp 10) rfl g10 0 64 rfl 63 _ _ M8.out Try.underlying63 rfl (by kernel_rfl) (by rw [HSZ.out]; decide) _ HALL.out ?_)
      | (go_at_call 23; ((with_reducible refine (CC2.out).mono ?_); rintro e w9 ⟨v, rfl, ho, hb⟩; obtain ⟨a9, n9, c9, rfl⟩ := own_shape ho; have HO9 := Lib.hid ho; have HB9 := Lib.hid hb; clear ho hb)))
    have b69 := ext_trans B68.out HB9.out
    have M9 := Lib.hid (bk_keep b69 M6.out)
    have mL9 := M9.out.lt
    have cc3 := cells_any (HR6.out.below b69) true 0 HMOK.out
    unfold PlacesPost at cc3
    rw [HMN.out, HL3.out] at cc3
    have CC3 := Lib.hid cc3
    have B69 := Lib.hid b69
    clear cc3 b69 mL8
    go_upto_region 14 with (first
      | (refine wpList_load_sub rfl 63 (.tmp 10) rfl g10 0 64 rfl 63 _ _ M9.out Try.underlying63 rfl (by kernel_rfl) (by rw [HSZ.out]; decide) _ HALL.out ?_)
      | (go_at_call 23; ((with_reducible refine (CC3.out).mono ?_); rintro e w10 ⟨v, rfl, ho, hb⟩; obtain ⟨a10, n10, c10, rfl⟩ := own_shape ho; have HO10 := Lib.hid ho; have HB10 := Lib.hid hb; clear ho hb)))
    obtain ⟨W, hW⟩ : ∃ W, W = w10 := ⟨_, rfl⟩
    rw [← hW] at HB10 HO10
    rw [← hW]
    have b6W := ext_trans B69.out HB10.out
    have IW := Lib.hid (bk_keep b6W I6.out)
    have PW := Lib.hid (PS6.out.below b6W)
    have BW := Lib.hid (ext_trans B06.out b6W)
    have O1 := Lib.hid (HO8.out.below (ext_trans HB9.out HB10.out))
    have O2 := Lib.hid (HO9.out.below HB10.out)
    have O3 := Lib.hid HO10.out
    have ON := Lib.hid (HON7.out.below (ext_trans HB8.out (ext_trans HB9.out HB10.out)))
    have wh := fun (n : Nat) (m : ModV) (v : Int) (W' : World) (hb : Below W.heap.size W W') (hm : ms[n]? = some m) (h1 : (total (ms.take n) : Int) ≤ v) (h2 : v < total (ms.take n) + (m.code.length + m.data.length)) => whose_any gi N pc1 pa1 _ _ P ms n m v W' (bk_keep hb IW.out) (PW.out.below hb) hn HPAT.out htot hm h1 h2
    have WH := Lib.hid wh
    clear hW b6W wh mL9 HB7 HB8 HB9 HB10 HO8 HO9 HO10 HON7 B68 B69 B06 I6 PS6 M6 M7 M8 M9 HR6 CC1 CC2 CC3 HMOK HSZ HONE HALL HPAT HL2 HL3
    have mx8 := (own_slE O1.out).max
    have mx9 := (own_slE O2.out).max
    have mx10 := (own_slE O3.out).max
    unfold maxLen at mx8 mx9 mx10
    have HTC := Lib.hid (show m.code.length + m.data.length ≤ 400 by have h1 := total_take_succ HMM.out; have h2 := total_take_le ms (f + 1); omega)
    go_wp2
    go_loopw [88] (fun i wr => ∃ k : Nat, k ≤ n8 ∧ i = .int .i64 k ∧ Below W.heap.size W wr) (fun i _ => n8 - (intOf i).toNat)
    case atStart => exact ⟨0, Nat.zero_le _, rfl, Below.refl _ _⟩
    case round =>
      obtain ⟨k, hk, rfl, hb⟩ := hrel
      have HB := Lib.hid hb
      clear hb
      by_cases hlt : k < n8
      · have q0 : (0 : Int) ≤ k := by omega
        have q1 : (k : Int) < n8 := by omega
        have hsl := (own_slE O1.out).below HB.out
        obtain ⟨a, hga⟩ : ∃ a, (L1)[k]? = some a := ⟨_, List.getElem?_eq_getElem (by rw [hsl.len]; exact hlt)⟩
        obtain ⟨xd, hxo, hxb, f0⟩ := sl_int hsl hlt hga
        subst hxo
        have hla := HOL'.out a (List.mem_of_getElem? hga)
        have wk := WH.out f m a wr HB.out HMM.out hla.1 hla.2
        have WHK := Lib.hid wk
        have g1 : ((f : Int) != (f : Int)) = false := by simp
        clear hsl hga hla wk
        go_wp2_with (go_at_call 24; ((with_reducible refine (WHK.out).mono ?_); rintro e w11 ⟨rfl, hb11⟩; have HB11 := Lib.hid hb11; clear hb11))
        go_roundw
        case rel => exact ⟨k + 1, by omega, by go_num, ext_trans HB.out HB11.out⟩
        case measure => simp [intOf]; omega
      · have q1 : ¬ ((k : Int) < n8) := by omega
        go_wp2
        go_loopw [104] (fun i wr => ∃ k : Nat, k ≤ n10 ∧ i = .int .i64 k ∧ Below W.heap.size W wr) (fun i _ => n10 - (intOf i).toNat)
        case atStart => exact ⟨0, Nat.zero_le _, rfl, HB.out⟩
        case round =>
          obtain ⟨k, hk, rfl, hb⟩ := hrel
          have HB := Lib.hid hb
          clear hb
          by_cases hlt : k < n10
          · have q0 : (0 : Int) ≤ k := by omega
            have q1 : (k : Int) < n10 := by omega
            have hsl := (own_slE O3.out).below HB.out
            obtain ⟨a, hga⟩ : ∃ a, (L3)[k]? = some a := ⟨_, List.getElem?_eq_getElem (by rw [hsl.len]; exact hlt)⟩
            obtain ⟨xd, hxo, hxb, f0⟩ := sl_int hsl hlt hga
            subst hxo
            obtain ⟨n', m', hn', hm', h1', h2', _⟩ := HD3.out a (List.mem_of_getElem? hga)
            have wk := WH.out n' m' a wr HB.out hm' h1' h2'
            have hsn := fun (W' : World) (hb : Below W.heap.size W W') => has_numR na nn nc nl n' W' ((own_slE ON.out).below hb)
            simp only [hn', decide_true] at hsn
            have WHK := Lib.hid wk
            have HSN := Lib.hid hsn
            clear hsl hga wk hsn hn' hm' h1' h2'
            go_wp2_with (first
              | (go_at_call 24; ((with_reducible refine (WHK.out).mono ?_); rintro e w11 ⟨rfl, hb11⟩; have HB11 := Lib.hid hb11; clear hb11))
              | (go_at_call 25; ((with_reducible refine (HSN.out _ (ext_trans HB.out HB11.out)).mono ?_); rintro e w' ⟨rfl, rfl⟩)))
            go_roundw
            case rel => exact ⟨k + 1, by omega, by go_num, ext_trans HB.out HB11.out⟩
            case measure => simp [intOf]; omega
          · have q1 : ¬ ((k : Int) < n10) := by omega
            go_wp2
            go_loopw [121] (fun i wr => ∃ k : Nat, k ≤ n9 ∧ i = .int .i64 k ∧ Below W.heap.size W wr) (fun i _ => n9 - (intOf i).toNat)
            case atStart => exact ⟨0, Nat.zero_le _, rfl, HB.out⟩
            case round =>
              obtain ⟨k, hk, rfl, hb⟩ := hrel
              have HB := Lib.hid hb
              clear hb
              by_cases hlt : k < n9
              · have q0 : (0 : Int) ≤ k := by omega
                have q1 : (k : Int) < n9 := by omega
                have hsl := (own_slE O2.out).below HB.out
                obtain ⟨a, hga⟩ : ∃ a, (L2)[k]? = some a := ⟨_, List.getElem?_eq_getElem (by rw [hsl.len]; exact hlt)⟩
                obtain ⟨xd, hxo, hxb, f0⟩ := sl_int hsl hlt hga
                subst hxo
                obtain ⟨n', m', _, hm', h1', h2', h3'⟩ := HD2.out a (List.mem_of_getElem? hga)
                have hnc : decide (a < (total (ms.take n') : Int) + m'.code.length) = false := by have := h3' (by first | rfl | trivial); simp; omega
                have wk := WH.out n' m' a wr HB.out hm' h1' h2'
                rw [hnc] at wk
                have WHK := Lib.hid wk
                clear hsl hga wk hm' h1' h2' h3' hnc
                go_wp2_with (go_at_call 24; ((with_reducible refine (WHK.out).mono ?_); rintro e w11 ⟨rfl, hb11⟩; have HB11 := Lib.hid hb11; clear hb11))
                go_roundw
                case rel => exact ⟨k + 1, by omega, by go_num, ext_trans HB.out HB11.out⟩
                case measure => simp [intOf]; omega
              · have q1 : ¬ ((k : Int) < n9) := by omega
                obtain ⟨r, m', hr, hm', hhas⟩ := HM.out.get hfN
                have hmm := HMM.out
                rw [hm'] at hmm
                injection hmm with hmm
                subst hmm
                obtain ⟨ad, hao, hab, e0, e1, e2, e3⟩ := sl_ModR (HM.out.sl.below (ext_trans BW.out HB.out)) hfN hr
                subst hao
                obtain ⟨⟨ca, cn, cc⟩, ⟨da, dn, dc⟩, ⟨xa, xn, xc⟩, ⟨ia, jn, ic⟩⟩ := r
                simp only at e0 e1 e2 e3
                have hcn := hhas.code.len
                have hdn := hhas.data.len
                simp only at hcn hdn
                have l1 := (own_slE O1.out).len
                have hon := HON'.out
                have hm4 := (own_slE O1.out).max
                unfold maxLen at hm4
                have hsum : (n8 : Int) = (cn : Int) + dn := by omega
                have g1 : ((n8 : Int) == (cn : Int) + dn) = true := by simp [hsum]
                have cb : (cn : Int) ≤ 1000 := by have := HTC.out; omega
                have db : (dn : Int) ≤ 1000 := by have := HTC.out; omega
                clear hr hm' hhas hcn hdn l1 hon hm4 hsum
                go_wp2
                go_quiet (fail)
                go_wp2
                go_ret
                exact ⟨rfl, ext_trans BW.out (ext_drewN HB.out _)⟩
  · have en' : ∃ ee, (ee ≠ 0) ∧ Calls Try.prog 20 #[.agg #[.slice ma1 mn mc1, .slice pa1 N pc1, .slice ea1 en1 ec1], .string s, .slice aa an ac] w4 fun e w5 => e = .returned (.tuple #[.agg zmc, .int .i64 ee]) ∧ Below w4.heap.size w4 w5 := by
      refine ⟨enterE E s args, hee, en.mono ?_⟩
      rintro e w5 (⟨_, rfl, hb⟩ | ⟨h, _⟩)
      · exact ⟨rfl, hb⟩
      · exact absurd h hee
    obtain ⟨ee, hee', en'⟩ := en'
    have q1 : (ee != 0) = true := by simpa using hee'
    have EN := Lib.hid en'
    clear en en' hee
    go_upto_region 6 with (first
      | (go_at_call 20; ((with_reducible refine (EN.out).mono ?_); rintro e w5 ⟨rfl, hb5⟩; have HB5 := Lib.hid hb5; clear hb5))
      | (refine wpList_store_fresh rfl 63 (.tmp 10) (.tmp 47) rfl rfl zmc 63 _ rfl (by first | rfl | kernel_rfl) (by kernel_rfl) (by kernel_rfl) (by kernel_rfl) ?_))
    obtain ⟨w6, hw6⟩ : ∃ w6, w6 = w5.alloc (.cells zmc 63) := ⟨_, rfl⟩
    rw [← hw6]
    have HB6 := Lib.hid (show Below w.heap.size w w6 by rw [hw6]; exact ext_alloc (ext_trans B04.out HB5.out) _)
    clear hw6 i0 i1 i2 iL
    go_wp2
    go_ret
    exact ⟨rfl, HB6.out⟩
theorem enterOwn_walk {w : World} (x : ModsA) (s : ByteArray) (l : SlV Int) (hx : x.ok w) (hs : s.size ≤ maxLen) (hl : l.ok I64 w) : Calls Try.prog 9 #[x.val, .string s, l.val] w fun e w' => e = .returned (.bool true) ∧ Below w.heap.size w w' := by
  by_cases h : LinkOk isNameB x.ms
  · exact own_good x s l w hx hl h
  · exact own_bad x s l w hx hl h
end Go.Proofs.Ytmmmmeeepieemaa
