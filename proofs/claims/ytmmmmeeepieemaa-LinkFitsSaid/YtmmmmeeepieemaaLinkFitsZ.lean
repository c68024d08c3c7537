import Derived.BigQuiet
import Derived.BigRegion
import Derived.Deep.DeepCutAuto
import Derived.Deep.QuietTactic
import Derived.Deep.RegionLaw
import Derived.Test.YtmmmmeeepieemaaFitsLawZ
import Derived.Test.YtmmmmeeepieemaaHeapAppendZ
import Derived.Test.YtmmmmeeepieemaaLiftModsZ
import Derived.Test.YtmmmmeeepieemaaLinkTwoZ
import Derived.Test.YtmmmmeeepieemaaLinkedZ
/- The walk of LinkFits. -/
namespace Go.Proofs.Ytmmmmeeepieemaa
open Go Go.RowKit Go.Shelf
set_option linter.unusedVariables false
set_option linter.unusedSimpArgs false
theorem sl_dropM {α : Type} [El α] {w : World} {a : Addr} {n : Nat} {xs : List α} (h : Sl w (some a) n xs) {j : Nat} (hj : j ≤ n) : Sl w (some (a.add (j * El.k α))) (n - j) (xs.drop j) := by
  refine ⟨by rw [List.length_drop, h.len], by have := h.max; omega, fun hp => ?_⟩
  obtain ⟨b, e, hb, hc⟩ := h.row (by omega)
  injection e with e
  subst e
  refine ⟨_, rfl, by rw [el_block]; exact hb, fun i u hu => ?_⟩
  rw [el_add]
  rw [cls_drop, List.getElem?_drop] at hu
  exact hc _ u hu
theorem mods_without {ao va : Option Addr} {n N1 k : Nat} {rs : List ModR} {ms : List ModV} {w w' : World} (h : Mods w ao n rs ms) (hb : Below w.heap.size w w') (hs : Sl w' va N1 (without rs k)) : Mods w' va N1 (without rs k) (without ms k) := by
  refine ⟨hs, by unfold without; simp [h.len], fun i r m h1 h2 => ?_⟩
  have hl := h.len
  unfold without at h1 h2
  rcases Nat.lt_or_ge i (rs.take k).length with hi | hi
  · rw [List.getElem?_append_left hi] at h1
    rw [List.getElem?_append_left (by rw [List.length_take] at hi ⊢; omega)] at h2
    have hik : i < k := by rw [List.length_take] at hi; omega
    rw [List.getElem?_take_of_lt hik] at h1 h2
    exact (h.at_ i r m h1 h2).below hb
  · rw [List.getElem?_append_right hi] at h1
    rw [List.getElem?_append_right (by rw [List.length_take] at hi ⊢; omega)] at h2
    rw [List.length_take] at h1 h2
    rw [hl] at h1
    rw [List.getElem?_drop] at h1 h2
    exact (h.at_ _ r m h1 h2).below hb
theorem info_modL : (Try.prog.info? 36).map (fun i => (i.zero, i.size, i.bytes)) = some (some (.agg #[.slice none 0 0, .slice none 0 0, .slice none 0 0, .slice none 0 0]), 4, 96) := by kernel_rfl
set_option maxHeartbeats 8000000 in
set_option maxRecDepth 100000 in
theorem fits_bad (x : ModsA) (a : Int) (w : World) (hx : x.ok w) (hno : ¬ LinkOk isNameB x.ms) : Calls Try.prog 5 #[x.val, .int .i64 a] w fun e w' => e = .returned (.bool true) ∧ Below w.heap.size w w' := by
  obtain ⟨ao, N, c, rs, ms⟩ := x
  obtain ⟨hm, hle⟩ := hx
  simp only [ModsA.val] at *
  have hn := hm.n
  have hmx := hm.sl.max
  unfold maxLen at hmx
  have HM := Lib.hid hm
  clear hm
  go_enter Try.func5, Try.ntmps5
  go_upto_region 3 with (go_at_call 12; ((with_reducible refine (linked_any _).mono ?_); rintro e w1 ⟨rfl, hb1⟩; have HB1 := Lib.hid hb1; clear hb1))
  have lk1 := link_bad ao N c rs ms w1 (HM.out.below HB1.out) hno
  have LK1 := Lib.hid lk1
  clear lk1
  go_upto_region 4 with (go_at_call 11; ((with_reducible refine (LK1.out).mono ?_); rintro e w2 ⟨er, her, rfl, hb⟩; have HB2 := Lib.hid hb; clear hb))
  have q1 : (er != 0) = true := by simpa using her
  go_wp2
  go_ret
  exact ⟨rfl, ext_alloc (ext_trans HB1.out HB2.out) _⟩
set_option maxHeartbeats 8000000 in
set_option maxRecDepth 100000 in
theorem fits_none (x : ModsA) (a : Int) (w : World) (hx : x.ok w) (hok : LinkOk isNameB x.ms) (h0 : x.n = 0) : Calls Try.prog 5 #[x.val, .int .i64 a] w fun e w' => e = .returned (.bool true) ∧ Below w.heap.size w w' := by
  obtain ⟨ao, N, c, rs, ms⟩ := x
  obtain ⟨hm, hle⟩ := hx
  simp only [ModsA.val] at *
  have hn := hm.n
  have hmx := hm.sl.max
  unfold maxLen at hmx
  subst h0
  have HM := Lib.hid hm
  clear hm
  go_enter Try.func5, Try.ntmps5
  go_upto_region 3 with (go_at_call 12; ((with_reducible refine (linked_any _).mono ?_); rintro e w1 ⟨rfl, hb1⟩; have HB1 := Lib.hid hb1; clear hb1))
  have lk1 := link_good ao 0 c rs ms w1 (HM.out.below HB1.out) hok
  unfold LinkRes at lk1
  have LK1 := Lib.hid lk1
  clear lk1
  go_upto_region 4 with (go_at_call 11; ((with_reducible refine (LK1.out).mono ?_); rintro e w2 ⟨vm, vp, ve, rfl, om, op, oe, hb⟩; obtain ⟨ma2, mc2, rfl, hms, hmc2⟩ := own_slc om; obtain ⟨pa2, pc2, rfl, hps, hpc2⟩ := own_slc op; obtain ⟨ea2, ec2, rfl, hes, hec2⟩ := own_slc oe; have MS2 := Lib.hid hms; have PS2 := Lib.hid hps; have ES2 := Lib.hid hes; have HB2 := Lib.hid hb; clear om op oe hb hms hps hes))
  go_wp2
  go_ret
  exact ⟨rfl, ext_alloc (ext_trans HB1.out HB2.out) _⟩
set_option maxHeartbeats 16000000 in
set_option maxRecDepth 100000 in
theorem fits_good (x : ModsA) (a : Int) (k : Nat) (w : World) (hx : x.ok w) (hok : LinkOk isNameB x.ms) (h0 : 0 < x.n) (hka : a % (x.n : Nat) = k) : Calls Try.prog 5 #[x.val, .int .i64 a] w fun e w' => e = .returned (.bool true) ∧ Below w.heap.size w w' := by
  obtain ⟨ao, N, c, rs, ms⟩ := x
  obtain ⟨hm, hle⟩ := hx
  simp only [ModsA.val] at *
  have hn := hm.n
  have hmx := hm.sl.max
  unfold maxLen at hmx
  have hk : k < N := by have := Int.emod_lt_of_pos a (show (0 : Int) < (N : Nat) by omega); omega
  have hl8 := hok.l
  have rs_ := fun W => rest_wide a (N : Int) W (by omega) (by omega)
  rw [hka] at rs_
  obtain ⟨r0, m0, hr0, hm0, hhas0⟩ := hm.get hk
  have RS := Lib.hid rs_
  have HM := Lib.hid hm
  have HOK := Lib.hid hok
  have HM0 := Lib.hid hm0
  have HR0 := Lib.hid hr0
  have HH0 := Lib.hid hhas0
  clear rs_ hm hka hok hm0 hr0 hhas0
  obtain ⟨i0, hi0, hz0, hz1, hz2⟩ := info_parts info_modL
  go_enter Try.func5, Try.ntmps5
  go_upto_region 3 with (go_at_call 12; ((with_reducible refine (linked_any _).mono ?_); rintro e w1 ⟨rfl, hb1⟩; have HB1 := Lib.hid hb1; clear hb1))
  have lk1 := link_good ao N c rs ms w1 (HM.out.below HB1.out) HOK.out
  unfold LinkRes at lk1
  have LK1 := Lib.hid lk1
  clear lk1
  go_upto_region 4 with (go_at_call 11; ((with_reducible refine (LK1.out).mono ?_); rintro e w2 ⟨vm, vp, ve, rfl, om, op, oe, hb⟩; obtain ⟨ma2, mc2, rfl, hms, hmc2⟩ := own_slc om; obtain ⟨pa2, pc2, rfl, hps, hpc2⟩ := own_slc op; obtain ⟨ea2, ec2, rfl, hes, hec2⟩ := own_slc oe; have MS2 := Lib.hid hms; have PS2 := Lib.hid hps; have ES2 := Lib.hid hes; have HB2 := Lib.hid hb; clear om op oe hb hms hps hes))
  have g0 : ((N : Int) == 0) = false := beq_eq_false_iff_ne.2 (by omega)
  go_upto_region 7 with (go_at_call 13; ((with_reducible refine (RS.out _).mono ?_); rintro e w' ⟨rfl, rfl⟩))
  obtain ⟨w3, hw3⟩ : ∃ w3, w3 = w2.alloc (.cells #[.slice ma2 (linkMem ms).length mc2, .slice pa2 (placesF 0 0 ms).length pc2, .slice ea2 (entriesF 0 0 ms).length ec2] 27) := ⟨_, rfl⟩
  rw [← hw3]
  have b3 : Below w.heap.size w w3 := by rw [hw3]; exact ext_alloc (ext_trans HB1.out HB2.out) _
  clear hw3
  obtain ⟨ad, hao, _⟩ := HM.out.sl.row (by omega)
  subst hao
  have hs3 : Sl w3 (some ad) N rs := HM.out.sl.below b3
  have hlr := hs3.len
  obtain ⟨v4, w4, hr1, ho4, hg4, _⟩ := run_append_sl (P := Try.prog) w3.drew w3.heap.size 22 22 36 i0 _ 96 Try.underlying22 hi0 hz0 hz1 hz2 rfl (.slice none 0 0) ([] : List ModR) (Own.nil _ _ _) (some ad) k c (rs.take k) ((sl_front hs3 (by omega)).drew) (by unfold maxLen; simp; omega) (by simp; omega) (Nat.le_refl _)
  rw [List.nil_append] at ho4
  have hd4 : Sl w4 (some (ad.add ((k + 1) * 4))) (N - (k + 1)) (rs.drop (k + 1)) := (sl_dropM hs3 (j := k + 1) (by omega)).drew.grown hg4 (fun a _ _ => by simp [Value.ownBlock])
  have hs4 : w3.heap.size ≤ w4.heap.size := hg4.size
  have htl : (rs.take k).length = k := by rw [List.length_take]; omega
  have b4 : Below w.heap.size w w4 := (show Below w.heap.size w w3.drew from ext_drew b3).grown hg4 (by have := b3.size; simpa using this) (fun k hk => by simp [Value.ownBlock] at hk)
  have hw1 : IntKind.i64.wrap ((k : Int) + 1) = (k : Int) + 1 := by rw [IntKind.wrap_i64]; omega
  have hq1 : (0 : Int) ≤ (k : Int) + 1 := by omega
  have htn : ((k : Int) + 1).toNat = k + 1 := by omega
  have hq3 : (k : Int) + 1 ≤ (N : Int) := by omega
  have hq6 : (k : Int) ≤ (c : Int) := by omega
  have hq7 : (0 : Int) ≤ (k : Int) := by omega
  have hq8 : k ≤ c := by omega
  have hq9 : (k : Int) ≤ (N : Int) := by omega
  have hq10 : k ≤ N := by omega
  have hq11 : k + 1 ≤ N := by omega
  by_cases hcap : c = k + 1
  · have hkl : N = k + 1 := by omega
    have hdn : rs.drop (k + 1) = [] := List.drop_of_length_le (by omega)
    obtain ⟨v5, w5, hr2, ho5, hg5, _⟩ := run_append_sl (P := Try.prog) w4 w3.heap.size 22 22 36 i0 _ 96 Try.underlying22 hi0 hz0 hz1 hz2 rfl v4 (rs.take k) ho4 (some ad) 0 0 ([] : List ModR) (Sl.nil _ _) (by unfold maxLen; rw [htl]; omega) (by rw [htl]; omega) hs4
    rw [← hdn] at ho5
    subst hcap
    have hr6 : (k : Int) ≤ (k : Int) + 1 := by omega
    have hr8 : k ≤ k + 1 := by omega
    have hr9 : k + 1 ≤ 9223372036854775807 := by omega
    have b5 : Below w.heap.size w w5 := b4.grown hg5 b4.size (fun g hg => by have h1 := (own_span ho4 hg).1; have h2 := b3.size; omega)
    have HR1 := Lib.hid hr1
    have HR2 := Lib.hid hr2
    have HO5 := Lib.hid ho5
    have HB5 := Lib.hid b5
    have HAD := Lib.hid hs3
    clear hr1 ho4 hg4 hd4 hs4 htl b4 hr2 ho5 hg5 b5 b3 hs3 hz0 hz1 hz2 hi0
    go_region_law (first
      | (refine step_append_run2 rfl _ _ 22 22 rfl (.slice none 0 0) (.slice (some ad) k (k + 1)) (by simp [Act.eval, Act.put]) (by simp [Act.eval, Act.put]) HR1.out ?_)
      | (refine step_append_run2 rfl _ _ 22 22 rfl v4 (.slice (some ad) 0 0) (by simp [Act.eval, Act.put]) (by simp [Act.eval, Act.put]) HR2.out ?_))
    obtain ⟨va, vc, rfl, hvs, _⟩ := HO5.out.sl
    obtain ⟨N1, hN1⟩ : ∃ N1, (rs.take k ++ rs.drop (k + 1)).length = N1 := ⟨_, rfl⟩
    rw [hN1] at hvs
    rw [hN1]
    have hmr : Mods w5 va N1 (without rs k) (without ms k) := mods_without HM.out HB5.out hvs
    have hr5 := hmr.n
    have hmx1 := hmr.sl.max
    unfold maxLen at hmx1
    have MR := Lib.hid hmr
    clear hvs hN1 hmr HR1 HR2 HO5
    go_wp2
    go_loopw [45] (fun i wr => ∃ t : Nat, t ≤ N1 ∧ i = .int .i64 t ∧ (∀ m' ∈ (without ms k).take t, ∀ x ∈ m'.im, ∀ y ∈ m0.ex, x.name ≠ y.name) ∧ Below w5.heap.size w5 wr) (fun i _ => N1 - (intOf i).toNat)
    case atStart => exact ⟨0, Nat.zero_le _, rfl, fun m hm => by simp at hm, Below.refl _ _⟩
    case round =>
      obtain ⟨t, ht, rfl, hno, hb⟩ := hrel
      by_cases hlt : t < N1
      · have p0 : (0 : Int) ≤ t := by omega
        have p1 : (t : Int) < N1 := by omega
        obtain ⟨r, m, hr, hm, hhas⟩ := (MR.out.below hb).get hlt
        obtain ⟨vd, hvo, hvb, e0, e1, e2, e3⟩ := sl_ModR (MR.out.sl.below hb) hlt hr
        subst hvo
        obtain ⟨⟨ca, cn, cc⟩, ⟨da, dn, dc⟩, ⟨xa, xn, xc⟩, ⟨ia, jn, ic⟩⟩ := r
        simp only at e0 e1 e2 e3
        have hjn := hhas.im.len
        have hmi := hhas.im.max
        unfold maxLen at hmi
        simp only at hjn hmi
        obtain ⟨w6, hw6⟩ : ∃ w6, w6 = wr.alloc (.cells #[.slice ca cn cc, .slice da dn dc, .slice xa xn xc, .slice ia jn ic] 36) := ⟨_, rfl⟩
        have r6 : Below wr.heap.size wr w6 := by rw [hw6]; exact ext_alloc (Below.refl _ _) _
        have x6 : Bk w6 wr.heap.size 36 #[.slice ca cn cc, .slice da dn dc, .slice xa xn xc, .slice ia jn ic] := by rw [hw6]; exact bk_new _ _ _
        obtain ⟨gx, hgx⟩ : ∃ gx, gx = wr.heap.size := ⟨_, rfl⟩
        rw [← hgx] at x6
        have HW6 := Lib.hid hw6
        have HGX := Lib.hid hgx
        have X6 := Lib.hid x6
        have HB6 := Lib.hid (ext_trans hb r6)
        have HMM := Lib.hid hm
        have HIM := Lib.hid (hhas.im.below r6)
        have HWI := Lib.hid hhas.wi
        have HNO := Lib.hid hno
        clear hw6 hgx x6 hb r6 hm hr hhas hno
        go_upto_region 11 with (fail)
        rw [← HW6.out, ← HGX.out]
        clear e0 e1 e2 e3 HW6 HGX hvb
        obtain ⟨t0, t1, t2, t3⟩ := cellsM4 X6.out
        have tL := X6.out.lt
        go_wp2
        clear t0 t1 t2 t3 tL
        go_loopw [52] (fun i wr => ∃ j : Nat, j ≤ jn ∧ i = .int .i64 j ∧ (∀ x ∈ m.im.take j, ∀ y ∈ m0.ex, x.name ≠ y.name) ∧ Below w6.heap.size w6 wr) (fun i _ => jn - (intOf i).toNat)
        case atStart => exact ⟨0, Nat.zero_le _, rfl, fun x hx => by simp at hx, Below.refl _ _⟩
        case round =>
          obtain ⟨j, hj, rfl, hin, hb⟩ := hrel
          by_cases hlj : j < jn
          · have o0 : (0 : Int) ≤ j := by omega
            have o1 : (j : Int) < jn := by omega
            obtain ⟨x, hx⟩ : ∃ x, m.im[j]? = some x := ⟨_, List.getElem?_eq_getElem (by omega)⟩
            obtain ⟨id, hio, hib, f0, f1⟩ := sl_NamV (HIM.out.below hb) hlj hx
            subst hio
            obtain ⟨w7, hw7⟩ : ∃ w7, w7 = wr.alloc (.cells #[.string x.name, .int .i64 x.at_] 44) := ⟨_, rfl⟩
            have r7 : Below wr.heap.size wr w7 := by rw [hw7]; exact ext_alloc (Below.refl _ _) _
            have x7 : Bk w7 wr.heap.size 44 #[.string x.name, .int .i64 x.at_] := by rw [hw7]; exact bk_new _ _ _
            obtain ⟨gy, hgy⟩ : ∃ gy, gy = wr.heap.size := ⟨_, rfl⟩
            rw [← hgy] at x7
            have hb7 : Below w.heap.size w w7 := ext_trans HB5.out (ext_trans HB6.out (ext_trans hb r7))
            have hex := HH0.out.ex.below hb7
            have hex2 := HH0.out.ex.len
            have hex3 := HH0.out.ex.max
            unfold maxLen at hex3
            obtain ⟨lad, hlo, hlb, l0, l1, l2, l3⟩ := sl_ModR (HM.out.sl.below hb7) hk HR0.out
            injection hlo with hlo
            subst hlo
            obtain ⟨⟨ca', cn', cc'⟩, ⟨da', dn', dc'⟩, ⟨ea', en', ec'⟩, ⟨ia', jn', ic'⟩⟩ := r0
            simp only at l0 l1 l2 l3 hex hex2 hex3
            have HW7 := Lib.hid hw7
            have HGY := Lib.hid hgy
            have X7 := Lib.hid x7
            have HB7 := Lib.hid (ext_trans hb r7)
            have HX := Lib.hid hx
            have HIN := Lib.hid hin
            have HEX := Lib.hid hex
            clear hw7 hgy x7 hb r7 hx hin hb7 hex
            go_upto_region 14 with (fail)
            rw [← HW7.out, ← HGY.out]
            clear f0 f1 hib HW7 HGY
            go_wp2
            clear l0 l1 l2 l3 hlb
            go_loopw [62] (fun i wr => ∃ u : Nat, u ≤ en' ∧ i = .int .i64 u ∧ (∀ y ∈ m0.ex.take u, x.name ≠ y.name) ∧ Below w7.heap.size w7 wr) (fun i _ => en' - (intOf i).toNat)
            case atStart => exact ⟨0, Nat.zero_le _, rfl, fun y hy => by simp at hy, Below.refl _ _⟩
            case round =>
              obtain ⟨u, hu, rfl, hny, hb⟩ := hrel
              by_cases hlu : u < en'
              · have s0 : (0 : Int) ≤ u := by omega
                have s1 : (u : Int) < en' := by omega
                obtain ⟨y, hy⟩ : ∃ y, m0.ex[u]? = some y := ⟨_, List.getElem?_eq_getElem (by omega)⟩
                obtain ⟨yd, hyo, hyb, f0, f1⟩ := sl_NamV (HEX.out.below hb) hlu hy
                subst hyo
                obtain ⟨w8, hw8⟩ : ∃ w8, w8 = wr.alloc (.cells #[.string y.name, .int .i64 y.at_] 54) := ⟨_, rfl⟩
                have r8 : Below wr.heap.size wr w8 := by rw [hw8]; exact ext_alloc (Below.refl _ _) _
                have x8 : Bk w8 wr.heap.size 54 #[.string y.name, .int .i64 y.at_] := by rw [hw8]; exact bk_new _ _ _
                obtain ⟨gz, hgz⟩ : ∃ gz, gz = wr.heap.size := ⟨_, rfl⟩
                rw [← hgz] at x8
                have HW8 := Lib.hid hw8
                have HGZ := Lib.hid hgz
                have X8 := Lib.hid x8
                have HB8 := Lib.hid (ext_trans hb r8)
                have HY := Lib.hid hy
                have HNY := Lib.hid hny
                clear hw8 hgz x8 hb r8 hy hny
                go_upto_region 17 with (fail)
                rw [← HW8.out, ← HGZ.out]
                clear f0 f1 hyb HW8 HGZ
                obtain ⟨t0, t1⟩ := cellsM2 X8.out
                have tL := X8.out.lt
                obtain ⟨k0, k1⟩ := cellsM2 (bk_keep HB8.out X7.out)
                have kL := (bk_keep HB8.out X7.out).lt
                by_cases heq : x.name = y.name
                · have f : (x.name.toList == y.name.toList) = true := by simp [heq]
                  clear heq
                  go_wp2
                  go_ret
                  exact ⟨rfl, ext_trans HB5.out (ext_trans HB6.out (ext_trans HB7.out HB8.out))⟩
                · have f : (x.name.toList == y.name.toList) = false := beq_eq_false_iff_ne.2 fun e => heq (name_eq.1 e)
                  have HEQ := Lib.hid heq
                  clear heq
                  go_wp2
                  go_roundw
                  case rel =>
                    refine ⟨u + 1, by omega, by go_num, fun z hz => ?_, HB8.out⟩
                    rw [List.take_add_one, HY.out] at hz
                    rcases List.mem_append.1 hz with h | h
                    · exact HNY.out z h
                    · simp at h; subst h; exact HEQ.out
                  case measure => simp [intOf]; omega
              · have s1 : ¬ ((u : Int) < en') := by omega
                obtain rfl : u = en' := by omega
                rw [List.take_of_length_le (l := m0.ex) (by omega)] at hny
                have HNY := Lib.hid hny
                have HB8 := Lib.hid hb
                clear hny hb
                go_wp2
                go_roundw
                case rel =>
                  refine ⟨j + 1, by omega, by go_num, fun z hz => ?_, ext_trans HB7.out HB8.out⟩
                  rw [List.take_add_one, HX.out] at hz
                  rcases List.mem_append.1 hz with h | h
                  · exact HIN.out z h
                  · simp at h; subst h; exact HNY.out
                case measure => simp [intOf]; omega
          · have o1 : ¬ ((j : Int) < jn) := by omega
            obtain rfl : j = jn := by omega
            rw [List.take_of_length_le (l := m.im) (by omega)] at hin
            have HIN := Lib.hid hin
            have HB7 := Lib.hid hb
            clear hin hb
            go_wp2
            go_roundw
            case rel =>
              refine ⟨t + 1, by omega, by go_num, fun z hz => ?_, ext_trans HB6.out HB7.out⟩
              rw [List.take_add_one, HMM.out] at hz
              rcases List.mem_append.1 hz with h | h
              · exact HNO.out z h
              · simp at h; subst h; exact HIN.out
            case measure => simp [intOf]; omega
      · have p1 : ¬ ((t : Int) < N1) := by omega
        obtain rfl : t = N1 := by omega
        rw [List.take_of_length_le (l := without ms k) (by omega)] at hno
        have lk2 := link_good va t vc _ _ wr (MR.out.below hb) (fits_ok HOK.out HM0.out hno)
        unfold LinkRes at lk2
        have LK2 := Lib.hid lk2
        have HB6 := Lib.hid hb
        clear lk2 hno hb
        go_wp2_with (go_at_call 11; ((with_reducible refine (LK2.out).mono ?_); rintro e w9 ⟨vm, vp, ve, rfl, om, op, oe, hb⟩; obtain ⟨ma9, mn9, mc9, rfl⟩ := own_shape om; obtain ⟨pa9, pn9, pc9, rfl⟩ := own_shape op; obtain ⟨ea9, en9, ec9, rfl⟩ := own_shape oe; have HB9 := Lib.hid hb; clear om op oe hb))
        go_ret
        exact ⟨rfl, ext_alloc (ext_trans HB5.out (ext_trans HB6.out HB9.out)) _⟩
  · have hq4 : ¬ (c = k + 1) := hcap
    have hq5 : ¬ (c = 0) := by omega
    obtain ⟨v5, w5, hr2, ho5, hg5, _⟩ := run_append_sl (P := Try.prog) w4 w3.heap.size 22 22 36 i0 _ 96 Try.underlying22 hi0 hz0 hz1 hz2 rfl v4 (rs.take k) ho4 (some (ad.add ((k + 1) * 4))) (N - (k + 1)) (c - (k + 1)) (rs.drop (k + 1)) hd4 (by unfold maxLen; rw [htl]; omega) (by rw [htl]; omega) hs4
    have b5 : Below w.heap.size w w5 := b4.grown hg5 b4.size (fun g hg => by have h1 := (own_span ho4 hg).1; have h2 := b3.size; omega)
    have HR1 := Lib.hid hr1
    have HR2 := Lib.hid hr2
    have HO5 := Lib.hid ho5
    have HB5 := Lib.hid b5
    have HAD := Lib.hid hs3
    clear hr1 ho4 hg4 hd4 hs4 htl b4 hr2 ho5 hg5 b5 b3 hs3 hz0 hz1 hz2 hi0
    go_region_law (first
      | (refine step_append_run2 rfl _ _ 22 22 rfl (.slice none 0 0) (.slice (some ad) k (c)) (by simp [Act.eval, Act.put]) (by simp [Act.eval, Act.put]) HR1.out ?_)
      | (refine step_append_run2 rfl _ _ 22 22 rfl v4 (.slice (some (ad.add ((k + 1) * 4))) (N - (k + 1)) (c - (k + 1))) (by simp [Act.eval, Act.put]) (by simp [Act.eval, Act.put]) HR2.out ?_))
    obtain ⟨va, vc, rfl, hvs, _⟩ := HO5.out.sl
    obtain ⟨N1, hN1⟩ : ∃ N1, (rs.take k ++ rs.drop (k + 1)).length = N1 := ⟨_, rfl⟩
    rw [hN1] at hvs
    rw [hN1]
    have hmr : Mods w5 va N1 (without rs k) (without ms k) := mods_without HM.out HB5.out hvs
    have hr5 := hmr.n
    have hmx1 := hmr.sl.max
    unfold maxLen at hmx1
    have MR := Lib.hid hmr
    clear hvs hN1 hmr HR1 HR2 HO5
    go_wp2
    go_loopw [45] (fun i wr => ∃ t : Nat, t ≤ N1 ∧ i = .int .i64 t ∧ (∀ m' ∈ (without ms k).take t, ∀ x ∈ m'.im, ∀ y ∈ m0.ex, x.name ≠ y.name) ∧ Below w5.heap.size w5 wr) (fun i _ => N1 - (intOf i).toNat)
    case atStart => exact ⟨0, Nat.zero_le _, rfl, fun m hm => by simp at hm, Below.refl _ _⟩
    case round =>
      obtain ⟨t, ht, rfl, hno, hb⟩ := hrel
      by_cases hlt : t < N1
      · have p0 : (0 : Int) ≤ t := by omega
        have p1 : (t : Int) < N1 := by omega
        obtain ⟨r, m, hr, hm, hhas⟩ := (MR.out.below hb).get hlt
        obtain ⟨vd, hvo, hvb, e0, e1, e2, e3⟩ := sl_ModR (MR.out.sl.below hb) hlt hr
        subst hvo
        obtain ⟨⟨ca, cn, cc⟩, ⟨da, dn, dc⟩, ⟨xa, xn, xc⟩, ⟨ia, jn, ic⟩⟩ := r
        simp only at e0 e1 e2 e3
        have hjn := hhas.im.len
        have hmi := hhas.im.max
        unfold maxLen at hmi
        simp only at hjn hmi
        obtain ⟨w6, hw6⟩ : ∃ w6, w6 = wr.alloc (.cells #[.slice ca cn cc, .slice da dn dc, .slice xa xn xc, .slice ia jn ic] 36) := ⟨_, rfl⟩
        have r6 : Below wr.heap.size wr w6 := by rw [hw6]; exact ext_alloc (Below.refl _ _) _
        have x6 : Bk w6 wr.heap.size 36 #[.slice ca cn cc, .slice da dn dc, .slice xa xn xc, .slice ia jn ic] := by rw [hw6]; exact bk_new _ _ _
        obtain ⟨gx, hgx⟩ : ∃ gx, gx = wr.heap.size := ⟨_, rfl⟩
        rw [← hgx] at x6
        have HW6 := Lib.hid hw6
        have HGX := Lib.hid hgx
        have X6 := Lib.hid x6
        have HB6 := Lib.hid (ext_trans hb r6)
        have HMM := Lib.hid hm
        have HIM := Lib.hid (hhas.im.below r6)
        have HWI := Lib.hid hhas.wi
        have HNO := Lib.hid hno
        clear hw6 hgx x6 hb r6 hm hr hhas hno
        go_upto_region 11 with (fail)
        rw [← HW6.out, ← HGX.out]
        clear e0 e1 e2 e3 HW6 HGX hvb
        obtain ⟨t0, t1, t2, t3⟩ := cellsM4 X6.out
        have tL := X6.out.lt
        go_wp2
        clear t0 t1 t2 t3 tL
        go_loopw [52] (fun i wr => ∃ j : Nat, j ≤ jn ∧ i = .int .i64 j ∧ (∀ x ∈ m.im.take j, ∀ y ∈ m0.ex, x.name ≠ y.name) ∧ Below w6.heap.size w6 wr) (fun i _ => jn - (intOf i).toNat)
        case atStart => exact ⟨0, Nat.zero_le _, rfl, fun x hx => by simp at hx, Below.refl _ _⟩
        case round =>
          obtain ⟨j, hj, rfl, hin, hb⟩ := hrel
          by_cases hlj : j < jn
          · have o0 : (0 : Int) ≤ j := by omega
            have o1 : (j : Int) < jn := by omega
            obtain ⟨x, hx⟩ : ∃ x, m.im[j]? = some x := ⟨_, List.getElem?_eq_getElem (by omega)⟩
            obtain ⟨id, hio, hib, f0, f1⟩ := sl_NamV (HIM.out.below hb) hlj hx
            subst hio
            obtain ⟨w7, hw7⟩ : ∃ w7, w7 = wr.alloc (.cells #[.string x.name, .int .i64 x.at_] 44) := ⟨_, rfl⟩
            have r7 : Below wr.heap.size wr w7 := by rw [hw7]; exact ext_alloc (Below.refl _ _) _
            have x7 : Bk w7 wr.heap.size 44 #[.string x.name, .int .i64 x.at_] := by rw [hw7]; exact bk_new _ _ _
            obtain ⟨gy, hgy⟩ : ∃ gy, gy = wr.heap.size := ⟨_, rfl⟩
            rw [← hgy] at x7
            have hb7 : Below w.heap.size w w7 := ext_trans HB5.out (ext_trans HB6.out (ext_trans hb r7))
            have hex := HH0.out.ex.below hb7
            have hex2 := HH0.out.ex.len
            have hex3 := HH0.out.ex.max
            unfold maxLen at hex3
            obtain ⟨lad, hlo, hlb, l0, l1, l2, l3⟩ := sl_ModR (HM.out.sl.below hb7) hk HR0.out
            injection hlo with hlo
            subst hlo
            obtain ⟨⟨ca', cn', cc'⟩, ⟨da', dn', dc'⟩, ⟨ea', en', ec'⟩, ⟨ia', jn', ic'⟩⟩ := r0
            simp only at l0 l1 l2 l3 hex hex2 hex3
            have HW7 := Lib.hid hw7
            have HGY := Lib.hid hgy
            have X7 := Lib.hid x7
            have HB7 := Lib.hid (ext_trans hb r7)
            have HX := Lib.hid hx
            have HIN := Lib.hid hin
            have HEX := Lib.hid hex
            clear hw7 hgy x7 hb r7 hx hin hb7 hex
            go_upto_region 14 with (fail)
            rw [← HW7.out, ← HGY.out]
            clear f0 f1 hib HW7 HGY
            go_wp2
            clear l0 l1 l2 l3 hlb
            go_loopw [62] (fun i wr => ∃ u : Nat, u ≤ en' ∧ i = .int .i64 u ∧ (∀ y ∈ m0.ex.take u, x.name ≠ y.name) ∧ Below w7.heap.size w7 wr) (fun i _ => en' - (intOf i).toNat)
            case atStart => exact ⟨0, Nat.zero_le _, rfl, fun y hy => by simp at hy, Below.refl _ _⟩
            case round =>
              obtain ⟨u, hu, rfl, hny, hb⟩ := hrel
              by_cases hlu : u < en'
              · have s0 : (0 : Int) ≤ u := by omega
                have s1 : (u : Int) < en' := by omega
                obtain ⟨y, hy⟩ : ∃ y, m0.ex[u]? = some y := ⟨_, List.getElem?_eq_getElem (by omega)⟩
                obtain ⟨yd, hyo, hyb, f0, f1⟩ := sl_NamV (HEX.out.below hb) hlu hy
                subst hyo
                obtain ⟨w8, hw8⟩ : ∃ w8, w8 = wr.alloc (.cells #[.string y.name, .int .i64 y.at_] 54) := ⟨_, rfl⟩
                have r8 : Below wr.heap.size wr w8 := by rw [hw8]; exact ext_alloc (Below.refl _ _) _
                have x8 : Bk w8 wr.heap.size 54 #[.string y.name, .int .i64 y.at_] := by rw [hw8]; exact bk_new _ _ _
                obtain ⟨gz, hgz⟩ : ∃ gz, gz = wr.heap.size := ⟨_, rfl⟩
                rw [← hgz] at x8
                have HW8 := Lib.hid hw8
                have HGZ := Lib.hid hgz
                have X8 := Lib.hid x8
                have HB8 := Lib.hid (ext_trans hb r8)
                have HY := Lib.hid hy
                have HNY := Lib.hid hny
                clear hw8 hgz x8 hb r8 hy hny
                go_upto_region 17 with (fail)
                rw [← HW8.out, ← HGZ.out]
                clear f0 f1 hyb HW8 HGZ
                obtain ⟨t0, t1⟩ := cellsM2 X8.out
                have tL := X8.out.lt
                obtain ⟨k0, k1⟩ := cellsM2 (bk_keep HB8.out X7.out)
                have kL := (bk_keep HB8.out X7.out).lt
                by_cases heq : x.name = y.name
                · have f : (x.name.toList == y.name.toList) = true := by simp [heq]
                  clear heq
                  go_wp2
                  go_ret
                  exact ⟨rfl, ext_trans HB5.out (ext_trans HB6.out (ext_trans HB7.out HB8.out))⟩
                · have f : (x.name.toList == y.name.toList) = false := beq_eq_false_iff_ne.2 fun e => heq (name_eq.1 e)
                  have HEQ := Lib.hid heq
                  clear heq
                  go_wp2
                  go_roundw
                  case rel =>
                    refine ⟨u + 1, by omega, by go_num, fun z hz => ?_, HB8.out⟩
                    rw [List.take_add_one, HY.out] at hz
                    rcases List.mem_append.1 hz with h | h
                    · exact HNY.out z h
                    · simp at h; subst h; exact HEQ.out
                  case measure => simp [intOf]; omega
              · have s1 : ¬ ((u : Int) < en') := by omega
                obtain rfl : u = en' := by omega
                rw [List.take_of_length_le (l := m0.ex) (by omega)] at hny
                have HNY := Lib.hid hny
                have HB8 := Lib.hid hb
                clear hny hb
                go_wp2
                go_roundw
                case rel =>
                  refine ⟨j + 1, by omega, by go_num, fun z hz => ?_, ext_trans HB7.out HB8.out⟩
                  rw [List.take_add_one, HX.out] at hz
                  rcases List.mem_append.1 hz with h | h
                  · exact HIN.out z h
                  · simp at h; subst h; exact HNY.out
                case measure => simp [intOf]; omega
          · have o1 : ¬ ((j : Int) < jn) := by omega
            obtain rfl : j = jn := by omega
            rw [List.take_of_length_le (l := m.im) (by omega)] at hin
            have HIN := Lib.hid hin
            have HB7 := Lib.hid hb
            clear hin hb
            go_wp2
            go_roundw
            case rel =>
              refine ⟨t + 1, by omega, by go_num, fun z hz => ?_, ext_trans HB6.out HB7.out⟩
              rw [List.take_add_one, HMM.out] at hz
              rcases List.mem_append.1 hz with h | h
              · exact HNO.out z h
              · simp at h; subst h; exact HIN.out
            case measure => simp [intOf]; omega
      · have p1 : ¬ ((t : Int) < N1) := by omega
        obtain rfl : t = N1 := by omega
        rw [List.take_of_length_le (l := without ms k) (by omega)] at hno
        have lk2 := link_good va t vc _ _ wr (MR.out.below hb) (fits_ok HOK.out HM0.out hno)
        unfold LinkRes at lk2
        have LK2 := Lib.hid lk2
        have HB6 := Lib.hid hb
        clear lk2 hno hb
        go_wp2_with (go_at_call 11; ((with_reducible refine (LK2.out).mono ?_); rintro e w9 ⟨vm, vp, ve, rfl, om, op, oe, hb⟩; obtain ⟨ma9, mn9, mc9, rfl⟩ := own_shape om; obtain ⟨pa9, pn9, pc9, rfl⟩ := own_shape op; obtain ⟨ea9, en9, ec9, rfl⟩ := own_shape oe; have HB9 := Lib.hid hb; clear om op oe hb))
        go_ret
        exact ⟨rfl, ext_alloc (ext_trans HB5.out (ext_trans HB6.out HB9.out)) _⟩
theorem linkFits_walk {w : World} (x : ModsA) (a : Int) (hx : x.ok w) (ha : (Lit.int .i64 a).wf = true) : Calls Try.prog 5 #[x.val, .int .i64 a] w fun e w' => e = .returned (.bool true) ∧ Below w.heap.size w w' := by
  by_cases h : LinkOk isNameB x.ms
  · rcases Nat.eq_zero_or_pos x.n with h0 | h0
    · exact fits_none x a w hx h h0
    · obtain ⟨k, hk⟩ := Int.eq_ofNat_of_zero_le (Int.emod_nonneg a (show ((x.n : Nat) : Int) ≠ 0 by omega))
      exact fits_good x a k w hx h h0 hk
  · exact fits_bad x a w hx h
end Go.Proofs.Ytmmmmeeepieemaa
