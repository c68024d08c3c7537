import Derived.Test.YtopdnihokbhjfaaDoorBuR
/- RunTells. -/
namespace Go.Proofs.YtopdnihokbhjfaaDoor
open Go.RowKit
set_option linter.unusedVariables false
set_option linter.unusedSimpArgs false
set_option maxHeartbeats 8000000 in
set_option maxRecDepth 100000 in
theorem tells_bad (m : MV) (cs : Array Value) (pa : Int) (na : Nat) (w : World) (hbox : MBox w.heap.size m cs (w.alloc (.cells cs 31))) (ht : Tab w)
    (hna : pa % 2000 = na) (ha : na < 2000) (hc : m.check ≠ 0) : Calls Tryd.prog 9 #[.agg cs, .int .i64 pa] w fun e w' => e = .returned (.bool true) ∧ Below w.heap.size w w' := by
  have h8 := hbox.h8
  obtain ⟨law1, law2⟩ := tells_law h8 ha
  have r1 := law1 hc
  clear law1 law2
  obtain ⟨ec, hec⟩ : ∃ ec, m.check = ec := ⟨_, rfl⟩
  rw [hec] at r1 hc
  have b1 : (ec == 0) = false := by simpa using hc
  have b2 : (ec != 0) = true := by simpa using hc
  obtain ⟨w1, hw1⟩ : ∃ w1, w1 = w.alloc (.cells cs 31) := ⟨_, rfl⟩
  have h1w : Below w.heap.size w w1 := by rw [hw1]; exact ext_alloc (Below.refl _ _) _
  rw [← hw1] at hbox
  have sd := stepped_any w1 (ht.below h1w)
  have ra := fun W => rest_any pa 2000 W (by decide) (by decide)
  rw [hna] at ra
  have SD := Lib.hid sd
  have RA := Lib.hid ra
  have R1 := Lib.hid r1
  have MX := Lib.hid hbox
  have HW1 := Lib.hid hw1
  have H1W := Lib.hid h1w
  have HT := Lib.hid ht
  have HC := Lib.hid hec
  clear sd ra r1 hbox hw1 h1w ht h8 hna hc hec ha
  go_enter Tryd.func9, Tryd.ntmps9
  go_upto_region 1 with (fail)
  rw [← HW1.out]
  go_upto_region 5 with (first
    | (go_at_call 14; ((with_reducible refine (SD.out).mono ?_); rintro e u1 ⟨rfl, hb⟩; have HB1 := Lib.hid hb; clear hb))
    | (go_at_call 19; ((with_reducible refine (RA.out _).mono ?_); rintro e w' ⟨rfl, rfl⟩; clear RA))
    | (refine wpList_load_sub rfl 31 (.tmp 2) rfl w.heap.size 0 64 rfl 31 _ _ (MX.out.below HB1.out).bk Tryd.underlying31 rfl (by kernel_rfl) MX.out.size _ MX.out.all ?_)
    | (go_at_call 23; ((with_reducible refine (run_box (MX.out.below HB1.out) (HT.out.below (ext_trans H1W.out HB1.out)) _ R1.out).mono ?_); rintro e u2 ⟨cs2, rfl, mx, hb⟩; have MX2 := Lib.hid mx; have HB2 := Lib.hid hb; clear hb mx))
    | (refine wpList_store_fresh rfl 31 (.tmp 5) (.tmp 16) rfl rfl cs2 31 _ rfl rfl (by rw [MX2.out.sz]; kernel_rfl) (by rw [MX2.out.sz]; kernel_rfl) MX2.out.one ?_))
  go_upto_region 6 with (first
    | (refine wpList_load_sub rfl 31 (.tmp 2) rfl w.heap.size 0 64 rfl 31 _ _ (MX.out.below (ext_alloc (ext_trans HB1.out HB2.out) _)).bk Tryd.underlying31 rfl (by kernel_rfl) MX.out.size _ MX.out.all ?_)
    | (go_at_call 21; ((with_reducible refine (check_is (MX.out.below (ext_alloc (ext_trans HB1.out HB2.out) _)) HC.out).mono ?_); rintro e u3 ⟨rfl, hb⟩; have HB3 := Lib.hid hb; clear hb)))
  obtain ⟨ao2, c2, q63, _⟩ := (MX2.out.below HB3.out).outC
  have q63' : u3.cell? ⟨u2.heap.size, 63, none⟩ = some (.slice ao2 0 c2) := q63
  clear q63
  go_wp2
  go_ret
  exact ⟨rfl, ext_trans H1W.out (ext_trans (ext_alloc (ext_trans HB1.out HB2.out) _) HB3.out)⟩
set_option maxHeartbeats 8000000 in
set_option maxRecDepth 100000 in
theorem tells_good (m : MV) (cs : Array Value) (pa : Int) (na : Nat) (w : World) (hbox : MBox w.heap.size m cs (w.alloc (.cells cs 31))) (ht : Tab w)
    (hna : pa % 2000 = na) (ha : na < 2000) (hc : m.check = 0) : Calls Tryd.prog 9 #[.agg cs, .int .i64 pa] w fun e w' => e = .returned (.bool true) ∧ Below w.heap.size w w' := by
  have h8 := hbox.h8
  obtain ⟨law1, law2⟩ := tells_law h8 ha
  obtain ⟨⟨l, ho1, ho2⟩, hok, hn⟩ := law2 hc
  clear law1 law2
  obtain ⟨⟨X, n, er⟩, r1⟩ : ∃ r, runF m na = r := ⟨_, rfl⟩
  rw [r1] at ho1 ho2 hok hn
  simp only at ho1 ho2 hok hn
  have hck := check_of_ok hok
  have t100 := hok.1.told
  have t16 := hok.1.deep
  have hlen : X.out.length = m.out.length + l.length := by rw [ho1, List.length_append]
  have htk : X.out.take m.out.length = m.out := by rw [ho1, List.take_left]
  have hle1 : m.out.length ≤ X.out.length := by omega
  have hle2 : (X.out.length : Int) ≤ m.out.length + n := by omega
  have hn0 : 0 ≤ n := by omega
  clear hlen ho2
  obtain ⟨w1, hw1⟩ : ∃ w1, w1 = w.alloc (.cells cs 31) := ⟨_, rfl⟩
  have h1w : Below w.heap.size w w1 := by rw [hw1]; exact ext_alloc (Below.refl _ _) _
  rw [← hw1] at hbox
  have sd := stepped_any w1 (ht.below h1w)
  have ra := fun W => rest_any pa 2000 W (by decide) (by decide)
  rw [hna] at ra
  have SD := Lib.hid sd
  have RA := Lib.hid ra
  have R1 := Lib.hid r1
  have MX := Lib.hid hbox
  have HW1 := Lib.hid hw1
  have H1W := Lib.hid h1w
  have HT := Lib.hid ht
  have HC := Lib.hid hc
  have HCK := Lib.hid hck
  have HTK := Lib.hid htk
  clear sd ra r1 hbox hw1 h1w ht h8 hna hc ho1 hok hck htk
  go_enter Tryd.func9, Tryd.ntmps9
  go_upto_region 1 with (fail)
  rw [← HW1.out]
  go_upto_region 5 with (first
    | (go_at_call 14; ((with_reducible refine (SD.out).mono ?_); rintro e u1 ⟨rfl, hb⟩; have HB1 := Lib.hid hb; clear hb))
    | (go_at_call 19; ((with_reducible refine (RA.out _).mono ?_); rintro e w' ⟨rfl, rfl⟩; clear RA))
    | (refine wpList_load_sub rfl 31 (.tmp 2) rfl w.heap.size 0 64 rfl 31 _ _ (MX.out.below HB1.out).bk Tryd.underlying31 rfl (by kernel_rfl) MX.out.size _ MX.out.all ?_)
    | (go_at_call 23; ((with_reducible refine (run_own (MX.out.below HB1.out) (HT.out.below (ext_trans H1W.out HB1.out)) _ R1.out).mono ?_); rintro e u2 ⟨cs2, rfl, mo, hb⟩; have MO2 := Lib.hid mo; have MX2 := Lib.hid mo.alloc; have HB2 := Lib.hid hb; clear hb mo))
    | (refine wpList_store_fresh rfl 31 (.tmp 5) (.tmp 16) rfl rfl cs2 31 _ rfl rfl (by rw [MX2.out.sz]; kernel_rfl) (by rw [MX2.out.sz]; kernel_rfl) MX2.out.one ?_))
  go_upto_region 7 with (first
    | (refine wpList_load_sub rfl 31 (.tmp 2) rfl w.heap.size 0 64 rfl 31 _ _ (MX.out.below (ext_alloc (ext_trans HB1.out HB2.out) _)).bk Tryd.underlying31 rfl (by kernel_rfl) MX.out.size _ MX.out.all ?_)
    | (go_at_call 21; ((with_reducible refine (check_is (MX.out.below (ext_alloc (ext_trans HB1.out HB2.out) _)) HC.out).mono ?_); rintro e u3 ⟨rfl, hb⟩; have HB3 := Lib.hid hb; clear hb)))
  obtain ⟨xo, xc, x63, xsl, xcap, xmax⟩ := MO2.out.outC
  obtain ⟨mo, mc, m63, msl⟩ := (MX.out.below (ext_trans (ext_alloc (ext_trans HB1.out HB2.out) _) HB3.out)).outC
  obtain ⟨xs, sc, x62, _⟩ := (MX2.out.below HB3.out).stkC
  have x63u : u3.cell? ⟨u2.heap.size, 63, none⟩ = some (.slice xo X.out.length xc) := by rw [(MX2.out.below HB3.out).bk.cell]; exact x63
  have xsl3 := xsl.below (ext_trans (ext_alloc (Below.refl _ _) _) HB3.out)
  have xfr := sl_front xsl3 (show m.out.length ≤ X.out.length by omega)
  rw [HTK.out] at xfr
  have hck2 : ∀ W1, Below u3.heap.size u3 W1 → MBox u2.heap.size X cs2 W1 := fun W1 hb => (MX2.out.below HB3.out).below hb
  have heq : ∀ W1, Below u3.heap.size u3 W1 → Calls Tryd.prog 17 #[.slice xo m.out.length xc, .slice mo m.out.length mc] W1 fun e w' => e = .returned (.bool true) ∧ Below W1.heap.size W1 w' := fun W1 hb => by
    have := eq_int xo mo m.out.length m.out.length xc mc m.out m.out W1 (xfr.below hb) (msl.below hb)
    rwa [decide_eq_true rfl] at this
  have xlt := (MX2.out.below HB3.out).bk.lt
  have mlt := (MX.out.below (ext_trans (ext_alloc (ext_trans HB1.out HB2.out) _) HB3.out)).bk.lt
  generalize X.out.length = lx at *
  generalize m.out.length = lm at *
  generalize X.stk.length = ls at *
  have hcl : ∀ W1, Below u3.heap.size u3 W1 → W1.cell? ⟨u2.heap.size, 63, none⟩ = some (.slice xo lx xc) ∧ W1.cell? ⟨w.heap.size, 63, none⟩ = some (.slice mo lm mc) ∧ W1.cell? ⟨u2.heap.size, 62, none⟩ = some (.slice xs ls sc) := fun W1 hb => ⟨(hb.cell (p := ⟨u2.heap.size, 63, none⟩) xlt).trans x63u, (hb.cell (p := ⟨w.heap.size, 63, none⟩) mlt).trans m63, (hb.cell (p := ⟨u2.heap.size, 62, none⟩) xlt).trans x62⟩
  have g1 : decide ((lm : Int) ≤ lx) = true := by simp; omega
  have g2 : wrap64 ((lm : Int) + n) = (lm : Int) + n := IntWalk.wrap64_in _ ⟨by omega, by omega⟩
  have g3 : decide ((lx : Int) ≤ (lm : Int) + n) = true := by simp; omega
  have g4 : decide ((lx : Int) ≤ 100) = true := by simp; omega
  have g5 : decide ((ls : Int) ≤ 16) = true := by simp; omega
  have g8 : IntKind.i64.wrap ((lm : Int) + n) = (lm : Int) + n := IntWalk.i64_in _ ⟨by omega, by omega⟩
  have p1 : lm ≤ lx := by omega
  have p2 : decide (lm ≤ lx) = true := by simpa using p1
  have p3 : decide (lx ≤ 100) = true := by simp; omega
  have p4 : decide (ls ≤ 16) = true := by simp; omega
  have p5 : lm ≤ xc := by omega
  have g6 : (lm : Int) ≤ xc := by omega
  have g7 : (0 : Int) ≤ lm := by omega
  have HCL := Lib.hid hcl
  have HEQ := Lib.hid heq
  have HK2 := Lib.hid hck2
  clear hcl heq hck2 x63 x63u m63 x62 xsl msl xsl3 xfr MO2 hn ha xlt mlt HTK hle1 hle2 hn0 t100 t16 xcap xmax
  refine wp_region_held_drew (S := fun W1 => Below u3.heap.size u3 W1) (by kernel_rfl) (ext_drew (Below.refl _ _)) (fun hHeld => ?_)
  refine wpAnyH_take (i := 0) (v := ?_) rfl (by kernel_rfl) (by kernel_rfl) (by kernel_rfl) (fun _ _ _ h => h) (Or.inl ⟨by rfl, ?hyT⟩) hHeld ?restT
  case hyT => (intro wS hSw; obtain ⟨q1, q2, q3⟩ := HCL.out wS hSw; go_simp; try with_reducible rfl)
  case restT =>
    change wpAnyH _ _ _ _ _ _ _ (Act.mk _ _) _; try simp only [Act.put, List.setIfInBounds_toArray, List.set_cons_zero, List.set_cons_succ]
    refine wpAnyH_take (i := 1) (v := ?_) rfl (by kernel_rfl) (by kernel_rfl) (by kernel_rfl) (fun _ _ _ h => h) (Or.inl ⟨by rfl, ?hyT⟩) hHeld ?restT
    case hyT => (intro wS hSw; obtain ⟨q1, q2, q3⟩ := HCL.out wS hSw; go_simp; try with_reducible rfl)
    case restT =>
      change wpAnyH _ _ _ _ _ _ _ (Act.mk _ _) _; try simp only [Act.put, List.setIfInBounds_toArray, List.set_cons_zero, List.set_cons_succ]
      refine wpAnyH_take (i := 2) (v := ?_) rfl (by kernel_rfl) (by kernel_rfl) (by kernel_rfl) (fun _ _ _ h => h) (Or.inl ⟨by rfl, ?hyT⟩) hHeld ?restT
      case hyT => (intro wS hSw; obtain ⟨q1, q2, q3⟩ := HCL.out wS hSw; go_simp; try with_reducible rfl)
      case restT =>
        change wpAnyH _ _ _ _ _ _ _ (Act.mk _ _) _; try simp only [Act.put, List.setIfInBounds_toArray, List.set_cons_zero, List.set_cons_succ]
        refine wpAnyH_take (i := 3) (v := ?_) rfl (by kernel_rfl) (by kernel_rfl) (by kernel_rfl) (fun _ _ _ h => h) (Or.inl ⟨by rfl, ?hyT⟩) hHeld ?restT
        case hyT => (intro wS hSw; obtain ⟨q1, q2, q3⟩ := HCL.out wS hSw; go_simp; try with_reducible rfl)
        case restT =>
          change wpAnyH _ _ _ _ _ _ _ (Act.mk _ _) _; try simp only [Act.put, List.setIfInBounds_toArray, List.set_cons_zero, List.set_cons_succ]
          refine wpAnyH_take (i := 4) (v := ?_) rfl (by kernel_rfl) (by kernel_rfl) (by kernel_rfl) (fun _ _ _ h => h) (Or.inl ⟨by rfl, ?hyT⟩) hHeld ?restT
          case hyT => (intro wS hSw; obtain ⟨q1, q2, q3⟩ := HCL.out wS hSw; go_simp; try with_reducible rfl)
          case restT =>
            change wpAnyH _ _ _ _ _ _ _ (Act.mk _ _) _; try simp only [Act.put, List.setIfInBounds_toArray, List.set_cons_zero, List.set_cons_succ]
            refine wpAnyH_take (i := 5) (v := ?_) rfl (by kernel_rfl) (by kernel_rfl) (by kernel_rfl) (fun _ _ _ h => h) (Or.inl ⟨by rfl, ?hyT⟩) hHeld ?restT
            case hyT => (intro wS hSw; obtain ⟨q1, q2, q3⟩ := HCL.out wS hSw; go_simp; try with_reducible rfl)
            case restT =>
              change wpAnyH _ _ _ _ _ _ _ (Act.mk _ _) _; try simp only [Act.put, List.setIfInBounds_toArray, List.set_cons_zero, List.set_cons_succ]
              refine wpAnyH_take (i := 6) (v := ?_) rfl (by kernel_rfl) (by kernel_rfl) (by kernel_rfl) (fun _ _ _ h => h) (Or.inl ⟨by rfl, ?hyT⟩) hHeld ?restT
              case hyT => (intro wS hSw; obtain ⟨q1, q2, q3⟩ := HCL.out wS hSw; go_simp; try with_reducible rfl)
              case restT =>
                change wpAnyH _ _ _ _ _ _ _ (Act.mk _ _) _; try simp only [Act.put, List.setIfInBounds_toArray, List.set_cons_zero, List.set_cons_succ]
                refine wpAnyH_take (i := 7) (v := ?_) rfl (by kernel_rfl) (by kernel_rfl) (by kernel_rfl) (fun _ _ _ h => h) (Or.inl ⟨by rfl, ?hyT⟩) hHeld ?restT
                case hyT => (intro wS hSw; obtain ⟨q1, q2, q3⟩ := HCL.out wS hSw; go_simp; try with_reducible rfl)
                case restT =>
                  change wpAnyH _ _ _ _ _ _ _ (Act.mk _ _) _; try simp only [Act.put, List.setIfInBounds_toArray, List.set_cons_zero, List.set_cons_succ]
                  refine wpAnyH_take (i := 8) (v := ?_) rfl (by kernel_rfl) (by kernel_rfl) (by kernel_rfl) (fun _ _ _ h => h) (Or.inl ⟨by rfl, ?hyT⟩) hHeld ?restT
                  case hyT => (intro wS hSw; obtain ⟨q1, q2, q3⟩ := HCL.out wS hSw; go_simp; try with_reducible rfl)
                  case restT =>
                    change wpAnyH _ _ _ _ _ _ _ (Act.mk _ _) _; try simp only [Act.put, List.setIfInBounds_toArray, List.set_cons_zero, List.set_cons_succ]
                    refine wpAnyH_take (i := 9) (v := ?_) rfl (by kernel_rfl) (by kernel_rfl) (by kernel_rfl) (fun _ _ _ h => h) (Or.inl ⟨by rfl, ?hyT⟩) hHeld ?restT
                    case hyT => (intro wS hSw; obtain ⟨q1, q2, q3⟩ := HCL.out wS hSw; go_simp; try with_reducible rfl)
                    case restT =>
                      change wpAnyH _ _ _ _ _ _ _ (Act.mk _ _) _; try simp only [Act.put, List.setIfInBounds_toArray, List.set_cons_zero, List.set_cons_succ]
                      refine wpAnyH_take (i := 10) (v := ?_) rfl (by kernel_rfl) (by kernel_rfl) (by kernel_rfl) (fun _ _ _ h => h) (Or.inl ⟨by rfl, ?hyT⟩) hHeld ?restT
                      case hyT => (intro wS hSw; obtain ⟨q1, q2, q3⟩ := HCL.out wS hSw; go_simp; try with_reducible rfl)
                      case restT =>
                        change wpAnyH _ _ _ _ _ _ _ (Act.mk _ _) _; try simp only [Act.put, List.setIfInBounds_toArray, List.set_cons_zero, List.set_cons_succ]
                        refine wpAnyH_take (i := 11) (v := ?_) rfl (by kernel_rfl) (by kernel_rfl) (by kernel_rfl) (fun _ _ _ h => h) (Or.inl ⟨by rfl, ?hyT⟩) hHeld ?restT
                        case hyT => (intro wS hSw; obtain ⟨q1, q2, q3⟩ := HCL.out wS hSw; go_simp; try with_reducible rfl)
                        case restT =>
                          change wpAnyH _ _ _ _ _ _ _ (Act.mk _ _) _; try simp only [Act.put, List.setIfInBounds_toArray, List.set_cons_zero, List.set_cons_succ]
                          refine wpAnyH_take (i := 12) (v := ?_) rfl (by kernel_rfl) (by kernel_rfl) (by kernel_rfl) (fun _ _ _ h => h) (Or.inl ⟨by rfl, ?hyT⟩) hHeld ?restT
                          case hyT => (intro wS hSw; obtain ⟨q1, q2, q3⟩ := HCL.out wS hSw; go_simp; try with_reducible rfl)
                          case restT =>
                            change wpAnyH _ _ _ _ _ _ _ (Act.mk _ _) _; try simp only [Act.put, List.setIfInBounds_toArray, List.set_cons_zero, List.set_cons_succ]
                            refine wpAnyH_take (i := 13) (v := ?_) rfl (by kernel_rfl) (by kernel_rfl) (by kernel_rfl) (fun _ _ _ h => h) (Or.inl ⟨by rfl, ?hyT⟩) hHeld ?restT
                            case hyT => (intro wS hSw; obtain ⟨q1, q2, q3⟩ := HCL.out wS hSw; go_simp; try with_reducible rfl)
                            case restT =>
                              change wpAnyH _ _ _ _ _ _ _ (Act.mk _ _) _; try simp only [Act.put, List.setIfInBounds_toArray, List.set_cons_zero, List.set_cons_succ]
                              refine wpAnyH_take (i := 14) (v := ?_) rfl (by kernel_rfl) (by kernel_rfl) (by kernel_rfl) (fun _ _ _ h => h) (Or.inl ⟨by rfl, ?hyT⟩) hHeld ?restT
                              case hyT => (intro wS hSw; obtain ⟨q1, q2, q3⟩ := HCL.out wS hSw; go_simp; try with_reducible rfl)
                              case restT =>
                                change wpAnyH _ _ _ _ _ _ _ (Act.mk _ _) _; try simp only [Act.put, List.setIfInBounds_toArray, List.set_cons_zero, List.set_cons_succ]
                                refine wpAnyH_take (i := 15) (v := ?_) rfl (by kernel_rfl) (by kernel_rfl) (by kernel_rfl) (fun _ _ _ h => h) (Or.inl ⟨by rfl, ?hyT⟩) hHeld ?restT
                                case hyT => (intro wS hSw; obtain ⟨q1, q2, q3⟩ := HCL.out wS hSw; go_simp; try with_reducible rfl)
                                case restT =>
                                  change wpAnyH _ _ _ _ _ _ _ (Act.mk _ _) _; try simp only [Act.put, List.setIfInBounds_toArray, List.set_cons_zero, List.set_cons_succ]
                                  refine wpAnyH_take (i := 16) (v := ?_) rfl (by kernel_rfl) (by kernel_rfl) (by kernel_rfl) (fun _ _ _ h => h) (Or.inl ⟨by rfl, ?hyT⟩) hHeld ?restT
                                  case hyT => (intro wS hSw; obtain ⟨q1, q2, q3⟩ := HCL.out wS hSw; go_simp; try with_reducible rfl)
                                  case restT =>
                                    change wpAnyH _ _ _ _ _ _ _ (Act.mk _ _) _; try simp only [Act.put, List.setIfInBounds_toArray, List.set_cons_zero, List.set_cons_succ]
                                    refine wpAnyH_take (i := 17) (v := ?_) rfl (by kernel_rfl) (by kernel_rfl) (by kernel_rfl) (fun _ _ _ h => h) (Or.inl ⟨by rfl, ?hyT⟩) hHeld ?restT
                                    case hyT => (intro wS hSw; obtain ⟨q1, q2, q3⟩ := HCL.out wS hSw; go_simp; try with_reducible rfl)
                                    case restT =>
                                      change wpAnyH _ _ _ _ _ _ _ (Act.mk _ _) _; try simp only [Act.put, List.setIfInBounds_toArray, List.set_cons_zero, List.set_cons_succ]
                                      refine wpAnyH_take (i := 18) (v := ?_) rfl (by kernel_rfl) (by kernel_rfl) (by kernel_rfl) (fun _ _ _ h => h) (Or.inl ⟨by rfl, ?hyT⟩) hHeld ?restT
                                      case hyT => (intro wS hSw; obtain ⟨q1, q2, q3⟩ := HCL.out wS hSw; go_simp; try with_reducible rfl)
                                      case restT =>
                                        change wpAnyH _ _ _ _ _ _ _ (Act.mk _ _) _; try simp only [Act.put, List.setIfInBounds_toArray, List.set_cons_zero, List.set_cons_succ]
                                        refine wpAnyH_take (i := 19) (v := ?_) rfl (by kernel_rfl) (by kernel_rfl) (by kernel_rfl) (fun _ _ _ h => h) (Or.inl ⟨by rfl, ?hyT⟩) hHeld ?restT
                                        case hyT => (intro wS hSw; obtain ⟨q1, q2, q3⟩ := HCL.out wS hSw; go_simp; try with_reducible rfl)
                                        case restT =>
                                          change wpAnyH _ _ _ _ _ _ _ (Act.mk _ _) _; try simp only [Act.put, List.setIfInBounds_toArray, List.set_cons_zero, List.set_cons_succ]
                                          refine wpAnyH_take (i := 20) (v := ?_) rfl (by kernel_rfl) (by kernel_rfl) (by kernel_rfl) (fun _ _ _ h => h) (Or.inl ⟨by rfl, ?hyT⟩) hHeld ?restT
                                          case hyT => (intro wS hSw; obtain ⟨q1, q2, q3⟩ := HCL.out wS hSw; go_simp; try with_reducible rfl)
                                          case restT =>
                                            change wpAnyH _ _ _ _ _ _ _ (Act.mk _ _) _; try simp only [Act.put, List.setIfInBounds_toArray, List.set_cons_zero, List.set_cons_succ]
                                            refine wpAnyH_take (i := 21) (v := ?_) rfl (by kernel_rfl) (by kernel_rfl) (by kernel_rfl) (fun _ _ _ h => h) (Or.inl ⟨by rfl, ?hyT⟩) hHeld ?restT
                                            case hyT => (intro wS hSw; obtain ⟨q1, q2, q3⟩ := HCL.out wS hSw; go_simp; try with_reducible rfl)
                                            case restT =>
                                              change wpAnyH _ _ _ _ _ _ _ (Act.mk _ _) _; try simp only [Act.put, List.setIfInBounds_toArray, List.set_cons_zero, List.set_cons_succ]
                                              refine wpAnyH_take (i := 22) (v := ?_) rfl (by kernel_rfl) (by kernel_rfl) (by kernel_rfl) (fun _ _ _ h => h) (Or.inl ⟨by rfl, ?hyT⟩) hHeld ?restT
                                              case hyT => (intro wS hSw; obtain ⟨q1, q2, q3⟩ := HCL.out wS hSw; go_simp; try with_reducible rfl)
                                              case restT =>
                                                change wpAnyH _ _ _ _ _ _ _ (Act.mk _ _) _; try simp only [Act.put, List.setIfInBounds_toArray, List.set_cons_zero, List.set_cons_succ]
                                                refine wpAnyH_take (i := 23) (v := ?_) rfl (by kernel_rfl) (by kernel_rfl) (by kernel_rfl) (fun _ _ _ h => h) (Or.inl ⟨by rfl, ?hyT⟩) hHeld ?restT
                                                case hyT => (intro wS hSw; obtain ⟨q1, q2, q3⟩ := HCL.out wS hSw; go_simp; try with_reducible rfl)
                                                case restT =>
                                                  change wpAnyH _ _ _ _ _ _ _ (Act.mk _ _) _; try simp only [Act.put, List.setIfInBounds_toArray, List.set_cons_zero, List.set_cons_succ]
                                                  refine wpAnyH_take (i := 24) (v := ?_) rfl (by kernel_rfl) (by kernel_rfl) (by kernel_rfl) (fun _ _ _ h => h) (Or.inl ⟨by rfl, ?hyT⟩) hHeld ?restT
                                                  case hyT => (intro wS hSw; obtain ⟨q1, q2, q3⟩ := HCL.out wS hSw; go_simp; try with_reducible rfl)
                                                  case restT =>
                                                    change wpAnyH _ _ _ _ _ _ _ (Act.mk _ _) _; try simp only [Act.put, List.setIfInBounds_toArray, List.set_cons_zero, List.set_cons_succ]
                                                    refine wpAnyH_take (i := 25) (v := ?_) rfl (by kernel_rfl) (by kernel_rfl) (by kernel_rfl) (fun _ _ _ h => h) (Or.inl ⟨by rfl, ?hyT⟩) hHeld ?restT
                                                    case hyT => (intro wS hSw; obtain ⟨q1, q2, q3⟩ := HCL.out wS hSw; go_simp; try with_reducible rfl)
                                                    case restT =>
                                                      change wpAnyH _ _ _ _ _ _ _ (Act.mk _ _) _; try simp only [Act.put, List.setIfInBounds_toArray, List.set_cons_zero, List.set_cons_succ]
                                                      refine wpAnyH_take (i := 26) (v := ?_) rfl (by kernel_rfl) (by kernel_rfl) (by kernel_rfl) (fun _ _ _ h => h) (Or.inl ⟨by rfl, ?hyT⟩) hHeld ?restT
                                                      case hyT => (intro wS hSw; obtain ⟨q1, q2, q3⟩ := HCL.out wS hSw; go_simp; try with_reducible rfl)
                                                      case restT =>
                                                        change wpAnyH _ _ _ _ _ _ _ (Act.mk _ _) _; try simp only [Act.put, List.setIfInBounds_toArray, List.set_cons_zero, List.set_cons_succ]
                                                        refine wpAnyH_take (i := 27) (v := ?_) rfl (by kernel_rfl) (by kernel_rfl) (by kernel_rfl) (fun _ _ _ h => h) (Or.inl ⟨by rfl, ?hyT⟩) hHeld ?restT
                                                        case hyT => (intro wS hSw; obtain ⟨q1, q2, q3⟩ := HCL.out wS hSw; go_simp; try with_reducible rfl)
                                                        case restT =>
                                                          change wpAnyH _ _ _ _ _ _ _ (Act.mk _ _) _; try simp only [Act.put, List.setIfInBounds_toArray, List.set_cons_zero, List.set_cons_succ]
                                                          refine wpAnyH_take (i := 28) (v := ?_) rfl (by kernel_rfl) (by kernel_rfl) (by kernel_rfl) (fun _ _ _ h => h) (Or.inl ⟨by rfl, ?hyT⟩) hHeld ?restT
                                                          case hyT => (intro wS hSw; obtain ⟨q1, q2, q3⟩ := HCL.out wS hSw; go_simp; try with_reducible rfl)
                                                          case restT =>
                                                            change wpAnyH _ _ _ _ _ _ _ (Act.mk _ _) _; try simp only [Act.put, List.setIfInBounds_toArray, List.set_cons_zero, List.set_cons_succ]
                                                            refine wpAnyH_take (i := 29) (v := ?_) rfl (by kernel_rfl) (by kernel_rfl) (by kernel_rfl) (fun _ _ _ h => h) (Or.inl ⟨by rfl, ?hyT⟩) hHeld ?restT
                                                            case hyT => (intro wS hSw; obtain ⟨q1, q2, q3⟩ := HCL.out wS hSw; go_simp; try with_reducible rfl)
                                                            case restT =>
                                                              change wpAnyH _ _ _ _ _ _ _ (Act.mk _ _) _; try simp only [Act.put, List.setIfInBounds_toArray, List.set_cons_zero, List.set_cons_succ]
                                                              refine wpAnyH_take (i := 30) (v := ?_) rfl (by kernel_rfl) (by kernel_rfl) (by kernel_rfl) (fun _ _ _ h => h) (Or.inl ⟨by rfl, ?hyT⟩) hHeld ?restT
                                                              case hyT => (intro wS hSw; obtain ⟨q1, q2, q3⟩ := HCL.out wS hSw; go_simp; try with_reducible rfl)
                                                              case restT =>
                                                                change wpAnyH _ _ _ _ _ _ _ (Act.mk _ _) _; try simp only [Act.put, List.setIfInBounds_toArray, List.set_cons_zero, List.set_cons_succ]
                                                                refine wpAnyH_take (i := 31) (v := ?_) rfl (by kernel_rfl) (by kernel_rfl) (by kernel_rfl) (fun _ _ _ h => h) (Or.inl ⟨by rfl, ?hyT⟩) hHeld ?restT
                                                                case hyT => (intro wS hSw; obtain ⟨q1, q2, q3⟩ := HCL.out wS hSw; go_simp; try with_reducible rfl)
                                                                case restT =>
                                                                  change wpAnyH _ _ _ _ _ _ _ (Act.mk _ _) _; try simp only [Act.put, List.setIfInBounds_toArray, List.set_cons_zero, List.set_cons_succ]
                                                                  refine wpAnyH_take (i := 32) (v := ?_) rfl (by kernel_rfl) (by kernel_rfl) (by kernel_rfl) (fun _ _ _ h => h) (Or.inl ⟨by rfl, ?hyT⟩) hHeld ?restT
                                                                  case hyT => (intro wS hSw; obtain ⟨q1, q2, q3⟩ := HCL.out wS hSw; go_simp; try with_reducible rfl)
                                                                  case restT =>
                                                                    change wpAnyH _ _ _ _ _ _ _ (Act.mk _ _) _; try simp only [Act.put, List.setIfInBounds_toArray, List.set_cons_zero, List.set_cons_succ]
                                                                    refine wpAnyH_ready (rs := [33]) (by kernel_rfl) (by simp) ?_
                                                                    refine AllReadyH.cons rfl (fun K hK => ?_) AllReadyH.nil
                                                                    go_simp
                                                                    go_wp2_with (go_at_call 17; ((with_reducible refine (HEQ.out _ (ext_drew (Below.refl _ _))).mono ?_); rintro e u4 ⟨rfl, hb⟩; have HB4 := Lib.hid hb; clear hb))
                                                                    refine hK.out _ _ (ext_trans (ext_drew (Below.refl _ _)) HB4.out) (fun hHeld => ?_)
                                                                    clear hK K
                                                                    change wpAnyH _ _ _ _ _ _ _ (Act.mk _ _) _; try simp only [Act.put, List.setIfInBounds_toArray, List.set_cons_zero, List.set_cons_succ]
                                                                    refine wpAnyH_take (i := 34) (v := ?_) rfl (by kernel_rfl) (by kernel_rfl) (by kernel_rfl) (fun _ _ _ h => h) (Or.inl ⟨by rfl, ?hyT⟩) hHeld ?restT
                                                                    case hyT => (intro wS hSw; obtain ⟨q1, q2, q3⟩ := HCL.out wS hSw; go_simp; try with_reducible rfl)
                                                                    case restT =>
                                                                      change wpAnyH _ _ _ _ _ _ _ (Act.mk _ _) _; try simp only [Act.put, List.setIfInBounds_toArray, List.set_cons_zero, List.set_cons_succ]
                                                                      refine wpAnyH_take (i := 35) (v := ?_) rfl (by kernel_rfl) (by kernel_rfl) (by kernel_rfl) (fun _ _ _ h => h) (Or.inl ⟨by rfl, ?hyT⟩) hHeld ?restT
                                                                      case hyT => (intro wS hSw; obtain ⟨q1, q2, q3⟩ := HCL.out wS hSw; go_simp; try with_reducible rfl)
                                                                      case restT =>
                                                                        change wpAnyH _ _ _ _ _ _ _ (Act.mk _ _) _; try simp only [Act.put, List.setIfInBounds_toArray, List.set_cons_zero, List.set_cons_succ]
                                                                        refine wpAnyH_take (i := 36) (v := ?_) rfl (by kernel_rfl) (by kernel_rfl) (by kernel_rfl) (fun _ _ _ h => h) (Or.inl ⟨by rfl, ?hyT⟩) hHeld ?restT
                                                                        case hyT => (intro wS hSw; obtain ⟨q1, q2, q3⟩ := HCL.out wS hSw; go_simp; try with_reducible rfl)
                                                                        case restT =>
                                                                          change wpAnyH _ _ _ _ _ _ _ (Act.mk _ _) _; try simp only [Act.put, List.setIfInBounds_toArray, List.set_cons_zero, List.set_cons_succ]
                                                                          refine wpAnyH_take (i := 37) (v := ?_) rfl (by kernel_rfl) (by kernel_rfl) (by kernel_rfl) (fun _ _ _ h => h) (Or.inl ⟨by rfl, ?hyT⟩) hHeld ?restT
                                                                          case hyT => (intro wS hSw; obtain ⟨q1, q2, q3⟩ := HCL.out wS hSw; go_simp; try with_reducible rfl)
                                                                          case restT =>
                                                                            change wpAnyH _ _ _ _ _ _ _ (Act.mk _ _) _; try simp only [Act.put, List.setIfInBounds_toArray, List.set_cons_zero, List.set_cons_succ]
                                                                            refine wpAnyH_take (i := 38) (v := ?_) rfl (by kernel_rfl) (by kernel_rfl) (by kernel_rfl) (fun _ _ _ h => h) (Or.inl ⟨by rfl, ?hyT⟩) hHeld ?restT
                                                                            case hyT => (intro wS hSw; obtain ⟨q1, q2, q3⟩ := HCL.out wS hSw; go_simp; try with_reducible rfl)
                                                                            case restT =>
                                                                              change wpAnyH _ _ _ _ _ _ _ (Act.mk _ _) _; try simp only [Act.put, List.setIfInBounds_toArray, List.set_cons_zero, List.set_cons_succ]
                                                                              refine wpAnyH_take (i := 39) (v := ?_) rfl (by kernel_rfl) (by kernel_rfl) (by kernel_rfl) (fun _ _ _ h => h) (Or.inl ⟨by rfl, ?hyT⟩) hHeld ?restT
                                                                              case hyT => (intro wS hSw; obtain ⟨q1, q2, q3⟩ := HCL.out wS hSw; go_simp; try with_reducible rfl)
                                                                              case restT =>
                                                                                change wpAnyH _ _ _ _ _ _ _ (Act.mk _ _) _; try simp only [Act.put, List.setIfInBounds_toArray, List.set_cons_zero, List.set_cons_succ]
                                                                                refine wpAnyH_take (i := 40) (v := ?_) rfl (by kernel_rfl) (by kernel_rfl) (by kernel_rfl) (fun _ _ _ h => h) (Or.inl ⟨by rfl, ?hyT⟩) hHeld ?restT
                                                                                case hyT => (intro wS hSw; obtain ⟨q1, q2, q3⟩ := HCL.out wS hSw; go_simp; try with_reducible rfl)
                                                                                case restT =>
                                                                                  change wpAnyH _ _ _ _ _ _ _ (Act.mk _ _) _; try simp only [Act.put, List.setIfInBounds_toArray, List.set_cons_zero, List.set_cons_succ]
                                                                                  refine wpAnyH_take (i := 41) (v := ?_) rfl (by kernel_rfl) (by kernel_rfl) (by kernel_rfl) (fun _ _ _ h => h) (Or.inl ⟨by rfl, ?hyT⟩) hHeld ?restT
                                                                                  case hyT => (intro wS hSw; obtain ⟨q1, q2, q3⟩ := HCL.out wS hSw; go_simp; try with_reducible rfl)
                                                                                  case restT =>
                                                                                    change wpAnyH _ _ _ _ _ _ _ (Act.mk _ _) _; try simp only [Act.put, List.setIfInBounds_toArray, List.set_cons_zero, List.set_cons_succ]
                                                                                    refine wpAnyH_take (i := 42) (v := .agg cs2) rfl (by kernel_rfl) (by kernel_rfl) (by kernel_rfl) (fun _ _ _ h => h) (Or.inl ⟨by rfl, ?hyT⟩) hHeld ?restT
                                                                                    case hyT => (intro wS hSw; refine yields_load_sub 31 (.tmp 5) rfl u2.heap.size 0 64 rfl 31 cs2 _ (HK2.out _ hSw).bk Tryd.underlying31 rfl (by kernel_rfl) MX2.out.size _ MX2.out.all)
                                                                                    case restT =>
                                                                                      change wpAnyH _ _ _ _ _ _ _ (Act.mk _ _) _; try simp only [Act.put, List.setIfInBounds_toArray, List.set_cons_zero, List.set_cons_succ]
                                                                                      refine wpAnyH_ready (rs := [43]) (by kernel_rfl) (by simp) ?_
                                                                                      refine AllReadyH.cons rfl (fun K hK => ?_) AllReadyH.nil
                                                                                      go_simp
                                                                                      go_wp2_with (go_at_call 21; ((with_reducible refine (check_is (HK2.out _ (ext_trans (ext_drew (Below.refl _ _)) HB4.out)) HCK.out).mono ?_); rintro e u5 ⟨rfl, hb⟩; have HB5 := Lib.hid hb; clear hb))
                                                                                      refine hK.out _ _ (ext_trans (ext_trans (ext_drew (Below.refl _ _)) HB4.out) HB5.out) (fun hHeld => ?_)
                                                                                      clear hK K
                                                                                      change wpAnyH _ _ _ _ _ _ _ (Act.mk _ _) _; try simp only [Act.put, List.setIfInBounds_toArray, List.set_cons_zero, List.set_cons_succ]
                                                                                      refine wpAnyH_take (i := 44) (v := ?_) rfl (by kernel_rfl) (by kernel_rfl) (by kernel_rfl) (fun _ _ _ h => h) (Or.inl ⟨by rfl, ?hyT⟩) hHeld ?restT
                                                                                      case hyT => (intro wS hSw; obtain ⟨q1, q2, q3⟩ := HCL.out wS hSw; go_simp; try with_reducible rfl)
                                                                                      case restT =>
                                                                                        change wpAnyH _ _ _ _ _ _ _ (Act.mk _ _) _; try simp only [Act.put, List.setIfInBounds_toArray, List.set_cons_zero, List.set_cons_succ]
                                                                                        refine wpAnyH_take (i := 45) (v := ?_) rfl (by kernel_rfl) (by kernel_rfl) (by kernel_rfl) (fun _ _ _ h => h) (Or.inl ⟨by rfl, ?hyT⟩) hHeld ?restT
                                                                                        case hyT => (intro wS hSw; obtain ⟨q1, q2, q3⟩ := HCL.out wS hSw; go_simp; try with_reducible rfl)
                                                                                        case restT =>
                                                                                          change wpAnyH _ _ _ _ _ _ _ (Act.mk _ _) _; try simp only [Act.put, List.setIfInBounds_toArray, List.set_cons_zero, List.set_cons_succ]
                                                                                          refine wpAnyH_ready (rs := [46]) (by kernel_rfl) (by simp) ?_
                                                                                          refine AllReadyH.cons rfl (fun K hK => ?_) AllReadyH.nil
                                                                                          go_simp
                                                                                          refine hK.out _ _ (ext_trans (ext_trans (ext_drew (Below.refl _ _)) HB4.out) HB5.out) (fun hHeld => ?_)
                                                                                          clear hK K
                                                                                          change wpAnyH _ _ _ _ _ _ _ (Act.mk _ _) _; try simp only [Act.put, List.setIfInBounds_toArray, List.set_cons_zero, List.set_cons_succ]
                                                                                          refine wpAnyH_done (by kernel_rfl) ?_ _
                                                                                          go_wp2
                                                                                          go_ret
                                                                                          exact ⟨rfl, ext_trans (ext_trans H1W.out (ext_trans (ext_alloc (ext_trans HB1.out HB2.out) _) HB3.out)) (ext_trans (ext_trans (ext_drew (Below.refl _ _)) HB4.out) HB5.out)⟩
theorem runTells_walk (x : MachA) (a : Int) {w : World} (hx : x.ok w) (ha : I64 a) (ht : Tab w) : Calls Tryd.prog 9 #[x.val, .int .i64 a] w fun e w' => e = .returned (.bool true) ∧ Below w.heap.size w w' := by
  obtain ⟨na, hna⟩ := Int.eq_ofNat_of_zero_le (Int.emod_nonneg a (show (2000 : Int) ≠ 0 by decide))
  have l1 := Int.emod_lt_of_pos a (show (0 : Int) < 2000 by decide)
  by_cases hc : x.mv.check = 0
  · exact tells_good x.mv _ a na w (mbox_arg hx) ht hna (by omega) hc
  · exact tells_bad x.mv _ a na w (mbox_arg hx) ht hna (by omega) hc
end Go.Proofs.YtopdnihokbhjfaaDoor
