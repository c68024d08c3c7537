import Derived.Test.YtopdnihokbhjfaaDoorBuR
import Derived.Deep.DeepCutAuto
/- RunNone. -/
namespace Go.Proofs.YtopdnihokbhjfaaDoor
open Go.RowKit
set_option linter.unusedVariables false
set_option linter.unusedSimpArgs false
set_option maxHeartbeats 8000000 in
set_option maxRecDepth 100000 in
theorem none_bad (m : MV) (cs : Array Value) (pa : Int) (na : Nat) (w : World) (hbox : MBox w.heap.size m cs (w.alloc (.cells cs 31))) (ht : Tab w)
    (hna : pa % 2000 = na) (ha : na < 2000) (hc : m.check ≠ 0) : Calls Tryd.prog 10 #[.agg cs, .int .i64 pa] w fun e w' => e = .returned (.bool true) ∧ Below w.heap.size w w' := by
  have h8 := hbox.h8
  obtain ⟨law1, law2⟩ := none_law h8 ha
  have r1 := law1 hc
  clear law1 law2
  obtain ⟨ec, hec⟩ : ∃ ec, m.check = ec := ⟨_, rfl⟩
  rw [hec] at r1 hc
  have b1 : (ec == 0) = false := by simpa using hc
  have b2 : (ec != 0) = true := by simpa using hc
  obtain ⟨w1, hw1⟩ : ∃ w1, w1 = w.alloc (.cells cs 31) := ⟨_, rfl⟩
  have h1w : Below w.heap.size w w1 := by rw [hw1]; exact ext_alloc (Below.refl _ _) _
  rw [← hw1] at hbox
  have sd := stepped_any w1 (ht.below h1w)
  have ra := fun W => rest_any pa 2000 W (by decide) (by decide)
  rw [hna] at ra
  have SD := Lib.hid sd
  have RA := Lib.hid ra
  have R1 := Lib.hid r1
  have MX := Lib.hid hbox
  have HW1 := Lib.hid hw1
  have H1W := Lib.hid h1w
  have HT := Lib.hid ht
  have HC := Lib.hid hec
  clear sd ra r1 hbox hw1 h1w ht h8 ha hna hc hec
  go_enter Tryd.func10, Tryd.ntmps10
  go_upto_region 1 with (fail)
  rw [← HW1.out]
  go_upto_region 4 with (first
    | (go_at_call 14; ((with_reducible refine (SD.out).mono ?_); rintro e u1 ⟨rfl, hb⟩; have HB1 := Lib.hid hb; clear hb))
    | (refine wpList_load_sub rfl 31 (.tmp 2) rfl w.heap.size 0 64 rfl 31 _ _ (MX.out.below HB1.out).bk Tryd.underlying31 rfl (by kernel_rfl) MX.out.size _ MX.out.all ?_)
    | (go_at_call 23; ((with_reducible refine (run_box (MX.out.below HB1.out) (HT.out.below (ext_trans H1W.out HB1.out)) _ R1.out).mono ?_); rintro e u2 ⟨cs2, rfl, mx, hb⟩; have MX2 := Lib.hid mx; have HB2 := Lib.hid hb; clear hb mx))
    | (refine wpList_store_fresh rfl 31 (.tmp 5) (.tmp 19) rfl rfl cs2 31 _ rfl rfl (by rw [MX2.out.sz]; kernel_rfl) (by rw [MX2.out.sz]; kernel_rfl) MX2.out.one ?_))
  go_upto_region 5 with (first
    | (refine wpList_load_sub rfl 31 (.tmp 2) rfl w.heap.size 0 64 rfl 31 _ _ (MX.out.below (ext_alloc (ext_trans HB1.out HB2.out) _)).bk Tryd.underlying31 rfl (by kernel_rfl) MX.out.size _ MX.out.all ?_)
    | (go_at_call 21; ((with_reducible refine (check_is (MX.out.below (ext_alloc (ext_trans HB1.out HB2.out) _)) HC.out).mono ?_); rintro e u3 ⟨rfl, hb⟩; have HB3 := Lib.hid hb; clear hb)))
  go_wp2_with (first
    | (refine wpList_load_sub_w rfl 31 (.tmp 2) rfl w.heap.size 0 64 rfl 31 _ _ (MX.out.below (ext_trans (ext_alloc (ext_trans HB1.out HB2.out) _) HB3.out)).bk Tryd.underlying31 rfl (by kernel_rfl) MX.out.size _ MX.out.all ?_)
    | (go_at_call 21; ((with_reducible refine (check_is (MX.out.below (ext_trans (ext_alloc (ext_trans HB1.out HB2.out) _) HB3.out)) HC.out).mono ?_); rintro e u4 ⟨rfl, hb⟩; have HB4 := Lib.hid hb; clear hb)))
  go_ret
  exact ⟨rfl, ext_trans H1W.out (ext_trans (ext_trans (ext_alloc (ext_trans HB1.out HB2.out) _) HB3.out) HB4.out)⟩
set_option maxHeartbeats 8000000 in
set_option maxRecDepth 100000 in
theorem none_fuel (m : MV) (cs : Array Value) (pa : Int) (na : Nat) (w : World) (hbox : MBox w.heap.size m cs (w.alloc (.cells cs 31))) (ht : Tab w)
    (hna : pa % 2000 = na) (ha : na < 2000) (hc : m.check = 0) (he : (runF m na).2.2 = 15) : Calls Tryd.prog 10 #[.agg cs, .int .i64 pa] w fun e w' => e = .returned (.bool true) ∧ Below w.heap.size w w' := by
  have h8 := hbox.h8
  obtain ⟨law1, law2⟩ := none_law h8 ha
  obtain ⟨r1, r3⟩ := law2 hc
  clear law1 law2
  obtain ⟨⟨X, n, er⟩, r2⟩ : ∃ r, runF m na = r := ⟨_, rfl⟩
  rw [r2] at he r3
  simp only at he r3
  subst he
  clear r3
  obtain ⟨w1, hw1⟩ : ∃ w1, w1 = w.alloc (.cells cs 31) := ⟨_, rfl⟩
  have h1w : Below w.heap.size w w1 := by rw [hw1]; exact ext_alloc (Below.refl _ _) _
  rw [← hw1] at hbox
  have sd := stepped_any w1 (ht.below h1w)
  have ra := fun W => rest_any pa 2000 W (by decide) (by decide)
  rw [hna] at ra
  have SD := Lib.hid sd
  have RA := Lib.hid ra
  have R1 := Lib.hid r1
  have MX := Lib.hid hbox
  have HW1 := Lib.hid hw1
  have H1W := Lib.hid h1w
  have HT := Lib.hid ht
  have HC := Lib.hid hc
  have R2 := Lib.hid r2
  clear sd ra r1 hbox hw1 h1w ht h8 ha hna hc r2
  go_enter Tryd.func10, Tryd.ntmps10
  go_upto_region 1 with (fail)
  rw [← HW1.out]
  go_upto_region 4 with (first
    | (go_at_call 14; ((with_reducible refine (SD.out).mono ?_); rintro e u1 ⟨rfl, hb⟩; have HB1 := Lib.hid hb; clear hb))
    | (refine wpList_load_sub rfl 31 (.tmp 2) rfl w.heap.size 0 64 rfl 31 _ _ (MX.out.below HB1.out).bk Tryd.underlying31 rfl (by kernel_rfl) MX.out.size _ MX.out.all ?_)
    | (go_at_call 23; ((with_reducible refine (run_box (MX.out.below HB1.out) (HT.out.below (ext_trans H1W.out HB1.out)) _ R1.out).mono ?_); rintro e u2 ⟨cs2, rfl, mx, hb⟩; have MX2 := Lib.hid mx; have HB2 := Lib.hid hb; clear hb mx))
    | (refine wpList_store_fresh rfl 31 (.tmp 5) (.tmp 19) rfl rfl cs2 31 _ rfl rfl (by rw [MX2.out.sz]; kernel_rfl) (by rw [MX2.out.sz]; kernel_rfl) MX2.out.one ?_))
  go_upto_region 6 with (first
    | (refine wpList_load_sub rfl 31 (.tmp 2) rfl w.heap.size 0 64 rfl 31 _ _ (MX.out.below (ext_alloc (ext_trans HB1.out HB2.out) _)).bk Tryd.underlying31 rfl (by kernel_rfl) MX.out.size _ MX.out.all ?_)
    | (go_at_call 21; ((with_reducible refine (check_is (MX.out.below (ext_alloc (ext_trans HB1.out HB2.out) _)) HC.out).mono ?_); rintro e u3 ⟨rfl, hb⟩; have HB3 := Lib.hid hb; clear hb)))
  go_upto_region 8 with (first
    | (refine wpList_load_sub_w rfl 31 (.tmp 5) rfl u2.heap.size 0 64 rfl 31 _ _ (MX2.out.below HB3.out).bk Tryd.underlying31 rfl (by kernel_rfl) MX2.out.size _ MX2.out.all ?_)
    | (refine wpList_load_sub_w rfl 31 (.tmp 2) rfl w.heap.size 0 64 rfl 31 _ _ (MX.out.below (ext_trans (ext_alloc (ext_trans HB1.out HB2.out) _) HB3.out)).bk Tryd.underlying31 rfl (by kernel_rfl) MX.out.size _ MX.out.all ?_)
    | (go_at_call 15; ((with_reducible refine (meq_box (MX2.out.below HB3.out) (MX.out.below (ext_trans (ext_alloc (ext_trans HB1.out HB2.out) _) HB3.out))).mono ?_); rintro e u4 ⟨rfl, hb⟩; have HB4 := Lib.hid hb; clear hb)))
  go_cut [8, 9, 10] (fun s8 s9 s10 wx => ∃ (g8 : Nat) (cs8 : Array Value), s8 = .pointer (some ⟨g8, 0, none⟩) ∧ s9 = .int .i64 n ∧ s10 = .int .i64 15 ∧ MBox g8 X cs8 wx ∧ Below u4.heap.size u4 wx)
  case first =>
    have hload : ∀ W1, Below u4.heap.size u4 W1 → Bk W1 w.heap.size 31 cs := fun W1 hb => bk_keep hb (MX.out.below (ext_trans (ext_trans (ext_alloc (ext_trans HB1.out HB2.out) _) HB3.out) HB4.out)).bk
    have htab : ∀ W1, Below u4.heap.size u4 W1 → Tab W1 := fun W1 hb => (HT.out.below (ext_trans H1W.out (ext_trans (ext_trans (ext_alloc (ext_trans HB1.out HB2.out) _) HB3.out) HB4.out))).below hb
    have hmb : ∀ W1, Below u4.heap.size u4 W1 → MBox w.heap.size m cs W1 := fun W1 hb => (MX.out.below (ext_trans (ext_trans (ext_alloc (ext_trans HB1.out HB2.out) _) HB3.out) HB4.out)).below hb
    have HL := Lib.hid hload
    have HTB := Lib.hid htab
    have HMB := Lib.hid hmb
    clear hload htab hmb
    refine wp_region_held_drew (S := fun W1 => Below u4.heap.size u4 W1) (by kernel_rfl) (ext_drew (Below.refl _ _)) (fun hHeld => ?_)
    refine wpAnyH_take (i := 0) (v := .agg cs) rfl (by kernel_rfl) (by kernel_rfl) (by kernel_rfl) (fun _ _ _ h => h) (Or.inl ⟨by rfl, ?hyT⟩) hHeld ?restT
    case hyT => (intro wS hSw; refine yields_load_sub 31 (.tmp 2) rfl w.heap.size 0 64 rfl 31 cs _ (HL.out _ hSw) Tryd.underlying31 rfl (by kernel_rfl) MX.out.size _ MX.out.all)
    case restT =>
      try simp only [Act.put, List.setIfInBounds_toArray, List.set_cons_zero, List.set_cons_succ]
      refine wpAnyH_take (i := 1) (v := ?_) rfl (by kernel_rfl) (by kernel_rfl) (by kernel_rfl) (fun _ _ _ h => h) (Or.inl ⟨by rfl, ?hyT⟩) hHeld ?restT
      case hyT => (intro wS hSw; go_simp; try with_reducible rfl)
      case restT =>
        try simp only [Act.put, List.setIfInBounds_toArray, List.set_cons_zero, List.set_cons_succ]
        refine wpAnyH_ready (rs := [2, 8]) (by kernel_rfl) (by simp) ?_
        refine AllReadyH.cons rfl (fun K hK => ?_) (AllReadyH.cons rfl (fun K hK => ?_) AllReadyH.nil)
        · go_simp
          go_wp2_with (go_at_call 19; ((with_reducible refine (RA.out _).mono ?_); rintro e w' ⟨rfl, rfl⟩))
          refine hK.out _ _ (ext_drew (Below.refl _ _)) (fun hHeld => ?_)
          clear hK K
          try simp only [Act.put, List.setIfInBounds_toArray, List.set_cons_zero, List.set_cons_succ]
          refine wpAnyH_ready (rs := [3, 8]) (by kernel_rfl) (by simp) ?_
          refine AllReadyH.cons rfl (fun K hK => ?_) (AllReadyH.cons rfl (fun K hK => ?_) AllReadyH.nil)
          · go_simp
            go_wp2_with (go_at_call 23; go_loud ((with_reducible refine (run_own (HMB.out _ (ext_drew (Below.refl _ _))) (HTB.out _ (ext_drew (Below.refl _ _))) _ R2.out).mono ?_); rintro e u5 ⟨cs5, rfl, mo, hb⟩; have MO := Lib.hid mo; have HB5 := Lib.hid hb; clear mo hb))
            refine hK.out _ _ (ext_trans (ext_drew (Below.refl _ _)) HB5.out) (fun hHeld => ?_)
            clear hK K
            try simp only [Act.put, List.setIfInBounds_toArray, List.set_cons_zero, List.set_cons_succ]
            refine wpAnyH_take (i := 4) (v := ?_) rfl (by kernel_rfl) (by kernel_rfl) (by kernel_rfl) (fun _ _ _ h => h) (Or.inl ⟨by rfl, ?hyT⟩) hHeld ?restT
            case hyT => (intro wS hSw; go_simp; try with_reducible rfl)
            case restT =>
              try simp only [Act.put, List.setIfInBounds_toArray, List.set_cons_zero, List.set_cons_succ]
              refine wpAnyH_take (i := 5) (v := ?_) rfl (by kernel_rfl) (by kernel_rfl) (by kernel_rfl) (fun _ _ _ h => h) (Or.inl ⟨by rfl, ?hyT⟩) hHeld ?restT
              case hyT => (intro wS hSw; go_simp; try with_reducible rfl)
              case restT =>
                try simp only [Act.put, List.setIfInBounds_toArray, List.set_cons_zero, List.set_cons_succ]
                refine wpAnyH_take (i := 6) (v := ?_) rfl (by kernel_rfl) (by kernel_rfl) (by kernel_rfl) (fun _ _ _ h => h) (Or.inl ⟨by rfl, ?hyT⟩) hHeld ?restT
                case hyT => (intro wS hSw; go_simp; try with_reducible rfl)
                case restT =>
                  try simp only [Act.put, List.setIfInBounds_toArray, List.set_cons_zero, List.set_cons_succ]
                  refine wpAnyH_take (i := 7) (v := ?_) rfl (by kernel_rfl) (by kernel_rfl) (by kernel_rfl) (fun _ _ _ h => h) (Or.inl ⟨by rfl, ?hyT⟩) hHeld ?restT
                  case hyT => (intro wS hSw; go_simp; try with_reducible rfl)
                  case restT =>
                    try simp only [Act.put, List.setIfInBounds_toArray, List.set_cons_zero, List.set_cons_succ]
                    refine wpAnyH_ready (rs := [8]) (by kernel_rfl) (by simp) ?_
                    refine AllReadyH.cons rfl (fun K hK => ?_) AllReadyH.nil
                    go_simp
                    refine hK.out _ _ (ext_alloc (ext_trans (ext_drew (Below.refl _ _)) HB5.out) _) (fun hHeld => ?_)
                    clear hK K
                    try simp only [Act.put, List.setIfInBounds_toArray, List.set_cons_zero, List.set_cons_succ]
                    refine wpAnyH_ready (rs := [9]) (by kernel_rfl) (by simp) ?_
                    refine AllReadyH.cons rfl (fun K hK => ?_) AllReadyH.nil
                    refine step_store_row rfl 31 (.tmp 8) (.tmp 50) rfl u5.heap.size cs5 rfl rfl 31 _ (bk_new _ _ _) (by rw [MO.out.sz]; kernel_rfl) (by rw [MO.out.sz]; kernel_rfl) MO.out.one ?_
                    refine hK.out _ _ ((ext_setRow (ext_alloc (ext_trans (ext_drew (Below.refl _ _)) HB5.out) _) (by have := HB5.out.size; exact this) _)) (fun hHeld => ?_)
                    clear hK K
                    try simp only [Act.put, List.setIfInBounds_toArray, List.set_cons_zero, List.set_cons_succ]
                    refine wpAnyH_ready (rs := [10]) (by kernel_rfl) (by simp) ?_
                    refine AllReadyH.cons rfl (fun K hK => ?_) AllReadyH.nil
                    go_simp
                    refine hK.out _ _ ((ext_setRow (ext_alloc (ext_trans (ext_drew (Below.refl _ _)) HB5.out) _) (by have := HB5.out.size; exact this) _)) (fun hHeld => ?_)
                    clear hK K
                    try simp only [Act.put, List.setIfInBounds_toArray, List.set_cons_zero, List.set_cons_succ]
                    refine wpAnyH_ready (rs := [11]) (by kernel_rfl) (by simp) ?_
                    refine AllReadyH.cons rfl (fun K hK => ?_) AllReadyH.nil
                    go_simp
                    refine hK.out _ _ ((ext_setRow (ext_alloc (ext_trans (ext_drew (Below.refl _ _)) HB5.out) _) (by have := HB5.out.size; exact this) _)) (fun hHeld => ?_)
                    clear hK K
                    try simp only [Act.put, List.setIfInBounds_toArray, List.set_cons_zero, List.set_cons_succ]
                    refine wpAnyH_done (by kernel_rfl) ?_ _
                    go_wp2_with fail
                    go_meet
                    exact ⟨u5.heap.size, cs5, rfl, rfl, rfl, (MO.out.below (ext_alloc (Below.refl _ _) _)).setRow (bk_new _ _ _), (ext_setRow (ext_alloc (ext_trans (ext_drew (Below.refl _ _)) HB5.out) _) (by have := HB5.out.size; exact this) _)⟩
          · go_simp
            refine hK.out _ _ (ext_drew (ext_alloc (Below.refl _ _) _)) (fun hHeld => ?_)
            clear hK K
            try simp only [Act.put, List.setIfInBounds_toArray, List.set_cons_zero, List.set_cons_succ]
            refine wpAnyH_ready (rs := [3]) (by kernel_rfl) (by simp) ?_
            refine AllReadyH.cons rfl (fun K hK => ?_) AllReadyH.nil
            go_simp
            go_wp2_with (go_at_call 23; go_loud ((with_reducible refine (run_own (HMB.out _ (ext_drew (ext_alloc (Below.refl _ _) _))) (HTB.out _ (ext_drew (ext_alloc (Below.refl _ _) _))) _ R2.out).mono ?_); rintro e u5 ⟨cs5, rfl, mo, hb⟩; have MO := Lib.hid mo; have HB5 := Lib.hid hb; clear mo hb))
            refine hK.out _ _ (ext_trans (ext_drew (ext_alloc (Below.refl _ _) _)) HB5.out) (fun hHeld => ?_)
            clear hK K
            try simp only [Act.put, List.setIfInBounds_toArray, List.set_cons_zero, List.set_cons_succ]
            refine wpAnyH_take (i := 4) (v := ?_) rfl (by kernel_rfl) (by kernel_rfl) (by kernel_rfl) (fun _ _ _ h => h) (Or.inl ⟨by rfl, ?hyT⟩) hHeld ?restT
            case hyT => (intro wS hSw; go_simp; try with_reducible rfl)
            case restT =>
              try simp only [Act.put, List.setIfInBounds_toArray, List.set_cons_zero, List.set_cons_succ]
              refine wpAnyH_take (i := 5) (v := ?_) rfl (by kernel_rfl) (by kernel_rfl) (by kernel_rfl) (fun _ _ _ h => h) (Or.inl ⟨by rfl, ?hyT⟩) hHeld ?restT
              case hyT => (intro wS hSw; go_simp; try with_reducible rfl)
              case restT =>
                try simp only [Act.put, List.setIfInBounds_toArray, List.set_cons_zero, List.set_cons_succ]
                refine wpAnyH_take (i := 6) (v := ?_) rfl (by kernel_rfl) (by kernel_rfl) (by kernel_rfl) (fun _ _ _ h => h) (Or.inl ⟨by rfl, ?hyT⟩) hHeld ?restT
                case hyT => (intro wS hSw; go_simp; try with_reducible rfl)
                case restT =>
                  try simp only [Act.put, List.setIfInBounds_toArray, List.set_cons_zero, List.set_cons_succ]
                  refine wpAnyH_take (i := 7) (v := ?_) rfl (by kernel_rfl) (by kernel_rfl) (by kernel_rfl) (fun _ _ _ h => h) (Or.inl ⟨by rfl, ?hyT⟩) hHeld ?restT
                  case hyT => (intro wS hSw; go_simp; try with_reducible rfl)
                  case restT =>
                    try simp only [Act.put, List.setIfInBounds_toArray, List.set_cons_zero, List.set_cons_succ]
                    refine wpAnyH_ready (rs := [9]) (by kernel_rfl) (by simp) ?_
                    refine AllReadyH.cons rfl (fun K hK => ?_) AllReadyH.nil
                    have kz := bk_keep HB5.out (show Bk (World.drew (World.alloc u4 _)) u4.heap.size 31 _ from bk_new u4 _ _)
                    refine step_store_row rfl 31 (.tmp 8) (.tmp 50) rfl u4.heap.size cs5 rfl rfl 31 _ kz (by rw [MO.out.sz]; kernel_rfl) (by rw [MO.out.sz]; kernel_rfl) MO.out.one ?_
                    refine hK.out _ _ ((ext_setRow (ext_trans (ext_drew (ext_alloc (Below.refl _ _) _)) HB5.out) (Nat.le_refl _) _)) (fun hHeld => ?_)
                    clear hK K
                    try simp only [Act.put, List.setIfInBounds_toArray, List.set_cons_zero, List.set_cons_succ]
                    refine wpAnyH_ready (rs := [10]) (by kernel_rfl) (by simp) ?_
                    refine AllReadyH.cons rfl (fun K hK => ?_) AllReadyH.nil
                    go_simp
                    refine hK.out _ _ ((ext_setRow (ext_trans (ext_drew (ext_alloc (Below.refl _ _) _)) HB5.out) (Nat.le_refl _) _)) (fun hHeld => ?_)
                    clear hK K
                    try simp only [Act.put, List.setIfInBounds_toArray, List.set_cons_zero, List.set_cons_succ]
                    refine wpAnyH_ready (rs := [11]) (by kernel_rfl) (by simp) ?_
                    refine AllReadyH.cons rfl (fun K hK => ?_) AllReadyH.nil
                    go_simp
                    refine hK.out _ _ ((ext_setRow (ext_trans (ext_drew (ext_alloc (Below.refl _ _) _)) HB5.out) (Nat.le_refl _) _)) (fun hHeld => ?_)
                    clear hK K
                    try simp only [Act.put, List.setIfInBounds_toArray, List.set_cons_zero, List.set_cons_succ]
                    refine wpAnyH_done (by kernel_rfl) ?_ _
                    go_wp2_with fail
                    go_meet
                    exact ⟨u4.heap.size, cs5, rfl, rfl, rfl, MO.out.setRow kz, (ext_setRow (ext_trans (ext_drew (ext_alloc (Below.refl _ _) _)) HB5.out) (Nat.le_refl _) _)⟩
        · go_simp
          refine hK.out _ _ (ext_drew (ext_alloc (Below.refl _ _) _)) (fun hHeld => ?_)
          clear hK K
          try simp only [Act.put, List.setIfInBounds_toArray, List.set_cons_zero, List.set_cons_succ]
          refine wpAnyH_ready (rs := [2]) (by kernel_rfl) (by simp) ?_
          refine AllReadyH.cons rfl (fun K hK => ?_) AllReadyH.nil
          go_simp
          go_wp2_with (go_at_call 19; ((with_reducible refine (RA.out _).mono ?_); rintro e w' ⟨rfl, rfl⟩))
          refine hK.out _ _ (ext_drew (ext_alloc (Below.refl _ _) _)) (fun hHeld => ?_)
          clear hK K
          try simp only [Act.put, List.setIfInBounds_toArray, List.set_cons_zero, List.set_cons_succ]
          refine wpAnyH_ready (rs := [3]) (by kernel_rfl) (by simp) ?_
          refine AllReadyH.cons rfl (fun K hK => ?_) AllReadyH.nil
          go_simp
          go_wp2_with (go_at_call 23; go_loud ((with_reducible refine (run_own (HMB.out _ (ext_drew (ext_alloc (Below.refl _ _) _))) (HTB.out _ (ext_drew (ext_alloc (Below.refl _ _) _))) _ R2.out).mono ?_); rintro e u5 ⟨cs5, rfl, mo, hb⟩; have MO := Lib.hid mo; have HB5 := Lib.hid hb; clear mo hb))
          refine hK.out _ _ (ext_trans (ext_drew (ext_alloc (Below.refl _ _) _)) HB5.out) (fun hHeld => ?_)
          clear hK K
          try simp only [Act.put, List.setIfInBounds_toArray, List.set_cons_zero, List.set_cons_succ]
          refine wpAnyH_take (i := 4) (v := ?_) rfl (by kernel_rfl) (by kernel_rfl) (by kernel_rfl) (fun _ _ _ h => h) (Or.inl ⟨by rfl, ?hyT⟩) hHeld ?restT
          case hyT => (intro wS hSw; go_simp; try with_reducible rfl)
          case restT =>
            try simp only [Act.put, List.setIfInBounds_toArray, List.set_cons_zero, List.set_cons_succ]
            refine wpAnyH_take (i := 5) (v := ?_) rfl (by kernel_rfl) (by kernel_rfl) (by kernel_rfl) (fun _ _ _ h => h) (Or.inl ⟨by rfl, ?hyT⟩) hHeld ?restT
            case hyT => (intro wS hSw; go_simp; try with_reducible rfl)
            case restT =>
              try simp only [Act.put, List.setIfInBounds_toArray, List.set_cons_zero, List.set_cons_succ]
              refine wpAnyH_take (i := 6) (v := ?_) rfl (by kernel_rfl) (by kernel_rfl) (by kernel_rfl) (fun _ _ _ h => h) (Or.inl ⟨by rfl, ?hyT⟩) hHeld ?restT
              case hyT => (intro wS hSw; go_simp; try with_reducible rfl)
              case restT =>
                try simp only [Act.put, List.setIfInBounds_toArray, List.set_cons_zero, List.set_cons_succ]
                refine wpAnyH_take (i := 7) (v := ?_) rfl (by kernel_rfl) (by kernel_rfl) (by kernel_rfl) (fun _ _ _ h => h) (Or.inl ⟨by rfl, ?hyT⟩) hHeld ?restT
                case hyT => (intro wS hSw; go_simp; try with_reducible rfl)
                case restT =>
                  try simp only [Act.put, List.setIfInBounds_toArray, List.set_cons_zero, List.set_cons_succ]
                  refine wpAnyH_ready (rs := [9]) (by kernel_rfl) (by simp) ?_
                  refine AllReadyH.cons rfl (fun K hK => ?_) AllReadyH.nil
                  have kz := bk_keep HB5.out (show Bk (World.drew (World.alloc u4 _)) u4.heap.size 31 _ from bk_new u4 _ _)
                  refine step_store_row rfl 31 (.tmp 8) (.tmp 50) rfl u4.heap.size cs5 rfl rfl 31 _ kz (by rw [MO.out.sz]; kernel_rfl) (by rw [MO.out.sz]; kernel_rfl) MO.out.one ?_
                  refine hK.out _ _ ((ext_setRow (ext_trans (ext_drew (ext_alloc (Below.refl _ _) _)) HB5.out) (Nat.le_refl _) _)) (fun hHeld => ?_)
                  clear hK K
                  try simp only [Act.put, List.setIfInBounds_toArray, List.set_cons_zero, List.set_cons_succ]
                  refine wpAnyH_ready (rs := [10]) (by kernel_rfl) (by simp) ?_
                  refine AllReadyH.cons rfl (fun K hK => ?_) AllReadyH.nil
                  go_simp
                  refine hK.out _ _ ((ext_setRow (ext_trans (ext_drew (ext_alloc (Below.refl _ _) _)) HB5.out) (Nat.le_refl _) _)) (fun hHeld => ?_)
                  clear hK K
                  try simp only [Act.put, List.setIfInBounds_toArray, List.set_cons_zero, List.set_cons_succ]
                  refine wpAnyH_ready (rs := [11]) (by kernel_rfl) (by simp) ?_
                  refine AllReadyH.cons rfl (fun K hK => ?_) AllReadyH.nil
                  go_simp
                  refine hK.out _ _ ((ext_setRow (ext_trans (ext_drew (ext_alloc (Below.refl _ _) _)) HB5.out) (Nat.le_refl _) _)) (fun hHeld => ?_)
                  clear hK K
                  try simp only [Act.put, List.setIfInBounds_toArray, List.set_cons_zero, List.set_cons_succ]
                  refine wpAnyH_done (by kernel_rfl) ?_ _
                  go_wp2_with fail
                  go_meet
                  exact ⟨u4.heap.size, cs5, rfl, rfl, rfl, MO.out.setRow kz, (ext_setRow (ext_trans (ext_drew (ext_alloc (Below.refl _ _) _)) HB5.out) (Nat.le_refl _) _)⟩
  case rest =>
    obtain ⟨g8, cs8, rfl, rfl, rfl, mx8, hb8⟩ := hcut
    have MX8 := Lib.hid mx8
    have HB8 := Lib.hid hb8
    clear mx8 hb8
    go_wp2
    go_ret
    exact ⟨rfl, ext_trans H1W.out (ext_trans (ext_trans (ext_trans (ext_alloc (ext_trans HB1.out HB2.out) _) HB3.out) HB4.out) HB8.out)⟩
set_option maxHeartbeats 8000000 in
set_option maxRecDepth 100000 in
theorem none_halt (m : MV) (cs : Array Value) (pa : Int) (na : Nat) (w : World) (hbox : MBox w.heap.size m cs (w.alloc (.cells cs 31))) (ht : Tab w)
    (hna : pa % 2000 = na) (ha : na < 2000) (hc : m.check = 0) (he : (runF m na).2.2 ≠ 15) : Calls Tryd.prog 10 #[.agg cs, .int .i64 pa] w fun e w' => e = .returned (.bool true) ∧ Below w.heap.size w w' := by
  have h8 := hbox.h8
  obtain ⟨law1, law2⟩ := none_law h8 ha
  obtain ⟨r1, r3⟩ := law2 hc
  clear law1 law2
  obtain ⟨⟨X, n, er⟩, r2⟩ : ∃ r, runF m na = r := ⟨_, rfl⟩
  rw [r2] at he r3
  simp only at he r3
  have r4 := r3 he
  clear r3
  have b1 : (er == 15) = false := by simpa using he
  have b2 : (er != 15) = true := by simpa using he
  obtain ⟨w1, hw1⟩ : ∃ w1, w1 = w.alloc (.cells cs 31) := ⟨_, rfl⟩
  have h1w : Below w.heap.size w w1 := by rw [hw1]; exact ext_alloc (Below.refl _ _) _
  rw [← hw1] at hbox
  have sd := stepped_any w1 (ht.below h1w)
  have ra := fun W => rest_any pa 2000 W (by decide) (by decide)
  rw [hna] at ra
  have SD := Lib.hid sd
  have RA := Lib.hid ra
  have R1 := Lib.hid r1
  have MX := Lib.hid hbox
  have HW1 := Lib.hid hw1
  have H1W := Lib.hid h1w
  have HT := Lib.hid ht
  have HC := Lib.hid hc
  have R2 := Lib.hid r2
  have R4 := Lib.hid r4
  clear sd ra r1 hbox hw1 h1w ht h8 ha hna hc r2 r4 he
  go_enter Tryd.func10, Tryd.ntmps10
  go_upto_region 1 with (fail)
  rw [← HW1.out]
  go_upto_region 4 with (first
    | (go_at_call 14; ((with_reducible refine (SD.out).mono ?_); rintro e u1 ⟨rfl, hb⟩; have HB1 := Lib.hid hb; clear hb))
    | (refine wpList_load_sub rfl 31 (.tmp 2) rfl w.heap.size 0 64 rfl 31 _ _ (MX.out.below HB1.out).bk Tryd.underlying31 rfl (by kernel_rfl) MX.out.size _ MX.out.all ?_)
    | (go_at_call 23; ((with_reducible refine (run_box (MX.out.below HB1.out) (HT.out.below (ext_trans H1W.out HB1.out)) _ R1.out).mono ?_); rintro e u2 ⟨cs2, rfl, mx, hb⟩; have MX2 := Lib.hid mx; have HB2 := Lib.hid hb; clear hb mx))
    | (refine wpList_store_fresh rfl 31 (.tmp 5) (.tmp 19) rfl rfl cs2 31 _ rfl rfl (by rw [MX2.out.sz]; kernel_rfl) (by rw [MX2.out.sz]; kernel_rfl) MX2.out.one ?_))
  go_upto_region 6 with (first
    | (refine wpList_load_sub rfl 31 (.tmp 2) rfl w.heap.size 0 64 rfl 31 _ _ (MX.out.below (ext_alloc (ext_trans HB1.out HB2.out) _)).bk Tryd.underlying31 rfl (by kernel_rfl) MX.out.size _ MX.out.all ?_)
    | (go_at_call 21; ((with_reducible refine (check_is (MX.out.below (ext_alloc (ext_trans HB1.out HB2.out) _)) HC.out).mono ?_); rintro e u3 ⟨rfl, hb⟩; have HB3 := Lib.hid hb; clear hb)))
  go_upto_region 8 with (first
    | (refine wpList_load_sub_w rfl 31 (.tmp 5) rfl u2.heap.size 0 64 rfl 31 _ _ (MX2.out.below HB3.out).bk Tryd.underlying31 rfl (by kernel_rfl) MX2.out.size _ MX2.out.all ?_)
    | (refine wpList_load_sub_w rfl 31 (.tmp 2) rfl w.heap.size 0 64 rfl 31 _ _ (MX.out.below (ext_trans (ext_alloc (ext_trans HB1.out HB2.out) _) HB3.out)).bk Tryd.underlying31 rfl (by kernel_rfl) MX.out.size _ MX.out.all ?_)
    | (go_at_call 15; ((with_reducible refine (meq_box (MX2.out.below HB3.out) (MX.out.below (ext_trans (ext_alloc (ext_trans HB1.out HB2.out) _) HB3.out))).mono ?_); rintro e u4 ⟨rfl, hb⟩; have HB4 := Lib.hid hb; clear hb)))
  go_cut [8, 9, 10] (fun s8 s9 s10 wx => ∃ (g8 : Nat) (cs8 : Array Value), s8 = .pointer (some ⟨g8, 0, none⟩) ∧ s9 = .int .i64 n ∧ s10 = .int .i64 er ∧ MBox g8 X cs8 wx ∧ Below u4.heap.size u4 wx)
  case first =>
    have hload : ∀ W1, Below u4.heap.size u4 W1 → Bk W1 w.heap.size 31 cs := fun W1 hb => bk_keep hb (MX.out.below (ext_trans (ext_trans (ext_alloc (ext_trans HB1.out HB2.out) _) HB3.out) HB4.out)).bk
    have htab : ∀ W1, Below u4.heap.size u4 W1 → Tab W1 := fun W1 hb => (HT.out.below (ext_trans H1W.out (ext_trans (ext_trans (ext_alloc (ext_trans HB1.out HB2.out) _) HB3.out) HB4.out))).below hb
    have hmb : ∀ W1, Below u4.heap.size u4 W1 → MBox w.heap.size m cs W1 := fun W1 hb => (MX.out.below (ext_trans (ext_trans (ext_alloc (ext_trans HB1.out HB2.out) _) HB3.out) HB4.out)).below hb
    have HL := Lib.hid hload
    have HTB := Lib.hid htab
    have HMB := Lib.hid hmb
    clear hload htab hmb
    refine wp_region_held_drew (S := fun W1 => Below u4.heap.size u4 W1) (by kernel_rfl) (ext_drew (Below.refl _ _)) (fun hHeld => ?_)
    refine wpAnyH_take (i := 0) (v := .agg cs) rfl (by kernel_rfl) (by kernel_rfl) (by kernel_rfl) (fun _ _ _ h => h) (Or.inl ⟨by rfl, ?hyT⟩) hHeld ?restT
    case hyT => (intro wS hSw; refine yields_load_sub 31 (.tmp 2) rfl w.heap.size 0 64 rfl 31 cs _ (HL.out _ hSw) Tryd.underlying31 rfl (by kernel_rfl) MX.out.size _ MX.out.all)
    case restT =>
      try simp only [Act.put, List.setIfInBounds_toArray, List.set_cons_zero, List.set_cons_succ]
      refine wpAnyH_take (i := 1) (v := ?_) rfl (by kernel_rfl) (by kernel_rfl) (by kernel_rfl) (fun _ _ _ h => h) (Or.inl ⟨by rfl, ?hyT⟩) hHeld ?restT
      case hyT => (intro wS hSw; go_simp; try with_reducible rfl)
      case restT =>
        try simp only [Act.put, List.setIfInBounds_toArray, List.set_cons_zero, List.set_cons_succ]
        refine wpAnyH_ready (rs := [2, 8]) (by kernel_rfl) (by simp) ?_
        refine AllReadyH.cons rfl (fun K hK => ?_) (AllReadyH.cons rfl (fun K hK => ?_) AllReadyH.nil)
        · go_simp
          go_wp2_with (go_at_call 19; ((with_reducible refine (RA.out _).mono ?_); rintro e w' ⟨rfl, rfl⟩))
          refine hK.out _ _ (ext_drew (Below.refl _ _)) (fun hHeld => ?_)
          clear hK K
          try simp only [Act.put, List.setIfInBounds_toArray, List.set_cons_zero, List.set_cons_succ]
          refine wpAnyH_ready (rs := [3, 8]) (by kernel_rfl) (by simp) ?_
          refine AllReadyH.cons rfl (fun K hK => ?_) (AllReadyH.cons rfl (fun K hK => ?_) AllReadyH.nil)
          · go_simp
            go_wp2_with (go_at_call 23; go_loud ((with_reducible refine (run_own (HMB.out _ (ext_drew (Below.refl _ _))) (HTB.out _ (ext_drew (Below.refl _ _))) _ R2.out).mono ?_); rintro e u5 ⟨cs5, rfl, mo, hb⟩; have MO := Lib.hid mo; have HB5 := Lib.hid hb; clear mo hb))
            refine hK.out _ _ (ext_trans (ext_drew (Below.refl _ _)) HB5.out) (fun hHeld => ?_)
            clear hK K
            try simp only [Act.put, List.setIfInBounds_toArray, List.set_cons_zero, List.set_cons_succ]
            refine wpAnyH_take (i := 4) (v := ?_) rfl (by kernel_rfl) (by kernel_rfl) (by kernel_rfl) (fun _ _ _ h => h) (Or.inl ⟨by rfl, ?hyT⟩) hHeld ?restT
            case hyT => (intro wS hSw; go_simp; try with_reducible rfl)
            case restT =>
              try simp only [Act.put, List.setIfInBounds_toArray, List.set_cons_zero, List.set_cons_succ]
              refine wpAnyH_take (i := 5) (v := ?_) rfl (by kernel_rfl) (by kernel_rfl) (by kernel_rfl) (fun _ _ _ h => h) (Or.inl ⟨by rfl, ?hyT⟩) hHeld ?restT
              case hyT => (intro wS hSw; go_simp; try with_reducible rfl)
              case restT =>
                try simp only [Act.put, List.setIfInBounds_toArray, List.set_cons_zero, List.set_cons_succ]
                refine wpAnyH_take (i := 6) (v := ?_) rfl (by kernel_rfl) (by kernel_rfl) (by kernel_rfl) (fun _ _ _ h => h) (Or.inl ⟨by rfl, ?hyT⟩) hHeld ?restT
                case hyT => (intro wS hSw; go_simp; try with_reducible rfl)
                case restT =>
                  try simp only [Act.put, List.setIfInBounds_toArray, List.set_cons_zero, List.set_cons_succ]
                  refine wpAnyH_take (i := 7) (v := ?_) rfl (by kernel_rfl) (by kernel_rfl) (by kernel_rfl) (fun _ _ _ h => h) (Or.inl ⟨by rfl, ?hyT⟩) hHeld ?restT
                  case hyT => (intro wS hSw; go_simp; try with_reducible rfl)
                  case restT =>
                    try simp only [Act.put, List.setIfInBounds_toArray, List.set_cons_zero, List.set_cons_succ]
                    refine wpAnyH_ready (rs := [8]) (by kernel_rfl) (by simp) ?_
                    refine AllReadyH.cons rfl (fun K hK => ?_) AllReadyH.nil
                    go_simp
                    refine hK.out _ _ (ext_alloc (ext_trans (ext_drew (Below.refl _ _)) HB5.out) _) (fun hHeld => ?_)
                    clear hK K
                    try simp only [Act.put, List.setIfInBounds_toArray, List.set_cons_zero, List.set_cons_succ]
                    refine wpAnyH_ready (rs := [9]) (by kernel_rfl) (by simp) ?_
                    refine AllReadyH.cons rfl (fun K hK => ?_) AllReadyH.nil
                    refine step_store_row rfl 31 (.tmp 8) (.tmp 50) rfl u5.heap.size cs5 rfl rfl 31 _ (bk_new _ _ _) (by rw [MO.out.sz]; kernel_rfl) (by rw [MO.out.sz]; kernel_rfl) MO.out.one ?_
                    refine hK.out _ _ ((ext_setRow (ext_alloc (ext_trans (ext_drew (Below.refl _ _)) HB5.out) _) (by have := HB5.out.size; exact this) _)) (fun hHeld => ?_)
                    clear hK K
                    try simp only [Act.put, List.setIfInBounds_toArray, List.set_cons_zero, List.set_cons_succ]
                    refine wpAnyH_ready (rs := [10]) (by kernel_rfl) (by simp) ?_
                    refine AllReadyH.cons rfl (fun K hK => ?_) AllReadyH.nil
                    go_simp
                    refine hK.out _ _ ((ext_setRow (ext_alloc (ext_trans (ext_drew (Below.refl _ _)) HB5.out) _) (by have := HB5.out.size; exact this) _)) (fun hHeld => ?_)
                    clear hK K
                    try simp only [Act.put, List.setIfInBounds_toArray, List.set_cons_zero, List.set_cons_succ]
                    refine wpAnyH_ready (rs := [11]) (by kernel_rfl) (by simp) ?_
                    refine AllReadyH.cons rfl (fun K hK => ?_) AllReadyH.nil
                    go_simp
                    refine hK.out _ _ ((ext_setRow (ext_alloc (ext_trans (ext_drew (Below.refl _ _)) HB5.out) _) (by have := HB5.out.size; exact this) _)) (fun hHeld => ?_)
                    clear hK K
                    try simp only [Act.put, List.setIfInBounds_toArray, List.set_cons_zero, List.set_cons_succ]
                    refine wpAnyH_done (by kernel_rfl) ?_ _
                    go_wp2_with fail
                    go_meet
                    exact ⟨u5.heap.size, cs5, rfl, rfl, rfl, (MO.out.below (ext_alloc (Below.refl _ _) _)).setRow (bk_new _ _ _), (ext_setRow (ext_alloc (ext_trans (ext_drew (Below.refl _ _)) HB5.out) _) (by have := HB5.out.size; exact this) _)⟩
          · go_simp
            refine hK.out _ _ (ext_drew (ext_alloc (Below.refl _ _) _)) (fun hHeld => ?_)
            clear hK K
            try simp only [Act.put, List.setIfInBounds_toArray, List.set_cons_zero, List.set_cons_succ]
            refine wpAnyH_ready (rs := [3]) (by kernel_rfl) (by simp) ?_
            refine AllReadyH.cons rfl (fun K hK => ?_) AllReadyH.nil
            go_simp
            go_wp2_with (go_at_call 23; go_loud ((with_reducible refine (run_own (HMB.out _ (ext_drew (ext_alloc (Below.refl _ _) _))) (HTB.out _ (ext_drew (ext_alloc (Below.refl _ _) _))) _ R2.out).mono ?_); rintro e u5 ⟨cs5, rfl, mo, hb⟩; have MO := Lib.hid mo; have HB5 := Lib.hid hb; clear mo hb))
            refine hK.out _ _ (ext_trans (ext_drew (ext_alloc (Below.refl _ _) _)) HB5.out) (fun hHeld => ?_)
            clear hK K
            try simp only [Act.put, List.setIfInBounds_toArray, List.set_cons_zero, List.set_cons_succ]
            refine wpAnyH_take (i := 4) (v := ?_) rfl (by kernel_rfl) (by kernel_rfl) (by kernel_rfl) (fun _ _ _ h => h) (Or.inl ⟨by rfl, ?hyT⟩) hHeld ?restT
            case hyT => (intro wS hSw; go_simp; try with_reducible rfl)
            case restT =>
              try simp only [Act.put, List.setIfInBounds_toArray, List.set_cons_zero, List.set_cons_succ]
              refine wpAnyH_take (i := 5) (v := ?_) rfl (by kernel_rfl) (by kernel_rfl) (by kernel_rfl) (fun _ _ _ h => h) (Or.inl ⟨by rfl, ?hyT⟩) hHeld ?restT
              case hyT => (intro wS hSw; go_simp; try with_reducible rfl)
              case restT =>
                try simp only [Act.put, List.setIfInBounds_toArray, List.set_cons_zero, List.set_cons_succ]
                refine wpAnyH_take (i := 6) (v := ?_) rfl (by kernel_rfl) (by kernel_rfl) (by kernel_rfl) (fun _ _ _ h => h) (Or.inl ⟨by rfl, ?hyT⟩) hHeld ?restT
                case hyT => (intro wS hSw; go_simp; try with_reducible rfl)
                case restT =>
                  try simp only [Act.put, List.setIfInBounds_toArray, List.set_cons_zero, List.set_cons_succ]
                  refine wpAnyH_take (i := 7) (v := ?_) rfl (by kernel_rfl) (by kernel_rfl) (by kernel_rfl) (fun _ _ _ h => h) (Or.inl ⟨by rfl, ?hyT⟩) hHeld ?restT
                  case hyT => (intro wS hSw; go_simp; try with_reducible rfl)
                  case restT =>
                    try simp only [Act.put, List.setIfInBounds_toArray, List.set_cons_zero, List.set_cons_succ]
                    refine wpAnyH_ready (rs := [9]) (by kernel_rfl) (by simp) ?_
                    refine AllReadyH.cons rfl (fun K hK => ?_) AllReadyH.nil
                    have kz := bk_keep HB5.out (show Bk (World.drew (World.alloc u4 _)) u4.heap.size 31 _ from bk_new u4 _ _)
                    refine step_store_row rfl 31 (.tmp 8) (.tmp 50) rfl u4.heap.size cs5 rfl rfl 31 _ kz (by rw [MO.out.sz]; kernel_rfl) (by rw [MO.out.sz]; kernel_rfl) MO.out.one ?_
                    refine hK.out _ _ ((ext_setRow (ext_trans (ext_drew (ext_alloc (Below.refl _ _) _)) HB5.out) (Nat.le_refl _) _)) (fun hHeld => ?_)
                    clear hK K
                    try simp only [Act.put, List.setIfInBounds_toArray, List.set_cons_zero, List.set_cons_succ]
                    refine wpAnyH_ready (rs := [10]) (by kernel_rfl) (by simp) ?_
                    refine AllReadyH.cons rfl (fun K hK => ?_) AllReadyH.nil
                    go_simp
                    refine hK.out _ _ ((ext_setRow (ext_trans (ext_drew (ext_alloc (Below.refl _ _) _)) HB5.out) (Nat.le_refl _) _)) (fun hHeld => ?_)
                    clear hK K
                    try simp only [Act.put, List.setIfInBounds_toArray, List.set_cons_zero, List.set_cons_succ]
                    refine wpAnyH_ready (rs := [11]) (by kernel_rfl) (by simp) ?_
                    refine AllReadyH.cons rfl (fun K hK => ?_) AllReadyH.nil
                    go_simp
                    refine hK.out _ _ ((ext_setRow (ext_trans (ext_drew (ext_alloc (Below.refl _ _) _)) HB5.out) (Nat.le_refl _) _)) (fun hHeld => ?_)
                    clear hK K
                    try simp only [Act.put, List.setIfInBounds_toArray, List.set_cons_zero, List.set_cons_succ]
                    refine wpAnyH_done (by kernel_rfl) ?_ _
                    go_wp2_with fail
                    go_meet
                    exact ⟨u4.heap.size, cs5, rfl, rfl, rfl, MO.out.setRow kz, (ext_setRow (ext_trans (ext_drew (ext_alloc (Below.refl _ _) _)) HB5.out) (Nat.le_refl _) _)⟩
        · go_simp
          refine hK.out _ _ (ext_drew (ext_alloc (Below.refl _ _) _)) (fun hHeld => ?_)
          clear hK K
          try simp only [Act.put, List.setIfInBounds_toArray, List.set_cons_zero, List.set_cons_succ]
          refine wpAnyH_ready (rs := [2]) (by kernel_rfl) (by simp) ?_
          refine AllReadyH.cons rfl (fun K hK => ?_) AllReadyH.nil
          go_simp
          go_wp2_with (go_at_call 19; ((with_reducible refine (RA.out _).mono ?_); rintro e w' ⟨rfl, rfl⟩))
          refine hK.out _ _ (ext_drew (ext_alloc (Below.refl _ _) _)) (fun hHeld => ?_)
          clear hK K
          try simp only [Act.put, List.setIfInBounds_toArray, List.set_cons_zero, List.set_cons_succ]
          refine wpAnyH_ready (rs := [3]) (by kernel_rfl) (by simp) ?_
          refine AllReadyH.cons rfl (fun K hK => ?_) AllReadyH.nil
          go_simp
          go_wp2_with (go_at_call 23; go_loud ((with_reducible refine (run_own (HMB.out _ (ext_drew (ext_alloc (Below.refl _ _) _))) (HTB.out _ (ext_drew (ext_alloc (Below.refl _ _) _))) _ R2.out).mono ?_); rintro e u5 ⟨cs5, rfl, mo, hb⟩; have MO := Lib.hid mo; have HB5 := Lib.hid hb; clear mo hb))
          refine hK.out _ _ (ext_trans (ext_drew (ext_alloc (Below.refl _ _) _)) HB5.out) (fun hHeld => ?_)
          clear hK K
          try simp only [Act.put, List.setIfInBounds_toArray, List.set_cons_zero, List.set_cons_succ]
          refine wpAnyH_take (i := 4) (v := ?_) rfl (by kernel_rfl) (by kernel_rfl) (by kernel_rfl) (fun _ _ _ h => h) (Or.inl ⟨by rfl, ?hyT⟩) hHeld ?restT
          case hyT => (intro wS hSw; go_simp; try with_reducible rfl)
          case restT =>
            try simp only [Act.put, List.setIfInBounds_toArray, List.set_cons_zero, List.set_cons_succ]
            refine wpAnyH_take (i := 5) (v := ?_) rfl (by kernel_rfl) (by kernel_rfl) (by kernel_rfl) (fun _ _ _ h => h) (Or.inl ⟨by rfl, ?hyT⟩) hHeld ?restT
            case hyT => (intro wS hSw; go_simp; try with_reducible rfl)
            case restT =>
              try simp only [Act.put, List.setIfInBounds_toArray, List.set_cons_zero, List.set_cons_succ]
              refine wpAnyH_take (i := 6) (v := ?_) rfl (by kernel_rfl) (by kernel_rfl) (by kernel_rfl) (fun _ _ _ h => h) (Or.inl ⟨by rfl, ?hyT⟩) hHeld ?restT
              case hyT => (intro wS hSw; go_simp; try with_reducible rfl)
              case restT =>
                try simp only [Act.put, List.setIfInBounds_toArray, List.set_cons_zero, List.set_cons_succ]
                refine wpAnyH_take (i := 7) (v := ?_) rfl (by kernel_rfl) (by kernel_rfl) (by kernel_rfl) (fun _ _ _ h => h) (Or.inl ⟨by rfl, ?hyT⟩) hHeld ?restT
                case hyT => (intro wS hSw; go_simp; try with_reducible rfl)
                case restT =>
                  try simp only [Act.put, List.setIfInBounds_toArray, List.set_cons_zero, List.set_cons_succ]
                  refine wpAnyH_ready (rs := [9]) (by kernel_rfl) (by simp) ?_
                  refine AllReadyH.cons rfl (fun K hK => ?_) AllReadyH.nil
                  have kz := bk_keep HB5.out (show Bk (World.drew (World.alloc u4 _)) u4.heap.size 31 _ from bk_new u4 _ _)
                  refine step_store_row rfl 31 (.tmp 8) (.tmp 50) rfl u4.heap.size cs5 rfl rfl 31 _ kz (by rw [MO.out.sz]; kernel_rfl) (by rw [MO.out.sz]; kernel_rfl) MO.out.one ?_
                  refine hK.out _ _ ((ext_setRow (ext_trans (ext_drew (ext_alloc (Below.refl _ _) _)) HB5.out) (Nat.le_refl _) _)) (fun hHeld => ?_)
                  clear hK K
                  try simp only [Act.put, List.setIfInBounds_toArray, List.set_cons_zero, List.set_cons_succ]
                  refine wpAnyH_ready (rs := [10]) (by kernel_rfl) (by simp) ?_
                  refine AllReadyH.cons rfl (fun K hK => ?_) AllReadyH.nil
                  go_simp
                  refine hK.out _ _ ((ext_setRow (ext_trans (ext_drew (ext_alloc (Below.refl _ _) _)) HB5.out) (Nat.le_refl _) _)) (fun hHeld => ?_)
                  clear hK K
                  try simp only [Act.put, List.setIfInBounds_toArray, List.set_cons_zero, List.set_cons_succ]
                  refine wpAnyH_ready (rs := [11]) (by kernel_rfl) (by simp) ?_
                  refine AllReadyH.cons rfl (fun K hK => ?_) AllReadyH.nil
                  go_simp
                  refine hK.out _ _ ((ext_setRow (ext_trans (ext_drew (ext_alloc (Below.refl _ _) _)) HB5.out) (Nat.le_refl _) _)) (fun hHeld => ?_)
                  clear hK K
                  try simp only [Act.put, List.setIfInBounds_toArray, List.set_cons_zero, List.set_cons_succ]
                  refine wpAnyH_done (by kernel_rfl) ?_ _
                  go_wp2_with fail
                  go_meet
                  exact ⟨u4.heap.size, cs5, rfl, rfl, rfl, MO.out.setRow kz, (ext_setRow (ext_trans (ext_drew (ext_alloc (Below.refl _ _) _)) HB5.out) (Nat.le_refl _) _)⟩
  case rest =>
    obtain ⟨g8, cs8, rfl, rfl, rfl, mx8, hb8⟩ := hcut
    have MX8 := Lib.hid mx8
    have HB8 := Lib.hid hb8
    clear mx8 hb8
    go_upto_region 12 with (first
      | (refine wpList_load_sub rfl 31 (.tmp 8) rfl g8 0 64 rfl 31 _ _ MX8.out.bk Tryd.underlying31 rfl (by kernel_rfl) MX8.out.size _ MX8.out.all ?_)
      | (go_at_call 23; ((with_reducible refine (run_box MX8.out (HT.out.below (ext_trans H1W.out (ext_trans (ext_trans (ext_trans (ext_alloc (ext_trans HB1.out HB2.out) _) HB3.out) HB4.out) HB8.out))) _ R4.out).mono ?_); rintro e u9 ⟨cs9, rfl, mx, hb⟩; have MX9 := Lib.hid mx; have HB9 := Lib.hid hb; clear hb mx))
      | (refine wpList_store_fresh rfl 31 (.tmp 11) (.tmp 58) rfl rfl cs9 31 _ rfl rfl (by rw [MX9.out.sz]; kernel_rfl) (by rw [MX9.out.sz]; kernel_rfl) MX9.out.one ?_))
    go_wp2_with (first
      | (refine wpList_load_sub_w rfl 31 (.tmp 8) rfl g8 0 64 rfl 31 _ _ (MX8.out.below (ext_alloc HB9.out _)).bk Tryd.underlying31 rfl (by kernel_rfl) MX8.out.size _ MX8.out.all ?_)
      | (refine wpList_load_sub_w rfl 31 (.tmp 11) rfl u9.heap.size 0 64 rfl 31 _ _ MX9.out.bk Tryd.underlying31 rfl (by kernel_rfl) MX9.out.size _ MX9.out.all ?_)
      | (go_at_call 15; ((with_reducible refine (meq_box (MX8.out.below (ext_alloc HB9.out _)) MX9.out).mono ?_); rintro e uA ⟨rfl, hb⟩; have HBA := Lib.hid hb; clear hb)))
    go_ret
    exact ⟨rfl, ext_trans H1W.out (ext_trans (ext_alloc (ext_trans (ext_trans (ext_trans (ext_trans (ext_alloc (ext_trans HB1.out HB2.out) _) HB3.out) HB4.out) HB8.out) HB9.out) _) HBA.out)⟩
theorem runNone_walk (x : MachA) (a : Int) {w : World} (hx : x.ok w) (ha : I64 a) (ht : Tab w) : Calls Tryd.prog 10 #[x.val, .int .i64 a] w fun e w' => e = .returned (.bool true) ∧ Below w.heap.size w w' := by
  obtain ⟨na, hna⟩ := Int.eq_ofNat_of_zero_le (Int.emod_nonneg a (show (2000 : Int) ≠ 0 by decide))
  have l1 := Int.emod_lt_of_pos a (show (0 : Int) < 2000 by decide)
  by_cases hc : x.mv.check = 0
  · by_cases he : (runF x.mv na).2.2 = 15
    · exact none_fuel x.mv _ a na w (mbox_arg hx) ht hna (by omega) hc he
    · exact none_halt x.mv _ a na w (mbox_arg hx) ht hna (by omega) hc he
  · exact none_bad x.mv _ a na w (mbox_arg hx) ht hna (by omega) hc
end Go.Proofs.YtopdnihokbhjfaaDoor
