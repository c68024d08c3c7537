import Derived.Test.YtmffdgeebhpacaaDoorSweepBoxZ
import Derived.Test.YtmffdgeebhpacaaDoorWithinZ
/- SweepAll. -/
namespace Go.Proofs.YtmffdgeebhpacaaDoor
open Go.RowKit
set_option linter.unusedVariables false
set_option linter.unusedSimpArgs false
theorem swept_len {k : KeyV} (h : hitsB 0 400 k = false) (ho : k.Ok) : k.len = 0 := by
  have h1 := ho.b0
  have h2 := ho.l0
  have h3 := ho.l1
  unfold hitsB at h
  have := of_decide_eq_false h
  omega
theorem swept_run {m : MV} (hk : m.Ok) : ((m.swept 0 400).run 5).1 = m.swept 0 400 ∧ ((m.swept 0 400).run 5).2.1 = 0 ∧ ((m.swept 0 400).run 5).2.2 ≠ 0 := by
  have hne : (m.swept 0 400).err ≠ 0 := fun h => by
    obtain ⟨n, hn⟩ := err_zero.1 h
    obtain ⟨i, hf, _⟩ := one_cases hn
    have hf' := fetch_cases hf
    have hl : (m.swept 0 400).c.len = 0 := swept_len (swK_hits 0 400 m.c) hf'.2.1
    have h1 := hf'.2.2.2.2.1
    have h2 := hf'.2.2.2.2.2.1
    omega
  have h := (run_stop (f := 4) hne).1
  exact ⟨by rw [show (5 : Nat) = 4 + 1 from rfl, h], by rw [show (5 : Nat) = 4 + 1 from rfl, h], by rw [show (5 : Nat) = 4 + 1 from rfl, h]; exact hne⟩
set_option maxHeartbeats 8000000 in
set_option maxRecDepth 100000 in
theorem all_err (m : MV) (cs : Array Value)  (w : World) (hbox : MBox w.heap.size m cs (w.alloc (.cells cs 31))) (ht : Tab w)
     (he : (sweepF m 0 400).2.2 ≠ 0) : Calls Tryd.prog 12 #[.agg cs] w fun e w' => e = .returned (.bool true) ∧ Below w.heap.size w w' := by
  have h8 := hbox.h8
  obtain ⟨⟨X, cnt, er⟩, s1⟩ : ∃ x, sweepF m 0 400 = x := ⟨_, rfl⟩
  rw [s1] at he
  simp only at he
  have g1 : (er == 0) = false := by simpa using he
  have g2 : (er != 0) = true := by simpa using he
  obtain ⟨w1, hw1⟩ : ∃ w1, w1 = w.alloc (.cells cs 31) := ⟨_, rfl⟩
  have h1w : Below w.heap.size w w1 := by rw [hw1]; exact ext_alloc (Below.refl _ _) _
  rw [← hw1] at hbox
  have S1 := Lib.hid s1
  have MX := Lib.hid hbox
  have HW1 := Lib.hid hw1
  have H1W := Lib.hid h1w
  have HT := Lib.hid ht
  clear s1 hbox hw1 h1w ht h8 he
  go_enter Tryd.func12, Tryd.ntmps12
  go_upto_region 1 with (fail)
  rw [← HW1.out]
  go_wp2_with (first
    | (refine wpList_load_sub rfl 31 (.tmp 1) rfl w.heap.size 0 64 rfl 31 _ _ MX.out.bk Tryd.underlying31 rfl (by kernel_rfl) MX.out.size _ MX.out.all ?_)
    | (go_at_call 23; ((with_reducible refine (sweep_own MX.out (by unfold I64; omega) (by unfold I64; omega) S1.out).mono ?_); rintro e u1 ⟨cs1, rfl, mo, hb⟩; have MX1 := Lib.hid mo.alloc; have HB1 := Lib.hid hb; clear hb mo))
    | (refine wpList_store_fresh rfl 31 (.tmp 3) (.tmp 16) rfl rfl cs1 31 _ rfl rfl (by rw [MX1.out.sz]; kernel_rfl) (by rw [MX1.out.sz]; kernel_rfl) MX1.out.one ?_)
    | (go_at_call 24; ((with_reducible refine (swept_any _).mono ?_); rintro e u2 ⟨rfl, hb⟩; have HB2 := Lib.hid hb; clear hb)))
  go_ret
  exact ⟨rfl, ext_trans H1W.out (ext_trans (ext_alloc HB1.out _) HB2.out)⟩
set_option maxHeartbeats 8000000 in
set_option maxRecDepth 100000 in
theorem all_good (m : MV) (cs : Array Value)  (w : World) (hbox : MBox w.heap.size m cs (w.alloc (.cells cs 31))) (ht : Tab w)
     (he : (sweepF m 0 400).2.2 = 0) : Calls Tryd.prog 12 #[.agg cs] w fun e w' => e = .returned (.bool true) ∧ Below w.heap.size w w' := by
  have h8 := hbox.h8
  obtain ⟨hk, _, hsw⟩ := sweepF_ok h8 he
  have hXk := swept_okM hk 0 400
  have hno : ∀ k, allK (m.swept 0 400) k → k.Ok → k.len = 0 := fun k hk ho => swept_len (allK_swept hk) ho
  have hru := swept_run hk
  obtain ⟨⟨X, cnt, er⟩, s1⟩ : ∃ x, sweepF m 0 400 = x := ⟨_, rfl⟩
  rw [s1] at he hsw
  simp only at he hsw
  subst he
  rw [← hsw] at hXk hno hru
  have r1 := runF_good (m := X) (f := 5) (by decide) (check_of_ok hXk)
  rw [hru.1, hru.2.1] at r1
  have he2 := hru.2.2
  generalize (X.run 5).2.2 = ex at r1 he2
  have r1 : runF X (5 : Int) = (X, 0, ex) := r1
  have g1 : (ex == 0) = false := by simpa using he2
  have g2 : (ex != 0) = true := by simpa using he2
  clear hru hsw hk he2
  obtain ⟨w1, hw1⟩ : ∃ w1, w1 = w.alloc (.cells cs 31) := ⟨_, rfl⟩
  have h1w : Below w.heap.size w w1 := by rw [hw1]; exact ext_alloc (Below.refl _ _) _
  rw [← hw1] at hbox
  have S1 := Lib.hid s1
  have MX := Lib.hid hbox
  have HW1 := Lib.hid hw1
  have H1W := Lib.hid h1w
  have HT := Lib.hid ht
  have HXK := Lib.hid hXk
  have HNO := Lib.hid hno
  have R1 := Lib.hid r1
  clear s1 hbox hw1 h1w ht h8 hXk hno r1
  go_enter Tryd.func12, Tryd.ntmps12
  go_upto_region 1 with (fail)
  rw [← HW1.out]
  go_upto_region 6 with (first
    | (refine wpList_load_sub rfl 31 (.tmp 1) rfl w.heap.size 0 64 rfl 31 _ _ MX.out.bk Tryd.underlying31 rfl (by kernel_rfl) MX.out.size _ MX.out.all ?_)
    | (go_at_call 23; ((with_reducible refine (sweep_own MX.out (by unfold I64; omega) (by unfold I64; omega) S1.out).mono ?_); rintro e u1 ⟨cs1, rfl, mo, hb⟩; have MX1 := Lib.hid mo.alloc; have HB1 := Lib.hid hb; clear hb mo))
    | (refine wpList_store_fresh rfl 31 (.tmp 3) (.tmp 16) rfl rfl cs1 31 _ rfl rfl (by rw [MX1.out.sz]; kernel_rfl) (by rw [MX1.out.sz]; kernel_rfl) MX1.out.one ?_)
    | (go_at_call 24; ((with_reducible refine (swept_any _).mono ?_); rintro e u2 ⟨rfl, hb⟩; have HB2 := Lib.hid hb; clear hb)))
  go_upto_region 9 with (first
    | (refine wpList_load_sub rfl 31 (.tmp 3) rfl u1.heap.size 0 64 rfl 31 _ _ (MX1.out.below HB2.out).bk Tryd.underlying31 rfl (by kernel_rfl) MX1.out.size _ MX1.out.all ?_)
    | (go_at_call 38; ((with_reducible refine (keys_box (MX1.out.below HB2.out) HXK.out).mono ?_); rintro e u3 ⟨o3, c3, ts, rfl, ls, li, lk, ⟨lp, ll⟩, hb⟩; have LS := Lib.hid ls; have HB3 := Lib.hid hb; have hz : ∀ k ∈ ts, k.len = 0 := (fun k hk => HNO.out k ((li k).1 hk) (lk k hk)); have HZ := Lib.hid hz; clear hb ls li lk lp hz)))
  obtain ⟨nt, hnt⟩ : ∃ nt, ts.length = nt := ⟨_, rfl⟩
  have hls := LS.out
  rw [hnt] at hls ll ⊢
  clear LS
  have LS := Lib.hid hls
  have bx3 := Lib.hid (MX1.out.below (ext_trans HB2.out HB3.out))
  have FIN := Lib.hid (ext_trans H1W.out (ext_trans (ext_trans (ext_alloc HB1.out _) HB2.out) HB3.out))
  clear hls MX1 HB1 HB2 HB3
  go_wp2
  go_loopw [32] (fun i wr => ∃ j : Nat, j ≤ nt ∧ i = .int .i64 j ∧ Below u3.heap.size u3 wr) (fun i _ => nt - (intOf i).toNat)
  case atStart => exact ⟨0, Nat.zero_le _, rfl, Below.refl _ _⟩
  case round =>
    obtain ⟨j, hj, rfl, hb⟩ := hrel
    by_cases hlt : j < nt
    · have q0 : (0 : Int) ≤ j := by omega
      have q1 : (j : Int) < nt := by omega
      obtain ⟨k, hgk⟩ : ∃ k, ts[j]? = some k := ⟨_, List.getElem?_eq_getElem (by omega)⟩
      obtain ⟨ad, rfl, bx, e0, e1, e2, e3, e4⟩ := sl_keyS (LS.out.below hb) hlt hgk
      rw [HZ.out k (List.mem_of_getElem? hgk)] at e2
      have HB := Lib.hid hb
      clear hb hgk
      go_wp2
      go_roundw
      case rel => exact ⟨j + 1, by omega, by go_num, ext_alloc HB.out _⟩
      case measure => simp [intOf]; omega
    · have q1 : ¬ ((j : Int) < nt) := by omega
      have HBL := Lib.hid hb
      have BX4 := Lib.hid (bx3.out.below hb)
      have TB4 := Lib.hid (HT.out.below (ext_trans FIN.out hb))
      clear hb
      go_wp2_with (first
        | (refine wpList_load_sub rfl 31 (.tmp 3) rfl u1.heap.size 0 64 rfl 31 _ _ BX4.out.bk Tryd.underlying31 rfl (by kernel_rfl) BX4.out.size _ BX4.out.all ?_)
        | (go_at_call 15; ((with_reducible refine (run_box BX4.out TB4.out _ R1.out).mono ?_); rintro e u5 ⟨cs5, rfl, mx, hb⟩; have MX5 := Lib.hid mx; have HB5 := Lib.hid hb; clear hb mx))
        | (refine wpList_store_fresh rfl 31 (.tmp 10) (.tmp 43) rfl rfl cs5 31 _ rfl rfl (by rw [MX5.out.sz]; kernel_rfl) (by rw [MX5.out.sz]; kernel_rfl) MX5.out.one ?_))
      go_ret
      exact ⟨rfl, ext_alloc (ext_trans (ext_trans FIN.out HBL.out) HB5.out) _⟩
theorem sweepAll_walk (x : MachA) {w : World} (hx : x.ok w) (ht : Tab w) : Calls Tryd.prog 12 #[x.val] w fun e w' => e = .returned (.bool true) ∧ Below w.heap.size w w' := by
  by_cases he : (sweepF x.mv 0 400).2.2 = 0
  · exact all_good x.mv _ w (mbox_arg hx) ht he
  · exact all_err x.mv _ w (mbox_arg hx) ht he
end Go.Proofs.YtmffdgeebhpacaaDoor
