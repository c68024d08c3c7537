import Derived.Test.YtcdcmbehnccicaaReachNilZ
/- ReachGrows. -/
namespace Go.Proofs.Ytcdcmbehnccicaa
open El (cl)
open Go.RowKit
set_option linter.unusedVariables false
set_option linter.unusedSimpArgs false
theorem firstErr_set {v : ValV} (hv : valCheck v ≠ 0) : ∀ {l : List ValV} {r : Nat}, (∀ u ∈ l, u.Ok) → r < l.length → firstErr (l.set r v) = valCheck v
  | [], r, _, h => absurd h (by simp)
  | u :: l, 0, _, _ => by rw [List.set_cons_zero, firstErr, if_neg hv]
  | u :: l, r + 1, hu, h => by
    rw [List.set_cons_succ, firstErr, if_pos ((valCheck_zero u).2 (hu u (by simp)))]
    exact firstErr_set hv (fun x hx => hu x (by simp [hx])) (by simpa using h)
theorem grow_check {R : List ValV} {c : KeyV} {mem : List ValV} {stk : List FrameV} {out : List Int} {r : Nat} (hr : r < R.length) (h : stepCheck (R.set r zeroV) c mem stk out = 0) (k : KeyV) : stepCheck (R.set r ⟨true, 0, k⟩) c mem stk out = if okB k then 0 else 1 := by
  have hok := stepCheck_zero.1 h
  have e : R.set r ⟨true, 0, k⟩ = (R.set r zeroV).set r ⟨true, 0, k⟩ := by rw [List.set_set]
  by_cases hk : okB k = true
  · rw [if_pos hk]
    refine stepCheck_zero.2 ⟨fun v hv => ?_, hok.code, hok.len, hok.mem, hok.deep, hok.stk, hok.told, hok.out⟩
    rw [e] at hv
    rcases List.mem_or_eq_of_mem_set hv with hv | rfl
    · exact hok.regs v hv
    · exact .inl ⟨rfl, (okB_iff k).1 hk, rfl⟩
  · rw [if_neg hk]
    have h1 : valCheck ⟨true, 0, k⟩ = 1 := by unfold valCheck; simp [hk]
    have h2 : firstErr (R.set r ⟨true, 0, k⟩) = 1 := by
      rw [e, firstErr_set (by rw [h1]; decide) hok.regs (by rw [List.length_set]; exact hr), h1]
    unfold stepCheck
    rw [h2, if_pos (by decide)]
theorem grow_roots {d : Bool} {R : List ValV} {c : KeyV} {stk : List FrameV} {r : Nat} {k y : KeyV} (h : rootsP d (R.set r zeroV) c stk y) : rootsP d (R.set r ⟨true, 0, k⟩) c stk y := by
  rcases h with h | ⟨v, hv, hi, e⟩ | h
  · exact .inl h
  · refine .inr (.inl ⟨v, ?_, hi, e⟩)
    obtain ⟨j, hj⟩ := List.mem_iff_getElem?.1 hv
    by_cases hjr : r = j
    · subst hjr
      have hl := (List.getElem?_eq_some_iff.1 hj).1
      rw [List.length_set] at hl
      rw [List.getElem?_set_self hl] at hj
      injection hj with hj
      rw [← hj] at hi
      cases hi
    · rw [List.getElem?_set_ne hjr] at hj
      refine List.mem_iff_getElem?.2 ⟨j, ?_⟩
      rw [List.getElem?_set_ne hjr]
      exact hj
  · exact .inr (.inr h)
theorem grow_has {d : Bool} {R : List ValV} {c : KeyV} {stk : List FrameV} {r : Nat} {k : KeyV} (hr : r < R.length) : rootsP d (R.set r ⟨true, 0, k⟩) c stk k :=
  .inr (.inl ⟨⟨true, 0, k⟩, List.mem_iff_getElem?.2 ⟨r, List.getElem?_set_self hr⟩, rfl, rfl⟩)
theorem rch_sub {d : Bool} {mem : List ValV} {P Q : KeyV → Prop} {x : KeyV} (h : Rch d mem P x) (hp : ∀ k, P k → Q k) : Rch d mem Q x := h.mono fun k hk => .root (hp k hk)
set_option maxHeartbeats 8000000 in
set_option maxRecDepth 100000 in
theorem grows_at (x : MachA) (pr : Int) (r : Nat) (k : KeyV) (d : Bool) {w : World} (hx : x.ok w) (hpr : pr % 8 = r) (hr : r < 8) : Calls Try.prog 4 #[x.val, .int .i64 pr, .agg #[.int .i64 k.perm, .int .i64 k.base, .int .i64 k.len, .int .i64 k.at_, .int .i64 k.seal_], .bool d] w fun e w' => e = .returned (.bool true) ∧ Below w.heap.size w w' := by
  have h8 := hx.h8
  have h81 : (x.R.set r zeroV).length = 8 := by rw [List.length_set]; exact h8
  have h82 : (x.R.set r (⟨true, 0, k⟩ : ValV)).length = 8 := by rw [List.length_set]; exact h8
  obtain ⟨c1, hc1⟩ : ∃ c1, stepCheck (x.R.set r zeroV) x.c x.mem x.stk x.out = c1 := ⟨_, rfl⟩
  obtain ⟨c2, hc2⟩ : ∃ c2, stepCheck (x.R.set r ⟨true, 0, k⟩) x.c x.mem x.stk x.out = c2 := ⟨_, rfl⟩
  have hck : c1 = 0 → c2 = 0 ∨ c2 = 1 := fun h => by
    rw [← hc2, grow_check (by omega) (by rw [hc1]; exact h) k]
    split
    · exact .inl rfl
    · exact .inr rfl
  have hbx := fun W R (h : R.length = 8) (hb : Below w.heap.size w W) (hk : Bk W w.heap.size 31 (x.csF R x.c)) => csF_box (c := x.c) hx hb h hk
  have hrg := fun W R (h : R.length = 8) (hk : Bk W w.heap.size 31 (x.csF R x.c)) (v : ValV) => csF_reg (w := w) (c := x.c) h hr hk v
  have hcl := fun W R (h : R.length = 8) (hk : Bk W w.heap.size 31 (x.csF R x.c)) => csF_cells (w := w) (c := x.c) h hr hk
  have hv : x.val = .agg (x.csF x.R x.c) := rfl
  rw [hv]
  have hss : (x.R.set r zeroV).set r (⟨true, 0, k⟩ : ValV) = x.R.set r ⟨true, 0, k⟩ := by rw [List.set_set]
  have hin1 : ∀ y, Rch d x.mem (rootsP d (x.R.set r zeroV) x.c x.stk) y → Rch d x.mem (rootsP d (x.R.set r ⟨true, 0, k⟩) x.c x.stk) y := fun y h => rch_sub h fun _ => grow_roots
  have hin2 : Rch d x.mem (rootsP d (x.R.set r ⟨true, 0, k⟩) x.c x.stk) k := .root (grow_has (by omega))
  clear hv
  obtain ⟨kp, kb, kl, ka, ks⟩ := k
  simp only
  obtain ⟨csr, hcs⟩ : ∃ csr, csr = x.csF := ⟨_, rfl⟩
  rw [← hcs] at hbx hrg hcl ⊢
  clear hcs
  obtain ⟨w1, hw1⟩ : ∃ w1, w1 = (w.alloc (.cells (csr x.R x.c) 31)).alloc (.cells #[.int .i64 kp, .int .i64 kb, .int .i64 kl, .int .i64 ka, .int .i64 ks] 23) := ⟨_, rfl⟩
  have k01 : Bk w1 w.heap.size 31 (csr x.R x.c) := by rw [hw1]; exact bk_old _ (bk_new _ _ _)
  have kk1 : Bk w1 (w.heap.size + 1) 23 #[.int .i64 kp, .int .i64 kb, .int .i64 kl, .int .i64 ka, .int .i64 ks] := by rw [hw1]; exact bk_new' _ _ (by simp)
  have h1w : Below w.heap.size w w1 := by rw [hw1]; exact ext_alloc (ext_alloc (Below.refl _ _) _) _
  have ra := fun W => rest_any pr 8 W (by decide) (by decide)
  rw [hpr] at ra
  have hkz := keys_zero d w1
  have HC1 := Lib.hid hc1
  have HC2 := Lib.hid hc2
  have HCK := Lib.hid hck
  have HBX := Lib.hid hbx
  have HRG := Lib.hid hrg
  have HCL := Lib.hid hcl
  have HSS := Lib.hid hss
  have HIN1 := Lib.hid hin1
  have HIN2 := Lib.hid hin2
  have K01 := Lib.hid k01
  have KK1 := Lib.hid kk1
  have H1W := Lib.hid h1w
  have HW1 := Lib.hid hw1
  have RA := Lib.hid ra
  have HKZ := Lib.hid hkz
  have H8 := Lib.hid h8
  have H81 := Lib.hid h81
  have H82 := Lib.hid h82
  clear hkz ra hc1 hc2 hck hbx hrg hcl hss hin1 hin2 k01 kk1 h1w hw1 hpr h8 h81 h82 hx
  go_enter Try.func4, Try.ntmps4
  go_upto_region 1 with (fail)
  rw [← HW1.out]
  go_upto_region 2 with (go_at_call 10; ((with_reducible refine HKZ.out.mono ?_); rintro e u1 ⟨a1, k1, rfl, s1, hb⟩; have S1 := Lib.hid s1; have HB1 := Lib.hid hb; clear hb s1))
  have s12 : Sl (u1.alloc (.cells #[.int .i64 0, .int .i64 0, .int .i64 0, .int .i64 0, .int .i64 0] 23)) (some ⟨u1.heap.size, 0, none⟩) 1 [zeroK] := by
    have h0 := own_lit (xs := [zeroK]) u1 23 0 (Nat.zero_le _) #[.int .i64 0, .int .i64 0, .int .i64 0, .int .i64 0, .int .i64 0] 1 rfl (by decide) rfl
    obtain ⟨ao, c', e, h, _⟩ := h0.sl
    injection e with e _ _
    subst e
    exact h
  have heq := eq_keyS a1 (some ⟨u1.heap.size, 0, none⟩) 1 1 k1 1 [zeroK] [zeroK] _ (S1.out.alloc _) s12
  rw [decide_eq_true rfl] at heq
  have HEQ := Lib.hid heq
  clear heq s12
  go_upto_region 5 with (first
    | (go_at_call 11; ((with_reducible refine HEQ.out.mono ?_); rintro e u2 ⟨rfl, hb⟩; have HB2 := Lib.hid hb; clear hb))
    | (go_at_call 12; ((with_reducible refine (RA.out _).mono ?_); rintro e w' ⟨rfl, rfl⟩; clear RA)))
  have b12 : Below w1.heap.size w1 u2 := ext_trans (ext_alloc HB1.out _) HB2.out
  have bw2 := ext_trans H1W.out b12
  have kb2 := bk_keep b12 K01.out
  have kk2 := bk_keep b12 KK1.out
  have k3 := HRG.out _ _ H8.out kb2 zeroV
  have hv3 : u2.setCells w.heap.size (r * 7) [.bool false, .int .i64 0, .int .i64 0, .int .i64 0, .int .i64 0, .int .i64 0, .int .i64 0] = u2.setCells w.heap.size (r * 7) (cl zeroV) := rfl
  have kk3 := bk_setCells_far kk2 (show w.heap.size + 1 ≠ w.heap.size by omega) (r * 7) (cl zeroV)
  have bw3 := below_setCells bw2 (Nat.le_refl _) (r * 7) (cl zeroV)
  obtain ⟨W3, hW3⟩ : ∃ W3, W3 = u2.setCells w.heap.size (r * 7) (cl zeroV) := ⟨_, rfl⟩
  rw [← hW3] at k3 hv3 kk3 bw3
  obtain ⟨y, x0, x1, x2, x3, x4, x5, x6⟩ := HCL.out _ _ H8.out kb2
  have mF := fun j => kb2.frozen j
  have mL := kb2.lt
  have q0 : (0 : Int) ≤ (r : Int) := by omega
  have q1 : (r : Int) < 8 := by omega
  have HV3 := Lib.hid hv3
  have BX3 := Lib.hid (HBX.out _ _ H81.out bw3 k3)
  have BW3 := Lib.hid bw3
  have K3 := Lib.hid k3
  have KK3 := Lib.hid kk3
  clear hW3 hv3 k3 kk3 bw3 bw2 b12 kb2 kk2 K01 KK1
  go_upto_region 6 with (fail)
  rw [setCells7R, HV3.out]
  clear x0 x1 x2 x3 x4 x5 x6 mF mL HV3 y
  go_upto_region 7 with (first
    | (refine wpList_load_sub rfl 31 (.tmp 4) rfl w.heap.size 0 64 rfl 31 _ _ BX3.out.bk Try.underlying31 rfl (by kernel_rfl) BX3.out.size _ BX3.out.all ?_)
    | (go_at_call 10; ((with_reducible refine (keys_all BX3.out.toRow d HC1.out).mono ?_); rintro e u4 ⟨a4, n4, k4, rfl, hz4, hg4, hb⟩; have HZ4 := Lib.hid hz4; have HG4 := Lib.hid hg4; have HB4 := Lib.hid hb; clear hb hz4 hg4)))
  have bw4 := ext_trans BW3.out HB4.out
  have kb4 := bk_keep HB4.out K3.out
  have kk4 := bk_keep HB4.out KK3.out
  have k5 := HRG.out _ _ H81.out kb4 (⟨true, 0, ⟨kp, kb, kl, ka, ks⟩⟩ : ValV)
  rw [HSS.out] at k5
  have hv5 : u4.setCells w.heap.size (r * 7) [.bool true, .int .i64 0, .int .i64 kp, .int .i64 kb, .int .i64 kl, .int .i64 ka, .int .i64 ks] = u4.setCells w.heap.size (r * 7) (cl (⟨true, 0, ⟨kp, kb, kl, ka, ks⟩⟩ : ValV)) := rfl
  have kk5 := bk_setCells_far kk4 (show w.heap.size + 1 ≠ w.heap.size by omega) (r * 7) (cl (⟨true, 0, ⟨kp, kb, kl, ka, ks⟩⟩ : ValV))
  have bw5 := below_setCells bw4 (Nat.le_refl _) (r * 7) (cl (⟨true, 0, ⟨kp, kb, kl, ka, ks⟩⟩ : ValV))
  have hgs := grown_setCells w.heap.size (cl (⟨true, 0, ⟨kp, kb, kl, ka, ks⟩⟩ : ValV)) (r * 7) u4
  obtain ⟨W5, hW5⟩ : ∃ W5, W5 = u4.setCells w.heap.size (r * 7) (cl (⟨true, 0, ⟨kp, kb, kl, ka, ks⟩⟩ : ValV)) := ⟨_, rfl⟩
  rw [← hW5] at k5 hv5 kk5 bw5 hgs
  have hg5 : c1 = 0 → ∃ ts : List KeyV, Sl W5 a4 n4 ts ∧ (∀ y, y ∈ ts ↔ Rch d x.mem (rootsP d (x.R.set r zeroV) x.c x.stk) y) ∧ ts.length ≤ 500 := fun h => by
    obtain ⟨ts, h1, h2, _, h3, _, h4⟩ := HG4.out h
    refine ⟨ts, h1.grown hgs (fun a e _ e2 => ?_), h2, h3⟩
    have h5 := h4 a e
    have h6 := BW3.out.size
    have h7 := (K3.out).lt
    have : a.block = w.heap.size := Option.some.inj e2
    omega
  obtain ⟨y, x0, x1, x2, x3, x4, x5, x6⟩ := HCL.out _ _ H81.out kb4
  have mF := fun j => kb4.frozen j
  have mL := kb4.lt
  obtain ⟨z0, z1, z2, z3, z4⟩ := cells5 kk4
  have zL := kk4.lt
  have HV5 := Lib.hid hv5
  have BX5 := Lib.hid (HBX.out _ _ H82.out bw5 k5)
  have BW5 := Lib.hid bw5
  have KK5 := Lib.hid kk5
  have HG5 := Lib.hid hg5
  clear hW5 hv5 k5 kk5 bw5 bw4 kb4 kk4 hgs hg5 HG4
  go_upto_region 8 with (fail)
  rw [setCells7R, HV5.out]
  clear x0 x1 x2 x3 x4 x5 x6 mF mL HV5 y z0 z1 z2 z3 z4 zL
  go_upto_region 9 with (first
    | (refine wpList_load_sub rfl 31 (.tmp 4) rfl w.heap.size 0 64 rfl 31 _ _ BX5.out.bk Try.underlying31 rfl (by kernel_rfl) BX5.out.size _ BX5.out.all ?_)
    | (go_at_call 10; ((with_reducible refine (keys_all BX5.out.toRow d HC2.out).mono ?_); rintro e u6 ⟨a6, n6, k6, rfl, hz6, hg6, hb⟩; have HZ6 := Lib.hid hz6; have HG6 := Lib.hid hg6; have HB6 := Lib.hid hb; clear hb hz6 hg6)))
  by_cases e1 : c1 = 0
  case neg =>
    obtain rfl : n4 = 0 := HZ4.out e1
    have g1 : (c1 == 0) = false := by simpa using e1
    have g2 : (c1 != 0) = true := by simpa using e1
    clear e1 HCK
    go_wp2
    go_ret
    exact ⟨rfl, ext_trans BW5.out HB6.out⟩
  rcases HCK.out e1 with e2 | e2
  case inr =>
    have h0 : n6 = 0 := HZ6.out (by rw [e2]; decide)
    subst h0 e1 e2
    go_wp2
    go_ret
    exact ⟨rfl, ext_trans BW5.out HB6.out⟩
  obtain ⟨ts, t1, t2, t3⟩ := HG5.out e1
  obtain ⟨us, v1, v2, _, v3, _, _⟩ := HG6.out e2
  subst e1 e2
  have TS := Lib.hid (t1.below HB6.out)
  have US := Lib.hid v1
  have hin : ∀ y ∈ ts, y ∈ us := fun y hy => (v2 y).2 (HIN1.out y ((t2 y).1 hy))
  have hkin : (⟨kp, kb, kl, ka, ks⟩ : KeyV) ∈ us := (v2 _).2 HIN2.out
  have hnl := t1.len
  have IN := Lib.hid hin
  have kk6 := bk_keep HB6.out KK5.out
  have KK6 := Lib.hid kk6
  have KIN := Lib.hid hkin
  clear t1 t2 v1 v2 hin hkin kk6 HG5 HG6 HCK HC1 HC2 HSS HIN1 HIN2 HRG HCL HBX HZ4 HZ6 BX5 BX3 KK3 KK5 K3
  go_wp2
  go_loopw [79] (fun i wr => ∃ j : Nat, j ≤ n4 ∧ i = .int .i64 j ∧ Below u6.heap.size u6 wr) (fun i _ => n4 - (intOf i).toNat)
  case atStart => exact ⟨0, Nat.zero_le _, rfl, Below.refl _ _⟩
  case round =>
    obtain ⟨j, hj, rfl, hb⟩ := hrel
    have HB := Lib.hid hb
    by_cases hlt : j < n4
    · have q2 : (0 : Int) ≤ j := by omega
      have q3 : (j : Int) < n4 := by omega
      obtain ⟨y, hgy⟩ : ∃ y, ts[j]? = some y := ⟨_, List.getElem?_eq_getElem (by omega)⟩
      obtain ⟨ad, rfl, bx, e0, e1, e2, e3, e4⟩ := sl_keyS (TS.out.below hb) hlt hgy
      have hyin := IN.out y (List.mem_of_getElem? hgy)
      have has := fun W (h : Below u6.heap.size u6 W) => has_keyS a6 n6 k6 us y W (US.out.below h)
      simp only [decide_eq_true hyin] at has
      clear hgy hb hyin
      obtain ⟨yp, yb, yl, ya, ys_⟩ := y
      simp only [KeyV.val] at has e0 e1 e2 e3 e4
      have HAS := Lib.hid has
      clear has
      go_wp2_with (go_at_call 13; ((with_reducible refine (HAS.out _ (ext_alloc HB.out _)).mono ?_); rintro e u8 ⟨rfl, hb⟩; have HB8 := Lib.hid hb; clear hb))
      go_roundw
      case rel => exact ⟨j + 1, by omega, by go_num, ext_trans (ext_alloc HB.out _) HB8.out⟩
      case measure => simp [intOf]; omega
    · have q2 : ¬ ((j : Int) < n4) := by omega
      obtain ⟨z0, z1, z2, z3, z4⟩ := cells5 (bk_keep hb KK6.out)
      have zL := (bk_keep hb KK6.out).lt
      have has := has_keyS a6 n6 k6 us ⟨kp, kb, kl, ka, ks⟩ wr (US.out.below hb)
      simp only [decide_eq_true KIN.out, KeyV.val] at has
      have HAS := Lib.hid has
      clear has hb
      go_wp2_with (go_at_call 13; ((with_reducible refine HAS.out.mono ?_); rintro e u8 ⟨rfl, hb⟩; have HB8 := Lib.hid hb; clear hb))
      go_ret
      exact ⟨rfl, ext_trans (ext_trans (ext_trans BW5.out HB6.out) HB.out) HB8.out⟩
theorem reachGrows_walk (x : MachA) (pr : Int) (k : KeyV) (d : Bool) {w : World} (hx : x.ok w) (hp : (Lit.int .i64 pr).wf = true) (hk : k.wf) : Calls Try.prog 4 #[x.val, .int .i64 pr, k.val, .bool d] w fun e w' => e = .returned (.bool true) ∧ Below w.heap.size w w' := by
  obtain ⟨r, hr⟩ := Int.eq_ofNat_of_zero_le (Int.emod_nonneg pr (show (8 : Int) ≠ 0 by decide))
  have l1 := Int.emod_lt_of_pos pr (show (0 : Int) < 8 by decide)
  exact grows_at x pr r k d hx hr (by omega)
end Go.Proofs.Ytcdcmbehnccicaa
