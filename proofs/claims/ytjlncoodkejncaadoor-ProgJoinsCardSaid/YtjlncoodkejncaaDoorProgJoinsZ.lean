import Derived.Test.YtjlncoodkejncaaDoorLiftIntsPZ
import Derived.Test.YtjlncoodkejncaaDoorProgBaseZ
/- Assembling texts one behind the other yields their cells one behind the other. -/
namespace Go.Proofs.YtjlncoodkejncaaDoor
open Go Go.RowKit Go.Shelf
set_option linter.unusedVariables false
set_option linter.unusedSimpArgs false
theorem read_halt : readF [104, 97, 108, 116] = ⟨[4194304], [], 0, 0⟩ := by
  have h : cellL 4194304 = [104, 97, 108, 116] := by
    unfold cellL
    rw [if_pos (by decide)]
    rfl
  have e : textP [4194304] = [104, 97, 108, 116] := by
    unfold textP
    rw [List.map_cons, List.map_nil, h]
    rfl
  rw [← e]
  exact read_textP (by decide) (by decide)
set_option maxHeartbeats 8000000 in
set_option maxRecDepth 100000 in
theorem progJoins_walk (x y : SlV Int) (w : World) (hx : x.ok I64 w) (hy : y.ok I64 w) (he : PEnv w) : Calls Tryd.prog 7 #[x.val, y.val] w fun e w' => e = .returned (.bool true) ∧ Below w.heap.size w w' := by
  obtain ⟨ao, n, c, xs⟩ := x
  obtain ⟨bo, m, d, ys⟩ := y
  obtain ⟨hxs, hi, hle⟩ := hx
  obtain ⟨hys, hj, hle2⟩ := hy
  simp only [SlV.val] at hxs hi hle hys hj hle2 ⊢
  have hn := hxs.len
  have hm := hys.len
  have mx := hxs.max
  have my := hys.max
  unfold maxLen at mx my
  have tx := fun W (hW : Below w.heap.size w W) => ptext_any ao n c xs W (he.below hW) (hxs.below hW) hi
  have ty := fun W (hW : Below w.heap.size w W) => ptext_any bo m d ys W (he.below hW) (hys.below hW) hj
  have XA := Lib.hid hxs
  have XB := Lib.hid hys
  have HE := Lib.hid he
  have H1 := Lib.hid (Below.refl w.heap.size w)
  clear he hle hle2
  by_cases h0 : (textF xs).2 = 0
  · by_cases h1 : (textF ys).2 = 0
    · obtain ⟨h150, hall, e⟩ := textF_ok h0
      obtain ⟨h150', hall', e'⟩ := textF_ok h1
      rw [e] at tx
      rw [e'] at ty
      simp only at tx ty
      have hl := textP_len hi
      have hl' := textP_len hj
      obtain ⟨S1, hS1⟩ : ∃ S1, ba (textP xs) = S1 := ⟨_, rfl⟩
      obtain ⟨S2, hS2⟩ : ∃ S2, ba (textP ys) = S2 := ⟨_, rfl⟩
      simp only [hS1] at tx
      simp only [hS2] at ty
      have TXC := Lib.hid tx
      have TYC := Lib.hid ty
      by_cases h140 : 140 < n + m
      · have q1 : (140 : Int) < (n : Int) + m := by omega
        clear e e' tx ty hl hl' hS1 hS2 h0 h1 hall hall' hi hj
        go_enter Tryd.func7, Tryd.ntmps7
        go_wp2_with (first
          | (go_at_call 20; ((with_reducible refine (TXC.out _ H1.out).mono ?_); rintro e w2 ⟨rfl, hb2⟩; have HB2 := Lib.hid (ext_trans H1.out hb2); clear hb2))
          | (go_at_call 20; ((with_reducible refine (TYC.out _ HB2.out).mono ?_); rintro e w3 ⟨rfl, hb3⟩; have HB3 := Lib.hid (ext_trans HB2.out hb3); clear hb3)))
        go_ret
        exact ⟨rfl, HB3.out⟩
      · have q1 : ¬ ((140 : Int) < (n : Int) + m) := by omega
        have hr := read_joins (all32 hall) (all32 hall') (by omega)
        obtain ⟨S3, hS3⟩ : ∃ S3, ba (textP xs ++ [10]) = S3 := ⟨_, rfl⟩
        obtain ⟨S4, hS4⟩ : ∃ S4, ba ((textP xs ++ [10]) ++ textP ys) = S4 := ⟨_, rfl⟩
        have ad1 : Op.stringOp .add S1 ⟨#[10]⟩ = pure (.string S3) := by
          rw [← hS1, ← hS3]
          exact ba_add (textP xs) [10] (by simp; omega)
        have ad2 : Op.stringOp .add S3 S2 = pure (.string S4) := by
          rw [← hS3, ← hS2, ← hS4]
          exact ba_add _ _ (by simp; omega)
        have rd := fun W (hW : PEnv W) => pread_view S4 W hW (by rw [← hS4, ba_size]; simp; omega) ⟨xs ++ ys, [], 0, 0⟩ (by rw [← hS4, ba_data, List.append_assoc]; exact hr)
        have rh := fun W (hW : PEnv W) => pread_view ⟨#[104, 97, 108, 116]⟩ W hW (by decide) ⟨[4194304], [], 0, 0⟩ read_halt
        obtain ⟨zs, hzs⟩ : ∃ zs, xs ++ ys = zs := ⟨_, rfl⟩
        obtain ⟨L, hL⟩ : ∃ L, zs.length = L := ⟨_, rfl⟩
        simp only [List.length_nil, List.length_singleton, hzs, hL] at rd rh
        have HZS := Lib.hid hzs
        have RD := Lib.hid rd
        have RH := Lib.hid rh
        obtain ⟨i0_, i1_, iz0, iz1, iz2⟩ := info_parts info_intP
        clear e e' tx ty hl hl' hS1 hS2 hS3 hS4 h0 h1 hall hall' hi hj rd rh hr hzs
        go_enter Tryd.func7, Tryd.ntmps7
        go_upto_region 7 with (first
          | (go_at_call 20; ((with_reducible refine (TXC.out _ H1.out).mono ?_); rintro e w2 ⟨rfl, hb2⟩; have HB2 := Lib.hid (ext_trans H1.out hb2); clear hb2))
          | (go_at_call 20; ((with_reducible refine (TYC.out _ HB2.out).mono ?_); rintro e w3 ⟨rfl, hb3⟩; have HB3 := Lib.hid (ext_trans HB2.out hb3); clear hb3))
          | (go_at_call 14; ((with_reducible refine (RD.out _ (HE.out.below HB3.out)).mono ?_); rintro e w4 ⟨ca4, cc4, la4, lc4, rfl, hc4, hl4, hb4⟩; have CS4 := Lib.hid hc4; have LS4 := Lib.hid hl4; have HB4 := Lib.hid (ext_trans HB3.out hb4); clear hc4 hl4 hb4))
          | (go_at_call 14; ((with_reducible refine (RH.out _ (HE.out.below HB4.out)).mono ?_); rintro e w5 ⟨ca5, cc5, la5, lc5, rfl, hc5, hl5, hb5⟩; have CS5 := Lib.hid hc5; have LS5 := Lib.hid hl5; have HB5 := Lib.hid (ext_trans HB4.out hb5); have CS4B := Lib.hid (CS4.out.below hb5); clear hc5 hl5 hb5)))
        obtain ⟨cd, rfl, hcb0, hce0⟩ := sl_int (i := 0) (x := 4194304) CS5.out (by decide) rfl
        have hcb := Lib.hid hcb0
        have hce := Lib.hid hce0
        clear hcb0 hce0 CS5
        go_wp2_with (first
          | (at_builtin; refine wpList_append_slg (α := Int) (.const (.slice none 0 0)) (.tmp 61) 34 rfl (by rfl) w5.heap.size 3 i0_ _ 8 Tryd.underlying34 i1_ iz0 iz1 iz2 rfl (.slice none 0 0) [] rfl (Own.nil _ _ _) ao n c xs rfl (XA.out.below HB5.out) (by simp; unfold maxLen; omega) (by simp; omega) (Nat.le_refl _) ?_; intro v6 w6 ho6 hg6 _; have O6 := Lib.hid ho6; have B56 := Lib.hid ((Below.refl w5.heap.size w5).grown hg6 (Nat.le_refl _) (fun k e => by simp [Value.ownBlock] at e)); obtain ⟨va6, vn6, vc6, rfl⟩ := own_shape ho6; clear ho6 hg6)
          | (at_builtin; refine wpList_append_slg (α := Int) (.tmp 62) (.tmp 63) 34 rfl (by rfl) w5.heap.size 3 i0_ _ 8 Tryd.underlying34 i1_ iz0 iz1 iz2 rfl (.slice va6 vn6 vc6) ([] ++ xs) rfl O6.out bo m d ys rfl (XB.out.below (ext_trans HB5.out B56.out)) (by simp; unfold maxLen; omega) (by simp; omega) B56.out.size ?_; intro v7 w7 ho7 hg7 _; rw [List.nil_append, HZS.out] at ho7; have B57 := Lib.hid (B56.out.grown hg7 B56.out.size (fun k e => (own_span O6.out e).1)); obtain ⟨va7, vc7, rfl, hs7, _⟩ := Own.sl ho7; rw [hL] at hs7; (try rw [hL]); have S7 := Lib.hid hs7; clear ho7 hg7 hs7)
          | (go_at_call 19; ((with_reducible refine (eqs_Int ca4 va7 L cc4 vc7 zs _ (CS4B.out.below B57.out) S7.out).mono ?_); rintro e w8 ⟨rfl, hb8⟩; have B58 := Lib.hid (ext_trans B57.out hb8); have HB8 := Lib.hid (ext_trans HB5.out B58.out); have ce8 := (B58.out.cell (p := cd.add 0) hcb.out).trans hce.out; rw [show cd.add 0 = cd by unfold Addr.add; rfl] at ce8; clear hb8)))
        go_ret
        exact ⟨rfl, HB8.out⟩
    · obtain ⟨er, her, e⟩ := textF_bad h1
      obtain ⟨_, _, e'⟩ := textF_ok h0
      rw [e'] at tx
      rw [e] at ty
      simp only at tx ty
      have q1 : (er != 0) = true := by simpa using her
      have q2 : (er == 0) = false := by simpa using her
      have TXC := Lib.hid tx
      have TYC := Lib.hid ty
      clear e e' tx ty h0 h1 hi hj her
      go_enter Tryd.func7, Tryd.ntmps7
      go_wp2_with (first
        | (go_at_call 20; ((with_reducible refine (TXC.out _ H1.out).mono ?_); rintro e w2 ⟨rfl, hb2⟩; have HB2 := Lib.hid (ext_trans H1.out hb2); clear hb2))
        | (go_at_call 20; ((with_reducible refine (TYC.out _ HB2.out).mono ?_); rintro e w3 ⟨rfl, hb3⟩; have HB3 := Lib.hid (ext_trans HB2.out hb3); clear hb3)))
      go_ret
      exact ⟨rfl, HB3.out⟩
  · obtain ⟨er, her, e⟩ := textF_bad h0
    rw [e] at tx
    simp only at tx
    have q1 : (er != 0) = true := by simpa using her
    have q2 : (er == 0) = false := by simpa using her
    obtain ⟨S2, hS2⟩ : ∃ S2, ba (textF ys).1 = S2 := ⟨_, rfl⟩
    obtain ⟨e2, he2⟩ : ∃ e2, (textF ys).2 = e2 := ⟨_, rfl⟩
    simp only [hS2, he2] at ty
    have TXC := Lib.hid tx
    have TYC := Lib.hid ty
    clear e tx ty h0 hi hj her hS2 he2
    go_enter Tryd.func7, Tryd.ntmps7
    go_wp2_with (first
      | (go_at_call 20; ((with_reducible refine (TXC.out _ H1.out).mono ?_); rintro e w2 ⟨rfl, hb2⟩; have HB2 := Lib.hid (ext_trans H1.out hb2); clear hb2))
      | (go_at_call 20; ((with_reducible refine (TYC.out _ HB2.out).mono ?_); rintro e w3 ⟨rfl, hb3⟩; have HB3 := Lib.hid (ext_trans HB2.out hb3); clear hb3)))
    go_ret
    exact ⟨rfl, HB3.out⟩
end Go.Proofs.YtjlncoodkejncaaDoor
