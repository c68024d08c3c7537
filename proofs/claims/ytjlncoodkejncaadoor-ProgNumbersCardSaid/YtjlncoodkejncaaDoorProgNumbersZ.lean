import Derived.Test.YtjlncoodkejncaaDoorProgBaseZ
/- Each number is printed as a line that is assembled to it. -/
namespace Go.Proofs.YtjlncoodkejncaaDoor
open Go Go.RowKit Go.Shelf
set_option linter.unusedVariables false
set_option linter.unusedSimpArgs false
set_option maxHeartbeats 8000000 in
set_option maxRecDepth 100000 in
theorem progNumbers_walk (n : Int) (w : World) (hn : I64 n) (he : PEnv w) : Calls Tryd.prog 8 #[.int .i64 n] w fun e w' => e = .returned (.bool true) ∧ Below w.heap.size w w' := by
  have hn1 := hn.1
  have hn2 := hn.2
  have b1 : Below w.heap.size w (w.alloc (.cells #[.int .i64 n] 3)) := ext_alloc (Below.refl _ _) _
  have tx := ptext_any (some ⟨w.heap.size, 0, none⟩) 1 1 [n] (w.alloc (.cells #[.int .i64 n] 3)) (he.below b1) (lit_sl1 _ _ rfl) (fun x hx => by simp at hx; subst hx; exact hn)
  have HE := Lib.hid he
  have H1 := Lib.hid b1
  clear he b1
  cases h32 : num32B n
  · have e : textF [n] = ([], 1) := by unfold textF; simp [h32]
    have hbd : ¬ (-2147483648 ≤ n ∧ n ≤ 2147483647) := by intro h; rw [show num32B n = true by unfold num32B; simpa using h] at h32; cases h32
    rw [e] at tx
    simp only at tx
    obtain ⟨S1, hS1⟩ : ∃ S1, ba [] = S1 := ⟨_, rfl⟩
    rw [hS1] at tx
    have f1 : S1.toList.isEmpty = true := by rw [← hS1, ByteArray.toList_eq]; rfl
    have TXC := Lib.hid tx
    clear e tx hS1 hn h32
    by_cases hlo : n < -2147483648
    · go_enter Tryd.func8, Tryd.ntmps8
      go_upto_region 2 with (go_at_call 20; ((with_reducible refine (TXC.out).mono ?_); rintro e w2 ⟨rfl, hb2⟩; have HB2 := Lib.hid (ext_trans H1.out hb2); clear hb2))
      go_wp2
      go_ret
      exact ⟨rfl, HB2.out⟩
    · have hhi : 2147483647 < n := by omega
      go_enter Tryd.func8, Tryd.ntmps8
      go_upto_region 2 with (go_at_call 20; ((with_reducible refine (TXC.out).mono ?_); rintro e w2 ⟨rfl, hb2⟩; have HB2 := Lib.hid (ext_trans H1.out hb2); clear hb2))
      go_wp2
      go_ret
      exact ⟨rfl, HB2.out⟩
  · have hbd : -2147483648 ≤ n ∧ n ≤ 2147483647 := by simpa [num32B] using h32
    have hlo : ¬ (n < -2147483648) := by omega
    have hhi : ¬ (2147483647 < n) := by omega
    have e : textF [n] = (textP [n], 0) := by unfold textF; simp [h32]
    rw [e] at tx
    simp only at tx
    have hl := textP_len (code := [n]) (fun x hx => by simp at hx; subst hx; exact hn)
    have hr := read_textP (code := [n]) (fun x hx => by simp at hx; subst hx; exact h32) (by simp)
    have hw := read_word h32
    obtain ⟨S1, hS1⟩ : ∃ S1, ba (textP [n]) = S1 := ⟨_, rfl⟩
    rw [hS1] at tx
    have rd := fun W (hW : PEnv W) => pread_view S1 W hW (by rw [← hS1, ba_size]; simp at hl; omega) ⟨[n], [], 0, 0⟩ (by rw [← hS1]; exact hr)
    have dg := fun W => digits_any n hn W
    obtain ⟨S2, hS2⟩ : ∃ S2, (⟨(Lib.itoa n).toArray⟩ : ByteArray) = S2 := ⟨_, rfl⟩
    obtain ⟨S3, hS3⟩ : ∃ S3, ba (wordP ++ Lib.itoa n) = S3 := ⟨_, rfl⟩
    rw [hS2] at dg
    have hil := itoa32_len hn
    have hadd : Op.stringOp .add ⟨#[119, 111, 114, 100, 32]⟩ S2 = pure (.string S3) := by
      rw [← hS2, ← hS3]
      exact ba_add wordP (Lib.itoa n) (by simp [wordP]; omega)
    have rd2 := fun W (hW : PEnv W) => pread_view S3 W hW (by rw [← hS3, ba_size]; simp [wordP]; omega) ⟨[n], [], 0, 0⟩ (by rw [← hS3]; exact hw)
    simp only [List.length_singleton, List.length_nil] at rd rd2
    have TXC := Lib.hid tx
    have RD := Lib.hid rd
    have RD2 := Lib.hid rd2
    have DG := Lib.hid dg
    clear e tx hS1 hS2 hS3 hn h32 hl hr hw rd rd2 dg hil hbd
    go_enter Tryd.func8, Tryd.ntmps8
    go_upto_region 4 with (go_at_call 20; ((with_reducible refine (TXC.out).mono ?_); rintro e w2 ⟨rfl, hb2⟩; have HB2 := Lib.hid (ext_trans H1.out hb2); clear hb2))
    go_upto_region 5 with (go_at_call 14; ((with_reducible refine (RD.out _ (HE.out.below HB2.out)).mono ?_); rintro e w3 ⟨ca3, cc3, la3, lc3, rfl, hc3, hl3, hb3⟩; have CS3 := Lib.hid hc3; have LS3 := Lib.hid hl3; have HB3 := Lib.hid (ext_trans HB2.out hb3); clear hc3 hl3 hb3))
    go_upto_region 6 with (first
      | (go_at_call 21; ((with_reducible refine (DG.out _).mono ?_); rintro e w4 ⟨rfl, hb4⟩; have HB4 := Lib.hid (ext_trans HB3.out hb4); have CS4 := Lib.hid (CS3.out.below hb4); clear hb4))
      | (go_at_call 14; ((with_reducible refine (RD2.out _ (HE.out.below HB4.out)).mono ?_); rintro e w5 ⟨ca5, cc5, la5, lc5, rfl, hc5, hl5, hb5⟩; have CS5 := Lib.hid hc5; have LS5 := Lib.hid hl5; have HB5 := Lib.hid (ext_trans HB4.out hb5); have CS6 := Lib.hid (CS4.out.below hb5); clear hc5 hl5 hb5)))
    go_wp2_with (first
      | (go_at_call 19; ((with_reducible refine (eqs_Int ca3 (some ⟨w5.heap.size, 0, none⟩) 1 cc3 1 [n] _ (CS6.out.alloc _) (sl_litI w5 n)).mono ?_); rintro e w6 ⟨rfl, hb6⟩; have HB6 := Lib.hid (ext_trans (show Hid (Below w.heap.size w (w5.alloc (.cells #[.int .i64 n] 3))) from ext_alloc HB5.out _).out hb6); have CS9 := Lib.hid (CS5.out.below (ext_trans (ext_alloc (Below.refl _ _) _) hb6)); clear hb6))
      | (go_at_call 19; ((with_reducible refine (eqs_Int ca5 (some ⟨w6.heap.size, 0, none⟩) 1 cc5 1 [n] _ (CS9.out.alloc _) (sl_litI w6 n)).mono ?_); rintro e w7 ⟨rfl, hb7⟩; have HB7 := Lib.hid (ext_trans (show Hid (Below w.heap.size w (w6.alloc (.cells #[.int .i64 n] 3))) from ext_alloc HB6.out _).out hb7); clear hb7)))
    go_ret
    exact ⟨rfl, HB7.out⟩
end Go.Proofs.YtjlncoodkejncaaDoor
