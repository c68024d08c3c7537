import Derived.BigQuiet
import Derived.Deep.QuietTactic
import Derived.Test.YtpjhjefjbkjhkaaGreatDoorProgStZ
/- The reader of a program: label. -/
namespace Go.Proofs.YtpjhjefjbkjhkaaGreatDoor
open Go Go.RowKit Go.Shelf
set_option linter.unusedVariables false
set_option linter.unusedSimpArgs false
theorem via_tailP {G : Prop} (h : ∃ T : Prop, T ∧ (T → G)) : G := h.elim fun T hT => hT.2 hT.1
theorem rd_post {g : Nat} {w w' : World} {r : RdV} {er er' : Int} {vc vl vh : Value} (h : RdSt g r vc vl vh w') (hb : Below g w w') (he : er = er') : RdPost g w r er' (.returned (.int .i64 er)) w' := ⟨by rw [he], ⟨vc, vl, vh, h⟩, hb⟩
theorem RdSt.gle {g : Nat} {r : RdV} {vc vl vh : Value} {w : World} (h : RdSt g r vc vl vh w) : g ≤ w.heap.size := Nat.le_of_lt h.b.lt
set_option maxHeartbeats 4000000 in
set_option maxRecDepth 100000 in
theorem rlabel_any (g : Nat) (r : RdV) (vc vl vh : Value) (s : ByteArray) (w : World) (h : RdSt g r vc vl vh w) (hs : s.size ≤ 9223372036854775807) (hn1 : r.code.length ≤ 1000) (hn2 : r.labels.length ≤ 1000) :
    Calls Tryz.prog 118 #[.pointer (some ⟨g, 0, none⟩), .string s] w (RdPost g w (labelR r s).1 (labelR r s).2) := by
  have isn := fun W => isName_any s hs W
  have gL := h.b.lt
  have gS := h.gle
  have ST := Lib.hid h
  have ISN := Lib.hid isn
  clear h isn
  cases h1 : isNameB s
  · have e : labelR r s = (r, 3) := by unfold labelR; rw [if_pos h1]
    rw [e]
    simp only [h1] at ISN
    clear h1 e
    go_enter Tryz.func118, Tryz.ntmps118
    go_wp2_with (go_at_call 65; ((with_reducible refine (ISN.out _).mono ?_); rintro e w1 ⟨rfl, hb1⟩; have S1 := Lib.hid (ST.out.below hb1); have HB1 := Lib.hid hb1; clear hb1))
    go_ret
    exact rd_post S1.out (HB1.out.mono gS) rfl
  simp only [h1] at ISN
  by_cases h2 : 0 ≤ findA r.labels s
  · have e : labelR r s = (r, 8) := by unfold labelR; rw [if_neg (by simp [h1]), if_pos h2]
    rw [e]
    clear h1 e
    go_enter Tryz.func118, Tryz.ntmps118
    go_wp2_with (first
      | (go_at_call 65; ((with_reducible refine (ISN.out _).mono ?_); rintro e w1 ⟨rfl, hb1⟩; have S1 := Lib.hid (ST.out.below hb1); have HB1 := Lib.hid hb1; clear hb1))
      | (go_at_call 89; ((with_reducible refine (rfind_any g r vc vl vh s w1 S1.out).mono ?_); rintro e w2 ⟨rfl, hb2⟩; have S2 := Lib.hid (S1.out.below hb2); have HB2 := Lib.hid (ext_trans HB1.out hb2); clear hb2)))
    go_ret
    exact rd_post S2.out (HB2.out.mono gS) rfl
  obtain ⟨la, lc, rfl, hsl, _⟩ := ST.out.l.sl
  obtain ⟨n, hn⟩ : ∃ n, r.labels.length = n := ⟨_, rfl⟩
  rw [hn] at ST hn2
  have hq : ∀ W, RdSt g r vc (.slice la n lc) vh W → W.cell? ⟨g, 1, none⟩ = some (.slice la n lc) := fun W hW => hW.b.cell 1
  by_cases h3 : n = 20
  · have e : labelR r s = (r, 9) := by unfold labelR; rw [if_neg (by simp [h1]), if_neg h2, if_pos (by rw [hn, h3])]
    rw [e]
    subst h3
    clear h1 e hn hsl
    go_enter Tryz.func118, Tryz.ntmps118
    go_upto_region 5 with (first
      | (go_at_call 65; ((with_reducible refine (ISN.out _).mono ?_); rintro e w1 ⟨rfl, hb1⟩; have S1 := Lib.hid (ST.out.below hb1); have HB1 := Lib.hid hb1; clear hb1))
      | (go_at_call 89; ((with_reducible refine (rfind_any g r vc _ vh s w1 S1.out).mono ?_); rintro e w2 ⟨rfl, hb2⟩; have S2 := Lib.hid (S1.out.below hb2); have HB2 := Lib.hid (ext_trans HB1.out hb2); clear hb2)))
    have c1 := hq _ S2.out
    have gL2 := S2.out.b.lt
    go_wp2
    go_ret
    exact rd_post S2.out (HB2.out.mono gS) rfl
  have q3 : ¬ ((n : Int) = 20) := by omega
  obtain ⟨ca, cc, rfl, hsc, _⟩ := ST.out.c.sl
  obtain ⟨m, hm⟩ : ∃ m, r.code.length = m := ⟨_, rfl⟩
  rw [hm] at ST hn1
  have e : labelR r s = (⟨r.code, r.labels ++ [⟨s, m⟩], r.holes⟩, 0) := by unfold labelR; rw [if_neg (by simp [h1]), if_neg h2, if_neg (by rw [hn]; exact h3), hm]
  rw [e]
  have HN := Lib.hid hn
  have HM := Lib.hid hm
  clear h1 e hq hn hm hsl hsc h3
  go_enter Tryz.func118, Tryz.ntmps118
  go_upto_region 5 with (first
    | (go_at_call 65; ((with_reducible refine (ISN.out _).mono ?_); rintro e w1 ⟨rfl, hb1⟩; have S1 := Lib.hid (ST.out.below hb1); have HB1 := Lib.hid hb1; clear hb1))
    | (go_at_call 89; ((with_reducible refine (rfind_any g r _ _ vh s w1 S1.out).mono ?_); rintro e w2 ⟨rfl, hb2⟩; have S2 := Lib.hid (S1.out.below hb2); have HB2 := Lib.hid (ext_trans HB1.out hb2); clear hb2)))
  obtain ⟨c0, c1, c2⟩ := cells3 S2.out.b
  have gL2 := S2.out.b.lt
  go_upto_region 7 with (fail)
  obtain ⟨i0, i1, iz0, iz1, iz2⟩ := info_parts info_labelL
  obtain ⟨w3, hw3⟩ : ∃ w3, w3 = w2.drew.alloc (.cells #[.string s, .int .i64 m] 83) := ⟨_, rfl⟩
  have b3 : Below w2.heap.size w2 w3 := by rw [hw3]; exact ext_alloc (ext_drew (Below.refl _ _)) _
  have s3 := S2.out.below b3
  have l3 : Sl w3 (some ⟨w2.heap.size, 0, none⟩) 1 [(⟨s, m⟩ : NamV)] := by rw [hw3]; exact lit_sl1 _ _ rfl
  obtain ⟨v4, w4, hr, ho, hg, _⟩ := run_append_sl (P := Tryz.prog) w3 g 25 25 83 i0 _ 24 Tryz.underlying25 i1 iz0 iz1 iz2 rfl (.slice la n lc) r.labels s3.l (some ⟨w2.heap.size, 0, none⟩) 1 1 [(⟨s, m⟩ : NamV)] l3 (by rw [HN.out]; unfold maxLen; omega) (by rw [HN.out]; omega) (by have := b3.size; omega)
  have k4 := bk_other s3.b s3.l (by decide) hg
  have d4 := k4.cell 1
  have f4 := k4.frozen 1
  have g4 := k4.lt
  simp only [List.getElem?_toArray, List.getElem?_cons_succ, List.getElem?_cons_zero] at d4
  have fin := s3.setL hg ho
  have un := RdSt.under s3.l ((HB2.out.mono gS).trans (b3.mono S2.out.gle)) (Nat.le_trans S2.out.gle b3.size) hg 1 v4
  rw [hw3] at hr
  obtain ⟨xa, xn, xc, rfl⟩ := own_shape ho
  have HR := Lib.hid hr
  have FIN := Lib.hid fin
  have UN := Lib.hid un
  clear hr ho hg fin un k4 l3 s3 b3 hw3
  apply via_tailP
  apply Exists.intro
  apply And.intro
  rotate_left
  · intro tail
    go_region_law (refine step_append_run2 rfl _ _ 25 25 rfl (.slice la n lc) (.slice (some ⟨w2.heap.size, 0, none⟩) 1 1) (by simp [Act.eval, Act.put]) (by simp [Act.eval, Act.put]) HR.out ?_)
    all_goals with_reducible exact tail
  go_wp2
  go_ret
  exact rd_post FIN.out UN.out rfl
end Go.Proofs.YtpjhjefjbkjhkaaGreatDoor
