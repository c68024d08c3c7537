import Derived.BigQuiet
import Derived.Deep.QuietTactic
import Derived.Test.YtpjhjefjbkjhkaaGreatDoorPk32
import Derived.Deep.DeepHandedRow
import Derived.Deep.DeepLaidRun
import Derived.Deep.DeepWitnessRowRef
import Derived.LaidMore
import Derived.Lib.LaidTab
import Derived.MakeChecks
import Derived.OpenShut
import Derived.Stop.LaidErr
import Derived.Test.YtpjhjefjbkjhkaaGreatDoorCards
import Derived.Test.YtpjhjefjbkjhkaaGreatDoorPk26
import Derived.Test.YtpjhjefjbkjhkaaGreatDoorTie
set_option maxHeartbeats 40000000
set_option maxRecDepth 100000
set_option linter.unusedVariables false
set_option linter.unusedSimpArgs false
namespace Go.Proofs.YtpjhjefjbkjhkaaGreatDoor
open Go Go.RowKit Go.Shelf
theorem via_tailP {G : Prop} (h : ∃ T : Prop, T ∧ (T → G)) : G := h.elim fun T hT => hT.2 hT.1
theorem rd_post {g : Nat} {w w' : World} {r : RdV} {er er' : Int} {vc vl vh : Value} (h : RdSt g r vc vl vh w') (hb : Below g w w') (he : er = er') : RdPost g w r er' (.returned (.int .i64 er)) w' := ⟨by rw [he], ⟨vc, vl, vh, h⟩, hb⟩
theorem RdSt.gle {g : Nat} {r : RdV} {vc vl vh : Value} {w : World} (h : RdSt g r vc vl vh w) : g ≤ w.heap.size := Nat.le_of_lt h.b.lt
theorem rlabel_any (g : Nat) (r : RdV) (vc vl vh : Value) (s : ByteArray) (w : World) (h : RdSt g r vc vl vh w) (hs : s.size ≤ 9223372036854775807) (hn1 : r.code.length ≤ 1000) (hn2 : r.labels.length ≤ 1000) :
  Calls Tryz.prog 118 #[.pointer (some ⟨g, 0, none⟩), .string s] w (RdPost g w (labelR r s).1 (labelR r s).2) := by
 have isn := fun W => isName_any s hs W
 have gL := h.b.lt
 have gS := h.gle
 have ST := Lib.hid h
 have ISN := Lib.hid isn
 clear h isn
 cases h1 : isNameB s
 ·have e : labelR r s = (r, 3) := by unfold labelR; rw [if_pos h1]
  rw [e]
  simp only [h1] at ISN
  clear h1 e
  go_enter Tryz.func118, Tryz.ntmps118
  go_wp2_with (go_at_call 65; ((with_reducible refine (ISN.out _).mono ?_); rintro e w1 ⟨rfl, hb1⟩; have S1 := Lib.hid (ST.out.below hb1); have HB1 := Lib.hid hb1; clear hb1))
  go_ret
  exact rd_post S1.out (HB1.out.mono gS) rfl
 simp only [h1] at ISN
 by_cases h2 : 0 ≤ findA r.labels s
 ·have e : labelR r s = (r, 8) := by unfold labelR; rw [if_neg (by simp [h1]), if_pos h2]
  rw [e]
  clear h1 e
  go_enter Tryz.func118, Tryz.ntmps118
  go_wp2_with (first
   | (go_at_call 65; ((with_reducible refine (ISN.out _).mono ?_); rintro e w1 ⟨rfl, hb1⟩; have S1 := Lib.hid (ST.out.below hb1); have HB1 := Lib.hid hb1; clear hb1))
   | (go_at_call 89; ((with_reducible refine (rfind_any g r vc vl vh s w1 S1.out).mono ?_); rintro e w2 ⟨rfl, hb2⟩; have S2 := Lib.hid (S1.out.below hb2); have HB2 := Lib.hid (ext_trans HB1.out hb2); clear hb2)))
  go_ret
  exact rd_post S2.out (HB2.out.mono gS) rfl
 obtain ⟨la, lc, rfl, hsl, _⟩ := ST.out.l.sl
 obtain ⟨n, hn⟩ : ∃ n, r.labels.length = n := ⟨_, rfl⟩
 rw [hn] at ST hn2
 have hq : ∀ W, RdSt g r vc (.slice la n lc) vh W → W.cell? ⟨g, 1, none⟩ = some (.slice la n lc) := fun W hW => hW.b.cell 1
 by_cases h3 : n = 20
 ·have e : labelR r s = (r, 9) := by unfold labelR; rw [if_neg (by simp [h1]), if_neg h2, if_pos (by rw [hn, h3])]
  rw [e]
  subst h3
  clear h1 e hn hsl
  go_enter Tryz.func118, Tryz.ntmps118
  go_upto_region 5 with (first
   | (go_at_call 65; ((with_reducible refine (ISN.out _).mono ?_); rintro e w1 ⟨rfl, hb1⟩; have S1 := Lib.hid (ST.out.below hb1); have HB1 := Lib.hid hb1; clear hb1))
   | (go_at_call 89; ((with_reducible refine (rfind_any g r vc _ vh s w1 S1.out).mono ?_); rintro e w2 ⟨rfl, hb2⟩; have S2 := Lib.hid (S1.out.below hb2); have HB2 := Lib.hid (ext_trans HB1.out hb2); clear hb2)))
  have c1 := hq _ S2.out
  have gL2 := S2.out.b.lt
  go_wp2
  go_ret
  exact rd_post S2.out (HB2.out.mono gS) rfl
 have q3 : ¬ ((n : Int) = 20) := by omega
 obtain ⟨ca, cc, rfl, hsc, _⟩ := ST.out.c.sl
 obtain ⟨m, hm⟩ : ∃ m, r.code.length = m := ⟨_, rfl⟩
 rw [hm] at ST hn1
 have e : labelR r s = (⟨r.code, r.labels ++ [⟨s, m⟩], r.holes⟩, 0) := by unfold labelR; rw [if_neg (by simp [h1]), if_neg h2, if_neg (by rw [hn]; exact h3), hm]
 rw [e]
 have HN := Lib.hid hn
 have HM := Lib.hid hm
 clear h1 e hq hn hm hsl hsc h3
 go_enter Tryz.func118, Tryz.ntmps118
 go_upto_region 5 with (first
  | (go_at_call 65; ((with_reducible refine (ISN.out _).mono ?_); rintro e w1 ⟨rfl, hb1⟩; have S1 := Lib.hid (ST.out.below hb1); have HB1 := Lib.hid hb1; clear hb1))
  | (go_at_call 89; ((with_reducible refine (rfind_any g r _ _ vh s w1 S1.out).mono ?_); rintro e w2 ⟨rfl, hb2⟩; have S2 := Lib.hid (S1.out.below hb2); have HB2 := Lib.hid (ext_trans HB1.out hb2); clear hb2)))
 obtain ⟨c0, c1, c2⟩ := cells3 S2.out.b
 have gL2 := S2.out.b.lt
 go_upto_region 7 with (fail)
 obtain ⟨i0, i1, iz0, iz1, iz2⟩ := info_parts info_labelL
 obtain ⟨w3, hw3⟩ : ∃ w3, w3 = w2.drew.alloc (.cells #[.string s, .int .i64 m] 83) := ⟨_, rfl⟩
 have b3 : Below w2.heap.size w2 w3 := by rw [hw3]; exact ext_alloc (ext_drew (Below.refl _ _)) _
 have s3 := S2.out.below b3
 have l3 : Sl w3 (some ⟨w2.heap.size, 0, none⟩) 1 [(⟨s, m⟩ : NamV)] := by rw [hw3]; exact lit_sl1 _ _ rfl
 obtain ⟨v4, w4, hr, ho, hg, _⟩ := run_append_sl (P := Tryz.prog) w3 g 25 25 83 i0 _ 24 Tryz.underlying25 i1 iz0 iz1 iz2 rfl (.slice la n lc) r.labels s3.l (some ⟨w2.heap.size, 0, none⟩) 1 1 [(⟨s, m⟩ : NamV)] l3 (by rw [HN.out]; unfold maxLen; omega) (by rw [HN.out]; omega) (by have := b3.size; omega)
 have k4 := bk_other s3.b s3.l (by decide) hg
 have d4 := k4.cell 1
 have f4 := k4.frozen 1
 have g4 := k4.lt
 simp only [List.getElem?_toArray, List.getElem?_cons_succ, List.getElem?_cons_zero] at d4
 have fin := s3.setL hg ho
 have un := RdSt.under s3.l ((HB2.out.mono gS).trans (b3.mono S2.out.gle)) (Nat.le_trans S2.out.gle b3.size) hg 1 v4
 rw [hw3] at hr
 obtain ⟨xa, xn, xc, rfl⟩ := own_shape ho
 have HR := Lib.hid hr
 have FIN := Lib.hid fin
 have UN := Lib.hid un
 clear hr ho hg fin un k4 l3 s3 b3 hw3
 apply via_tailP
 apply Exists.intro
 apply And.intro
 rotate_left
 ·intro tail
  go_region_law (refine step_append_run2 rfl _ _ 25 25 rfl (.slice la n lc) (.slice (some ⟨w2.heap.size, 0, none⟩) 1 1) (by simp [Act.eval, Act.put]) (by simp [Act.eval, Act.put]) HR.out ?_)
  all_goals with_reducible exact tail
 go_wp2
 go_ret
 exact rd_post FIN.out UN.out rfl
end Go.Proofs.YtpjhjefjbkjhkaaGreatDoor
namespace Go.Proofs.YtpjhjefjbkjhkaaGreatDoor
open Go Go.ChangeShapes Go.WideShapes Go.RowKit
noncomputable def doorPinned (os : Os) : World := { World.doorLaid Tryz.prog 400 os with heap := (World.doorLaid Tryz.prog 400 os).heap.modify 3 fun
 | .cells _ t fr => .cells (Go.Pinned.utf8FirstZ.map fun n : Nat => Value.int .u8 (n : Int)).toArray t fr
 | o => o }
theorem door_met (os : Os) (args : Array Value) : laidMetH Tryz.prog [("math/bits.deBruijn32tab", Rows.laid_math_bits_deBruijn32tab), ("math/bits.deBruijn64tab", Rows.laid_math_bits_deBruijn64tab), ("internal/strconv.uint64pow10", Rows.laid_internal_strconv_uint64pow10), ("unicode/utf8.acceptRanges", Rows.laid_unicode_utf8_acceptRanges), ("strconv.ErrRange", Rows.laid_strconv_ErrRange), ("strconv.ErrSyntax", Rows.laid_strconv_ErrSyntax), ("unicode.White_Space", Rows.laid_unicode_White_Space), ("strings.asciiSpace", Rows.laid_strings_asciiSpace), ("unicode/utf8.first", Rows.laid_unicode_utf8_first)] ((doorPinned os).forCall (fun _ _ => 0) ⟨#[], args, []⟩).memory := by
 rw [MakeChecks.laidMetH_plain _ _ _ (by kernel_rfl)]
 exact laidMet_of_run3 8 (by kernel_rfl) (by kernel_rfl) (by kernel_rfl)
theorem gTab10 : Tryz.prog.globalNamed "internal/strconv.uint64pow10" = some 5 := by kernel_rfl
theorem gTypeTab10 : (Tryz.prog.globals[5]?).map (·.type) = some 344 := by kernel_rfl
theorem cellsTab10 : Tryz.prog.cellsOf 344 = 20 := by kernel_rfl
theorem cellsElTab10 : Tryz.prog.cellsOf 287 = 1 := by kernel_rfl
theorem dataTab10 : (Rows.laid_internal_strconv_uint64pow10 : DataW Unit) = Lib.tabData .u64 Lib.pow10Tab := by kernel_rfl
theorem gTab : Tryz.prog.globalNamed "strings.asciiSpace" = some 0 := by kernel_rfl
theorem gTypeTab : (Tryz.prog.globals[0]?).map (·.type) = some 252 := by kernel_rfl
theorem cellsTab : Tryz.prog.cellsOf 252 = 256 := by kernel_rfl
theorem cellsElTab : Tryz.prog.cellsOf 5 = 1 := by kernel_rfl
theorem dataTab : (Rows.laid_strings_asciiSpace : DataW Unit) = Lib.tabData .u8 Lib.asciiSpaceTab := by kernel_rfl
theorem star_err : "*" ++ "errors.errorString" = "*errors.errorString" := by decide
theorem row_err (u : TypeId) (h : Tryz.prog.typeName? 3 u = some "*errors.errorString") : u = 357 :=
 typeName_ptr_named (nm := "errors.errorString") (by rw [star_err]; kernel_rfl) (by kernel_rfl) (by decide) u (by rw [star_err]; exact h)
theorem gSyn : Tryz.prog.globalNamed "strconv.ErrSyntax" = some 6 := by kernel_rfl
theorem gTypeSyn : (Tryz.prog.globals[6]?).map (·.type) = some 248 := by kernel_rfl
theorem gRng : Tryz.prog.globalNamed "strconv.ErrRange" = some 7 := by kernel_rfl
theorem gTypeRng : (Tryz.prog.globals[7]?).map (·.type) = some 248 := by kernel_rfl
theorem cellsErr : Tryz.prog.cellsOf 359 = 1 := by kernel_rfl
theorem cellsStr : Tryz.prog.cellsOf 9 = 1 := by kernel_rfl
theorem env_of_laid {W : World} (h0 : laidMetH Tryz.prog [("math/bits.deBruijn32tab", Rows.laid_math_bits_deBruijn32tab), ("math/bits.deBruijn64tab", Rows.laid_math_bits_deBruijn64tab), ("internal/strconv.uint64pow10", Rows.laid_internal_strconv_uint64pow10), ("unicode/utf8.acceptRanges", Rows.laid_unicode_utf8_acceptRanges), ("strconv.ErrRange", Rows.laid_strconv_ErrRange), ("strconv.ErrSyntax", Rows.laid_strconv_ErrSyntax), ("unicode.White_Space", Rows.laid_unicode_White_Space), ("strings.asciiSpace", Rows.laid_strings_asciiSpace), ("unicode/utf8.first", Rows.laid_unicode_utf8_first)] W) (hsh : W.ShapedOpen Tryz.prog) : PEnv W := by
 rw [MakeChecks.laidMetH_plain _ _ _ (by kernel_rfl)] at h0
 have h2 : laidMet Tryz.prog [("internal/strconv.uint64pow10", Rows.laid_internal_strconv_uint64pow10), ("unicode/utf8.acceptRanges", Rows.laid_unicode_utf8_acceptRanges), ("strconv.ErrRange", Rows.laid_strconv_ErrRange), ("strconv.ErrSyntax", Rows.laid_strconv_ErrSyntax), ("unicode.White_Space", Rows.laid_unicode_White_Space), ("strings.asciiSpace", Rows.laid_strings_asciiSpace), ("unicode/utf8.first", Rows.laid_unicode_utf8_first)] W := laidMet.tail (laidMet.tail h0)
 have h4 : laidMet Tryz.prog [("strconv.ErrRange", Rows.laid_strconv_ErrRange), ("strconv.ErrSyntax", Rows.laid_strconv_ErrSyntax), ("unicode.White_Space", Rows.laid_unicode_White_Space), ("strings.asciiSpace", Rows.laid_strings_asciiSpace), ("unicode/utf8.first", Rows.laid_unicode_utf8_first)] W := laidMet.tail (laidMet.tail h2)
 have h5 : laidMet Tryz.prog [("strconv.ErrSyntax", Rows.laid_strconv_ErrSyntax), ("unicode.White_Space", Rows.laid_unicode_White_Space), ("strings.asciiSpace", Rows.laid_strings_asciiSpace), ("unicode/utf8.first", Rows.laid_unicode_utf8_first)] W := laidMet.tail h4
 have h7 : laidMet Tryz.prog [("strings.asciiSpace", Rows.laid_strings_asciiSpace), ("unicode/utf8.first", Rows.laid_unicode_utf8_first)] W := laidMet.tail (laidMet.tail h5)
 refine ⟨?_, ?_, Tryz.laysM146.s1_3 W hsh, ?_, ?_⟩
 ·rw [dataTab] at h7
  exact Lib.tabIs_of_head (rest := [("unicode/utf8.first", Rows.laid_unicode_utf8_first)]) gTab gTypeTab Tryz.underlying252 Tryz.underlying5 cellsElTab cellsTab h7
 ·rw [dataTab10] at h2
  exact Lib.tabIs_of_head (rest := [("unicode/utf8.acceptRanges", Rows.laid_unicode_utf8_acceptRanges), ("strconv.ErrRange", Rows.laid_strconv_ErrRange), ("strconv.ErrSyntax", Rows.laid_strconv_ErrSyntax), ("unicode.White_Space", Rows.laid_unicode_White_Space), ("strings.asciiSpace", Rows.laid_strings_asciiSpace), ("unicode/utf8.first", Rows.laid_unicode_utf8_first)]) gTab10 gTypeTab10 Tryz.underlying344 Tryz.underlying287 cellsElTab10 cellsTab10 h2
 ·unfold Rows.laid_strconv_ErrSyntax at h5
  obtain ⟨a0, s0, hv0, -, -, -⟩ := laid_sentinel h5 gSyn gTypeSyn Tryz.underlying248 row_err Tryz.underlying357 Tryz.underlying359 rfl rfl Tryz.underlying9 cellsErr cellsStr
  exact ⟨_, _, hv0⟩
 ·unfold Rows.laid_strconv_ErrRange at h4
  obtain ⟨a0, s0, hv0, -, -, -⟩ := laid_sentinel h4 gRng gTypeRng Tryz.underlying248 row_err Tryz.underlying357 Tryz.underlying359 rfl rfl Tryz.underlying9 cellsErr cellsStr
  exact ⟨_, _, hv0⟩
end Go.Proofs.YtpjhjefjbkjhkaaGreatDoor
