import Derived.BigQuiet
import Derived.Deep.QuietTactic
import Derived.Laws.StructEq
import Derived.Test.YtmmmmeeepieemaaBuG
import Derived.Test.YtmmmmeeepieemaaEnterZ
import Derived.Test.YtmmmmeeepieemaaLiftIntsZ
import Derived.Test.YtmmmmeeepieemaaLiftModsZ
import Derived.Test.YtmmmmeeepieemaaLiftStrZ
import Derived.Test.YtmmmmeeepieemaaLinkTwoZ
import Derived.Test.YtmmmmeeepieemaaLinkedZ
/- The walk of EnterArgs. -/
namespace Go.Proofs.Ytmmmmeeepieemaa
open El (cl)
open Go Go.RowKit Go.Shelf
set_option linter.unusedVariables false
set_option linter.unusedSimpArgs false
/-- What a register of numbers holds. -/
def regN (args : List Int) (r : Nat) : Int := if r < args.length then args.getD r 0 else 0
theorem entR_len (x : EntryV) (args : List Int) : (entR x args).length = 8 := by unfold entR; rw [List.length_set, argR_len]
theorem entR_at (x : EntryV) (args : List Int) {r : Nat} (hr : r < 7) : (entR x args)[r]? = some ⟨false, regN args r, zeroK⟩ := by
  unfold entR argR regN
  rw [List.getElem?_set_ne (by omega), List.getElem?_map, List.getElem?_range (by omega)]
  simp only [Option.map_some]
  split <;> rfl
theorem entR_7 (x : EntryV) (args : List Int) : (entR x args)[7]? = some ⟨true, 0, ⟨x.data.perm, x.data.base, x.data.len, x.data.at_, 0⟩⟩ := by
  unfold entR
  rw [List.getElem?_set_self (by rw [argR_len]; omega)]
theorem mreg_cell {w : World} {g : Nat} {T : TypeId} {R : List ValV} {c : KeyV} {ms ss os : Value} (h : Bk w g T (mcs R c ms ss os)) (hR : R.length = 8) {r j : Nat} {x : ValV} {u : Value} (hx : R[r]? = some x) (hj : j < 7) (hu : (cl x)[j]? = some u) : w.cell? ⟨g, r * 7 + j, none⟩ = some u := by
  have hr : r < 8 := by rw [← hR]; exact (List.getElem?_eq_some_iff.1 hx).1
  refine (h.cell (r * 7 + j)).trans ?_
  rw [mcs_lo hR (by omega)]
  have h1 := cls_at R r (by omega) j (by show j < 7; exact hj)
  have e7 : El.k ValV = 7 := rfl
  rw [e7] at h1
  rw [h1, (List.getElem?_eq_some_iff.1 hx).2]
  exact hu
theorem neq_sameVal7 (a : Bool) (n p b l t q : Int) (W : World) : (binOp .neq 42 (.agg #[.bool a, .int .i64 n, .int .i64 p, .int .i64 b, .int .i64 l, .int .i64 t, .int .i64 q]) (.agg #[.bool a, .int .i64 n, .int .i64 p, .int .i64 b, .int .i64 l, .int .i64 t, .int .i64 q])).run Try.prog W = .ok (.bool false) W := by
  rw [run_neq_struct]
  go_simp
theorem eql_sameVal7 (a : Bool) (n p b l t q : Int) (W : World) : (binOp .eql 42 (.agg #[.bool a, .int .i64 n, .int .i64 p, .int .i64 b, .int .i64 l, .int .i64 t, .int .i64 q]) (.agg #[.bool a, .int .i64 n, .int .i64 p, .int .i64 b, .int .i64 l, .int .i64 t, .int .i64 q])).run Try.prog W = .ok (.bool true) W := by
  rw [run_eql_struct]
  go_simp
theorem eql_sameKey5 (p b l t q : Int) (W : World) : (binOp .eql 40 (.agg #[.int .i64 p, .int .i64 b, .int .i64 l, .int .i64 t, .int .i64 q]) (.agg #[.int .i64 p, .int .i64 b, .int .i64 l, .int .i64 t, .int .i64 q])).run Try.prog W = .ok (.bool true) W := by
  rw [run_eql_struct]
  go_simp
set_option maxHeartbeats 8000000 in
set_option maxRecDepth 100000 in
theorem args_bad (x0 : ModsA) (s : ByteArray) (l : SlV Int) (w : World) (hx : x0.ok w) (hl : l.ok I64 w) (hno : ¬ LinkOk isNameB x0.ms) : Calls Try.prog 8 #[x0.val, .string s, l.val] w fun e w' => e = .returned (.bool true) ∧ Below w.heap.size w w' := by
  obtain ⟨ao, N, c0, rs, ms⟩ := x0
  obtain ⟨hm, hle⟩ := hx
  obtain ⟨aa, an, ac, args⟩ := l
  obtain ⟨ha, hai, hac⟩ := hl
  simp only [ModsA.val, SlV.val] at *
  have hn := hm.n
  have hmx := hm.sl.max
  unfold maxLen at hmx
  have hal := ha.len
  have hamx := ha.max
  unfold maxLen at hamx
  have lk := link_bad ao N c0 rs ms w hm hno
  have LK := Lib.hid lk
  have HA := Lib.hid ha
  have HAI := Lib.hid hai
  clear lk hm ha hai
  go_enter Try.func8, Try.ntmps8
  go_upto_region 2 with (go_at_call 11; ((with_reducible refine (LK.out).mono ?_); rintro e w1 ⟨er, her, rfl, hb1⟩; have HB1 := Lib.hid hb1; clear hb1))
  have q1 : (er != 0) = true := by simpa using her
  obtain ⟨w2, hw2⟩ : ∃ w2, w2 = w1.alloc (.cells #[.slice none 0 0, .slice none 0 0, .slice none 0 0] 27) := ⟨_, rfl⟩
  rw [← hw2]
  have b2 : Bk w2 w1.heap.size 27 #[.slice none 0 0, .slice none 0 0, .slice none 0 0] := by rw [hw2]; exact bk_new _ _ _
  have HB2 := Lib.hid (show Below w.heap.size w w2 by rw [hw2]; exact ext_alloc HB1.out _)
  have B2 := Lib.hid b2
  clear b2 hw2
  go_upto_region 4 with (go_at_call 12; ((with_reducible refine (linked_any _).mono ?_); rintro e w3 ⟨rfl, hb3⟩; have HB3 := Lib.hid hb3; clear hb3))
  obtain ⟨i0, i1, i2⟩ := cells3 (bk_keep HB3.out B2.out)
  have iL := (bk_keep HB3.out B2.out).lt
  have en : ∃ ee, Calls Try.prog 20 #[.agg #[.slice none 0 0, .slice none 0 0, .slice none 0 0], .string s, .slice aa an ac] w3 fun e w4 => e = .returned (.tuple #[.agg zmc, .int .i64 ee]) ∧ Below w3.heap.size w3 w4 := by
    refine ⟨enterE [] s args, (enter_any none none none aa 0 0 0 0 0 0 an ac [] [] s args w3 (Sl.nil _ _) (Sl.nil _ _) (HA.out.below (ext_trans HB2.out HB3.out)) im_none HAI.out).mono ?_⟩
    rintro e w4 (⟨_, rfl, hb⟩ | ⟨_, x, vm, hf, _⟩)
    · exact ⟨rfl, hb⟩
    · exact absurd hf (by unfold findE; simp)
  obtain ⟨ee, en⟩ := en
  have EN := Lib.hid en
  clear en
  go_upto_region 5 with (first
    | (go_at_call 20; ((with_reducible refine (EN.out).mono ?_); rintro e w4 ⟨rfl, hb4⟩; have HB4 := Lib.hid hb4; clear hb4))
    | (refine wpList_store_fresh rfl 63 (.tmp 9) (.tmp 27) rfl rfl zmc 63 _ rfl (by first | rfl | kernel_rfl) (by kernel_rfl) (by kernel_rfl) (by kernel_rfl) ?_))
  obtain ⟨w5, hw5⟩ : ∃ w5, w5 = w4.alloc (.cells zmc 63) := ⟨_, rfl⟩
  rw [← hw5]
  have HB5 := Lib.hid (show Below w.heap.size w w5 by rw [hw5]; exact ext_alloc (ext_trans HB2.out (ext_trans HB3.out HB4.out)) _)
  clear hw5 i0 i1 i2 iL
  go_wp2
  go_ret
  exact ⟨rfl, HB5.out⟩
set_option maxHeartbeats 16000000 in
set_option maxRecDepth 100000 in
theorem args_good (x0 : ModsA) (s : ByteArray) (l : SlV Int) (w : World) (hx : x0.ok w) (hl : l.ok I64 w) (hok : LinkOk isNameB x0.ms) : Calls Try.prog 8 #[x0.val, .string s, l.val] w fun e w' => e = .returned (.bool true) ∧ Below w.heap.size w w' := by
  obtain ⟨ao, N, c0, rs, ms⟩ := x0
  obtain ⟨hm, hle⟩ := hx
  obtain ⟨aa, an, ac, args⟩ := l
  obtain ⟨ha, hai, hac⟩ := hl
  simp only [ModsA.val, SlV.val] at *
  have hn := hm.n
  have hmx := hm.sl.max
  unfold maxLen at hmx
  have hal := ha.len
  have hamx := ha.max
  unfold maxLen at hamx
  have lk := link_good ao N c0 rs ms w hm hok
  unfold LinkRes at lk
  have hio := hok.im_ok
  generalize linkMem ms = M at *
  generalize placesF 0 0 ms = P at *
  generalize entriesF 0 0 ms = E at *
  have LK := Lib.hid lk
  have HA := Lib.hid ha
  have HAI := Lib.hid hai
  have HIO := Lib.hid hio
  clear lk hm ha hai hio hok
  go_enter Try.func8, Try.ntmps8
  go_upto_region 2 with (go_at_call 11; ((with_reducible refine (LK.out).mono ?_); rintro e w1 ⟨vm, vp, ve, rfl, om, op, oe, hb⟩; obtain ⟨ma1, mc1, rfl, hms, hmc1⟩ := own_slc om; obtain ⟨pa1, pc1, rfl, hps, hpc1⟩ := own_slc op; obtain ⟨ea1, ec1, rfl, hes, hec1⟩ := own_slc oe; have MS1 := Lib.hid hms; have PS1 := Lib.hid hps; have ES1 := Lib.hid hes; have HB1 := Lib.hid hb; clear om op oe hb hms hps hes))
  obtain ⟨mn, hmn⟩ : ∃ mn, M.length = mn := ⟨_, rfl⟩
  obtain ⟨pn, hpn⟩ : ∃ pn, P.length = pn := ⟨_, rfl⟩
  obtain ⟨en1, hen1⟩ : ∃ en, E.length = en := ⟨_, rfl⟩
  rw [hmn] at MS1
  rw [hen1] at ES1
  obtain ⟨w2, hw2⟩ : ∃ w2, w2 = w1.alloc (.cells #[.slice ma1 mn mc1, .slice pa1 pn pc1, .slice ea1 en1 ec1] 27) := ⟨_, rfl⟩
  try rw [hmn]
  try rw [hpn]
  try rw [hen1]
  rw [← hw2]
  obtain ⟨gi, hgi⟩ : ∃ gi, w1.heap.size = gi := ⟨_, rfl⟩
  rw [hgi]
  have b2 : Bk w2 gi 27 #[.slice ma1 mn mc1, .slice pa1 pn pc1, .slice ea1 en1 ec1] := by rw [hw2, ← hgi]; exact bk_new _ _ _
  have r2 : Below w1.heap.size w1 w2 := by rw [hw2]; exact ext_alloc (Below.refl _ _) _
  have HB2 := Lib.hid (ext_trans HB1.out r2)
  have B2 := Lib.hid b2
  have MS2 := Lib.hid (MS1.out.below r2)
  have ES2 := Lib.hid (ES1.out.below r2)
  clear b2 hw2 r2 hgi MS1 PS1 ES1 HB1 LK
  go_upto_region 4 with (go_at_call 12; ((with_reducible refine (linked_any _).mono ?_); rintro e w3 ⟨rfl, hb3⟩; have HB3 := Lib.hid hb3; clear hb3))
  obtain ⟨i0, i1, i2⟩ := cells3 (bk_keep HB3.out B2.out)
  have iL := (bk_keep HB3.out B2.out).lt
  have en := enter_any ma1 pa1 ea1 aa mn mc1 pn pc1 en1 ec1 an ac M E s args w3 (MS2.out.below HB3.out) (ES2.out.below HB3.out) (HA.out.below (ext_trans HB2.out HB3.out)) HIO.out HAI.out
  by_cases hee : enterE E s args = 0
  · have hsome : ∃ x, findE E s = some x := by
      unfold enterE at hee
      split at hee
      · cases hee
      · split at hee
        · cases hee
        · split at hee
          · cases hee
          · next h => exact Option.ne_none_iff_exists'.1 h
    obtain ⟨x, hf⟩ := hsome
    have en' : Calls Try.prog 20 #[.agg #[.slice ma1 mn mc1, .slice pa1 pn pc1, .slice ea1 en1 ec1], .string s, .slice aa an ac] w3 fun e w4 => ∃ vm, e = .returned (.tuple #[.agg (mcs (entR x args) (entK x) vm (.slice none 0 0) (.slice none 0 0)), .int .i64 0]) ∧ Own w4 w3.heap.size 42 vm M ∧ Below w3.heap.size w3 w4 := by
      refine en.mono ?_
      rintro e w4 (⟨h, _⟩ | ⟨_, x', vm, hf', he, ho, hb⟩)
      · exact absurd hee h
      · rw [hf] at hf'
        injection hf' with hf'
        subst hf'
        exact ⟨vm, he, ho, hb⟩
    have EN := Lib.hid en'
    have hsz := fun v => mcs_size (c := entK x) (ms := v) (ss := .slice none 0 0) (os := .slice none 0 0) (entR_len x args)
    have hone := fun (va : Option Addr) (n c : Nat) => mcs_one (R := entR x args) (c := entK x) (ms := .slice va n c) (ss := .slice none 0 0) (os := .slice none 0 0) rfl rfl rfl
    have HSZ := Lib.hid hsz
    have HONE := Lib.hid hone
    clear en en' hsz hone
    go_upto_region 5 with (first
      | (go_at_call 20; ((with_reducible refine (EN.out).mono ?_); rintro e w4 ⟨vm, rfl, hom, hb4⟩; obtain ⟨va, vc, hvm, hvs, hvc⟩ := own_slc hom; rw [hmn] at hvm hvs; subst hvm; have HVS := Lib.hid hvs; have HB4 := Lib.hid hb4; clear hb4 hom hvs))
      | (refine wpList_store_fresh rfl 63 (.tmp 9) (.tmp 27) rfl rfl (mcs (entR x args) (entK x) (.slice va mn vc) (.slice none 0 0) (.slice none 0 0)) 63 _ rfl (by first | rfl | kernel_rfl) (by rw [HSZ.out]; kernel_rfl) (by rw [HSZ.out]; kernel_rfl) (HONE.out _ _ _) ?_))
    obtain ⟨w5, hw5⟩ : ∃ w5, w5 = w4.alloc (.cells (mcs (entR x args) (entK x) (.slice va mn vc) (.slice none 0 0) (.slice none 0 0)) 63) := ⟨_, rfl⟩
    try rw [hmn]
    rw [← hw5]
    obtain ⟨g9, hg9⟩ : ∃ g9, w4.heap.size = g9 := ⟨_, rfl⟩
    rw [hg9]
    have r5 : Below w4.heap.size w4 w5 := by rw [hw5]; exact ext_alloc (Below.refl _ _) _
    have m5 : Bk w5 g9 63 (mcs (entR x args) (entK x) (.slice va mn vc) (.slice none 0 0) (.slice none 0 0)) := by rw [hw5, ← hg9]; exact bk_new _ _ _
    have r35 := ext_trans HB4.out r5
    have HB5 := Lib.hid (ext_trans HB2.out (ext_trans HB3.out r35))
    have B5 := Lib.hid (bk_keep (ext_trans HB3.out r35) B2.out)
    have MS5 := Lib.hid (MS2.out.below (ext_trans HB3.out r35))
    have ES5 := Lib.hid (ES2.out.below (ext_trans HB3.out r35))
    have VS5 := Lib.hid (HVS.out.below r5)
    have M5 := Lib.hid m5
    have HF := Lib.hid hf
    clear hw5 r5 m5 r35 i0 i1 i2 iL hf hee hvc
    go_wp2
    go_loopw [35] (fun i wr => ∃ r : Nat, r ≤ 7 ∧ i = .int .i64 r ∧ Below w5.heap.size w5 wr) (fun i _ => 7 - (intOf i).toNat)
    case atStart => exact ⟨0, Nat.zero_le _, rfl, Below.refl _ _⟩
    case round =>
      obtain ⟨r, hr, rfl, hb⟩ := hrel
      by_cases hlt : r < 7
      · have q0 : (0 : Int) ≤ r := by omega
        have q1 : (r : Int) < 7 := by omega
        have HB := Lib.hid hb
        clear hb
        obtain ⟨gv, hgv⟩ : ∃ gv, gv = wr.heap.size := ⟨_, rfl⟩
        by_cases hra : r < an
        · have q2 : (r : Int) < an := by omega
          obtain ⟨n, hn⟩ : ∃ n, args[r]? = some n := ⟨_, List.getElem?_eq_getElem (by omega)⟩
          obtain ⟨ad, hao, hab, e0⟩ := sl_int (HA.out.below (ext_trans HB5.out HB.out)) hra hn
          subst hao
          have hreg : regN args r = n := by unfold regN; rw [if_pos (by omega), List.getD, hn]; rfl
          have HREG := Lib.hid hreg
          clear hn hreg
          obtain ⟨w6, hw6⟩ : ∃ w6, w6 = wr.alloc (.cells #[.bool false, .int .i64 n, .int .i64 0, .int .i64 0, .int .i64 0, .int .i64 0, .int .i64 0] 42) := ⟨_, rfl⟩
          have x6 : Bk w6 gv 42 #[.bool false, .int .i64 n, .int .i64 0, .int .i64 0, .int .i64 0, .int .i64 0, .int .i64 0] := by rw [hw6, hgv]; exact bk_new _ _ _
          have b6 : Below w5.heap.size w5 w6 := by rw [hw6]; exact ext_alloc HB.out _
          have HW6 := Lib.hid hw6
          have HGV := Lib.hid hgv
          clear hw6 hgv
          go_upto_region 13 with (fail)
          try rw [← HGV.out]
          rw [← HW6.out]
          clear e0 hab HW6 HGV
          rw [← HREG.out] at x6
          have m6 := bk_keep b6 M5.out
          have mL := m6.lt
          have hr7 := entR_at x args hlt
          have k0 : w6.cell? ⟨g9, r * 7, none⟩ = some (.bool false) := mreg_cell m6 (entR_len x args) (j := 0) hr7 (by decide) rfl
          have k1 := mreg_cell m6 (entR_len x args) (j := 1) hr7 (by decide) (u := .int .i64 (regN args r)) rfl
          have k2 := mreg_cell m6 (entR_len x args) (j := 2) hr7 (by decide) (u := .int .i64 0) rfl
          have k3 := mreg_cell m6 (entR_len x args) (j := 3) hr7 (by decide) (u := .int .i64 0) rfl
          have k4 := mreg_cell m6 (entR_len x args) (j := 4) hr7 (by decide) (u := .int .i64 0) rfl
          have k5 := mreg_cell m6 (entR_len x args) (j := 5) hr7 (by decide) (u := .int .i64 0) rfl
          have k6 := mreg_cell m6 (entR_len x args) (j := 6) hr7 (by decide) (u := .int .i64 0) rfl
          obtain ⟨y0, y1, y2, y3, y4, y5, y6⟩ := cells7 x6
          have yL := x6.lt
          have q8 : (r : Int) < 8 := by omega
          have q := fun W => neq_sameVal7 false (regN args r) 0 0 0 0 0 W
          have B6 := Lib.hid b6
          clear m6 hr7 x6 b6
          go_quiet (fail)
          clear k0 k1 k2 k3 k4 k5 k6 y0 y1 y2 y3 y4 y5 y6 mL yL
          go_wp2
          go_roundw
          case rel => exact ⟨r + 1, by omega, by go_num, ext_drewN B6.out _⟩
          case measure => simp [intOf]; omega
        · have q2 : ¬ ((r : Int) < an) := by omega
          have hreg : regN args r = 0 := by unfold regN; rw [if_neg (by omega)]
          have HREG := Lib.hid hreg
          clear hreg
          obtain ⟨w6, hw6⟩ : ∃ w6, w6 = wr.alloc (.cells #[.bool false, .int .i64 0, .int .i64 0, .int .i64 0, .int .i64 0, .int .i64 0, .int .i64 0] 42) := ⟨_, rfl⟩
          have x6 : Bk w6 gv 42 #[.bool false, .int .i64 0, .int .i64 0, .int .i64 0, .int .i64 0, .int .i64 0, .int .i64 0] := by rw [hw6, hgv]; exact bk_new _ _ _
          have b6 : Below w5.heap.size w5 w6 := by rw [hw6]; exact ext_alloc HB.out _
          have HW6 := Lib.hid hw6
          have HGV := Lib.hid hgv
          clear hw6 hgv
          go_upto_region 13 with (fail)
          try rw [← HGV.out]
          rw [← HW6.out]
          clear HW6 HGV
          have x6 : Bk w6 gv 42 #[.bool false, .int .i64 (regN args r), .int .i64 0, .int .i64 0, .int .i64 0, .int .i64 0, .int .i64 0] := by rw [HREG.out]; exact x6
          have m6 := bk_keep b6 M5.out
          have mL := m6.lt
          have hr7 := entR_at x args hlt
          have k0 : w6.cell? ⟨g9, r * 7, none⟩ = some (.bool false) := mreg_cell m6 (entR_len x args) (j := 0) hr7 (by decide) rfl
          have k1 := mreg_cell m6 (entR_len x args) (j := 1) hr7 (by decide) (u := .int .i64 (regN args r)) rfl
          have k2 := mreg_cell m6 (entR_len x args) (j := 2) hr7 (by decide) (u := .int .i64 0) rfl
          have k3 := mreg_cell m6 (entR_len x args) (j := 3) hr7 (by decide) (u := .int .i64 0) rfl
          have k4 := mreg_cell m6 (entR_len x args) (j := 4) hr7 (by decide) (u := .int .i64 0) rfl
          have k5 := mreg_cell m6 (entR_len x args) (j := 5) hr7 (by decide) (u := .int .i64 0) rfl
          have k6 := mreg_cell m6 (entR_len x args) (j := 6) hr7 (by decide) (u := .int .i64 0) rfl
          obtain ⟨y0, y1, y2, y3, y4, y5, y6⟩ := cells7 x6
          have yL := x6.lt
          have q8 : (r : Int) < 8 := by omega
          have q := fun W => neq_sameVal7 false (regN args r) 0 0 0 0 0 W
          have B6 := Lib.hid b6
          clear m6 hr7 x6 b6
          go_quiet (fail)
          clear k0 k1 k2 k3 k4 k5 k6 y0 y1 y2 y3 y4 y5 y6 mL yL
          go_wp2
          go_roundw
          case rel => exact ⟨r + 1, by omega, by go_num, ext_drewN B6.out _⟩
          case measure => simp [intOf]; omega
      · have q1 : ¬ ((r : Int) < 7) := by omega
        have HB := Lib.hid hb
        clear hb
        obtain ⟨i0, i1, i2⟩ := cells3 (bk_keep HB.out B5.out)
        have iL := (bk_keep HB.out B5.out).lt
        have fn := find_any ma1 pa1 ea1 mn mc1 pn pc1 en1 ec1 E s wr (ES5.out.below HB.out)
        rw [HF.out] at fn
        simp only [Option.getD_some, Option.isSome_some, EntryV.val, EntryV.cs] at fn
        have FN := Lib.hid fn
        clear fn
        go_upto_region 17 with (go_at_call 17; ((with_reducible refine (FN.out).mono ?_); rintro e w6 ⟨rfl, hb6⟩; have HB6 := Lib.hid hb6; clear hb6))
        obtain ⟨w7, hw7⟩ : ∃ w7, w7 = w6.alloc (.cells #[.string x.name, .int .i64 x.code.perm, .int .i64 x.code.base, .int .i64 x.code.len, .int .i64 x.code.at_, .int .i64 x.code.seal_, .int .i64 x.data.perm, .int .i64 x.data.base, .int .i64 x.data.len, .int .i64 x.data.at_, .int .i64 x.data.seal_] 51) := ⟨_, rfl⟩
        rw [← hw7]
        obtain ⟨gt, hgt⟩ : ∃ gt, w6.heap.size = gt := ⟨_, rfl⟩
        try rw [hgt]
        have r7 : Below w5.heap.size w5 w7 := by rw [hw7]; exact ext_alloc (ext_trans HB.out HB6.out) _
        have y7 : Bk w7 gt 51 #[.string x.name, .int .i64 x.code.perm, .int .i64 x.code.base, .int .i64 x.code.len, .int .i64 x.code.at_, .int .i64 x.code.seal_, .int .i64 x.data.perm, .int .i64 x.data.base, .int .i64 x.data.len, .int .i64 x.data.at_, .int .i64 x.data.seal_] := by rw [hw7, ← hgt]; exact bk_new _ _ _
        have hgt5 : w5.heap.size ≤ gt := by have h1 := HB.out.size; have h2 := HB6.out.size; omega
        have R7 := Lib.hid r7
        have Y7 := Lib.hid y7
        obtain ⟨s0, s1, s2, s3, s4, s5, s6, s7, s8, s9, s10⟩ := cells11 y7
        have sL := y7.lt
        have sF := fun i => y7.frozen i
        clear hw7 hgt r7 y7 i0 i1 i2 iL HB6
        go_upto_region 18 with (fail)
        obtain ⟨w8, hw8⟩ : ∃ w8, w8 = (w7.setCell ⟨gt, 10, none⟩ (.int .i64 0)).setCell ⟨gt, 5, none⟩ (.int .i64 0) := ⟨_, rfl⟩
        rw [← hw8]
        clear s0 s1 s2 s3 s4 s5 s6 s7 s8 s9 s10 sL sF
        have y8 : Bk w8 gt 51 #[.string x.name, .int .i64 x.code.perm, .int .i64 x.code.base, .int .i64 x.code.len, .int .i64 x.code.at_, .int .i64 0, .int .i64 x.data.perm, .int .i64 x.data.base, .int .i64 x.data.len, .int .i64 x.data.at_, .int .i64 0] := by rw [hw8]; exact bk_set' (bk_set' Y7.out rfl) rfl
        have b8 : Below w5.heap.size w5 w8 := by
          rw [hw8]
          have h1 := R7.out.grown (grown_setCell w7 gt 10 (.int .i64 0)) R7.out.size (fun i e => by injection e with e; omega)
          exact h1.grown (grown_setCell _ gt 5 (.int .i64 0)) h1.size (fun i e => by injection e with e; omega)
        obtain ⟨s0, s1, s2, s3, s4, s5, s6, s7, s8, s9, s10⟩ := cells11 y8
        have sL := y8.lt
        obtain ⟨i0, i1, i2⟩ := cells3 (bk_keep b8 B5.out)
        have iL := (bk_keep b8 B5.out).lt
        have m8 := bk_keep b8 M5.out
        have mL := m8.lt
        have r7 := entR_7 x args
        have r49 := mreg_cell m8 (entR_len x args) (j := 0) r7 (by decide) (u := .bool true) rfl
        have r50 := mreg_cell m8 (entR_len x args) (j := 1) r7 (by decide) (u := .int .i64 0) rfl
        have r51 := mreg_cell m8 (entR_len x args) (j := 2) r7 (by decide) (u := .int .i64 x.data.perm) rfl
        have r52 := mreg_cell m8 (entR_len x args) (j := 3) r7 (by decide) (u := .int .i64 x.data.base) rfl
        have r53 := mreg_cell m8 (entR_len x args) (j := 4) r7 (by decide) (u := .int .i64 x.data.len) rfl
        have r54 := mreg_cell m8 (entR_len x args) (j := 5) r7 (by decide) (u := .int .i64 x.data.at_) rfl
        have r55 := mreg_cell m8 (entR_len x args) (j := 6) r7 (by decide) (u := .int .i64 0) rfl
        have r56 : w8.cell? ⟨g9, 56, none⟩ = some (.int .i64 x.code.perm) := (m8.cell 56).trans (mcs_hi (entR_len x args) 0)
        have r57 : w8.cell? ⟨g9, 57, none⟩ = some (.int .i64 x.code.base) := (m8.cell 57).trans (mcs_hi (entR_len x args) 1)
        have r58 : w8.cell? ⟨g9, 58, none⟩ = some (.int .i64 x.code.len) := (m8.cell 58).trans (mcs_hi (entR_len x args) 2)
        have r59 : w8.cell? ⟨g9, 59, none⟩ = some (.int .i64 x.code.at_) := (m8.cell 59).trans (mcs_hi (entR_len x args) 3)
        have r60 : w8.cell? ⟨g9, 60, none⟩ = some (.int .i64 0) := (m8.cell 60).trans (mcs_hi (entR_len x args) 4)
        have r61 : w8.cell? ⟨g9, 61, none⟩ = some (.slice va mn vc) := (m8.cell 61).trans (mcs_hi (entR_len x args) 5)
        have r62 : w8.cell? ⟨g9, 62, none⟩ = some (.slice none 0 0) := (m8.cell 62).trans (mcs_hi (entR_len x args) 6)
        have r63 : w8.cell? ⟨g9, 63, none⟩ = some (.slice none 0 0) := (m8.cell 63).trans (mcs_hi (entR_len x args) 7)
        simp only [Nat.reduceMul, Nat.reduceAdd] at r49 r50 r51 r52 r53 r54 r55
        have q2 := fun W => eql_sameVal7 true 0 x.data.perm x.data.base x.data.len x.data.at_ 0 W
        have q3 := fun W => eql_sameKey5 x.code.perm x.code.base x.code.len x.code.at_ 0 W
        have eq := eq_val va ma1 mn mn vc mc1 M M w8 (VS5.out.below b8) (MS5.out.below b8)
        simp only [decide_true] at eq
        have EQ := Lib.hid eq
        have HB8 := Lib.hid (ext_trans HB5.out b8)
        have M8 := Lib.hid m8
        have B8 := Lib.hid b8
        clear hw8 y8 b8 m8 r7 eq
        go_wp2_with (go_at_call 14; ((with_reducible refine (EQ.out).mono ?_); rintro e w9 ⟨rfl, hb9⟩; have HB9 := Lib.hid hb9; have r62 := (bk_keep hb9 M8.out).cell 62; rw [show (62 : Nat) = 56 + 6 from rfl, mcs_hi (entR_len x args) 6] at r62; have r63 := (bk_keep hb9 M8.out).cell 63; rw [show (63 : Nat) = 56 + 7 from rfl, mcs_hi (entR_len x args) 7] at r63; have mL := (bk_keep hb9 M8.out).lt; simp only [Nat.reduceAdd, List.getElem?_cons_succ, List.getElem?_cons_zero] at r62 r63; clear hb9))
        go_ret
        exact ⟨rfl, ext_trans HB8.out HB9.out⟩
  · have en' : ∃ ee, (ee ≠ 0) ∧ Calls Try.prog 20 #[.agg #[.slice ma1 mn mc1, .slice pa1 pn pc1, .slice ea1 en1 ec1], .string s, .slice aa an ac] w3 fun e w4 => e = .returned (.tuple #[.agg zmc, .int .i64 ee]) ∧ Below w3.heap.size w3 w4 := by
      refine ⟨enterE E s args, hee, en.mono ?_⟩
      rintro e w4 (⟨_, rfl, hb⟩ | ⟨h, _⟩)
      · exact ⟨rfl, hb⟩
      · exact absurd h hee
    obtain ⟨ee, hee', en'⟩ := en'
    have q1 : (ee != 0) = true := by simpa using hee'
    have EN := Lib.hid en'
    clear en en'
    go_upto_region 5 with (first
      | (go_at_call 20; ((with_reducible refine (EN.out).mono ?_); rintro e w4 ⟨rfl, hb4⟩; have HB4 := Lib.hid hb4; clear hb4))
      | (refine wpList_store_fresh rfl 63 (.tmp 9) (.tmp 27) rfl rfl zmc 63 _ rfl (by first | rfl | kernel_rfl) (by kernel_rfl) (by kernel_rfl) (by kernel_rfl) ?_))
    obtain ⟨w5, hw5⟩ : ∃ w5, w5 = w4.alloc (.cells zmc 63) := ⟨_, rfl⟩
    rw [← hw5]
    have HB5 := Lib.hid (show Below w.heap.size w w5 by rw [hw5]; exact ext_alloc (ext_trans HB2.out (ext_trans HB3.out HB4.out)) _)
    clear hw5 i0 i1 i2 iL
    go_wp2
    go_ret
    exact ⟨rfl, HB5.out⟩
theorem enterArgs_walk {w : World} (x : ModsA) (s : ByteArray) (l : SlV Int) (hx : x.ok w) (hs : s.size ≤ maxLen) (hl : l.ok I64 w) : Calls Try.prog 8 #[x.val, .string s, l.val] w fun e w' => e = .returned (.bool true) ∧ Below w.heap.size w w' := by
  by_cases h : LinkOk isNameB x.ms
  · exact args_good x s l w hx hl h
  · exact args_bad x s l w hx hl h
end Go.Proofs.Ytmmmmeeepieemaa
