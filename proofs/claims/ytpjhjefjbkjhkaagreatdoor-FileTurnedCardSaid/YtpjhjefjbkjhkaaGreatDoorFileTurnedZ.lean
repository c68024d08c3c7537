import Derived.Test.YtpjhjefjbkjhkaaGreatDoorTurnBadZ
/- FileTurned. -/
namespace Go.Proofs.YtpjhjefjbkjhkaaGreatDoor
open Go Go.RowKit Go.Shelf
set_option linter.unusedVariables false
set_option linter.unusedSimpArgs false
/-- Another byte: told by the sum. -/
theorem fread_turned (m : ModV) (h : ModOk isNameB m) (k : Nat) (c : UInt8) (hk : k < (packM m).length) (S : ByteArray) (hS : S.data.toList = (packM m).set k c) (w : World) :
    Calls Tryz.prog 36 #[.string S] w fun e w' => ∃ r : ModR, e = .returned (.tuple #[.agg #[.slice r.code.a r.code.n r.code.c, .slice r.data.a r.data.n r.data.c, .slice r.ex.a r.ex.n r.ex.c, .slice r.im.a r.im.n r.im.c], .int .i64 (if (packM m)[k] = c then 0 else 6)]) ∧ Below w.heap.size w w' := by
  by_cases hc : (packM m)[k] = c
  · rw [if_pos hc]
    have e : (packM m).set k c = packM m := by rw [← hc]; exact List.set_getElem_self hk
    rw [e] at hS
    refine (fread_pack m h S hS w).mono ?_
    rintro e w' ⟨r, rfl, _, hb⟩
    exact ⟨r, rfl, hb⟩
  · rw [if_neg hc]
    have hno : ¬ SumOk S.data.toList := by rw [hS]; exact turned_bad (B := bodyL m) hk hc
    have hz := pack_size h
    have hl : S.data.toList.length = (packM m).length := by rw [hS, List.length_set]
    refine (fread_any S w).mono ?_
    rintro e w' ⟨h1, hb⟩
    rcases h1 with ⟨er, rfl, hw⟩ | ⟨r, rfl, _, _, _, a, _⟩
    · refine ⟨⟨⟨none, 0, 0⟩, ⟨none, 0, 0⟩, ⟨none, 0, 0⟩, ⟨none, 0, 0⟩⟩, ?_, hb⟩
      rcases hw with ⟨a, _⟩ | ⟨a, _⟩ | ⟨_, _, _, rfl⟩ | ⟨_, _, a, _⟩
      · omega
      · omega
      · rfl
      · exact absurd a hno
    · exact absurd a hno
/-- What was cut off is told. -/
theorem fread_cut (m : ModV) (h : ModOk isNameB m) (q : Nat) (hq : q < (packM m).length) (S : ByteArray) (hS : S.data.toList = (packM m).take q) (w : World) :
    Calls Tryz.prog 36 #[.string S] w fun e w' => ∃ (r : ModR) (er : Int), e = .returned (.tuple #[.agg #[.slice r.code.a r.code.n r.code.c, .slice r.data.a r.data.n r.data.c, .slice r.ex.a r.ex.n r.ex.c, .slice r.im.a r.im.n r.im.c], .int .i64 er]) ∧ er ≠ 0 ∧ Below w.heap.size w w' := by
  refine (fread_any S w).mono ?_
  rintro e w' ⟨h1, hb⟩
  rcases h1 with ⟨er, rfl, hw⟩ | ⟨r, rfl, _, _, _, _, ho, hp⟩
  · refine ⟨⟨⟨none, 0, 0⟩, ⟨none, 0, 0⟩, ⟨none, 0, 0⟩, ⟨none, 0, 0⟩⟩, er, rfl, ?_, hb⟩
    rcases hw with ⟨_, rfl⟩ | ⟨_, rfl⟩ | ⟨_, _, _, rfl⟩ | ⟨_, _, _, _, rfl⟩ <;> decide
  · exfalso
    rw [hS] at hp ho
    have e := pack_front (fileOk h) (fileOk ho) hp
    have e2 := congrArg List.length hp
    rw [e, List.length_take] at e2
    omega
set_option maxHeartbeats 40000000 in
set_option maxRecDepth 100000 in
theorem fileTurned_ok (x : ModA) (at_ cut : Int) (c : UInt8) (w : World) (hx : x.ok w) (he : PEnv w) (hok : ModOk isNameB x.m) : Calls Tryz.prog 7 #[x.val, .int .i64 at_, .int .i64 cut, .int .u8 (c.toNat : Int)] w fun e w' => e = .returned (.bool true) ∧ Below w.heap.size w w' := by
  obtain ⟨⟨⟨ca, cn, cc⟩, ⟨da, dn, dc⟩, ⟨ea, en, ec⟩, ⟨ia, jn, ic⟩⟩, m⟩ := x
  obtain ⟨w1, hw1⟩ : ∃ w1, w1 = w.alloc (.cells #[.slice ca cn cc, .slice da dn dc, .slice ea en ec, .slice ia jn ic] 28) := ⟨_, rfl⟩
  have h1w : Below w.heap.size w w1 := by rw [hw1]; exact ext_alloc (Below.refl _ _) _
  have b1 : Bk w1 w.heap.size 28 #[.slice ca cn cc, .slice da dn dc, .slice ea en ec, .slice ia jn ic] := by rw [hw1]; exact bk_new _ _ _
  have hx1 : ModR.has w1 ⟨⟨ca, cn, cc⟩, ⟨da, dn, dc⟩, ⟨ea, en, ec⟩, ⟨ia, jn, ic⟩⟩ m := hx.below h1w
  obtain ⟨z0, z1, z2, z3⟩ := cellsM4 b1
  have zL := b1.lt
  have HW1 := Lib.hid hw1
  have H1 := Lib.hid h1w
  have HE := Lib.hid he
  have pk := fpack_ok _ m w1 hx1 hok
  obtain ⟨S, hS⟩ : ∃ S : ByteArray, (⟨(packM m).toArray⟩ : ByteArray) = S := ⟨_, rfl⟩
  rw [hS] at pk
  have hSd : S.data.toList = packM m := by rw [← hS]
  have hSs : S.size = (packM m).length := by rw [← hSd, Array.length_toList]; rfl
  have hz : 9 ≤ (packM m).length ∧ (packM m).length ≤ 3000 := pack_size hok
  have n0 : 9 ≤ S.size := by omega
  have n1 : S.size ≤ 3000 := by omega
  obtain ⟨k, hk⟩ : ∃ k : Nat, at_ % (S.size : Int) = k := ⟨(at_ % (S.size : Int)).toNat, by have := Int.emod_nonneg at_ (show (S.size : Int) ≠ 0 by omega); omega⟩
  obtain ⟨q, hq⟩ : ∃ k : Nat, cut % (S.size : Int) = k := ⟨(cut % (S.size : Int)).toNat, by have := Int.emod_nonneg cut (show (S.size : Int) ≠ 0 by omega); omega⟩
  have k1 : (k : Int) < S.size := by have := Int.emod_lt_of_pos at_ (show (0 : Int) < S.size by omega); omega
  have q1 : (q : Int) < S.size := by have := Int.emod_lt_of_pos cut (show (0 : Int) < S.size by omega); omega
  have k2 : k < S.size := by omega
  have rs1 := fun W => rest_any at_ (S.size : Int) W (by omega) (by omega)
  rw [hk] at rs1
  have rs2 := fun W => rest_any cut (S.size : Int) W (by omega) (by omega)
  rw [hq] at rs2
  obtain ⟨X1, hX1⟩ : ∃ y, S.extract 0 k = y := ⟨_, rfl⟩
  obtain ⟨X2, hX2⟩ : ∃ y, X1 ++ (⟨#[c]⟩ : ByteArray) = y := ⟨_, rfl⟩
  obtain ⟨X3, hX3⟩ : ∃ y, S.extract (k + 1) S.size = y := ⟨_, rfl⟩
  obtain ⟨X4, hX4⟩ : ∃ y, X2 ++ X3 = y := ⟨_, rfl⟩
  obtain ⟨X5, hX5⟩ : ∃ y, S.extract 0 q = y := ⟨_, rfl⟩
  have d1 : X1.data.toList = (packM m).take k := by
    rw [← hX1, ← hSd]
    simp only [ByteArray.data_extract, Array.toList_extract, List.extract_eq_take_drop, List.drop_zero, Nat.sub_zero]
  have d3 : X3.data.toList = (packM m).drop (k + 1) := by
    rw [← hX3, ← hSd]
    simp only [ByteArray.data_extract, Array.toList_extract, List.extract_eq_take_drop]
    rw [List.take_of_length_le (by rw [List.length_drop, Array.length_toList]; exact Nat.le_refl _)]
  have d5 : X5.data.toList = (packM m).take q := by
    rw [← hX5, ← hSd]
    simp only [ByteArray.data_extract, Array.toList_extract, List.extract_eq_take_drop, List.drop_zero, Nat.sub_zero]
  have d4 : X4.data.toList = (packM m).set k c := by
    rw [← hX4, ← hX2, List.set_eq_take_append_cons_drop, if_pos (by omega), ← d1, ← d3]
    simp
  have l1 : X1.size ≤ 3000 := by
    have : X1.size = X1.data.toList.length := by rw [Array.length_toList]; rfl
    rw [this, d1, List.length_take]; omega
  have l3 : X3.size ≤ 3000 := by
    have : X3.size = X3.data.toList.length := by rw [Array.length_toList]; rfl
    rw [this, d3, List.length_drop]; omega
  have l2 : X2.size ≤ 3001 := by rw [← hX2, ByteArray.size_append]; show X1.size + 1 ≤ _; omega
  have a1 : Op.stringOp .add X1 ⟨#[c]⟩ = pure (.string X2) := by rw [← hX2]; exact str_add _ _ (by show X1.size + 1 ≤ _; omega)
  have a2 : Op.stringOp .add X2 X3 = pure (.string X4) := by rw [← hX4]; exact str_add _ _ (by omega)
  have kp : k < (packM m).length := by omega
  have rd1 := fun W => fread_turned m hok k c kp X4 d4 W
  have rd2 := fun W => fread_cut m hok q (by omega) X5 d5 W
  have hget : S[k] = (packM m)[k] := by
    have : S.data.toList[k]'(by rw [hSd]; exact kp) = (packM m)[k] := by simp only [hSd]
    rw [← this]; rfl
  obtain ⟨er1, her1⟩ : ∃ e : Int, (if (packM m)[k] = c then 0 else 6 : Int) = e := ⟨_, rfl⟩
  rw [her1] at rd1
  have hcase : (S[k] = c ∧ er1 = 0) ∨ (S[k] ≠ c ∧ er1 = 6) := by
    rw [hget, ← her1]
    by_cases h : (packM m)[k] = c
    · exact .inl ⟨h, if_pos h⟩
    · exact .inr ⟨h, if_neg h⟩
  have PK := Lib.hid pk
  have RS1 := Lib.hid rs1
  have RS2 := Lib.hid rs2
  have RD1 := Lib.hid rd1
  have RD2 := Lib.hid rd2
  have HC := Lib.hid hcase
  have kw : IntKind.i64.wrap ((k : Int) + 1) = (k : Int) + 1 := by rw [IntKind.wrap_i64]; omega
  have kt : ((k : Int) + 1).toNat = k + 1 := by omega
  have k3 : (0 : Int) ≤ (k : Int) + 1 := by omega
  have k4 : (k : Int) + 1 ≤ (S.size : Int) := by omega
  have k5 : (0 : Int) ≤ (k : Int) := by omega
  have k6 : (k : Int) ≤ (S.size : Int) := by omega
  have k7 : k ≤ S.size := by omega
  have k8 : k + 1 ≤ S.size := by omega
  have q5 : (0 : Int) ≤ (q : Int) := by omega
  have q6 : (q : Int) ≤ (S.size : Int) := by omega
  have q7 : q ≤ S.size := by omega
  clear hw1 h1w b1 he hx hx1 pk hS hSd hSs hz rs1 rs2 rd1 rd2 hcase her1 hget d1 d3 d4 d5 l1 l2 l3 hX2 hX4 hk hq kp
  show Calls Tryz.prog 7 #[.agg #[.slice ca cn cc, .slice da dn dc, .slice ea en ec, .slice ia jn ic], .int .i64 at_, .int .i64 cut, .int .u8 (c.toNat : Int)] w _
  go_enter Tryz.func7, Tryz.ntmps7
  go_upto_region 1 with (fail)
  rw [← HW1.out]
  go_upto_region 7 with (first
    | (go_at_call 35; ((with_reducible refine PK.out.mono ?_); rintro e w2 ⟨rfl, hb2⟩; have HB2 := Lib.hid (ext_trans H1.out hb2); clear hb2))
    | (go_at_call 31; ((with_reducible refine (made_any _ (HE.out.below HB2.out)).mono ?_); rintro e w3 ⟨rfl, hb3⟩; have HB3 := Lib.hid (ext_trans HB2.out hb3); clear hb3))
    | (go_at_call 27; ((with_reducible refine (RS1.out _).mono ?_); rintro e w' ⟨rfl, hw'⟩; subst w'))
    | (go_at_call 27; ((with_reducible refine (RS2.out _).mono ?_); rintro e w' ⟨rfl, hw'⟩; subst w')))
  clear z0 z1 z2 z3 zL
  have kc : (convert 91 9 (.slice (some ⟨w3.heap.size, 0, none⟩) 1 1)).run Tryz.prog ((w3.alloc (.cells #[.int .u8 (c.toNat : Int)] 5)).drew) = .ok (.string ⟨#[c]⟩) ((w3.alloc (.cells #[.int .u8 (c.toNat : Int)] 5)).drew) :=
    rowB_string (P := Tryz.prog) (own_lit (xs := [c]) w3 5 0 (Nat.zero_le _) #[.int .u8 (c.toNat : Int)] 1 rfl (by decide) rfl).drew (by simp) Tryz.underlying91 Tryz.underlying5 Tryz.underlying9
  have kc2 : (convert 91 9 (.slice (some ⟨w3.heap.size, 0, none⟩) 1 1)).run Tryz.prog (((w3.alloc (.cells #[.int .u8 (c.toNat : Int)] 5)).alloc (.cells #[.slice none 0 0, .slice none 0 0, .slice none 0 0, .slice none 0 0] 28)).drew) = .ok (.string ⟨#[c]⟩) (((w3.alloc (.cells #[.int .u8 (c.toNat : Int)] 5)).alloc (.cells #[.slice none 0 0, .slice none 0 0, .slice none 0 0, .slice none 0 0] 28)).drew) :=
    rowB_string (P := Tryz.prog) ((own_lit (xs := [c]) w3 5 0 (Nat.zero_le _) #[.int .u8 (c.toNat : Int)] 1 rfl (by decide) rfl).alloc (.cells #[.slice none 0 0, .slice none 0 0, .slice none 0 0, .slice none 0 0] 28)).drew (by simp) Tryz.underlying91 Tryz.underlying5 Tryz.underlying9
  have kc3 : (convert 91 9 (.slice (some ⟨w3.heap.size + 1, 0, none⟩) 1 1)).run Tryz.prog (((w3.alloc (.cells #[.slice none 0 0, .slice none 0 0, .slice none 0 0, .slice none 0 0] 28)).alloc (.cells #[.int .u8 (c.toNat : Int)] 5)).drew) = .ok (.string ⟨#[c]⟩) (((w3.alloc (.cells #[.slice none 0 0, .slice none 0 0, .slice none 0 0, .slice none 0 0] 28)).alloc (.cells #[.int .u8 (c.toNat : Int)] 5)).drew) := by
    have h := (own_lit (xs := [c]) (w3.alloc (.cells #[.slice none 0 0, .slice none 0 0, .slice none 0 0, .slice none 0 0] 28)) 5 0 (Nat.zero_le _) #[.int .u8 (c.toNat : Int)] 1 rfl (by decide) rfl).drew
    rw [World.size_alloc] at h
    exact rowB_string (P := Tryz.prog) h (by simp) Tryz.underlying91 Tryz.underlying5 Tryz.underlying9
  have V0 := Lib.hid (show Bk ((w3.alloc (.cells #[.int .u8 (c.toNat : Int)] 5)).alloc (.cells #[.slice none 0 0, .slice none 0 0, .slice none 0 0, .slice none 0 0] 28)) (w3.heap.size + 1) 28 #[.slice none 0 0, .slice none 0 0, .slice none 0 0, .slice none 0 0] by
    have h := bk_new (w3.alloc (.cells #[.int .u8 (c.toNat : Int)] 5)) 28 #[.slice none 0 0, .slice none 0 0, .slice none 0 0, .slice none 0 0]
    rw [World.size_alloc] at h
    exact h)
  have V1 := Lib.hid (show Bk ((w3.alloc (.cells #[.slice none 0 0, .slice none 0 0, .slice none 0 0, .slice none 0 0] 28)).alloc (.cells #[.int .u8 (c.toNat : Int)] 5)) w3.heap.size 28 #[.slice none 0 0, .slice none 0 0, .slice none 0 0, .slice none 0 0] from bk_old _ (bk_new w3 _ _))
  go_region_law (go_simp; go_at_call 36; ((with_reducible refine (RD1.out _).mono ?_); rintro e w10 ⟨r, rfl, hb10⟩; have H10 := Lib.hid (ext_trans HB3.out (ext_trans (by repeat (first | exact Below.refl _ _ | refine ext_drew ?_ | refine ext_alloc ?_ _)) hb10)); (first | (have v0 := bk_keep hb10 (bk_drew V0.out); obtain ⟨u0, u1, u2, u3⟩ := cellsM4 v0; have uL := v0.lt; have uF := fun i => Bk.frozen v0 i; have HV := Lib.hid v0; clear v0) | (have v0 := bk_keep hb10 (bk_drew V1.out); obtain ⟨u0, u1, u2, u3⟩ := cellsM4 v0; have uL := v0.lt; have uF := fun i => Bk.frozen v0 i; have HV := Lib.hid v0; clear v0) | skip); clear hb10))
  all_goals (
    have RDC := Lib.hid (fun W => RD2.out W)
    rcases HC.out with ⟨hc1, rfl⟩ | ⟨hc1, rfl⟩
    all_goals (
      first
        | have b1 : ((S[k].toNat : Int) == (c.toNat : Int)) = true := by rw [hc1]; exact beq_self_eq_true _
        | have b1 : ((S[k].toNat : Int) == (c.toNat : Int)) = false := beq_false_of_ne (fun h => hc1 (UInt8.toNat_inj.1 (by omega)))
      go_wp2_with (go_at_call 36; ((with_reducible refine (RD2.out _).mono ?_); rintro e w11 ⟨r2, er2, rfl, hne, hb11⟩; have g1 : (er2 != 0) = true := (by simpa using hne); have g2 : (er2 == 0) = false := (by simpa using hne); have H11 := Lib.hid hb11; clear hb11))
      go_ret
      refine ⟨rfl, ?_⟩
      first
        | exact ext_trans H10.out (ext_trans (ext_alloc (Below.refl _ _) _) (ext_alloc H11.out _))
        | exact ext_alloc (ext_trans ((((H10.out.setCell (p := ⟨w3.heap.size + 1, 0, none⟩) (Nat.le_succ_of_le HB3.out.size) _).setCell (p := ⟨w3.heap.size + 1, 1, none⟩) (Nat.le_succ_of_le HB3.out.size) _).setCell (p := ⟨w3.heap.size + 1, 2, none⟩) (Nat.le_succ_of_le HB3.out.size) _).setCell (p := ⟨w3.heap.size + 1, 3, none⟩) (Nat.le_succ_of_le HB3.out.size) _) H11.out) _
        | exact ext_alloc (ext_trans ((((H10.out.setCell (p := ⟨w3.heap.size, 0, none⟩) HB3.out.size _).setCell (p := ⟨w3.heap.size, 1, none⟩) HB3.out.size _).setCell (p := ⟨w3.heap.size, 2, none⟩) HB3.out.size _).setCell (p := ⟨w3.heap.size, 3, none⟩) HB3.out.size _) H11.out) _))
theorem byte_bdT {n : Int} (h : (Lit.int .u8 n).wf = true) : 0 ≤ n ∧ n < 256 := by
  simp [Lit.wf, IntKind.min, IntKind.max, IntKind.bits, IntKind.signed] at h
  omega
theorem fileTurned_walk (x : ModA) (at_ cut c : Int) (w : World) (hx : x.ok w) (h1 : -9223372036854775808 ≤ at_ ∧ at_ ≤ 9223372036854775807) (h2 : -9223372036854775808 ≤ cut ∧ cut ≤ 9223372036854775807) (hc : (Lit.int .u8 c).wf = true) (he : PEnv w) : Calls Tryz.prog 7 #[x.val, .int .i64 at_, .int .i64 cut, .int .u8 c] w fun e w' => e = .returned (.bool true) ∧ Below w.heap.size w w' := by
  obtain ⟨b0, b1⟩ := byte_bdT hc
  obtain ⟨cb, hcb⟩ : ∃ cb : UInt8, c = (cb.toNat : Int) := ⟨UInt8.ofNat c.toNat, by simp; omega⟩
  subst hcb
  by_cases hok : ModOk isNameB x.m
  · exact fileTurned_ok x at_ cut cb w hx he hok
  · exact fileTurned_bad x at_ cut (cb.toNat : Int) w hx he hok
end Go.Proofs.YtpjhjefjbkjhkaaGreatDoor
