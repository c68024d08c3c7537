import Derived.Test.YtjlncoodkejncaaGreatDoorLiftModuleZ
import Derived.Test.YtjlncoodkejncaaGreatDoorMadeZ
import Derived.Test.YtjlncoodkejncaaGreatDoorModEqZ
/- A module is read as it was packed. -/
namespace Go.Proofs.YtjlncoodkejncaaGreatDoor
open Go Go.RowKit Go.Shelf
set_option linter.unusedVariables false
set_option linter.unusedSimpArgs false
theorem zero_ok : ModOk isNameB ⟨[], [], [], []⟩ :=
  ⟨by decide, by decide, by decide, by decide, fun n hn => by simp at hn, fun n hn => by simp at hn, fun x hx => by simp at hx, List.Pairwise.nil, fun x hx => by simp at hx, List.Pairwise.nil⟩
theorem zero_has (w : World) : ModR.has w ⟨⟨none, 0, 0⟩, ⟨none, 0, 0⟩, ⟨none, 0, 0⟩, ⟨none, 0, 0⟩⟩ ⟨[], [], [], []⟩ :=
  ⟨Sl.nil _ _, Sl.nil _ _, Sl.nil _ _, Sl.nil _ _, ⟨Nat.le_refl _, Nat.le_refl _, Nat.le_refl _, Nat.le_refl _⟩, fun x hx => (by cases hx), fun x hx => (by cases hx), fun x hx => (by cases hx), fun x hx => (by cases hx)⟩
/-- What Read leaves: a module that may be. -/
theorem fread_uni (S : ByteArray) (w : World) : Calls Tryz.prog 17 #[.string S] w fun e w' => ∃ (er : Int) (r : ModR) (m : ModV), e = .returned (.tuple #[.agg #[.slice r.code.a r.code.n r.code.c, .slice r.data.a r.data.n r.data.c, .slice r.ex.a r.ex.n r.ex.c, .slice r.im.a r.im.n r.im.c], .int .i64 er]) ∧
    r.has w' m ∧ ModOk isNameB m ∧ ((er ≠ 0 ∧ r.code.n = 0 ∧ r.data.n = 0) ∨ (er = 0 ∧ (⟨(packM m).toArray⟩ : ByteArray) = S)) ∧ Below w.heap.size w w' := by
  refine (fread_any S w).mono ?_
  rintro e w' ⟨h1, hb⟩
  rcases h1 with ⟨er, rfl, hw⟩ | ⟨r, rfl, hr, _, _, _, ho, hp⟩
  · refine ⟨er, ⟨⟨none, 0, 0⟩, ⟨none, 0, 0⟩, ⟨none, 0, 0⟩, ⟨none, 0, 0⟩⟩, _, rfl, zero_has _, zero_ok, .inl ⟨?_, rfl, rfl⟩, hb⟩
    rcases hw with ⟨_, rfl⟩ | ⟨_, rfl⟩ | ⟨_, _, _, rfl⟩ | ⟨_, _, _, _, rfl⟩ <;> decide
  · exact ⟨0, r, _, rfl, hr, ho, .inr ⟨rfl, by rw [hp]⟩, hb⟩
set_option maxHeartbeats 8000000 in
set_option maxRecDepth 100000 in
theorem modBack_bad (x : ModA) (s : ByteArray) (w : World) (hx : x.ok w) (he : PEnv w) (hno : ¬ ModOk isNameB x.m) : Calls Tryz.prog 6 #[x.val, .string s] w fun e w' => e = .returned (.bool true) ∧ Below w.heap.size w w' := by
  obtain ⟨⟨⟨ca, cn, cc⟩, ⟨da, dn, dc⟩, ⟨ea, en, ec⟩, ⟨ia, jn, ic⟩⟩, m⟩ := x
  obtain ⟨w1, hw1⟩ : ∃ w1, w1 = w.alloc (.cells #[.slice ca cn cc, .slice da dn dc, .slice ea en ec, .slice ia jn ic] 26) := ⟨_, rfl⟩
  have h1w : Below w.heap.size w w1 := by rw [hw1]; exact ext_alloc (Below.refl _ _) _
  have b1 : Bk w1 w.heap.size 26 #[.slice ca cn cc, .slice da dn dc, .slice ea en ec, .slice ia jn ic] := by rw [hw1]; exact bk_new _ _ _
  have hx1 : ModR.has w1 ⟨⟨ca, cn, cc⟩, ⟨da, dn, dc⟩, ⟨ea, en, ec⟩, ⟨ia, jn, ic⟩⟩ m := hx.below h1w
  obtain ⟨z0, z1, z2, z3⟩ := cellsM4 b1
  have zL := b1.lt
  have HW1 := Lib.hid hw1
  have H1 := Lib.hid h1w
  have M1 := Lib.hid b1
  have HE := Lib.hid he
  have HH := Lib.hid (show ModR.has w ⟨⟨ca, cn, cc⟩, ⟨da, dn, dc⟩, ⟨ea, en, ec⟩, ⟨ia, jn, ic⟩⟩ m from hx)
  have CK := Lib.hid (fun (W : World) (hb : Below w.heap.size w W) => mod_check _ m W (HH.out.below hb))
  have F2 := Lib.hid (fun W => fread_uni s W)
  have PK := Lib.hid (fpack_bad _ m w1 hx1 hno)
  clear hw1 h1w b1 he hx hx1
  show Calls Tryz.prog 6 #[.agg #[.slice ca cn cc, .slice da dn dc, .slice ea en ec, .slice ia jn ic], .string s] w _
  go_enter Tryz.func6, Tryz.ntmps6
  go_upto_region 1 with (fail)
  rw [← HW1.out]
  go_upto_region 4 with (first
    | (go_at_call 16; ((with_reducible refine PK.out.mono ?_); rintro e w2 ⟨er, hne, rfl, hb⟩; have q1 : (er != 0) = true := (by simpa using hne); have q2 : (er == 0) = false := (by simpa using hne); have HB2 := Lib.hid (ext_trans H1.out hb); have M2 := Lib.hid (bk_keep hb M1.out); (try clear z0 z1 z2 z3 zL); obtain ⟨z0, z1, z2, z3⟩ := cellsM4 M2.out; have zL := M2.out.lt; clear hb))
    | (go_at_call 8; ((with_reducible refine (made_any _ (HE.out.below HB2.out)).mono ?_); rintro e w3 ⟨rfl, hb⟩; have HB3 := Lib.hid (ext_trans HB2.out hb); have M3 := Lib.hid (bk_keep hb M2.out); (try clear z0 z1 z2 z3 zL); obtain ⟨z0, z1, z2, z3⟩ := cellsM4 M3.out; have zL := M3.out.lt; clear hb))
    | (go_at_call 9; ((with_reducible refine (CK.out _ HB3.out).mono ?_); rintro e w4 ⟨er4, rfl, her, hb⟩; have hne4 : er4 ≠ 0 := fun h => hno (her.1 h); have g1 : (er4 != 0) = true := (by simpa using hne4); have g2 : (er4 == 0) = false := (by simpa using hne4); clear her hne4; have HB4 := Lib.hid (ext_trans HB3.out hb); have M4 := Lib.hid (bk_keep hb M3.out); (try clear z0 z1 z2 z3 zL); obtain ⟨z0, z1, z2, z3⟩ := cellsM4 M4.out; have zL := M4.out.lt; clear hb)))
  clear z0 z1 z2 z3 zL
  go_upto_region 9 with (go_at_call 17; ((with_reducible refine (F2.out w4).mono ?_); rintro e w5 ⟨er5, ⟨⟨pa, pn, pc⟩, ⟨qa, qn, qc⟩, ⟨ra, rn, rc⟩, ⟨ta, tn, tc⟩⟩, m5, rfl, hr5, hok5, hd5, hb⟩; have HBK := Lib.hid (ext_trans HB4.out hb); have HR5 := Lib.hid hr5; have HOK5 := Lib.hid hok5; have HD5 := Lib.hid hd5; clear hb hr5 hok5 hd5))
  obtain ⟨g6, hg6⟩ : ∃ g, w5.heap.size = g := ⟨_, rfl⟩
  obtain ⟨w6, hw6⟩ : ∃ x, x = w5.alloc (.cells #[.slice pa pn pc, .slice qa qn qc, .slice ra rn rc, .slice ta tn tc] 26) := ⟨_, rfl⟩
  rw [← hw6]
  try rw [hg6]
  have b56 : Below w5.heap.size w5 w6 := by rw [hw6]; exact ext_alloc (Below.refl _ _) _
  have p6 : Bk w6 g6 26 #[.slice pa pn pc, .slice qa qn qc, .slice ra rn rc, .slice ta tn tc] := by rw [hw6, ← hg6]; exact bk_new _ _ _
  have h6 : ModR.has w6 ⟨⟨pa, pn, pc⟩, ⟨qa, qn, qc⟩, ⟨ra, rn, rc⟩, ⟨ta, tn, tc⟩⟩ m5 := HR5.out.below b56
  have pk6 := fpack_ok _ m5 w6 h6 HOK5.out
  obtain ⟨T5, hT5⟩ : ∃ x, (⟨(packM m5).toArray⟩ : ByteArray) = x := ⟨_, rfl⟩
  rw [hT5] at pk6
  have hd := HD5.out
  try simp only at hd
  rw [hT5] at hd
  have PK6 := Lib.hid pk6
  have H6 := Lib.hid h6
  have HB6 := Lib.hid (ext_trans HBK.out b56)
  have P6 := Lib.hid p6
  have HD := Lib.hid hd
  clear hw6 hg6 b56 h6 pk6 hT5 hd HD5 HR5
  obtain ⟨n0, n1, n2, n3⟩ := cellsM4 p6
  have nL := p6.lt
  clear p6
  go_upto_region 10 with (go_at_call 16; ((with_reducible refine PK6.out.mono ?_); rintro e w7 ⟨rfl, hb⟩; have HB7 := Lib.hid (ext_trans HB6.out hb); have P7 := Lib.hid (bk_keep hb P6.out); have CK7 := Lib.hid (mod_check _ m5 w7 (H6.out.below hb)); clear hb))
  clear n0 n1 n2 n3 nL
  obtain ⟨n0, n1, n2, n3⟩ := cellsM4 P7.out
  have nL := P7.out.lt
  rcases HD.out with ⟨hne5, rfl, rfl⟩ | ⟨rfl, rfl⟩
  · have g5 : (er5 != 0) = true := by simpa using hne5
    have g6' : (er5 == 0) = false := by simpa using hne5
    go_wp2
    go_ret
    exact ⟨rfl, HB7.out⟩
  · go_wp2_with (go_at_call 9; ((with_reducible refine CK7.out.mono ?_); rintro e w8 ⟨er8, rfl, her, hb⟩; obtain rfl := her.2 HOK5.out; have HB8 := Lib.hid (ext_trans HB7.out hb); clear her hb))
    go_ret
    exact ⟨rfl, HB8.out⟩
set_option maxHeartbeats 8000000 in
set_option maxRecDepth 100000 in
theorem modBack_ok (x : ModA) (s : ByteArray) (w : World) (hx : x.ok w) (he : PEnv w) (hok : ModOk isNameB x.m) : Calls Tryz.prog 6 #[x.val, .string s] w fun e w' => e = .returned (.bool true) ∧ Below w.heap.size w w' := by
  obtain ⟨⟨⟨ca, cn, cc⟩, ⟨da, dn, dc⟩, ⟨ea, en, ec⟩, ⟨ia, jn, ic⟩⟩, m⟩ := x
  obtain ⟨w1, hw1⟩ : ∃ w1, w1 = w.alloc (.cells #[.slice ca cn cc, .slice da dn dc, .slice ea en ec, .slice ia jn ic] 26) := ⟨_, rfl⟩
  have h1w : Below w.heap.size w w1 := by rw [hw1]; exact ext_alloc (Below.refl _ _) _
  have b1 : Bk w1 w.heap.size 26 #[.slice ca cn cc, .slice da dn dc, .slice ea en ec, .slice ia jn ic] := by rw [hw1]; exact bk_new _ _ _
  have hx1 : ModR.has w1 ⟨⟨ca, cn, cc⟩, ⟨da, dn, dc⟩, ⟨ea, en, ec⟩, ⟨ia, jn, ic⟩⟩ m := hx.below h1w
  obtain ⟨z0, z1, z2, z3⟩ := cellsM4 b1
  have zL := b1.lt
  have HW1 := Lib.hid hw1
  have H1 := Lib.hid h1w
  have M1 := Lib.hid b1
  have HE := Lib.hid he
  have HH := Lib.hid (show ModR.has w ⟨⟨ca, cn, cc⟩, ⟨da, dn, dc⟩, ⟨ea, en, ec⟩, ⟨ia, jn, ic⟩⟩ m from hx)
  have CK := Lib.hid (fun (W : World) (hb : Below w.heap.size w W) => mod_check _ m W (HH.out.below hb))
  have F2 := Lib.hid (fun W => fread_uni s W)
  have pk := fpack_ok _ m w1 hx1 hok
  obtain ⟨S, hS⟩ : ∃ S : ByteArray, (⟨(packM m).toArray⟩ : ByteArray) = S := ⟨_, rfl⟩
  have hSd : S.data.toList = packM m := by rw [← hS]
  rw [hS] at pk
  have PK := Lib.hid pk
  have HOK := Lib.hid hok
  have RB := Lib.hid (fun W => fread_pack m hok S hSd W)
  clear hw1 h1w b1 he hx hx1 pk hS hSd
  show Calls Tryz.prog 6 #[.agg #[.slice ca cn cc, .slice da dn dc, .slice ea en ec, .slice ia jn ic], .string s] w _
  go_enter Tryz.func6, Tryz.ntmps6
  go_upto_region 1 with (fail)
  rw [← HW1.out]
  go_upto_region 4 with (first
    | (go_at_call 16; ((with_reducible refine PK.out.mono ?_); rintro e w2 ⟨rfl, hb⟩; have HB2 := Lib.hid (ext_trans H1.out hb); have M2 := Lib.hid (bk_keep hb M1.out); (try clear z0 z1 z2 z3 zL); obtain ⟨z0, z1, z2, z3⟩ := cellsM4 M2.out; have zL := M2.out.lt; clear hb))
    | (go_at_call 8; ((with_reducible refine (made_any _ (HE.out.below HB2.out)).mono ?_); rintro e w3 ⟨rfl, hb⟩; have HB3 := Lib.hid (ext_trans HB2.out hb); have M3 := Lib.hid (bk_keep hb M2.out); (try clear z0 z1 z2 z3 zL); obtain ⟨z0, z1, z2, z3⟩ := cellsM4 M3.out; have zL := M3.out.lt; clear hb))
    | (go_at_call 9; ((with_reducible refine (CK.out _ HB3.out).mono ?_); rintro e w4 ⟨er4, rfl, her, hb⟩; obtain rfl := her.2 HOK.out; clear her; have HB4 := Lib.hid (ext_trans HB3.out hb); have M4 := Lib.hid (bk_keep hb M3.out); (try clear z0 z1 z2 z3 zL); obtain ⟨z0, z1, z2, z3⟩ := cellsM4 M4.out; have zL := M4.out.lt; clear hb)))
  go_upto_region 6 with (go_at_call 17; ((with_reducible refine (RB.out w4).mono ?_); rintro e w9 ⟨⟨⟨xa, xn, xc⟩, ⟨ya, yn, yc⟩, ⟨va, vn, vc⟩, ⟨za, zn, zc⟩⟩, rfl, hr, hb⟩; have HR9 := Lib.hid hr; have HB9 := Lib.hid (ext_trans HB4.out hb); have M9 := Lib.hid (bk_keep hb M4.out); clear hb hr))
  obtain ⟨gn, hgn⟩ : ∃ g, w9.heap.size = g := ⟨_, rfl⟩
  obtain ⟨wa, hwa⟩ : ∃ x, x = w9.alloc (.cells #[.slice xa xn xc, .slice ya yn yc, .slice va vn vc, .slice za zn zc] 26) := ⟨_, rfl⟩
  rw [← hwa]
  try rw [hgn]
  have b9a : Below w9.heap.size w9 wa := by rw [hwa]; exact ext_alloc (Below.refl _ _) _
  have pa' : Bk wa gn 26 #[.slice xa xn xc, .slice ya yn yc, .slice va vn vc, .slice za zn zc] := by rw [hwa, ← hgn]; exact bk_new _ _ _
  have ma' := bk_keep b9a M9.out
  have HBA := Lib.hid (ext_trans HB9.out b9a)
  have ME := Lib.hid (modEq_any _ _ m wa (HR9.out.below b9a) (HH.out.below HBA.out))
  clear z0 z1 z2 z3 zL hwa hgn b9a
  obtain ⟨z0, z1, z2, z3⟩ := cellsM4 ma'
  have zL := ma'.lt
  obtain ⟨k0, k1, k2, k3⟩ := cellsM4 pa'
  have kL := pa'.lt
  clear pa' ma'
  go_upto_region 8 with (go_at_call 18; ((with_reducible refine ME.out.mono ?_); rintro e wb ⟨rfl, hb⟩; have HBB := Lib.hid (ext_trans HBA.out hb); clear hb))
  clear k0 k1 k2 k3 kL
  clear z0 z1 z2 z3 zL
  go_upto_region 9 with (go_at_call 17; ((with_reducible refine (F2.out wb).mono ?_); rintro e w5 ⟨er5, ⟨⟨pa, pn, pc⟩, ⟨qa, qn, qc⟩, ⟨ra, rn, rc⟩, ⟨ta, tn, tc⟩⟩, m5, rfl, hr5, hok5, hd5, hb⟩; have HBK := Lib.hid (ext_trans HBB.out hb); have HR5 := Lib.hid hr5; have HOK5 := Lib.hid hok5; have HD5 := Lib.hid hd5; clear hb hr5 hok5 hd5))
  obtain ⟨g6, hg6⟩ : ∃ g, w5.heap.size = g := ⟨_, rfl⟩
  obtain ⟨w6, hw6⟩ : ∃ x, x = w5.alloc (.cells #[.slice pa pn pc, .slice qa qn qc, .slice ra rn rc, .slice ta tn tc] 26) := ⟨_, rfl⟩
  rw [← hw6]
  try rw [hg6]
  have b56 : Below w5.heap.size w5 w6 := by rw [hw6]; exact ext_alloc (Below.refl _ _) _
  have p6 : Bk w6 g6 26 #[.slice pa pn pc, .slice qa qn qc, .slice ra rn rc, .slice ta tn tc] := by rw [hw6, ← hg6]; exact bk_new _ _ _
  have h6 : ModR.has w6 ⟨⟨pa, pn, pc⟩, ⟨qa, qn, qc⟩, ⟨ra, rn, rc⟩, ⟨ta, tn, tc⟩⟩ m5 := HR5.out.below b56
  have pk6 := fpack_ok _ m5 w6 h6 HOK5.out
  obtain ⟨T5, hT5⟩ : ∃ x, (⟨(packM m5).toArray⟩ : ByteArray) = x := ⟨_, rfl⟩
  rw [hT5] at pk6
  have hd := HD5.out
  try simp only at hd
  rw [hT5] at hd
  have PK6 := Lib.hid pk6
  have H6 := Lib.hid h6
  have HB6 := Lib.hid (ext_trans HBK.out b56)
  have P6 := Lib.hid p6
  have HD := Lib.hid hd
  clear hw6 hg6 b56 h6 pk6 hT5 hd HD5 HR5
  obtain ⟨n0, n1, n2, n3⟩ := cellsM4 p6
  have nL := p6.lt
  clear p6
  go_upto_region 10 with (go_at_call 16; ((with_reducible refine PK6.out.mono ?_); rintro e w7 ⟨rfl, hb⟩; have HB7 := Lib.hid (ext_trans HB6.out hb); have P7 := Lib.hid (bk_keep hb P6.out); have CK7 := Lib.hid (mod_check _ m5 w7 (H6.out.below hb)); clear hb))
  clear n0 n1 n2 n3 nL
  obtain ⟨n0, n1, n2, n3⟩ := cellsM4 P7.out
  have nL := P7.out.lt
  rcases HD.out with ⟨hne5, rfl, rfl⟩ | ⟨rfl, rfl⟩
  · have g5 : (er5 != 0) = true := by simpa using hne5
    have g6' : (er5 == 0) = false := by simpa using hne5
    go_wp2
    go_ret
    exact ⟨rfl, HB7.out⟩
  · go_wp2_with (go_at_call 9; ((with_reducible refine CK7.out.mono ?_); rintro e w8 ⟨er8, rfl, her, hb⟩; obtain rfl := her.2 HOK5.out; have HB8 := Lib.hid (ext_trans HB7.out hb); clear her hb))
    go_ret
    exact ⟨rfl, HB8.out⟩
theorem moduleBack_walk (x : ModA) (s : ByteArray) (w : World) (hx : x.ok w) (hs : s.size ≤ maxLen) (he : PEnv w) : Calls Tryz.prog 6 #[x.val, .string s] w fun e w' => e = .returned (.bool true) ∧ Below w.heap.size w w' := by
  by_cases hok : ModOk isNameB x.m
  · exact modBack_ok x s w hx he hok
  · exact modBack_bad x s w hx he hok
end Go.Proofs.YtjlncoodkejncaaGreatDoor
