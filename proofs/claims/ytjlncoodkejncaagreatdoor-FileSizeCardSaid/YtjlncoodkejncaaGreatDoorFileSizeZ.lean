import Derived.Test.YtjlncoodkejncaaGreatDoorFilePackZ
import Derived.Test.YtjlncoodkejncaaGreatDoorLiftModuleZ
import Derived.Test.YtjlncoodkejncaaGreatDoorMadeZ
/- How long a module's file is. -/
namespace Go.Proofs.YtjlncoodkejncaaGreatDoor
open Go Go.RowKit Go.Shelf
set_option linter.unusedVariables false
set_option linter.unusedSimpArgs false
theorem namesN_snoc (l : List NamV) (x : NamV) : namesN (l ++ [x]) = namesN l + x.name.size := by unfold namesN; simp
theorem namesN_le : ∀ {l : List NamV}, (∀ x ∈ l, x.name.size ≤ 12) → namesN l ≤ 12 * l.length
  | [], _ => by simp [namesN]
  | x :: l, h => by
    have h1 := namesN_le (l := l) fun y hy => h y (List.mem_cons_of_mem _ hy)
    have h2 := h x (by simp)
    have e : namesN (x :: l) = x.name.size + namesN l := by unfold namesN; simp
    rw [e, List.length_cons]
    omega
set_option maxHeartbeats 4000000 in
set_option maxRecDepth 100000 in
theorem fileSize_bad (x : ModA) (w : World) (hx : x.ok w) (he : PEnv w) (hno : ¬ ModOk isNameB x.m) : Calls Tryz.prog 5 #[x.val] w fun e w' => e = .returned (.bool true) ∧ Below w.heap.size w w' := by
  obtain ⟨⟨⟨ca, cn, cc⟩, ⟨da, dn, dc⟩, ⟨ea, en, ec⟩, ⟨ia, jn, ic⟩⟩, m⟩ := x
  obtain ⟨w1, hw1⟩ : ∃ w1, w1 = w.alloc (.cells #[.slice ca cn cc, .slice da dn dc, .slice ea en ec, .slice ia jn ic] 26) := ⟨_, rfl⟩
  have h1w : Below w.heap.size w w1 := by rw [hw1]; exact ext_alloc (Below.refl _ _) _
  have b1 : Bk w1 w.heap.size 26 #[.slice ca cn cc, .slice da dn dc, .slice ea en ec, .slice ia jn ic] := by rw [hw1]; exact bk_new _ _ _
  have hx1 : ModR.has w1 ⟨⟨ca, cn, cc⟩, ⟨da, dn, dc⟩, ⟨ea, en, ec⟩, ⟨ia, jn, ic⟩⟩ m := hx.below h1w
  obtain ⟨z0, z1, z2, z3⟩ := cellsM4 b1
  have zL := b1.lt
  have HW1 := Lib.hid hw1
  have H1 := Lib.hid h1w
  have M1 := Lib.hid b1
  have HE := Lib.hid he
  have PK := Lib.hid (fpack_bad _ m w1 hx1 hno)
  clear hw1 h1w b1 he hx hx1
  show Calls Tryz.prog 5 #[.agg #[.slice ca cn cc, .slice da dn dc, .slice ea en ec, .slice ia jn ic]] w _
  go_enter Tryz.func5, Tryz.ntmps5
  go_upto_region 1 with (fail)
  rw [← HW1.out]
  go_wp2_with (first
    | (go_at_call 16; ((with_reducible refine PK.out.mono ?_); rintro e w2 ⟨er, hne, rfl, hb2⟩; have q1 : (er != 0) = true := (by simpa using hne); have q2 : (er == 0) = false := (by simpa using hne); have HB2 := Lib.hid (ext_trans H1.out hb2); have M2 := Lib.hid (bk_keep hb2 M1.out); clear hb2))
    | (go_at_call 8; ((with_reducible refine (made_any _ (HE.out.below HB2.out)).mono ?_); rintro e w3 ⟨rfl, hb3⟩; have HB3 := Lib.hid (ext_trans HB2.out hb3); have M3 := Lib.hid (bk_keep hb3 M2.out); clear hb3)))
  go_ret
  exact ⟨rfl, HB3.out⟩
set_option maxHeartbeats 4000000 in
set_option maxRecDepth 100000 in
theorem fileSize_ok (x : ModA) (w : World) (hx : x.ok w) (he : PEnv w) (hok : ModOk isNameB x.m) : Calls Tryz.prog 5 #[x.val] w fun e w' => e = .returned (.bool true) ∧ Below w.heap.size w w' := by
  obtain ⟨⟨⟨ca, cn, cc⟩, ⟨da, dn, dc⟩, ⟨ea, en, ec⟩, ⟨ia, jn, ic⟩⟩, m⟩ := x
  obtain ⟨w1, hw1⟩ : ∃ w1, w1 = w.alloc (.cells #[.slice ca cn cc, .slice da dn dc, .slice ea en ec, .slice ia jn ic] 26) := ⟨_, rfl⟩
  have h1w : Below w.heap.size w w1 := by rw [hw1]; exact ext_alloc (Below.refl _ _) _
  have b1 : Bk w1 w.heap.size 26 #[.slice ca cn cc, .slice da dn dc, .slice ea en ec, .slice ia jn ic] := by rw [hw1]; exact bk_new _ _ _
  have hx1 : ModR.has w1 ⟨⟨ca, cn, cc⟩, ⟨da, dn, dc⟩, ⟨ea, en, ec⟩, ⟨ia, jn, ic⟩⟩ m := hx.below h1w
  obtain ⟨z0, z1, z2, z3⟩ := cellsM4 b1
  have zL := b1.lt
  have HW1 := Lib.hid hw1
  have H1 := Lib.hid h1w
  have M1 := Lib.hid b1
  have HE := Lib.hid he
  have len0 : m.code.length = cn := hx.code.len
  have len1 : m.data.length = dn := hx.data.len
  have len2 : m.ex.length = en := hx.ex.len
  have len3 : m.im.length = jn := hx.im.len
  have l1 := hok.l1
  have l2 := hok.l2
  have l3 := hok.l3
  have l4 := hok.l4
  rw [len0] at l1
  rw [len1] at l2
  rw [len2] at l3
  rw [len3] at l4
  have pk := fpack_ok _ m w1 hx1 hok
  have hpl := packM_len m
  rw [len0, len1, len2, len3] at hpl
  obtain ⟨S, hS⟩ : ∃ S : ByteArray, (⟨(packM m).toArray⟩ : ByteArray) = S := ⟨_, rfl⟩
  have hSs : S.size = (packM m).length := by rw [← hS]; simp [ByteArray.size]
  have hS3 : (S.extract 0 3).toList = [67, 77, 49] := by
    have e : S.data.toList = packM m := by rw [← hS]
    rw [ByteArray.toList_eq]
    simp only [ByteArray.data_extract, Array.toList_extract, List.extract_eq_take_drop]
    rw [e]
    rfl
  rw [hS] at pk
  rw [← hSs] at hpl
  have PK := Lib.hid pk
  have HPL := Lib.hid hpl
  have HS3 := Lib.hid hS3
  have HSZ := Lib.hid (show 3 ≤ S.size by omega)
  have HOK := Lib.hid hok
  have HH := Lib.hid (show ModR.has w ⟨⟨ca, cn, cc⟩, ⟨da, dn, dc⟩, ⟨ea, en, ec⟩, ⟨ia, jn, ic⟩⟩ m from hx)
  obtain ⟨n0, hn0⟩ : ∃ n0 : Nat, n0 = 9 + 4 * (cn + dn) + 2 * (en + jn) := ⟨_, rfl⟩
  clear hw1 h1w b1 he hx hx1 pk hpl hSs hS3 hS
  show Calls Tryz.prog 5 #[.agg #[.slice ca cn cc, .slice da dn dc, .slice ea en ec, .slice ia jn ic]] w _
  go_enter Tryz.func5, Tryz.ntmps5
  go_upto_region 1 with (fail)
  rw [← HW1.out]
  go_upto_region 6 with (first
    | (go_at_call 16; ((with_reducible refine PK.out.mono ?_); rintro e w2 ⟨rfl, hb2⟩; have HB2 := Lib.hid (ext_trans H1.out hb2); have M2 := Lib.hid (bk_keep hb2 M1.out); clear hb2))
    | (go_at_call 8; ((with_reducible refine (made_any _ (HE.out.below HB2.out)).mono ?_); rintro e w3 ⟨rfl, hb3⟩; have HB3 := Lib.hid (ext_trans HB2.out hb3); have M3 := Lib.hid (bk_keep hb3 M2.out); clear hb3)))
  clear z0 z1 z2 z3 zL
  obtain ⟨z0, z1, z2, z3⟩ := cellsM4 M3.out
  have zL := M3.out.lt
  go_upto_region 7 with (fail)
  rw [show (9 + 4 * ((cn : Int) + dn) + 2 * ((en : Int) + jn)) = (n0 : Int) by omega]
  have hn1 : n0 ≤ 2000 := by omega
  have HN0 := Lib.hid hn0
  clear hn0
  go_wp2
  clear z0 z1 z2 z3 zL
  go_loopw [5, 42] (fun v i wr => ∃ j : Nat, j ≤ en ∧ i = .int .i64 j ∧ v = .int .i64 ((n0 + namesN (m.ex.take j) : Nat) : Int) ∧ Below w3.heap.size w3 wr) (fun _ i _ => en - (intOf i).toNat)
  case atStart => exact ⟨0, Nat.zero_le _, rfl, by simp [namesN], Below.refl _ _⟩
  case round =>
    obtain ⟨j, hj, rfl, rfl, hb⟩ := hrel
    have hnm := namesN_le (l := m.ex.take j) fun y hy => nameB_le (HOK.out.e1 y (List.mem_of_mem_take hy)).1
    rw [List.length_take] at hnm
    by_cases hlj : j < en
    · have o0 : (0 : Int) ≤ j := by omega
      have o1 : (j : Int) < en := by omega
      obtain ⟨x, hx⟩ : ∃ x, m.ex[j]? = some x := ⟨_, List.getElem?_eq_getElem (by omega)⟩
      have hxn := nameB_le (HOK.out.e1 x (List.mem_of_getElem? hx)).1
      obtain ⟨ad, hao, hab, e0, e1⟩ := sl_NamV (HH.out.ex.below (ext_trans HB3.out hb)) hlj hx
      simp only at hao
      subst hao
      have htk : namesN (m.ex.take (j + 1)) = namesN (m.ex.take j) + x.name.size := by rw [List.take_add_one, hx]; exact namesN_snoc _ _
      have HTK := Lib.hid htk
      have HBW := Lib.hid hb
      clear hb hx htk
      generalize namesN (m.ex.take j) = q at *
      go_wp2
      go_roundw
      case rel => exact ⟨j + 1, by omega, by go_num, vint (by rw [HTK.out]; go_num), ext_alloc HBW.out _⟩
      case measure => simp [intOf]; omega
    · have o1 : ¬ ((j : Int) < en) := by omega
      obtain rfl : j = en := by omega
      rw [List.take_of_length_le (by omega)] at hnm ⊢
      obtain ⟨n1, hn1⟩ : ∃ n1, n1 = namesN m.ex := ⟨_, rfl⟩
      rw [← hn1] at hnm ⊢
      have HN1 := Lib.hid hn1
      obtain ⟨m0, m1, m2, m3⟩ := cellsM4 (bk_keep hb M3.out)
      have mL := (bk_keep hb M3.out).lt
      have HBA := Lib.hid hb
      clear hb hn1
      go_wp2
      clear m0 m1 m2 m3 mL
      go_loopw [5, 55] (fun v i wr => ∃ j : Nat, j ≤ jn ∧ i = .int .i64 j ∧ v = .int .i64 ((n0 + n1 + namesN (m.im.take j) : Nat) : Int) ∧ Below w3.heap.size w3 wr) (fun _ i _ => jn - (intOf i).toNat)
      case atStart => exact ⟨0, Nat.zero_le _, rfl, by simp [namesN], HBA.out⟩
      case round =>
        obtain ⟨j, hj, rfl, rfl, hb⟩ := hrel
        have hnm := namesN_le (l := m.im.take j) fun y hy => nameB_le (HOK.out.i1 y (List.mem_of_mem_take hy)).1
        rw [List.length_take] at hnm
        by_cases hlj : j < jn
        · have o0 : (0 : Int) ≤ j := by omega
          have o1 : (j : Int) < jn := by omega
          obtain ⟨x, hx⟩ : ∃ x, m.im[j]? = some x := ⟨_, List.getElem?_eq_getElem (by omega)⟩
          have hxn := nameB_le (HOK.out.i1 x (List.mem_of_getElem? hx)).1
          obtain ⟨ad, hao, hab, e0, e1⟩ := sl_NamV (HH.out.im.below (ext_trans HB3.out hb)) hlj hx
          simp only at hao
          subst hao
          have htk : namesN (m.im.take (j + 1)) = namesN (m.im.take j) + x.name.size := by rw [List.take_add_one, hx]; exact namesN_snoc _ _
          have HTK := Lib.hid htk
          have HBW := Lib.hid hb
          clear hb hx htk
          generalize namesN (m.im.take j) = q at *
          go_wp2
          go_roundw
          case rel => exact ⟨j + 1, by omega, by go_num, vint (by rw [HTK.out]; go_num), ext_alloc HBW.out _⟩
          case measure => simp [intOf]; omega
        · have o1 : ¬ ((j : Int) < jn) := by omega
          obtain rfl : j = jn := by omega
          rw [List.take_of_length_le (by omega)] at hnm ⊢
          have HBW := Lib.hid hb
          clear hb
          have hq : n0 + n1 + namesN m.im = S.size := by have := HPL.out; have := HN0.out; have := HN1.out; omega
          rw [hq]
          have s3 := HS3.out
          have sg := HSZ.out
          clear hnm hq
          go_wp2
          go_ret
          exact ⟨rfl, ext_trans HB3.out HBW.out⟩
theorem fileSize_walk (x : ModA) (w : World) (hx : x.ok w) (he : PEnv w) : Calls Tryz.prog 5 #[x.val] w fun e w' => e = .returned (.bool true) ∧ Below w.heap.size w w' := by
  by_cases hok : ModOk isNameB x.m
  · exact fileSize_ok x w hx he hok
  · exact fileSize_bad x w hx he hok
end Go.Proofs.YtjlncoodkejncaaGreatDoor
