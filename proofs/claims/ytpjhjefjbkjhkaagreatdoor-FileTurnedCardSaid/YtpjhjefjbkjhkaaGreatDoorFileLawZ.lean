import Derived.Test.YtpjhjefjbkjhkaaGreatDoorFileReadZ
/- What is packed is read: plain lists. -/
namespace Go.Proofs.YtpjhjefjbkjhkaaGreatDoor
open Go Go.RowKit
set_option linter.unusedVariables false
set_option linter.unusedSimpArgs false
theorem numK1 (b : UInt8) (l : List UInt8) : numK 1 (b :: l) = b.toNat := by simp [numK]
theorem numsK_cons (k : Nat) (l : List UInt8) : numsK (k + 1) l = ((numK 4 l : Int) + -2147483648) :: numsK k (l.drop 4) := by
  unfold numsK
  rw [List.range_succ_eq_map, List.map_cons, List.map_map]
  refine congr (congrArg _ (by simp)) ?_
  refine List.map_congr_left fun i _ => ?_
  show (numK 4 (l.drop (4 * (i + 1))) : Int) + -2147483648 = (numK 4 ((l.drop 4).drop (4 * i)) : Int) + -2147483648
  rw [List.drop_drop, show 4 + 4 * i = 4 * (i + 1) by omega]
theorem numK4_four {n : Int} (h : -2147483648 ≤ n ∧ n ≤ 2147483647) (r : List UInt8) : (numK 4 (four n ++ r) : Int) + -2147483648 = n := by
  unfold four
  simp only [List.cons_append, List.nil_append, numK, List.getD_cons_zero, List.getD_cons_succ, byteN_nat]
  omega
theorem numsK_fours : ∀ {l : List Int} {r : List UInt8}, (∀ n ∈ l, -2147483648 ≤ n ∧ n ≤ 2147483647) → numsK l.length (l.flatMap four ++ r) = l
  | [], r, _ => rfl
  | n :: l, r, h => by
    rw [List.length_cons, numsK_cons, List.flatMap_cons, List.append_assoc, numK4_four (h n (by simp))]
    rw [show (four n ++ (l.flatMap four ++ r)).drop 4 = l.flatMap four ++ r from rfl, numsK_fours fun x hx => h x (List.mem_cons_of_mem _ hx)]
theorem nmsK_cons : ∀ (k : Nat) (l : List UInt8), nmsK (k + 1) l = (nameK l :: (nmsK k (nameR l)).1, (nmsK k (nameR l)).2)
  | 0, l => rfl
  | k + 1, l => by
    rw [nmsK, nmsK_cons k l]
    simp only [nmsK, List.cons_append]
theorem name_front {x : NamV} (h : x.name.size ≤ 255 ∧ 0 ≤ x.at_ ∧ x.at_ ≤ 255) (r : List UInt8) : nameK (nameL x ++ r) = x ∧ nameR (nameL x ++ r) = r := by
  obtain ⟨h1, h2, h3⟩ := h
  have hc : (byteN x.name.size).toNat = x.name.size := by rw [byteN_nat]; omega
  have ha : ((byteN x.at_).toNat : Int) = x.at_ := by rw [byteN_nat]; omega
  have hl : x.name.data.toList.length = x.name.size := by rw [Array.length_toList]; rfl
  have e : nameL x ++ r = byteN x.name.size :: (x.name.data.toList ++ (byteN x.at_ :: r)) := by
    rw [nameL, List.cons_append, List.append_assoc]; rfl
  rw [e]
  unfold nameK nameR
  rw [numK1, hc, List.drop_succ_cons, List.drop_zero, List.take_left' hl, List.drop_left' hl, numK1, ha]
  exact ⟨by rw [show ba x.name.data.toList = x.name from ba_back _], rfl⟩
theorem nmsK_names : ∀ {l : List NamV} {r : List UInt8}, (∀ x ∈ l, x.name.size ≤ 255 ∧ 0 ≤ x.at_ ∧ x.at_ ≤ 255) → nmsK l.length (l.flatMap nameL ++ r) = (l, r)
  | [], r, _ => rfl
  | x :: l, r, h => by
    obtain ⟨e1, e2⟩ := name_front (h x (by simp)) (l.flatMap nameL ++ r)
    rw [List.length_cons, nmsK_cons, List.flatMap_cons, List.append_assoc, e1, e2, nmsK_names fun y hy => h y (List.mem_cons_of_mem _ hy)]
theorem modK_body {m : ModV} (h : FileOk m) : modK ((bodyL m).drop 3) = m := by
  have c1 : (byteN m.code.length).toNat = m.code.length := by have := h.l1; rw [byteN_nat]; omega
  have c2 : (byteN m.data.length).toNat = m.data.length := by have := h.l2; rw [byteN_nat]; omega
  have c3 : (byteN m.ex.length).toNat = m.ex.length := by have := h.l3; rw [byteN_nat]; omega
  have c4 : (byteN m.im.length).toNat = m.im.length := by have := h.l4; rw [byteN_nat]; omega
  obtain ⟨R, hR⟩ : ∃ R, R = m.code.flatMap four ++ (m.data.flatMap four ++ (m.ex.flatMap nameL ++ (m.im.flatMap nameL ++ []))) := ⟨_, rfl⟩
  have e : (bodyL m).drop 3 = byteN m.code.length :: byteN m.data.length :: byteN m.ex.length :: byteN m.im.length :: R := by
    rw [hR]; unfold bodyL headL
    simp only [List.cons_append, List.nil_append, List.append_assoc, List.append_nil]
    rfl
  have f1 : R.drop (4 * m.code.length) = m.data.flatMap four ++ (m.ex.flatMap nameL ++ (m.im.flatMap nameL ++ [])) := by rw [hR, List.drop_left' (fours_len m.code)]
  have f2 : (m.data.flatMap four ++ (m.ex.flatMap nameL ++ (m.im.flatMap nameL ++ []))).drop (4 * m.data.length) = m.ex.flatMap nameL ++ (m.im.flatMap nameL ++ []) := by rw [List.drop_left' (fours_len m.data)]
  rw [e]
  unfold modK
  simp only [List.drop_succ_cons, List.drop_zero, numK1, c1, c2, c3, c4]
  rw [f1, f2, nmsK_names h.e1]
  simp only
  rw [nmsK_names h.e2, numsK_fours h.n2, hR, numsK_fours h.n1]
theorem fileOk {m : ModV} (h : ModOk isNameB m) : FileOk m :=
  ⟨by have := h.l1; omega, by have := h.l2; omega, by have := h.l3; omega, by have := h.l4; omega, h.n1, h.n2,
   fun x hx => by obtain ⟨a, b, c⟩ := h.e1 x hx; have := nameB_le a; have := h.l1; exact ⟨by omega, b, by omega⟩,
   fun x hx => by obtain ⟨a, b, c⟩ := h.i1 x hx; have := nameB_le a; have := h.l2; exact ⟨by omega, b, by omega⟩⟩
theorem pack_take (m : ModV) : (packM m).take ((packM m).length - 2) = bodyL m := by
  unfold packM
  rw [List.length_append, show (sumL (bodyL m)).length = 2 from rfl, Nat.add_sub_cancel, List.take_left]
theorem sumOk_pack (m : ModV) : SumOk (packM m) := by unfold SumOk; rw [pack_take]; rfl
theorem fileM_pack {m : ModV} (h : ModOk isNameB m) : fileM (packM m) = m := by unfold fileM; rw [pack_take]; exact modK_body (fileOk h)
theorem namesN_leF : ∀ {l : List NamV}, (∀ x ∈ l, x.name.size ≤ 12) → namesN l ≤ 12 * l.length
  | [], _ => by simp [namesN]
  | x :: l, h => by
    have h1 := namesN_leF (l := l) fun y hy => h y (List.mem_cons_of_mem _ hy)
    have h2 := h x (by simp)
    have e : namesN (x :: l) = x.name.size + namesN l := by unfold namesN; simp
    rw [e, List.length_cons]
    omega
theorem pack_size {m : ModV} (h : ModOk isNameB m) : 9 ≤ (packM m).length ∧ (packM m).length ≤ 3000 := by
  have e := packM_len m
  have h1 := h.l1; have h2 := h.l2; have h3 := h.l3; have h4 := h.l4
  have n1 : namesN m.ex ≤ 12 * m.ex.length := namesN_leF fun x hx => nameB_le (h.e1 x hx).1
  have n2 : namesN m.im ≤ 12 * m.im.length := namesN_leF fun x hx => nameB_le (h.i1 x hx).1
  omega
theorem fread_any (S : ByteArray) (w : World) : Calls Tryz.prog 36 #[.string S] w (FReadPost w S.data.toList) := by
  by_cases h1 : 4000 < S.size
  · exact fread_long S w h1
  by_cases h2 : S.size < 9
  · exact fread_short S w h2
  by_cases hs : SumOk S.data.toList
  · exact fread_good S w (by omega) (by omega) hs
  · exact fread_sum S w (by omega) (by omega) hs
/-- What is packed is read. -/
theorem fread_pack (m : ModV) (h : ModOk isNameB m) (S : ByteArray) (hS : S.data.toList = packM m) (w : World) : Calls Tryz.prog 36 #[.string S] w fun e w' => ∃ r : ModR, e = .returned (.tuple #[.agg #[.slice r.code.a r.code.n r.code.c, .slice r.data.a r.data.n r.data.c, .slice r.ex.a r.ex.n r.ex.c, .slice r.im.a r.im.n r.im.c], .int .i64 0]) ∧ r.has w' m ∧ Below w.heap.size w w' := by
  refine (fread_any S w).mono ?_
  rw [hS]
  have hz := pack_size h
  rintro e w' ⟨h1, hb⟩
  rcases h1 with ⟨er, rfl, hw⟩ | ⟨r, rfl, hr, _⟩
  · exfalso
    rcases hw with ⟨a, _⟩ | ⟨a, _⟩ | ⟨_, _, a, _⟩ | ⟨_, _, _, a, _⟩
    · omega
    · omega
    · exact a (sumOk_pack m)
    · exact a (by rw [fileM_pack h]; exact ⟨h, rfl⟩)
  · rw [fileM_pack h] at hr
    exact ⟨r, rfl, hr, hb⟩
end Go.Proofs.YtpjhjefjbkjhkaaGreatDoor
