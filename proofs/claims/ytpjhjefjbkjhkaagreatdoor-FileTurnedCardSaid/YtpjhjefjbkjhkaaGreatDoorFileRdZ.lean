import Derived.Test.YtpjhjefjbkjhkaaGreatDoorFilePackZ
import Derived.Test.YtpjhjefjbkjhkaaGreatDoorInstTextBZ
import Derived.Test.YtpjhjefjbkjhkaaGreatDoorProgMathZ
/- The reader of a module's file. -/
namespace Go.Proofs.YtpjhjefjbkjhkaaGreatDoor
open Go Go.RowKit Go.Joins
set_option linter.unusedVariables false
set_option linter.unusedSimpArgs false
/-- The number that k bytes tell; behind the end there are only noughts. -/
def numK : Nat → List UInt8 → Nat
  | 0, _ => 0
  | k + 1, l => numK k l * 256 + (l.getD k 0).toNat
theorem numK_lt : ∀ (k : Nat) (l : List UInt8), numK k l < 256 ^ k
  | 0, _ => by simp [numK]
  | k + 1, l => by
    have h := numK_lt k l
    have hc := (l.getD k 0).toNat_lt
    rw [numK, Nat.pow_succ]
    omega
def numsK (k : Nat) (l : List UInt8) : List Int := (List.range k).map fun i => (numK 4 (l.drop (4 * i)) : Int) + -2147483648
theorem numsK_succ (k : Nat) (l : List UInt8) : numsK (k + 1) l = numsK k l ++ [(numK 4 (l.drop (4 * k)) : Int) + -2147483648] := by unfold numsK; rw [List.range_succ, List.map_append]; rfl
theorem numsK_len (k : Nat) (l : List UInt8) : (numsK k l).length = k := by simp [numsK]
def nameK (l : List UInt8) : NamV := ⟨ba ((l.drop 1).take (numK 1 l)), (numK 1 ((l.drop 1).drop (numK 1 l)) : Int)⟩
def nameR (l : List UInt8) : List UInt8 := ((l.drop 1).drop (numK 1 l)).drop 1
def nmsK : Nat → List UInt8 → List NamV × List UInt8
  | 0, l => ([], l)
  | k + 1, l => ((nmsK k l).1 ++ [nameK (nmsK k l).2], nameR (nmsK k l).2)
theorem nmsK_len : ∀ (k : Nat) (l : List UInt8), (nmsK k l).1.length = k
  | 0, _ => rfl
  | k + 1, l => by rw [nmsK, List.length_append, nmsK_len k l]; rfl
theorem nameR_len (l : List UInt8) : (nameR l).length ≤ l.length := by unfold nameR; simp only [List.length_drop]; omega
theorem nmsK_rest : ∀ (k : Nat) (l : List UInt8), (nmsK k l).2.length ≤ l.length
  | 0, _ => Nat.le_refl _
  | k + 1, l => Nat.le_trans (nameR_len _) (nmsK_rest k l)
def min2 (a b : Int) : Int := if b < a then b else a
theorem min_twoF (ats : Array TypeId) (ty : TypeId) (a b : Int) : Go.Builtin.min_ ats ty #[.int .i64 a, .int .i64 b] = pure (.int .i64 (min2 a b)) := by
  unfold Go.Builtin.min_ min2
  simp [Go.Builtin.min2]
attribute [local go_sem] min_twoF
set_option maxHeartbeats 1000000 in
theorem ftext_any (l : List UInt8) (hl : l.length ≤ 4000) (n : Nat) (hn : n ≤ 1000) (g : Nat) (w : World) (hB : Bk w g 146 #[.string (ba l)]) :
    Calls Tryz.prog 105 #[.pointer (some ⟨g, 0, none⟩), .int .i64 n] w fun e w' => e = .returned (.string (ba (l.take n))) ∧ w' = w.setCell ⟨g, 0, none⟩ (.string (ba (l.drop n))) := by
  obtain ⟨s, hs⟩ : ∃ s, s = ba l := ⟨_, rfl⟩
  have hsz : s.size = l.length := by rw [hs]; exact ba_len l
  rw [← hs] at hB
  have c0 := hB.cell 0
  have cL := hB.lt
  have cF := fun i => Bk.frozen hB i
  simp only [List.getElem?_toArray, List.getElem?_cons_zero] at c0
  obtain ⟨k, hk, hk2⟩ : ∃ k : Nat, min2 (n : Int) (s.size : Int) = k ∧ k = min n l.length := ⟨min n l.length, by unfold min2; rw [hsz]; split <;> omega, rfl⟩
  have k0 : k ≤ s.size := by omega
  have k1 : k ≤ 1000 := by omega
  have e1 : s.extract 0 k = ba (l.take n) := by
    rw [hs]; refine ByteArray.ext ?_
    apply Array.ext'
    simp only [ba, ByteArray.data_extract, Array.toList_extract, List.extract_eq_take_drop, List.drop_zero]
    rw [hk2, Nat.sub_zero, List.take_eq_take_iff]
    omega
  have e2 : s.extract k s.size = ba (l.drop n) := by
    rw [hs]; refine ByteArray.ext ?_
    apply Array.ext'
    simp only [ba, ByteArray.data_extract, Array.toList_extract, List.extract_eq_take_drop]
    rw [List.take_of_length_le (by rw [List.length_drop]; have := ba_len l; omega)]
    rcases Nat.le_total n l.length with h | h
    · rw [show k = n by omega]
    · rw [List.drop_of_length_le (by show l.length ≤ k; omega), List.drop_of_length_le h]
  have HK := Lib.hid hk
  have E1 := Lib.hid e1
  have E2 := Lib.hid e2
  clear hB e1 e2 hk2 hs hsz hl hn
  go_enter Tryz.func105, Tryz.ntmps105
  go_upto_region 2 with (fail)
  go_wp2
  go_ret
  rw [← E1.out, ← E2.out]
  exact ⟨rfl, rfl⟩
/-- The reader behind some bytes. -/
structure RdSt2 (g : Nat) (l : List UInt8) (wl wr : World) : Prop where
  b : Bk wr g 146 #[.string (ba l)]
  gr : wl.grownBy wr (some g)
theorem grown_transF {a b c : World} {r : Option Nat} (h : a.grownBy b r) (k : b.grownBy c r) : a.grownBy c r :=
  ⟨k.os.trans h.os, k.tape.trans h.tape, k.output.trans h.output, Nat.le_trans h.size k.size, fun i hi hne => (k.block i (Nat.lt_of_lt_of_le hi h.size) hne).trans (h.block i hi hne)⟩
theorem RdSt2.start {g : Nat} {l : List UInt8} {w : World} (hb : Bk w g 146 #[.string (ba l)]) : RdSt2 g l w w := ⟨hb, ⟨rfl, rfl, rfl, Nat.le_refl _, fun _ _ _ => rfl⟩⟩
theorem RdSt2.trans {g : Nat} {l l' : List UInt8} {a b c : World} (h : RdSt2 g l a b) (k : RdSt2 g l' b c) : RdSt2 g l' a c := ⟨k.b, grown_transF h.gr k.gr⟩
theorem RdSt2.below {g B : Nat} {l : List UInt8} {wl wr : World} (h : RdSt2 g l wl wr) (hB : B ≤ g) (hg : g < wl.heap.size) : Below B wl wr := (Below.refl B wl).grown h.gr (by omega) (fun k hk => by injection hk with hk; omega)
theorem rd_kept {α : Type} [El α] {g : Nat} {l : List UInt8} {w w2 w3 : World} {o : Obj} {T : TypeId} {v : Value} {xs : List α} (h : RdSt2 g l w w2) (hv : Own (w2.alloc o) w.heap.size T v xs) (hg : (w2.alloc o).grownBy w3 v.ownBlock) (hT : 146 ≠ T := by decide) : RdSt2 g l w w3 := by
  refine ⟨bk_other (bk_old _ h.b) hv hT hg, ⟨hg.os.trans h.gr.os, hg.tape.trans h.gr.tape, hg.output.trans h.gr.output, ?_, fun i hi hne => ?_⟩⟩
  · have := hg.size; have := h.gr.size; rw [World.size_alloc] at *; omega
  · have h0 := h.gr.size
    refine (hg.block i (by rw [World.size_alloc]; omega) (fun e => ?_)).trans ((Below.heap_alloc w2 o i (by omega)).trans (h.gr.block i hi hne))
    have := (own_span hv e.symm).1
    omega
theorem ftext_st (l : List UInt8) (hl : l.length ≤ 4000) (n : Nat) (hn : n ≤ 1000) (g : Nat) (w : World) (hB : Bk w g 146 #[.string (ba l)]) :
    Calls Tryz.prog 105 #[.pointer (some ⟨g, 0, none⟩), .int .i64 n] w fun e w' => e = .returned (.string (ba (l.take n))) ∧ RdSt2 g (l.drop n) w w' := by
  refine (ftext_any l hl n hn g w hB).mono ?_
  rintro e w' ⟨he, rfl⟩
  exact ⟨he, bk_set' hB rfl, grown_setCell w g 0 _⟩
theorem wrap64F (c : UInt8) : wrap64 (c.toNat : Int) = (c.toNat : Int) := by have := c.toNat_lt; unfold wrap64; omega
theorem getD_drop (l : List UInt8) (j : Nat) (h : j < l.length) : (l.drop j).take 1 = [l.getD j 0] := by
  rw [List.drop_eq_getElem_cons h, List.take_succ_cons, List.take_zero]
  simp [List.getD, List.getElem?_eq_getElem h]
set_option maxHeartbeats 1000000 in
set_option maxRecDepth 100000 in
theorem fnumber_any (l : List UInt8) (hl : l.length ≤ 4000) (n : Nat) (hn : n ≤ 4) (g : Nat) (w : World) (hB : Bk w g 146 #[.string (ba l)]) :
    Calls Tryz.prog 72 #[.pointer (some ⟨g, 0, none⟩), .int .i64 n] w fun e w' => e = .returned (.int .i64 (numK n l)) ∧ RdSt2 g (l.drop n) w w' := by
  have ST := Lib.hid (RdSt2.start hB)
  clear hB
  go_enter Tryz.func72, Tryz.ntmps72
  go_wp2
  go_loopw [5, 8] (fun v i wr => ∃ j : Nat, j ≤ n ∧ i = .int .i64 j ∧ v = .int .i64 (numK j l) ∧ RdSt2 g (l.drop j) w wr) (fun _ i _ => n - (intOf i).toNat)
  case atStart => exact ⟨0, Nat.zero_le _, rfl, rfl, by simpa using ST.out⟩
  case round =>
    obtain ⟨j, hj, rfl, rfl, hst⟩ := hrel
    by_cases hlt : j < n
    · have o1 : (j : Int) < n := by omega
      have hd := numK_lt j l
      have hp : 256 ^ j ≤ 256 ^ 3 := Nat.pow_le_pow_right (by decide) (by omega)
      have hd2 : numK j l < 16777216 := by omega
      have tx := ftext_st (l.drop j) (by rw [List.length_drop]; omega) 1 (by decide) g wr hst.b
      rw [List.drop_drop] at tx
      have TX := Lib.hid tx
      have HST := Lib.hid hst
      have h2 : numK (j + 1) l = numK j l * 256 + (l.getD j 0).toNat := rfl
      have hc := (l.getD j 0).toNat_lt
      by_cases hjl : j < l.length
      · rw [getD_drop l j hjl] at TX
        obtain ⟨c, hc0⟩ : ∃ c, l.getD j 0 = c := ⟨_, rfl⟩
        rw [hc0] at TX h2 hc
        have h3 : bits .or .i64 ((numK j l : Int) * 256) (c.toNat : Int) = (numK j l : Int) * 256 + (c.toNat : Int) :=
          join_i64 8 _ _ (by omega) (by omega) (by omega) (by omega) (by omega) (by omega)
        have HS := Lib.hid h2
        have H3 := Lib.hid h3
        clear hst tx h2 h3 hc0 hd hp
        generalize numK j l = q at *
        have TX' : Hid (Calls Tryz.prog 105 #[.pointer (some ⟨g, 0, none⟩), .int .i64 1] wr fun e w' => e = .returned (.string ⟨#[c]⟩) ∧ RdSt2 g (l.drop (j + 1)) wr w') := TX
        go_wp2_with (go_at_call 105; ((with_reducible refine TX'.out.mono ?_); rintro e w2 ⟨rfl, hs2⟩; have HS2 := Lib.hid (HST.out.trans hs2); clear hs2))
        go_roundw
        case rel => exact ⟨j + 1, by omega, by go_num, vint (by rw [HS.out]; show bits .or .i64 ((q : Int) * 256) (wrap64 (c.toNat : Int)) = _; rw [wrap64F, H3.out]; omega), HS2.out⟩
        case measure => simp [intOf]; omega
      · have e0 : (l.drop j).take 1 = [] := by rw [List.drop_of_length_le (by omega)]; rfl
        have e1 : l.getD j 0 = 0 := by simp [List.getD, List.getElem?_eq_none (show l.length ≤ j by omega)]
        rw [e0] at TX
        rw [e1] at h2
        have h2' : numK (j + 1) l = numK j l * 256 := h2
        have HS := Lib.hid h2'
        clear hst tx h2 h2' hd hp e0 e1 hc
        generalize numK j l = q at *
        have TX' : Hid (Calls Tryz.prog 105 #[.pointer (some ⟨g, 0, none⟩), .int .i64 1] wr fun e w' => e = .returned (.string ⟨#[]⟩) ∧ RdSt2 g (l.drop (j + 1)) wr w') := TX
        go_wp2_with (go_at_call 105; ((with_reducible refine TX'.out.mono ?_); rintro e w2 ⟨rfl, hs2⟩; have HS2 := Lib.hid (HST.out.trans hs2); clear hs2))
        go_roundw
        case rel => exact ⟨j + 1, by omega, by go_num, vint (by rw [HS.out]; omega), HS2.out⟩
        case measure => simp [intOf]; omega
    · have o1 : ¬ ((j : Int) < n) := by omega
      obtain rfl : j = n := by omega
      have HST := Lib.hid hst
      clear hst
      go_wp2
      go_ret
      exact ⟨rfl, HST.out⟩
theorem fnumber_one (l : List UInt8) (hl : l.length ≤ 4000) (g : Nat) (w : World) (hB : Bk w g 146 #[.string (ba l)]) :
    Calls Tryz.prog 72 #[.pointer (some ⟨g, 0, none⟩), .int .i64 1] w fun e w' => e = .returned (.int .i64 (numK 1 l)) ∧ RdSt2 g (l.drop 1) w w' := fnumber_any l hl 1 (by decide) g w hB
theorem fnumber_four (l : List UInt8) (hl : l.length ≤ 4000) (g : Nat) (w : World) (hB : Bk w g 146 #[.string (ba l)]) :
    Calls Tryz.prog 72 #[.pointer (some ⟨g, 0, none⟩), .int .i64 4] w fun e w' => e = .returned (.int .i64 (numK 4 l)) ∧ RdSt2 g (l.drop 4) w w' := fnumber_any l hl 4 (by decide) g w hB
set_option maxHeartbeats 1000000 in
theorem fname_read (l : List UInt8) (hl : l.length ≤ 4000) (g : Nat) (w : World) (hB : Bk w g 146 #[.string (ba l)]) :
    Calls Tryz.prog 74 #[.pointer (some ⟨g, 0, none⟩)] w fun e w' => e = .returned (.tuple #[.string (nameK l).name, .int .i64 (nameK l).at_]) ∧ RdSt2 g (nameR l) w w' := by
  have n1 := fnumber_one l hl g w hB
  have hk := numK_lt 1 l
  have t2 := fun (W : World) (h : Bk W g 146 #[.string (ba (l.drop 1))]) => ftext_st (l.drop 1) (by rw [List.length_drop]; omega) (numK 1 l) (by omega) g W h
  have n3 := fun (W : World) (h : Bk W g 146 #[.string (ba ((l.drop 1).drop (numK 1 l)))]) => fnumber_one ((l.drop 1).drop (numK 1 l)) (by simp only [List.length_drop]; omega) g W h
  have ez : nameK l = ⟨ba ((l.drop 1).take (numK 1 l)), (numK 1 ((l.drop 1).drop (numK 1 l)) : Int)⟩ := rfl
  have er : nameR l = ((l.drop 1).drop (numK 1 l)).drop 1 := rfl
  rw [ez, er]
  simp only
  clear ez er hB hk
  obtain ⟨l3, hl3⟩ : ∃ l3, ((l.drop 1).drop (numK 1 l)).drop 1 = l3 := ⟨_, rfl⟩
  rw [hl3] at n3 ⊢
  clear hl3
  obtain ⟨l2, hl2⟩ : ∃ l2, (l.drop 1).drop (numK 1 l) = l2 := ⟨_, rfl⟩
  rw [hl2] at n3 t2 ⊢
  clear hl2
  obtain ⟨s1, hs1⟩ : ∃ s1, ba ((l.drop 1).take (numK 1 l)) = s1 := ⟨_, rfl⟩
  rw [hs1] at t2 ⊢
  clear hs1
  obtain ⟨l1, hl1⟩ : ∃ l1, l.drop 1 = l1 := ⟨_, rfl⟩
  rw [hl1] at n1 t2
  clear hl1
  replace n1 := Lib.hid n1
  replace t2 := Lib.hid t2
  replace n3 := Lib.hid n3
  go_enter Tryz.func74, Tryz.ntmps74
  go_wp2_with (first
    | (go_at_call 72; ((with_reducible refine n1.out.mono ?_); rintro e w2 ⟨rfl, hs2⟩; have H2 := Lib.hid hs2; clear hs2))
    | (go_at_call 105; ((with_reducible refine (t2.out _ H2.out.b).mono ?_); rintro e w3 ⟨rfl, hs3⟩; have H3 := Lib.hid (H2.out.trans hs3); clear hs3))
    | (go_at_call 72; ((with_reducible refine (n3.out _ H3.out.b).mono ?_); rintro e w4 ⟨rfl, hs4⟩; have H4 := Lib.hid (H3.out.trans hs4); clear hs4)))
  go_ret2
  exact ⟨rfl, H4.out⟩
theorem info_intF : (Tryz.prog.info? 3).map (fun i => (i.zero, i.size, i.bytes)) = some (some (.int .i64 0), 1, 8) := by kernel_rfl
theorem sl_litF (w : World) (n : Int) : Sl (w.alloc (.cells #[.int .i64 n] 3)) (some ⟨w.heap.size, 0, none⟩) 1 [n] := lit_sl1 _ _ rfl
set_option maxHeartbeats 1000000 in
set_option maxRecDepth 100000 in
theorem fnumbers_any (l : List UInt8) (hl : l.length ≤ 4000) (n : Nat) (hn : n ≤ 255) (g : Nat) (w : World) (hB : Bk w g 146 #[.string (ba l)]) :
    Calls Tryz.prog 73 #[.pointer (some ⟨g, 0, none⟩), .int .i64 n] w fun e w' => ∃ v, e = .returned v ∧ Own w' w.heap.size 3 v (numsK n l) ∧ RdSt2 g (l.drop (4 * n)) w w' := by
  have ST := Lib.hid (RdSt2.start hB)
  obtain ⟨i0, hi, hz0, hz1, hz2⟩ := info_parts info_intF
  clear hB
  go_enter Tryz.func73, Tryz.ntmps73
  go_wp2
  go_loopw [4, 6] (fun v i wr => ∃ j : Nat, j ≤ n ∧ i = .int .i64 j ∧ Own wr w.heap.size 3 v (numsK j l) ∧ RdSt2 g (l.drop (4 * j)) w wr) (fun _ i _ => n - (intOf i).toNat)
  case atStart => exact ⟨0, Nat.zero_le _, rfl, Own.nil _ _ _, by simpa using ST.out⟩
  case round =>
    obtain ⟨j, hj, rfl, ho, hst⟩ := hrel
    obtain ⟨V, N, C, rfl⟩ := own_shape ho
    by_cases hlt : j < n
    · have o1 : (j : Int) < n := by omega
      have tx := fnumber_four (l.drop (4 * j)) (by rw [List.length_drop]; omega) g wr hst.b
      rw [List.drop_drop, show 4 * j + 4 = 4 * (j + 1) by omega] at tx
      have hd := numK_lt 4 (l.drop (4 * j))
      have h2 := numsK_succ j l
      have hlen := numsK_len j l
      have hsz := hst.gr.size
      obtain ⟨q, hq⟩ : ∃ q, numK 4 (l.drop (4 * j)) = q := ⟨_, rfl⟩
      rw [hq] at tx hd h2
      have TX := Lib.hid tx
      have HST := Lib.hid hst
      have HO := Lib.hid ho
      have H2 := Lib.hid h2
      clear hst tx h2 ho hq
      have c63 : (numsK j l).length + 1 ≤ maxLen := by unfold maxLen; omega
      have c47 : ((numsK j l).length + 1) * 8 ≤ 140737488355328 := by omega
      go_wp2_with (first
        | (go_at_call 72; ((with_reducible refine TX.out.mono ?_); rintro e w2 ⟨rfl, hs2⟩; have ho2 := HO.out.kept hs2.gr (.inr (own_not_bk HO.out HST.out.b (by decide))); have hB2 : w.heap.size ≤ (w2.alloc (.cells #[.int .i64 ((q : Int) + -2147483648)] 3)).heap.size := (by have := hs2.gr.size; rw [World.size_alloc]; omega); have HS2 := Lib.hid (HST.out.trans hs2); have HO2 := Lib.hid (ho2.alloc (.cells #[.int .i64 ((q : Int) + -2147483648)] 3)); clear hs2 ho2))
        | (at_builtin; go_loud (refine wpList_append_sl (α := Int) rfl (.tmp 8) (.tmp 12) 22 rfl w.heap.size 3 i0 _ 8 Tryz.underlying22 hi hz0 hz1 hz2 rfl (.slice V N C) (numsK j l) rfl HO2.out (some ⟨w2.heap.size, 0, none⟩) 1 1 [(q : Int) + -2147483648] rfl (sl_litF w2 _) c63 c47 hB2 ?_; intro v3 w3 ho3 hg3 _; have hs3 := rd_kept HS2.out HO2.out hg3; have HO3 := Lib.hid ho3; have HS3 := Lib.hid hs3; clear ho3 hs3 hg3)))
      go_roundw
      case rel => exact ⟨j + 1, by omega, by go_num, by rw [H2.out]; exact HO3.out, HS3.out⟩
      case measure => simp [intOf]; omega
    · have o1 : ¬ ((j : Int) < n) := by omega
      obtain rfl : j = n := by omega
      have HST := Lib.hid hst
      have HO := Lib.hid ho
      clear hst ho
      go_wp2
      go_ret
      exact ⟨_, rfl, HO.out, HST.out⟩
end Go.Proofs.YtpjhjefjbkjhkaaGreatDoor
