import Derived.Test.YtjlncoodkejncaaDoorJumpWordsZ
import Derived.Test.YtjlncoodkejncaaDoorProgBaseZ
import Derived.Test.YtjlncoodkejncaaDoorProgLitZ
/- A jump to a label leads to its position. -/
namespace Go.Proofs.YtjlncoodkejncaaDoor
open Go Go.RowKit Go.Shelf
set_option linter.unusedVariables false
set_option linter.unusedSimpArgs false
theorem run_neq_instJ (x : InstV) (W : World) : (binOp .neq 23 x.val x.val).run Tryd.prog W = .ok (.bool false) W := by
  obtain ⟨op, a, b, c⟩ := x
  simp only [InstV.val]
  rw [run_neq_struct]
  go_simp
theorem cellsN_snocJ (ls : List (List UInt8)) (s : List UInt8) : cellsN (ls ++ [s]) = cellsN ls + (if isCell s then 1 else 0) := by
  unfold cellsN
  rw [List.filter_append, List.length_append]
  cases h : isCell s <;> simp [h]
theorem cellsN_leJ (ls : List (List UInt8)) : cellsN ls ≤ ls.length := by
  unfold cellsN
  exact List.length_filter_le _ _
theorem lines_80J : ∀ (ls : List (List UInt8)) (r : RdV) (n : Nat), (linesR r n ls).2.2 = 0 → ∀ s ∈ ls, s.length ≤ 80
  | [], _, _, _, s, hs => by cases hs
  | x :: ls, r, n, h, s, hs => by
    rw [lines_cons] at h
    split at h
    · next hk =>
      rcases List.mem_cons.1 hs with e | e
      · subst e; exact lineR_ok hk
      · exact lines_80J ls _ _ h s e
    · next hk => exact absurd h hk
set_option maxHeartbeats 8000000 in
set_option maxRecDepth 100000 in
theorem progJumps_walk (s : ByteArray) (w : World) (hs : s.size ≤ 1048576) (he : PEnv w) : Calls Tryd.prog 4 #[.string s] w fun e w' => e = .returned (.bool true) ∧ Below w.heap.size w w' := by
  have r0 := fun W (hW : PEnv W) => pread_view ⟨#[105, 102, 32, 114, 50, 32, 98, 10, 104, 97, 108, 116, 10, 98, 58, 10, 106, 117, 109, 112, 32, 98]⟩ W hW (by decide) _ read_jumps0
  simp only [List.length_cons, List.length_nil, Nat.zero_add] at r0
  obtain ⟨c0, hc0⟩ : ∃ c0, packF ⟨9, 2, 0, 2⟩ = c0 := ⟨_, rfl⟩
  have ri := fun W (hW : Tab W) => iread_any c0 (by rw [← hc0]; exact ⟨by decide, by decide⟩) W hW
  rw [← hc0, unpack_pack (i := ⟨9, 2, 0, 2⟩) (by decide), show instOk ⟨9, 2, 0, 2⟩ = true by decide] at ri
  simp only [if_true, hc0] at ri
  simp only [hc0] at r0
  have ne := run_neq_instJ ⟨9, 2, 0, 2⟩
  simp only [InstV.val] at ne
  have hsplit := fun W (hW : PEnv W) => split_any s 10 W hW hs
  obtain ⟨L, hL⟩ : ∃ L, splitC 10 s.data.toList = L := ⟨_, rfl⟩
  obtain ⟨n, hn⟩ : ∃ n, L.length = n := ⟨_, rfl⟩
  simp only [hL, hn] at hsplit
  obtain ⟨X, hX⟩ : ∃ X, readF s.data.toList = X := ⟨_, rfl⟩
  have rd := fun W (hW : PEnv W) => pread_view s W hW hs X hX
  have HE := Lib.hid he
  have H1 := Lib.hid (Below.refl w.heap.size w)
  have R0 := Lib.hid r0
  have RI := Lib.hid ri
  have SP := Lib.hid hsplit
  have RD := Lib.hid rd
  clear he r0 ri hsplit rd
  go_enter Tryd.func4, Tryd.ntmps4
  go_upto_region 2 with (go_at_call 14; ((with_reducible refine (R0.out _ (HE.out.below H1.out)).mono ?_); rintro e w2 ⟨ca2, cc2, la2, lc2, rfl, hc2, hl2, hb2⟩; have CS2 := Lib.hid hc2; have LS2 := Lib.hid hl2; have HB2 := Lib.hid (ext_trans H1.out hb2); clear hc2 hl2 hb2))
  obtain ⟨cd, rfl, hcb, hce⟩ := sl_int (i := 0) (x := c0) CS2.out (by decide) rfl
  obtain ⟨ld, rfl, hlb, hl0, hl1⟩ := sl_NamV (i := 0) (x := ⟨ba [98], 2⟩) LS2.out (by decide) rfl
  rw [show cd.add 0 = cd by unfold Addr.add; rfl] at hce
  rw [show ld.add (0 * 2) = ld by unfold Addr.add; rfl] at hl0 hl1 hlb
  go_upto_region 5 with (go_at_call 12; ((with_reducible refine (RI.out _ (HE.out.below HB2.out).asc).mono ?_); rintro e w3 ⟨rfl, hb3⟩; have HB3 := Lib.hid (ext_trans HB2.out hb3); clear hb3))
  obtain ⟨gi, hgi⟩ : ∃ gi, w3.heap.size = gi := ⟨_, rfl⟩
  obtain ⟨w4, hw4⟩ : ∃ w4, w4 = w3.alloc (.cells #[.int .i64 9, .int .i64 2, .int .i64 0, .int .i64 2] 23) := ⟨_, rfl⟩
  rw [← hw4]
  try rw [hgi]
  have hI4 : Bk w4 gi 23 #[.int .i64 9, .int .i64 2, .int .i64 0, .int .i64 2] := by rw [hw4, ← hgi]; exact bk_new _ _ _
  have HB4 := Lib.hid (show Below w.heap.size w w4 by rw [hw4]; exact ext_alloc HB3.out _)
  obtain ⟨y0, y1, y2, y3⟩ := cells4 hI4
  have yL := hI4.lt
  clear hw4 hgi hI4 hcb hce hlb hl0 hl1 CS2 LS2
  by_cases hx : X.er = 0
  · have hx0 : (readF s.data.toList).er = 0 := by rw [hX]; exact hx
    have hjw := fun j x (hj : (splitC 10 s.data.toList)[j]? = some x) (hc : isCell x = true) => jump_words hx0 hj hc
    obtain ⟨hok, hline⟩ := read_ok hx0
    have h80 := lines_80J _ _ _ hok.lines
    have h150 := hok.n
    have hlaw := (lines_law hx0 _ rfl).2.1
    have hlw3 := (lines_law hx0 _ rfl).2.2
    have hfle := List.length_filter_le (fun s : List UInt8 => !s.isEmpty) (splitC 10 s.data.toList)
    rw [hL] at hjw h80 h150 hlaw hlw3 hfle
    rw [hX] at hjw hline hlaw hlw3
    obtain ⟨c, l, ln, er⟩ := X
    simp only at hx hline hjw hlaw hlw3
    subst hx hline
    obtain ⟨nc, hnc⟩ : ∃ nc, c.length = nc := ⟨_, rfl⟩
    obtain ⟨nl, hnl⟩ : ∃ nl, l.length = nl := ⟨_, rfl⟩
    simp only [hnc, hnl] at RD
    rw [hnc] at hlaw
    have HJW := Lib.hid hjw
    have HLAW := Lib.hid hlaw
    have HN := Lib.hid hn
    have H80 := Lib.hid h80
    have HNC := Lib.hid hnc
    have HNL := Lib.hid hnl
    have hn150 : n ≤ 150 := by omega
    have hnl150 : nl ≤ 150 := by omega
    clear hX hL hn hs hx0 hok h80 h150 hnc hnl hjw hlaw hlw3 hfle
    go_upto_region 11 with (go_at_call 14; ((with_reducible refine (RD.out _ (HE.out.below HB4.out)).mono ?_); rintro e w5 ⟨ca5, cc5, la5, lc5, rfl, hc5, hl5, hb5⟩; have CS5 := Lib.hid hc5; have LS5 := Lib.hid hl5; have HB5 := Lib.hid (ext_trans HB4.out hb5); clear hc5 hl5 hb5))
    go_upto_region 12 with (go_at_call 15; ((with_reducible refine (SP.out _ (HE.out.below HB5.out)).mono ?_); rintro e w6 ⟨rfl, hc6, hb6⟩; have HC6 := Lib.hid hc6; have HB6 := Lib.hid (ext_trans HB5.out hb6); have CS6 := Lib.hid (CS5.out.below hb6); have LS6 := Lib.hid (LS5.out.below hb6); have GS := Lib.hid (rfl : w5.heap.size = w5.heap.size); clear hc6 hb6))
    obtain ⟨gs, hgs⟩ : ∃ gs, w5.heap.size = gs := ⟨_, rfl⟩
    have lc : ∀ W, Below w6.heap.size w6 W → ∀ k x, L[k]? = some x → W.cell? ⟨gs, k, none⟩ = some (.string ⟨x.toArray⟩) ∧ gs < W.heap.size := fun W hW k x hx => by
      have h1 := HC6.out k x hx
      rw [hgs] at h1
      have hlt := World.block_lt_of_cell? w6 _ h1
      exact ⟨(hW.cell (p := ⟨gs, k, none⟩) hlt).trans h1, Nat.lt_of_lt_of_le hlt hW.size⟩
    have LC := Lib.hid lc
    clear lc HC6
    try rw [hgs]
    go_loopw [9, 69] (fun q i wr => ∃ k : Nat, k ≤ n ∧ i = .int .i64 k ∧ q = .int .i64 (cellsN (L.take k)) ∧ Below w6.heap.size w6 wr) (fun _ i _ => n - (intOf i).toNat)
    case atStart => exact ⟨0, Nat.zero_le _, rfl, rfl, Below.refl _ _⟩
    case round =>
      obtain ⟨k, hk, rfl, rfl, hb⟩ := hrel
      have HB := Lib.hid hb
      by_cases hlt : k < n
      · have q2 : (0 : Int) ≤ k := by omega
        have q3 : (k : Int) < n := by omega
        obtain ⟨x, hx⟩ : ∃ x, L[k]? = some x := ⟨_, List.getElem?_eq_getElem (by have := HN.out; omega)⟩
        obtain ⟨ce, gsL⟩ := LC.out wr hb k x hx
        obtain ⟨y, hy⟩ : ∃ y : ByteArray, (⟨x.toArray⟩ : ByteArray) = y := ⟨_, rfl⟩
        have hyd : y.data.toList = x := by rw [← hy]
        have hysz : y.size ≤ 80 := by
          have h1 : y.size = y.data.toList.length := rfl
          rw [h1, hyd]; exact H80.out x (List.mem_of_getElem? hx)
        rw [hy] at ce
        have htk : L.take (k + 1) = L.take k ++ [x] := by rw [List.take_add_one, hx]; rfl
        have hcl := cellsN_leJ (L.take k)
        rw [List.length_take] at hcl
        have hcs := cellsN_snocJ (L.take k) x
        rw [← htk] at hcs
        have hjw := HJW.out k x hx
        obtain ⟨cn, hcn⟩ : ∃ cn, cellsN (L.take k) = cn := ⟨_, rfl⟩
        rw [hcn] at hcs hcl hjw
        try rw [hcn]
        have HCS := Lib.hid hcs
        have wq : IntKind.i64.wrap ((cn : Int) + 1) = (cn : Int) + 1 := IntWalk.i64_in _ ⟨by omega, by omega⟩
        have hsf := fun W => Tryd.strings_HasSuffix y ⟨#[58]⟩ W (by omega)
        rw [hyd] at hsf
        have HJ := Lib.hid hjw
        clear hb htk hcs hjw hx
        cases hxe : x.isEmpty
        · have f0 : y.toList.isEmpty = false := by rw [ByteArray.toList_eq, hyd]; exact hxe
          have hcc : isCell x = !Lib.hasSuffix x [58] := by unfold isCell isLab; rw [hxe]; simp
          have hcs := HCS.out
          rw [hcc] at hcs
          obtain ⟨hb58, hb58e⟩ : ∃ b, Lib.hasSuffix x [58] = b := ⟨_, rfl⟩
          rw [hb58e] at hcs hcc
          have hsf2 : ∀ W, Calls Tryd.prog 16 #[.string y, .string ⟨#[58]⟩] W fun e w' => e = .returned (.bool hb58) ∧ w' = W := fun W => by
            have := hsf W
            rwa [show (⟨#[58]⟩ : ByteArray).data.toList = [58] from rfl, hb58e] at this
          have SF := Lib.hid hsf2
          have HCS' := Lib.hid hcs
          clear hsf hsf2 hcs hb58e
          cases hb58
          · have hcell : isCell x = true := hcc
            obtain ⟨v, hv, iv, hlaw⟩ := HJ.out hcell
            have hcs := HCS'.out
            simp only [Bool.not_false, if_true] at hcs
            have HCN := Lib.hid hcs
            have hew : PEnv wr := HE.out.below (ext_trans HB6.out HB.out)
            have spw := fun W (hW : PEnv W) => split_any y 32 W hW (by omega)
            rw [hyd] at spw
            obtain ⟨W0, hW0⟩ : ∃ W0, splitC 32 x = W0 := ⟨_, rfl⟩
            have hne : 0 < (splitC 32 x).length := List.length_pos_iff.2 (splitC_ne 32 x)
            have hwl := splitC_length 32 x
            have hxl80 : x.length ≤ 80 := by have h1 : y.size = y.data.toList.length := rfl; rw [h1, hyd] at hysz; exact hysz
            rw [hW0] at hlaw spw hne hwl
            obtain ⟨m, hm⟩ : ∃ m, W0.length = m := ⟨_, rfl⟩
            simp only [hm] at hlaw spw
            rw [hm] at hne hwl
            obtain ⟨f0', hf0'⟩ : ∃ f, W0[0]? = some f := ⟨_, List.getElem?_eq_getElem (by omega)⟩
            obtain ⟨l0, hl0⟩ : ∃ l, W0[m - 1]? = some l := ⟨_, List.getElem?_eq_getElem (by omega)⟩
            have hlaw2 := fun h1 h2 => hlaw h1 l0 f0' hl0 hf0' h2
            obtain ⟨cna, hcna⟩ : ∃ a : Option Addr, ca5 = a := ⟨_, rfl⟩
            have hcnc : cn < nc := by
              have h1 := (List.getElem?_eq_some_iff.1 hv).1
              rw [HNC.out] at h1; exact h1
            have hcv := (CS6.out.below HB.out)
            obtain ⟨ad, had, _, _⟩ := sl_int hcv hcnc hv
            subst had
            clear hcna
            obtain ⟨yl, hyl⟩ : ∃ yl : ByteArray, (⟨l0.toArray⟩ : ByteArray) = yl := ⟨_, rfl⟩
            obtain ⟨yf, hyf⟩ : ∃ yf : ByteArray, (⟨f0'.toArray⟩ : ByteArray) = yf := ⟨_, rfl⟩
            have q4 : (0 : Int) ≤ (m : Int) - 1 := by omega
            have wq4 : IntKind.i64.wrap ((m : Int) - 1) = (m : Int) - 1 := IntWalk.i64_in _ ⟨by omega, by omega⟩
            have wq5 : ((m : Int) - 1).toNat = m - 1 := by omega
            have q5 : (m : Int) - 1 < m := by omega
            have q6 : (0 : Int) ≤ (cn : Int) := by omega
            have q7 : (cn : Int) < (nc : Int) := by omega
            have q8 : (0 : Int) < (m : Int) := by omega
            have SPW := Lib.hid spw
            have HEW := Lib.hid hew
            have HLW := Lib.hid hlaw2
            have HV := Lib.hid hv
            clear hlaw hlaw2 spw hew hv hcs hcv hcc hxe
            have rv := fun W (hW : Tab W) => iread_any v iv W hW
            obtain ⟨gw, hgw⟩ : ∃ gw, wr.heap.size = gw := ⟨_, rfl⟩
            go_upto_region 16 with (first
              | (go_at_call 16; ((with_reducible refine (SF.out _).mono ?_); rintro e w' ⟨rfl, hw'⟩; subst w'))
              | (go_at_call 15; ((with_reducible refine (SPW.out _ HEW.out).mono ?_); rintro e w7 ⟨rfl, hc7, hb7⟩; have HC7 := Lib.hid hc7; have HB7 := Lib.hid (ext_trans HB.out hb7); clear hc7 hb7)))
            have cwL := HC7.out (m - 1) l0 hl0
            have cwF := HC7.out 0 f0' hf0'
            rw [hyl] at cwL
            rw [hyf] at cwF
            try rw [hgw]
            rw [hgw] at cwL cwF
            have gwL := World.block_lt_of_cell? w7 _ cwF
            obtain ⟨_, _, _, cev⟩ := sl_int (CS6.out.below HB7.out) hcnc HV.out
            rename_i a9 hh9 hb9
            injection hh9 with hh9
            subst hh9
            obtain ⟨fv, i0, i1, i2, ic, rvk, hic, hfk⟩ : ∃ fv i0 i1 i2 ic : Int, (∀ W, Tab W → Calls Tryd.prog 12 #[.int .i64 v] W fun e w' => e = .returned (.tuple #[.agg #[.int .i64 i0, .int .i64 i1, .int .i64 i2, .int .i64 ic], .int .i64 fv]) ∧ Below W.heap.size W w') ∧ (-2048 ≤ ic ∧ ic ≤ 2047) ∧ (instOk (unpack v) = true → fv = 0 ∧ ic = (unpack v).c) := by
              cases hkk : instOk (unpack v)
              · simp only [hkk, Bool.false_eq_true, if_false] at rv
                exact ⟨_, _, _, _, _, rv, ⟨by omega, by omega⟩, fun h => by cases h⟩
              · simp only [hkk, if_true] at rv
                have hbd := instOk_bd (op := (unpack v).op) (a := (unpack v).a) (b := (unpack v).b) (c := (unpack v).c) hkk
                exact ⟨_, _, _, _, _, rv, ⟨hbd.2.2.2.2.2.2.1, hbd.2.2.2.2.2.2.2⟩, fun _ => ⟨rfl, rfl⟩⟩
            have RV := Lib.hid rvk
            have HFK := Lib.hid hfk
            clear rvk hfk rv
            go_upto_region 17 with (fail)
            go_upto_region 18 with (go_at_call 12; ((with_reducible refine (RV.out _ (HE.out.below (ext_trans HB6.out HB7.out)).asc).mono ?_); rintro e w8 ⟨rfl, hb8⟩; have HB8 := Lib.hid (ext_trans HB7.out hb8); have B78 := Lib.hid hb8; clear hb8))
            obtain ⟨gj, hgj⟩ : ∃ gj, w8.heap.size = gj := ⟨_, rfl⟩
            obtain ⟨w9, hw9⟩ : ∃ w9, w9 = w8.alloc (.cells #[.int .i64 i0, .int .i64 i1, .int .i64 i2, .int .i64 ic] 23) := ⟨_, rfl⟩
            rw [← hw9]
            try rw [hgj]
            have hI9 : Bk w9 gj 23 #[.int .i64 i0, .int .i64 i1, .int .i64 i2, .int .i64 ic] := by rw [hw9, ← hgj]; exact bk_new _ _ _
            have b89 : Below w8.heap.size w8 w9 := by rw [hw9]; exact ext_alloc (Below.refl _ _) _
            have HB9 := Lib.hid (ext_trans HB8.out b89)
            have B79 := Lib.hid (ext_trans B78.out b89)
            have HI9 := Lib.hid hI9
            have CWF := Lib.hid ((B79.out.cell (p := ⟨gw, 0, none⟩) gwL).trans cwF)
            have GWL := Lib.hid (Nat.lt_of_lt_of_le gwL B79.out.size)
            have wq9 : IntKind.i64.wrap ((cn : Int) + ic) = (cn : Int) + ic := IntWalk.i64_in _ ⟨by omega, by omega⟩
            clear hw9 hgj hI9 b89 cwL cwF gwL cev ce gsL
            obtain ⟨WR, rfl⟩ : ∃ WR, wr = WR := ⟨_, rfl⟩
            have LS9 := Lib.hid (LS6.out.below HB9.out)
            go_wp2
            go_loopw [97] (fun i wr => ∃ j : Nat, j ≤ nl ∧ i = .int .i64 j ∧ Below w9.heap.size w9 wr) (fun i _ => nl - (intOf i).toNat)
            case atStart => exact ⟨0, Nat.zero_le _, rfl, Below.refl _ _⟩
            case round =>
              obtain ⟨j, hj, rfl, hb2⟩ := hrel
              have HBJ := Lib.hid hb2
              by_cases hlt2 : j < nl
              · have q12 : (0 : Int) ≤ j := by omega
                have q13 : (j : Int) < nl := by omega
                obtain ⟨z, hz⟩ : ∃ z, l[j]? = some z := ⟨_, List.getElem?_eq_getElem (by have := HNL.out; omega)⟩
                obtain ⟨ld, hld, hlb, e0, e1⟩ := sl_NamV (LS9.out.below hb2) hlt2 hz
                subst hld
                have hmem := List.mem_of_getElem? hz
                obtain ⟨cf0, cf1⟩ : wr.cell? ⟨gw, 0, none⟩ = some (.string yf) ∧ gw < wr.heap.size := ⟨(hb2.cell (p := ⟨gw, 0, none⟩) GWL.out).trans CWF.out, Nat.lt_of_lt_of_le GWL.out hb2.size⟩
                obtain ⟨i0c, i1c, i2c, i3c⟩ := cells4 (bk_keep hb2 HI9.out)
                have iL := (bk_keep hb2 HI9.out).lt
                obtain ⟨nm, xa⟩ := z
                simp only at e0 e1
                have hyfd : yf.data.toList = f0' := by rw [← hyf]
                clear hb2 hz
                by_cases h1 : 1 < m
                · have p1 : (1 : Int) < m := by omega
                  by_cases h2 : nm = yl
                  · have p2 : (nm.toList == yl.toList) = true := by rw [h2]; simp
                    have law := fun hf => HLW.out h1 hf ⟨nm, xa⟩ hmem (by rw [h2, ← hyl]; rfl)
                    by_cases h3 : f0' = wordL 8
                    · have p3 : (yf.toList == [106, 117, 109, 112]) = true := by rw [ByteArray.toList_eq, hyfd, h3]; rfl
                      obtain ⟨k1, k2⟩ := law (.inl h3)
                      obtain ⟨k3, k4⟩ := HFK.out k1
                      rw [← k4] at k2
                      simp only at k2
                      subst k3
                      subst k2
                      clear law k1 k4 h2 h3 hyfd hmem
                      go_wp2
                      go_roundw
                      case rel => exact ⟨j + 1, by omega, by go_num, ext_alloc HBJ.out _⟩
                      case measure => simp [intOf]; omega
                    · have p3 : (yf.toList == [106, 117, 109, 112]) = false := by rw [ByteArray.toList_eq, hyfd]; exact beq_eq_false_iff_ne.2 h3
                      by_cases h4 : f0' = wordL 9
                      · have p4 : (yf.toList == [105, 102]) = true := by rw [ByteArray.toList_eq, hyfd, h4]; rfl
                        obtain ⟨k1, k2⟩ := law (.inr h4)
                        obtain ⟨k3, k4⟩ := HFK.out k1
                        rw [← k4] at k2
                        simp only at k2
                        subst k3
                        subst k2
                        clear law k1 k4 h2 h3 h4 hyfd hmem
                        go_wp2
                        go_roundw
                        case rel => exact ⟨j + 1, by omega, by go_num, ext_alloc HBJ.out _⟩
                        case measure => simp [intOf]; omega
                      · have p4 : (yf.toList == [105, 102]) = false := by rw [ByteArray.toList_eq, hyfd]; exact beq_eq_false_iff_ne.2 h4
                        clear law h2 h3 h4 hyfd hmem
                        go_wp2
                        go_roundw
                        case rel => exact ⟨j + 1, by omega, by go_num, ext_alloc HBJ.out _⟩
                        case measure => simp [intOf]; omega
                  · have p2 : (nm.toList == yl.toList) = false := beq_eq_false_iff_ne.2 fun e => h2 (name_eq.1 e)
                    clear h2 hyfd hmem
                    go_wp2
                    go_roundw
                    case rel => exact ⟨j + 1, by omega, by go_num, ext_alloc HBJ.out _⟩
                    case measure => simp [intOf]; omega
                · have p1 : ¬ ((1 : Int) < m) := by omega
                  clear hyfd hmem
                  go_wp2
                  go_roundw
                  case rel => exact ⟨j + 1, by omega, by go_num, ext_alloc HBJ.out _⟩
                  case measure => simp [intOf]; omega
              · have q13 : ¬ ((j : Int) < nl) := by omega
                have HBE := Lib.hid (ext_trans HB9.out hb2)
                clear hb2
                go_wp2
                go_roundw
                case rel => exact ⟨k + 1, by omega, by go_num, by rw [HCN.out]; go_num, HBE.out⟩
                case measure => simp [intOf]; omega
          · have hcs := HCS'.out
            simp only [Bool.not_true, Bool.false_eq_true, if_false, Nat.add_zero] at hcs
            have HCN := Lib.hid hcs
            clear hcs
            go_wp2_with (go_at_call 16; ((with_reducible refine (SF.out _).mono ?_); rintro e w' ⟨rfl, hw'⟩; subst w'))
            go_roundw
            case rel => exact ⟨k + 1, by omega, by go_num, by rw [HCN.out], HB.out⟩
            case measure => simp [intOf]; omega
        · have f0 : y.toList.isEmpty = true := by rw [ByteArray.toList_eq, hyd]; exact hxe
          have hcs := HCS.out
          have hx0 : x = [] := by cases x <;> simp_all
          rw [hx0] at hcs
          have hcs2 : cellsN (L.take (k + 1)) = cn := by rw [hcs]; rfl
          have HCS' := Lib.hid hcs2
          clear hcs hcs2 hx0 hyd hxe hy hsf
          go_wp2
          go_roundw
          case rel => exact ⟨k + 1, by omega, by go_num, by rw [HCS'.out], HB.out⟩
          case measure => simp [intOf]; omega
      · have q3 : ¬ ((k : Int) < n) := by omega
        have hfl2 : L.take k = L := List.take_of_length_le (by have := HN.out; omega)
        try rw [hfl2]
        have hlw := HLAW.out
        try rw [← hlw]
        clear hfl2 hlw
        go_wp2
        go_ret
        exact ⟨rfl, ext_trans HB6.out hb⟩
  · have q1 : (X.er != 0) = true := by simpa using hx
    have q2 : (X.er == 0) = false := by simpa using hx
    obtain ⟨er, her⟩ : ∃ er, X.er = er := ⟨_, rfl⟩
    rw [her] at q1 q2
    simp only [her] at RD
    clear hX hx her hL hn hs
    go_wp2_with (go_at_call 14; ((with_reducible refine (RD.out _ (HE.out.below HB4.out)).mono ?_); rintro e w5 ⟨ca5, cc5, la5, lc5, rfl, hc5, hl5, hb5⟩; have CS5 := Lib.hid hc5; have LS5 := Lib.hid hl5; have HB5 := Lib.hid (ext_trans HB4.out hb5); clear hc5 hl5 hb5))
    go_ret
    exact ⟨rfl, HB5.out⟩
end Go.Proofs.YtjlncoodkejncaaDoor
