import Derived.Test.YtjlncoodkejncaaDoorProgBaseZ
import Derived.Test.YtjlncoodkejncaaDoorProgLitZ
/- Empty lines do not matter, and every other line that is not a label defines a cell. -/
namespace Go.Proofs.YtjlncoodkejncaaDoor
open Go Go.RowKit Go.Shelf
set_option linter.unusedVariables false
set_option linter.unusedSimpArgs false
theorem sl_litL (w : World) (c : UInt8) (n : Int) : Sl (w.alloc (.cells #[.string ⟨#[c]⟩, .int .i64 n] 39)) (some ⟨w.heap.size, 0, none⟩) 1 [(⟨ba [c], n⟩ : NamV)] := lit_sl1 _ _ rfl
theorem lines_80 : ∀ (ls : List (List UInt8)) (r : RdV) (n : Nat), (linesR r n ls).2.2 = 0 → ∀ s ∈ ls, s.length ≤ 80
  | [], _, _, _, s, hs => by cases hs
  | x :: ls, r, n, h, s, hs => by
    rw [lines_cons] at h
    split at h
    · next hk =>
      rcases List.mem_cons.1 hs with e | e
      · subst e; exact lineR_ok hk
      · exact lines_80 ls _ _ h s e
    · next hk => exact absurd h hk
theorem cellsN_snoc (ls : List (List UInt8)) (s : List UInt8) : cellsN (ls ++ [s]) = cellsN ls + (if isCell s then 1 else 0) := by
  unfold cellsN
  rw [List.filter_append, List.length_append]
  cases h : isCell s <;> simp [h]
theorem cellsN_le (ls : List (List UInt8)) : cellsN ls ≤ ls.length := by
  unfold cellsN
  exact List.length_filter_le _ _
set_option maxHeartbeats 8000000 in
set_option maxRecDepth 100000 in
theorem progLines_walk (s : ByteArray) (w : World) (hs : s.size ≤ 1048576) (he : PEnv w) : Calls Tryd.prog 5 #[.string s] w fun e w' => e = .returned (.bool true) ∧ Below w.heap.size w w' := by
  have r0 := fun W (hW : PEnv W) => pread_view ⟨#[97, 58, 10, 10, 115, 101, 116, 32, 114, 49, 32, 53, 10, 106, 117, 109, 112, 32, 97]⟩ W hW (by decide) _ read_lines0
  simp only [List.length_cons, List.length_nil, Nat.zero_add] at r0
  obtain ⟨C0, hC0⟩ : ∃ C0, [packF ⟨1, 1, 0, 5⟩, packF ⟨8, 0, 0, -1⟩] = C0 := ⟨_, rfl⟩
  simp only [hC0] at r0
  have hsplit := fun W (hW : PEnv W) => split_any s 10 W hW hs
  obtain ⟨L, hL⟩ : ∃ L, splitC 10 s.data.toList = L := ⟨_, rfl⟩
  obtain ⟨n, hn⟩ : ∃ n, L.length = n := ⟨_, rfl⟩
  simp only [hL, hn] at hsplit
  obtain ⟨X, hX⟩ : ∃ X, readF s.data.toList = X := ⟨_, rfl⟩
  have rd := fun W (hW : PEnv W) => pread_view s W hW hs X hX
  have HE := Lib.hid he
  have H1 := Lib.hid (Below.refl w.heap.size w)
  have R0 := Lib.hid r0
  have SP := Lib.hid hsplit
  have RD := Lib.hid rd
  clear he r0 hsplit rd hC0
  by_cases hx : X.er = 0
  · obtain ⟨full, hfull⟩ : ∃ full, (L.filter fun x => !x.isEmpty) = full := ⟨_, rfl⟩
    have hx0 : (readF s.data.toList).er = 0 := by rw [hX]; exact hx
    have hlaw := lines_law hx0 full (by rw [hL, hfull])
    obtain ⟨hok, hline⟩ := read_ok hx0
    have h80 := lines_80 _ _ _ hok.lines
    have h150 := hok.n
    rw [hL] at hlaw h80 h150
    rw [hX] at hlaw hline
    obtain ⟨j1, j2, j3⟩ := hlaw
    obtain ⟨c, l, ln, er⟩ := X
    simp only at hx hline j1 j2 j3
    subst hx hline
    obtain ⟨nc, hnc⟩ : ∃ nc, c.length = nc := ⟨_, rfl⟩
    obtain ⟨nl, hnl⟩ : ∃ nl, l.length = nl := ⟨_, rfl⟩
    simp only [hnc, hnl] at RD
    rw [hnc] at j2
    rw [hnl] at j3
    have hfl : full.length ≤ 150 := by rw [← hfull]; have := List.length_filter_le (fun x : List UInt8 => !x.isEmpty) L; omega
    have hjl := join_len full (fun x hx => h80 x (by rw [← hfull] at hx; exact (List.mem_filter.1 hx).1))
    obtain ⟨J, hJ⟩ : ∃ J, ba (Lib.join full [10]) = J := ⟨_, rfl⟩
    have hJs : J.size ≤ 1048576 := by rw [← hJ, ba_size]; omega
    have rj := fun W (hW : PEnv W) => pread_view J W hW hJs ⟨c, l, 0, 0⟩ (by rw [← hJ]; exact j1)
    simp only [hnc, hnl] at rj
    have RJ := Lib.hid rj
    have HN := Lib.hid hn
    have HF := Lib.hid hfull
    have J2 := Lib.hid j2
    have J3 := Lib.hid j3
    have HJ := Lib.hid hJ
    have HJL := Lib.hid hjl
    have H80 := Lib.hid h80
    have hn150 : n ≤ 150 := by omega
    obtain ⟨i0_, i1_, iz0, iz1, iz2⟩ := info_parts info_strT
    clear rj hX hL hn hs hx0 hok h80 h150 hfull j1 j2 j3 hJ hJs hjl hnc hnl
    go_enter Tryd.func5, Tryd.ntmps5
    go_upto_region 8 with (first
      | (go_at_call 14; ((with_reducible refine (R0.out _ (HE.out.below H1.out)).mono ?_); rintro e w2 ⟨ca2, cc2, la2, lc2, rfl, hc2, hl2, hb2⟩; have CS2 := Lib.hid hc2; have LS2 := Lib.hid hl2; have HB2 := Lib.hid (ext_trans H1.out hb2); clear hc2 hl2 hb2))
      | (go_at_call 17; ((with_reducible refine (eqs_Label la2 (some ⟨w2.heap.size, 0, none⟩) 1 lc2 1 [(⟨ba [97], 0⟩ : NamV)] _ (LS2.out.alloc _) (sl_litL w2 97 0)).mono ?_); rintro e w3 ⟨rfl, hb3⟩; have HB3 := Lib.hid (ext_trans (show Below w.heap.size w (w2.alloc (.cells #[.string ⟨#[97]⟩, .int .i64 0] 39)) from ext_alloc HB2.out _) hb3); clear hb3))
      | (go_at_call 14; ((with_reducible refine (RD.out _ (HE.out.below HB3.out)).mono ?_); rintro e w4 ⟨ca4, cc4, la4, lc4, rfl, hc4, hl4, hb4⟩; have CS4 := Lib.hid hc4; have LS4 := Lib.hid hl4; have HB4 := Lib.hid (ext_trans HB3.out hb4); clear hc4 hl4 hb4))
      | (go_at_call 15; ((with_reducible refine (SP.out _ (HE.out.below HB4.out)).mono ?_); rintro e w5 ⟨rfl, hc5, hb5⟩; have HC5 := Lib.hid hc5; have HB5 := Lib.hid (ext_trans HB4.out hb5); have CS5 := Lib.hid (CS4.out.below hb5); have LS5 := Lib.hid (LS4.out.below hb5); have B45 := Lib.hid hb5; clear hc5 hb5)))
    obtain ⟨gs, hgs⟩ : ∃ gs, w4.heap.size = gs := ⟨_, rfl⟩
    have lc : ∀ W, Below w5.heap.size w5 W → ∀ k x, L[k]? = some x → W.cell? ⟨gs, k, none⟩ = some (.string ⟨x.toArray⟩) ∧ gs < W.heap.size := fun W hW k x hx => by
      have h1 := HC5.out k x hx
      rw [hgs] at h1
      have hlt := World.block_lt_of_cell? w5 _ h1
      exact ⟨(hW.cell (p := ⟨gs, k, none⟩) hlt).trans h1, Nat.lt_of_lt_of_le hlt hW.size⟩
    have LC := Lib.hid lc
    clear lc HC5
    try rw [hgs]
    go_wp2
    go_loopw [12, 13, 71] (fun v q i wr => ∃ k : Nat, k ≤ n ∧ i = .int .i64 k ∧ q = .int .i64 (cellsN (L.take k)) ∧ Own wr w5.heap.size 9 v (((L.take k).filter fun x => !x.isEmpty).map ba) ∧ Below w5.heap.size w5 wr) (fun _ _ i _ => n - (intOf i).toNat)
    case atStart => exact ⟨0, Nat.zero_le _, rfl, rfl, Own.nil _ _ _, Below.refl _ _⟩
    case round =>
      obtain ⟨k, hk, rfl, rfl, how, hb⟩ := hrel
      have HB := Lib.hid hb
      by_cases hlt : k < n
      · have q2 : (0 : Int) ≤ k := by omega
        have q3 : (k : Int) < n := by omega
        obtain ⟨x, hx⟩ : ∃ x, L[k]? = some x := ⟨_, List.getElem?_eq_getElem (by have := HN.out; omega)⟩
        obtain ⟨ce, gsL⟩ := LC.out wr hb k x hx
        obtain ⟨y, hy⟩ : ∃ y : ByteArray, (⟨x.toArray⟩ : ByteArray) = y := ⟨_, rfl⟩
        have hyd : y.data.toList = x := by rw [← hy]
        have hysz : y.size ≤ 80 := by
          have h1 : y.size = y.data.toList.length := rfl
          rw [h1, hyd]; exact H80.out x (List.mem_of_getElem? hx)
        rw [hy] at ce
        have htk : L.take (k + 1) = L.take k ++ [x] := by rw [List.take_add_one, hx]; rfl
        have hcl := cellsN_le (L.take k)
        rw [List.length_take] at hcl
        have hcs := cellsN_snoc (L.take k) x
        rw [← htk] at hcs
        obtain ⟨cn, hcn⟩ : ∃ cn, cellsN (L.take k) = cn := ⟨_, rfl⟩
        rw [hcn] at hcs hcl
        try rw [hcn]
        obtain ⟨LS, hLS⟩ : ∃ LS, ((L.take k).filter fun x => !x.isEmpty).map ba = LS := ⟨_, rfl⟩
        have hfs : ((L.take (k + 1)).filter fun x => !x.isEmpty).map ba = LS ++ (if x.isEmpty then [] else [y]) := by
          rw [htk, List.filter_append, List.map_append, hLS]
          cases hxe : x.isEmpty
          · simp [hxe, ← hy, ba]
          · simp [hxe]
        rw [hLS] at how
        have hlsl : LS.length ≤ k := by
          rw [← hLS, List.length_map]
          refine Nat.le_trans (List.length_filter_le _ _) ?_
          rw [List.length_take]; omega
        have HLS := Lib.hid hlsl
        have HCS := Lib.hid hcs
        have HFS := Lib.hid hfs
        have OW := Lib.hid how
        have wq : IntKind.i64.wrap ((cn : Int) + 1) = (cn : Int) + 1 := IntWalk.i64_in _ ⟨by omega, by omega⟩
        clear hb hx htk how hLS hlsl hcs hfs
        cases hxe : x.isEmpty
        · have f0 : y.toList.isEmpty = false := by rw [ByteArray.toList_eq, hyd]; exact hxe
          have hfs := HFS.out
          rw [hxe] at hfs
          simp only [Bool.false_eq_true, if_false] at hfs
          have HFS' := Lib.hid hfs
          obtain ⟨va, vn, vc, rfl⟩ := own_shape OW.out
          have hsf := fun W => Tryd.strings_HasSuffix y ⟨#[58]⟩ W (by omega)
          rw [hyd] at hsf
          have hcc : isCell x = !Lib.hasSuffix x [58] := by unfold isCell isLab; rw [hxe]; simp
          have hcs := HCS.out
          rw [hcc] at hcs
          have APP := Lib.hid (show True from trivial)
          obtain ⟨hb58, hb58e⟩ : ∃ b, Lib.hasSuffix x [58] = b := ⟨_, rfl⟩
          rw [hb58e] at hcs
          have hsf2 : ∀ W, Calls Tryd.prog 16 #[.string y, .string ⟨#[58]⟩] W fun e w' => e = .returned (.bool hb58) ∧ w' = W := fun W => by
            have := hsf W
            rwa [show (⟨#[58]⟩ : ByteArray).data.toList = [58] from rfl, hb58e] at this
          have SF := Lib.hid hsf2
          have HCS' := Lib.hid hcs
          clear hsf hsf2 hcc hcs hfs hyd hxe hy hb58e
          cases hb58
          · have hcs := HCS'.out
            simp only [Bool.not_false, if_true] at hcs
            have HCN := Lib.hid hcs
            clear hcs
            go_wp2_with (first
              | (at_builtin; refine wpList_append_sl (α := ByteArray) rfl (.tmp 77) (.tmp 79) 40 rfl w5.heap.size 9 i0_ _ 16 Tryd.underlying40 i1_ iz0 iz1 iz2 rfl (.slice va vn vc) LS rfl (OW.out.alloc _) (some ⟨wr.heap.size, 0, none⟩) 1 1 [y] rfl (lit_sl1 _ _ rfl) (by have := HLS.out; unfold maxLen; omega) (by have := HLS.out; omega) (by rw [World.size_alloc]; have := HB.out.size; omega) ?_; intro v9 w9 hown9 hgr9 _; have HO9 := Lib.hid hown9; have HB9 := Lib.hid (grow_lit HB.out (OW.out.alloc _) hgr9); clear hown9 hgr9)
              | (go_at_call 16; ((with_reducible refine (SF.out _).mono ?_); rintro e w' ⟨rfl, hw'⟩; subst w')))
            go_roundw
            case rel => exact ⟨k + 1, by omega, by go_num, by rw [HCN.out]; go_num, by rw [HFS'.out]; exact HO9.out, HB9.out⟩
            case measure => simp [intOf]; omega
          · have hcs := HCS'.out
            simp only [Bool.not_true, Bool.false_eq_true, if_false, Nat.add_zero] at hcs
            have HCN := Lib.hid hcs
            clear hcs
            go_wp2_with (first
              | (at_builtin; refine wpList_append_sl (α := ByteArray) rfl (.tmp 77) (.tmp 79) 40 rfl w5.heap.size 9 i0_ _ 16 Tryd.underlying40 i1_ iz0 iz1 iz2 rfl (.slice va vn vc) LS rfl (OW.out.alloc _) (some ⟨wr.heap.size, 0, none⟩) 1 1 [y] rfl (lit_sl1 _ _ rfl) (by have := HLS.out; unfold maxLen; omega) (by have := HLS.out; omega) (by rw [World.size_alloc]; have := HB.out.size; omega) ?_; intro v9 w9 hown9 hgr9 _; have HO9 := Lib.hid hown9; have HB9 := Lib.hid (grow_lit HB.out (OW.out.alloc _) hgr9); clear hown9 hgr9)
              | (go_at_call 16; ((with_reducible refine (SF.out _).mono ?_); rintro e w' ⟨rfl, hw'⟩; subst w')))
            go_roundw
            case rel => exact ⟨k + 1, by omega, by go_num, by rw [HCN.out], by rw [HFS'.out]; exact HO9.out, HB9.out⟩
            case measure => simp [intOf]; omega
        · have f0 : y.toList.isEmpty = true := by rw [ByteArray.toList_eq, hyd]; exact hxe
          have hfs := HFS.out
          rw [hxe] at hfs
          simp only [if_true, List.append_nil] at hfs
          have hcs := HCS.out
          have hx0 : x = [] := by cases x <;> simp_all
          rw [hx0] at hcs
          have hcs2 : cellsN (L.take (k + 1)) = cn := by rw [hcs]; rfl
          have HFS' := Lib.hid hfs
          have HCS' := Lib.hid hcs2
          clear hfs hcs hcs2 hx0 hyd hxe hy
          go_wp2
          go_roundw
          case rel => exact ⟨k + 1, by omega, by go_num, by rw [HCS'.out], by rw [HFS'.out]; exact OW.out, HB.out⟩
          case measure => simp [intOf]; omega
      · have q3 : ¬ ((k : Int) < n) := by omega
        have hfl2 : L.take k = L := List.take_of_length_le (by have := HN.out; omega)
        rw [hfl2, HF.out] at how
        try rw [hfl2]
        have hcn := J2.out
        have hfn := J3.out
        obtain ⟨cn, hcn2⟩ : ∃ cn, cellsN L = cn := ⟨_, rfl⟩
        rw [hcn2] at hcn hfn
        try rw [hcn2]
        subst hcn
        have jn := join_any _ _ _ wr how (by rw [List.length_map]; exact Nat.le_trans hfl (by omega)) (by
          rw [List.map_map, show (fun x : ByteArray => x.data.toList) ∘ ba = id from rfl, List.map_id]
          have := HJL.out; omega)
        rw [List.map_map, show (fun x : ByteArray => x.data.toList) ∘ ba = id from rfl, List.map_id, HJ.out] at jn
        have hsz : (full.map ba).length = full.length := List.length_map _
        obtain ⟨va, vc, rfl, _, _⟩ := how.sl
        rw [hsz] at jn
        try rw [hsz]
        obtain ⟨fn, hfn2⟩ : ∃ fn, full.length = fn := ⟨_, rfl⟩
        rw [hfn2] at jn hfn hfl
        try rw [hfn2]
        have JN := Lib.hid jn
        have HB' := Lib.hid (ext_trans HB5.out hb)
        have CSR := Lib.hid (CS5.out.below hb)
        have LSR := Lib.hid (LS5.out.below hb)
        have q5 : (fn : Int) - (nc : Int) = (nl : Int) := by omega
        have wq5 : IntKind.i64.wrap ((fn : Int) - (nc : Int)) = (nl : Int) := by rw [q5]; exact IntWalk.i64_in _ ⟨by omega, by omega⟩
        clear how hb jn hsz hfn2 hcn2 hfl2 LC
        go_wp2_with (first
          | (go_at_call 18; ((with_reducible refine JN.out.mono ?_); rintro e w6 ⟨rfl, hb6⟩; have HB6 := Lib.hid (ext_trans HB'.out hb6); have CS6 := Lib.hid (CSR.out.below hb6); have LS6 := Lib.hid (LSR.out.below hb6); clear hb6))
          | (go_at_call 14; ((with_reducible refine (RJ.out _ (HE.out.below HB6.out)).mono ?_); rintro e w7 ⟨ca7, cc7, la7, lc7, rfl, hc7, hl7, hb7⟩; have CS7 := Lib.hid hc7; have LS7 := Lib.hid hl7; have HB7 := Lib.hid (ext_trans HB6.out hb7); have CS6B := Lib.hid (CS6.out.below hb7); have LS6B := Lib.hid (LS6.out.below hb7); clear hc7 hl7 hb7))
          | (go_at_call 19; ((with_reducible refine (eqs_Int ca4 ca7 nc cc4 cc7 c _ CS6B.out CS7.out).mono ?_); rintro e w8 ⟨rfl, hb8⟩; have HB8 := Lib.hid (ext_trans HB7.out hb8); have LS6C := Lib.hid (LS6B.out.below hb8); have LS7C := Lib.hid (LS7.out.below hb8); clear hb8))
          | (go_at_call 17; ((with_reducible refine (eqs_Label la4 la7 nl lc4 lc7 l _ LS6C.out LS7C.out).mono ?_); rintro e w9 ⟨rfl, hb9⟩; have HB9 := Lib.hid (ext_trans HB8.out hb9); clear hb9)))
        go_ret
        exact ⟨rfl, HB9.out⟩
  · have hbad := read_bad (text := s.data.toList) (by rw [hX]; exact hx)
    rw [hX, hL, hn] at hbad
    obtain ⟨b1, b2, b3, b4⟩ := hbad
    have q1 : (X.er != 0) = true := by simpa using hx
    have q2 : (X.er == 0) = false := by simpa using hx
    obtain ⟨er, her⟩ : ∃ er, X.er = er := ⟨_, rfl⟩
    obtain ⟨ln, hln⟩ : ∃ ln, X.line = ln := ⟨_, rfl⟩
    rw [her] at q1 q2
    rw [hln] at b3 b4
    simp only [b1, b2, her, hln, List.length_nil] at RD
    clear hX hx b1 b2 her hln hL hn hs
    go_enter Tryd.func5, Tryd.ntmps5
    go_wp2_with (first
      | (go_at_call 14; ((with_reducible refine (R0.out _ (HE.out.below H1.out)).mono ?_); rintro e w2 ⟨ca2, cc2, la2, lc2, rfl, hc2, hl2, hb2⟩; have CS2 := Lib.hid hc2; have LS2 := Lib.hid hl2; have HB2 := Lib.hid (ext_trans H1.out hb2); clear hc2 hl2 hb2))
      | (go_at_call 17; ((with_reducible refine (eqs_Label la2 (some ⟨w2.heap.size, 0, none⟩) 1 lc2 1 [(⟨ba [97], 0⟩ : NamV)] _ (LS2.out.alloc _) (sl_litL w2 97 0)).mono ?_); rintro e w3 ⟨rfl, hb3⟩; have HB3 := Lib.hid (ext_trans (show Below w.heap.size w (w2.alloc (.cells #[.string ⟨#[97]⟩, .int .i64 0] 39)) from ext_alloc HB2.out _) hb3); clear hb3))
      | (go_at_call 14; ((with_reducible refine (RD.out _ (HE.out.below HB3.out)).mono ?_); rintro e w4 ⟨ca4, cc4, la4, lc4, rfl, hc4, hl4, hb4⟩; have CS4 := Lib.hid hc4; have LS4 := Lib.hid hl4; have HB4 := Lib.hid (ext_trans HB3.out hb4); clear hc4 hl4 hb4))
      | (go_at_call 15; ((with_reducible refine (SP.out _ (HE.out.below HB4.out)).mono ?_); rintro e w5 ⟨rfl, hc5, hb5⟩; have HC5 := Lib.hid hc5; have HB5 := Lib.hid (ext_trans HB4.out hb5); have CS5 := Lib.hid (CS4.out.below hb5); have LS5 := Lib.hid (LS4.out.below hb5); have B45 := Lib.hid hb5; clear hc5 hb5)))
    go_ret
    exact ⟨rfl, HB5.out⟩
end Go.Proofs.YtjlncoodkejncaaDoor
