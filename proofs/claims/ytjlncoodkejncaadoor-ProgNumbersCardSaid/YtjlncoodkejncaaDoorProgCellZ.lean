import Derived.Test.YtjlncoodkejncaaDoorParseZ
import Derived.Test.YtjlncoodkejncaaDoorProgRdZ
/- The reader of a program: cell. -/
namespace Go.Proofs.YtjlncoodkejncaaDoor
open Go Go.RowKit Go.Shelf
set_option linter.unusedVariables false
set_option linter.unusedSimpArgs false
theorem info_intP : (Tryd.prog.info? 3).map (fun i => (i.zero, i.size, i.bytes)) = some (some (.int .i64 0), 1, 8) := by kernel_rfl
theorem atoi_ok (s : ByteArray) (v : Int) (h : Lib.atoiAll s.data.toList = .ok v) (w : World) (hs : s.size ≤ 1048576) : Calls Tryd.prog 28 #[.string s] w fun e w' => e = .returned (.tuple #[.int .i64 v, .nilIface]) ∧ Below w.heap.size w w' := by
  refine (Tryd.strconv_Atoi_ok s (by omega) v h w).mono ?_
  rintro e w' ⟨rfl, rfl | ⟨t, rfl⟩⟩
  · exact ⟨rfl, Below.refl _ _⟩
  · exact ⟨rfl, Lib.bytesWorld_below w _ _⟩
theorem atoi_bad (s : ByteArray) (h : ∀ v, Lib.atoiAll s.data.toList ≠ .ok v) (w : World) (hw : PEnv w) (hs : s.size ≤ 1048576) : Calls Tryd.prog 28 #[.string s] w fun e w' => ∃ n N, e = .returned (.tuple #[.int .i64 n, .iface 99 (.pointer (some ⟨N, 0, none⟩))]) ∧ Below w.heap.size w w' := by
  cases ha : Lib.atoiAll s.data.toList with
  | ok v => exact absurd ha (h v)
  | range =>
    obtain ⟨tp, p, hv⟩ := hw.rng
    refine (Tryd.strconv_Atoi_range_var s (by omega) ha tp p w hv).mono ?_
    rintro e w' ⟨N, rfl, _, _, hb⟩
    exact ⟨_, _, rfl, hb⟩
  | _ =>
    obtain ⟨tp, p, hv⟩ := hw.syn
    refine (Tryd.strconv_Atoi_syntax_var s (by omega) ha tp p w hv).mono ?_
    rintro e w' ⟨N, rfl, _, _, hb⟩
    exact ⟨_, _, rfl, hb⟩
theorem atoi_i64 {l : List UInt8} {v : Int} (h : Lib.atoiAll l = .ok v) : I64 v := by
  unfold Lib.atoiAll at h
  unfold I64
  cases l with
  | nil => cases h
  | cons c r =>
    simp only at h
    cases hp : Lib.parseMag (if c.toNat = 43 ∨ c.toNat = 45 then r else c :: r) with
    | range => rw [hp] at h; cases h
    | ok u =>
      rw [hp] at h
      simp only at h
      by_cases h1 : ¬ c.toNat = 45 ∧ 9223372036854775808 ≤ u
      · rw [if_pos h1] at h; cases h
      · rw [if_neg h1] at h
        by_cases h2 : c.toNat = 45 ∧ 9223372036854775808 < u
        · rw [if_pos h2] at h; cases h
        · rw [if_neg h2] at h
          injection h with h
          subst h
          split <;> omega
    | _ => rw [hp] at h; cases h
theorem isnum_any (n : Int) (w : World) : Calls Tryd.prog 37 #[.int .i64 n] w fun e w' => e = .returned (.bool (num32B n)) ∧ w' = w := by
  by_cases h1 : -2147483648 ≤ n
  · by_cases h2 : n ≤ 2147483647
    · have e : num32B n = true := by unfold num32B; simp; omega
      rw [e]
      go_enter Tryd.func37, Tryd.ntmps37
      go_wp2
      go_ret
      exact ⟨rfl, rfl⟩
    · have e : num32B n = false := by unfold num32B; simp; omega
      rw [e]
      go_enter Tryd.func37, Tryd.ntmps37
      go_wp2
      go_ret
      exact ⟨rfl, rfl⟩
  · have e : num32B n = false := by unfold num32B; simp; omega
    rw [e]
    go_enter Tryd.func37, Tryd.ntmps37
    go_wp2
    go_ret
    exact ⟨rfl, rfl⟩
set_option maxHeartbeats 8000000 in
set_option maxRecDepth 100000 in
theorem rcell_word (g : Nat) (r : RdV) (vc vl vh : Value) (n : Int) (s : ByteArray) (w : World) (h : RdSt g r vc vl vh w) (he : PEnv w) (hs : s.size ≤ 80) (hn1 : r.code.length ≤ 1000) (hn2 : r.holes.length ≤ 1000) (hp : Lib.hasPrefix s.data.toList wordP = true) (hk : numB (s.data.toList.drop 5) = true) :
    Calls Tryd.prog 46 #[.pointer (some ⟨g, 0, none⟩), .int .i64 n, .string s] w (RdPost g w (cellR r n s.data.toList).1 (cellR r n s.data.toList).2) := by
  have gL := h.b.lt
  have gS := h.gle
  have cp := fun W => Tryd.strings_CutPrefix s ⟨#[119, 111, 114, 100, 32]⟩ W
  have hpre : Lib.hasPrefix s.data.toList wordP = true := hp
  have htr : Lib.trimPrefix s.data.toList (⟨#[119, 111, 114, 100, 32]⟩ : ByteArray).data.toList = s.data.toList.drop 5 := by
    unfold Lib.trimPrefix; rw [if_pos (show Lib.hasPrefix s.data.toList [119, 111, 114, 100, 32] = true from hpre)]; rfl
  obtain ⟨q, hq⟩ : ∃ q : ByteArray, (⟨(s.data.toList.drop 5).toArray⟩ : ByteArray) = q := ⟨_, rfl⟩
  have hqd : q.data.toList = s.data.toList.drop 5 := by rw [← hq]
  have hqs : q.size ≤ 1048576 := by
    have h1 : q.size = q.data.toList.length := rfl
    have h2 : s.size = s.data.toList.length := rfl
    rw [h1, hqd, List.length_drop]; omega
  simp only [show Lib.hasPrefix s.data.toList (⟨#[119, 111, 114, 100, 32]⟩ : ByteArray).data.toList = true from hpre, htr, hq] at cp
  obtain ⟨v, hv⟩ : ∃ v, atoiV (s.data.toList.drop 5) = v := ⟨_, rfl⟩
  have e : cellR r n s.data.toList = (⟨r.code ++ [v], r.labels, r.holes⟩, 0) := by unfold cellR; rw [if_pos hpre, if_pos hk, hv]
  rw [e]
  unfold numB at hk
  simp only [Bool.and_eq_true, decide_eq_true_eq, hv] at hk
  obtain ⟨⟨k1, k2⟩, k3⟩ := hk
  rw [← hqd] at k1 k2
  have hbd : -2147483648 ≤ v ∧ v ≤ 2147483647 := by simpa [num32B] using k3
  have ao := fun W => atoi_ok q v k1 W hqs
  have it := fun W (hW : PEnv W) => itoa_any v ⟨by omega, by omega⟩ W hW.ten
  rw [k2, ba_of] at it
  have nm := fun W => isnum_any v W
  rw [k3] at nm
  obtain ⟨ca, cc, rfl, _, _⟩ := h.c.sl
  obtain ⟨m, hm⟩ : ∃ m, r.code.length = m := ⟨_, rfl⟩
  rw [hm] at h hn1
  have HM := Lib.hid hm
  have ST := Lib.hid h
  have HE := Lib.hid he
  have CP := Lib.hid cp
  have AO := Lib.hid ao
  have IT := Lib.hid it
  have NM := Lib.hid nm
  have f1 : (q.toList != q.toList) = false := by simp
  obtain ⟨i0_, i1_, iz0, iz1, iz2⟩ := info_parts info_intP
  clear h he cp ao it nm e hp hpre htr hq hqd hqs hv k1 k2 k3 hbd hm
  go_enter Tryd.func46, Tryd.ntmps46
  go_upto_region 6 with (first
    | (go_at_call 63; ((with_reducible refine (CP.out _).mono ?_); rintro e w' ⟨rfl, hw'⟩; subst w'))
    | (go_at_call 28; ((with_reducible refine (AO.out _).mono ?_); rintro e w1 ⟨rfl, hb1⟩; have S1 := Lib.hid (ST.out.below hb1); have HB1 := Lib.hid hb1; clear hb1))
    | (go_at_call 24; ((with_reducible refine (IT.out _ (HE.out.below HB1.out)).mono ?_); rintro e w2 ⟨rfl, hb2⟩; have S2 := Lib.hid (S1.out.below hb2); have UW := Lib.hid (ext_trans HB1.out hb2); clear hb2))
    | (go_at_call 37; ((with_reducible refine (NM.out _).mono ?_); rintro e w' ⟨rfl, hw'⟩; subst w')))
  obtain ⟨c0, c1, c2⟩ := cells3 S2.out.b
  have gL2 := S2.out.b.lt
  go_wp2_with (at_builtin; refine wpList_append_sl rfl (.tmp 46) (.tmp 48) 34 rfl g 3 i0_ _ 8 Tryd.underlying34 i1_ iz0 iz1 iz2 rfl (.slice ca m cc) r.code rfl (S2.out.c.alloc _) (some ⟨w2.heap.size, 0, none⟩) 1 1 [v] rfl (lit_sl1 _ _ rfl) (by rw [HM.out]; unfold maxLen; omega) (by rw [HM.out]; omega) (by rw [World.size_alloc]; have := S2.out.gle; omega) ?_; intro v4 w4 hown4 hgr4 _; have kb := bk_other (bk_old _ S2.out.b) (S2.out.c.alloc _) (by decide) hgr4; have c9 := kb.cell 0; have f9 := kb.frozen 0; simp only [List.getElem?_toArray, List.getElem?_cons_succ, List.getElem?_cons_zero] at c9; have k9L := kb.lt; obtain ⟨xa, xn, xc, rfl⟩ := own_shape hown4; have FIN := Lib.hid ((S2.out.below (ext_alloc (Below.refl _ _) _)).setC hgr4 hown4); have UN := Lib.hid (RdSt.under (S2.out.c.alloc _) ((ext_alloc UW.out _).mono gS) (by rw [World.size_alloc]; have := S2.out.gle; omega) hgr4 0 (.slice xa xn xc)); clear kb hown4 hgr4)
  go_ret
  exact rd_post FIN.out UN.out rfl
set_option maxHeartbeats 8000000 in
set_option maxRecDepth 100000 in
theorem rcell_noword (g : Nat) (r : RdV) (vc vl vh : Value) (n : Int) (s : ByteArray) (w : World) (h : RdSt g r vc vl vh w) (he : PEnv w) (hs : s.size ≤ 80) (hn1 : r.code.length ≤ 1000) (hn2 : r.holes.length ≤ 1000) (hp : Lib.hasPrefix s.data.toList wordP = true) (hk : numB (s.data.toList.drop 5) = false) :
    Calls Tryd.prog 46 #[.pointer (some ⟨g, 0, none⟩), .int .i64 n, .string s] w (RdPost g w (cellR r n s.data.toList).1 (cellR r n s.data.toList).2) := by
  have gL := h.b.lt
  have gS := h.gle
  have cp := fun W => Tryd.strings_CutPrefix s ⟨#[119, 111, 114, 100, 32]⟩ W
  have hpre : Lib.hasPrefix s.data.toList wordP = true := hp
  have htr : Lib.trimPrefix s.data.toList (⟨#[119, 111, 114, 100, 32]⟩ : ByteArray).data.toList = s.data.toList.drop 5 := by
    unfold Lib.trimPrefix; rw [if_pos (show Lib.hasPrefix s.data.toList [119, 111, 114, 100, 32] = true from hpre)]; rfl
  obtain ⟨q, hq⟩ : ∃ q : ByteArray, (⟨(s.data.toList.drop 5).toArray⟩ : ByteArray) = q := ⟨_, rfl⟩
  have hqd : q.data.toList = s.data.toList.drop 5 := by rw [← hq]
  have hqs : q.size ≤ 1048576 := by
    have h1 : q.size = q.data.toList.length := rfl
    have h2 : s.size = s.data.toList.length := rfl
    rw [h1, hqd, List.length_drop]; omega
  simp only [show Lib.hasPrefix s.data.toList (⟨#[119, 111, 114, 100, 32]⟩ : ByteArray).data.toList = true from hpre, htr, hq] at cp
  have e : cellR r n s.data.toList = (r, 3) := by unfold cellR; rw [if_pos hpre, if_neg (by rw [hk]; simp)]
  rw [e]
  have ST := Lib.hid h
  have HE := Lib.hid he
  have CP := Lib.hid cp
  clear h he cp e hp hpre htr hq
  rw [← hqd] at hk
  by_cases h0 : ∀ v, Lib.atoiAll q.data.toList ≠ .ok v
  · have ao := fun W (hW : PEnv W) => atoi_bad q h0 W hW hqs
    have AO := Lib.hid ao
    clear ao h0 hk hqs hqd
    go_enter Tryd.func46, Tryd.ntmps46
    go_wp2_with (first
      | (go_at_call 63; ((with_reducible refine (CP.out _).mono ?_); rintro e w' ⟨rfl, hw'⟩; subst w'))
      | (go_at_call 28; ((with_reducible refine (AO.out _ HE.out).mono ?_); rintro e w1 ⟨an, aN, rfl, hb1⟩; have S1 := Lib.hid (ST.out.below hb1); have UW := Lib.hid hb1; clear hb1)))
    go_ret
    exact rd_post S1.out (UW.out.mono gS) rfl
  obtain ⟨v, k1⟩ : ∃ v, Lib.atoiAll q.data.toList = .ok v := by
    rcases Classical.not_forall.1 h0 with ⟨v, hv⟩
    exact ⟨v, Classical.not_not.1 hv⟩
  have hv : atoiV q.data.toList = v := by unfold atoiV; rw [k1]
  have ib : I64 v := atoi_i64 k1
  have ao := fun W => atoi_ok q v k1 W hqs
  have it := fun W (hW : PEnv W) => itoa_any v ib W hW.ten
  have nm := fun W => isnum_any v W
  obtain ⟨z, hz⟩ : ∃ z : ByteArray, (⟨(Lib.itoa v).toArray⟩ : ByteArray) = z := ⟨_, rfl⟩
  have hzd : z.data.toList = Lib.itoa v := by rw [← hz]
  rw [hz] at it
  unfold numB at hk
  rw [hv, k1, ← hzd] at hk
  have AO := Lib.hid ao
  have IT := Lib.hid it
  by_cases h1 : z.data.toList = q.data.toList
  · have f0 : (z.toList == q.toList) = true := by rw [str_eqB]; simp [h1]
    have f1 : (z.toList != q.toList) = false := by rw [bne, f0]; rfl
    rw [h1] at hk
    simp at hk
    rw [hk] at nm
    have NM := Lib.hid nm
    clear ao it nm k1 hv hz hzd h0 h1 hk hqs hqd
    go_enter Tryd.func46, Tryd.ntmps46
    go_wp2_with (first
      | (go_at_call 63; ((with_reducible refine (CP.out _).mono ?_); rintro e w' ⟨rfl, hw'⟩; subst w'))
      | (go_at_call 28; ((with_reducible refine (AO.out _).mono ?_); rintro e w1 ⟨rfl, hb1⟩; have HB1 := Lib.hid hb1; clear hb1))
      | (go_at_call 24; ((with_reducible refine (IT.out _ (HE.out.below HB1.out)).mono ?_); rintro e w2 ⟨rfl, hb2⟩; have UW := Lib.hid (ext_trans HB1.out hb2); have S1 := Lib.hid (ST.out.below UW.out); clear hb2))
      | (go_at_call 37; ((with_reducible refine (NM.out _).mono ?_); rintro e w' ⟨rfl, hw'⟩; subst w')))
    go_ret
    exact rd_post S1.out (UW.out.mono gS) rfl
  · have f0 : (z.toList == q.toList) = false := by rw [str_eqB]; simp [h1]
    have f1 : (z.toList != q.toList) = true := by rw [bne, f0]; rfl
    clear ao it nm k1 hv hz hzd h0 h1 hk hqs hqd
    go_enter Tryd.func46, Tryd.ntmps46
    go_wp2_with (first
      | (go_at_call 63; ((with_reducible refine (CP.out _).mono ?_); rintro e w' ⟨rfl, hw'⟩; subst w'))
      | (go_at_call 28; ((with_reducible refine (AO.out _).mono ?_); rintro e w1 ⟨rfl, hb1⟩; have HB1 := Lib.hid hb1; clear hb1))
      | (go_at_call 24; ((with_reducible refine (IT.out _ (HE.out.below HB1.out)).mono ?_); rintro e w2 ⟨rfl, hb2⟩; have UW := Lib.hid (ext_trans HB1.out hb2); have S1 := Lib.hid (ST.out.below UW.out); clear hb2)))
    go_ret
    exact rd_post S1.out (UW.out.mono gS) rfl
theorem ext_drop (s : ByteArray) (k : Nat) : ba (s.data.toList.drop k) = s.extract k s.size := by
  refine ByteArray.ext ?_
  rw [ByteArray.data_extract]
  refine Array.toList_inj.1 ?_
  rw [Array.toList_extract]
  show s.data.toList.drop k = _
  rw [List.extract_eq_take_drop, List.take_of_length_le]
  rw [List.length_drop]
  exact Nat.le_refl _
theorem ext_take (s : ByteArray) (k : Nat) : (s.extract 0 k).data.toList = s.data.toList.take k := by
  rw [ByteArray.data_extract, Array.toList_extract, List.extract_eq_take_drop]
  simp
theorem last_bd (s : ByteArray) : Lib.lastIndexByte s 32 = -1 ∨ ∃ k : Nat, Lib.lastIndexByte s 32 = k ∧ k < s.size := by
  unfold Lib.lastIndexByte
  rcases Lib.lastIdx_spec s 32 s.size with ⟨e, _⟩ | ⟨i, hi, e, _, _⟩
  · exact .inl e
  · exact .inr ⟨i, e, hi⟩
theorem parse_etaC {s : List UInt8} (h : (parseF s).2 = 0) : instOk (parseF s).1 = true ∧ textL (parseF s).1 = s := parse_ok (by rw [← h])
theorem parse_er {s : List UInt8} (h : (parseF s).2 ≠ 0) : parseF s = (zeroI, 3) := by
  unfold parseF at h ⊢
  split
  · next hh => rw [if_pos hh] at h; exact absurd rfl h
  · rfl
set_option maxHeartbeats 8000000 in
set_option maxRecDepth 100000 in
theorem rcell_hole8 (g : Nat) (r : RdV) (vc vl vh : Value) (n : Int) (s : ByteArray) (w : World) (h : RdSt g r vc vl vh w) (he : PEnv w) (hs : s.size ≤ 80) (hn1 : r.code.length ≤ 1000) (hn2 : r.holes.length ≤ 1000) (hp : Lib.hasPrefix s.data.toList wordP = false) (hh : holeB s.data.toList = true) (hop : (holeI s.data.toList).1.op = 8) :
    Calls Tryd.prog 46 #[.pointer (some ⟨g, 0, none⟩), .int .i64 n, .string s] w (RdPost g w (cellR r n s.data.toList).1 (cellR r n s.data.toList).2) := by
  have gL := h.b.lt
  have gS := h.gle
  have cp := fun W => Tryd.strings_CutPrefix s ⟨#[119, 111, 114, 100, 32]⟩ W
  have cp1 : Lib.hasPrefix s.data.toList (⟨#[119, 111, 114, 100, 32]⟩ : ByteArray).data.toList = false := hp
  have htr : Lib.trimPrefix s.data.toList (⟨#[119, 111, 114, 100, 32]⟩ : ByteArray).data.toList = s.data.toList := by
    unfold Lib.trimPrefix; rw [cp1]; rfl
  simp only [cp1, htr, ba_of] at cp
  have li := fun W => Tryd.strings_LastIndexByte s 32 (by omega) W
  have hls : lastSp s.data.toList = Lib.lastIndexByte s 32 := by unfold lastSp; rw [ba_back]
  obtain ⟨ca, cc, rfl, _, _⟩ := h.c.sl
  obtain ⟨m, hm⟩ : ∃ m, r.code.length = m := ⟨_, rfl⟩
  rw [hm] at h hn1
  have HM := Lib.hid hm
  obtain ⟨i0_, i1_, iz0, iz1, iz2⟩ := info_parts info_intP
  have e : cellR r n s.data.toList = (⟨r.code ++ [0], r.labels, r.holes ++ [⟨n, m, (holeI s.data.toList).1, holeN s.data.toList⟩]⟩, 0) := by
    unfold cellR; rw [if_neg (by rw [hp]; simp), if_pos hh, hm]
  unfold holeB at hh
  simp only [Bool.and_eq_true, Bool.or_eq_true, decide_eq_true_eq] at hh
  obtain ⟨⟨⟨h1, h2⟩, h3⟩, _⟩ := hh
  rw [hls] at h1
  obtain ⟨k, hk, hks⟩ : ∃ k : Nat, Lib.lastIndexByte s 32 = k ∧ k < s.size := by
    rcases last_bd s with h0 | h0
    · omega
    · exact h0
  rw [hk] at hls
  simp only [hk] at li
  obtain ⟨N, hxN⟩ : ∃ N, s.extract (k + 1) s.size = N := ⟨_, rfl⟩
  have hNl : ba (s.data.toList.drop (k + 1)) = N := by rw [← hxN]; exact ext_drop s (k + 1)
  have hN : holeN s.data.toList = N := by unfold holeN; rw [hls, Int.toNat_natCast, hNl]
  have is := fun W => isName_any N (by rw [← hxN]; simp; omega) W
  have r1 : (k : Int) + 1 ≤ s.size := by omega
  have r2 : (k : Int) ≤ s.size := by omega
  have r3 : (0 : Int) ≤ k := by omega
  have r4 : (0 : Int) ≤ (k : Int) + 1 := by omega
  have wr1 : IntKind.i64.wrap ((k : Int) + 1) = (k : Int) + 1 := IntWalk.i64_in _ ⟨by omega, by omega⟩
  obtain ⟨X, hxF⟩ : ∃ X, s.extract 0 k = X := ⟨_, rfl⟩
  obtain ⟨Z, hZ⟩ : ∃ Z, X ++ (⟨#[32, 48]⟩ : ByteArray) = Z := ⟨_, rfl⟩
  have hXl : X.data.toList = s.data.toList.take k := by rw [← hxF]; exact ext_take s k
  have hXs : X.size ≤ s.size := by
    have h1 : X.size = X.data.toList.length := rfl
    have h2 : s.size = s.data.toList.length := rfl
    rw [h1, hXl, List.length_take]; omega
  have hZl : Z.data.toList = s.data.toList.take k ++ [32, 48] := by rw [← hZ, ← hXl]; simp
  have hZs : Z.size ≤ 1048576 := by
    have h1 : Z.size = Z.data.toList.length := rfl
    have h2 : X.size = X.data.toList.length := rfl
    rw [h1, hZl, ← hXl, List.length_append, ← h2]; simp; omega
  have hI : holeI s.data.toList = parseF Z.data.toList := by unfold holeI; rw [hls, Int.toNat_natCast, hZl]
  have hadd : Op.stringOp .add X ⟨#[32, 48]⟩ = pure (.string Z) := by rw [← hZ]; exact str_add _ _ (by have h1 : (⟨#[32, 48]⟩ : ByteArray).size = 2 := rfl; omega)
  have pz := fun W (hW : PEnv W) => parse_any Z W hW hZs
  rw [hN] at h2 e
  rw [hI] at h3 hop e
  simp only [h2] at is
  obtain ⟨i, hi⟩ : ∃ i, (parseF Z.data.toList).1 = i := ⟨_, rfl⟩
  simp only [hi, h3, InstV.val] at pz
  rw [hi] at hop e
  obtain ⟨i0, i1, i2, i3⟩ := i
  simp only at hop
  subst hop
  simp only at pz
  rw [e]
  obtain ⟨ha, hc, rfl, _, _⟩ := h.h.sl
  obtain ⟨mh, hmh⟩ : ∃ mh, r.holes.length = mh := ⟨_, rfl⟩
  rw [hmh] at h hn2
  have HMH := Lib.hid hmh
  have ST := Lib.hid h
  have HE := Lib.hid he
  have CP := Lib.hid cp
  have LI := Lib.hid li
  have IS := Lib.hid is
  have PZ := Lib.hid pz
  clear h he cp li is pz e hp h1 h2 h3 hI hi hZl hZs hXl hXs hZ hNl hN cp1 htr hls hk hm hmh
  go_enter Tryd.func46, Tryd.ntmps46
  go_upto_region 10 with (first
    | (go_at_call 63; ((with_reducible refine (CP.out _).mono ?_); rintro e w' ⟨rfl, hw'⟩; subst w'))
    | (go_at_call 64; ((with_reducible refine (LI.out _).mono ?_); rintro e w' ⟨rfl, hw'⟩; subst w'))
    | (go_at_call 62; ((with_reducible refine (IS.out _).mono ?_); rintro e w1 ⟨rfl, hb1⟩; have HB1 := Lib.hid hb1; clear hb1)))
  go_upto_region 11 with (go_at_call 13; ((with_reducible refine (PZ.out _ (HE.out.below HB1.out)).mono ?_); rintro e w2 ⟨rfl, hb2⟩; have HB2 := Lib.hid (ext_trans HB1.out hb2); clear hb2))
  obtain ⟨gi, hgi⟩ : ∃ gi, w2.heap.size = gi := ⟨_, rfl⟩
  obtain ⟨w4, hw4⟩ : ∃ w4, w4 = w2.alloc (.cells #[.int .i64 8, .int .i64 i1, .int .i64 i2, .int .i64 i3] 23) := ⟨_, rfl⟩
  rw [← hw4]
  try rw [hgi]
  have hI4 : Bk w4 gi 23 #[.int .i64 8, .int .i64 i1, .int .i64 i2, .int .i64 i3] := by rw [hw4, ← hgi]; exact bk_new _ _ _
  have hb4 : Below w.heap.size w w4 := by rw [hw4]; exact ext_alloc HB2.out _
  have S4 := Lib.hid (ST.out.below hb4)
  have HB4 := Lib.hid hb4
  have I4 := Lib.hid hI4
  obtain ⟨y0, y1, y2, y3⟩ := cells4 hI4
  have yL := hI4.lt
  obtain ⟨c0, c1, c2⟩ := cells3 S4.out.b
  have gL4 := S4.out.b.lt
  clear hw4 hgi hI4 hb4
  go_upto_region 12 with (fail)
  obtain ⟨j0, j1, jz0, jz1, jz2⟩ := info_parts info_holeL
  obtain ⟨w5, hw5⟩ : ∃ w5, w5 = w4.drew.alloc (.cells #[.int .i64 n, .int .i64 m, .int .i64 8, .int .i64 i1, .int .i64 i2, .int .i64 i3, .string N] 76) := ⟨_, rfl⟩
  have b5 : Below w4.heap.size w4 w5 := by rw [hw5]; exact ext_alloc (ext_drew (Below.refl _ _)) _
  have s5 := S4.out.below b5
  have l5 : Sl w5 (some ⟨w4.heap.size, 0, none⟩) 1 [(⟨n, m, ⟨8, i1, i2, i3⟩, N⟩ : HoleV)] := by rw [hw5]; exact lit_sl1 _ _ rfl
  obtain ⟨v6, w6, hr, ho, hg, _⟩ := run_append_sl (P := Tryd.prog) w5 g 71 71 76 j0 _ 64 Tryd.underlying71 j1 jz0 jz1 jz2 rfl (.slice ha mh hc) r.holes s5.h (some ⟨w4.heap.size, 0, none⟩) 1 1 [(⟨n, m, ⟨8, i1, i2, i3⟩, N⟩ : HoleV)] l5 (by rw [HMH.out]; unfold maxLen; omega) (by rw [HMH.out]; omega) (by have := b5.size; omega)
  have k6 := bk_other s5.b s5.h (by decide) hg
  have d6 := k6.cell 2
  have f6 := k6.frozen 2
  have g6 := k6.lt
  simp only [List.getElem?_toArray, List.getElem?_cons_succ, List.getElem?_cons_zero] at d6
  have fin6 := s5.setH hg ho
  have un6 := RdSt.under s5.h ((HB4.out.mono gS).trans (b5.mono S4.out.gle)) (Nat.le_trans S4.out.gle b5.size) hg 2 v6
  rw [hw5] at hr
  obtain ⟨xa6, xn6, xc6, rfl⟩ := own_shape ho
  obtain ⟨w7, hw7⟩ : ∃ w7, w7 = w6.setCell ⟨g, 2, none⟩ (.slice xa6 xn6 xc6) := ⟨_, rfl⟩
  rw [← hw7] at fin6 un6
  have HR := Lib.hid hr
  have S7 := Lib.hid fin6
  have UG := Lib.hid un6
  have HW7 := Lib.hid hw7
  clear hr ho hg fin6 un6 k6 l5 s5 b5 hw5 hw7
  apply via_tailP
  apply Exists.intro
  apply And.intro
  rotate_left
  · intro tail
    go_region_law (refine step_append_run2 rfl _ _ 71 71 rfl (.slice ha mh hc) (.slice (some ⟨w4.heap.size, 0, none⟩) 1 1) (by simp [Act.eval, Act.put]) (by simp [Act.eval, Act.put]) HR.out ?_)
    all_goals with_reducible exact tail
  rw [← HW7.out]
  clear c0 c1 c2 gL4 d6 f6 g6
  obtain ⟨c0, c1, c2⟩ := cells3 S7.out.b
  have gL7 := S7.out.b.lt
  go_wp2_with (at_builtin; refine wpList_append_sl rfl (.tmp 108) (.tmp 109) 34 rfl g 3 i0_ _ 8 Tryd.underlying34 i1_ iz0 iz1 iz2 rfl (.slice ca m cc) r.code rfl (S7.out.c.alloc _) (some ⟨w7.heap.size, 0, none⟩) 1 1 [0] rfl (lit_sl1 _ _ rfl) (by rw [HM.out]; unfold maxLen; omega) (by rw [HM.out]; omega) (by rw [World.size_alloc]; have := S7.out.gle; omega) ?_; intro v8 w8 hown8 hgr8 _; have kb := bk_other (bk_old _ S7.out.b) (S7.out.c.alloc _) (by decide) hgr8; have c9 := kb.cell 0; have f9 := kb.frozen 0; simp only [List.getElem?_toArray, List.getElem?_cons_succ, List.getElem?_cons_zero] at c9; have k9L := kb.lt; obtain ⟨xa, xn, xc, rfl⟩ := own_shape hown8; have FIN := Lib.hid ((S7.out.below (ext_alloc (Below.refl _ _) _)).setC hgr8 hown8); have UN := Lib.hid (RdSt.under (S7.out.c.alloc _) (UG.out.alloc S7.out.gle _) (by rw [World.size_alloc]; have := S7.out.gle; omega) hgr8 0 (.slice xa xn xc)); clear kb hown8 hgr8)
  go_ret
  exact rd_post FIN.out UN.out rfl
set_option maxHeartbeats 8000000 in
set_option maxRecDepth 100000 in
theorem rcell_hole9 (g : Nat) (r : RdV) (vc vl vh : Value) (n : Int) (s : ByteArray) (w : World) (h : RdSt g r vc vl vh w) (he : PEnv w) (hs : s.size ≤ 80) (hn1 : r.code.length ≤ 1000) (hn2 : r.holes.length ≤ 1000) (hp : Lib.hasPrefix s.data.toList wordP = false) (hh : holeB s.data.toList = true) (hop : (holeI s.data.toList).1.op = 9) :
    Calls Tryd.prog 46 #[.pointer (some ⟨g, 0, none⟩), .int .i64 n, .string s] w (RdPost g w (cellR r n s.data.toList).1 (cellR r n s.data.toList).2) := by
  have gL := h.b.lt
  have gS := h.gle
  have cp := fun W => Tryd.strings_CutPrefix s ⟨#[119, 111, 114, 100, 32]⟩ W
  have cp1 : Lib.hasPrefix s.data.toList (⟨#[119, 111, 114, 100, 32]⟩ : ByteArray).data.toList = false := hp
  have htr : Lib.trimPrefix s.data.toList (⟨#[119, 111, 114, 100, 32]⟩ : ByteArray).data.toList = s.data.toList := by
    unfold Lib.trimPrefix; rw [cp1]; rfl
  simp only [cp1, htr, ba_of] at cp
  have li := fun W => Tryd.strings_LastIndexByte s 32 (by omega) W
  have hls : lastSp s.data.toList = Lib.lastIndexByte s 32 := by unfold lastSp; rw [ba_back]
  obtain ⟨ca, cc, rfl, _, _⟩ := h.c.sl
  obtain ⟨m, hm⟩ : ∃ m, r.code.length = m := ⟨_, rfl⟩
  rw [hm] at h hn1
  have HM := Lib.hid hm
  obtain ⟨i0_, i1_, iz0, iz1, iz2⟩ := info_parts info_intP
  have e : cellR r n s.data.toList = (⟨r.code ++ [0], r.labels, r.holes ++ [⟨n, m, (holeI s.data.toList).1, holeN s.data.toList⟩]⟩, 0) := by
    unfold cellR; rw [if_neg (by rw [hp]; simp), if_pos hh, hm]
  unfold holeB at hh
  simp only [Bool.and_eq_true, Bool.or_eq_true, decide_eq_true_eq] at hh
  obtain ⟨⟨⟨h1, h2⟩, h3⟩, _⟩ := hh
  rw [hls] at h1
  obtain ⟨k, hk, hks⟩ : ∃ k : Nat, Lib.lastIndexByte s 32 = k ∧ k < s.size := by
    rcases last_bd s with h0 | h0
    · omega
    · exact h0
  rw [hk] at hls
  simp only [hk] at li
  obtain ⟨N, hxN⟩ : ∃ N, s.extract (k + 1) s.size = N := ⟨_, rfl⟩
  have hNl : ba (s.data.toList.drop (k + 1)) = N := by rw [← hxN]; exact ext_drop s (k + 1)
  have hN : holeN s.data.toList = N := by unfold holeN; rw [hls, Int.toNat_natCast, hNl]
  have is := fun W => isName_any N (by rw [← hxN]; simp; omega) W
  have r1 : (k : Int) + 1 ≤ s.size := by omega
  have r2 : (k : Int) ≤ s.size := by omega
  have r3 : (0 : Int) ≤ k := by omega
  have r4 : (0 : Int) ≤ (k : Int) + 1 := by omega
  have wr1 : IntKind.i64.wrap ((k : Int) + 1) = (k : Int) + 1 := IntWalk.i64_in _ ⟨by omega, by omega⟩
  obtain ⟨X, hxF⟩ : ∃ X, s.extract 0 k = X := ⟨_, rfl⟩
  obtain ⟨Z, hZ⟩ : ∃ Z, X ++ (⟨#[32, 48]⟩ : ByteArray) = Z := ⟨_, rfl⟩
  have hXl : X.data.toList = s.data.toList.take k := by rw [← hxF]; exact ext_take s k
  have hXs : X.size ≤ s.size := by
    have h1 : X.size = X.data.toList.length := rfl
    have h2 : s.size = s.data.toList.length := rfl
    rw [h1, hXl, List.length_take]; omega
  have hZl : Z.data.toList = s.data.toList.take k ++ [32, 48] := by rw [← hZ, ← hXl]; simp
  have hZs : Z.size ≤ 1048576 := by
    have h1 : Z.size = Z.data.toList.length := rfl
    have h2 : X.size = X.data.toList.length := rfl
    rw [h1, hZl, ← hXl, List.length_append, ← h2]; simp; omega
  have hI : holeI s.data.toList = parseF Z.data.toList := by unfold holeI; rw [hls, Int.toNat_natCast, hZl]
  have hadd : Op.stringOp .add X ⟨#[32, 48]⟩ = pure (.string Z) := by rw [← hZ]; exact str_add _ _ (by have h1 : (⟨#[32, 48]⟩ : ByteArray).size = 2 := rfl; omega)
  have pz := fun W (hW : PEnv W) => parse_any Z W hW hZs
  rw [hN] at h2 e
  rw [hI] at h3 hop e
  simp only [h2] at is
  obtain ⟨i, hi⟩ : ∃ i, (parseF Z.data.toList).1 = i := ⟨_, rfl⟩
  simp only [hi, h3, InstV.val] at pz
  rw [hi] at hop e
  obtain ⟨i0, i1, i2, i3⟩ := i
  simp only at hop
  subst hop
  simp only at pz
  rw [e]
  obtain ⟨ha, hc, rfl, _, _⟩ := h.h.sl
  obtain ⟨mh, hmh⟩ : ∃ mh, r.holes.length = mh := ⟨_, rfl⟩
  rw [hmh] at h hn2
  have HMH := Lib.hid hmh
  have ST := Lib.hid h
  have HE := Lib.hid he
  have CP := Lib.hid cp
  have LI := Lib.hid li
  have IS := Lib.hid is
  have PZ := Lib.hid pz
  clear h he cp li is pz e hp h1 h2 h3 hI hi hZl hZs hXl hXs hZ hNl hN cp1 htr hls hk hm hmh
  go_enter Tryd.func46, Tryd.ntmps46
  go_upto_region 10 with (first
    | (go_at_call 63; ((with_reducible refine (CP.out _).mono ?_); rintro e w' ⟨rfl, hw'⟩; subst w'))
    | (go_at_call 64; ((with_reducible refine (LI.out _).mono ?_); rintro e w' ⟨rfl, hw'⟩; subst w'))
    | (go_at_call 62; ((with_reducible refine (IS.out _).mono ?_); rintro e w1 ⟨rfl, hb1⟩; have HB1 := Lib.hid hb1; clear hb1)))
  go_upto_region 11 with (go_at_call 13; ((with_reducible refine (PZ.out _ (HE.out.below HB1.out)).mono ?_); rintro e w2 ⟨rfl, hb2⟩; have HB2 := Lib.hid (ext_trans HB1.out hb2); clear hb2))
  obtain ⟨gi, hgi⟩ : ∃ gi, w2.heap.size = gi := ⟨_, rfl⟩
  obtain ⟨w4, hw4⟩ : ∃ w4, w4 = w2.alloc (.cells #[.int .i64 9, .int .i64 i1, .int .i64 i2, .int .i64 i3] 23) := ⟨_, rfl⟩
  rw [← hw4]
  try rw [hgi]
  have hI4 : Bk w4 gi 23 #[.int .i64 9, .int .i64 i1, .int .i64 i2, .int .i64 i3] := by rw [hw4, ← hgi]; exact bk_new _ _ _
  have hb4 : Below w.heap.size w w4 := by rw [hw4]; exact ext_alloc HB2.out _
  have S4 := Lib.hid (ST.out.below hb4)
  have HB4 := Lib.hid hb4
  have I4 := Lib.hid hI4
  obtain ⟨y0, y1, y2, y3⟩ := cells4 hI4
  have yL := hI4.lt
  obtain ⟨c0, c1, c2⟩ := cells3 S4.out.b
  have gL4 := S4.out.b.lt
  clear hw4 hgi hI4 hb4
  go_upto_region 12 with (fail)
  obtain ⟨j0, j1, jz0, jz1, jz2⟩ := info_parts info_holeL
  obtain ⟨w5, hw5⟩ : ∃ w5, w5 = w4.drew.alloc (.cells #[.int .i64 n, .int .i64 m, .int .i64 9, .int .i64 i1, .int .i64 i2, .int .i64 i3, .string N] 76) := ⟨_, rfl⟩
  have b5 : Below w4.heap.size w4 w5 := by rw [hw5]; exact ext_alloc (ext_drew (Below.refl _ _)) _
  have s5 := S4.out.below b5
  have l5 : Sl w5 (some ⟨w4.heap.size, 0, none⟩) 1 [(⟨n, m, ⟨9, i1, i2, i3⟩, N⟩ : HoleV)] := by rw [hw5]; exact lit_sl1 _ _ rfl
  obtain ⟨v6, w6, hr, ho, hg, _⟩ := run_append_sl (P := Tryd.prog) w5 g 71 71 76 j0 _ 64 Tryd.underlying71 j1 jz0 jz1 jz2 rfl (.slice ha mh hc) r.holes s5.h (some ⟨w4.heap.size, 0, none⟩) 1 1 [(⟨n, m, ⟨9, i1, i2, i3⟩, N⟩ : HoleV)] l5 (by rw [HMH.out]; unfold maxLen; omega) (by rw [HMH.out]; omega) (by have := b5.size; omega)
  have k6 := bk_other s5.b s5.h (by decide) hg
  have d6 := k6.cell 2
  have f6 := k6.frozen 2
  have g6 := k6.lt
  simp only [List.getElem?_toArray, List.getElem?_cons_succ, List.getElem?_cons_zero] at d6
  have fin6 := s5.setH hg ho
  have un6 := RdSt.under s5.h ((HB4.out.mono gS).trans (b5.mono S4.out.gle)) (Nat.le_trans S4.out.gle b5.size) hg 2 v6
  rw [hw5] at hr
  obtain ⟨xa6, xn6, xc6, rfl⟩ := own_shape ho
  obtain ⟨w7, hw7⟩ : ∃ w7, w7 = w6.setCell ⟨g, 2, none⟩ (.slice xa6 xn6 xc6) := ⟨_, rfl⟩
  rw [← hw7] at fin6 un6
  have HR := Lib.hid hr
  have S7 := Lib.hid fin6
  have UG := Lib.hid un6
  have HW7 := Lib.hid hw7
  clear hr ho hg fin6 un6 k6 l5 s5 b5 hw5 hw7
  apply via_tailP
  apply Exists.intro
  apply And.intro
  rotate_left
  · intro tail
    go_region_law (refine step_append_run2 rfl _ _ 71 71 rfl (.slice ha mh hc) (.slice (some ⟨w4.heap.size, 0, none⟩) 1 1) (by simp [Act.eval, Act.put]) (by simp [Act.eval, Act.put]) HR.out ?_)
    all_goals with_reducible exact tail
  rw [← HW7.out]
  clear c0 c1 c2 gL4 d6 f6 g6
  obtain ⟨c0, c1, c2⟩ := cells3 S7.out.b
  have gL7 := S7.out.b.lt
  go_wp2_with (at_builtin; refine wpList_append_sl rfl (.tmp 108) (.tmp 109) 34 rfl g 3 i0_ _ 8 Tryd.underlying34 i1_ iz0 iz1 iz2 rfl (.slice ca m cc) r.code rfl (S7.out.c.alloc _) (some ⟨w7.heap.size, 0, none⟩) 1 1 [0] rfl (lit_sl1 _ _ rfl) (by rw [HM.out]; unfold maxLen; omega) (by rw [HM.out]; omega) (by rw [World.size_alloc]; have := S7.out.gle; omega) ?_; intro v8 w8 hown8 hgr8 _; have kb := bk_other (bk_old _ S7.out.b) (S7.out.c.alloc _) (by decide) hgr8; have c9 := kb.cell 0; have f9 := kb.frozen 0; simp only [List.getElem?_toArray, List.getElem?_cons_succ, List.getElem?_cons_zero] at c9; have k9L := kb.lt; obtain ⟨xa, xn, xc, rfl⟩ := own_shape hown8; have FIN := Lib.hid ((S7.out.below (ext_alloc (Below.refl _ _) _)).setC hgr8 hown8); have UN := Lib.hid (RdSt.under (S7.out.c.alloc _) (UG.out.alloc S7.out.gle _) (by rw [World.size_alloc]; have := S7.out.gle; omega) hgr8 0 (.slice xa xn xc)); clear kb hown8 hgr8)
  go_ret
  exact rd_post FIN.out UN.out rfl
set_option maxHeartbeats 8000000 in
set_option maxRecDepth 100000 in
theorem rcell_neg_bad (g : Nat) (r : RdV) (vc vl vh : Value) (n : Int) (s : ByteArray) (w : World) (h : RdSt g r vc vl vh w) (he : PEnv w) (hs : s.size ≤ 80) (hn1 : r.code.length ≤ 1000) (hn2 : r.holes.length ≤ 1000) (hp : Lib.hasPrefix s.data.toList wordP = false) (hk : Lib.lastIndexByte s 32 = -1) (hq : (parseF s.data.toList).2 ≠ 0) :
    Calls Tryd.prog 46 #[.pointer (some ⟨g, 0, none⟩), .int .i64 n, .string s] w (RdPost g w (cellR r n s.data.toList).1 (cellR r n s.data.toList).2) := by
  have gL := h.b.lt
  have gS := h.gle
  have cp := fun W => Tryd.strings_CutPrefix s ⟨#[119, 111, 114, 100, 32]⟩ W
  have cp1 : Lib.hasPrefix s.data.toList (⟨#[119, 111, 114, 100, 32]⟩ : ByteArray).data.toList = false := hp
  have htr : Lib.trimPrefix s.data.toList (⟨#[119, 111, 114, 100, 32]⟩ : ByteArray).data.toList = s.data.toList := by
    unfold Lib.trimPrefix; rw [cp1]; rfl
  simp only [cp1, htr, ba_of] at cp
  have li := fun W => Tryd.strings_LastIndexByte s 32 (by omega) W
  have hls : lastSp s.data.toList = Lib.lastIndexByte s 32 := by unfold lastSp; rw [ba_back]
  obtain ⟨ca, cc, rfl, _, _⟩ := h.c.sl
  obtain ⟨m, hm⟩ : ∃ m, r.code.length = m := ⟨_, rfl⟩
  rw [hm] at h hn1
  have HM := Lib.hid hm
  obtain ⟨i0_, i1_, iz0, iz1, iz2⟩ := info_parts info_intP
  have hB : holeB s.data.toList = false := by
    unfold holeB; rw [hls, hk]; rfl
  simp only [hk] at li
  have e : cellR r n s.data.toList = (r, 3) := by unfold cellR; rw [if_neg (by rw [hp]; simp), if_neg (by rw [hB]; simp), if_neg hq]
  have ps := fun W (hW : PEnv W) => parse_any s W hW (by omega)
  simp only [parse_er hq, InstV.val, zeroI] at ps
  rw [e]
  have ST := Lib.hid h
  have HE := Lib.hid he
  have CP := Lib.hid cp
  have LI := Lib.hid li
  have PS := Lib.hid ps
  clear h he cp li ps e hp hB hq cp1 htr hls hk hm
  go_enter Tryd.func46, Tryd.ntmps46
  go_upto_region 15 with (first
    | (go_at_call 63; ((with_reducible refine (CP.out _).mono ?_); rintro e w' ⟨rfl, hw'⟩; subst w'))
    | (go_at_call 64; ((with_reducible refine (LI.out _).mono ?_); rintro e w' ⟨rfl, hw'⟩; subst w')))
  have HBR := Lib.hid (Below.refl w.heap.size w)
  go_upto_region 16 with (go_at_call 13; ((with_reducible refine (PS.out _ (HE.out.below HBR.out)).mono ?_); rintro e w6 ⟨rfl, hb6⟩; have HB6 := Lib.hid (ext_trans HBR.out hb6); clear hb6))
  obtain ⟨gj, hgj⟩ : ∃ gj, w6.heap.size = gj := ⟨_, rfl⟩
  obtain ⟨w7, hw7⟩ : ∃ w7, w7 = w6.alloc (.cells #[.int .i64 0, .int .i64 0, .int .i64 0, .int .i64 0] 23) := ⟨_, rfl⟩
  rw [← hw7]
  try rw [hgj]
  have hI7 : Bk w7 gj 23 #[.int .i64 0, .int .i64 0, .int .i64 0, .int .i64 0] := by rw [hw7, ← hgj]; exact bk_new _ _ _
  have hb7 : Below w.heap.size w w7 := by rw [hw7]; exact ext_alloc HB6.out _
  have HB7 := Lib.hid hb7
  obtain ⟨z0, z1, z2, z3⟩ := cells4 hI7
  have zL := hI7.lt
  clear hw7 hgj hI7 hb7
  go_wp2
  go_ret
  exact rd_post (ST.out.below HB7.out) (HB7.out.mono gS) rfl
set_option maxHeartbeats 8000000 in
set_option maxRecDepth 100000 in
theorem rcell_neg_ok (g : Nat) (r : RdV) (vc vl vh : Value) (n : Int) (s : ByteArray) (w : World) (h : RdSt g r vc vl vh w) (he : PEnv w) (hs : s.size ≤ 80) (hn1 : r.code.length ≤ 1000) (hn2 : r.holes.length ≤ 1000) (hp : Lib.hasPrefix s.data.toList wordP = false) (hk : Lib.lastIndexByte s 32 = -1) (hq : (parseF s.data.toList).2 = 0) :
    Calls Tryd.prog 46 #[.pointer (some ⟨g, 0, none⟩), .int .i64 n, .string s] w (RdPost g w (cellR r n s.data.toList).1 (cellR r n s.data.toList).2) := by
  have gL := h.b.lt
  have gS := h.gle
  have cp := fun W => Tryd.strings_CutPrefix s ⟨#[119, 111, 114, 100, 32]⟩ W
  have cp1 : Lib.hasPrefix s.data.toList (⟨#[119, 111, 114, 100, 32]⟩ : ByteArray).data.toList = false := hp
  have htr : Lib.trimPrefix s.data.toList (⟨#[119, 111, 114, 100, 32]⟩ : ByteArray).data.toList = s.data.toList := by
    unfold Lib.trimPrefix; rw [cp1]; rfl
  simp only [cp1, htr, ba_of] at cp
  have li := fun W => Tryd.strings_LastIndexByte s 32 (by omega) W
  have hls : lastSp s.data.toList = Lib.lastIndexByte s 32 := by unfold lastSp; rw [ba_back]
  obtain ⟨ca, cc, rfl, _, _⟩ := h.c.sl
  obtain ⟨m, hm⟩ : ∃ m, r.code.length = m := ⟨_, rfl⟩
  rw [hm] at h hn1
  have HM := Lib.hid hm
  obtain ⟨i0_, i1_, iz0, iz1, iz2⟩ := info_parts info_intP
  have hB : holeB s.data.toList = false := by
    unfold holeB; rw [hls, hk]; rfl
  simp only [hk] at li
  have e : cellR r n s.data.toList = (⟨r.code ++ [packF (parseF s.data.toList).1], r.labels, r.holes⟩, 0) := by unfold cellR; rw [if_neg (by rw [hp]; simp), if_neg (by rw [hB]; simp), if_pos hq]
  have ps := fun W (hW : PEnv W) => parse_any s W hW (by omega)
  obtain ⟨hpk, _⟩ := parse_etaC hq
  obtain ⟨j, hj⟩ : ∃ j, (parseF s.data.toList).1 = j := ⟨_, rfl⟩
  simp only [hj, hq, InstV.val] at ps
  rw [hj] at e hpk
  obtain ⟨j0, j1, j2, j3⟩ := j
  simp only at ps
  have pk := fun W (hW : Tab W) => ipack_any j0 j1 j2 j3 W hW
  simp only [hpk, if_true] at pk
  obtain ⟨P, hP⟩ : ∃ P, packF ⟨j0, j1, j2, j3⟩ = P := ⟨_, rfl⟩
  rw [hP] at e
  simp only [hP] at pk
  have PK := Lib.hid pk
  clear pk hP hj hpk
  rw [e]
  have ST := Lib.hid h
  have HE := Lib.hid he
  have CP := Lib.hid cp
  have LI := Lib.hid li
  have PS := Lib.hid ps
  clear h he cp li ps e hp hB hq cp1 htr hls hk hm
  go_enter Tryd.func46, Tryd.ntmps46
  go_upto_region 15 with (first
    | (go_at_call 63; ((with_reducible refine (CP.out _).mono ?_); rintro e w' ⟨rfl, hw'⟩; subst w'))
    | (go_at_call 64; ((with_reducible refine (LI.out _).mono ?_); rintro e w' ⟨rfl, hw'⟩; subst w')))
  have HBR := Lib.hid (Below.refl w.heap.size w)
  go_upto_region 16 with (go_at_call 13; ((with_reducible refine (PS.out _ (HE.out.below HBR.out)).mono ?_); rintro e w6 ⟨rfl, hb6⟩; have HB6 := Lib.hid (ext_trans HBR.out hb6); clear hb6))
  obtain ⟨gj, hgj⟩ : ∃ gj, w6.heap.size = gj := ⟨_, rfl⟩
  obtain ⟨w7, hw7⟩ : ∃ w7, w7 = w6.alloc (.cells #[.int .i64 j0, .int .i64 j1, .int .i64 j2, .int .i64 j3] 23) := ⟨_, rfl⟩
  rw [← hw7]
  try rw [hgj]
  have hI7 : Bk w7 gj 23 #[.int .i64 j0, .int .i64 j1, .int .i64 j2, .int .i64 j3] := by rw [hw7, ← hgj]; exact bk_new _ _ _
  have hb7 : Below w.heap.size w w7 := by rw [hw7]; exact ext_alloc HB6.out _
  have HB7 := Lib.hid hb7
  obtain ⟨z0, z1, z2, z3⟩ := cells4 hI7
  have zL := hI7.lt
  clear hw7 hgj hI7 hb7
  go_upto_region 19 with (go_at_call 9; ((with_reducible refine (PK.out _ (HE.out.below HB7.out).asc).mono ?_); rintro e w8 ⟨rfl, hb8⟩; have UW := Lib.hid (ext_trans HB7.out hb8); have S8 := Lib.hid (ST.out.below UW.out); clear hb8))
  clear z0 z1 z2 z3 zL
  obtain ⟨c0, c1, c2⟩ := cells3 S8.out.b
  have gL8 := S8.out.b.lt
  go_wp2_with (at_builtin; refine wpList_append_sl rfl (.tmp 129) (.tmp 131) 34 rfl g 3 i0_ _ 8 Tryd.underlying34 i1_ iz0 iz1 iz2 rfl (.slice ca m cc) r.code rfl (S8.out.c.alloc _) (some ⟨w8.heap.size, 0, none⟩) 1 1 [P] rfl (lit_sl1 _ _ rfl) (by rw [HM.out]; unfold maxLen; omega) (by rw [HM.out]; omega) (by rw [World.size_alloc]; have := S8.out.gle; omega) ?_; intro v9 w9 hown9 hgr9 _; have kb := bk_other (bk_old _ S8.out.b) (S8.out.c.alloc _) (by decide) hgr9; have c9 := kb.cell 0; have f9 := kb.frozen 0; simp only [List.getElem?_toArray, List.getElem?_cons_succ, List.getElem?_cons_zero] at c9; have k9L := kb.lt; obtain ⟨xa, xn, xc, rfl⟩ := own_shape hown9; have FIN := Lib.hid ((S8.out.below (ext_alloc (Below.refl _ _) _)).setC hgr9 hown9); have UN := Lib.hid (RdSt.under (S8.out.c.alloc _) ((ext_alloc UW.out _).mono gS) (by rw [World.size_alloc]; have := S8.out.gle; omega) hgr9 0 (.slice xa xn xc)); clear kb hown9 hgr9)
  go_ret
  exact rd_post FIN.out UN.out rfl
set_option maxHeartbeats 8000000 in
set_option maxRecDepth 100000 in
theorem rcell_noname_bad (g : Nat) (r : RdV) (vc vl vh : Value) (n : Int) (s : ByteArray) (w : World) (h : RdSt g r vc vl vh w) (he : PEnv w) (hs : s.size ≤ 80) (hn1 : r.code.length ≤ 1000) (hn2 : r.holes.length ≤ 1000) (hp : Lib.hasPrefix s.data.toList wordP = false) (k : Nat) (hk : Lib.lastIndexByte s 32 = k) (hks : k < s.size) (h2 : isNameB (holeN s.data.toList) = false) (hq : (parseF s.data.toList).2 ≠ 0) :
    Calls Tryd.prog 46 #[.pointer (some ⟨g, 0, none⟩), .int .i64 n, .string s] w (RdPost g w (cellR r n s.data.toList).1 (cellR r n s.data.toList).2) := by
  have gL := h.b.lt
  have gS := h.gle
  have cp := fun W => Tryd.strings_CutPrefix s ⟨#[119, 111, 114, 100, 32]⟩ W
  have cp1 : Lib.hasPrefix s.data.toList (⟨#[119, 111, 114, 100, 32]⟩ : ByteArray).data.toList = false := hp
  have htr : Lib.trimPrefix s.data.toList (⟨#[119, 111, 114, 100, 32]⟩ : ByteArray).data.toList = s.data.toList := by
    unfold Lib.trimPrefix; rw [cp1]; rfl
  simp only [cp1, htr, ba_of] at cp
  have li := fun W => Tryd.strings_LastIndexByte s 32 (by omega) W
  have hls : lastSp s.data.toList = Lib.lastIndexByte s 32 := by unfold lastSp; rw [ba_back]
  obtain ⟨ca, cc, rfl, _, _⟩ := h.c.sl
  obtain ⟨m, hm⟩ : ∃ m, r.code.length = m := ⟨_, rfl⟩
  rw [hm] at h hn1
  have HM := Lib.hid hm
  obtain ⟨i0_, i1_, iz0, iz1, iz2⟩ := info_parts info_intP
  rw [hk] at hls
  simp only [hk] at li
  obtain ⟨N, hxN⟩ : ∃ N, s.extract (k + 1) s.size = N := ⟨_, rfl⟩
  have hNl : ba (s.data.toList.drop (k + 1)) = N := by rw [← hxN]; exact ext_drop s (k + 1)
  have hN : holeN s.data.toList = N := by unfold holeN; rw [hls, Int.toNat_natCast, hNl]
  have is := fun W => isName_any N (by rw [← hxN]; simp; omega) W
  have r1 : (k : Int) + 1 ≤ s.size := by omega
  have r2 : (k : Int) ≤ s.size := by omega
  have r3 : (0 : Int) ≤ k := by omega
  have r4 : (0 : Int) ≤ (k : Int) + 1 := by omega
  have wr1 : IntKind.i64.wrap ((k : Int) + 1) = (k : Int) + 1 := IntWalk.i64_in _ ⟨by omega, by omega⟩
  have hB : holeB s.data.toList = false := by unfold holeB; rw [h2]; simp
  rw [hN] at h2
  simp only [h2] at is
  have e : cellR r n s.data.toList = (r, 3) := by unfold cellR; rw [if_neg (by rw [hp]; simp), if_neg (by rw [hB]; simp), if_neg hq]
  have ps := fun W (hW : PEnv W) => parse_any s W hW (by omega)
  simp only [parse_er hq, InstV.val, zeroI] at ps
  rw [e]
  have ST := Lib.hid h
  have HE := Lib.hid he
  have CP := Lib.hid cp
  have LI := Lib.hid li
  have PS := Lib.hid ps
  have IS := Lib.hid is
  clear h he cp li ps e hp hB hq cp1 htr hls hk hm is hNl hN h2
  go_enter Tryd.func46, Tryd.ntmps46
  go_upto_region 15 with (first
    | (go_at_call 63; ((with_reducible refine (CP.out _).mono ?_); rintro e w' ⟨rfl, hw'⟩; subst w'))
    | (go_at_call 64; ((with_reducible refine (LI.out _).mono ?_); rintro e w' ⟨rfl, hw'⟩; subst w'))
    | (go_at_call 62; ((with_reducible refine (IS.out _).mono ?_); rintro e w1 ⟨rfl, hb1⟩; have HB1 := Lib.hid hb1; clear hb1)))
  go_upto_region 16 with (go_at_call 13; ((with_reducible refine (PS.out _ (HE.out.below HB1.out)).mono ?_); rintro e w6 ⟨rfl, hb6⟩; have HB6 := Lib.hid (ext_trans HB1.out hb6); clear hb6))
  obtain ⟨gj, hgj⟩ : ∃ gj, w6.heap.size = gj := ⟨_, rfl⟩
  obtain ⟨w7, hw7⟩ : ∃ w7, w7 = w6.alloc (.cells #[.int .i64 0, .int .i64 0, .int .i64 0, .int .i64 0] 23) := ⟨_, rfl⟩
  rw [← hw7]
  try rw [hgj]
  have hI7 : Bk w7 gj 23 #[.int .i64 0, .int .i64 0, .int .i64 0, .int .i64 0] := by rw [hw7, ← hgj]; exact bk_new _ _ _
  have hb7 : Below w.heap.size w w7 := by rw [hw7]; exact ext_alloc HB6.out _
  have HB7 := Lib.hid hb7
  obtain ⟨z0, z1, z2, z3⟩ := cells4 hI7
  have zL := hI7.lt
  clear hw7 hgj hI7 hb7
  go_wp2
  go_ret
  exact rd_post (ST.out.below HB7.out) (HB7.out.mono gS) rfl
set_option maxHeartbeats 8000000 in
set_option maxRecDepth 100000 in
theorem rcell_noname_ok (g : Nat) (r : RdV) (vc vl vh : Value) (n : Int) (s : ByteArray) (w : World) (h : RdSt g r vc vl vh w) (he : PEnv w) (hs : s.size ≤ 80) (hn1 : r.code.length ≤ 1000) (hn2 : r.holes.length ≤ 1000) (hp : Lib.hasPrefix s.data.toList wordP = false) (k : Nat) (hk : Lib.lastIndexByte s 32 = k) (hks : k < s.size) (h2 : isNameB (holeN s.data.toList) = false) (hq : (parseF s.data.toList).2 = 0) :
    Calls Tryd.prog 46 #[.pointer (some ⟨g, 0, none⟩), .int .i64 n, .string s] w (RdPost g w (cellR r n s.data.toList).1 (cellR r n s.data.toList).2) := by
  have gL := h.b.lt
  have gS := h.gle
  have cp := fun W => Tryd.strings_CutPrefix s ⟨#[119, 111, 114, 100, 32]⟩ W
  have cp1 : Lib.hasPrefix s.data.toList (⟨#[119, 111, 114, 100, 32]⟩ : ByteArray).data.toList = false := hp
  have htr : Lib.trimPrefix s.data.toList (⟨#[119, 111, 114, 100, 32]⟩ : ByteArray).data.toList = s.data.toList := by
    unfold Lib.trimPrefix; rw [cp1]; rfl
  simp only [cp1, htr, ba_of] at cp
  have li := fun W => Tryd.strings_LastIndexByte s 32 (by omega) W
  have hls : lastSp s.data.toList = Lib.lastIndexByte s 32 := by unfold lastSp; rw [ba_back]
  obtain ⟨ca, cc, rfl, _, _⟩ := h.c.sl
  obtain ⟨m, hm⟩ : ∃ m, r.code.length = m := ⟨_, rfl⟩
  rw [hm] at h hn1
  have HM := Lib.hid hm
  obtain ⟨i0_, i1_, iz0, iz1, iz2⟩ := info_parts info_intP
  rw [hk] at hls
  simp only [hk] at li
  obtain ⟨N, hxN⟩ : ∃ N, s.extract (k + 1) s.size = N := ⟨_, rfl⟩
  have hNl : ba (s.data.toList.drop (k + 1)) = N := by rw [← hxN]; exact ext_drop s (k + 1)
  have hN : holeN s.data.toList = N := by unfold holeN; rw [hls, Int.toNat_natCast, hNl]
  have is := fun W => isName_any N (by rw [← hxN]; simp; omega) W
  have r1 : (k : Int) + 1 ≤ s.size := by omega
  have r2 : (k : Int) ≤ s.size := by omega
  have r3 : (0 : Int) ≤ k := by omega
  have r4 : (0 : Int) ≤ (k : Int) + 1 := by omega
  have wr1 : IntKind.i64.wrap ((k : Int) + 1) = (k : Int) + 1 := IntWalk.i64_in _ ⟨by omega, by omega⟩
  have hB : holeB s.data.toList = false := by unfold holeB; rw [h2]; simp
  rw [hN] at h2
  simp only [h2] at is
  have e : cellR r n s.data.toList = (⟨r.code ++ [packF (parseF s.data.toList).1], r.labels, r.holes⟩, 0) := by unfold cellR; rw [if_neg (by rw [hp]; simp), if_neg (by rw [hB]; simp), if_pos hq]
  have ps := fun W (hW : PEnv W) => parse_any s W hW (by omega)
  obtain ⟨hpk, _⟩ := parse_etaC hq
  obtain ⟨j, hj⟩ : ∃ j, (parseF s.data.toList).1 = j := ⟨_, rfl⟩
  simp only [hj, hq, InstV.val] at ps
  rw [hj] at e hpk
  obtain ⟨j0, j1, j2, j3⟩ := j
  simp only at ps
  have pk := fun W (hW : Tab W) => ipack_any j0 j1 j2 j3 W hW
  simp only [hpk, if_true] at pk
  obtain ⟨P, hP⟩ : ∃ P, packF ⟨j0, j1, j2, j3⟩ = P := ⟨_, rfl⟩
  rw [hP] at e
  simp only [hP] at pk
  have PK := Lib.hid pk
  clear pk hP hj hpk
  rw [e]
  have ST := Lib.hid h
  have HE := Lib.hid he
  have CP := Lib.hid cp
  have LI := Lib.hid li
  have PS := Lib.hid ps
  have IS := Lib.hid is
  clear h he cp li ps e hp hB hq cp1 htr hls hk hm is hNl hN h2
  go_enter Tryd.func46, Tryd.ntmps46
  go_upto_region 15 with (first
    | (go_at_call 63; ((with_reducible refine (CP.out _).mono ?_); rintro e w' ⟨rfl, hw'⟩; subst w'))
    | (go_at_call 64; ((with_reducible refine (LI.out _).mono ?_); rintro e w' ⟨rfl, hw'⟩; subst w'))
    | (go_at_call 62; ((with_reducible refine (IS.out _).mono ?_); rintro e w1 ⟨rfl, hb1⟩; have HB1 := Lib.hid hb1; clear hb1)))
  go_upto_region 16 with (go_at_call 13; ((with_reducible refine (PS.out _ (HE.out.below HB1.out)).mono ?_); rintro e w6 ⟨rfl, hb6⟩; have HB6 := Lib.hid (ext_trans HB1.out hb6); clear hb6))
  obtain ⟨gj, hgj⟩ : ∃ gj, w6.heap.size = gj := ⟨_, rfl⟩
  obtain ⟨w7, hw7⟩ : ∃ w7, w7 = w6.alloc (.cells #[.int .i64 j0, .int .i64 j1, .int .i64 j2, .int .i64 j3] 23) := ⟨_, rfl⟩
  rw [← hw7]
  try rw [hgj]
  have hI7 : Bk w7 gj 23 #[.int .i64 j0, .int .i64 j1, .int .i64 j2, .int .i64 j3] := by rw [hw7, ← hgj]; exact bk_new _ _ _
  have hb7 : Below w.heap.size w w7 := by rw [hw7]; exact ext_alloc HB6.out _
  have HB7 := Lib.hid hb7
  obtain ⟨z0, z1, z2, z3⟩ := cells4 hI7
  have zL := hI7.lt
  clear hw7 hgj hI7 hb7
  go_upto_region 19 with (go_at_call 9; ((with_reducible refine (PK.out _ (HE.out.below HB7.out).asc).mono ?_); rintro e w8 ⟨rfl, hb8⟩; have UW := Lib.hid (ext_trans HB7.out hb8); have S8 := Lib.hid (ST.out.below UW.out); clear hb8))
  clear z0 z1 z2 z3 zL
  obtain ⟨c0, c1, c2⟩ := cells3 S8.out.b
  have gL8 := S8.out.b.lt
  go_wp2_with (at_builtin; refine wpList_append_sl rfl (.tmp 129) (.tmp 131) 34 rfl g 3 i0_ _ 8 Tryd.underlying34 i1_ iz0 iz1 iz2 rfl (.slice ca m cc) r.code rfl (S8.out.c.alloc _) (some ⟨w8.heap.size, 0, none⟩) 1 1 [P] rfl (lit_sl1 _ _ rfl) (by rw [HM.out]; unfold maxLen; omega) (by rw [HM.out]; omega) (by rw [World.size_alloc]; have := S8.out.gle; omega) ?_; intro v9 w9 hown9 hgr9 _; have kb := bk_other (bk_old _ S8.out.b) (S8.out.c.alloc _) (by decide) hgr9; have c9 := kb.cell 0; have f9 := kb.frozen 0; simp only [List.getElem?_toArray, List.getElem?_cons_succ, List.getElem?_cons_zero] at c9; have k9L := kb.lt; obtain ⟨xa, xn, xc, rfl⟩ := own_shape hown9; have FIN := Lib.hid ((S8.out.below (ext_alloc (Below.refl _ _) _)).setC hgr9 hown9); have UN := Lib.hid (RdSt.under (S8.out.c.alloc _) ((ext_alloc UW.out _).mono gS) (by rw [World.size_alloc]; have := S8.out.gle; omega) hgr9 0 (.slice xa xn xc)); clear kb hown9 hgr9)
  go_ret
  exact rd_post FIN.out UN.out rfl
set_option maxHeartbeats 8000000 in
set_option maxRecDepth 100000 in
theorem rcell_pbad_bad (g : Nat) (r : RdV) (vc vl vh : Value) (n : Int) (s : ByteArray) (w : World) (h : RdSt g r vc vl vh w) (he : PEnv w) (hs : s.size ≤ 80) (hn1 : r.code.length ≤ 1000) (hn2 : r.holes.length ≤ 1000) (hp : Lib.hasPrefix s.data.toList wordP = false) (k : Nat) (hk : Lib.lastIndexByte s 32 = k) (hks : k < s.size) (h2 : isNameB (holeN s.data.toList) = true) (h3 : (holeI s.data.toList).2 ≠ 0) (hq : (parseF s.data.toList).2 ≠ 0) :
    Calls Tryd.prog 46 #[.pointer (some ⟨g, 0, none⟩), .int .i64 n, .string s] w (RdPost g w (cellR r n s.data.toList).1 (cellR r n s.data.toList).2) := by
  have gL := h.b.lt
  have gS := h.gle
  have cp := fun W => Tryd.strings_CutPrefix s ⟨#[119, 111, 114, 100, 32]⟩ W
  have cp1 : Lib.hasPrefix s.data.toList (⟨#[119, 111, 114, 100, 32]⟩ : ByteArray).data.toList = false := hp
  have htr : Lib.trimPrefix s.data.toList (⟨#[119, 111, 114, 100, 32]⟩ : ByteArray).data.toList = s.data.toList := by
    unfold Lib.trimPrefix; rw [cp1]; rfl
  simp only [cp1, htr, ba_of] at cp
  have li := fun W => Tryd.strings_LastIndexByte s 32 (by omega) W
  have hls : lastSp s.data.toList = Lib.lastIndexByte s 32 := by unfold lastSp; rw [ba_back]
  obtain ⟨ca, cc, rfl, _, _⟩ := h.c.sl
  obtain ⟨m, hm⟩ : ∃ m, r.code.length = m := ⟨_, rfl⟩
  rw [hm] at h hn1
  have HM := Lib.hid hm
  obtain ⟨i0_, i1_, iz0, iz1, iz2⟩ := info_parts info_intP
  rw [hk] at hls
  simp only [hk] at li
  obtain ⟨N, hxN⟩ : ∃ N, s.extract (k + 1) s.size = N := ⟨_, rfl⟩
  have hNl : ba (s.data.toList.drop (k + 1)) = N := by rw [← hxN]; exact ext_drop s (k + 1)
  have hN : holeN s.data.toList = N := by unfold holeN; rw [hls, Int.toNat_natCast, hNl]
  have is := fun W => isName_any N (by rw [← hxN]; simp; omega) W
  have r1 : (k : Int) + 1 ≤ s.size := by omega
  have r2 : (k : Int) ≤ s.size := by omega
  have r3 : (0 : Int) ≤ k := by omega
  have r4 : (0 : Int) ≤ (k : Int) + 1 := by omega
  have wr1 : IntKind.i64.wrap ((k : Int) + 1) = (k : Int) + 1 := IntWalk.i64_in _ ⟨by omega, by omega⟩
  have hB : holeB s.data.toList = false := by unfold holeB; simp [h3]
  rw [hN] at h2
  simp only [h2] at is
  obtain ⟨X, hxF⟩ : ∃ X, s.extract 0 k = X := ⟨_, rfl⟩
  obtain ⟨Z, hZ⟩ : ∃ Z, X ++ (⟨#[32, 48]⟩ : ByteArray) = Z := ⟨_, rfl⟩
  have hXl : X.data.toList = s.data.toList.take k := by rw [← hxF]; exact ext_take s k
  have hXs : X.size ≤ s.size := by
    have h1 : X.size = X.data.toList.length := rfl
    have h2 : s.size = s.data.toList.length := rfl
    rw [h1, hXl, List.length_take]; omega
  have hZl : Z.data.toList = s.data.toList.take k ++ [32, 48] := by rw [← hZ, ← hXl]; simp
  have hZs : Z.size ≤ 1048576 := by
    have h1 : Z.size = Z.data.toList.length := rfl
    have h2 : X.size = X.data.toList.length := rfl
    rw [h1, hZl, ← hXl, List.length_append, ← h2]; simp; omega
  have hI : holeI s.data.toList = parseF Z.data.toList := by unfold holeI; rw [hls, Int.toNat_natCast, hZl]
  have hadd : Op.stringOp .add X ⟨#[32, 48]⟩ = pure (.string Z) := by rw [← hZ]; exact str_add _ _ (by have h1 : (⟨#[32, 48]⟩ : ByteArray).size = 2 := rfl; omega)
  have pz := fun W (hW : PEnv W) => parse_any Z W hW hZs
  rw [hI] at h3
  simp only [parse_er h3, InstV.val, zeroI] at pz
  have e : cellR r n s.data.toList = (r, 3) := by unfold cellR; rw [if_neg (by rw [hp]; simp), if_neg (by rw [hB]; simp), if_neg hq]
  have ps := fun W (hW : PEnv W) => parse_any s W hW (by omega)
  simp only [parse_er hq, InstV.val, zeroI] at ps
  rw [e]
  have ST := Lib.hid h
  have HE := Lib.hid he
  have CP := Lib.hid cp
  have LI := Lib.hid li
  have PS := Lib.hid ps
  have IS := Lib.hid is
  have PZ := Lib.hid pz
  clear h he cp li ps e hp hB hq cp1 htr hls hk hm is hNl hN h2 pz hI hZl hZs hXl hXs hZ h3
  go_enter Tryd.func46, Tryd.ntmps46
  go_upto_region 10 with (first
    | (go_at_call 63; ((with_reducible refine (CP.out _).mono ?_); rintro e w' ⟨rfl, hw'⟩; subst w'))
    | (go_at_call 64; ((with_reducible refine (LI.out _).mono ?_); rintro e w' ⟨rfl, hw'⟩; subst w'))
    | (go_at_call 62; ((with_reducible refine (IS.out _).mono ?_); rintro e w1 ⟨rfl, hb1⟩; have HB1 := Lib.hid hb1; clear hb1)))
  go_upto_region 11 with (go_at_call 13; ((with_reducible refine (PZ.out _ (HE.out.below HB1.out)).mono ?_); rintro e w2 ⟨rfl, hb2⟩; have HB2 := Lib.hid (ext_trans HB1.out hb2); clear hb2))
  obtain ⟨gi, hgi⟩ : ∃ gi, w2.heap.size = gi := ⟨_, rfl⟩
  obtain ⟨w4, hw4⟩ : ∃ w4, w4 = w2.alloc (.cells #[.int .i64 0, .int .i64 0, .int .i64 0, .int .i64 0] 23) := ⟨_, rfl⟩
  rw [← hw4]
  try rw [hgi]
  have hI4 : Bk w4 gi 23 #[.int .i64 0, .int .i64 0, .int .i64 0, .int .i64 0] := by rw [hw4, ← hgi]; exact bk_new _ _ _
  have hb4 : Below w.heap.size w w4 := by rw [hw4]; exact ext_alloc HB2.out _
  have HB4 := Lib.hid hb4
  obtain ⟨y0, y1, y2, y3⟩ := cells4 hI4
  have yL := hI4.lt
  clear hw4 hgi hI4 hb4
  go_upto_region 15 with (fail)
  clear y0 y1 y2 y3 yL
  go_upto_region 16 with (go_at_call 13; ((with_reducible refine (PS.out _ (HE.out.below HB4.out)).mono ?_); rintro e w6 ⟨rfl, hb6⟩; have HB6 := Lib.hid (ext_trans HB4.out hb6); clear hb6))
  obtain ⟨gj, hgj⟩ : ∃ gj, w6.heap.size = gj := ⟨_, rfl⟩
  obtain ⟨w7, hw7⟩ : ∃ w7, w7 = w6.alloc (.cells #[.int .i64 0, .int .i64 0, .int .i64 0, .int .i64 0] 23) := ⟨_, rfl⟩
  rw [← hw7]
  try rw [hgj]
  have hI7 : Bk w7 gj 23 #[.int .i64 0, .int .i64 0, .int .i64 0, .int .i64 0] := by rw [hw7, ← hgj]; exact bk_new _ _ _
  have hb7 : Below w.heap.size w w7 := by rw [hw7]; exact ext_alloc HB6.out _
  have HB7 := Lib.hid hb7
  obtain ⟨z0, z1, z2, z3⟩ := cells4 hI7
  have zL := hI7.lt
  clear hw7 hgj hI7 hb7
  go_wp2
  go_ret
  exact rd_post (ST.out.below HB7.out) (HB7.out.mono gS) rfl
set_option maxHeartbeats 8000000 in
set_option maxRecDepth 100000 in
theorem rcell_pbad_ok (g : Nat) (r : RdV) (vc vl vh : Value) (n : Int) (s : ByteArray) (w : World) (h : RdSt g r vc vl vh w) (he : PEnv w) (hs : s.size ≤ 80) (hn1 : r.code.length ≤ 1000) (hn2 : r.holes.length ≤ 1000) (hp : Lib.hasPrefix s.data.toList wordP = false) (k : Nat) (hk : Lib.lastIndexByte s 32 = k) (hks : k < s.size) (h2 : isNameB (holeN s.data.toList) = true) (h3 : (holeI s.data.toList).2 ≠ 0) (hq : (parseF s.data.toList).2 = 0) :
    Calls Tryd.prog 46 #[.pointer (some ⟨g, 0, none⟩), .int .i64 n, .string s] w (RdPost g w (cellR r n s.data.toList).1 (cellR r n s.data.toList).2) := by
  have gL := h.b.lt
  have gS := h.gle
  have cp := fun W => Tryd.strings_CutPrefix s ⟨#[119, 111, 114, 100, 32]⟩ W
  have cp1 : Lib.hasPrefix s.data.toList (⟨#[119, 111, 114, 100, 32]⟩ : ByteArray).data.toList = false := hp
  have htr : Lib.trimPrefix s.data.toList (⟨#[119, 111, 114, 100, 32]⟩ : ByteArray).data.toList = s.data.toList := by
    unfold Lib.trimPrefix; rw [cp1]; rfl
  simp only [cp1, htr, ba_of] at cp
  have li := fun W => Tryd.strings_LastIndexByte s 32 (by omega) W
  have hls : lastSp s.data.toList = Lib.lastIndexByte s 32 := by unfold lastSp; rw [ba_back]
  obtain ⟨ca, cc, rfl, _, _⟩ := h.c.sl
  obtain ⟨m, hm⟩ : ∃ m, r.code.length = m := ⟨_, rfl⟩
  rw [hm] at h hn1
  have HM := Lib.hid hm
  obtain ⟨i0_, i1_, iz0, iz1, iz2⟩ := info_parts info_intP
  rw [hk] at hls
  simp only [hk] at li
  obtain ⟨N, hxN⟩ : ∃ N, s.extract (k + 1) s.size = N := ⟨_, rfl⟩
  have hNl : ba (s.data.toList.drop (k + 1)) = N := by rw [← hxN]; exact ext_drop s (k + 1)
  have hN : holeN s.data.toList = N := by unfold holeN; rw [hls, Int.toNat_natCast, hNl]
  have is := fun W => isName_any N (by rw [← hxN]; simp; omega) W
  have r1 : (k : Int) + 1 ≤ s.size := by omega
  have r2 : (k : Int) ≤ s.size := by omega
  have r3 : (0 : Int) ≤ k := by omega
  have r4 : (0 : Int) ≤ (k : Int) + 1 := by omega
  have wr1 : IntKind.i64.wrap ((k : Int) + 1) = (k : Int) + 1 := IntWalk.i64_in _ ⟨by omega, by omega⟩
  have hB : holeB s.data.toList = false := by unfold holeB; simp [h3]
  rw [hN] at h2
  simp only [h2] at is
  obtain ⟨X, hxF⟩ : ∃ X, s.extract 0 k = X := ⟨_, rfl⟩
  obtain ⟨Z, hZ⟩ : ∃ Z, X ++ (⟨#[32, 48]⟩ : ByteArray) = Z := ⟨_, rfl⟩
  have hXl : X.data.toList = s.data.toList.take k := by rw [← hxF]; exact ext_take s k
  have hXs : X.size ≤ s.size := by
    have h1 : X.size = X.data.toList.length := rfl
    have h2 : s.size = s.data.toList.length := rfl
    rw [h1, hXl, List.length_take]; omega
  have hZl : Z.data.toList = s.data.toList.take k ++ [32, 48] := by rw [← hZ, ← hXl]; simp
  have hZs : Z.size ≤ 1048576 := by
    have h1 : Z.size = Z.data.toList.length := rfl
    have h2 : X.size = X.data.toList.length := rfl
    rw [h1, hZl, ← hXl, List.length_append, ← h2]; simp; omega
  have hI : holeI s.data.toList = parseF Z.data.toList := by unfold holeI; rw [hls, Int.toNat_natCast, hZl]
  have hadd : Op.stringOp .add X ⟨#[32, 48]⟩ = pure (.string Z) := by rw [← hZ]; exact str_add _ _ (by have h1 : (⟨#[32, 48]⟩ : ByteArray).size = 2 := rfl; omega)
  have pz := fun W (hW : PEnv W) => parse_any Z W hW hZs
  rw [hI] at h3
  simp only [parse_er h3, InstV.val, zeroI] at pz
  have e : cellR r n s.data.toList = (⟨r.code ++ [packF (parseF s.data.toList).1], r.labels, r.holes⟩, 0) := by unfold cellR; rw [if_neg (by rw [hp]; simp), if_neg (by rw [hB]; simp), if_pos hq]
  have ps := fun W (hW : PEnv W) => parse_any s W hW (by omega)
  obtain ⟨hpk, _⟩ := parse_etaC hq
  obtain ⟨j, hj⟩ : ∃ j, (parseF s.data.toList).1 = j := ⟨_, rfl⟩
  simp only [hj, hq, InstV.val] at ps
  rw [hj] at e hpk
  obtain ⟨j0, j1, j2, j3⟩ := j
  simp only at ps
  have pk := fun W (hW : Tab W) => ipack_any j0 j1 j2 j3 W hW
  simp only [hpk, if_true] at pk
  obtain ⟨P, hP⟩ : ∃ P, packF ⟨j0, j1, j2, j3⟩ = P := ⟨_, rfl⟩
  rw [hP] at e
  simp only [hP] at pk
  have PK := Lib.hid pk
  clear pk hP hj hpk
  rw [e]
  have ST := Lib.hid h
  have HE := Lib.hid he
  have CP := Lib.hid cp
  have LI := Lib.hid li
  have PS := Lib.hid ps
  have IS := Lib.hid is
  have PZ := Lib.hid pz
  clear h he cp li ps e hp hB hq cp1 htr hls hk hm is hNl hN h2 pz hI hZl hZs hXl hXs hZ h3
  go_enter Tryd.func46, Tryd.ntmps46
  go_upto_region 10 with (first
    | (go_at_call 63; ((with_reducible refine (CP.out _).mono ?_); rintro e w' ⟨rfl, hw'⟩; subst w'))
    | (go_at_call 64; ((with_reducible refine (LI.out _).mono ?_); rintro e w' ⟨rfl, hw'⟩; subst w'))
    | (go_at_call 62; ((with_reducible refine (IS.out _).mono ?_); rintro e w1 ⟨rfl, hb1⟩; have HB1 := Lib.hid hb1; clear hb1)))
  go_upto_region 11 with (go_at_call 13; ((with_reducible refine (PZ.out _ (HE.out.below HB1.out)).mono ?_); rintro e w2 ⟨rfl, hb2⟩; have HB2 := Lib.hid (ext_trans HB1.out hb2); clear hb2))
  obtain ⟨gi, hgi⟩ : ∃ gi, w2.heap.size = gi := ⟨_, rfl⟩
  obtain ⟨w4, hw4⟩ : ∃ w4, w4 = w2.alloc (.cells #[.int .i64 0, .int .i64 0, .int .i64 0, .int .i64 0] 23) := ⟨_, rfl⟩
  rw [← hw4]
  try rw [hgi]
  have hI4 : Bk w4 gi 23 #[.int .i64 0, .int .i64 0, .int .i64 0, .int .i64 0] := by rw [hw4, ← hgi]; exact bk_new _ _ _
  have hb4 : Below w.heap.size w w4 := by rw [hw4]; exact ext_alloc HB2.out _
  have HB4 := Lib.hid hb4
  obtain ⟨y0, y1, y2, y3⟩ := cells4 hI4
  have yL := hI4.lt
  clear hw4 hgi hI4 hb4
  go_upto_region 15 with (fail)
  clear y0 y1 y2 y3 yL
  go_upto_region 16 with (go_at_call 13; ((with_reducible refine (PS.out _ (HE.out.below HB4.out)).mono ?_); rintro e w6 ⟨rfl, hb6⟩; have HB6 := Lib.hid (ext_trans HB4.out hb6); clear hb6))
  obtain ⟨gj, hgj⟩ : ∃ gj, w6.heap.size = gj := ⟨_, rfl⟩
  obtain ⟨w7, hw7⟩ : ∃ w7, w7 = w6.alloc (.cells #[.int .i64 j0, .int .i64 j1, .int .i64 j2, .int .i64 j3] 23) := ⟨_, rfl⟩
  rw [← hw7]
  try rw [hgj]
  have hI7 : Bk w7 gj 23 #[.int .i64 j0, .int .i64 j1, .int .i64 j2, .int .i64 j3] := by rw [hw7, ← hgj]; exact bk_new _ _ _
  have hb7 : Below w.heap.size w w7 := by rw [hw7]; exact ext_alloc HB6.out _
  have HB7 := Lib.hid hb7
  obtain ⟨z0, z1, z2, z3⟩ := cells4 hI7
  have zL := hI7.lt
  clear hw7 hgj hI7 hb7
  go_upto_region 19 with (go_at_call 9; ((with_reducible refine (PK.out _ (HE.out.below HB7.out).asc).mono ?_); rintro e w8 ⟨rfl, hb8⟩; have UW := Lib.hid (ext_trans HB7.out hb8); have S8 := Lib.hid (ST.out.below UW.out); clear hb8))
  clear z0 z1 z2 z3 zL
  obtain ⟨c0, c1, c2⟩ := cells3 S8.out.b
  have gL8 := S8.out.b.lt
  go_wp2_with (at_builtin; refine wpList_append_sl rfl (.tmp 129) (.tmp 131) 34 rfl g 3 i0_ _ 8 Tryd.underlying34 i1_ iz0 iz1 iz2 rfl (.slice ca m cc) r.code rfl (S8.out.c.alloc _) (some ⟨w8.heap.size, 0, none⟩) 1 1 [P] rfl (lit_sl1 _ _ rfl) (by rw [HM.out]; unfold maxLen; omega) (by rw [HM.out]; omega) (by rw [World.size_alloc]; have := S8.out.gle; omega) ?_; intro v9 w9 hown9 hgr9 _; have kb := bk_other (bk_old _ S8.out.b) (S8.out.c.alloc _) (by decide) hgr9; have c9 := kb.cell 0; have f9 := kb.frozen 0; simp only [List.getElem?_toArray, List.getElem?_cons_succ, List.getElem?_cons_zero] at c9; have k9L := kb.lt; obtain ⟨xa, xn, xc, rfl⟩ := own_shape hown9; have FIN := Lib.hid ((S8.out.below (ext_alloc (Below.refl _ _) _)).setC hgr9 hown9); have UN := Lib.hid (RdSt.under (S8.out.c.alloc _) ((ext_alloc UW.out _).mono gS) (by rw [World.size_alloc]; have := S8.out.gle; omega) hgr9 0 (.slice xa xn xc)); clear kb hown9 hgr9)
  go_ret
  exact rd_post FIN.out UN.out rfl
set_option maxHeartbeats 8000000 in
set_option maxRecDepth 100000 in
theorem rcell_pop_bad (g : Nat) (r : RdV) (vc vl vh : Value) (n : Int) (s : ByteArray) (w : World) (h : RdSt g r vc vl vh w) (he : PEnv w) (hs : s.size ≤ 80) (hn1 : r.code.length ≤ 1000) (hn2 : r.holes.length ≤ 1000) (hp : Lib.hasPrefix s.data.toList wordP = false) (k : Nat) (hk : Lib.lastIndexByte s 32 = k) (hks : k < s.size) (h2 : isNameB (holeN s.data.toList) = true) (h3 : (holeI s.data.toList).2 = 0) (h8 : (holeI s.data.toList).1.op ≠ 8) (h9 : (holeI s.data.toList).1.op ≠ 9) (hq : (parseF s.data.toList).2 ≠ 0) :
    Calls Tryd.prog 46 #[.pointer (some ⟨g, 0, none⟩), .int .i64 n, .string s] w (RdPost g w (cellR r n s.data.toList).1 (cellR r n s.data.toList).2) := by
  have gL := h.b.lt
  have gS := h.gle
  have cp := fun W => Tryd.strings_CutPrefix s ⟨#[119, 111, 114, 100, 32]⟩ W
  have cp1 : Lib.hasPrefix s.data.toList (⟨#[119, 111, 114, 100, 32]⟩ : ByteArray).data.toList = false := hp
  have htr : Lib.trimPrefix s.data.toList (⟨#[119, 111, 114, 100, 32]⟩ : ByteArray).data.toList = s.data.toList := by
    unfold Lib.trimPrefix; rw [cp1]; rfl
  simp only [cp1, htr, ba_of] at cp
  have li := fun W => Tryd.strings_LastIndexByte s 32 (by omega) W
  have hls : lastSp s.data.toList = Lib.lastIndexByte s 32 := by unfold lastSp; rw [ba_back]
  obtain ⟨ca, cc, rfl, _, _⟩ := h.c.sl
  obtain ⟨m, hm⟩ : ∃ m, r.code.length = m := ⟨_, rfl⟩
  rw [hm] at h hn1
  have HM := Lib.hid hm
  obtain ⟨i0_, i1_, iz0, iz1, iz2⟩ := info_parts info_intP
  rw [hk] at hls
  simp only [hk] at li
  obtain ⟨N, hxN⟩ : ∃ N, s.extract (k + 1) s.size = N := ⟨_, rfl⟩
  have hNl : ba (s.data.toList.drop (k + 1)) = N := by rw [← hxN]; exact ext_drop s (k + 1)
  have hN : holeN s.data.toList = N := by unfold holeN; rw [hls, Int.toNat_natCast, hNl]
  have is := fun W => isName_any N (by rw [← hxN]; simp; omega) W
  have r1 : (k : Int) + 1 ≤ s.size := by omega
  have r2 : (k : Int) ≤ s.size := by omega
  have r3 : (0 : Int) ≤ k := by omega
  have r4 : (0 : Int) ≤ (k : Int) + 1 := by omega
  have wr1 : IntKind.i64.wrap ((k : Int) + 1) = (k : Int) + 1 := IntWalk.i64_in _ ⟨by omega, by omega⟩
  have hB : holeB s.data.toList = false := by unfold holeB; simp [h8, h9]
  rw [hN] at h2
  simp only [h2] at is
  obtain ⟨X, hxF⟩ : ∃ X, s.extract 0 k = X := ⟨_, rfl⟩
  obtain ⟨Z, hZ⟩ : ∃ Z, X ++ (⟨#[32, 48]⟩ : ByteArray) = Z := ⟨_, rfl⟩
  have hXl : X.data.toList = s.data.toList.take k := by rw [← hxF]; exact ext_take s k
  have hXs : X.size ≤ s.size := by
    have h1 : X.size = X.data.toList.length := rfl
    have h2 : s.size = s.data.toList.length := rfl
    rw [h1, hXl, List.length_take]; omega
  have hZl : Z.data.toList = s.data.toList.take k ++ [32, 48] := by rw [← hZ, ← hXl]; simp
  have hZs : Z.size ≤ 1048576 := by
    have h1 : Z.size = Z.data.toList.length := rfl
    have h2 : X.size = X.data.toList.length := rfl
    rw [h1, hZl, ← hXl, List.length_append, ← h2]; simp; omega
  have hI : holeI s.data.toList = parseF Z.data.toList := by unfold holeI; rw [hls, Int.toNat_natCast, hZl]
  have hadd : Op.stringOp .add X ⟨#[32, 48]⟩ = pure (.string Z) := by rw [← hZ]; exact str_add _ _ (by have h1 : (⟨#[32, 48]⟩ : ByteArray).size = 2 := rfl; omega)
  have pz := fun W (hW : PEnv W) => parse_any Z W hW hZs
  rw [hI] at h3 h8 h9
  obtain ⟨i, hi⟩ : ∃ i, (parseF Z.data.toList).1 = i := ⟨_, rfl⟩
  simp only [hi, h3, InstV.val] at pz
  rw [hi] at h8 h9
  obtain ⟨i0, i1, i2, i3⟩ := i
  simp only at h8 h9 pz
  have q8 : (i0 == 8) = false := by simpa using h8
  have q9 : (i0 == 9) = false := by simpa using h9
  have e : cellR r n s.data.toList = (r, 3) := by unfold cellR; rw [if_neg (by rw [hp]; simp), if_neg (by rw [hB]; simp), if_neg hq]
  have ps := fun W (hW : PEnv W) => parse_any s W hW (by omega)
  simp only [parse_er hq, InstV.val, zeroI] at ps
  rw [e]
  have ST := Lib.hid h
  have HE := Lib.hid he
  have CP := Lib.hid cp
  have LI := Lib.hid li
  have PS := Lib.hid ps
  have IS := Lib.hid is
  have PZ := Lib.hid pz
  clear h he cp li ps e hp hB hq cp1 htr hls hk hm is hNl hN h2 pz hI hZl hZs hXl hXs hZ h3 hi
  go_enter Tryd.func46, Tryd.ntmps46
  go_upto_region 10 with (first
    | (go_at_call 63; ((with_reducible refine (CP.out _).mono ?_); rintro e w' ⟨rfl, hw'⟩; subst w'))
    | (go_at_call 64; ((with_reducible refine (LI.out _).mono ?_); rintro e w' ⟨rfl, hw'⟩; subst w'))
    | (go_at_call 62; ((with_reducible refine (IS.out _).mono ?_); rintro e w1 ⟨rfl, hb1⟩; have HB1 := Lib.hid hb1; clear hb1)))
  go_upto_region 11 with (go_at_call 13; ((with_reducible refine (PZ.out _ (HE.out.below HB1.out)).mono ?_); rintro e w2 ⟨rfl, hb2⟩; have HB2 := Lib.hid (ext_trans HB1.out hb2); clear hb2))
  obtain ⟨gi, hgi⟩ : ∃ gi, w2.heap.size = gi := ⟨_, rfl⟩
  obtain ⟨w4, hw4⟩ : ∃ w4, w4 = w2.alloc (.cells #[.int .i64 i0, .int .i64 i1, .int .i64 i2, .int .i64 i3] 23) := ⟨_, rfl⟩
  rw [← hw4]
  try rw [hgi]
  have hI4 : Bk w4 gi 23 #[.int .i64 i0, .int .i64 i1, .int .i64 i2, .int .i64 i3] := by rw [hw4, ← hgi]; exact bk_new _ _ _
  have hb4 : Below w.heap.size w w4 := by rw [hw4]; exact ext_alloc HB2.out _
  have HB4 := Lib.hid hb4
  obtain ⟨y0, y1, y2, y3⟩ := cells4 hI4
  have yL := hI4.lt
  clear hw4 hgi hI4 hb4
  go_upto_region 15 with (fail)
  clear y0 y1 y2 y3 yL
  go_upto_region 16 with (go_at_call 13; ((with_reducible refine (PS.out _ (HE.out.below HB4.out)).mono ?_); rintro e w6 ⟨rfl, hb6⟩; have HB6 := Lib.hid (ext_trans HB4.out hb6); clear hb6))
  obtain ⟨gj, hgj⟩ : ∃ gj, w6.heap.size = gj := ⟨_, rfl⟩
  obtain ⟨w7, hw7⟩ : ∃ w7, w7 = w6.alloc (.cells #[.int .i64 0, .int .i64 0, .int .i64 0, .int .i64 0] 23) := ⟨_, rfl⟩
  rw [← hw7]
  try rw [hgj]
  have hI7 : Bk w7 gj 23 #[.int .i64 0, .int .i64 0, .int .i64 0, .int .i64 0] := by rw [hw7, ← hgj]; exact bk_new _ _ _
  have hb7 : Below w.heap.size w w7 := by rw [hw7]; exact ext_alloc HB6.out _
  have HB7 := Lib.hid hb7
  obtain ⟨z0, z1, z2, z3⟩ := cells4 hI7
  have zL := hI7.lt
  clear hw7 hgj hI7 hb7
  go_wp2
  go_ret
  exact rd_post (ST.out.below HB7.out) (HB7.out.mono gS) rfl
set_option maxHeartbeats 8000000 in
set_option maxRecDepth 100000 in
theorem rcell_pop_ok (g : Nat) (r : RdV) (vc vl vh : Value) (n : Int) (s : ByteArray) (w : World) (h : RdSt g r vc vl vh w) (he : PEnv w) (hs : s.size ≤ 80) (hn1 : r.code.length ≤ 1000) (hn2 : r.holes.length ≤ 1000) (hp : Lib.hasPrefix s.data.toList wordP = false) (k : Nat) (hk : Lib.lastIndexByte s 32 = k) (hks : k < s.size) (h2 : isNameB (holeN s.data.toList) = true) (h3 : (holeI s.data.toList).2 = 0) (h8 : (holeI s.data.toList).1.op ≠ 8) (h9 : (holeI s.data.toList).1.op ≠ 9) (hq : (parseF s.data.toList).2 = 0) :
    Calls Tryd.prog 46 #[.pointer (some ⟨g, 0, none⟩), .int .i64 n, .string s] w (RdPost g w (cellR r n s.data.toList).1 (cellR r n s.data.toList).2) := by
  have gL := h.b.lt
  have gS := h.gle
  have cp := fun W => Tryd.strings_CutPrefix s ⟨#[119, 111, 114, 100, 32]⟩ W
  have cp1 : Lib.hasPrefix s.data.toList (⟨#[119, 111, 114, 100, 32]⟩ : ByteArray).data.toList = false := hp
  have htr : Lib.trimPrefix s.data.toList (⟨#[119, 111, 114, 100, 32]⟩ : ByteArray).data.toList = s.data.toList := by
    unfold Lib.trimPrefix; rw [cp1]; rfl
  simp only [cp1, htr, ba_of] at cp
  have li := fun W => Tryd.strings_LastIndexByte s 32 (by omega) W
  have hls : lastSp s.data.toList = Lib.lastIndexByte s 32 := by unfold lastSp; rw [ba_back]
  obtain ⟨ca, cc, rfl, _, _⟩ := h.c.sl
  obtain ⟨m, hm⟩ : ∃ m, r.code.length = m := ⟨_, rfl⟩
  rw [hm] at h hn1
  have HM := Lib.hid hm
  obtain ⟨i0_, i1_, iz0, iz1, iz2⟩ := info_parts info_intP
  rw [hk] at hls
  simp only [hk] at li
  obtain ⟨N, hxN⟩ : ∃ N, s.extract (k + 1) s.size = N := ⟨_, rfl⟩
  have hNl : ba (s.data.toList.drop (k + 1)) = N := by rw [← hxN]; exact ext_drop s (k + 1)
  have hN : holeN s.data.toList = N := by unfold holeN; rw [hls, Int.toNat_natCast, hNl]
  have is := fun W => isName_any N (by rw [← hxN]; simp; omega) W
  have r1 : (k : Int) + 1 ≤ s.size := by omega
  have r2 : (k : Int) ≤ s.size := by omega
  have r3 : (0 : Int) ≤ k := by omega
  have r4 : (0 : Int) ≤ (k : Int) + 1 := by omega
  have wr1 : IntKind.i64.wrap ((k : Int) + 1) = (k : Int) + 1 := IntWalk.i64_in _ ⟨by omega, by omega⟩
  have hB : holeB s.data.toList = false := by unfold holeB; simp [h8, h9]
  rw [hN] at h2
  simp only [h2] at is
  obtain ⟨X, hxF⟩ : ∃ X, s.extract 0 k = X := ⟨_, rfl⟩
  obtain ⟨Z, hZ⟩ : ∃ Z, X ++ (⟨#[32, 48]⟩ : ByteArray) = Z := ⟨_, rfl⟩
  have hXl : X.data.toList = s.data.toList.take k := by rw [← hxF]; exact ext_take s k
  have hXs : X.size ≤ s.size := by
    have h1 : X.size = X.data.toList.length := rfl
    have h2 : s.size = s.data.toList.length := rfl
    rw [h1, hXl, List.length_take]; omega
  have hZl : Z.data.toList = s.data.toList.take k ++ [32, 48] := by rw [← hZ, ← hXl]; simp
  have hZs : Z.size ≤ 1048576 := by
    have h1 : Z.size = Z.data.toList.length := rfl
    have h2 : X.size = X.data.toList.length := rfl
    rw [h1, hZl, ← hXl, List.length_append, ← h2]; simp; omega
  have hI : holeI s.data.toList = parseF Z.data.toList := by unfold holeI; rw [hls, Int.toNat_natCast, hZl]
  have hadd : Op.stringOp .add X ⟨#[32, 48]⟩ = pure (.string Z) := by rw [← hZ]; exact str_add _ _ (by have h1 : (⟨#[32, 48]⟩ : ByteArray).size = 2 := rfl; omega)
  have pz := fun W (hW : PEnv W) => parse_any Z W hW hZs
  rw [hI] at h3 h8 h9
  obtain ⟨i, hi⟩ : ∃ i, (parseF Z.data.toList).1 = i := ⟨_, rfl⟩
  simp only [hi, h3, InstV.val] at pz
  rw [hi] at h8 h9
  obtain ⟨i0, i1, i2, i3⟩ := i
  simp only at h8 h9 pz
  have q8 : (i0 == 8) = false := by simpa using h8
  have q9 : (i0 == 9) = false := by simpa using h9
  have e : cellR r n s.data.toList = (⟨r.code ++ [packF (parseF s.data.toList).1], r.labels, r.holes⟩, 0) := by unfold cellR; rw [if_neg (by rw [hp]; simp), if_neg (by rw [hB]; simp), if_pos hq]
  have ps := fun W (hW : PEnv W) => parse_any s W hW (by omega)
  obtain ⟨hpk, _⟩ := parse_etaC hq
  obtain ⟨j, hj⟩ : ∃ j, (parseF s.data.toList).1 = j := ⟨_, rfl⟩
  simp only [hj, hq, InstV.val] at ps
  rw [hj] at e hpk
  obtain ⟨j0, j1, j2, j3⟩ := j
  simp only at ps
  have pk := fun W (hW : Tab W) => ipack_any j0 j1 j2 j3 W hW
  simp only [hpk, if_true] at pk
  obtain ⟨P, hP⟩ : ∃ P, packF ⟨j0, j1, j2, j3⟩ = P := ⟨_, rfl⟩
  rw [hP] at e
  simp only [hP] at pk
  have PK := Lib.hid pk
  clear pk hP hj hpk
  rw [e]
  have ST := Lib.hid h
  have HE := Lib.hid he
  have CP := Lib.hid cp
  have LI := Lib.hid li
  have PS := Lib.hid ps
  have IS := Lib.hid is
  have PZ := Lib.hid pz
  clear h he cp li ps e hp hB hq cp1 htr hls hk hm is hNl hN h2 pz hI hZl hZs hXl hXs hZ h3 hi
  go_enter Tryd.func46, Tryd.ntmps46
  go_upto_region 10 with (first
    | (go_at_call 63; ((with_reducible refine (CP.out _).mono ?_); rintro e w' ⟨rfl, hw'⟩; subst w'))
    | (go_at_call 64; ((with_reducible refine (LI.out _).mono ?_); rintro e w' ⟨rfl, hw'⟩; subst w'))
    | (go_at_call 62; ((with_reducible refine (IS.out _).mono ?_); rintro e w1 ⟨rfl, hb1⟩; have HB1 := Lib.hid hb1; clear hb1)))
  go_upto_region 11 with (go_at_call 13; ((with_reducible refine (PZ.out _ (HE.out.below HB1.out)).mono ?_); rintro e w2 ⟨rfl, hb2⟩; have HB2 := Lib.hid (ext_trans HB1.out hb2); clear hb2))
  obtain ⟨gi, hgi⟩ : ∃ gi, w2.heap.size = gi := ⟨_, rfl⟩
  obtain ⟨w4, hw4⟩ : ∃ w4, w4 = w2.alloc (.cells #[.int .i64 i0, .int .i64 i1, .int .i64 i2, .int .i64 i3] 23) := ⟨_, rfl⟩
  rw [← hw4]
  try rw [hgi]
  have hI4 : Bk w4 gi 23 #[.int .i64 i0, .int .i64 i1, .int .i64 i2, .int .i64 i3] := by rw [hw4, ← hgi]; exact bk_new _ _ _
  have hb4 : Below w.heap.size w w4 := by rw [hw4]; exact ext_alloc HB2.out _
  have HB4 := Lib.hid hb4
  obtain ⟨y0, y1, y2, y3⟩ := cells4 hI4
  have yL := hI4.lt
  clear hw4 hgi hI4 hb4
  go_upto_region 15 with (fail)
  clear y0 y1 y2 y3 yL
  go_upto_region 16 with (go_at_call 13; ((with_reducible refine (PS.out _ (HE.out.below HB4.out)).mono ?_); rintro e w6 ⟨rfl, hb6⟩; have HB6 := Lib.hid (ext_trans HB4.out hb6); clear hb6))
  obtain ⟨gj, hgj⟩ : ∃ gj, w6.heap.size = gj := ⟨_, rfl⟩
  obtain ⟨w7, hw7⟩ : ∃ w7, w7 = w6.alloc (.cells #[.int .i64 j0, .int .i64 j1, .int .i64 j2, .int .i64 j3] 23) := ⟨_, rfl⟩
  rw [← hw7]
  try rw [hgj]
  have hI7 : Bk w7 gj 23 #[.int .i64 j0, .int .i64 j1, .int .i64 j2, .int .i64 j3] := by rw [hw7, ← hgj]; exact bk_new _ _ _
  have hb7 : Below w.heap.size w w7 := by rw [hw7]; exact ext_alloc HB6.out _
  have HB7 := Lib.hid hb7
  obtain ⟨z0, z1, z2, z3⟩ := cells4 hI7
  have zL := hI7.lt
  clear hw7 hgj hI7 hb7
  go_upto_region 19 with (go_at_call 9; ((with_reducible refine (PK.out _ (HE.out.below HB7.out).asc).mono ?_); rintro e w8 ⟨rfl, hb8⟩; have UW := Lib.hid (ext_trans HB7.out hb8); have S8 := Lib.hid (ST.out.below UW.out); clear hb8))
  clear z0 z1 z2 z3 zL
  obtain ⟨c0, c1, c2⟩ := cells3 S8.out.b
  have gL8 := S8.out.b.lt
  go_wp2_with (at_builtin; refine wpList_append_sl rfl (.tmp 129) (.tmp 131) 34 rfl g 3 i0_ _ 8 Tryd.underlying34 i1_ iz0 iz1 iz2 rfl (.slice ca m cc) r.code rfl (S8.out.c.alloc _) (some ⟨w8.heap.size, 0, none⟩) 1 1 [P] rfl (lit_sl1 _ _ rfl) (by rw [HM.out]; unfold maxLen; omega) (by rw [HM.out]; omega) (by rw [World.size_alloc]; have := S8.out.gle; omega) ?_; intro v9 w9 hown9 hgr9 _; have kb := bk_other (bk_old _ S8.out.b) (S8.out.c.alloc _) (by decide) hgr9; have c9 := kb.cell 0; have f9 := kb.frozen 0; simp only [List.getElem?_toArray, List.getElem?_cons_succ, List.getElem?_cons_zero] at c9; have k9L := kb.lt; obtain ⟨xa, xn, xc, rfl⟩ := own_shape hown9; have FIN := Lib.hid ((S8.out.below (ext_alloc (Below.refl _ _) _)).setC hgr9 hown9); have UN := Lib.hid (RdSt.under (S8.out.c.alloc _) ((ext_alloc UW.out _).mono gS) (by rw [World.size_alloc]; have := S8.out.gle; omega) hgr9 0 (.slice xa xn xc)); clear kb hown9 hgr9)
  go_ret
  exact rd_post FIN.out UN.out rfl
theorem rcell_any (g : Nat) (r : RdV) (vc vl vh : Value) (n : Int) (s : ByteArray) (w : World) (h : RdSt g r vc vl vh w) (he : PEnv w) (hs : s.size ≤ 80) (hn1 : r.code.length ≤ 1000) (hn2 : r.holes.length ≤ 1000) :
    Calls Tryd.prog 46 #[.pointer (some ⟨g, 0, none⟩), .int .i64 n, .string s] w (RdPost g w (cellR r n s.data.toList).1 (cellR r n s.data.toList).2) := by
  cases hp : Lib.hasPrefix s.data.toList wordP
  · rcases last_bd s with hk | ⟨k, hk, hks⟩
    · by_cases hq : (parseF s.data.toList).2 = 0
      · exact rcell_neg_ok g r vc vl vh n s w h he hs hn1 hn2 hp hk hq
      · exact rcell_neg_bad g r vc vl vh n s w h he hs hn1 hn2 hp hk hq
    · cases h2 : isNameB (holeN s.data.toList)
      · by_cases hq : (parseF s.data.toList).2 = 0
        · exact rcell_noname_ok g r vc vl vh n s w h he hs hn1 hn2 hp k hk hks h2 hq
        · exact rcell_noname_bad g r vc vl vh n s w h he hs hn1 hn2 hp k hk hks h2 hq
      · by_cases h3 : (holeI s.data.toList).2 = 0
        · have hls : lastSp s.data.toList = k := by unfold lastSp; rw [ba_back]; exact hk
          by_cases h8 : (holeI s.data.toList).1.op = 8
          · exact rcell_hole8 g r vc vl vh n s w h he hs hn1 hn2 hp (by unfold holeB; simp [hls, h2, h3, h8]) h8
          by_cases h9 : (holeI s.data.toList).1.op = 9
          · exact rcell_hole9 g r vc vl vh n s w h he hs hn1 hn2 hp (by unfold holeB; simp [hls, h2, h3, h9]) h9
          by_cases hq : (parseF s.data.toList).2 = 0
          · exact rcell_pop_ok g r vc vl vh n s w h he hs hn1 hn2 hp k hk hks h2 h3 h8 h9 hq
          · exact rcell_pop_bad g r vc vl vh n s w h he hs hn1 hn2 hp k hk hks h2 h3 h8 h9 hq
        · by_cases hq : (parseF s.data.toList).2 = 0
          · exact rcell_pbad_ok g r vc vl vh n s w h he hs hn1 hn2 hp k hk hks h2 h3 hq
          · exact rcell_pbad_bad g r vc vl vh n s w h he hs hn1 hn2 hp k hk hks h2 h3 hq
  · cases hk : numB (s.data.toList.drop 5)
    · exact rcell_noword g r vc vl vh n s w h he hs hn1 hn2 hp hk
    · exact rcell_word g r vc vl vh n s w h he hs hn1 hn2 hp hk
end Go.Proofs.YtjlncoodkejncaaDoor
