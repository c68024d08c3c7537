import Derived.Test.YtpjhjefjbkjhkaaGreatDoorBuDa
/- What a desk answers to lines. -/
namespace Go.Proofs.YtpjhjefjbkjhkaaGreatDoor
open Go Go.RowKit Go.Shelf
set_option linter.unusedVariables false
set_option linter.unusedSimpArgs false
theorem lineF_ok {k : KeyV} (h : k.Ok) (s : Bys) : (lineF k s).1.Ok := by
  unfold lineF
  split
  · exact h
  · exact wordsF_ok h _ _
theorem endF_ok : ∀ (l : List Bys) {k : KeyV}, k.Ok → (endF lineF k l).Ok
  | [], _, h => h
  | s :: l, _, h => endF_ok l (lineF_ok h s)
theorem outsF_snoc (k : KeyV) (l : List Bys) (s : Bys) : outsF lineF k (l ++ [s]) = outsF lineF k l ++ [(lineF (endF lineF k l) s).2] := by
  rw [outsF_app]; rfl
theorem endF_snoc (k : KeyV) (l : List Bys) (s : Bys) : endF lineF k (l ++ [s]) = (lineF (endF lineF k l) s).1 := by
  rw [endF_app]; rfl
def okLines (l : List Bys) : Bool := decide (l.length ≤ 60) && l.all fun s => decide (s.length ≤ 300)
theorem okLines_iff (l : List Bys) : okLines l = true ↔ l.length ≤ 60 ∧ ∀ s ∈ l, s.length ≤ 300 := by
  unfold okLines
  rw [Bool.and_eq_true, decide_eq_true_iff, List.all_eq_true]
  simp
theorem bys_take (l : List ByteArray) (k : Nat) : bysL (l.take k) = (bysL l).take k := List.map_take
theorem bys_snoc (l : List ByteArray) (x : ByteArray) : bysL (l ++ [x]) = bysL l ++ [x.data.toList] := by unfold bysL; rw [List.map_append]; rfl
def RunPost (w : World) (l : List ByteArray) (e : Ending) (w' : World) : Prop :=
  ∃ v, e = .returned (.tuple #[v, .int .i64 (if okLines (bysL l) = true then 0 else 2)]) ∧ Own w' w.heap.size 9 v (if okLines (bysL l) = true then (runD (bysL l)).map ba else []) ∧ Below w.heap.size w w'
theorem own_frD {α : Type} [El α] {g : Nat} {w w' : World} {base : Nat} {T T' : TypeId} {v : Value} {xs : List α} {cs : Array Value} (h : FrD g w w') (ho : Own w base T v xs) (hg : Bk w g T' cs) (hT : T' ≠ T) : Own w' base T v xs :=
  own_heapD ho fun k hk => h.block k (own_ltD ho hk).2 (fun e => own_tyD ho hg hT (by rw [hk, e]))
set_option maxHeartbeats 4000000 in
set_option maxRecDepth 100000 in
theorem run_any (ao : Option Addr) (n c : Nat) (l : List ByteArray) (w : World) (he : PEnv w) (hl : Sl w ao n l) : Calls Tryz.prog 37 #[.slice ao n c] w (RunPost w l) := by
  have hln := hl.len
  have hm := hl.max
  unfold maxLen at hm
  have HE := Lib.hid he
  have HL := Lib.hid hl
  clear he hl
  by_cases h60 : n ≤ 60
  · have q60 : ¬ ((60 : Int) < (n : Int)) := by omega
    go_enter Tryz.func37, Tryz.ntmps37
    go_wp2
    go_loopw [15] (fun i wr => ∃ k : Nat, k ≤ n ∧ i = .int .i64 k ∧ wr = w ∧ ∀ s ∈ l.take k, s.size ≤ 300) (fun i _ => n - (intOf i).toNat)
    case atStart => exact ⟨0, Nat.zero_le _, rfl, rfl, fun s hs => by simp at hs⟩
    case round =>
      obtain ⟨k, hk, rfl, hwr, hs⟩ := hrel
      obtain rfl := hwr.symm
      by_cases hlt : k < n
      · have q0 : (0 : Int) ≤ k := by omega
        have q1 : (k : Int) < n := by omega
        obtain ⟨x, hgx⟩ : ∃ x, l[k]? = some x := ⟨_, List.getElem?_eq_getElem (by omega)⟩
        obtain ⟨ad, rfl, bx, e0⟩ := sl_str HL.out hlt hgx
        have HGX := Lib.hid hgx
        have HS := Lib.hid hs
        clear hgx hs
        by_cases h300 : x.size ≤ 300
        · have q3 : ¬ ((300 : Int) < (x.size : Int)) := by omega
          go_wp2
          go_roundw
          case rel => exact ⟨k + 1, by omega, by go_num, by first | rfl | trivial, fun s hs => by
            rw [take_nextD HGX.out] at hs
            rcases List.mem_append.1 hs with h | h
            · exact HS.out s h
            · rw [List.mem_singleton.1 h]; exact h300⟩
          case measure => simp [intOf]; omega
        · have q3 : (300 : Int) < (x.size : Int) := by omega
          have hno : okLines (bysL l) = false := by
            apply Bool.eq_false_iff.2
            intro h
            have h2 := ((okLines_iff _).1 h).2 x.data.toList (List.mem_map.2 ⟨x, List.mem_of_getElem? HGX.out, rfl⟩)
            have h3 : x.data.toList.length = x.size := rfl
            omega
          have HNO := Lib.hid hno
          clear hno
          go_wp2
          go_ret2
          refine ⟨.slice none 0 0, ?_, ?_, Below.refl _ _⟩
          · rw [if_neg (by rw [HNO.out]; decide)]; rfl
          · rw [if_neg (by rw [HNO.out]; decide)]; exact Own.nil _ _ _
      · have q1 : ¬ ((k : Int) < n) := by omega
        obtain rfl : k = n := by omega
        have hok : okLines (bysL l) = true := by
          refine (okLines_iff _).2 ⟨by unfold bysL; rw [List.length_map]; omega, fun s hs' => ?_⟩
          obtain ⟨x, hx, rfl⟩ := List.mem_map.1 hs'
          have h2 := hs x (by rw [← hln, List.take_length]; exact hx)
          have h3 : x.data.toList.length = x.size := rfl
          omega
        have hsa : ∀ x ∈ l, x.size ≤ 300 := fun x hx => hs x (by rw [← hln, List.take_length]; exact hx)
        have HOK := Lib.hid hok
        have HSA := Lib.hid hsa
        have HLN := Lib.hid hln
        clear hs hok hsa hln hm
        have fk := first_any w
        unfold firstK KeyV.val at fk
        simp only at fk
        have FK := Lib.hid fk
        clear fk
        go_wp2_with (go_at_call 75; ((with_reducible refine FK.out.mono ?_); rintro e w5 ⟨rfl, hb5⟩))
        have b6 : Below w.heap.size w (w5.alloc (.cells #[.int .i64 127, .int .i64 0, .int .i64 400, .int .i64 0, .int .i64 0] 153)) := ext_alloc hb5 _
        have k6 : Bk (w5.alloc (.cells #[.int .i64 127, .int .i64 0, .int .i64 400, .int .i64 0, .int .i64 0] 153)) w5.heap.size 153 (deskC firstK) := bk_new _ _ _
        have hgd : w.heap.size ≤ w5.heap.size := hb5.size
        obtain ⟨gd, hgd0⟩ : ∃ gd, w5.heap.size = gd := ⟨_, rfl⟩
        obtain ⟨w6, hw6⟩ : ∃ w6, w6 = w5.alloc (.cells #[.int .i64 127, .int .i64 0, .int .i64 400, .int .i64 0, .int .i64 0] 153) := ⟨_, rfl⟩
        rw [← hw6, hgd0]
        rw [hgd0] at k6 hgd
        rw [← hw6] at b6 k6
        have B6 := Lib.hid b6
        have K6 := Lib.hid k6
        have HGD := Lib.hid hgd
        clear b6 k6 hgd hgd0 hw6 hb5
        go_loopw [7, 28] (fun v i wx => ∃ j : Nat, j ≤ k ∧ i = .int .i64 j ∧ Own wx w.heap.size 9 v ((outsF lineF firstK (bysL (l.take j))).map ba) ∧ Bk wx gd 153 (deskC (endF lineF firstK (bysL (l.take j)))) ∧ Below w.heap.size w wx) (fun _ i _ => k - (intOf i).toNat)
        case atStart => exact ⟨0, Nat.zero_le _, rfl, Own.nil _ _ _, K6.out, B6.out⟩
        case round =>
          obtain ⟨j, hj, rfl, hown, hbk, hbel⟩ := hrel
          by_cases hlt : j < k
          · have q0 : (0 : Int) ≤ j := by omega
            have q1 : (j : Int) < k := by omega
            obtain ⟨x, hgx⟩ : ∃ x, l[j]? = some x := ⟨_, List.getElem?_eq_getElem (by have := HLN.out; omega)⟩
            obtain ⟨ad, rfl, bx, e0⟩ := sl_str (HL.out.below hbel) hlt hgx
            obtain ⟨Kj, hKj⟩ : ∃ Kj, endF lineF firstK (bysL (l.take j)) = Kj := ⟨_, rfl⟩
            have hko : Kj.Ok := by rw [← hKj]; exact endF_ok _ firstK_ok
            have hnx : bysL (l.take (j + 1)) = bysL (l.take j) ++ [x.data.toList] := by rw [take_nextD hgx, bys_snoc]
            obtain ⟨OS, hOS⟩ : ∃ OS, (outsF lineF firstK (bysL (l.take j))).map ba = OS := ⟨_, rfl⟩
            obtain ⟨⟨K2, O2⟩, hR⟩ : ∃ R, lineF Kj x.data.toList = R := ⟨_, rfl⟩
            have hOSl : OS.length = j := by
              rw [← hOS, List.length_map, outsF_len]
              unfold bysL
              rw [List.length_map, List.length_take]
              have := HLN.out
              omega
            have hO2 : (outsF lineF firstK (bysL (l.take (j + 1)))).map ba = OS ++ [ba O2] := by
              rw [hnx, outsF_snoc, hKj, hR, List.map_append, hOS]
              rfl
            have hK2 : endF lineF firstK (bysL (l.take (j + 1))) = K2 := by rw [hnx, endF_snoc, hKj, hR]
            rw [hKj] at hbk
            rw [hOS] at hown
            have li := line_any gd Kj hko.wf x wr hbk (fun W hW => HE.out.below (hbel.trans (hW.below (Nat.le_trans HGD.out (Nat.le_refl _)) hbel.size))) (HSA.out x (List.mem_of_getElem? hgx))
            rw [hR] at li
            simp only at li
            obtain ⟨SS, hSS⟩ : ∃ SS, ba O2 = SS := ⟨_, rfl⟩
            rw [hSS] at li hO2
            have LI := Lib.hid li
            have HO2 := Lib.hid hO2
            have HK2 := Lib.hid hK2
            have HOW := Lib.hid hown
            have HBK := Lib.hid hbk
            have HBEL := Lib.hid hbel
            have HOSL := Lib.hid hOSl
            have hj6 : j ≤ 60 := by omega
            have HJ6 := Lib.hid hj6
            obtain ⟨i0, i1, z0, z1, z2⟩ := info_parts info_strJ
            clear li hO2 hK2 hown hbk hbel hOSl hgx hKj hko hnx hOS hR hSS hj6
            go_wp2_with (first
              | (go_at_call 76; ((with_reducible refine LI.out.mono ?_); rintro e w7 ⟨rfl, hk7, hf7⟩; have O7 := Lib.hid (own_frD hf7 HOW.out HBK.out (by decide)); have K7 := Lib.hid hk7; have B7 := Lib.hid (HBEL.out.trans (hf7.below HGD.out HBEL.out.size)); clear hk7 hf7))
              | (at_builtin; refine wpList_append_sl (α := ByteArray) rfl (.tmp 32) (.tmp 36) 80 rfl w.heap.size 9 i0 _ 16 Tryz.underlying80 i1 z0 z1 z2 rfl _ OS rfl (O7.out.alloc _) (some ⟨w7.heap.size, 0, none⟩) 1 1 [SS] rfl (lit_slD #[.string SS] [SS] (by simp) rfl) (by rw [HOSL.out]; have := HJ6.out; unfold maxLen; omega) (by rw [HOSL.out]; have := HJ6.out; omega) (by rw [World.size_alloc]; have := B7.out.size; omega) ?_; intro v9 w9 hown9 hgr9 _; have O9 := Lib.hid hown9; have K9 := Lib.hid (show Bk w9 gd 153 (deskC K2) from (hgr9.block gd (by rw [World.size_alloc]; have := K7.out.lt; omega) (fun e => own_tyD O7.out K7.out (by decide) e.symm)).trans (bk_old _ K7.out)); have B9 := Lib.hid (show Below w.heap.size w w9 from (FrE.grown (S := fun i => w.heap.size ≤ i) hgr9 (fun i hi => .inl (own_ltD O7.out hi).1)).below (ext_alloc B7.out _) (fun i hi => hi)); clear hown9 hgr9))
            go_roundw
            case rel => exact ⟨j + 1, by omega, by go_num, by rw [HO2.out]; exact O9.out, by rw [HK2.out]; exact K9.out, B9.out⟩
            case measure => simp [intOf]; omega
          · have q1 : ¬ ((j : Int) < k) := by omega
            obtain rfl : j = k := by omega
            have HOW := Lib.hid hown
            have HBEL := Lib.hid hbel
            clear hown hbk hbel
            go_wp2
            go_ret2
            have hO := HOW.out
            rw [← HLN.out, List.take_length] at hO
            have he1 : (if okLines (bysL l) = true then (runD (bysL l)).map ba else []) = (outsF lineF firstK (bysL l)).map ba := if_pos HOK.out
            rw [← he1] at hO
            refine ⟨_, ?_, hO, HBEL.out⟩
            rw [if_pos HOK.out]
            rfl
  · have q60 : (60 : Int) < (n : Int) := by omega
    have hno : okLines (bysL l) = false := by
      apply Bool.eq_false_iff.2
      intro h
      have h2 := ((okLines_iff _).1 h).1
      unfold bysL at h2
      rw [List.length_map] at h2
      omega
    have HNO := Lib.hid hno
    clear hno
    go_enter Tryz.func37, Tryz.ntmps37
    go_wp2
    go_ret2
    refine ⟨.slice none 0 0, ?_, ?_, Below.refl _ _⟩
    · rw [if_neg (by rw [HNO.out]; decide)]; rfl
    · rw [if_neg (by rw [HNO.out]; decide)]; exact Own.nil _ _ _
end Go.Proofs.YtpjhjefjbkjhkaaGreatDoor
/- What a desk answers to closed lists of lines; equal lists of strings. -/
namespace Go.Proofs.YtpjhjefjbkjhkaaGreatDoor
open Go Go.RowKit Go.Shelf
set_option linter.unusedVariables false
set_option linter.unusedSimpArgs false
theorem run_front : runD [[109, 111, 118, 101, 32, 53], [110, 97, 114, 114, 111, 119, 32, 51], [119, 104, 97, 116], [107, 101, 121]] = [[114, 119, 120, 82, 87, 115, 117, 32, 48, 32, 52, 48, 48, 32, 53, 32, 48], [114, 119, 120, 82, 87, 115, 117, 32, 53, 32, 51, 32, 53, 32, 48], [101, 114, 114, 111, 114, 32, 51], [114, 119, 120, 82, 87, 115, 117, 32, 53, 32, 51, 32, 53, 32, 48]] := by kernel_rfl
theorem told_first : told firstK = [114, 119, 120, 82, 87, 115, 117, 32, 48, 32, 52, 48, 48, 32, 48, 32, 48] := by kernel_rfl
theorem run_new : runD [[110, 101, 119]] = [[114, 119, 120, 82, 87, 115, 117, 32, 48, 32, 52, 48, 48, 32, 48, 32, 48]] := by
  show [(lineF firstK wNew).2] = _
  rw [lineF_new, told_first]
theorem own_shapeD {w : World} {base : Nat} {T : TypeId} {v : Value} {xs : List ByteArray} (h : Own w base T v xs) : ∃ va vn vc, v = .slice va vn vc := by
  rcases h.form with ⟨rfl, _⟩ | ⟨g, cap, rfl, _⟩
  · exact ⟨_, _, _, rfl⟩
  · exact ⟨_, _, _, rfl⟩
theorem ba_self (s : ByteArray) : ba s.data.toList = s := ByteArray.ext (by simp [ba])
set_option maxHeartbeats 2000000 in
theorem eqs_Str (ao bo : Option Addr) (n c d : Nat) (xs : List ByteArray) (w : World) (hx : Sl w ao n xs) (hy : Sl w bo n xs) :
    Calls Tryz.prog 38 #[.slice ao n c, .slice bo n d] w fun e w' => e = .returned (.bool true) ∧ Below w.heap.size w w' := by
  have hlx := hx.len
  have hm := hx.max
  unfold maxLen at hm
  have g1 : ((n : Int) != (n : Int)) = false := by simp
  have HX := Lib.hid hx
  have HY := Lib.hid hy
  clear hx hy
  go_enter Tryz.func38, Tryz.ntmps38
  go_wp2
  go_loopw [14] (fun i wr => ∃ k : Nat, k ≤ n ∧ i = .int .i64 k ∧ Below w.heap.size w wr) (fun i _ => n - (intOf i).toNat)
  case atStart => exact ⟨0, Nat.zero_le _, rfl, Below.refl _ _⟩
  case round =>
    obtain ⟨k, hk, rfl, hb⟩ := hrel
    have HB := Lib.hid hb
    clear hb
    by_cases hlt : k < n
    · have q0 : (0 : Int) ≤ k := by omega
      have q1 : (k : Int) < n := by omega
      obtain ⟨x, hgx⟩ : ∃ x, xs[k]? = some x := ⟨_, List.getElem?_eq_getElem (by omega)⟩
      obtain ⟨ad, rfl, bx, e0⟩ := sl_str (HX.out.below HB.out) hlt hgx
      obtain ⟨bd, rfl, by_, g0⟩ := sl_str (HY.out.below HB.out) hlt hgx
      have q : (x.toList != x.toList) = false := by simp
      clear hgx
      go_wp2
      go_roundw
      case rel => exact ⟨k + 1, by omega, by go_num, HB.out⟩
      case measure => simp [intOf]; omega
    · have q1 : ¬ ((k : Int) < n) := by omega
      go_wp2
      go_ret
      exact ⟨rfl, HB.out⟩
/-- desk.Run, its answer told apart. -/
theorem run_good (ao : Option Addr) (n c : Nat) (l : List ByteArray) (outs : List ByteArray) (w : World) (he : PEnv w) (hl : Sl w ao n l) (hok : okLines (bysL l) = true) (ho : (runD (bysL l)).map ba = outs) :
    Calls Tryz.prog 37 #[.slice ao n c] w fun e w' => ∃ va vc, e = .returned (.tuple #[.slice va outs.length vc, .int .i64 0]) ∧ Sl w' va outs.length outs ∧ outs.length ≤ vc ∧ Below w.heap.size w w' := by
  refine (run_any ao n c l w he hl).mono ?_
  rintro e w' ⟨v, rfl, hown, hb⟩
  rw [if_pos hok] at hown
  rw [ho] at hown
  rw [if_pos hok]
  rcases hown.form with ⟨rfl, rfl⟩ | ⟨g, cap, rfl, _, _, hcap, _⟩
  · exact ⟨none, 0, rfl, Sl.nil _ _, Nat.le_refl _, hb⟩
  · obtain ⟨ao, cc, e1, hs, _⟩ := hown.sl
    injection e1 with e1 _ _
    subst e1
    exact ⟨_, _, rfl, hs, hcap, hb⟩
theorem run_bad (ao : Option Addr) (n c : Nat) (l : List ByteArray) (w : World) (he : PEnv w) (hl : Sl w ao n l) (hok : okLines (bysL l) = false) :
    Calls Tryz.prog 37 #[.slice ao n c] w fun e w' => ∃ va vc, e = .returned (.tuple #[.slice va 0 vc, .int .i64 2]) ∧ Below w.heap.size w w' := by
  refine (run_any ao n c l w he hl).mono ?_
  rintro e w' ⟨v, rfl, hown, hb⟩
  rw [if_neg (by rw [hok]; decide)] at hown
  rw [if_neg (by rw [hok]; decide)]
  rcases hown.form with ⟨rfl, _⟩ | ⟨g, cap, rfl, _, _, hcap, _⟩
  · exact ⟨none, 0, rfl, hb⟩
  · exact ⟨_, _, rfl, hb⟩
theorem runD_len (l : List ByteArray) : ((runD (bysL l)).map ba).length = l.length := by
  unfold runD bysL
  rw [List.length_map, outsF_len, List.length_map]
theorem run_some (ao : Option Addr) (n c : Nat) (l : List ByteArray) (w : World) (he : PEnv w) (hl : Sl w ao n l) :
    Calls Tryz.prog 37 #[.slice ao n c] w fun e w' => ∃ va N vc er, e = .returned (.tuple #[.slice va N vc, .int .i64 er]) ∧ Below w.heap.size w w' := by
  refine (run_any ao n c l w he hl).mono ?_
  rintro e w' ⟨v, rfl, hown, hb⟩
  obtain ⟨va, vn, vc, rfl⟩ := own_shapeD hown
  exact ⟨_, _, _, _, rfl, hb⟩
theorem run_goodN (ao : Option Addr) (n c : Nat) (l : List ByteArray) (outs : List ByteArray) (w : World) (he : PEnv w) (hl : Sl w ao n l) (hok : okLines (bysL l) = true) (ho : (runD (bysL l)).map ba = outs) :
    Calls Tryz.prog 37 #[.slice ao n c] w fun e w' => ∃ va vc, e = .returned (.tuple #[.slice va n vc, .int .i64 0]) ∧ Sl w' va n outs ∧ n ≤ vc ∧ Below w.heap.size w w' := by
  have h := run_good ao n c l outs w he hl hok ho
  have e : outs.length = n := by rw [← ho, runD_len, hl.len]
  rw [e] at h
  exact h
theorem okLines_app (a b : List Bys) (h : okLines (a ++ b) = true) : okLines a = true ∧ okLines b = true := by
  obtain ⟨h1, h2⟩ := (okLines_iff _).1 h
  rw [List.length_append] at h1
  exact ⟨(okLines_iff _).2 ⟨by omega, fun s hs => h2 s (List.mem_append_left _ hs)⟩, (okLines_iff _).2 ⟨by omega, fun s hs => h2 s (List.mem_append_right _ hs)⟩⟩
theorem run_take (a b : List ByteArray) : ((runD (bysL (a ++ b))).map ba).take a.length = (runD (bysL a)).map ba := by
  have e : bysL (a ++ b) = bysL a ++ bysL b := List.map_append
  unfold runD
  rw [e, outsF_app, List.map_append]
  exact List.take_left' (by rw [List.length_map, outsF_len]; unfold bysL; rw [List.length_map])
theorem sl_takeD {α : Type} [El α] {w : World} {ao : Option Addr} {n : Nat} {xs : List α} (h : Sl w ao n xs) {k : Nat} (hk : k ≤ n) : Sl w ao k (xs.take k) := by
  refine ⟨by rw [List.length_take, h.len]; omega, Nat.le_trans hk h.max, fun h0 => ?_⟩
  obtain ⟨a, e, hb, hc⟩ := h.row (by omega)
  refine ⟨a, e, hb, fun j u hu => hc j u ?_⟩
  rw [cls_take] at hu
  rcases Nat.lt_or_ge j (k * El.k α) with hj | hj
  · rwa [List.getElem?_take_of_lt hj] at hu
  · rw [List.getElem?_take_eq_none hj] at hu
    cases hu
end Go.Proofs.YtpjhjefjbkjhkaaGreatDoor
