import Derived.BigRegion
import Derived.Deep.DeepCutAuto
import Derived.Deep.RegionLaw
import Derived.Test.YtpjhjefjbkjhkaaGreatDoorBuDb
import Derived.Test.YtpjhjefjbkjhkaaGreatDoorLiftBulkZ
/- Lines that end in an error are of no matter to others. -/
namespace Go.Proofs.YtpjhjefjbkjhkaaGreatDoor
open Go Go.RowKit Go.Shelf
set_option linter.unusedVariables false
set_option linter.unusedSimpArgs false
abbrev NWE : ByteArray := ⟨#[110, 101, 119]⟩
abbrev NWO : ByteArray := ⟨#[114, 119, 120, 82, 87, 115, 117, 32, 48, 32, 52, 48, 48, 32, 48, 32, 48]⟩
theorem errs_ok : okLines (bysL [NWE]) = true := by decide
theorem errs_run : (runD (bysL [NWE])).map ba = [NWO] := by
  show (runD [[110, 101, 119]]).map ba = _
  rw [run_new]
  rfl
section
variable {α β : Type} [El α] [El β] {w w5 w6 : World} {b1 b2 : Nat} {T T' : TypeId} {va vb v5 v6 : Value} {xs xs' : List α} {ys ys' : List β} {o o' : Obj}
/-- Two rows apart: the one grows, the other stays. -/
theorem tw_keep (hy : Own w b2 T' vb ys) (hd : ∀ g, va.ownBlock = some g → vb.ownBlock ≠ some g) (hg : (w.alloc o).grownBy w5 va.ownBlock) : Own w5 b2 T' vb ys :=
  (FrE.grown (S := fun j => va.ownBlock = some j) hg (fun k e => .inl e)).own (hy.alloc o) (fun g e h => hd g h e)
theorem tw_both (hx : Own w b1 T va xs) (hy : Own w b2 T' vb ys) (hd : ∀ g, va.ownBlock = some g → vb.ownBlock ≠ some g) (hg : (w.alloc o).grownBy w5 va.ownBlock) (ha : v5.ownBlock = va.ownBlock ∨ v5.ownBlock = some (w.alloc o).heap.size)
    (hx5 : Own w5 b1 T v5 xs') (hy5 : Own w5 b2 T' vb ys) (hg6 : (w5.alloc o').grownBy w6 vb.ownBlock) (ha6 : v6.ownBlock = vb.ownBlock ∨ v6.ownBlock = some (w5.alloc o').heap.size) (hy6 : Own w6 b2 T' v6 ys') :
    (∀ g, v5.ownBlock = some g → v6.ownBlock ≠ some g) ∧ Own w6 b1 T v5 xs' := by
  have hd5 : ∀ g, v5.ownBlock = some g → vb.ownBlock ≠ some g := by
    intro g h5 hb
    rcases ha with e | e
    · rw [e] at h5; exact hd g h5 hb
    · rw [e] at h5
      injection h5 with h5
      have := (own_ltD hy hb).2
      rw [World.size_alloc] at h5
      omega
  refine ⟨fun g h5 h6 => ?_, (FrE.grown (S := fun j => vb.ownBlock = some j) hg6 (fun k e => .inl e)).own (hx5.alloc o') (fun g e h => hd5 g e h)⟩
  rcases ha6 with e | e
  · rw [e] at h6; exact hd5 g h5 h6
  · rw [e] at h6
    injection h6 with h6
    have := (own_ltD hx5 h5).2
    rw [World.size_alloc] at h6
    omega
end
theorem isErr_ba (y : Bys) : isErr y = true ↔ 6 ≤ (ba y).size ∧ ((ba y).extract 0 6).data.toList = errP := by
  have hs : (ba y).size = y.length := ba_len y
  unfold isErr
  rw [decide_eq_true_iff, ext_toL, hs]
  show y.take 6 = errP ↔ _ ∧ (y.take 6).drop 0 = errP
  rw [List.drop_zero]
  constructor
  · intro h
    refine ⟨?_, h⟩
    have := congrArg List.length h
    rw [List.length_take] at this
    have h6 : errP.length = 6 := rfl
    omega
  · exact fun h => h.2
set_option maxHeartbeats 4000000 in
set_option maxRecDepth 100000 in
theorem deskErrors_walk (x : SlV ByteArray) (w : World) (hx : x.ok (fun s => s.size ≤ maxLen) w) (he : PEnv w) :
    Calls Tryz.prog 9 #[x.val] w fun e w' => e = .returned (.bool true) ∧ Below w.heap.size w w' := by
  obtain ⟨ao, n, c, xs⟩ := x
  obtain ⟨hxs, _, hle⟩ := hx
  simp only [SlV.val] at hxs hle ⊢
  have hn := hxs.len
  have XA := Lib.hid hxs
  have HE := Lib.hid he
  clear hxs he hle
  obtain ⟨i0, i1, z0, z1, z2⟩ := info_parts info_strJ
  have HN := Lib.hid hn
  have c1 : Below w.heap.size w (w.alloc (.cells #[.string NWE] 9)) := ext_alloc (Below.refl _ _) _
  have F1 := Lib.hid (run_good (some ⟨w.heap.size, 0, none⟩) 1 1 [NWE] [NWO] (w.alloc (.cells #[.string NWE] 9)) (HE.out.below c1) (lit_slD #[.string NWE] [NWE] (by simp) rfl) errs_ok errs_run)
  have C1 := Lib.hid c1
  clear c1 hn
  go_enter Tryz.func9, Tryz.ntmps9
  go_upto_region 4 with (first
    | (go_at_call 37; ((with_reducible refine (F1.out).mono ?_); rintro e w2 ⟨va2, vc2, rfl, hs2, hc2, hb2⟩; have S2 := Lib.hid hs2; have C2 := Lib.hid hc2; have HB2 := Lib.hid (ext_trans C1.out hb2); clear hs2 hc2 hb2))
    | (go_at_call 38; ((with_reducible refine (eqs_Str va2 (some ⟨w2.heap.size, 0, none⟩) 1 vc2 1 [NWO] _ (S2.out.below (ext_alloc (Below.refl _ _) _)) (lit_slD #[.string NWO] [NWO] (by simp) rfl)).mono ?_); rintro e w3 ⟨rfl, hb3⟩; have HB3 := Lib.hid (ext_trans (ext_alloc HB2.out _) hb3); clear hb3)))
  cases hok : okLines (bysL xs) with
  | false =>
    have R4 := Lib.hid (run_bad ao n c xs w3 (HE.out.below HB3.out) (XA.out.below HB3.out) hok)
    clear hok
    go_wp2_with (go_at_call 37; ((with_reducible refine (R4.out).mono ?_); rintro e w4 ⟨va4, vc4, rfl, hb4⟩; have HB4 := Lib.hid (ext_trans HB3.out hb4); clear hb4))
    go_ret
    exact ⟨rfl, HB4.out⟩
  | true =>
    obtain ⟨O, hO⟩ : ∃ O, (runD (bysL xs)).map ba = O := ⟨_, rfl⟩
    have R4 := Lib.hid (run_goodN ao n c xs O w3 (HE.out.below HB3.out) (XA.out.below HB3.out) hok hO)
    have hn60 : n ≤ 60 := by
      have h := ((okLines_iff _).1 hok).1
      unfold bysL at h
      rw [List.length_map, HN.out] at h
      exact h
    have HOK := Lib.hid hok
    have HO := Lib.hid hO
    clear hok hO
    go_upto_region 9 with (go_at_call 37; ((with_reducible refine (R4.out).mono ?_); rintro e w4 ⟨va4, vc4, rfl, hs4, hc4, hb4⟩; have S4 := Lib.hid hs4; have C4 := Lib.hid hc4; have HB4 := Lib.hid (ext_trans HB3.out hb4); clear hs4 hc4 hb4))
    go_loopw [7, 8, 38] (fun v7 v8 i wr => ∃ (k : Nat) (G Wt : List ByteArray), k ≤ n ∧ i = .int .i64 k ∧ G.length ≤ k ∧ Wt.length ≤ k ∧ bysL G = goodF lineF isErr firstK ((bysL xs).take k) ∧ Wt = (((runD (bysL xs)).take k).filter (fun y => !isErr y)).map ba ∧ Own wr w4.heap.size 9 v7 G ∧ Own wr w4.heap.size 9 v8 Wt ∧ (∀ g, v7.ownBlock = some g → v8.ownBlock ≠ some g) ∧ Below w4.heap.size w4 wr) (fun _ _ i _ => n - (intOf i).toNat)
    case atStart => exact ⟨0, [], [], Nat.zero_le _, rfl, Nat.le_refl _, Nat.le_refl _, rfl, rfl, Own.nil _ _ _, Own.nil _ _ _, (fun g h => by simp [Value.ownBlock] at h), Below.refl _ _⟩
    case round =>
      obtain ⟨k, G, Wt, hk, rfl, hGl, hWl, hG, hW, hog, how, hdj, hbe⟩ := hrel
      by_cases hlt : k < n
      · have q0 : (0 : Int) ≤ k := by omega
        have q1 : (k : Int) < n := by omega
        have hlB : (bysL xs).length = n := by unfold bysL; rw [List.length_map, HN.out]
        have hlR : (runD (bysL xs)).length = n := by unfold runD; rw [outsF_len]; exact hlB
        obtain ⟨x, hgx⟩ : ∃ x, O[k]? = some x := ⟨_, List.getElem?_eq_getElem (by rw [← HO.out, List.length_map]; omega)⟩
        obtain ⟨y, hgy⟩ : ∃ y, xs[k]? = some y := ⟨_, List.getElem?_eq_getElem (by rw [HN.out]; exact hlt)⟩
        obtain ⟨ad, rfl, bx, e0⟩ := sl_str (S4.out.below hbe) hlt hgx
        obtain ⟨bd, hbd, by_, f0⟩ := sl_str (XA.out.below (ext_trans HB4.out hbe)) hlt hgy
        subst hbd
        obtain ⟨yo, hyo⟩ : ∃ yo, (runD (bysL xs))[k]? = some yo := ⟨_, List.getElem?_eq_getElem (by omega)⟩
        have hxy : x = ba yo := by
          have h := hgx
          rw [← HO.out, List.getElem?_map, hyo] at h
          injection h with h
          exact h.symm
        have hyl : (bysL xs)[k]? = some y.data.toList := by unfold bysL; rw [List.getElem?_map, hgy]; rfl
        have hGn : goodF lineF isErr firstK ((bysL xs).take (k + 1)) = bysL G ++ (if isErr yo = true then [] else [y.data.toList]) := by
          have hk1 : k < (bysL xs).length := by omega
          have h := goodF_take lineF isErr (bysL xs) firstK k hk1
          rw [h, ← hG]
          have h1 : (outsF lineF firstK (bysL xs))[k]'(by rw [outsF_len]; exact hk1) = yo := by
            have h2 := (List.getElem?_eq_some_iff.1 hyo).2
            exact h2
          have h3 : (bysL xs)[k]'hk1 = y.data.toList := (List.getElem?_eq_some_iff.1 hyl).2
          rw [h1, h3]
        have hWn : (((runD (bysL xs)).take (k + 1)).filter (fun y => !isErr y)).map ba = Wt ++ (if isErr yo = true then [] else [x]) := by
          rw [take_nextD hyo, List.filter_append, List.map_append, ← hW, hxy]
          congr 1
          show (List.filter (fun y => !isErr y) [yo]).map ba = _
          rw [List.filter_cons, List.filter_nil]
          cases isErr yo <;> rfl
        have HGN := Lib.hid hGn
        have HWN := Lib.hid hWn
        cases hbad : isErr yo with
        | true =>
          have hb2 := (isErr_ba yo).1 hbad
          rw [← hxy] at hb2
          rw [hbad, if_pos rfl, List.append_nil] at hGn hWn
          have p1 : ¬ ((x.size : Int) < 6) := by omega
          have p2 : 6 ≤ x.size := hb2.1
          have p3 : (6 : Int) ≤ (x.size : Int) := by omega
          have p4 : ((x.extract 0 6).toList == [101, 114, 114, 111, 114, 32]) = true := by
            rw [ByteArray.toList_eq, hb2.2]
            rfl
          have HGN := Lib.hid hGn
          have HWN := Lib.hid hWn
          have OG := Lib.hid hog
          have OW := Lib.hid how
          have DJ := Lib.hid hdj
          have HBE := Lib.hid hbe
          clear hGn hWn hog how hdj hbe hbad hb2 hxy hyl hgx hgy hyo hG hW
          go_wp2
          go_roundw
          case rel => exact ⟨k + 1, G, Wt, by omega, by go_num, by omega, by omega, HGN.out.symm, HWN.out.symm, OG.out, OW.out, DJ.out, HBE.out⟩
          case measure => simp [intOf]; omega
        | false =>
          have hb2 : ¬ (6 ≤ x.size ∧ (x.extract 0 6).data.toList = errP) := by
            rw [hxy]
            intro h
            rw [(isErr_ba yo).2 h] at hbad
            cases hbad
          rw [hbad, if_neg (by decide)] at hGn hWn
          obtain ⟨va8, vn8, vc8, rfl⟩ := own_shapeD hog
          obtain ⟨va9, vn9, vc9, rfl⟩ := own_shapeD how
          have hG2 : bysL (G ++ [y]) = goodF lineF isErr firstK ((bysL xs).take (k + 1)) := by rw [bys_snoc, hGn]
          have HGN := Lib.hid hG2
          have HWN := Lib.hid hWn
          have OG := Lib.hid hog
          have OW := Lib.hid how
          have DJ := Lib.hid hdj
          have HBE := Lib.hid hbe
          have HBZ := Lib.hid hbe.size
          have QG1 := Lib.hid (show G.length + 1 ≤ maxLen by unfold maxLen; omega)
          have QG2 := Lib.hid (show (G.length + 1) * 16 ≤ 140737488355328 by omega)
          have QW1 := Lib.hid (show Wt.length + 1 ≤ maxLen by unfold maxLen; omega)
          have QW2 := Lib.hid (show (Wt.length + 1) * 16 ≤ 140737488355328 by omega)
          have f0W := Lib.hid f0
          have REL := Lib.hid (show (G ++ [y]).length ≤ k + 1 ∧ (Wt ++ [x]).length ≤ k + 1 by rw [List.length_append, List.length_append, List.length_singleton, List.length_singleton]; omega)
          clear hGn hWn hG2 hog how hdj hbe hbad hxy hyl hgx hgy hyo hG hW hGl hWl
          by_cases p1 : (x.size : Int) < 6
          · clear hb2
            go_wp2_with (first
              | (at_builtin; refine wpList_append_sl (α := ByteArray) rfl (.tmp 51) (.tmp 56) 80 rfl w4.heap.size 9 i0 _ 16 Tryz.underlying80 i1 z0 z1 z2 rfl (.slice va8 vn8 vc8) G rfl (OG.out.alloc _) (some ⟨wr.heap.size, 0, none⟩) 1 1 [y] rfl (lit_slD #[.string y] [y] (by simp) rfl) QG1.out QG2.out (by rw [World.size_alloc]; have := HBZ.out; omega) ?_; intro v5 w5 ho5 hg5 ha5; have O5 := Lib.hid ho5; have HG5 := Lib.hid hg5; have HA5 := Lib.hid ha5; obtain ⟨va5, vn5, vc5, rfl⟩ := own_shapeD ho5; have OW5 := Lib.hid (tw_keep OW.out DJ.out hg5); have B5 := Lib.hid ((ext_alloc HBE.out _).grown hg5 (by rw [World.size_alloc]; have := HBZ.out; omega) (fun k e => (own_ltD OG.out e).1)); clear ho5 hg5 ha5)
              | (at_builtin; refine wpList_append_sl (α := ByteArray) rfl (.tmp 58) (.tmp 60) 80 rfl w4.heap.size 9 i0 _ 16 Tryz.underlying80 i1 z0 z1 z2 rfl (.slice va9 vn9 vc9) Wt rfl (OW5.out.alloc _) (some ⟨w5.heap.size, 0, none⟩) 1 1 [x] rfl (lit_slD #[.string x] [x] (by simp) rfl) QW1.out QW2.out (by rw [World.size_alloc]; have := B5.out.size; omega) ?_; intro v6 w6 ho6 hg6 ha6; obtain ⟨hd6, hk6⟩ := tw_both OG.out OW.out DJ.out HG5.out HA5.out O5.out OW5.out hg6 ha6 ho6; have O6 := Lib.hid ho6; have D6 := Lib.hid hd6; have K6 := Lib.hid hk6; have B6 := Lib.hid ((ext_alloc B5.out _).grown hg6 (by rw [World.size_alloc]; have := B5.out.size; omega) (fun k e => (own_ltD OW5.out e).1)); clear ho6 hg6 ha6 hd6 hk6))
            go_roundw
            case rel => exact ⟨k + 1, G ++ [y], Wt ++ [x], by omega, by go_num, REL.out.1, REL.out.2, HGN.out, HWN.out.symm, K6.out, O6.out, D6.out, B6.out⟩
            case measure => simp [intOf]; omega
          · have p2 : 6 ≤ x.size := by omega
            have p3 : (6 : Int) ≤ (x.size : Int) := by omega
            have p4 : ((x.extract 0 6).toList == [101, 114, 114, 111, 114, 32]) = false := by
              rw [ByteArray.toList_eq]
              have h : (x.extract 0 6).data.toList ≠ errP := fun h => hb2 ⟨p2, h⟩
              exact beq_false_of_ne h
            clear hb2
            go_wp2_with (first
              | (at_builtin; refine wpList_append_sl (α := ByteArray) rfl (.tmp 51) (.tmp 56) 80 rfl w4.heap.size 9 i0 _ 16 Tryz.underlying80 i1 z0 z1 z2 rfl (.slice va8 vn8 vc8) G rfl (OG.out.alloc _) (some ⟨wr.heap.size, 0, none⟩) 1 1 [y] rfl (lit_slD #[.string y] [y] (by simp) rfl) QG1.out QG2.out (by rw [World.size_alloc]; have := HBZ.out; omega) ?_; intro v5 w5 ho5 hg5 ha5; have O5 := Lib.hid ho5; have HG5 := Lib.hid hg5; have HA5 := Lib.hid ha5; obtain ⟨va5, vn5, vc5, rfl⟩ := own_shapeD ho5; have OW5 := Lib.hid (tw_keep OW.out DJ.out hg5); have B5 := Lib.hid ((ext_alloc HBE.out _).grown hg5 (by rw [World.size_alloc]; have := HBZ.out; omega) (fun k e => (own_ltD OG.out e).1)); clear ho5 hg5 ha5)
              | (at_builtin; refine wpList_append_sl (α := ByteArray) rfl (.tmp 58) (.tmp 60) 80 rfl w4.heap.size 9 i0 _ 16 Tryz.underlying80 i1 z0 z1 z2 rfl (.slice va9 vn9 vc9) Wt rfl (OW5.out.alloc _) (some ⟨w5.heap.size, 0, none⟩) 1 1 [x] rfl (lit_slD #[.string x] [x] (by simp) rfl) QW1.out QW2.out (by rw [World.size_alloc]; have := B5.out.size; omega) ?_; intro v6 w6 ho6 hg6 ha6; obtain ⟨hd6, hk6⟩ := tw_both OG.out OW.out DJ.out HG5.out HA5.out O5.out OW5.out hg6 ha6 ho6; have O6 := Lib.hid ho6; have D6 := Lib.hid hd6; have K6 := Lib.hid hk6; have B6 := Lib.hid ((ext_alloc B5.out _).grown hg6 (by rw [World.size_alloc]; have := B5.out.size; omega) (fun k e => (own_ltD OW5.out e).1)); clear ho6 hg6 ha6 hd6 hk6))
            go_roundw
            case rel => exact ⟨k + 1, G ++ [y], Wt ++ [x], by omega, by go_num, REL.out.1, REL.out.2, HGN.out, HWN.out.symm, K6.out, O6.out, D6.out, B6.out⟩
            case measure => simp [intOf]; omega
      · have q1 : ¬ ((k : Int) < n) := by omega
        obtain rfl : k = n := by omega
        have hlB : (bysL xs).length = k := by unfold bysL; rw [List.length_map, HN.out]
        have hlR : (runD (bysL xs)).length = k := by unfold runD; rw [outsF_len]; exact hlB
        have hG2 : bysL G = goodF lineF isErr firstK (bysL xs) := by rw [hG, ← hlB, List.take_length]
        have hW2 : (runD (bysL G)).map ba = Wt := by
          rw [hW, ← hlR, List.take_length, hG2]
          unfold runD
          rw [goodF_outs lineF isErr lineF_err]
        have hgok : okLines (bysL G) = true := by
          rw [hG2]
          obtain ⟨h1, h2⟩ := (okLines_iff _).1 HOK.out
          exact (okLines_iff _).2 ⟨Nat.le_trans (goodF_len _ _ _ _) h1, fun s hs => h2 s (goodF_mem _ _ _ _ s hs)⟩
        obtain ⟨va8, vc8, rfl, hsg, _⟩ := hog.sl
        obtain ⟨va9, vc9, rfl, hsw, _⟩ := how.sl
        have hbw := ext_trans HB4.out hbe
        have R5 := Lib.hid (run_good va8 G.length vc8 G Wt wr (HE.out.below hbw) hsg hgok hW2)
        have SW := Lib.hid hsw
        have HBW := Lib.hid hbw
        clear hG hW hog how hdj hbe hG2 hW2 hgok hsg hsw hbw
        go_wp2_with (first
          | (go_at_call 37; ((with_reducible refine (R5.out).mono ?_); rintro e w5 ⟨va5, vc5, rfl, hs5, hc5, hb5⟩; have S5 := Lib.hid hs5; have C5 := Lib.hid hc5; have HB5 := Lib.hid (ext_trans HBW.out hb5); have SW5 := Lib.hid (SW.out.below hb5); clear hs5 hc5 hb5))
          | (go_at_call 38; ((with_reducible refine (eqs_Str va5 va9 Wt.length vc5 vc9 Wt _ S5.out SW5.out).mono ?_); rintro e w6 ⟨rfl, hb6⟩; have HB6 := Lib.hid (ext_trans HB5.out hb6); clear hb6)))
        go_ret
        exact ⟨rfl, HB6.out⟩
end Go.Proofs.YtpjhjefjbkjhkaaGreatDoor
