/- The walk of HeapApart. -/
import Derived.Test.YtlbhnkbchiklnaaHeapAgain
namespace Go.Proofs.Ytlbhnkbchiklnaa
open Go.RowKit
set_option linter.unusedVariables false
set_option linter.unusedSimpArgs false
theorem hinv_key {base n : Int} {ps : List PieceV} {K : List KeyV} (h : HInv base n ps K) {q : KeyV} (hq : q ∈ K) : ∃ b s, q = gkey b s ∧ (⟨b, s, 1⟩ : PieceV) ∈ ps ∧ 1 ≤ s ∧ s ≤ 400 ∧ base ≤ b ∧ b + s ≤ base + n := by
  obtain ⟨⟨b, s⟩, hm, rfl⟩ := List.mem_map.1 (h.keys.subset hq)
  obtain ⟨p, hp, hs, e⟩ := mem_gl.1 hm
  have hmay := fun p hp => (mayB_iff.1 (hErr_may h.err p hp))
  obtain ⟨_, hle⟩ := cov_le h.cov (fun p hp => (hmay p hp).2.1)
  have h1 := hle p hp
  have h2 := hmay p hp
  obtain ⟨pb, pl, pst⟩ := p
  simp only at hs e h1 h2
  injection e with e1 e2
  subst e1 e2 hs
  exact ⟨pb, pl, rfl, hp, by omega, by omega, by omega, by omega⟩
theorem hinv_count {base n : Int} {ps : List PieceV} {K : List KeyV} (h : HInv base n ps K) : (gl ps).length = K.length := by
  have := h.keys.length_eq
  rw [List.length_map] at this
  exact this.symm
theorem hinv_apart {base n : Int} {ps : List PieceV} {K : List KeyV} (h : HInv base n ps K) {j k : Nat} {x q : KeyV} (hj : K[j]? = some x) (hk : K[k]? = some q) (hlt : j < k) : x.base + x.len ≤ q.base ∨ q.base + q.len ≤ x.base := by
  have hp := cov_apart h.cov (fun p hp => (mayB_iff.1 (hErr_may h.err p hp)).2.1)
  have h1 : ((gl ps).map gk).Pairwise (fun x q => x.base + x.len ≤ q.base ∨ q.base + q.len ≤ x.base) := List.pairwise_map.2 (hp.imp fun {a b} h => h)
  have h2 : K.Pairwise (fun x q => x.base + x.len ≤ q.base ∨ q.base + q.len ≤ x.base) := (h.keys.pairwise_iff (fun {a b} h => h.symm)).2 h1
  obtain ⟨l1, e1⟩ := List.getElem?_eq_some_iff.1 hj
  obtain ⟨l2, e2⟩ := List.getElem?_eq_some_iff.1 hk
  rw [← e1, ← e2]
  exact List.pairwise_iff_getElem.1 h2 j k l1 l2 hlt
theorem gl_snoc {ps : List PieceV} {k : Nat} {p : PieceV} (hp : ps[k]? = some p) : ((gl (ps.take (k + 1))).length : Int) = (gl (ps.take k)).length + if p.state = 1 then 1 else 0 := by
  have hk : k < ps.length := (List.getElem?_eq_some_iff.1 hp).1
  rw [List.take_succ_eq_append_getElem hk, gl_append, List.length_append]
  have e : ps[k] = p := (List.getElem?_eq_some_iff.1 hp).2
  rw [e, gl_cons]
  by_cases h : p.state = 1 <;> simp [h, gl]
theorem own_cap {α : Type} [El α] {w : World} {base : Nat} {T : TypeId} {ao : Option Addr} {n cap : Nat} {xs : List α} (h : Own w base T (.slice ao n cap) xs) : xs.length ≤ cap := by
  rcases h.form with ⟨e, rfl⟩ | ⟨g, c, e, _, _, h1, _⟩
  · simp
  · injection e with _ _ e
    omega
set_option maxHeartbeats 2000000 in
set_option maxRecDepth 100000 in
theorem heapApart_walk {w : World} (base n : Int) (l : SlV TurnV) (hbase : (Lit.int .i64 base).wf = true) (hn : (Lit.int .i64 n).wf = true) (hl : l.ok TurnV.wf w) :
    Calls Try.prog 10 #[.int .i64 base, .int .i64 n, l.val] w fun e w' => e = .returned (.bool true) ∧ Below w.heap.size w w' := by
  obtain ⟨ao, N, cap, ts⟩ := l
  obtain ⟨hsl, htw, _⟩ := hl
  simp only [SlV.val] at hsl htw ⊢
  have h0 : 0 ≤ base % 390 := by omega
  have h1 : base % 390 < 390 := by omega
  have h2 : 0 ≤ n % (400 - base % 390) := Int.emod_nonneg _ (by omega)
  have h3 : n % (400 - base % 390) < 400 - base % 390 := Int.emod_lt_of_pos _ (by omega)
  have rg := fun W => ranged_any base n W
  generalize n % (400 - base % 390) = r at *
  generalize base % 390 = b at *
  have hp := heaped_any b (r + 1) ao N cap ts w hsl htw h0 (by omega) (by omega) (by omega)
  have RG := Lib.hid rg
  have HP := Lib.hid hp
  clear rg hp hsl htw
  go_enter Try.func10, Try.ntmps10
  go_upto_region 3 with (first
    | (go_at_call 38; ((with_reducible refine (RG.out _).mono ?_); rintro e w' ⟨rfl, rfl⟩))
    | (go_at_call 39; ((with_reducible refine HP.out.mono ?_); rintro e w1 ⟨v, u, ps, K, rfl, hoh, hok, hinv, hb⟩; obtain ⟨hao, hcap, rfl, hsh, _⟩ := hoh.sl; obtain ⟨kao, kcap, rfl, hsk, _⟩ := hok.sl; have hkc := own_cap hok; have HSH := Lib.hid hsh; have HSK := Lib.hid hsk; have HIN := Lib.hid hinv; have HB := Lib.hid hb; have hkl := hinv.many; have hpos := hinv.pos (by omega); have hpl := hinv.len; clear hoh hok hinv hb hsh hsk)))
  have g0 : ((ps.length : Int) == 0) = false := beq_eq_false_iff_ne.2 (by omega)
  have ck := hcheck_any hao _ hcap ps w1 HSH.out
  rw [HIN.out.check] at ck
  have CK := Lib.hid ck
  clear ck
  go_wp2_with (go_at_call 40; ((with_reducible refine CK.out.mono ?_); rintro e w2 ⟨rfl, hb2⟩; have HB2 := Lib.hid hb2; clear hb2))
  go_loopw [10, 45] (fun m i wr => ∃ (k : Nat), k ≤ ps.length ∧ i = .int .i64 k ∧ m = .int .i64 ((gl (ps.take k)).length : Int) ∧ Below w.heap.size w wr ∧ Below w1.heap.size w1 wr) (fun _ i _ => ps.length - (intOf i).toNat)
  case atStart => exact ⟨0, Nat.zero_le _, rfl, rfl, ext_trans HB.out HB2.out, HB2.out⟩
  case round =>
    obtain ⟨k, hk, rfl, rfl, hbw, hb1⟩ := hrel
    have HBW := Lib.hid hbw
    have HB1 := Lib.hid hb1
    by_cases hlt : k < ps.length
    · obtain ⟨p, hp⟩ : ∃ p, ps[k]? = some p := ⟨_, List.getElem?_eq_getElem hlt⟩
      obtain ⟨ad, rfl, hab, e0, e1, e2⟩ := sl_piece (HSH.out.below hb1) hlt hp
      have hk63 : (k : Int) ≤ 100 := by omega
      have hsn := gl_snoc hp
      have hgl := gl_length (ps.take k)
      have hgt : (ps.take k).length ≤ k := List.length_take_le _ _
      have hgi : ((gl (ps.take k)).length : Int) ≤ 100 := by omega
      obtain ⟨pb, pl, pst⟩ := p
      simp only at e0 e1 e2 hsn
      have HC2 : ∃ c2 : Nat, (gl (ps.take (k + 1))).length = c2 := ⟨_, rfl⟩
      obtain ⟨c2, hc2⟩ := HC2
      rw [hc2] at hsn
      have HCC := Lib.hid hc2
      clear hc2
      generalize (gl (ps.take k)).length = c1 at *
      clear hp hbw hb1
      by_cases hst : pst = 1
      · have f0 : (pst == 1) = true := by simp [hst]
        rw [if_pos hst] at hsn
        have HSN := Lib.hid hsn
        clear hst hsn
        go_wp2
        go_roundw
        case rel => exact ⟨k + 1, by omega, by go_num, by rw [HCC.out, HSN.out], ext_alloc HBW.out _, ext_alloc HB1.out _⟩
        case measure => simp [intOf]; omega
      · have f0 : (pst == 1) = false := by simp [hst]
        rw [if_neg hst] at hsn
        have HSN := Lib.hid hsn
        clear hst hsn
        go_wp2
        go_roundw
        case rel => exact ⟨k + 1, by omega, by go_num, by rw [HCC.out, HSN.out]; simp, ext_alloc HBW.out _, ext_alloc HB1.out _⟩
        case measure => simp [intOf]; omega
    · have hnlt : ¬ ((k : Int) < ps.length) := by omega
      rw [List.take_of_length_le (by omega), hinv_count HIN.out]
      clear hbw hb1
      obtain ⟨wp, hwp⟩ : ∃ wp : World, wp = wr := ⟨_, rfl⟩
      subst hwp
      go_wp2
      go_loopw [57] (fun i wq => ∃ (k : Nat), k ≤ K.length ∧ i = .int .i64 k ∧ Below w.heap.size w wq ∧ Below w1.heap.size w1 wq) (fun i _ => K.length - (intOf i).toNat)
      case atStart => exact ⟨0, Nat.zero_le _, rfl, HBW.out, HB1.out⟩
      case round =>
        obtain ⟨k, hk, rfl, hbq, hq1⟩ := hrel
        have HBQ := Lib.hid hbq
        have HQ1 := Lib.hid hq1
        by_cases hlt : k < K.length
        · obtain ⟨q, hq⟩ : ∃ q, K[k]? = some q := ⟨_, List.getElem?_eq_getElem hlt⟩
          obtain ⟨gb, gs, rfl, hmem, y1, y2, y3, y4⟩ := hinv_key HIN.out (List.mem_of_getElem? hq)
          obtain ⟨ad, rfl, hab, e0, e1, e2, e3, e4⟩ := sl_keyA (HSK.out.below hq1) hlt hq
          have hap := fun (j : Nat) (x : KeyV) (hj : j < k) (hx : K[j]? = some x) => hinv_apart HIN.out hx hq hj
          simp only [gkey] at hap e0 e1 e2 e3 e4
          have hk63 : (k : Int) ≤ 100 := by omega
          have hsp := fun W h => has_piece hao ps.length hcap ps ⟨gb, gs, 1⟩ W h
          simp only [hmem, decide_true, PieceV.val] at hsp
          have HAS := Lib.hid hsp
          have HAP := Lib.hid hap
          have hkc1 : (k : Int) ≤ (kcap : Int) := by omega
          have hkc2 : k ≤ kcap := by omega
          have hkc3 : ¬ (kcap = 0) := by omega
          have z0 : decide (gs < 1) = false := by simp; omega
          have z1 : decide (gb < b) = false := by simp; omega
          have z2 : decide (b + (r + 1) < gb + gs) = false := by simp; omega
          have z3 : (gb != gb) = false := by simp
          clear hsp hap hmem hq hbq hq1
          go_wp2_with (go_at_call 41; ((with_reducible refine (HAS.out _ ((HSH.out.below HQ1.out).alloc _)).mono ?_); rintro e w3 ⟨rfl, hb3⟩; have kB : Bk w3 wr.heap.size 24 #[.int .i64 27, .int .i64 gb, .int .i64 gs, .int .i64 gb, .int .i64 0] := bk_keep hb3 (bk_new _ _ _); have HB3 := Lib.hid hb3; clear hb3))
          have HKB := Lib.hid kB
          have HW3 := Lib.hid (show Below w.heap.size w w3 from ext_trans (ext_alloc HBQ.out _) HB3.out)
          have HV3 := Lib.hid (show Below w1.heap.size w1 w3 from ext_trans (ext_alloc HQ1.out _) HB3.out)
          clear kB
          obtain ⟨wo, hwo⟩ : ∃ wo : World, wo = wr := ⟨_, rfl⟩
          subst hwo
          go_loopw [108] (fun i wi => ∃ (j : Nat), j ≤ k ∧ i = .int .i64 j ∧ Bk wi wo.heap.size 24 #[.int .i64 27, .int .i64 gb, .int .i64 gs, .int .i64 gb, .int .i64 0] ∧ Below w.heap.size w wi ∧ Below w1.heap.size w1 wi) (fun i _ => k - (intOf i).toNat)
          case atStart => exact ⟨0, Nat.zero_le _, rfl, HKB.out, HW3.out, HV3.out⟩
          case round =>
            obtain ⟨j, hj, rfl, kB, hbi, hi1⟩ := hrel
            have HBI := Lib.hid hbi
            have HI1 := Lib.hid hi1
            by_cases hjlt : j < k
            · obtain ⟨x, hx⟩ : ∃ x, K[j]? = some x := ⟨_, List.getElem?_eq_getElem (by omega)⟩
              obtain ⟨xb, xs, rfl, _, x1, x2, x3, x4⟩ := hinv_key HIN.out (List.mem_of_getElem? hx)
              obtain ⟨ad', ead, hab', e0', e1', e2', e3', e4'⟩ := sl_keyA (HSK.out.below hi1) (show j < K.length by omega) hx
              injection ead with ead
              subst ead
              have ha := HAP.out j _ hjlt hx
              simp only [gkey] at ha e0' e1' e2' e3' e4'
              obtain ⟨k0, k1, k2, k3, k4⟩ := cells5 kB
              have kL := kB.lt
              have hj63 : (j : Int) ≤ 100 := by omega
              clear hx hbi hi1
              by_cases hc : gb < xb + xs
              · have hc2 : ¬ (xb < gb + gs) := by omega
                clear ha
                go_wp2
                go_roundw
                case rel => exact ⟨j + 1, by omega, by go_num, bk_old _ kB, ext_alloc HBI.out _, ext_alloc HI1.out _⟩
                case measure => simp [intOf]; omega
              · clear ha
                go_wp2
                go_roundw
                case rel => exact ⟨j + 1, by omega, by go_num, bk_old _ kB, ext_alloc HBI.out _, ext_alloc HI1.out _⟩
                case measure => simp [intOf]; omega
            · have hnj : ¬ ((j : Int) < (k : Int)) := by omega
              clear hbi hi1
              go_wp2
              go_roundw
              case rel => exact ⟨k + 1, by omega, by go_num, HBI.out, HI1.out⟩
              case measure => simp [intOf]; omega
        · have hnk : ¬ ((k : Int) < K.length) := by omega
          have g9 : ((K.length : Int) == (K.length : Int)) = true := by simp
          clear hbq hq1
          go_wp2
          go_ret
          exact ⟨rfl, HBQ.out⟩
end Go.Proofs.Ytlbhnkbchiklnaa
