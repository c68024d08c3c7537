/- The walk of HeapHolds. -/
import Derived.Test.YtlbhnkbchiklnaaHeapWhole
import Derived.Test.YtlbhnkbchiklnaaHeapLaw
namespace Go.Proofs.Ytlbhnkbchiklnaa
open Go.RowKit
set_option linter.unusedVariables false
set_option linter.unusedSimpArgs false
set_option maxHeartbeats 2000000 in
set_option maxRecDepth 100000 in
theorem heapHolds_walk {w : World} (base n : Int) (l : SlV TurnV) (sz : Int) (hbase : (Lit.int .i64 base).wf = true) (hn : (Lit.int .i64 n).wf = true) (hl : l.ok TurnV.wf w) (hsz : (Lit.int .i64 sz).wf = true) :
    Calls Try.prog 13 #[.int .i64 base, .int .i64 n, l.val, .int .i64 sz] w fun e w' => e = .returned (.bool true) ∧ Below w.heap.size w w' := by
  obtain ⟨ao, N, cap, ts⟩ := l
  obtain ⟨hsl, htw, _⟩ := hl
  simp only [SlV.val] at hsl htw ⊢
  have h0 : 0 ≤ base % 390 := by omega
  have h1 : base % 390 < 390 := by omega
  have h2 : 0 ≤ n % (400 - base % 390) := Int.emod_nonneg _ (by omega)
  have h3 : n % (400 - base % 390) < 400 - base % 390 := Int.emod_lt_of_pos _ (by omega)
  have rg := fun W => ranged_any base n W
  generalize n % (400 - base % 390) = r at *
  generalize base % 390 = b at *
  have hp := heaped_any b (r + 1) ao N cap ts w hsl htw h0 (by omega) (by omega) (by omega)
  have rs := fun W => rest_any sz 20 W (by decide) (by decide)
  have s0 : 0 ≤ sz % 20 := by omega
  have s1 : sz % 20 < 20 := by omega
  generalize sz % 20 = s at *
  have RG := Lib.hid rg
  have RS := Lib.hid rs
  have HP := Lib.hid hp
  clear rg hp hsl htw rs
  go_enter Try.func13, Try.ntmps13
  go_upto_region 3 with (first
    | (go_at_call 38; ((with_reducible refine (RG.out _).mono ?_); rintro e w' ⟨rfl, rfl⟩))
    | (go_at_call 39; ((with_reducible refine HP.out.mono ?_); rintro e w1 ⟨v, u, ps, K, rfl, hoh, hok, hinv, hb⟩; obtain ⟨hao, hcap, rfl, hsh, _⟩ := hoh.sl; have HSH := Lib.hid hsh; have HIN := Lib.hid hinv; have HB := Lib.hid hb; have hpos := hinv.pos (by omega); clear hoh hok hinv hb hsh)))
  have g0 : ((ps.length : Int) == 0) = false := beq_eq_false_iff_ne.2 (by omega)
  have gv0 := hgive_any hao _ hcap ps (s + 1) w1 HSH.out ⟨by omega, by omega⟩
  unfold GivePost at gv0
  rcases give_cases (sz := s + 1) HIN.out (by omega) with ⟨m, gb, e, hv⟩ | ⟨e, hv⟩ | ⟨e, h30⟩
  · have hap := fun p hp hst => give_apart HIN.out (sz := s + 1) (by omega) hv (p := p) hp hst
    obtain ⟨_, _, _, _, hgb0, hgb1⟩ := gv_ok (by omega) HIN.out.err HIN.out.cov hv
    have HAP := Lib.hid hap
    clear hap hv
    rw [e] at gv0
    simp only [gkey, zeroK, KeyV.val] at gv0
    have GV := Lib.hid gv0
    clear gv0 e
    go_wp2_with (first
      | (go_at_call 19; ((with_reducible refine (RS.out _).mono ?_); rintro e w' ⟨rfl, rfl⟩))
      | (go_at_call 45; ((with_reducible refine GV.out.mono ?_); rintro e w2 ⟨v2, rfl, _, hb2⟩; have HB2 := Lib.hid hb2; clear hb2)))
    go_loopw [50] (fun i wr => ∃ k : Nat, k ≤ ps.length ∧ i = .int .i64 k ∧ Bk wr w2.heap.size 24 #[.int .i64 27, .int .i64 gb, .int .i64 ((s + 1)), .int .i64 gb, .int .i64 0] ∧ Below w.heap.size w wr ∧ Below w1.heap.size w1 wr) (fun i _ => ps.length - (intOf i).toNat)
    case atStart => exact ⟨0, Nat.zero_le _, rfl, by repeat (first | with_reducible assumption | with_reducible exact bk_new _ _ _ | with_reducible apply bk_set' | rfl), ext_trans HB.out (by repeat (first | with_reducible exact HB2.out | with_reducible refine ext_set ?_ (by have := HB2.out.size; first | omega | (simp; omega)) _ | with_reducible refine ext_alloc ?_ _)), by repeat (first | with_reducible exact HB2.out | with_reducible refine ext_set ?_ (by have := HB2.out.size; first | omega | (simp; omega)) _ | with_reducible refine ext_alloc ?_ _)⟩
    case round =>
      obtain ⟨k, hk, rfl, kB, hbw, hb1⟩ := hrel
      obtain ⟨k0, k1, k2, k3, k4⟩ := cells5 kB
      have kL := kB.lt
      have HBW := Lib.hid hbw
      by_cases hlt : k < ps.length
      · obtain ⟨p, hp⟩ : ∃ p, ps[k]? = some p := ⟨_, List.getElem?_eq_getElem hlt⟩
        obtain ⟨y0, y1, y2, y3, _, _⟩ := mayB_iff.1 (hErr_may HIN.out.err p (List.mem_of_getElem? hp))
        obtain ⟨ad, rfl, hab, e0, e1, e2⟩ := sl_piece (HSH.out.below hb1) hlt hp
        have hmem := List.mem_of_getElem? hp
        have HB1 := Lib.hid hb1
        have hk63 : (k : Int) ≤ 100 := by have := HIN.out.len; omega
        by_cases hst : p.state = 0
        · obtain ⟨pb, pl, pst⟩ := p
          simp only at y0 y1 y2 y3 e0 e1 e2 hst
          subst hst
          clear hp hbw hb1 hmem
          go_wp2
          go_roundw
          case rel => exact ⟨k + 1, by omega, by go_num, bk_old _ kB, ext_alloc HBW.out _, ext_alloc HB1.out _⟩
          case measure => simp [intOf]; omega
        · have ha := HAP.out p hmem hst
          obtain ⟨pb, pl, pst⟩ := p
          simp only at y0 y1 y2 y3 e0 e1 e2 hst ha
          have f0 : (pst != 0) = true := by simp [hst]
          clear hp hbw hb1 hmem hst
          rcases ha with ha | ha
          · go_wp2
            go_roundw
            case rel => exact ⟨k + 1, by omega, by go_num, bk_old _ kB, ext_alloc HBW.out _, ext_alloc HB1.out _⟩
            case measure => simp [intOf]; omega
          · have hx : gb < pb + pl := by omega
            go_wp2
            go_roundw
            case rel => exact ⟨k + 1, by omega, by go_num, bk_old _ kB, ext_alloc HBW.out _, ext_alloc HB1.out _⟩
            case measure => simp [intOf]; omega
      · have hnlt : ¬ ((k : Int) < ps.length) := by omega
        clear hbw hb1
        skip
        go_wp2
        go_ret
        exact ⟨rfl, HBW.out⟩
  · have hap := gv_none hv
    have HAP := Lib.hid hap
    clear hap hv
    rw [e] at gv0
    simp only [gkey, zeroK, KeyV.val] at gv0
    have GV := Lib.hid gv0
    clear gv0 e
    go_wp2_with (first
      | (go_at_call 19; ((with_reducible refine (RS.out _).mono ?_); rintro e w' ⟨rfl, rfl⟩))
      | (go_at_call 45; ((with_reducible refine GV.out.mono ?_); rintro e w2 ⟨v2, rfl, _, hb2⟩; have HB2 := Lib.hid hb2; clear hb2)))
    go_loopw [50] (fun i wr => ∃ k : Nat, k ≤ ps.length ∧ i = .int .i64 k ∧ Bk wr w2.heap.size 24 #[.int .i64 0, .int .i64 0, .int .i64 0, .int .i64 0, .int .i64 0] ∧ Below w.heap.size w wr ∧ Below w1.heap.size w1 wr) (fun i _ => ps.length - (intOf i).toNat)
    case atStart => exact ⟨0, Nat.zero_le _, rfl, by repeat (first | with_reducible assumption | with_reducible exact bk_new _ _ _ | with_reducible apply bk_set' | rfl), ext_trans HB.out (by repeat (first | with_reducible exact HB2.out | with_reducible refine ext_set ?_ (by have := HB2.out.size; first | omega | (simp; omega)) _ | with_reducible refine ext_alloc ?_ _)), by repeat (first | with_reducible exact HB2.out | with_reducible refine ext_set ?_ (by have := HB2.out.size; first | omega | (simp; omega)) _ | with_reducible refine ext_alloc ?_ _)⟩
    case round =>
      obtain ⟨k, hk, rfl, kB, hbw, hb1⟩ := hrel
      obtain ⟨k0, k1, k2, k3, k4⟩ := cells5 kB
      have kL := kB.lt
      have HBW := Lib.hid hbw
      by_cases hlt : k < ps.length
      · obtain ⟨p, hp⟩ : ∃ p, ps[k]? = some p := ⟨_, List.getElem?_eq_getElem hlt⟩
        obtain ⟨y0, y1, y2, y3, _, _⟩ := mayB_iff.1 (hErr_may HIN.out.err p (List.mem_of_getElem? hp))
        obtain ⟨ad, rfl, hab, e0, e1, e2⟩ := sl_piece (HSH.out.below hb1) hlt hp
        have hmem := List.mem_of_getElem? hp
        have HB1 := Lib.hid hb1
        have hk63 : (k : Int) ≤ 100 := by have := HIN.out.len; omega
        have ha := HAP.out p hmem
        obtain ⟨pb, pl, pst⟩ := p
        simp only at y0 y1 y2 y3 e0 e1 e2 ha
        clear hp hbw hb1 hmem
        by_cases hst : pst = 0
        · have f0 : (pst == 0) = true := by simp [hst]
          have f1 : ¬ (s + 1 ≤ pl) := fun h => ha ⟨hst, h⟩
          clear ha hst
          go_wp2
          go_roundw
          case rel => exact ⟨k + 1, by omega, by go_num, bk_old _ kB, ext_alloc HBW.out _, ext_alloc HB1.out _⟩
          case measure => simp [intOf]; omega
        · have f0 : (pst == 0) = false := by simp [hst]
          clear ha hst
          go_wp2
          go_roundw
          case rel => exact ⟨k + 1, by omega, by go_num, bk_old _ kB, ext_alloc HBW.out _, ext_alloc HB1.out _⟩
          case measure => simp [intOf]; omega
      · have hnlt : ¬ ((k : Int) < ps.length) := by omega
        clear hbw hb1
        skip
        go_wp2
        go_ret
        exact ⟨rfl, HBW.out⟩
  · have H30 := Lib.hid h30
    clear h30
    rw [e] at gv0
    simp only [gkey, zeroK, KeyV.val] at gv0
    have GV := Lib.hid gv0
    clear gv0 e
    go_wp2_with (first
      | (go_at_call 19; ((with_reducible refine (RS.out _).mono ?_); rintro e w' ⟨rfl, rfl⟩))
      | (go_at_call 45; ((with_reducible refine GV.out.mono ?_); rintro e w2 ⟨v2, rfl, _, hb2⟩; have HB2 := Lib.hid hb2; clear hb2)))
    go_loopw [50] (fun i wr => ∃ k : Nat, k ≤ ps.length ∧ i = .int .i64 k ∧ Bk wr w2.heap.size 24 #[.int .i64 0, .int .i64 0, .int .i64 0, .int .i64 0, .int .i64 0] ∧ Below w.heap.size w wr ∧ Below w1.heap.size w1 wr) (fun i _ => ps.length - (intOf i).toNat)
    case atStart => exact ⟨0, Nat.zero_le _, rfl, by repeat (first | with_reducible assumption | with_reducible exact bk_new _ _ _ | with_reducible apply bk_set' | rfl), ext_trans HB.out (by repeat (first | with_reducible exact HB2.out | with_reducible refine ext_set ?_ (by have := HB2.out.size; first | omega | (simp; omega)) _ | with_reducible refine ext_alloc ?_ _)), by repeat (first | with_reducible exact HB2.out | with_reducible refine ext_set ?_ (by have := HB2.out.size; first | omega | (simp; omega)) _ | with_reducible refine ext_alloc ?_ _)⟩
    case round =>
      obtain ⟨k, hk, rfl, kB, hbw, hb1⟩ := hrel
      obtain ⟨k0, k1, k2, k3, k4⟩ := cells5 kB
      have kL := kB.lt
      have HBW := Lib.hid hbw
      by_cases hlt : k < ps.length
      · obtain ⟨p, hp⟩ : ∃ p, ps[k]? = some p := ⟨_, List.getElem?_eq_getElem hlt⟩
        obtain ⟨y0, y1, y2, y3, _, _⟩ := mayB_iff.1 (hErr_may HIN.out.err p (List.mem_of_getElem? hp))
        obtain ⟨ad, rfl, hab, e0, e1, e2⟩ := sl_piece (HSH.out.below hb1) hlt hp
        have hmem := List.mem_of_getElem? hp
        have HB1 := Lib.hid hb1
        have hk63 : (k : Int) ≤ 100 := by have := HIN.out.len; omega
        obtain ⟨pb, pl, pst⟩ := p
        simp only at y0 y1 y2 y3 e0 e1 e2
        clear hp hbw hb1 hmem
        go_wp2
        go_roundw
        case rel => exact ⟨k + 1, by omega, by go_num, bk_old _ kB, ext_alloc HBW.out _, ext_alloc HB1.out _⟩
        case measure => simp [intOf]; omega
      · have hnlt : ¬ ((k : Int) < ps.length) := by omega
        clear hbw hb1
        have f30 : ((ps.length : Int) == 30) = true := by simp [H30.out]
        go_wp2
        go_ret
        exact ⟨rfl, HBW.out⟩
end Go.Proofs.Ytlbhnkbchiklnaa
