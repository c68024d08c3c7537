/- The walk of HeapFirst. -/
import Derived.Test.YtlbhnkbchiklnaaHeapHolds
namespace Go.Proofs.Ytlbhnkbchiklnaa
open Go.RowKit
set_option linter.unusedVariables false
set_option linter.unusedSimpArgs false
theorem gv_first {n b : Int} {l m : List PieceV} (h : gv n l = some (m, b)) : ∃ (k0 : Nat) (q : PieceV), l[k0]? = some q ∧ q.state = 0 ∧ n ≤ q.len ∧ b = q.base ∧ ∀ (k : Nat) (p : PieceV), k < k0 → l[k]? = some p → ¬ (p.state = 0 ∧ n ≤ p.len) := by
  obtain ⟨l1, q, l2, rfl, h1, h2, h3, h4, _⟩ := gv_some h
  refine ⟨l1.length, q, by simp, h2, h3, h4, fun k p hk hp => ?_⟩
  rw [List.getElem?_append_left hk] at hp
  exact h1 p (List.mem_of_getElem? hp)
set_option maxHeartbeats 2000000 in
set_option maxRecDepth 100000 in
theorem heapFirst_walk {w : World} (base n : Int) (l : SlV TurnV) (sz : Int) (hbase : (Lit.int .i64 base).wf = true) (hn : (Lit.int .i64 n).wf = true) (hl : l.ok TurnV.wf w) (hsz : (Lit.int .i64 sz).wf = true) :
    Calls Try.prog 14 #[.int .i64 base, .int .i64 n, l.val, .int .i64 sz] w fun e w' => e = .returned (.bool true) ∧ Below w.heap.size w w' := by
  obtain ⟨ao, N, cap, ts⟩ := l
  obtain ⟨hsl, htw, _⟩ := hl
  simp only [SlV.val] at hsl htw ⊢
  have h0 : 0 ≤ base % 390 := by omega
  have h1 : base % 390 < 390 := by omega
  have h2 : 0 ≤ n % (400 - base % 390) := Int.emod_nonneg _ (by omega)
  have h3 : n % (400 - base % 390) < 400 - base % 390 := Int.emod_lt_of_pos _ (by omega)
  have rg := fun W => ranged_any base n W
  generalize n % (400 - base % 390) = r at *
  generalize base % 390 = b at *
  have hp := heaped_any b (r + 1) ao N cap ts w hsl htw h0 (by omega) (by omega) (by omega)
  have rs := fun W => rest_any sz 20 W (by decide) (by decide)
  have s0 : 0 ≤ sz % 20 := by omega
  have s1 : sz % 20 < 20 := by omega
  generalize sz % 20 = s at *
  have RG := Lib.hid rg
  have RS := Lib.hid rs
  have HP := Lib.hid hp
  clear rg hp hsl htw rs
  have hq : ∀ W, (binOp .eql 24 (.agg #[.int .i64 0, .int .i64 0, .int .i64 0, .int .i64 0, .int .i64 0]) (.agg #[.int .i64 0, .int .i64 0, .int .i64 0, .int .i64 0, .int .i64 0])).run Try.prog W = .ok (.bool true) W := fun W => by
    rw [run_eql_struct]
    go_simp
  have HQ := Lib.hid hq
  clear hq
  go_enter Try.func14, Try.ntmps14
  go_upto_region 4 with (first
    | (go_at_call 19; ((with_reducible refine (RS.out _).mono ?_); rintro e w' ⟨rfl, rfl⟩))
    | (go_at_call 38; ((with_reducible refine (RG.out _).mono ?_); rintro e w' ⟨rfl, rfl⟩))
    | (go_at_call 39; ((with_reducible refine HP.out.mono ?_); rintro e w1 ⟨v, u, ps, K, rfl, hoh, hok, hinv, hb⟩; obtain ⟨hao, hcap, rfl, hsh, _⟩ := hoh.sl; have HSH := Lib.hid hsh; have HIN := Lib.hid hinv; have HB := Lib.hid hb; have hpos := hinv.pos (by omega); clear hoh hok hinv hb hsh)))
  have g0 : ((ps.length : Int) == 0) = false := beq_eq_false_iff_ne.2 (by omega)
  have gv0 := hgive_any hao _ hcap ps (s + 1) w1 HSH.out ⟨by omega, by omega⟩
  unfold GivePost at gv0
  rcases give_cases (sz := s + 1) HIN.out (by omega) with ⟨m, gb, e, hv⟩ | ⟨e, hv⟩ | ⟨e, h30⟩
  · rw [e] at gv0
    obtain ⟨b2, _, hb2, _, hi2⟩ := hinv_give HIN.out e rfl
    have hck2 := hi2.check
    have GV := Lib.hid gv0
    simp only [gkey, KeyV.val] at GV
    obtain ⟨k0, q, hq1, hq2, hq3, hq4, hq5⟩ := gv_first hv
    have ckm : ∀ (mao : Option Addr) (mcap : Nat) (W : World), Sl W mao m.length m → Calls Try.prog 40 #[.slice mao m.length mcap] W fun e w' => e = .returned (.int .i64 0) ∧ Below W.heap.size W w' := fun mao mcap W h => by
      have h := hcheck_any mao _ mcap m W h
      rwa [hck2] at h
    have CK := Lib.hid ckm
    have HQ5 := Lib.hid hq5
    have HQ1 := Lib.hid hq1
    have HQ2 := Lib.hid hq2
    have HQ3 := Lib.hid hq3
    have HQ4 := Lib.hid hq4
    have hk0 : k0 < ps.length := (List.getElem?_eq_some_iff.1 hq1).1
    clear gv0 e hb2 hi2 hck2 hv hq5 hq1 ckm hq2 hq3 hq4
    go_wp2_with (go_at_call 45; ((with_reducible refine GV.out.mono ?_); rintro e w2 ⟨v2, rfl, ho2, hb2⟩; obtain ⟨mao, mcap, rfl, hms, _⟩ := ho2.sl; have HMS := Lib.hid hms; have HB2 := Lib.hid hb2; clear hb2 ho2 hms))
    go_loopw [60] (fun i wr => ∃ k : Nat, k ≤ k0 ∧ i = .int .i64 k ∧ Bk wr w2.heap.size 24 #[.int .i64 27, .int .i64 gb, .int .i64 ((s + 1)), .int .i64 gb, .int .i64 0] ∧ Below w.heap.size w wr ∧ Below w1.heap.size w1 wr ∧ Below w2.heap.size w2 wr) (fun i _ => ps.length - (intOf i).toNat)
    case atStart =>
      refine ⟨0, Nat.zero_le _, rfl, by repeat (first | with_reducible assumption | with_reducible exact bk_new _ _ _ | with_reducible apply bk_set' | rfl), ext_trans HB.out (by repeat (first | with_reducible exact HB2.out | with_reducible refine ext_set ?_ (by have := HB2.out.size; first | omega | (simp; omega)) _ | with_reducible refine ext_alloc ?_ _)), by repeat (first | with_reducible exact HB2.out | with_reducible refine ext_set ?_ (by have := HB2.out.size; first | omega | (simp; omega)) _ | with_reducible refine ext_alloc ?_ _), ?_⟩
      repeat (first | with_reducible exact Below.refl _ _ | with_reducible refine ext_set ?_ (by first | omega | (simp; done) | (simp; omega)) _ | with_reducible refine ext_alloc ?_ _)
    case round =>
      obtain ⟨k, hk, rfl, kB, hbw, hb1, hb2⟩ := hrel
      obtain ⟨k0_, k1, k2, k3, k4⟩ := cells5 kB
      have kL := kB.lt
      have HBW := Lib.hid hbw
      have HB1 := Lib.hid hb1
      have HB2' := Lib.hid hb2
      have hlt : k < ps.length := by omega
      obtain ⟨p, hp⟩ : ∃ p, ps[k]? = some p := ⟨_, List.getElem?_eq_getElem hlt⟩
      obtain ⟨y0, y1, y2, y3, _, _⟩ := mayB_iff.1 (hErr_may HIN.out.err p (List.mem_of_getElem? hp))
      obtain ⟨ad, rfl, hab, e0, e1, e2⟩ := sl_piece (HSH.out.below hb1) hlt hp
      have hk63 : (k : Int) ≤ 100 := by have := HIN.out.len; omega
      by_cases hke : k = k0
      · subst hke
        have hpq : p = q := by have h := HQ1.out; rw [hp] at h; injection h
        subst hpq
        have hq2 := HQ2.out
        have hq3 := HQ3.out
        have hq4 := HQ4.out
        obtain ⟨pb, pl, pst⟩ := p
        simp only at y0 y1 y2 y3 e0 e1 e2 hq2 hq3 hq4
        subst hq2 hq4
        have f0 : (gb == gb) = true := by simp
        have f1 : (s + 1 == s + 1) = true := by simp
        clear hp hbw hb1 hb2
        go_wp2_with (go_at_call 40; ((with_reducible refine (CK.out _ _ _ (HMS.out.below (ext_alloc HB2'.out _))).mono ?_); rintro e w4 ⟨rfl, hb4⟩; have HB4 := Lib.hid hb4; clear hb4))
        go_ret
        exact ⟨rfl, ext_trans (ext_alloc HBW.out _) HB4.out⟩
      · have hnf := HQ5.out k p (by omega) hp
        obtain ⟨pb, pl, pst⟩ := p
        simp only at y0 y1 y2 y3 e0 e1 e2 hnf
        clear hp hbw hb1 hb2
        by_cases hst : pst = 0
        · have f1 : ¬ (s + 1 ≤ pl) := fun h => hnf ⟨hst, h⟩
          have f0 : (pst == 0) = true := by simp [hst]
          clear hnf hst
          go_wp2
          go_roundw
          case rel => exact ⟨k + 1, by omega, by go_num, bk_old _ kB, ext_alloc HBW.out _, ext_alloc HB1.out _, ext_alloc HB2'.out _⟩
          case measure => simp [intOf]; omega
        · have f0 : (pst == 0) = false := by simp [hst]
          clear hnf hst
          go_wp2
          go_roundw
          case rel => exact ⟨k + 1, by omega, by go_num, bk_old _ kB, ext_alloc HBW.out _, ext_alloc HB1.out _, ext_alloc HB2'.out _⟩
          case measure => simp [intOf]; omega
  · rw [e] at gv0
    simp only [zeroK, KeyV.val] at gv0
    have GV := Lib.hid gv0
    clear gv0 e hv
    have g7 : ((7 : Int) != 0) = true := rfl
    have gz : (((([] : List PieceV).length : Nat) : Int) == 0) = true := rfl
    go_wp2_with (first
        | (go_at_call 45; ((with_reducible refine GV.out.mono ?_); rintro e w2 ⟨v2, rfl, ho2, hb2⟩; obtain ⟨mao, mcap, rfl, hms, _⟩ := ho2.sl; have HMS := Lib.hid hms; have HB2 := Lib.hid hb2; clear hb2 ho2 hms))
        | (simp only [HQ.out]))
    go_ret
    refine ⟨rfl, ext_trans HB.out ?_⟩
    repeat (first | with_reducible exact HB2.out | with_reducible refine ext_set ?_ (by have := HB2.out.size; first | omega | (simp; omega)) _ | with_reducible refine ext_alloc ?_ _)
  · rw [e] at gv0
    simp only [zeroK, KeyV.val] at gv0
    have GV := Lib.hid gv0
    clear gv0 e h30
    have gz : (((([] : List PieceV).length : Nat) : Int) == 0) = true := rfl
    go_wp2_with (first
        | (go_at_call 45; ((with_reducible refine GV.out.mono ?_); rintro e w2 ⟨v2, rfl, ho2, hb2⟩; obtain ⟨mao, mcap, rfl, hms, _⟩ := ho2.sl; have HMS := Lib.hid hms; have HB2 := Lib.hid hb2; clear hb2 ho2 hms))
        | (simp only [HQ.out]))
    go_ret
    refine ⟨rfl, ext_trans HB.out ?_⟩
    repeat (first | with_reducible exact HB2.out | with_reducible refine ext_set ?_ (by have := HB2.out.size; first | omega | (simp; omega)) _ | with_reducible refine ext_alloc ?_ _)
end Go.Proofs.Ytlbhnkbchiklnaa
