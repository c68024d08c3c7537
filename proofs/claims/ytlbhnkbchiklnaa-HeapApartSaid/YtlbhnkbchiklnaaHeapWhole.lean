/- The walk of HeapWhole. -/
import Derived.Test.YtlbhnkbchiklnaaHeapG
namespace Go.Proofs.Ytlbhnkbchiklnaa
open Go.RowKit
set_option linter.unusedVariables false
set_option linter.unusedSimpArgs false
theorem HInv.pos {base n : Int} {ps : List PieceV} {K : List KeyV} (h : HInv base n ps K) (hn : 1 ≤ n) : 0 < ps.length := by
  rcases ps with _ | ⟨p, ps⟩
  · have := h.cov
    unfold Go.Proofs.Ytlbhnkbchiklnaa.cov at this
    omega
  · simp
set_option maxHeartbeats 2000000 in
set_option maxRecDepth 100000 in
theorem heapWhole_walk {w : World} (base n : Int) (l : SlV TurnV) (hbase : (Lit.int .i64 base).wf = true) (hn : (Lit.int .i64 n).wf = true) (hl : l.ok TurnV.wf w) :
    Calls Try.prog 11 #[.int .i64 base, .int .i64 n, l.val] w fun e w' => e = .returned (.bool true) ∧ Below w.heap.size w w' := by
  obtain ⟨ao, N, cap, ts⟩ := l
  obtain ⟨hsl, htw, _⟩ := hl
  simp only [SlV.val] at hsl htw ⊢
  have h0 : 0 ≤ base % 390 := by omega
  have h1 : base % 390 < 390 := by omega
  have h2 : 0 ≤ n % (400 - base % 390) := Int.emod_nonneg _ (by omega)
  have h3 : n % (400 - base % 390) < 400 - base % 390 := Int.emod_lt_of_pos _ (by omega)
  have rg := fun W => ranged_any base n W
  generalize n % (400 - base % 390) = r at *
  generalize base % 390 = b at *
  have hp := heaped_any b (r + 1) ao N cap ts w hsl htw h0 (by omega) (by omega) (by omega)
  have RG := Lib.hid rg
  have HP := Lib.hid hp
  clear rg hp hsl htw
  go_enter Try.func11, Try.ntmps11
  go_upto_region 3 with (first
    | (go_at_call 38; ((with_reducible refine (RG.out _).mono ?_); rintro e w' ⟨rfl, rfl⟩))
    | (go_at_call 39; ((with_reducible refine HP.out.mono ?_); rintro e w1 ⟨v, u, ps, K, rfl, hoh, hok, hinv, hb⟩; obtain ⟨hao, hcap, rfl, hsh, _⟩ := hoh.sl; have HSH := Lib.hid hsh; have HIN := Lib.hid hinv; have HB := Lib.hid hb; have hpos := hinv.pos (by omega); clear hoh hok hinv hb hsh)))
  have g0 : ((ps.length : Int) == 0) = false := beq_eq_false_iff_ne.2 (by omega)
  go_wp2
  go_loopw [10, 37] (fun a i wr => ∃ (k : Nat) (x : Int), k ≤ ps.length ∧ i = .int .i64 k ∧ a = .int .i64 x ∧ cov x (ps.drop k) (b + (r + 1)) ∧ Below w.heap.size w wr ∧ Below w1.heap.size w1 wr) (fun _ i _ => ps.length - (intOf i).toNat)
  case atStart => exact ⟨0, b, Nat.zero_le _, rfl, rfl, HIN.out.cov, HB.out, Below.refl _ _⟩
  case round =>
    obtain ⟨k, x, hk, rfl, rfl, hcov, hbw, hb1⟩ := hrel
    by_cases hlt : k < ps.length
    · obtain ⟨p, hp⟩ : ∃ p, ps[k]? = some p := ⟨_, List.getElem?_eq_getElem hlt⟩
      have hd : ps.drop k = p :: ps.drop (k + 1) := by
        have hg := (List.getElem?_eq_some_iff.1 hp).2
        rw [← hg, List.getElem_cons_drop]
      rw [hd] at hcov
      obtain ⟨hc1, hc2⟩ := hcov
      obtain ⟨y0, y1, y2, y3, _, _⟩ := mayB_iff.1 (hErr_may HIN.out.err p (List.mem_of_getElem? hp))
      obtain ⟨ad, rfl, hab, e0, e1, e2⟩ := sl_piece (HSH.out.below hb1) hlt hp
      obtain ⟨pb, pl, pst⟩ := p
      simp only at hc1 hc2 y0 y1 y2 y3 e0 e1 e2
      subst hc1
      have g1 : (pb != pb) = false := by simp
      have hk63 : (k : Int) ≤ 100 := by have := HIN.out.len; omega
      have HC2 := Lib.hid hc2
      have HBW := Lib.hid hbw
      have HB1 := Lib.hid hb1
      clear hc2 hbw hb1 hd hp
      go_wp2
      go_roundw
      case rel => exact ⟨k + 1, pb + pl, by omega, by go_num, by go_num, HC2.out, ext_alloc HBW.out _, ext_alloc HB1.out _⟩
      case measure => simp [intOf]; omega
    · have hnlt : ¬ ((k : Int) < ps.length) := by omega
      rw [List.drop_of_length_le (by omega)] at hcov
      unfold cov at hcov
      subst hcov
      have g2 : (b + (r + 1) == b + (r + 1)) = true := by simp
      have HBW := Lib.hid hbw
      clear hbw hb1
      go_wp2
      go_ret
      exact ⟨rfl, HBW.out⟩
end Go.Proofs.Ytlbhnkbchiklnaa
