import Derived.Test.YtmmmmeeepieemaaHeapBZ
/- What Back and Clean of package heap compute. -/
namespace Go.Proofs.Ytmmmmeeepieemaa
open El (cl)
open Go.RowKit
set_option linter.unusedVariables false
set_option linter.unusedSimpArgs false
theorem bk_idx {b : Int} : ∀ {l : List PieceV}, bk b l = (l.findIdx? (t_back b)).map fun k => l.set k { (l.getD k zeroPiece) with state := 2 }
  | [] => by simp [bk]
  | p :: l => by
    rw [bk, List.findIdx?_cons]
    by_cases h : p.state = 1 ∧ p.base = b
    · have ht : t_back b p = true := by simp [t_back, h]
      rw [if_pos h, ht]
      simp
    · have ht : t_back b p = false := by
        unfold t_back
        rw [Bool.and_eq_false_iff]
        by_cases h1 : p.state = 1
        · right; simp; intro h2; exact h ⟨h1, h2⟩
        · left; simp [h1]
      rw [if_neg h, ht, bk_idx]
      simp only [Bool.false_eq_true, if_false, Option.map_map]
      cases l.findIdx? (t_back b) <;> simp
set_option maxHeartbeats 2000000 in
theorem hback_any (ao : Option Addr) (n cap : Nat) (ps : List PieceV) (b : Int) (w : World) (h : Sl w ao n ps) :
    Calls Try.prog 31 #[.slice ao n cap, .int .i64 b] w (ResPost w 87 (backF ps b).1 (backF ps b).2) := by
  have hl := h.len
  subst hl
  have ck : ∀ W, Below w.heap.size w W → Calls Try.prog 42 #[.slice ao ps.length cap] W fun e w' => e = .returned (.int .i64 (heapCheck ps)) ∧ Below W.heap.size W w' := fun W hb => hcheck_any ao _ cap ps W (h.below hb)
  have ix : ∀ W, Below w.heap.size w W → w.heap.size < W.heap.size → W.cell? ⟨w.heap.size, 0, none⟩ = some (.int .i64 b) → Calls Try.prog 43 #[.slice ao ps.length cap, .func (.func 47) #[] #[.pointer (some ⟨w.heap.size, 0, none⟩)]] W fun e w' => e = .returned (.int .i64 (fi (t_back b) ps)) ∧ Below W.heap.size W w' := fun W hb hg hc => index_back ao cap ps b w.heap.size W (h.below hb) hg hc
  unfold ResPost
  by_cases hc : heapCheck ps = 0
  · have hlen := (heapCheck_zero.1 hc).1
    rw [hc] at ck
    have CK := Lib.hid ck
    clear ck
    cases hf : ps.findIdx? (t_back b) with
    | none =>
      have e : backF ps b = ([], 7) := by unfold backF; rw [if_neg (by simp [hc]), bk_idx, hf]; rfl
      rw [e]
      clear e hc
      rw [show fi (t_back b) ps = -1 by unfold fi; rw [hf]] at ix
      have IX := Lib.hid ix
      clear ix hf h
      go_enter Try.func31, Try.ntmps31
      go_wp2_with (first
        | (go_at_call 42; ((with_reducible refine (CK.out _ (ext_alloc (Below.refl _ _) _)).mono ?_); rintro e w1 ⟨rfl, hb1⟩; have bB : Bk w1 (w.heap.size) 3 #[.int .i64 b] := bk_keep hb1 (by repeat (first | with_reducible assumption | with_reducible exact bk_new _ _ _ | (with_reducible refine bk_new' _ _ ?_; simp; done) | with_reducible refine bk_drew ?_ | with_reducible refine bk_drewN _ ?_ | with_reducible refine bk_old _ ?_ | (with_reducible refine bk_far' _ (by omega) ?_) | with_reducible apply bk_set' | rfl)); (try clear b0); have b0 := cells1 bB; have bL := bB.lt; have hB1 : Below w.heap.size w w1 := ext_trans (ext_alloc (Below.refl _ _) _) hb1; have HB1 := Lib.hid hB1; clear hB1))
        | (go_at_call 43; ((with_reducible refine (IX.out _ HB1.out (by simpa using bL) b0).mono ?_); rintro e w2 ⟨rfl, hb2⟩; have bB : Bk w2 (w.heap.size) 3 #[.int .i64 b] := bk_keep hb2 (by repeat (first | with_reducible assumption | with_reducible exact bk_new _ _ _ | (with_reducible refine bk_new' _ _ ?_; simp; done) | with_reducible refine bk_drew ?_ | with_reducible refine bk_drewN _ ?_ | with_reducible refine bk_old _ ?_ | (with_reducible refine bk_far' _ (by omega) ?_) | with_reducible apply bk_set' | rfl)); (try clear b0); have b0 := cells1 bB; have bL := bB.lt; have hB2 : Below w.heap.size w w2 := ext_trans (HB1.out) hb2; have HB2 := Lib.hid hB2; clear hB2)))
      go_ret2
      exact ⟨_, rfl, Own.nil _ _ _, HB2.out⟩
    | some k =>
      rw [show fi (t_back b) ps = (k : Int) by unfold fi; rw [hf]] at ix
      obtain ⟨hlt, _, _⟩ := List.findIdx?_eq_some_iff_getElem.1 hf
      have cl : ∀ W, Below w.heap.size w W → Calls Try.prog 45 #[.slice ao ps.length cap] W (OwnPost W 87 ps) := fun W hb => clone_piece ao _ cap ps W (h.below hb) (by omega)
      obtain ⟨p, hp⟩ : ∃ p, ps[k]? = some p := ⟨_, List.getElem?_eq_getElem hlt⟩
      have hgd : ps.getD k zeroPiece = p := by simp [List.getD, hp]
      have e : backF ps b = (ps.set k { p with state := 2 }, 0) := by unfold backF; rw [if_neg (by simp [hc]), bk_idx, hf, Option.map_some, hgd]
      rw [e]
      clear e hc
      obtain ⟨pb, pl, pst⟩ := p
      simp only
      have hpos : 0 < ps.length := by omega
      have hnn : ¬ ((k : Int) < 0) := by omega
      have IX := Lib.hid ix
      have CL := Lib.hid cl
      have HP := Lib.hid hp
      clear ix cl hf h hgd hp
      go_enter Try.func31, Try.ntmps31
      go_wp2_with (first
        | (go_at_call 42; ((with_reducible refine (CK.out _ (ext_alloc (Below.refl _ _) _)).mono ?_); rintro e w1 ⟨rfl, hb1⟩; have bB : Bk w1 (w.heap.size) 3 #[.int .i64 b] := bk_keep hb1 (by repeat (first | with_reducible assumption | with_reducible exact bk_new _ _ _ | (with_reducible refine bk_new' _ _ ?_; simp; done) | with_reducible refine bk_drew ?_ | with_reducible refine bk_drewN _ ?_ | with_reducible refine bk_old _ ?_ | (with_reducible refine bk_far' _ (by omega) ?_) | with_reducible apply bk_set' | rfl)); (try clear b0); have b0 := cells1 bB; have bL := bB.lt; have hB1 : Below w.heap.size w w1 := ext_trans (ext_alloc (Below.refl _ _) _) hb1; have HB1 := Lib.hid hB1; clear hB1))
        | (go_at_call 43; ((with_reducible refine (IX.out _ HB1.out (by simpa using bL) b0).mono ?_); rintro e w2 ⟨rfl, hb2⟩; have bB : Bk w2 (w.heap.size) 3 #[.int .i64 b] := bk_keep hb2 (by repeat (first | with_reducible assumption | with_reducible exact bk_new _ _ _ | (with_reducible refine bk_new' _ _ ?_; simp; done) | with_reducible refine bk_drew ?_ | with_reducible refine bk_drewN _ ?_ | with_reducible refine bk_old _ ?_ | (with_reducible refine bk_far' _ (by omega) ?_) | with_reducible apply bk_set' | rfl)); (try clear b0); have b0 := cells1 bB; have bL := bB.lt; have hB2 : Below w.heap.size w w2 := ext_trans (HB1.out) hb2; have HB2 := Lib.hid hB2; clear hB2))
        | (go_at_call 45; ((with_reducible refine (CL.out _ HB2.out).mono ?_); rintro e w3 ⟨rr, rfl, ho3, hb3⟩; have hB3 : Below w.heap.size w w3 := ext_trans (HB2.out) hb3; have HB3 := Lib.hid hB3; clear hB3; obtain ⟨g, q3, rfl, hg1, hg2, hs3, hz3⟩ := Own.some ho3 hpos; have HO3 := Lib.hid ho3; have HG1 := Lib.hid hg1; obtain ⟨_, m0, m1, m2⟩ := sl_piece' hs3 hlt HP.out; simp only [Addr.add_lit, Nat.zero_add] at m0 m1 m2; clear ho3 hs3 hg1)))
      go_ret2
      obtain ⟨o1, o2⟩ := own_set_cell (y := (⟨pb, pl, 2⟩ : PieceV)) (j := 2) (u := .int .i64 2) HO3.out HP.out (by decide) rfl
      have hg1 := HG1.out
      have h2s := HB2.out.size
      exact ⟨_, rfl, Own.mono o1 h2s, HB3.out.grown o2 HB3.out.size (fun k hk => by injection hk with hk; subst hk; omega)⟩
  · have e : backF ps b = ([], heapCheck ps) := by unfold backF; rw [if_pos hc]
    rw [e]
    have g : (heapCheck ps == 0) = false := by simpa using hc
    have g' : (heapCheck ps != 0) = true := by simpa using hc
    generalize heapCheck ps = c at *
    have CK := Lib.hid ck
    clear e ck ix hc h
    go_enter Try.func31, Try.ntmps31
    go_wp2_with (first
      | (go_at_call 42; ((with_reducible refine (CK.out _ (ext_alloc (Below.refl _ _) _)).mono ?_); rintro e w1 ⟨rfl, hb1⟩; have bB : Bk w1 (w.heap.size) 3 #[.int .i64 b] := bk_keep hb1 (by repeat (first | with_reducible assumption | with_reducible exact bk_new _ _ _ | (with_reducible refine bk_new' _ _ ?_; simp; done) | with_reducible refine bk_drew ?_ | with_reducible refine bk_drewN _ ?_ | with_reducible refine bk_old _ ?_ | (with_reducible refine bk_far' _ (by omega) ?_) | with_reducible apply bk_set' | rfl)); (try clear b0); have b0 := cells1 bB; have bL := bB.lt; have hB1 : Below w.heap.size w w1 := ext_trans (ext_alloc (Below.refl _ _) _) hb1; have HB1 := Lib.hid hB1; clear hB1)))
    go_ret2
    exact ⟨_, rfl, Own.nil _ _ _, HB1.out⟩
end Go.Proofs.Ytmmmmeeepieemaa
