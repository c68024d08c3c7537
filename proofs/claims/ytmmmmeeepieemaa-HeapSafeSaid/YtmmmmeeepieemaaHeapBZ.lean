import Derived.Test.YtmmmmeeepieemaaBuB
import Derived.Test.YtmmmmeeepieemaaHeapAZ
/- The literals of package heap, slices.IndexFunc over them, slices.Clone of pieces, and Back. -/
namespace Go.Proofs.Ytmmmmeeepieemaa
open Go.RowKit
set_option linter.unusedVariables false
set_option linter.unusedSimpArgs false
theorem info_piece : (Try.prog.info? 87).map (fun i => (i.zero, i.size, i.bytes)) = some (some (.agg #[.int .i64 0, .int .i64 0, .int .i64 0]), 3, 24) := by kernel_rfl
def t_give (n : Int) (p : PieceV) : Bool := decide (p.state = 0) && decide (n ≤ p.len)
set_option maxHeartbeats 1000000 in
theorem lit_give (b l s n : Int) (g : Nat) (w : World) (hg : g < w.heap.size) (hc : w.cell? ⟨g, 0, none⟩ = some (.int .i64 n)) :
    Calls Try.prog 44 #[.agg #[.int .i64 b, .int .i64 l, .int .i64 s], .pointer (some ⟨g, 0, none⟩)] w fun e w' => e = .returned (.bool (t_give n ⟨b, l, s⟩)) ∧ Below w.heap.size w w' := by
  by_cases h1 : s = 0
  · have g1 : (s == 0) = true := by simp [h1]
    by_cases h2 : n ≤ l
    · have e : t_give n ⟨b, l, s⟩ = true := by simp [t_give, h1, h2]
      rw [e]
      have H1 := Lib.hid h1
      clear e h1
      go_enter Try.func44, Try.ntmps44
      go_wp2
      go_ret
      exact ⟨rfl, ext_alloc (Below.refl _ _) _⟩
    · have e : t_give n ⟨b, l, s⟩ = false := by simp [t_give, h2]
      rw [e]
      have H1 := Lib.hid h1
      clear e h1
      go_enter Try.func44, Try.ntmps44
      go_wp2
      go_ret
      exact ⟨rfl, ext_alloc (Below.refl _ _) _⟩
  · have g1 : (s == 0) = false := by simp [h1]
    have e : t_give n ⟨b, l, s⟩ = false := by simp [t_give, h1]
    rw [e]
    clear e h1
    go_enter Try.func44, Try.ntmps44
    go_wp2
    go_ret
    exact ⟨rfl, ext_alloc (Below.refl _ _) _⟩
def t_back (n : Int) (p : PieceV) : Bool := decide (p.state = 1) && decide (p.base = n)
set_option maxHeartbeats 1000000 in
theorem lit_back (b l s n : Int) (g : Nat) (w : World) (hg : g < w.heap.size) (hc : w.cell? ⟨g, 0, none⟩ = some (.int .i64 n)) :
    Calls Try.prog 47 #[.agg #[.int .i64 b, .int .i64 l, .int .i64 s], .pointer (some ⟨g, 0, none⟩)] w fun e w' => e = .returned (.bool (t_back n ⟨b, l, s⟩)) ∧ Below w.heap.size w w' := by
  by_cases h1 : s = 1
  · have g1 : (s == 1) = true := by simp [h1]
    by_cases h2 : b = n
    · have e : t_back n ⟨b, l, s⟩ = true := by simp [t_back, h1, h2]
      rw [e]
      have H1 := Lib.hid h1
      have g2 : (b == n) = true := by simp [h2]
      have H2 := Lib.hid h2
      clear h2
      clear e h1
      go_enter Try.func47, Try.ntmps47
      go_wp2
      go_ret
      exact ⟨rfl, ext_alloc (Below.refl _ _) _⟩
    · have e : t_back n ⟨b, l, s⟩ = false := by simp [t_back, h2]
      rw [e]
      have H1 := Lib.hid h1
      have g2 : (b == n) = false := by simp [h2]
      clear h2
      clear e h1
      go_enter Try.func47, Try.ntmps47
      go_wp2
      go_ret
      exact ⟨rfl, ext_alloc (Below.refl _ _) _⟩
  · have g1 : (s == 1) = false := by simp [h1]
    have e : t_back n ⟨b, l, s⟩ = false := by simp [t_back, h1]
    rw [e]
    clear e h1
    go_enter Try.func47, Try.ntmps47
    go_wp2
    go_ret
    exact ⟨rfl, ext_alloc (Below.refl _ _) _⟩
set_option maxHeartbeats 1000000 in
theorem index_give (ao : Option Addr) (c : Nat) (ps : List PieceV) (n : Int) (g : Nat) (w : World) (h : Sl w ao ps.length ps) (hg : g < w.heap.size) (hc : w.cell? ⟨g, 0, none⟩ = some (.int .i64 n)) :
    Calls Try.prog 43 #[.slice ao ps.length c, .func (.func 44) #[] #[.pointer (some ⟨g, 0, none⟩)]] w fun e w' => e = .returned (.int .i64 (fi (t_give n) ps)) ∧ Below w.heap.size w w' := by
  have hm := h.max
  unfold maxLen at hm
  have HSL := Lib.hid h
  have HC := Lib.hid hc
  clear h hc
  go_enter Try.func43, Try.ntmps43
  go_wp2
  go_loopw [8] (fun i wr => ∃ k : Nat, k ≤ ps.length ∧ i = .int .i64 k ∧ (∀ i y, i < k → ps[i]? = some y → t_give n y = false) ∧ Below w.heap.size w wr) (fun i _ => ps.length - (intOf i).toNat)
  case atStart => exact ⟨0, Nat.zero_le _, rfl, fun i y hi => absurd hi (by omega), Below.refl _ _⟩
  case round =>
    obtain ⟨k, hk, rfl, hf, hb⟩ := hrel
    have HB := Lib.hid hb
    have HF := Lib.hid hf
    clear hb hf
    by_cases hlt : k < ps.length
    · obtain ⟨p, hp⟩ : ∃ p, ps[k]? = some p := ⟨_, List.getElem?_eq_getElem hlt⟩
      obtain ⟨ad, hao, hab, e0, e1, e2⟩ := sl_piece (HSL.out.below HB.out) hlt hp
      subst hao
      have HP := Lib.hid hp
      clear hp
      obtain ⟨pb, pl, pst⟩ := p
      simp only at e0 e1 e2
      have cm := lit_give pb pl pst n g wr (Nat.lt_of_lt_of_le hg HB.out.size) (by rw [HB.out.cell (p := ⟨g, 0, none⟩) hg]; exact HC.out)
      cases ht : t_give n ⟨pb, pl, pst⟩
      · rw [ht] at cm
        have CM := Lib.hid cm
        have HT := Lib.hid ht
        clear cm ht
        go_wp2_with (go_at_call 44; ((with_reducible refine (CM.out).mono ?_); rintro e w1 ⟨rfl, hb1⟩; have HB1 := Lib.hid (show Below w.heap.size w w1 from ext_trans HB.out hb1)))
        go_roundw
        case rel =>
          refine ⟨k + 1, by omega, by go_num, fun i y hi hy => ?_, HB1.out⟩
          rcases Nat.lt_or_ge i k with h | h
          · exact HF.out i y h hy
          · obtain rfl : i = k := by omega
            rw [HP.out] at hy
            injection hy with hy
            exact hy ▸ HT.out
        case measure => simp [intOf]; omega
      · rw [ht] at cm
        have hfi : fi (t_give n) ps = (k : Int) := by unfold fi; rw [findIdx_at HP.out ht HF.out]
        have CM := Lib.hid cm
        have HFI := Lib.hid hfi
        clear cm ht hfi
        go_wp2_with (go_at_call 44; ((with_reducible refine (CM.out).mono ?_); rintro e w1 ⟨rfl, hb1⟩; have HB1 := Lib.hid (show Below w.heap.size w w1 from ext_trans HB.out hb1)))
        go_ret
        exact ⟨ret_int HFI.out.symm, HB1.out⟩
    · have hnlt : ¬ ((k : Int) < ps.length) := by omega
      have hfi : fi (t_give n) ps = -1 := by
        unfold fi
        rw [findIdx_none (fun i y hy => HF.out i y (by have := (List.getElem?_eq_some_iff.1 hy).1; omega) hy)]
      have HFI := Lib.hid hfi
      clear hfi
      go_wp2
      go_ret
      exact ⟨ret_int HFI.out.symm, HB.out⟩
set_option maxHeartbeats 1000000 in
theorem index_back (ao : Option Addr) (c : Nat) (ps : List PieceV) (n : Int) (g : Nat) (w : World) (h : Sl w ao ps.length ps) (hg : g < w.heap.size) (hc : w.cell? ⟨g, 0, none⟩ = some (.int .i64 n)) :
    Calls Try.prog 43 #[.slice ao ps.length c, .func (.func 47) #[] #[.pointer (some ⟨g, 0, none⟩)]] w fun e w' => e = .returned (.int .i64 (fi (t_back n) ps)) ∧ Below w.heap.size w w' := by
  have hm := h.max
  unfold maxLen at hm
  have HSL := Lib.hid h
  have HC := Lib.hid hc
  clear h hc
  go_enter Try.func43, Try.ntmps43
  go_wp2
  go_loopw [8] (fun i wr => ∃ k : Nat, k ≤ ps.length ∧ i = .int .i64 k ∧ (∀ i y, i < k → ps[i]? = some y → t_back n y = false) ∧ Below w.heap.size w wr) (fun i _ => ps.length - (intOf i).toNat)
  case atStart => exact ⟨0, Nat.zero_le _, rfl, fun i y hi => absurd hi (by omega), Below.refl _ _⟩
  case round =>
    obtain ⟨k, hk, rfl, hf, hb⟩ := hrel
    have HB := Lib.hid hb
    have HF := Lib.hid hf
    clear hb hf
    by_cases hlt : k < ps.length
    · obtain ⟨p, hp⟩ : ∃ p, ps[k]? = some p := ⟨_, List.getElem?_eq_getElem hlt⟩
      obtain ⟨ad, hao, hab, e0, e1, e2⟩ := sl_piece (HSL.out.below HB.out) hlt hp
      subst hao
      have HP := Lib.hid hp
      clear hp
      obtain ⟨pb, pl, pst⟩ := p
      simp only at e0 e1 e2
      have cm := lit_back pb pl pst n g wr (Nat.lt_of_lt_of_le hg HB.out.size) (by rw [HB.out.cell (p := ⟨g, 0, none⟩) hg]; exact HC.out)
      cases ht : t_back n ⟨pb, pl, pst⟩
      · rw [ht] at cm
        have CM := Lib.hid cm
        have HT := Lib.hid ht
        clear cm ht
        go_wp2_with (go_at_call 47; ((with_reducible refine (CM.out).mono ?_); rintro e w1 ⟨rfl, hb1⟩; have HB1 := Lib.hid (show Below w.heap.size w w1 from ext_trans HB.out hb1)))
        go_roundw
        case rel =>
          refine ⟨k + 1, by omega, by go_num, fun i y hi hy => ?_, HB1.out⟩
          rcases Nat.lt_or_ge i k with h | h
          · exact HF.out i y h hy
          · obtain rfl : i = k := by omega
            rw [HP.out] at hy
            injection hy with hy
            exact hy ▸ HT.out
        case measure => simp [intOf]; omega
      · rw [ht] at cm
        have hfi : fi (t_back n) ps = (k : Int) := by unfold fi; rw [findIdx_at HP.out ht HF.out]
        have CM := Lib.hid cm
        have HFI := Lib.hid hfi
        clear cm ht hfi
        go_wp2_with (go_at_call 47; ((with_reducible refine (CM.out).mono ?_); rintro e w1 ⟨rfl, hb1⟩; have HB1 := Lib.hid (show Below w.heap.size w w1 from ext_trans HB.out hb1)))
        go_ret
        exact ⟨ret_int HFI.out.symm, HB1.out⟩
    · have hnlt : ¬ ((k : Int) < ps.length) := by omega
      have hfi : fi (t_back n) ps = -1 := by
        unfold fi
        rw [findIdx_none (fun i y hy => HF.out i y (by have := (List.getElem?_eq_some_iff.1 hy).1; omega) hy)]
      have HFI := Lib.hid hfi
      clear hfi
      go_wp2
      go_ret
      exact ⟨ret_int HFI.out.symm, HB.out⟩
set_option maxHeartbeats 1000000 in
theorem clone_piece (ao : Option Addr) (n cap : Nat) (vs : List PieceV) (w : World) (h : Sl w ao n vs) (hn : n * 24 ≤ 140737488355328) :
    Calls Try.prog 45 #[.slice ao n cap] w (OwnPost w 87 vs) := by
  obtain ⟨i0, hi, hz0, hz1, hz2⟩ := info_parts info_piece
  have hl := h.len
  have hq : ∀ W, (binOp .eql 77 (.slice ao n cap) (.slice none 0 0)).run Try.prog W = .ok (.bool ao.isNone) W := fun W => Lib.run_eql_slice_nil W _ _ ao n cap 0 0 Try.underlying77
  cases ao with
  | none =>
    have hn0 : n = 0 := by
      rcases Nat.eq_zero_or_pos n with h0 | h0
      · exact h0
      · obtain ⟨a, e, _⟩ := h.row h0
        cases e
    have hv : vs = [] := List.eq_nil_of_length_eq_zero (by omega)
    subst hv
    clear h hl hn0
    simp only [Option.isNone_none] at hq
    go_enter Try.func45, Try.ntmps45
    go_wp2
    go_ret
    exact ⟨_, rfl, Own.nil _ _ _, Below.refl _ _⟩
  | some a =>
    simp only [Option.isNone_some] at hq
    have H := Lib.hid h
    have HL := Lib.hid hl
    clear h hl
    go_enter Try.func45, Try.ntmps45
    have c63 : ([] : List PieceV).length + n ≤ maxLen := by unfold maxLen; simp; omega
    have c47 : (([] : List PieceV).length + n) * 24 ≤ 140737488355328 := by simp; omega
    have cB : w.heap.size ≤ (w.alloc (.cells #[] 87)).heap.size := by simp
    have hb0 : Below w.heap.size w (w.alloc (.cells #[] 87)) := (Below.refl _ _).alloc (Nat.le_refl _) _
    go_wp2_with (at_builtin; refine wpList_append_sl rfl (.tmp 5) (.tmp 6) 77 rfl w.heap.size 87 i0 _ 24 Try.underlying77 hi hz0 hz1 hz2 rfl (.slice (some ⟨w.heap.size, 0, none⟩) 0 0) ([] : List PieceV) rfl (own_lit w 87 w.heap.size (Nat.le_refl _) #[] 0 rfl (by decide) rfl) (some a) n cap vs rfl (H.out.alloc _) c63 c47 cB ?_; intro v1 w1 hown1 hgr1 hat1)
    go_ret
    refine ⟨v1, rfl, hown1, hb0.grown hgr1 (by simp) ?_⟩
    intro k hk
    simp [Value.ownBlock] at hk
    omega
end Go.Proofs.Ytmmmmeeepieemaa
