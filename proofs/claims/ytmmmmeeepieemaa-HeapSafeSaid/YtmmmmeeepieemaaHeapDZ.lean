import Derived.BigRegion
import Derived.Deep.DeepCutAuto
import Derived.Test.YtmmmmeeepieemaaHeapCZ
/- What Clean of package heap computes. -/
namespace Go.Proofs.Ytmmmmeeepieemaa
open Go.RowKit
set_option linter.unusedVariables false
set_option linter.unusedSimpArgs false
theorem hErr_cov : ∀ {l : List PieceV} {o : Option PieceV}, hErr o l = 0 → ∀ b, (∀ p ps, l = p :: ps → p.base = b) → ∃ e, cov b l e
  | [], _, _, b, _ => ⟨b, rfl⟩
  | p :: ps, o, h, b, hb => by
    obtain ⟨h1, h2, h3⟩ := hErr_cons.1 h
    have hpb := hb p ps rfl
    obtain ⟨e, he⟩ := hErr_cov h3 (b + p.len) (fun q qs hq => by
      subst hq
      obtain ⟨_, k2, _⟩ := hErr_cons.1 h3
      unfold badO badB at k2
      simp at k2
      omega)
    exact ⟨e, hpb, he⟩
theorem heap_cov {l : List PieceV} (h : hErr none l = 0) : ∃ b e, 0 ≤ b ∧ cov b l e := by
  cases l with
  | nil => exact ⟨0, 0, by omega, rfl⟩
  | cons p ps =>
    obtain ⟨e, he⟩ := hErr_cov h p.base (fun q qs hq => by injection hq with hq _; rw [hq])
    exact ⟨p.base, e, (mayB_iff.1 (hErr_cons.1 h).1).1, he⟩
/-- The pieces that are cleaned so far are a heap. -/
theorem clean_upto {l : List PieceV} (h : hErr none l = 0) (k : Nat) : hErr none ((l.take k).foldl clStep []) = 0 ∧ ((l.take k).foldl clStep []).length ≤ k := by
  obtain ⟨b, e, hb, hc⟩ := heap_cov h
  rw [← List.take_append_drop k l] at hc
  obtain ⟨x, c1, c2⟩ := cov_append.1 hc
  obtain ⟨i1, _, i3⟩ := clean_fold (out := []) ⟨rfl, rfl, fun p hp => by cases hp⟩ hb (fun p hp => hErr_may h p (List.mem_of_mem_take hp)) c1
  refine ⟨i1.err, ?_⟩
  have := List.length_take_le k l
  simp at i3
  omega
theorem take_fold {l : List PieceV} {k : Nat} {p : PieceV} (hp : l[k]? = some p) : (l.take (k + 1)).foldl clStep [] = clStep ((l.take k).foldl clStep []) p := by
  have hk : k < l.length := (List.getElem?_eq_some_iff.1 hp).1
  rw [List.take_add_one, hp, List.foldl_append]
  rfl
def CleanRel (w : World) (ps : List PieceV) (v : Value) (k : Nat) (wr : World) : Prop := Own wr w.heap.size 87 v ((ps.take k).foldl clStep []) ∧ ((ps.take k).foldl clStep [] = [] → v = .slice none 0 0) ∧ Below w.heap.size w wr
theorem clStep_nil {out : List PieceV} {p : PieceV} (h : out = []) : clStep out p = [freed p] := by subst h; rfl
theorem clStep_merge {out : List PieceV} {p q : PieceV} {j : Nat} (hl : out.length = j + 1) (hq : out[j]? = some q) (h1 : (freed p).state = 0) (h2 : q.state = 0) : clStep out p = out.set j { q with len := q.len + p.len } := by
  have hgl : out.getLast? = some q := by rw [List.getLast?_eq_getElem?, hl]; exact hq
  unfold clStep
  rw [hgl]
  simp only
  rw [if_pos ⟨h1, h2⟩]
  have hs := getLast_split hgl
  have hd : out.dropLast.length = j := by simp [hl]
  conv => rhs; rw [hs]
  rw [List.set_append_right _ _ (by omega), hd]
  simp
theorem clStep_push {out : List PieceV} {p q : PieceV} {j : Nat} (hl : out.length = j + 1) (hq : out[j]? = some q) (h : ¬ ((freed p).state = 0 ∧ q.state = 0)) : clStep out p = out ++ [freed p] := by
  have hgl : out.getLast? = some q := by rw [List.getLast?_eq_getElem?, hl]; exact hq
  unfold clStep
  rw [hgl]
  simp only
  rw [if_neg h]
set_option maxHeartbeats 4000000 in
set_option maxRecDepth 100000 in
theorem hclean_any (ao : Option Addr) (n cap : Nat) (ps : List PieceV) (w : World) (h : Sl w ao n ps) :
    Calls Try.prog 33 #[.slice ao n cap] w (ResPost w 87 (cleanF ps).1 (cleanF ps).2) := by
  have hl := h.len
  subst hl
  obtain ⟨i0, hi, hz0, hz1, hz2⟩ := info_parts info_piece
  have ck : ∀ W, Below w.heap.size w W → Calls Try.prog 42 #[.slice ao ps.length cap] W fun e w' => e = .returned (.int .i64 (heapCheck ps)) ∧ Below W.heap.size W w' := fun W hb => hcheck_any ao _ cap ps W (h.below hb)
  unfold ResPost
  by_cases hc : heapCheck ps = 0
  · obtain ⟨hlen, herr⟩ := heapCheck_zero.1 hc
    have e : cleanF ps = (cleanL ps, 0) := by unfold cleanF; rw [if_neg (by simp [hc])]
    rw [e]
    rw [hc] at ck
    have CK := Lib.hid ck
    have HSL := Lib.hid h
    have HER := Lib.hid herr
    clear e ck hc h herr
    go_enter Try.func33, Try.ntmps33
    go_wp2_with (go_at_call 42; ((with_reducible refine (CK.out _ (Below.refl _ _)).mono ?_); rintro e w1 ⟨rfl, hb1⟩))
    have HB1 := Lib.hid hb1
    clear hb1
    go_loopw [5, 16] (fun v i wr => ∃ k : Nat, k ≤ ps.length ∧ i = .int .i64 k ∧ CleanRel w ps v k wr) (fun _ i _ => ps.length - (intOf i).toNat)
    case atStart => exact ⟨0, Nat.zero_le _, rfl, Own.nil _ _ _, fun _ => rfl, HB1.out⟩
    case round =>
      obtain ⟨k, hk, rfl, hown, hnil, hb⟩ := hrel
      have HB := Lib.hid hb
      by_cases hlt : k < ps.length
      · obtain ⟨p, hp⟩ : ∃ p, ps[k]? = some p := ⟨_, List.getElem?_eq_getElem hlt⟩
        obtain ⟨ad, hao, hab, e0, e1, e2⟩ := sl_piece (HSL.out.below hb) hlt hp
        subst hao
        obtain ⟨hoe, hol⟩ := clean_upto HER.out k
        have hpm := mayB_iff.1 (hErr_may HER.out p (List.mem_of_getElem? hp))
        have htf := take_fold hp
        generalize (ps.take k).foldl clStep [] = out at *
        have c63 : out.length + 1 ≤ maxLen := by unfold maxLen; omega
        have c47 : (out.length + 1) * 24 ≤ 140737488355328 := by omega
        have C63 := Lib.hid c63
        have C47 := Lib.hid c47
        have HOWN := Lib.hid hown
        have hnlt : (k : Int) < ps.length := by omega
        obtain ⟨pb, pl, pst⟩ := p
        simp only at e0 e1 e2 hpm
        obtain ⟨pm0, pm1, pm2, pm3, pm4, pm5⟩ := hpm
        clear c63 c47 hp
        by_cases hon : out = []
        · have hcs := clStep_nil (p := ⟨pb, pl, pst⟩) hon
          rw [hcs] at htf
          have hu := hnil hon
          subst hu
          have HON := Lib.hid hon
          clear hnil hon hcs hown hoe hb
          by_cases h2 : pst = 2
          · have f2 : (pst == 2) = true := by simp [h2]
            have hfr : freed ⟨pb, pl, pst⟩ = ⟨pb, pl, 0⟩ := by unfold freed; rw [if_pos h2]
            rw [hfr] at htf
            clear hfr h2
            have hs : Sl ((wr.alloc (.cells #[.int .i64 pb, .int .i64 pl, .int .i64 0] 87)).alloc (.cells #[.int .i64 pb, .int .i64 pl, .int .i64 0] 87)) (some ⟨wr.heap.size + 1, 0, none⟩) 1 [(⟨pb, pl, 0⟩ : PieceV)] := by
              have h0 := own_lit (xs := [(⟨pb, pl, 0⟩ : PieceV)]) (wr.alloc (.cells #[.int .i64 pb, .int .i64 pl, .int .i64 0] 87)) 87 0 (Nat.zero_le _) #[.int .i64 pb, .int .i64 pl, .int .i64 0] 1 rfl (by decide) rfl
              obtain ⟨ao, c, e, h, _⟩ := h0.sl
              injection e with e _ _
              subst e
              simpa using h
            have HS := Lib.hid hs
            have CB := Lib.hid (show w.heap.size ≤ ((wr.alloc (.cells #[.int .i64 pb, .int .i64 pl, .int .i64 0] 87)).alloc (.cells #[.int .i64 pb, .int .i64 pl, .int .i64 0] 87)).heap.size by have := HB.out.size; simp; omega)
            clear hs
            have HTF := Lib.hid htf
            clear htf
            go_wp2_with (at_builtin; refine wpList_append_sl rfl (.tmp 52) (.tmp 54) 77 rfl w.heap.size 87 i0 _ 24 Try.underlying77 hi hz0 hz1 hz2 rfl (.slice none 0 0) out rfl ((HOWN.out.alloc _).alloc _) (some ⟨wr.heap.size + 1, 0, none⟩) 1 1 [(⟨pb, pl, 0⟩ : PieceV)] rfl HS.out C63.out C47.out CB.out ?_; intro v1 w1 hown1 hgr1 hat1; have HO1 := Lib.hid hown1; have HG1_ := Lib.hid hgr1; clear hown1 hgr1 hat1)
            go_roundw
            case rel =>
              refine ⟨k + 1, by omega, by go_num, ?_, ?_, ?_⟩
              · rw [HTF.out]; have := HO1.out; rw [HON.out] at this; exact this
              · rw [HTF.out]; intro h; simp at h
              · refine (show Below w.heap.size w ((wr.alloc (.cells #[.int .i64 pb, .int .i64 pl, .int .i64 0] 87)).alloc (.cells #[.int .i64 pb, .int .i64 pl, .int .i64 0] 87)) from ext_alloc (ext_alloc HB.out _) _).grown HG1_.out CB.out (fun k hk => ?_)
                simp [Value.ownBlock] at hk
            case measure => simp [intOf]; omega
          · have f2 : (pst == 2) = false := by simp [h2]
            have hfr : freed ⟨pb, pl, pst⟩ = ⟨pb, pl, pst⟩ := by unfold freed; rw [if_neg h2]
            by_cases h0 : pst = 0
            · have f0 : (pst == 0) = true := by simp [h0]
              rw [hfr] at htf
              clear hfr h2 h0
              have hs : Sl ((wr.alloc (.cells #[.int .i64 pb, .int .i64 pl, .int .i64 pst] 87)).alloc (.cells #[.int .i64 pb, .int .i64 pl, .int .i64 pst] 87)) (some ⟨wr.heap.size + 1, 0, none⟩) 1 [(⟨pb, pl, pst⟩ : PieceV)] := by
                have h0 := own_lit (xs := [(⟨pb, pl, pst⟩ : PieceV)]) (wr.alloc (.cells #[.int .i64 pb, .int .i64 pl, .int .i64 pst] 87)) 87 0 (Nat.zero_le _) #[.int .i64 pb, .int .i64 pl, .int .i64 pst] 1 rfl (by decide) rfl
                obtain ⟨ao, c, e, h, _⟩ := h0.sl
                injection e with e _ _
                subst e
                simpa using h
              have HS := Lib.hid hs
              have CB := Lib.hid (show w.heap.size ≤ ((wr.alloc (.cells #[.int .i64 pb, .int .i64 pl, .int .i64 pst] 87)).alloc (.cells #[.int .i64 pb, .int .i64 pl, .int .i64 pst] 87)).heap.size by have := HB.out.size; simp; omega)
              clear hs
              have HTF := Lib.hid htf
              clear htf
              go_wp2_with (at_builtin; refine wpList_append_sl rfl (.tmp 52) (.tmp 54) 77 rfl w.heap.size 87 i0 _ 24 Try.underlying77 hi hz0 hz1 hz2 rfl (.slice none 0 0) out rfl ((HOWN.out.alloc _).alloc _) (some ⟨wr.heap.size + 1, 0, none⟩) 1 1 [(⟨pb, pl, pst⟩ : PieceV)] rfl HS.out C63.out C47.out CB.out ?_; intro v1 w1 hown1 hgr1 hat1; have HO1 := Lib.hid hown1; have HG1_ := Lib.hid hgr1; clear hown1 hgr1 hat1)
              go_roundw
              case rel =>
                refine ⟨k + 1, by omega, by go_num, ?_, ?_, ?_⟩
                · rw [HTF.out]; have := HO1.out; rw [HON.out] at this; exact this
                · rw [HTF.out]; intro h; simp at h
                · refine (show Below w.heap.size w ((wr.alloc (.cells #[.int .i64 pb, .int .i64 pl, .int .i64 pst] 87)).alloc (.cells #[.int .i64 pb, .int .i64 pl, .int .i64 pst] 87)) from ext_alloc (ext_alloc HB.out _) _).grown HG1_.out CB.out (fun k hk => ?_)
                  simp [Value.ownBlock] at hk
              case measure => simp [intOf]; omega
            · have f0 : (pst == 0) = false := by simp [h0]
              rw [hfr] at htf
              clear hfr h2 h0
              have hs : Sl ((wr.alloc (.cells #[.int .i64 pb, .int .i64 pl, .int .i64 pst] 87)).alloc (.cells #[.int .i64 pb, .int .i64 pl, .int .i64 pst] 87)) (some ⟨wr.heap.size + 1, 0, none⟩) 1 [(⟨pb, pl, pst⟩ : PieceV)] := by
                have h0 := own_lit (xs := [(⟨pb, pl, pst⟩ : PieceV)]) (wr.alloc (.cells #[.int .i64 pb, .int .i64 pl, .int .i64 pst] 87)) 87 0 (Nat.zero_le _) #[.int .i64 pb, .int .i64 pl, .int .i64 pst] 1 rfl (by decide) rfl
                obtain ⟨ao, c, e, h, _⟩ := h0.sl
                injection e with e _ _
                subst e
                simpa using h
              have HS := Lib.hid hs
              have CB := Lib.hid (show w.heap.size ≤ ((wr.alloc (.cells #[.int .i64 pb, .int .i64 pl, .int .i64 pst] 87)).alloc (.cells #[.int .i64 pb, .int .i64 pl, .int .i64 pst] 87)).heap.size by have := HB.out.size; simp; omega)
              clear hs
              have HTF := Lib.hid htf
              clear htf
              go_wp2_with (at_builtin; refine wpList_append_sl rfl (.tmp 52) (.tmp 54) 77 rfl w.heap.size 87 i0 _ 24 Try.underlying77 hi hz0 hz1 hz2 rfl (.slice none 0 0) out rfl ((HOWN.out.alloc _).alloc _) (some ⟨wr.heap.size + 1, 0, none⟩) 1 1 [(⟨pb, pl, pst⟩ : PieceV)] rfl HS.out C63.out C47.out CB.out ?_; intro v1 w1 hown1 hgr1 hat1; have HO1 := Lib.hid hown1; have HG1_ := Lib.hid hgr1; clear hown1 hgr1 hat1)
              go_roundw
              case rel =>
                refine ⟨k + 1, by omega, by go_num, ?_, ?_, ?_⟩
                · rw [HTF.out]; have := HO1.out; rw [HON.out] at this; exact this
                · rw [HTF.out]; intro h; simp at h
                · refine (show Below w.heap.size w ((wr.alloc (.cells #[.int .i64 pb, .int .i64 pl, .int .i64 pst] 87)).alloc (.cells #[.int .i64 pb, .int .i64 pl, .int .i64 pst] 87)) from ext_alloc (ext_alloc HB.out _) _).grown HG1_.out CB.out (fun k hk => ?_)
                  simp [Value.ownBlock] at hk
              case measure => simp [intOf]; omega
        · obtain ⟨j, hj⟩ : ∃ j, out.length = j + 1 := ⟨out.length - 1, by have := List.length_pos_iff.2 hon; omega⟩
          obtain ⟨q, hq⟩ : ∃ q, out[j]? = some q := ⟨_, List.getElem?_eq_getElem (by omega)⟩
          have hqm := mayB_iff.1 (hErr_may hoe q (List.mem_of_getElem? hq))
          obtain ⟨g, c, hu, hg1, hg2, hsg, hfz⟩ := Own.some hown (by omega)
          subst hu
          rw [hj] at hsg
          obtain ⟨hgb, m0, m1, m2⟩ := sl_piece' hsg (show j < j + 1 by omega) hq
          simp only [Addr.add_lit, Nat.zero_add] at hgb m0 m1 m2
          have hmerge := clStep_merge (p := ⟨pb, pl, pst⟩) hj hq
          have hpush := clStep_push (p := ⟨pb, pl, pst⟩) hj hq
          obtain ⟨qb, ql, qst⟩ := q
          simp only at m0 m1 m2 hqm hmerge hpush
          obtain ⟨qm0, qm1, qm2, qm3, _, _⟩ := hqm
          have HQ := Lib.hid hq
          have HJ := Lib.hid hj
          have HG1 := Lib.hid hg1
          have hown2 := hown
          rw [hj] at hown2
          have HOWN2 := Lib.hid hown2
          have hj0 : (0 : Int) ≤ (j : Int) := by omega
          have hj1 : (j : Int) ≤ 100 := by omega
          clear hnil hon hown hoe hb hsg hq hown2
          simp only [hj]
          clear hj
          by_cases h2 : pst = 2
          · have f2 : (pst == 2) = true := by simp [h2]
            have hfr : freed ⟨pb, pl, pst⟩ = ⟨pb, pl, 0⟩ := by unfold freed; rw [if_pos h2]
            by_cases hq0 : qst = 0
            · have fq : (qst == 0) = true := by simp [hq0]
              rw [hmerge (by simp [hfr]) hq0] at htf
              have HTF := Lib.hid htf
              have hsum : IntKind.i64.wrap (ql + pl) = ql + pl := IntWalk.i64_in _ ⟨by omega, by omega⟩
              have HSUM := Lib.hid hsum
              have H0 := Lib.hid hfr
              clear htf hfr hpush hmerge hq0 hsum h2
              go_upto_region 12 with (fail)
              go_region
              go_wp2_with fail
              go_roundw
              case rel =>
                refine ⟨k + 1, by omega, by go_num, ?_, ?_, ?_⟩
                · rw [HTF.out]; have h1 := (own_set_cell (j := 1) (y := (⟨qb, ql + pl, qst⟩ : PieceV)) (u := .int .i64 (ql + pl)) HOWN.out HQ.out (by decide) rfl).1; rw [HJ.out] at h1; exact (h1.alloc _).drew
                · rw [HTF.out]; intro h; have := HJ.out; rw [← List.length_set] at this; rw [h] at this; simp at this
                · exact ext_drew (ext_alloc (ext_set HB.out (p := ⟨g, j * 3 + 1, none⟩) HG1.out _) _)
              case measure => simp [intOf]; omega
            · have fq : (qst == 0) = false := by simp [hq0]
              rw [hpush (by rintro ⟨_, h⟩; exact hq0 h), hfr] at htf
              clear hfr hpush hmerge hq0 h2
              have hs : Sl ((wr.alloc (.cells #[.int .i64 pb, .int .i64 pl, .int .i64 0] 87)).alloc (.cells #[.int .i64 pb, .int .i64 pl, .int .i64 0] 87)) (some ⟨wr.heap.size + 1, 0, none⟩) 1 [(⟨pb, pl, 0⟩ : PieceV)] := by
                have h0 := own_lit (xs := [(⟨pb, pl, 0⟩ : PieceV)]) (wr.alloc (.cells #[.int .i64 pb, .int .i64 pl, .int .i64 0] 87)) 87 0 (Nat.zero_le _) #[.int .i64 pb, .int .i64 pl, .int .i64 0] 1 rfl (by decide) rfl
                obtain ⟨ao, c, e, h, _⟩ := h0.sl
                injection e with e _ _
                subst e
                simpa using h
              have HS := Lib.hid hs
              have CB := Lib.hid (show w.heap.size ≤ ((wr.alloc (.cells #[.int .i64 pb, .int .i64 pl, .int .i64 0] 87)).alloc (.cells #[.int .i64 pb, .int .i64 pl, .int .i64 0] 87)).heap.size by have := HB.out.size; simp; omega)
              clear hs
              have HTF := Lib.hid htf
              clear htf
              go_wp2_with (at_builtin; refine wpList_append_sl rfl (.tmp 52) (.tmp 54) 77 rfl w.heap.size 87 i0 _ 24 Try.underlying77 hi hz0 hz1 hz2 rfl (.slice (some ⟨g, 0, none⟩) (j + 1) c) out rfl ((HOWN2.out.alloc _).alloc _) (some ⟨wr.heap.size + 1, 0, none⟩) 1 1 [(⟨pb, pl, 0⟩ : PieceV)] rfl HS.out C63.out C47.out CB.out ?_; intro v1 w1 hown1 hgr1 hat1; have HO1 := Lib.hid hown1; have HG1_ := Lib.hid hgr1; clear hown1 hgr1 hat1)
              go_roundw
              case rel =>
                refine ⟨k + 1, by omega, by go_num, ?_, ?_, ?_⟩
                · rw [HTF.out]; exact HO1.out
                · rw [HTF.out]; intro h; simp at h
                · refine (show Below w.heap.size w ((wr.alloc (.cells #[.int .i64 pb, .int .i64 pl, .int .i64 0] 87)).alloc (.cells #[.int .i64 pb, .int .i64 pl, .int .i64 0] 87)) from ext_alloc (ext_alloc HB.out _) _).grown HG1_.out CB.out (fun k hk => ?_)
                  simp [Value.ownBlock] at hk; have := HG1.out; omega
              case measure => simp [intOf]; omega
          · have f2 : (pst == 2) = false := by simp [h2]
            have hfr : freed ⟨pb, pl, pst⟩ = ⟨pb, pl, pst⟩ := by unfold freed; rw [if_neg h2]
            by_cases h0 : pst = 0
            · have f0 : (pst == 0) = true := by simp [h0]
              by_cases hq0 : qst = 0
              · have fq : (qst == 0) = true := by simp [hq0]
                rw [hmerge (by rw [hfr]; exact h0) hq0] at htf
                have HTF := Lib.hid htf
                have hsum : IntKind.i64.wrap (ql + pl) = ql + pl := IntWalk.i64_in _ ⟨by omega, by omega⟩
                have HSUM := Lib.hid hsum
                have H0 := Lib.hid h0
                clear htf hfr hpush hmerge hq0 hsum h2 h0
                go_upto_region 12 with (fail)
                go_region
                go_wp2_with fail
                go_roundw
                case rel =>
                  refine ⟨k + 1, by omega, by go_num, ?_, ?_, ?_⟩
                  · rw [HTF.out]; have h1 := (own_set_cell (j := 1) (y := (⟨qb, ql + pl, qst⟩ : PieceV)) (u := .int .i64 (ql + pl)) HOWN.out HQ.out (by decide) rfl).1; rw [HJ.out] at h1; exact (h1.alloc _).drew
                  · rw [HTF.out]; intro h; have := HJ.out; rw [← List.length_set] at this; rw [h] at this; simp at this
                  · exact ext_drew (ext_alloc (ext_set HB.out (p := ⟨g, j * 3 + 1, none⟩) HG1.out _) _)
                case measure => simp [intOf]; omega
              · have fq : (qst == 0) = false := by simp [hq0]
                rw [hpush (by rintro ⟨_, h⟩; exact hq0 h), hfr] at htf
                clear hfr hpush hmerge hq0 h2 h0
                have hs : Sl ((wr.alloc (.cells #[.int .i64 pb, .int .i64 pl, .int .i64 pst] 87)).alloc (.cells #[.int .i64 pb, .int .i64 pl, .int .i64 pst] 87)) (some ⟨wr.heap.size + 1, 0, none⟩) 1 [(⟨pb, pl, pst⟩ : PieceV)] := by
                  have h0 := own_lit (xs := [(⟨pb, pl, pst⟩ : PieceV)]) (wr.alloc (.cells #[.int .i64 pb, .int .i64 pl, .int .i64 pst] 87)) 87 0 (Nat.zero_le _) #[.int .i64 pb, .int .i64 pl, .int .i64 pst] 1 rfl (by decide) rfl
                  obtain ⟨ao, c, e, h, _⟩ := h0.sl
                  injection e with e _ _
                  subst e
                  simpa using h
                have HS := Lib.hid hs
                have CB := Lib.hid (show w.heap.size ≤ ((wr.alloc (.cells #[.int .i64 pb, .int .i64 pl, .int .i64 pst] 87)).alloc (.cells #[.int .i64 pb, .int .i64 pl, .int .i64 pst] 87)).heap.size by have := HB.out.size; simp; omega)
                clear hs
                have HTF := Lib.hid htf
                clear htf
                go_wp2_with (at_builtin; refine wpList_append_sl rfl (.tmp 52) (.tmp 54) 77 rfl w.heap.size 87 i0 _ 24 Try.underlying77 hi hz0 hz1 hz2 rfl (.slice (some ⟨g, 0, none⟩) (j + 1) c) out rfl ((HOWN2.out.alloc _).alloc _) (some ⟨wr.heap.size + 1, 0, none⟩) 1 1 [(⟨pb, pl, pst⟩ : PieceV)] rfl HS.out C63.out C47.out CB.out ?_; intro v1 w1 hown1 hgr1 hat1; have HO1 := Lib.hid hown1; have HG1_ := Lib.hid hgr1; clear hown1 hgr1 hat1)
                go_roundw
                case rel =>
                  refine ⟨k + 1, by omega, by go_num, ?_, ?_, ?_⟩
                  · rw [HTF.out]; exact HO1.out
                  · rw [HTF.out]; intro h; simp at h
                  · refine (show Below w.heap.size w ((wr.alloc (.cells #[.int .i64 pb, .int .i64 pl, .int .i64 pst] 87)).alloc (.cells #[.int .i64 pb, .int .i64 pl, .int .i64 pst] 87)) from ext_alloc (ext_alloc HB.out _) _).grown HG1_.out CB.out (fun k hk => ?_)
                    simp [Value.ownBlock] at hk; have := HG1.out; omega
                case measure => simp [intOf]; omega
            · have f0 : (pst == 0) = false := by simp [h0]
              rw [hpush (by rw [hfr]; rintro ⟨h, _⟩; exact h0 h), hfr] at htf
              clear hfr hpush hmerge h2 h0
              have hs : Sl ((wr.alloc (.cells #[.int .i64 pb, .int .i64 pl, .int .i64 pst] 87)).alloc (.cells #[.int .i64 pb, .int .i64 pl, .int .i64 pst] 87)) (some ⟨wr.heap.size + 1, 0, none⟩) 1 [(⟨pb, pl, pst⟩ : PieceV)] := by
                have h0 := own_lit (xs := [(⟨pb, pl, pst⟩ : PieceV)]) (wr.alloc (.cells #[.int .i64 pb, .int .i64 pl, .int .i64 pst] 87)) 87 0 (Nat.zero_le _) #[.int .i64 pb, .int .i64 pl, .int .i64 pst] 1 rfl (by decide) rfl
                obtain ⟨ao, c, e, h, _⟩ := h0.sl
                injection e with e _ _
                subst e
                simpa using h
              have HS := Lib.hid hs
              have CB := Lib.hid (show w.heap.size ≤ ((wr.alloc (.cells #[.int .i64 pb, .int .i64 pl, .int .i64 pst] 87)).alloc (.cells #[.int .i64 pb, .int .i64 pl, .int .i64 pst] 87)).heap.size by have := HB.out.size; simp; omega)
              clear hs
              have HTF := Lib.hid htf
              clear htf
              go_wp2_with (at_builtin; refine wpList_append_sl rfl (.tmp 52) (.tmp 54) 77 rfl w.heap.size 87 i0 _ 24 Try.underlying77 hi hz0 hz1 hz2 rfl (.slice (some ⟨g, 0, none⟩) (j + 1) c) out rfl ((HOWN2.out.alloc _).alloc _) (some ⟨wr.heap.size + 1, 0, none⟩) 1 1 [(⟨pb, pl, pst⟩ : PieceV)] rfl HS.out C63.out C47.out CB.out ?_; intro v1 w1 hown1 hgr1 hat1; have HO1 := Lib.hid hown1; have HG1_ := Lib.hid hgr1; clear hown1 hgr1 hat1)
              go_roundw
              case rel =>
                refine ⟨k + 1, by omega, by go_num, ?_, ?_, ?_⟩
                · rw [HTF.out]; exact HO1.out
                · rw [HTF.out]; intro h; simp at h
                · refine (show Below w.heap.size w ((wr.alloc (.cells #[.int .i64 pb, .int .i64 pl, .int .i64 pst] 87)).alloc (.cells #[.int .i64 pb, .int .i64 pl, .int .i64 pst] 87)) from ext_alloc (ext_alloc HB.out _) _).grown HG1_.out CB.out (fun k hk => ?_)
                  simp [Value.ownBlock] at hk; have := HG1.out; omega
              case measure => simp [intOf]; omega
      · have hnlt : ¬ ((k : Int) < ps.length) := by omega
        have hke : k = ps.length := by omega
        rw [hke, List.take_of_length_le (Nat.le_refl _)] at hown
        have HOWN := Lib.hid hown
        clear hown hnil hke hb
        go_wp2
        go_ret2
        exact ⟨_, rfl, HOWN.out, HB.out⟩
  · have e : cleanF ps = ([], heapCheck ps) := by unfold cleanF; rw [if_pos hc]
    rw [e]
    have g : (heapCheck ps == 0) = false := by simpa using hc
    have g' : (heapCheck ps != 0) = true := by simpa using hc
    generalize heapCheck ps = c at *
    have CK := Lib.hid ck
    clear e ck hc h
    go_enter Try.func33, Try.ntmps33
    go_wp2_with (go_at_call 42; ((with_reducible refine (CK.out _ (Below.refl _ _)).mono ?_); rintro e w1 ⟨rfl, hb1⟩))
    go_ret2
    exact ⟨_, rfl, Own.nil _ _ _, hb1⟩
end Go.Proofs.Ytmmmmeeepieemaa
