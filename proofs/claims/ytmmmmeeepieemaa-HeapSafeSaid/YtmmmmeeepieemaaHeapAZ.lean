import Derived.BigQuiet
import Derived.Deep.QuietTactic
import Derived.Test.YtmmmmeeepieemaaHeapMathZ
import Derived.Test.YtmmmmeeepieemaaRows
import Derived.WalkKit
import Derived.WalkSpells
/- What may, Check and New of package heap compute. -/
namespace Go.Proofs.Ytmmmmeeepieemaa
open Go.RowKit
set_option linter.unusedVariables false
set_option linter.unusedSimpArgs false
set_option maxHeartbeats 1000000 in
theorem hmay_any (b l s : Int) (w : World) :
    Calls Try.prog 40 #[.agg #[.int .i64 b, .int .i64 l, .int .i64 s]] w fun e w' => e = .returned (.bool (mayB ⟨b, l, s⟩)) ∧ Below w.heap.size w w' := by
  by_cases h0 : 0 ≤ b
  · by_cases h1 : 1 ≤ l
    · by_cases h2 : l ≤ 400
      · by_cases h3 : b ≤ 400 - l
        · by_cases h4 : 0 ≤ s
          · by_cases h5 : s ≤ 2
            · have e : mayB ⟨b, l, s⟩ = true := mayB_iff.2 ⟨by simp only; omega, by simp only; omega, by simp only; omega, by simp only; omega, by simp only; omega, by simp only; omega⟩
              rw [e]
              clear e
              go_enter Try.func40, Try.ntmps40
              go_wp2
              go_ret
              exact ⟨rfl, ext_alloc (Below.refl _ _) _⟩
            · have e : mayB ⟨b, l, s⟩ = false := by
                cases h : mayB ⟨b, l, s⟩
                · rfl
                · have := mayB_iff.1 h; simp only at this; omega
              rw [e]
              clear e
              go_enter Try.func40, Try.ntmps40
              go_wp2
              go_ret
              exact ⟨rfl, ext_alloc (Below.refl _ _) _⟩
          · have e : mayB ⟨b, l, s⟩ = false := by
              cases h : mayB ⟨b, l, s⟩
              · rfl
              · have := mayB_iff.1 h; simp only at this; omega
            rw [e]
            clear e
            go_enter Try.func40, Try.ntmps40
            go_wp2
            go_ret
            exact ⟨rfl, ext_alloc (Below.refl _ _) _⟩
        · have e : mayB ⟨b, l, s⟩ = false := by
            cases h : mayB ⟨b, l, s⟩
            · rfl
            · have := mayB_iff.1 h; simp only at this; omega
          rw [e]
          clear e
          go_enter Try.func40, Try.ntmps40
          go_wp2
          go_ret
          exact ⟨rfl, ext_alloc (Below.refl _ _) _⟩
      · have e : mayB ⟨b, l, s⟩ = false := by
          cases h : mayB ⟨b, l, s⟩
          · rfl
          · have := mayB_iff.1 h; simp only at this; omega
        rw [e]
        clear e
        go_enter Try.func40, Try.ntmps40
        go_wp2
        go_ret
        exact ⟨rfl, ext_alloc (Below.refl _ _) _⟩
    · have e : mayB ⟨b, l, s⟩ = false := by
        cases h : mayB ⟨b, l, s⟩
        · rfl
        · have := mayB_iff.1 h; simp only at this; omega
      rw [e]
      clear e
      go_enter Try.func40, Try.ntmps40
      go_wp2
      go_ret
      exact ⟨rfl, ext_alloc (Below.refl _ _) _⟩
  · have e : mayB ⟨b, l, s⟩ = false := by
      cases h : mayB ⟨b, l, s⟩
      · rfl
      · have := mayB_iff.1 h; simp only at this; omega
    rw [e]
    clear e
    go_enter Try.func40, Try.ntmps40
    go_wp2
    go_ret
    exact ⟨rfl, ext_alloc (Below.refl _ _) _⟩
theorem hErr_drop {l : List PieceV} {k : Nat} {p : PieceV} {o : Option PieceV} (hp : l[k]? = some p) : hErr o (l.drop k) = if mayB p = false then 1 else if badO o p = true then 5 else hErr (some p) (l.drop (k + 1)) := by
  have hk : k < l.length := (List.getElem?_eq_some_iff.1 hp).1
  rw [List.drop_eq_getElem_cons hk, hErr]
  rw [List.getElem?_eq_getElem hk] at hp
  injection hp with hp
  rw [hp]
theorem sl_piece' {w : World} {a : Addr} {n : Nat} {ks : List PieceV} (h : Sl w (some a) n ks) {i : Nat} (hi : i < n) {x : PieceV} (hx : ks[i]? = some x) : (a.add (i * 3)).block < w.heap.size ∧
    w.cell? (a.add (i * 3)) = some (.int .i64 x.base) ∧ w.cell? ⟨(a.add (i * 3)).block, (a.add (i * 3)).off + 1, none⟩ = some (.int .i64 x.len) ∧ w.cell? ⟨(a.add (i * 3)).block, (a.add (i * 3)).off + 2, none⟩ = some (.int .i64 x.state) := by
  obtain ⟨b, e, h0, h1⟩ := sl_piece h hi hx
  injection e with e
  subst e
  exact ⟨h0, h1⟩
def prevO (l : List PieceV) (k : Nat) : Option PieceV := if k = 0 then none else l[k - 1]?
set_option maxHeartbeats 2000000 in
theorem hcheck_any (ao : Option Addr) (n cap : Nat) (ps : List PieceV) (w : World) (h : Sl w ao n ps) :
    Calls Try.prog 42 #[.slice ao n cap] w fun e w' => e = .returned (.int .i64 (heapCheck ps)) ∧ Below w.heap.size w w' := by
  have hl := h.len
  subst hl
  have hm := h.max
  unfold maxLen at hm
  by_cases h4 : 30 < ps.length
  · have e : heapCheck ps = 2 := by unfold heapCheck; rw [if_pos h4]
    rw [e]
    clear e
    go_enter Try.func42, Try.ntmps42
    go_wp2
    go_ret
    exact ⟨rfl, Below.refl _ _⟩
  · have e : heapCheck ps = hErr none ps := by unfold heapCheck; rw [if_neg h4]
    rw [e]
    clear e
    have HSL := Lib.hid h
    clear h
    go_enter Try.func42, Try.ntmps42
    go_wp2
    go_loopw [10] (fun i wr => ∃ k : Nat, k ≤ ps.length ∧ i = .int .i64 k ∧ hErr none ps = hErr (prevO ps k) (ps.drop k) ∧ (∀ q, prevO ps k = some q → mayB q = true) ∧ Below w.heap.size w wr) (fun i _ => ps.length - (intOf i).toNat)
    case atStart => exact ⟨0, Nat.zero_le _, rfl, rfl, fun q hq => (by cases hq), Below.refl _ _⟩
    case round =>
      obtain ⟨k, hk, rfl, hf, hpm, hb⟩ := hrel
      have HB := Lib.hid hb
      clear hb
      by_cases hlt : k < ps.length
      · obtain ⟨p, hp⟩ : ∃ p, ps[k]? = some p := ⟨_, List.getElem?_eq_getElem hlt⟩
        have hd := hErr_drop (o := prevO ps k) hp
        obtain ⟨ad, hao, hab, e0, e1, e2⟩ := sl_piece (HSL.out.below HB.out) hlt hp
        subst hao
        have hnext : prevO ps (k + 1) = some p := by unfold prevO; rw [if_neg (by omega)]; exact hp
        have cm := fun W => hmay_any p.base p.len p.state W
        cases hmb : mayB p
        · rw [if_pos hmb] at hd
          obtain ⟨pb, pl, pst⟩ := p
          rw [hmb] at cm
          simp only at cm e0 e1 e2
          have CM := Lib.hid cm
          have HF := Lib.hid (hf.trans hd)
          clear cm hd hf hp hmb hnext hpm
          go_wp2_with (go_at_call 40; ((with_reducible refine (CM.out _).mono ?_); rintro e w1 ⟨rfl, hb1⟩))
          go_ret
          exact ⟨ret_int HF.out.symm, ext_trans (ext_alloc HB.out _) hb1⟩
        · rw [if_neg (by simp [hmb])] at hd
          rw [hmb] at cm
          by_cases hk0 : k = 0
          · have hbo : badO (prevO ps k) p = false := by unfold prevO; rw [if_pos hk0]; rfl
            rw [if_neg (by simp [hbo])] at hd
            have d0 : decide ((0 : Int) < (k : Int)) = false := by simp [hk0]
            have d0' : decide (0 < k) = false := by simp [hk0]
            obtain ⟨pb, pl, pst⟩ := p
            simp only at cm e0 e1 e2
            have CM := Lib.hid cm
            have HF := Lib.hid (hf.trans hd)
            have HN := Lib.hid hnext
            have HM := Lib.hid hmb
            have hab' := hab
            clear cm hd hf hp hmb hnext hpm hbo hk0
            go_wp2_with (go_at_call 40; ((with_reducible refine (CM.out _).mono ?_); rintro e w1 ⟨rfl, hb1⟩; have pB : Bk w1 (wr.heap.size) 87 #[.int .i64 pb, .int .i64 pl, .int .i64 pst] := bk_keep hb1 (by repeat (first | with_reducible assumption | with_reducible exact bk_new _ _ _ | (with_reducible refine bk_new' _ _ ?_; simp; done) | with_reducible refine bk_drew ?_ | with_reducible refine bk_drewN _ ?_ | with_reducible refine bk_old _ ?_ | (with_reducible refine bk_far' _ (by omega) ?_) | with_reducible apply bk_set' | rfl)); (try clear p0 p1 p2); obtain ⟨p0, p1, p2⟩ := cells3 pB; have pL := pB.lt; have hB1 : Below w.heap.size w w1 := ext_trans (ext_alloc HB.out _) hb1; have HB1 := Lib.hid hB1; clear hB1; have bx : (ad.add (k * 3)).block < w1.heap.size := Nat.lt_of_lt_of_le hab (Nat.le_trans (by simp) hb1.size)))
            go_quiet (fail)
            go_wp2
            go_roundw
            case rel => exact ⟨k + 1, by omega, by go_num, HN.out.symm ▸ HF.out, fun q hq => by rw [HN.out] at hq; injection hq with hq; exact hq ▸ HM.out, ext_drewN HB1.out _⟩
            case measure => simp [intOf]; omega
          · obtain ⟨q, hq⟩ : ∃ q, ps[k - 1]? = some q := ⟨_, List.getElem?_eq_getElem (by omega)⟩
            have hpo : prevO ps k = some q := by unfold prevO; rw [if_neg hk0]; exact hq
            have hqm := mayB_iff.1 (hpm q hpo)
            obtain ⟨bd, hbo, hbb, f0, f1, f2⟩ := sl_piece (HSL.out.below HB.out) (show k - 1 < ps.length by omega) hq
            injection hbo with hbo
            subst hbo
            rw [hpo] at hd hf
            have d0 : decide ((0 : Int) < (k : Int)) = true := by simp; omega
            have d0' : decide (0 < k) = true := by simp; omega
            have q0 : (0 : Int) ≤ ((k - 1 : Nat) : Int) := by omega
            have q1 : ((k - 1 : Nat) : Int) < ps.length := by omega
            obtain ⟨pb, pl, pst⟩ := p
            obtain ⟨qb, ql, qst⟩ := q
            simp only at cm e0 e1 e2 f0 f1 f2 hqm
            obtain ⟨qm0, qm1, qm2, qm3, _, _⟩ := hqm
            have hsum : IntKind.i64.wrap (qb + ql) = qb + ql := IntWalk.i64_in _ ⟨by omega, by omega⟩
            have hidx : IntKind.i64.wrap ((k - 1 : Nat) : Int) = ((k - 1 : Nat) : Int) := IntWalk.i64_in _ ⟨by omega, by omega⟩
            have hidx2 : (k : Int) - 1 = ((k - 1 : Nat) : Int) := by omega
            have hq1 : k - 1 < ps.length := by omega
            have HQ := Lib.hid hq
            have CM := Lib.hid cm
            have HN := Lib.hid hnext
            have HM := Lib.hid hmb
            have HSUM := Lib.hid hsum
            have HIDX := Lib.hid hidx
            have HIDX2 := Lib.hid hidx2
            clear cm hp hq hmb hnext hpm hpo hsum hidx hidx2 f0 f1 f2
            by_cases b1 : qb + ql = pb
            · have g1 : (qb + ql == pb) = true := by simp [b1]
              have g1' : (qb + ql != pb) = false := by simp [b1]
              have B1 := Lib.hid b1
              clear b1
              by_cases b2 : qst = 0
              · have g2 : (qst == 0) = true := by simp [b2]
                have B2 := Lib.hid b2
                clear b2
                by_cases b3 : pst = 0
                · have g3 : (pst == 0) = true := by simp [b3]
                  rw [if_pos (by simp only [badO, badB]; simp [B2.out, b3])] at hd
                  have HF := Lib.hid (hf.trans hd)
                  have B3 := Lib.hid b3
                  clear hd hf b3
                  go_wp2_with (go_at_call 40; ((with_reducible refine (CM.out _).mono ?_); rintro e w1 ⟨rfl, hb1⟩; have pB : Bk w1 (wr.heap.size) 87 #[.int .i64 pb, .int .i64 pl, .int .i64 pst] := bk_keep hb1 (by repeat (first | with_reducible assumption | with_reducible exact bk_new _ _ _ | (with_reducible refine bk_new' _ _ ?_; simp; done) | with_reducible refine bk_drew ?_ | with_reducible refine bk_drewN _ ?_ | with_reducible refine bk_old _ ?_ | (with_reducible refine bk_far' _ (by omega) ?_) | with_reducible apply bk_set' | rfl)); (try clear p0 p1 p2); obtain ⟨p0, p1, p2⟩ := cells3 pB; have pL := pB.lt; obtain ⟨_, f0, f1, f2⟩ := sl_piece' (HSL.out.below (ext_trans (ext_alloc HB.out _) hb1)) hq1 HQ.out; simp only at f0 f1 f2; have hB1 : Below w.heap.size w w1 := ext_trans (ext_alloc HB.out _) hb1; have HB1 := Lib.hid hB1; clear hB1; have bx : (ad.add (k * 3)).block < w1.heap.size := Nat.lt_of_lt_of_le hab (Nat.le_trans (by simp) hb1.size)))
                  have hsum := HSUM.out
                  have hidx := HIDX.out
                  have hidx2 := HIDX2.out
                  go_quiet (fail)
                  clear hsum hidx hidx2
                  go_wp2
                  go_ret
                  exact ⟨ret_int HF.out.symm, ext_drewN HB1.out _⟩
                · have g3 : (pst == 0) = false := by simp [b3]
                  rw [if_neg (by simp only [badO, badB]; simp [B1.out, b3])] at hd
                  have HF := Lib.hid (hf.trans hd)
                  clear hd hf b3
                  go_wp2_with (go_at_call 40; ((with_reducible refine (CM.out _).mono ?_); rintro e w1 ⟨rfl, hb1⟩; have pB : Bk w1 (wr.heap.size) 87 #[.int .i64 pb, .int .i64 pl, .int .i64 pst] := bk_keep hb1 (by repeat (first | with_reducible assumption | with_reducible exact bk_new _ _ _ | (with_reducible refine bk_new' _ _ ?_; simp; done) | with_reducible refine bk_drew ?_ | with_reducible refine bk_drewN _ ?_ | with_reducible refine bk_old _ ?_ | (with_reducible refine bk_far' _ (by omega) ?_) | with_reducible apply bk_set' | rfl)); (try clear p0 p1 p2); obtain ⟨p0, p1, p2⟩ := cells3 pB; have pL := pB.lt; obtain ⟨_, f0, f1, f2⟩ := sl_piece' (HSL.out.below (ext_trans (ext_alloc HB.out _) hb1)) hq1 HQ.out; simp only at f0 f1 f2; have hB1 : Below w.heap.size w w1 := ext_trans (ext_alloc HB.out _) hb1; have HB1 := Lib.hid hB1; clear hB1; have bx : (ad.add (k * 3)).block < w1.heap.size := Nat.lt_of_lt_of_le hab (Nat.le_trans (by simp) hb1.size)))
                  have hsum := HSUM.out
                  have hidx := HIDX.out
                  have hidx2 := HIDX2.out
                  go_quiet (fail)
                  clear hsum hidx hidx2
                  go_wp2
                  go_roundw
                  case rel => exact ⟨k + 1, by omega, by go_num, HN.out.symm ▸ HF.out, fun q hq => by rw [HN.out] at hq; injection hq with hq; exact hq ▸ HM.out, ext_drewN HB1.out _⟩
                  case measure => simp [intOf]; omega
              · have g2 : (qst == 0) = false := by simp [b2]
                rw [if_neg (by simp only [badO, badB]; simp [B1.out, b2])] at hd
                have HF := Lib.hid (hf.trans hd)
                clear hd hf b2
                go_wp2_with (go_at_call 40; ((with_reducible refine (CM.out _).mono ?_); rintro e w1 ⟨rfl, hb1⟩; have pB : Bk w1 (wr.heap.size) 87 #[.int .i64 pb, .int .i64 pl, .int .i64 pst] := bk_keep hb1 (by repeat (first | with_reducible assumption | with_reducible exact bk_new _ _ _ | (with_reducible refine bk_new' _ _ ?_; simp; done) | with_reducible refine bk_drew ?_ | with_reducible refine bk_drewN _ ?_ | with_reducible refine bk_old _ ?_ | (with_reducible refine bk_far' _ (by omega) ?_) | with_reducible apply bk_set' | rfl)); (try clear p0 p1 p2); obtain ⟨p0, p1, p2⟩ := cells3 pB; have pL := pB.lt; obtain ⟨_, f0, f1, f2⟩ := sl_piece' (HSL.out.below (ext_trans (ext_alloc HB.out _) hb1)) hq1 HQ.out; simp only at f0 f1 f2; have hB1 : Below w.heap.size w w1 := ext_trans (ext_alloc HB.out _) hb1; have HB1 := Lib.hid hB1; clear hB1; have bx : (ad.add (k * 3)).block < w1.heap.size := Nat.lt_of_lt_of_le hab (Nat.le_trans (by simp) hb1.size)))
                have hsum := HSUM.out
                have hidx := HIDX.out
                have hidx2 := HIDX2.out
                go_quiet (fail)
                clear hsum hidx hidx2
                go_wp2
                go_roundw
                case rel => exact ⟨k + 1, by omega, by go_num, HN.out.symm ▸ HF.out, fun q hq => by rw [HN.out] at hq; injection hq with hq; exact hq ▸ HM.out, ext_drewN HB1.out _⟩
                case measure => simp [intOf]; omega
            · have g1 : (qb + ql == pb) = false := by simp [b1]
              have g1' : (qb + ql != pb) = true := by simp [b1]
              rw [if_pos (by simp only [badO, badB]; simp [b1])] at hd
              have HF := Lib.hid (hf.trans hd)
              clear hd hf b1
              go_wp2_with (go_at_call 40; ((with_reducible refine (CM.out _).mono ?_); rintro e w1 ⟨rfl, hb1⟩; have pB : Bk w1 (wr.heap.size) 87 #[.int .i64 pb, .int .i64 pl, .int .i64 pst] := bk_keep hb1 (by repeat (first | with_reducible assumption | with_reducible exact bk_new _ _ _ | (with_reducible refine bk_new' _ _ ?_; simp; done) | with_reducible refine bk_drew ?_ | with_reducible refine bk_drewN _ ?_ | with_reducible refine bk_old _ ?_ | (with_reducible refine bk_far' _ (by omega) ?_) | with_reducible apply bk_set' | rfl)); (try clear p0 p1 p2); obtain ⟨p0, p1, p2⟩ := cells3 pB; have pL := pB.lt; obtain ⟨_, f0, f1, f2⟩ := sl_piece' (HSL.out.below (ext_trans (ext_alloc HB.out _) hb1)) hq1 HQ.out; simp only at f0 f1 f2; have hB1 : Below w.heap.size w w1 := ext_trans (ext_alloc HB.out _) hb1; have HB1 := Lib.hid hB1; clear hB1; have bx : (ad.add (k * 3)).block < w1.heap.size := Nat.lt_of_lt_of_le hab (Nat.le_trans (by simp) hb1.size)))
              have hsum := HSUM.out
              have hidx := HIDX.out
              have hidx2 := HIDX2.out
              go_quiet (fail)
              clear hsum hidx hidx2
              go_wp2
              go_ret
              exact ⟨ret_int HF.out.symm, ext_drewN HB1.out _⟩
      · have hz : hErr (prevO ps k) (ps.drop k) = 0 := by rw [List.drop_of_length_le (by omega)]; rfl
        have HF := Lib.hid (hf.trans hz)
        have hnlt : ¬ ((k : Int) < ps.length) := by omega
        clear hf hz hpm
        go_wp2
        go_ret
        exact ⟨ret_int HF.out.symm, HB.out⟩
/-- A result of a list of the call's own and an error. -/
def ResPost (w : World) (T : TypeId) (xs : List PieceV) (c : Int) (e : Ending) (w' : World) : Prop := ∃ v, e = .returned (.tuple #[v, .int .i64 c]) ∧ Own w' w.heap.size T v xs ∧ Below w.heap.size w w'
set_option maxHeartbeats 1000000 in
theorem hnew_any (b n : Int) (w : World) : Calls Try.prog 27 #[.int .i64 b, .int .i64 n] w (ResPost w 87 (if mayB ⟨b, n, 0⟩ = true then [⟨b, n, 0⟩] else []) (if mayB ⟨b, n, 0⟩ = true then 0 else 1)) := by
  unfold ResPost
  have cm := fun W => hmay_any b n 0 W
  cases hm : mayB ⟨b, n, 0⟩
  · rw [hm] at cm
    simp only [Bool.false_eq_true, if_false]
    have CM := Lib.hid cm
    clear cm hm
    go_enter Try.func27, Try.ntmps27
    go_wp2_with (go_at_call 40; ((with_reducible refine (CM.out _).mono ?_); rintro e w1 ⟨rfl, hb1⟩))
    go_ret2
    exact ⟨_, rfl, Own.nil _ _ _, ext_trans (ext_alloc (Below.refl _ _) _) hb1⟩
  · rw [hm] at cm
    simp only [if_true]
    have CM := Lib.hid cm
    clear cm hm
    go_enter Try.func27, Try.ntmps27
    go_wp2_with (go_at_call 40; ((with_reducible refine (CM.out _).mono ?_); rintro e w1 ⟨rfl, hb1⟩; have pB : Bk w1 (w.heap.size) 87 #[.int .i64 b, .int .i64 n, .int .i64 0] := bk_keep hb1 (by repeat (first | with_reducible assumption | with_reducible exact bk_new _ _ _ | (with_reducible refine bk_new' _ _ ?_; simp; done) | with_reducible refine bk_drew ?_ | with_reducible refine bk_drewN _ ?_ | with_reducible refine bk_old _ ?_ | (with_reducible refine bk_far' _ (by omega) ?_) | with_reducible apply bk_set' | rfl)); (try clear p0 p1 p2); obtain ⟨p0, p1, p2⟩ := cells3 pB; have pL := pB.lt; have hB1 : Below w.heap.size w w1 := ext_trans (ext_alloc (Below.refl _ _) _) hb1; have HB1 := Lib.hid hB1; clear hB1))
    go_ret2
    exact ⟨_, rfl, own_lit w1 87 w.heap.size HB1.out.size #[.int .i64 b, .int .i64 n, .int .i64 0] 1 rfl (by decide) rfl, ext_alloc HB1.out _⟩
end Go.Proofs.Ytmmmmeeepieemaa
