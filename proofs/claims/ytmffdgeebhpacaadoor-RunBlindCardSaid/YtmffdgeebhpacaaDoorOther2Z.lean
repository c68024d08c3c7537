import Derived.BigQuiet
import Derived.Deep.Onto
import Derived.Deep.QuietTactic
import Derived.Test.YtmffdgeebhpacaaDoorBuV
import Derived.Test.YtmffdgeebhpacaaDoorOtherZ
/- custodiankeep.other: a machine with another memory where nobody may look. -/
namespace Go.Proofs.YtmffdgeebhpacaaDoor
open El (cl)
open Go.RowKit
set_option linter.unusedVariables false
set_option linter.unusedSimpArgs false
/-- Another memory where nobody may look. -/
def blindM (l vals : List Int) (M : List ValV) : List ValV := M.mapIdx fun j v => if (j : Int) ∈ l ∨ vals = [] then v else nV (vals.getD (j % vals.length) 0)
theorem blind_len (l vals : List Int) (M : List ValV) : (blindM l vals M).length = M.length := by unfold blindM; simp
theorem blind_at {l vals : List Int} {M : List ValV} {j : Nat} {x : ValV} (hx : M[j]? = some x) : (blindM l vals M)[j]? = some (if (j : Int) ∈ l ∨ vals = [] then x else nV (vals.getD (j % vals.length) 0)) := by
  unfold blindM
  rw [List.getElem?_mapIdx, hx]
  rfl
theorem MOwn.setRow' {base g : Nat} {m : MV} {cs ds old : Array Value} {W : World} (h : MOwn base m cs W) (hg : Bk W g 31 old) : MOwn base m cs (W.setRow g ds) := by
  obtain ⟨vm, vs, vo, e, h1, h2, h3⟩ := h.own
  exact ⟨h.h8, vm, vs, vo, e, own_setRow h1 hg (by decide) ds, own_setRow h2 hg (by decide) ds, own_setRow h3 hg (by decide) ds⟩
theorem MOwn.mono {base base' : Nat} {m : MV} {cs : Array Value} {W : World} (h : MOwn base m cs W) (hb : base' ≤ base) : MOwn base' m cs W := by
  obtain ⟨vm, vs, vo, e, h1, h2, h3⟩ := h.own
  exact ⟨h.h8, vm, vs, vo, e, World.ownsRow.mono h1 hb, World.ownsRow.mono h2 hb, World.ownsRow.mono h3 hb⟩
/-- What stands while the memory of the copy in box g is made another one, up to j. -/
structure OtSt (w0 : World) (g g2 base : Nat) (m : MV) (B : List ValV) (ma : Option Addr) (mc : Nat) (vs vo : Value) (j : Nat) (W : World) : Prop where
  bk : Bk W g 31 (mcs m.R m.c (.slice ma m.mem.length mc) vs vo)
  om : Own W base 25 (.slice ma m.mem.length mc) (mixL B m.mem j)
  os : Own W base 58 vs m.stk
  oo : Own W base 3 vo m.out
  bk2 : Bk W g2 31 zmc
  below : Below w0.heap.size w0 W
theorem OtSt.store {w0 W : World} {g g2 base : Nat} {m : MV} {B : List ValV} {ma : Option Addr} {mc : Nat} {vs vo : Value} {j gm : Nat} (h : OtSt w0 g g2 base m B ma mc vs vo j W) (hB : B.length = m.mem.length) (hma : ma = some ⟨gm, 0, none⟩) (hbase : w0.heap.size ≤ base) {y : ValV} (hy : B[j]? = some y) :
    OtSt w0 g g2 base m B ma mc vs vo (j + 1) (W.setCells gm (j * 7) (cl y)) := by
  subst hma
  have hl : (mixL B m.mem j).length = m.mem.length := mix_len hB j
  have hj : j < (mixL B m.mem j).length := by rw [hl, ← hB]; exact (List.getElem?_eq_some_iff.1 hy).1
  have om := h.om
  rw [← hl] at om
  have h1 := (own_set om hj y).1
  rw [mix_set hB hy] at h1
  have hle : base ≤ gm := (own_lt om rfl).1
  refine ⟨bk_setCells_far h.bk (fun e => own_ty om h.bk (by decide) (by rw [e]; rfl)) _ _, ?_, own_setCells_own h.os om (by decide) _ _, own_setCells_own h.oo om (by decide) _ _, bk_setCells_far h.bk2 (fun e => own_ty om h.bk2 (by decide) (by rw [e]; rfl)) _ _, below_setCells h.below (by omega) _ _⟩
  rw [hl] at h1
  exact h1
theorem OtSt.drew {w0 W : World} {g g2 base : Nat} {m : MV} {B : List ValV} {ma : Option Addr} {mc : Nat} {vs vo : Value} {j : Nat} (h : OtSt w0 g g2 base m B ma mc vs vo j W) : OtSt w0 g g2 base m B ma mc vs vo j W.drew :=
  ⟨bk_drew h.bk, h.om.drew, h.os.drew, h.oo.drew, bk_drew h.bk2, ext_drew h.below⟩
set_option maxHeartbeats 8000000 in
set_option maxRecDepth 100000 in
theorem other_any {g0 : Nat} {m : MV} {cs0 : Array Value} {W0 : World} (h : MBox g0 m cs0 W0) (hok : m.Ok) (lo vo_ : Option Addr) (ln lc vn vc : Nat) (l vals : List Int) (hl : Sl W0 lo ln l) (hv : Sl W0 vo_ vn vals) :
    Calls Tryd.prog 29 #[.agg cs0, .slice lo ln lc, .slice vo_ vn vc] W0 fun e w' => ∃ cs', e = .returned (.agg cs') ∧ MOwn W0.heap.size (m.mm (blindM l vals m.mem)) cs' w' ∧ Below W0.heap.size W0 w' := by
  have l400 := hok.1.len
  have h8 := h.h8
  have hvm : vn ≤ 9223372036854775807 := hv.max
  have hvl := hv.len
  obtain ⟨w1, hw1⟩ : ∃ w1, w1 = (W0.alloc (.cells cs0 31)).alloc (.cells #[.bool false, .int .i64 0, .int .i64 0, .int .i64 0, .int .i64 0, .int .i64 0, .int .i64 0, .bool false, .int .i64 0, .int .i64 0, .int .i64 0, .int .i64 0, .int .i64 0, .int .i64 0, .bool false, .int .i64 0, .int .i64 0, .int .i64 0, .int .i64 0, .int .i64 0, .int .i64 0, .bool false, .int .i64 0, .int .i64 0, .int .i64 0, .int .i64 0, .int .i64 0, .int .i64 0, .bool false, .int .i64 0, .int .i64 0, .int .i64 0, .int .i64 0, .int .i64 0, .int .i64 0, .bool false, .int .i64 0, .int .i64 0, .int .i64 0, .int .i64 0, .int .i64 0, .int .i64 0, .bool false, .int .i64 0, .int .i64 0, .int .i64 0, .int .i64 0, .int .i64 0, .int .i64 0, .bool false, .int .i64 0, .int .i64 0, .int .i64 0, .int .i64 0, .int .i64 0, .int .i64 0, .int .i64 0, .int .i64 0, .int .i64 0, .int .i64 0, .int .i64 0, .slice none 0 0, .slice none 0 0, .slice none 0 0] 31) := ⟨_, rfl⟩
  have k1 : Bk w1 W0.heap.size 31 cs0 := by rw [hw1]; exact bk_old _ (bk_new _ _ _)
  have k2 : Bk w1 (W0.heap.size + 1) 31 zmc := by rw [hw1]; exact bk_new' _ _ (by simp)
  have h1w : Below W0.heap.size W0 w1 := by rw [hw1]; exact ext_alloc (ext_alloc (Below.refl _ _) _) _
  have hb : MBox W0.heap.size m cs0 w1 := by
    obtain ⟨ma, sa, oa, mc, sc, oc, e, q1, q2, q3⟩ := h.row
    exact ⟨h8, k1, ma, sa, oa, mc, sc, oc, e, q1.below h1w, q2.below h1w, q3.below h1w⟩
  have hlen := blind_len l vals m.mem
  have hat := fun j x (hx : m.mem[j]? = some x) => blind_at (l := l) (vals := vals) hx
  obtain ⟨B, hB⟩ : ∃ B, blindM l vals m.mem = B := ⟨_, rfl⟩
  rw [hB] at hlen ⊢
  simp only [hB] at hat
  have has := fun (y : Int) W (hb : Below W0.heap.size W0 W) => has_int lo ln lc l y W (hl.below hb)
  have vsl := fun W (hb : Below W0.heap.size W0 W) => hv.below hb
  have hcp := rcopy_own hb hok
  have HCP := Lib.hid hcp
  have HAS := Lib.hid has
  have VSL := Lib.hid vsl
  have HAT := Lib.hid hat
  have HLEN := Lib.hid hlen
  have MX := Lib.hid hb
  have K1 := Lib.hid k1
  have K2 := Lib.hid k2
  have HW1 := Lib.hid hw1
  have H1W := Lib.hid h1w
  have H8 := Lib.hid h8
  clear hcp has vsl hat hlen hb k1 k2 hw1 h1w h8 hl hv hok hB h
  go_enter Tryd.func29, Tryd.ntmps29
  go_upto_region 1 with (fail)
  rw [← HW1.out]
  go_upto_region 2 with (first
    | (refine wpList_load_sub rfl 31 (.tmp 3) rfl W0.heap.size 0 64 rfl 31 _ _ MX.out.bk Tryd.underlying31 rfl (by kernel_rfl) MX.out.size _ MX.out.all ?_)
    | (go_at_call 25; ((with_reducible refine HCP.out.mono ?_); rintro e u1 ⟨cs, rfl, mo, hb⟩; have MO := Lib.hid mo; have HB1 := Lib.hid hb; clear hb mo))
    | (refine wpList_store_rowTo rfl 31 (.tmp 3) (.tmp 9) rfl rfl W0.heap.size cs rfl rfl 31 _ (bk_keep HB1.out K1.out) (by rw [MO.out.sz]; kernel_rfl) (by rw [MX.out.sz, MO.out.sz]) MO.out.one ?_))
  have hk1 := bk_keep HB1.out K1.out
  have hk2 := bk_keep HB1.out K2.out
  obtain ⟨vm, vs, vo, hcs, om, os, oo⟩ := MO.out.own
  have hbase : W0.heap.size ≤ w1.heap.size := H1W.out.size
  obtain ⟨ma, mc, rfl, _, _⟩ := om.sl
  have hst : OtSt W0 W0.heap.size (W0.heap.size + 1) w1.heap.size m B ma mc vs vo 0 (u1.setRow W0.heap.size cs) :=
    ⟨by rw [← hcs]; exact bk_setRow hk1 cs, by rw [mix_zero]; exact own_setRow om hk1 (by decide) _, own_setRow os hk1 (by decide) _, own_setRow oo hk1 (by decide) _, (setRow_other u1 _ _ _ (by omega)).trans hk2, ext_setRow (ext_trans H1W.out HB1.out) (Nat.le_refl _) _⟩
  obtain ⟨W2, hW2⟩ : ∃ W2, W2 = u1.setRow W0.heap.size cs := ⟨_, rfl⟩
  rw [← hW2] at hst ⊢
  have c61 : W2.cell? ⟨W0.heap.size, 61, none⟩ = some (.slice ma m.mem.length mc) := (hst.bk.cell _).trans (mcs_hi H8.out 5)
  have HST := Lib.hid hst
  have kL := hst.bk.lt
  clear hW2 hst om os oo hcs hk1 hk2 MO HB1 K1 K2 MX HCP
  obtain ⟨n, hn⟩ : ∃ n, m.mem.length = n := ⟨_, rfl⟩
  rw [hn] at c61 l400
  go_wp2
  go_loopw [13] (fun i wr => ∃ j : Nat, j ≤ n ∧ i = .int .i64 j ∧ OtSt W0 W0.heap.size (W0.heap.size + 1) w1.heap.size m B ma mc vs vo j wr) (fun i _ => n - (intOf i).toNat)
  case atStart => exact ⟨0, Nat.zero_le _, rfl, HST.out⟩
  case round =>
    obtain ⟨j, hj, rfl, hs⟩ := hrel
    have hB : B.length = m.mem.length := HLEN.out
    by_cases hlt : j < n
    · have q0 : (0 : Int) ≤ j := by omega
      have q1 : (j : Int) < n := by omega
      obtain ⟨x, hx⟩ : ∃ x, m.mem[j]? = some x := ⟨_, List.getElem?_eq_getElem (by omega)⟩
      have hbj := HAT.out j x hx
      have hhas := HAS.out (j : Int) wr hs.below
      by_cases hin : (j : Int) ∈ l
      · rw [if_pos (.inl hin)] at hbj
        rw [decide_eq_true hin] at hhas
        have hsame := mix_same hB hbj hx
        have hs' : OtSt W0 W0.heap.size (W0.heap.size + 1) w1.heap.size m B ma mc vs vo (j + 1) wr := ⟨hs.bk, by rw [hsame]; exact hs.om, hs.os, hs.oo, hs.bk2, hs.below⟩
        have HS' := Lib.hid hs'
        have HH := Lib.hid hhas
        clear hs hs' hhas hbj hx hsame hin
        go_wp2_with (go_at_call 27; ((with_reducible refine HH.out.mono ?_); rintro e w' ⟨rfl, rfl⟩))
        go_roundw
        case rel => exact ⟨j + 1, by omega, by go_num, HS'.out⟩
        case measure => simp [intOf]; omega
      · rw [decide_eq_false hin] at hhas
        by_cases hv0 : vn = 0
        · have hvn : vals = [] := List.eq_nil_of_length_eq_zero (by omega)
          rw [if_pos (.inr hvn)] at hbj
          have hsame := mix_same hB hbj hx
          have hs' : OtSt W0 W0.heap.size (W0.heap.size + 1) w1.heap.size m B ma mc vs vo (j + 1) wr := ⟨hs.bk, by rw [hsame]; exact hs.om, hs.os, hs.oo, hs.bk2, hs.below⟩
          subst hv0
          have HS' := Lib.hid hs'
          have HH := Lib.hid hhas
          clear hs hs' hhas hbj hx hsame hin hvn
          go_wp2_with (go_at_call 27; ((with_reducible refine HH.out.mono ?_); rintro e w' ⟨rfl, rfl⟩))
          go_roundw
          case rel => exact ⟨j + 1, by omega, by go_num, HS'.out⟩
          case measure => simp [intOf]; omega
        · have hvn : vals ≠ [] := fun e => hv0 (by rw [← hvl, e]; rfl)
          rw [if_neg (by rintro (h | h); exact hin h; exact hvn h), hvl] at hbj
          have hmix := mix_at hB hx
          obtain ⟨gm, hma, hmn, hgm, hgl, hF, hC⟩ := own_at hs.om hmix
          have hst := hs.store hB hma hbase hbj
          have hml : j % vn < vn := Nat.mod_lt _ (by omega)
          obtain ⟨v, hgv⟩ : ∃ v, vals[j % vn]? = some v := ⟨_, List.getElem?_eq_getElem (by omega)⟩
          have hvd : vals.getD (j % vn) 0 = v := by rw [List.getD_eq_getElem?_getD, hgv]; rfl
          rw [hvd] at hst
          obtain ⟨vd, hvd2, vb, ve⟩ := sl_int (VSL.out wr hs.below) hml hgv
          subst hma hvd2
          have x0 := hC 0 _ rfl; have x1 := hC 1 _ rfl; have x2 := hC 2 _ rfl; have x3 := hC 3 _ rfl; have x4 := hC 4 _ rfl; have x5 := hC 5 _ rfl; have x6 := hC 6 _ rfl
          have e7 : El.k ValV = 7 := rfl
          simp only [e7, Nat.add_zero] at x0 x1 x2 x3 x4 x5 x6
          have hS1 : wr.setCells gm (j * 7) [.bool false, .int .i64 v, .int .i64 0, .int .i64 0, .int .i64 0, .int .i64 0, .int .i64 0] = wr.setCells gm (j * 7) (cl (nV v)) := rfl
          obtain ⟨W5, hW5⟩ : ∃ W5, W5 = wr.setCells gm (j * 7) (cl (nV v)) := ⟨_, rfl⟩
          rw [← hW5] at hst hS1
          have c61 : wr.cell? ⟨W0.heap.size, 61, none⟩ = some (.slice (some ⟨gm, 0, none⟩) n mc) := by rw [← hn]; exact (hs.bk.cell _).trans (mcs_hi H8.out 5)
          have kL := hs.bk.lt
          have g0 : ((vn : Int) == 0) = false := by simp; omega
          have g1 : decide ((0 : Int) < (vn : Int)) = true := by simp; omega
          have g2 : (0 : Int) < (vn : Int) := by omega
          have g3 : (vn : Int) ≠ 0 := by omega
          have hrem : (j : Int).tmod (vn : Int) = ((j % vn : Nat) : Int) := by rw [Int.tmod_eq_emod_of_nonneg (by omega)]; exact (Int.natCast_emod j vn).symm
          have hr0 : (0 : Int) ≤ ((j % vn : Nat) : Int) := by omega
          have hr1 : ((j % vn : Nat) : Int) < (vn : Int) := by omega
          have hwr : -9223372036854775808 ≤ ((j % vn : Nat) : Int) ∧ ((j % vn : Nat) : Int) ≤ 9223372036854775807 := ⟨by omega, by omega⟩
          have hwr1 := IntWalk.wrap64_in _ hwr
          have hwr2 := IntWalk.i64_in _ hwr
          have HS' := Lib.hid hst
          have HH := Lib.hid hhas
          have HS1 := Lib.hid hS1
          have HM := Lib.hid hml
          clear hs hst hhas hbj hx hin hvn hmix hW5 hS1 hC hB hgv hvd hml
          generalize j % vn = jr at *
          go_upto_region 6 with (go_at_call 27; ((with_reducible refine HH.out.mono ?_); rintro e w' ⟨rfl, rfl⟩))
          go_region
          go_upto_region 7 with (fail)
          rw [setCells7, HS1.out]
          clear x0 x1 x2 x3 x4 x5 x6 HS1 c61
          go_wp2
          go_roundw
          case rel => exact ⟨j + 1, by omega, by go_num, HS'.out.drew⟩
          case measure => simp [intOf]; omega
    · obtain rfl : j = n := by omega
      have q1 : ¬ ((j : Int) < j) := by omega
      have om := hs.om
      rw [← hn, mix_all hB] at om
      have hcs : (mcs m.R m.c (.slice ma m.mem.length mc) vs vo).size = 64 := mcs_size H8.out
      have hone := mcs_one (R := m.R) (c := m.c) (ownsOne om) (ownsOne hs.os) (ownsOne hs.oo)
      obtain ⟨ds, hds⟩ : ∃ ds, ds = mcs m.R m.c (.slice ma m.mem.length mc) vs vo := ⟨_, rfl⟩
      have k1 := hs.bk
      rw [← hds] at hcs hone k1
      have hmo : MOwn w1.heap.size (m.mm B) ds wr := ⟨H8.out, _, vs, vo, hds, om, hs.os, hs.oo⟩
      have K1 := Lib.hid k1
      have K2 := Lib.hid hs.bk2
      have BW := Lib.hid hs.below
      have HMO := Lib.hid hmo
      have HSZ2 := Lib.hid hcs
      have HONE := Lib.hid hone
      have HEX := Lib.hid (show ds.extract 0 (0 + 64) = ds by rw [Array.extract_eq_self_of_le (by rw [hcs]; omega)])
      clear k1 hmo hcs hone hs om hds
      go_wp2_with (first
        | (refine wpList_load_sub rfl 31 (.tmp 3) rfl W0.heap.size 0 64 rfl 31 _ _ K1.out Tryd.underlying31 rfl (by kernel_rfl) (by have := HSZ2.out; omega) _ HEX.out ?_)
        | (refine wpList_store_rowTo rfl 31 (.tmp 6) (.tmp 38) rfl rfl (W0.heap.size + 1) ds rfl rfl 31 _ K2.out (by rw [HSZ2.out]; kernel_rfl) (by rw [HSZ2.out]; kernel_rfl) HONE.out ?_))
      refine bodyPost_ret (results_cell_row (g := W0.heap.size + 1) (t := 31) (cs := ds) (fr := (0, 0)) rfl _ _ _ rfl (bk_setRow K2.out _) Tryd.underlying31 rfl (by rw [HSZ2.out]; kernel_rfl)) rfl ?_
      exact ⟨ds, rfl, (HMO.out.setRow' K2.out).mono hbase, ext_setRow BW.out (by omega) _⟩
end Go.Proofs.YtmffdgeebhpacaaDoor
