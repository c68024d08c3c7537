import Derived.Test.YtopdnihokbhjfaaDoorBuP
import Derived.Test.YtopdnihokbhjfaaDoorBuO
import Derived.Test.YtopdnihokbhjfaaDoorMachCopyZ
import Derived.Test.YtopdnihokbhjfaaDoorMOwnZ
import Derived.Deep.DeepCutAuto
import Derived.StillTailTactics
/- StepSame. -/
namespace Go.Proofs.YtopdnihokbhjfaaDoor
open El (cl)
open Go.RowKit
set_option linter.unusedVariables false
set_option linter.unusedSimpArgs false
theorem calls_back {P : Program} {f : FuncId} {args : Array Value} {w : World} {r : Ending} (h : Calls P f args w fun e w' => e = r ∧ w = w') : Calls P f args w fun e w' => e = r ∧ w' = w := h.mono fun _ _ ⟨a, b⟩ => ⟨a, b.symm⟩
/-- What is known of a step that goes well. -/
structure SameH (m : MV) (n : MV) (i : InstV) : Prop where
  ok : m.Ok
  op : instOk i = true
  len : n.mem.length = m.mem.length
  n8 : n.R.length = 8
  pos : 0 < m.mem.length
  put : ∀ (j : Nat) (x : ValV), x.Ok → (j : Int) ≠ m.c.at_ → (i.op = 10 ∨ i.op = 11 → (j : Int) ≠ (m.reg i.b).k.at_ + i.c) → stepF (m.put j x) = (n.put j x, 0)
theorem same_h {m : MV} (h8 : m.R.length = 8) (he : (stepF m).2 = 0) : SameH m (stepF m).1 (opF m) := by
  obtain ⟨hk, h1, i, h2, h3⟩ := stepF_ok h8 he
  obtain ⟨hi, hi2⟩ := opF_of h2
  rw [hi]
  obtain ⟨_, _, _, _, _, _, f0, f1, _⟩ := fetch_cases h2
  refine ⟨hk, hi2, stepd_mem_len h3, (one_ok hk h1).2, by omega, fun j x hx hj hb => ?_⟩
  refine stepF_of (put_ok hk hx) (one_put h1 h2 hj fun ho k hk' => ?_)
  obtain ⟨_, e⟩ := key_ok hk'
  rw [← e]
  exact hb ho
set_option maxHeartbeats 8000000 in
set_option maxRecDepth 100000 in
theorem same_mv (m : MV) (ma sa oa : Option Addr) (mc sc oc : Nat) (pA pN : Int) (w : World) (h8 : m.R.length = 8) (hwc : m.c.wf) (hw : ∀ v ∈ m.mem, v.wf) (hpA : I64 pA) (hpN : I64 pN)
    (hm : Sl w ma m.mem.length m.mem) (hs : Sl w sa m.stk.length m.stk) (ho : Sl w oa m.out.length m.out) (ht : Tab w) : Calls Tryd.prog 7 #[.agg (mcs m.R m.c (.slice ma m.mem.length mc) (.slice sa m.stk.length sc) (.slice oa m.out.length oc)), .int .i64 pA, .int .i64 pN] w fun e w' => e = .returned (.bool true) ∧ Below w.heap.size w w' := by
  have hsz := mcs_size (c := m.c) (ms := .slice ma m.mem.length mc) (ss := .slice sa m.stk.length sc) (os := .slice oa m.out.length oc) h8
  have hhi := mcs_hi (c := m.c) (ms := .slice ma m.mem.length mc) (ss := .slice sa m.stk.length sc) (os := .slice oa m.out.length oc) h8
  have hlo := fun i hi => mcs_lo (c := m.c) (ms := .slice ma m.mem.length mc) (ss := .slice sa m.stk.length sc) (os := .slice oa m.out.length oc) h8 (i := i) hi
  have st := fun W (h : Below w.heap.size w W) => step_any m ma sa oa mc sc oc W h8 (hm.below h) (hs.below h) (ho.below h) (ht.below h)
  have op := fun W (h : Below w.heap.size w W) => opof_any m ma sa oa mc sc oc W h8 hwc hw (hm.below h) (ht.below h)
  have sd := fun W (h : Below w.heap.size w W) => stepped_any W (ht.below h)
  have hcs0 : (mcs m.R m.c (.slice ma m.mem.length mc) (.slice sa m.stk.length sc) (.slice oa m.out.length oc)).extract 0 (0 + 64) = mcs m.R m.c (.slice ma m.mem.length mc) (.slice sa m.stk.length sc) (.slice oa m.out.length oc) := by rw [Array.extract_eq_self_of_le (by rw [hsz]; omega)]
  have hn8 : (stepF m).1.R.length = 8 := by
    by_cases he : (stepF m).2 = 0
    · exact (same_h h8 he).n8
    · rw [stepF_bad he]; rfl
  have hgo := fun he => same_h h8 he
  unfold StRes at st
  unfold instVal at op
  generalize opF m = i at *
  generalize stepF m = r at *
  obtain ⟨n, er⟩ := r
  simp only at st op hn8 hgo
  obtain ⟨cs, hcs⟩ : ∃ cs, cs = mcs m.R m.c (.slice ma m.mem.length mc) (.slice sa m.stk.length sc) (.slice oa m.out.length oc) := ⟨_, rfl⟩
  rw [← hcs] at hsz hhi hlo st op hcs0 ⊢
  obtain ⟨w1, hw1⟩ : ∃ w1, w1 = w.alloc (.cells cs 31) := ⟨_, rfl⟩
  have hB : Bk w1 w.heap.size 31 cs := by rw [hw1]; exact bk_new _ _ _
  have h1w : Below w.heap.size w w1 := by rw [hw1]; exact ext_alloc (Below.refl _ _) _
  have hz1 : w1.heap.size = w.heap.size + 1 := by rw [hw1]; simp
  have SD := Lib.hid (sd w1 h1w)
  have ST := Lib.hid (fun x : Later w1 => st x.val (ext_trans h1w x.ok))
  have OP := Lib.hid op
  have HW1 := Lib.hid hw1
  have HSZ := Lib.hid hsz
  have HEX := Lib.hid hcs0
  have HB := Lib.hid hB
  have H1W := Lib.hid h1w
  have HN8 := Lib.hid hn8
  have HHI := Lib.hid hhi
  have HLO := Lib.hid hlo
  have HGO := Lib.hid hgo
  have HCS := Lib.hid hcs
  have p61 : ∀ x : Later w1, x.val.cell? ⟨w.heap.size, 61, none⟩ = some (.slice ma m.mem.length mc) := fun x => ((x.bk hB).cell _).trans (hhi 5)
  have L1 : ∀ x : Later w1, w.heap.size < x.val.heap.size := fun x => x.lt hB.lt
  clear st op sd hw1 hsz hcs0 hB h1w hn8 hhi hlo hgo hcs
  go_enter Tryd.func7, Tryd.ntmps7
  go_upto_region 1 with (fail)
  rw [← HW1.out]
  go_upto_region 4 with (first
    | (go_at_call 14; ((with_reducible refine SD.out.mono ?_); rintro e w' ⟨rfl, hb⟩; obtain ⟨y0, rfl⟩ := later_call (Below.refl _ _) hb; clear hb))
    | (refine wpList_load_sub rfl 31 (.tmp 3) rfl w.heap.size 0 64 rfl 31 _ _ (y0.bk HB.out) Tryd.underlying31 rfl (by kernel_rfl) (by have := HSZ.out; omega) _ HEX.out ?_)
    | (go_at_call 13; ((with_reducible refine (ST.out y0).mono ?_); rintro e w2 ⟨vm, vs, vo, rfl, om, os, oo, hb2⟩; obtain ⟨na, nc, rfl, _, _⟩ := om.sl; have HO := Lib.hid (mcs_one (R := n.R) (c := n.c) (ownsOne om) (ownsOne os) (ownsOne oo)); have HSX := Lib.hid (mcs_size (R := n.R) (c := n.c) (ms := .slice na n.mem.length nc) (ss := vs) (os := vo) HN8.out); have HHX := Lib.hid (mcs_hi (R := n.R) (c := n.c) (ms := .slice na n.mem.length nc) (ss := vs) (os := vo) HN8.out); have HB2 := Lib.hid hb2; have OM := Lib.hid om; have OS := Lib.hid os; have OO := Lib.hid oo; clear om os oo hb2))
    | (refine wpList_store_fresh rfl 31 (.tmp 7) (.tmp 17) rfl rfl (mcs n.R n.c (.slice na n.mem.length nc) vs vo) 31 _ rfl rfl (by rw [HSX.out]; kernel_rfl) (by rw [HSX.out]; kernel_rfl) HO.out ?_))
  obtain ⟨ga, hga⟩ : ∃ ga, ga = w2.heap.size := ⟨_, rfl⟩
  obtain ⟨W2, hW2⟩ : ∃ W2, W2 = w2.alloc (.cells (mcs n.R n.c (.slice na n.mem.length nc) vs vo) 31) := ⟨_, rfl⟩
  have ka : Bk W2 ga 31 (mcs n.R n.c (.slice na n.mem.length nc) vs vo) := by rw [hW2, hga]; exact bk_new _ _ _
  have k3 : Bk W2 w.heap.size 31 cs := by rw [hW2]; exact bk_old _ (bk_keep HB2.out (y0.bk HB.out))
  have hz2 : ga + 1 = W2.heap.size := by rw [hW2, hga]; simp
  have hg1 : w.heap.size < ga := by have := HB2.out.size; have := y0.ok.size; omega
  have b02 : Below y0.val.heap.size y0.val W2 := by rw [hW2]; exact ext_alloc HB2.out _
  have b12 : Below w1.heap.size w1 W2 := ext_trans y0.ok b02
  have b2 : Below w.heap.size w W2 := ext_trans H1W.out b12
  obtain ⟨x2, hx2⟩ : ∃ x : Later w1, W2 = x.val := ⟨⟨W2, b12⟩, rfl⟩
  have om2 : Own W2 y0.val.heap.size 25 (.slice na n.mem.length nc) n.mem := by rw [hW2]; exact OM.out.below (ext_alloc (Below.refl _ _) _)
  have os2 : Own W2 y0.val.heap.size 58 vs n.stk := by rw [hW2]; exact OS.out.below (ext_alloc (Below.refl _ _) _)
  have oo2 : Own W2 y0.val.heap.size 3 vo n.out := by rw [hW2]; exact OO.out.below (ext_alloc (Below.refl _ _) _)
  have c61 := p61 x2
  have l1 := L1 x2
  rw [← hx2] at c61 l1
  clear hx2 x2
  rw [← hW2, ← hga]
  clear hW2 hga OM OS OO
  by_cases he : er = 0
  case neg =>
    have g1 : (er == 0) = false := by simpa using he
    have g2 : (er != 0) = true := by simpa using he
    clear he
    go_wp2
    go_ret
    exact ⟨rfl, b2⟩
  subst he
  obtain ⟨hk, hio, hln, _, hpos, hput⟩ := HGO.out rfl
  have hk400 := hk.1.len
  have d0 : ((m.mem.length : Int) == 0) = false := beq_eq_false_iff_ne.2 (by omega)
  have rs := fun W => rest_any pA m.mem.length W (by omega) (by omega)
  have r0 : 0 ≤ pA % (m.mem.length : Int) := Int.emod_nonneg _ (by omega)
  have r1 : pA % (m.mem.length : Int) < m.mem.length := Int.emod_lt_of_pos _ (by omega)
  obtain ⟨j, hj⟩ := Int.eq_ofNat_of_zero_le r0
  rw [hj] at r1 rs
  have hjl : j < m.mem.length := by omega
  have RS := Lib.hid rs
  have OP2 := Lib.hid (OP.out W2 b2)
  have K3 := Lib.hid k3
  clear rs k3
  go_upto_region 8 with (first
    | (go_at_call 19; ((with_reducible refine (RS.out _).mono ?_); rintro e w' ⟨rfl, rfl⟩))
    | (refine wpList_load_sub rfl 31 (.tmp 3) rfl w.heap.size 0 64 rfl 31 _ _ K3.out Tryd.underlying31 rfl (by kernel_rfl) (by have := HSZ.out; omega) _ HEX.out ?_)
    | (go_at_call 16; ((with_reducible refine OP2.out.mono ?_); rintro e w' ⟨rfl, hb⟩; obtain ⟨y1, rfl⟩ := later_call (Below.refl _ _) hb; clear hb)))
  obtain ⟨ia, ib, hN⟩ := inst_n hio
  obtain ⟨gi, hgi⟩ : ∃ gi, gi = y1.val.heap.size := ⟨_, rfl⟩
  obtain ⟨W3, hW3⟩ : ∃ W3, W3 = y1.val.alloc (.cells #[.int .i64 i.op, .int .i64 i.a, .int .i64 i.b, .int .i64 i.c] 40) := ⟨_, rfl⟩
  have b23 : Below W2.heap.size W2 W3 := by rw [hW3]; exact ext_alloc y1.ok _
  have k3i : Bk W3 gi 40 #[.int .i64 i.op, .int .i64 i.a, .int .i64 i.b, .int .i64 i.c] := by rw [hW3, hgi]; exact bk_new _ _ _
  have k33 := bk_keep b23 K3.out
  have k3a := bk_keep b23 ka
  have b3 := ext_trans b2 b23
  have om3 := om2.below b23
  have os3 := os2.below b23
  have oo3 := oo2.below b23
  have hg5 : W2.heap.size ≤ gi := by rw [hgi]; exact y1.ok.size
  have i0 : W3.cell? ⟨gi, 0, none⟩ = some (.int .i64 i.op) := k3i.cell 0
  have i2 : W3.cell? ⟨gi, 2, none⟩ = some (.int .i64 i.b) := k3i.cell 2
  have i3 : W3.cell? ⟨gi, 3, none⟩ = some (.int .i64 i.c) := k3i.cell 3
  have m59 : W3.cell? ⟨w.heap.size, 59, none⟩ = some (.int .i64 m.c.at_) := (k33.cell _).trans (HHI.out 3)
  have rc := (reg_cells (by rw [← HCS.out]; exact k33) h8 hN.b8).2.2.2.2.2.1
  have hc := inst_ci hio
  have hrk : 0 ≤ (m.reg ib).k.at_ ∧ (m.reg ib).k.at_ ≤ 400 := by
    rcases reg_ok hk ib with ⟨_, h, _⟩ | ⟨_, _, _, h⟩
    · exact ⟨h.a0, h.a1⟩
    · rw [h]; decide
  obtain ⟨hrk0, hrk1⟩ := hrk
  have Li := k3i.lt
  have Lm := k33.lt
  have hib := hN.eb
  have hb8 := hN.b8
  rw [hib] at i2
  obtain ⟨rk, hrkd⟩ : ∃ rk, rk = (m.reg ib).k.at_ := ⟨_, rfl⟩
  rw [← hrkd] at rc hrk0 hrk1
  have HRK := Lib.hid hrkd
  clear hrkd
  rw [← hW3, ← hgi]
  clear hW3 hgi
  go_cut [62] (fun s62 wx => ∃ (bb : Bool) (y : Later W3), s62 = .bool bb ∧ wx = y.val ∧ (bb = false → (j : Int) ≠ m.c.at_ ∧ (i.op = 10 ∨ i.op = 11 → (j : Int) ≠ rk + i.c)))
  case first =>
    have hwr : IntKind.i64.wrap (rk + i.c) = rk + i.c := IntWalk.i64_in _ ⟨by omega, by omega⟩
    have done : ∀ (W4 : World) (bb : Bool), Below W3.heap.size W3 W4 → (bb = false → (j : Int) ≠ m.c.at_ ∧ (i.op = 10 ∨ i.op = 11 → (j : Int) ≠ rk + i.c)) → ∃ (b1 : Bool) (y : Later W3), Value.bool bb = .bool b1 ∧ W4 = y.val ∧ (b1 = false → (j : Int) ≠ m.c.at_ ∧ (i.op = 10 ∨ i.op = 11 → (j : Int) ≠ rk + i.c)) := fun W4 bb h1 h2 => ⟨bb, ⟨W4, h1⟩, rfl, rfl, h2⟩
    have DONE := Lib.hid done
    clear done HGO hput HHX HO
    cases b1 : ((j : Int) == m.c.at_)
    · have e1 : (j : Int) ≠ m.c.at_ := by simpa using b1
      cases o10 : (i.op == 10)
      · have e2 : i.op ≠ 10 := by simpa using o10
        cases o11 : (i.op == 11)
        · have e3 : i.op ≠ 11 := by simpa using o11
          (go_quiet (fail); go_wp2_with fail; go_meet); exact DONE.out _ false (ext_drewN (Below.refl _ _) _) (fun _ => ⟨e1, fun h => by omega⟩)
        · cases b3 : ((j : Int) == rk + i.c)
          · have e4 : (j : Int) ≠ rk + i.c := by simpa using b3
            (go_quiet (fail); go_wp2_with fail; go_meet); exact DONE.out _ false (ext_drewN (Below.refl _ _) _) (fun _ => ⟨e1, fun h => e4⟩)
          · (go_quiet (fail); go_wp2_with fail; go_meet); exact DONE.out _ true (ext_drewN (Below.refl _ _) _) (fun h => by cases h)
      · cases b3 : ((j : Int) == rk + i.c)
        · have e4 : (j : Int) ≠ rk + i.c := by simpa using b3
          (go_quiet (fail); go_wp2_with fail; go_meet); exact DONE.out _ false (ext_drewN (Below.refl _ _) _) (fun _ => ⟨e1, fun h => e4⟩)
        · (go_quiet (fail); go_wp2_with fail; go_meet); exact DONE.out _ true (ext_drewN (Below.refl _ _) _) (fun h => by cases h)
    · (go_quiet (fail); go_wp2_with fail; go_meet); exact DONE.out _ true (ext_drewN (Below.refl _ _) _) (fun h => by cases h)
  case rest =>
    obtain ⟨bb, y3, rfl, rfl, hbb⟩ := hcut
    cases bb
    case true =>
      go_wp2
      go_ret
      exact ⟨rfl, ext_trans b3 y3.ok⟩
    case false =>
      obtain ⟨hj1, hj2⟩ := hbb rfl
      have b3y := ext_trans b3 y3.ok
      have rcp := rcopy_any m.R m.c m.mem m.stk m.out ma sa oa mc sc oc y3.val h8 (hm.below b3y) (hs.below b3y) (ho.below b3y) (by omega) (by have := hk.1.deep; omega) (by have := hk.1.told; omega)
      unfold MPost at rcp
      rw [← HCS.out] at rcp
      have RCP := Lib.hid rcp
      have K33 := Lib.hid (y3.bk k33)
      clear rcp
      go_upto_region 11 with (first
        | (refine wpList_load_sub rfl 31 (.tmp 3) rfl w.heap.size 0 64 rfl 31 _ _ K33.out Tryd.underlying31 rfl (by kernel_rfl) (by have := HSZ.out; omega) _ HEX.out ?_)
        | (go_at_call 12; ((with_reducible refine RCP.out.mono ?_); rintro e w4 ⟨vm4, vs4, vo4, rfl, om4, os4, oo4, hb4⟩; obtain ⟨ma4, mc4, rfl, _, _⟩ := om4.sl; obtain ⟨sa4, sc4, rfl, _, _⟩ := os4.sl; obtain ⟨oa4, oc4, rfl, _, _⟩ := oo4.sl; have HO4 := Lib.hid (mcs_one (R := m.R) (c := m.c) (ownsOne om4) (ownsOne os4) (ownsOne oo4)); have HS4 := Lib.hid (mcs_size (R := m.R) (c := m.c) (ms := .slice ma4 m.mem.length mc4) (ss := .slice sa4 m.stk.length sc4) (os := .slice oa4 m.out.length oc4) h8); have HB4 := Lib.hid hb4; have OM4 := Lib.hid om4; have OS4 := Lib.hid os4; have OO4 := Lib.hid oo4; clear om4 os4 oo4 hb4))
        | (refine wpList_store_rowTo rfl 31 (.tmp 3) (.tmp 64) rfl rfl w.heap.size (mcs m.R m.c (.slice ma4 m.mem.length mc4) (.slice sa4 m.stk.length sc4) (.slice oa4 m.out.length oc4)) rfl rfl 31 _ (bk_keep HB4.out K33.out) (by rw [HS4.out]; kernel_rfl) (by rw [HS4.out, HSZ.out]) HO4.out ?_))
      obtain ⟨W4, hW4⟩ : ∃ W4, W4 = w4.setRow w.heap.size (mcs m.R m.c (.slice ma4 m.mem.length mc4) (.slice sa4 m.stk.length sc4) (.slice oa4 m.out.length oc4)) := ⟨_, rfl⟩
      have k40 := bk_keep HB4.out K33.out
      have k4 : Bk W4 w.heap.size 31 (mcs m.R m.c (.slice ma4 m.mem.length mc4) (.slice sa4 m.stk.length sc4) (.slice oa4 m.out.length oc4)) := by rw [hW4]; exact bk_setRow k40 _
      have om4 : Own W4 y3.val.heap.size 25 (.slice ma4 m.mem.length mc4) m.mem := by rw [hW4]; exact own_setRow OM4.out k40 (by decide) _
      have os4 : Own W4 y3.val.heap.size 58 (.slice sa4 m.stk.length sc4) m.stk := by rw [hW4]; exact own_setRow OS4.out k40 (by decide) _
      have oo4 : Own W4 y3.val.heap.size 3 (.slice oa4 m.out.length oc4) m.out := by rw [hW4]; exact own_setRow OO4.out k40 (by decide) _
      have hgay : ga < y3.val.heap.size := (y3.bk k3a).lt
      have ka4 : Bk W4 ga 31 (mcs n.R n.c (.slice na n.mem.length nc) vs vo) := by rw [hW4]; exact (setRow_other _ _ _ _ (by omega)).trans (bk_keep HB4.out (y3.bk k3a))
      have oma4 : Own W4 y0.val.heap.size 25 (.slice na n.mem.length nc) n.mem := by rw [hW4]; exact own_setRow ((om3.below y3.ok).below HB4.out) k40 (by decide) _
      have osa4 : Own W4 y0.val.heap.size 58 vs n.stk := by rw [hW4]; exact own_setRow ((os3.below y3.ok).below HB4.out) k40 (by decide) _
      have ooa4 : Own W4 y0.val.heap.size 3 vo n.out := by rw [hW4]; exact own_setRow ((oo3.below y3.ok).below HB4.out) k40 (by decide) _
      have b04 : Below w.heap.size w W4 := by rw [hW4]; exact ext_setRow (ext_trans b3y HB4.out) (Nat.le_refl _) _
      have oltA := fun k (e : (Value.slice na n.mem.length nc).ownBlock = some k) => (own_lt (om3.below y3.ok) e).2
      have hzw : w.heap.size < y3.val.heap.size := (y3.bk k33).lt
      have hx : m.mem[j]? = some (m.mem.getD j zeroV) := by rw [List.getD_eq_getElem?_getD, List.getElem?_eq_getElem hjl]; rfl
      obtain ⟨g4, eg, hg4, hg4b, hg4c, hg4d, hcc⟩ := own_at om4 hx
      subst eg
      rw [← hW4]
      clear hW4
      have c61' := (k4.cell 61).trans (mcs_hi h8 5)
      simp only [List.getElem?_cons_succ, List.getElem?_cons_zero] at c61'
      have l4 := k4.lt
      have q0 : (0 : Int) ≤ j := by omega
      have q1 : (j : Int) < m.mem.length := by omega
      have n63 : (m.mem.length : Int) ≤ 9223372036854775807 := by omega
      clear hcc hg4d
      go_still_tail 7, (by kernel_rfl)
      repeat still_step
      still_call (calls_back (wrap_any pN _))
      repeat still_step
      refine wpStill_nil ?_
      change wpList _ _ _ _ _ (World.drew W4)
      obtain ⟨W5, hW5⟩ : ∃ W5, W5 = World.drew W4 := ⟨_, rfl⟩
      have b45 : Below W4.heap.size W4 W5 := by rw [hW5]; exact ext_drew (Below.refl _ _)
      rw [← hW5]
      clear hW5 c61'
      have om5 := om4.below b45
      obtain ⟨g5, e5, _, _, hg5, hf5, hc5⟩ := own_at om5 hx
      injection e5 with e5
      injection e5 with e5
      subst e5
      have e7 : El.k ValV = 7 := rfl
      have e0 := hc5 0 _ rfl; have e1 := hc5 1 _ rfl; have e2 := hc5 2 _ rfl; have e3 := hc5 3 _ rfl; have e4 := hc5 4 _ rfl; have e5 := hc5 5 _ rfl; have e6 := hc5 6 _ rfl
      simp only [e7, Nat.add_zero] at e0 e1 e2 e3 e4 e5 e6
      obtain ⟨x, hxd⟩ : ∃ x, x = nV (wrap32 pN) := ⟨_, rfl⟩
      have hxc : cl x = [.bool false, .int .i64 (wrap32 pN), .int .i64 0, .int .i64 0, .int .i64 0, .int .i64 0, .int .i64 0] := by rw [hxd]; rfl
      have hxok : x.Ok := by rw [hxd]; exact nV_ok (w32_bd' _).1 (w32_bd' _).2
      have mo6 : MOwn y3.val.heap.size (m.put j x) (mcs m.R m.c (.slice (some ⟨g4, 0, none⟩) m.mem.length mc4) (.slice sa4 m.stk.length sc4) (.slice oa4 m.out.length oc4)) (W5.setCells g4 (j * 7) (cl x)) :=
        MOwn.setMem h8 om5 (os4.below b45) (oo4.below b45) hjl x
      have k6 := bk_setCells_far (bk_keep b45 k4) (show w.heap.size ≠ g4 by omega) (j * 7) (cl x)
      have ka6 := bk_setCells_far (bk_keep b45 ka4) (show ga ≠ g4 by omega) (j * 7) (cl x)
      have own_ne : ∀ {α : Type} [El α] {T : TypeId} {v : Value} {xs : List α}, Own W5 y0.val.heap.size T v xs → v.ownBlock ≠ some g4 → Own (W5.setCells g4 (j * 7) (cl x)) y0.val.heap.size T v xs := fun h hne => h.kept (grown_setCells g4 _ _ _) (.inr fun e => hne (by first | exact e | exact e.symm))
      have oma6 := own_ne (oma4.below b45) (fun e => by have := oltA _ e; omega)
      have osa6 : Own (W5.setCells g4 (j * 7) (cl x)) y0.val.heap.size 58 vs n.stk := own_setCells_own (osa4.below b45) om5 (by decide) _ _
      have ooa6 : Own (W5.setCells g4 (j * 7) (cl x)) y0.val.heap.size 3 vo n.out := own_setCells_own (ooa4.below b45) om5 (by decide) _ _
      have b06 := below_setCells (ext_trans b04 b45) (show w.heap.size ≤ g4 by omega) (j * 7) (cl x)
      have bx6 := mo6.box k6
      have hst := hput j x hxok hj1 (fun ho => by rw [hib, ← HRK.out]; exact hj2 ho)
      have hsize5 : y3.val.heap.size ≤ (W5.setCells g4 (j * 7) (cl x)).heap.size := by have := b45.size; have := mo6; have h9 := (grown_setCells g4 (cl x) (j * 7) W5).size; omega
      have ltA6 := fun k (e : (Value.slice na n.mem.length nc).ownBlock = some k) => (own_lt oma6 e).2
      have hlt6 := ka6.lt
      have om6 := (own_set om5 hjl x).1
      have HW6 := Lib.hid (show W5.setCells g4 (j * 7) [.bool false, .int .i64 (wrap32 pN), .int .i64 0, .int .i64 0, .int .i64 0, .int .i64 0, .int .i64 0] = W5.setCells g4 (j * 7) (cl x) by rw [hxc])
      generalize hW6 : W5.setCells g4 (j * 7) (cl x) = W6 at *
      have K6 := Lib.hid k6
      have OM6 := Lib.hid om6
      have KA6 := Lib.hid ka6
      have OMA := Lib.hid oma6
      have OSA := Lib.hid osa6
      have OOA := Lib.hid ooa6
      have B06 := Lib.hid b06
      have BX6 := Lib.hid bx6
      have HST := Lib.hid hst
      have HXC := Lib.hid hxc
      have HXOK := Lib.hid hxok
      clear hW6 hxd hxc hxok om6 k6 ka6 oma6 osa6 ooa6 b06 bx6 hst mo6 own_ne om5 om4 os4 oo4 oma4 osa4 ooa4 ka4 k4 hput hj1 hj2 hbb om3 os3 oo3 k3a k33 k40 b3y b3
      go_upto_region 12 with (fail)
      rw [setCells7, HW6.out]
      have tab6 := ht.below B06.out
      have hX8 : (n.put j x).R.length = 8 := HN8.out
      go_upto_region 13 with (first
        | (refine wpList_load_sub rfl 31 (.tmp 3) rfl w.heap.size 0 64 rfl 31 _ _ BX6.out.bk Tryd.underlying31 rfl (by kernel_rfl) BX6.out.size _ BX6.out.all ?_)
        | (go_at_call 13; ((with_reducible refine (step_own BX6.out tab6 HST.out hX8).mono ?_); rintro e u7 ⟨cs7, rfl, mo7, hb⟩; have MO7 := Lib.hid mo7; have HB7 := Lib.hid hb; clear hb mo7))
        | (refine wpList_store_fresh rfl 31 (.tmp 10) (.tmp 75) rfl rfl cs7 31 _ rfl rfl (by rw [MO7.out.sz]; kernel_rfl) (by rw [MO7.out.sz]; kernel_rfl) MO7.out.one ?_))
      have b67 : Below W6.heap.size W6 (u7.alloc (.cells cs7 31)) := ext_alloc HB7.out _
      have kb7 : Bk (u7.alloc (.cells cs7 31)) u7.heap.size 31 cs7 := bk_new _ _ _
      have mb7 := MO7.out.below (ext_alloc (Below.refl _ _) (.cells cs7 31))
      obtain ⟨W7, hW7⟩ : ∃ W7, W7 = u7.alloc (.cells cs7 31) := ⟨_, rfl⟩
      have z7 : u7.heap.size < W7.heap.size := by rw [hW7]; simp
      rw [← hW7] at b67 kb7 mb7 ⊢
      have z67 : W6.heap.size ≤ u7.heap.size := HB7.out.size
      obtain ⟨gb, hgb⟩ : ∃ gb, gb = u7.heap.size := ⟨_, rfl⟩
      rw [← hgb] at kb7 z7 z67 ⊢
      clear hW7 hgb
      have ka7 := bk_keep b67 KA6.out
      have km7 := bk_keep b67 K6.out
      have a61 : W7.cell? ⟨ga, 61, none⟩ = some (.slice na m.mem.length nc) := by rw [← hln]; exact (ka7.cell _).trans (mcs_hi HN8.out 5)
      have m61 : W7.cell? ⟨w.heap.size, 61, none⟩ = some (.slice (some ⟨g4, 0, none⟩) m.mem.length mc4) := (km7.cell _).trans (mcs_hi h8 5)
      have hjn : j < n.mem.length := by omega
      have oma7 := OMA.out.below b67
      have osa7 := OSA.out.below b67
      have ooa7 := OOA.out.below b67
      have hxa : n.mem[j]? = some (n.mem.getD j zeroV) := by rw [List.getD_eq_getElem?_getD, List.getElem?_eq_getElem hjn]; rfl
      obtain ⟨gA, eA, hA, hA1, hA2, hA3, hA4⟩ := own_at oma7 hxa
      obtain ⟨g6, e6', _, _, hm2, hm3, hm4⟩ := own_at (OM6.out.below b67) (show (m.mem.set j x)[j]? = some x by rw [List.getElem?_set_self (by omega)])
      injection e6' with e6'
      injection e6' with e6'
      subst e6' eA
      rw [HXC.out] at hm4
      have x0 := hm4 0 _ rfl; have x1 := hm4 1 _ rfl; have x2 := hm4 2 _ rfl; have x3 := hm4 3 _ rfl; have x4 := hm4 4 _ rfl; have x5 := hm4 5 _ rfl; have x6 := hm4 6 _ rfl
      have f0 := hA4 0 _ rfl; have f1 := hA4 1 _ rfl; have f2 := hA4 2 _ rfl; have f3 := hA4 3 _ rfl; have f4 := hA4 4 _ rfl; have f5 := hA4 5 _ rfl; have f6 := hA4 6 _ rfl
      have e7 : El.k ValV = 7 := rfl
      simp only [e7, Nat.add_zero] at x0 x1 x2 x3 x4 x5 x6 f0 f1 f2 f3 f4 f5 f6
      have hAlt : gA < W6.heap.size := (own_lt OMA.out rfl).2
      have lA := ka7.lt
      have lM := km7.lt
      have mo8 : MOwn y0.val.heap.size (n.put j x) (mcs n.R n.c (.slice (some ⟨gA, 0, none⟩) n.mem.length nc) vs vo) (W7.setCells gA (j * 7) (cl x)) := MOwn.setMem HN8.out oma7 osa7 ooa7 hjn x
      have ka8 := bk_setCells_far ka7 (show ga ≠ gA from fun e => own_ty oma7 ka7 (by decide) (by rw [e]; rfl)) (j * 7) (cl x)
      have ba8 := mo8.box ka8
      have kb8 := bk_setCells_far kb7 (show gb ≠ gA by omega) (j * 7) (cl x)
      have bb8 := (mb7.far hAlt (j * 7) (cl x)).box kb8
      have b08 := below_setCells (ext_trans B06.out b67) (show w.heap.size ≤ gA by have := y0.ok.size; omega) (j * 7) (cl x)
      have HW8 := Lib.hid (show W7.setCells gA (j * 7) [.bool false, .int .i64 (wrap32 pN), .int .i64 0, .int .i64 0, .int .i64 0, .int .i64 0, .int .i64 0] = W7.setCells gA (j * 7) (cl x) by rw [HXC.out])
      rw [hln] at ba8
      have BA8 := Lib.hid ba8
      have BB8 := Lib.hid bb8
      have B08 := Lib.hid b08
      clear hA4 hm4 mo8 ka8 kb8 ba8 bb8 b08 oma7 osa7 ooa7 ka7 km7 kb7 mb7 b67 hxa e7 HST HXC HXOK BX6 K6 KA6 OMA OSA OOA OM6 HW6 MO7 HB7 tab6
      go_upto_region 15 with (fail)
      go_region
      go_upto_region 16 with (fail)
      rw [setCells7, HW8.out]
      go_wp2_with (first
        | (refine wpList_load_sub rfl 31 (.tmp 7) rfl ga 0 64 rfl 31 _ _ (BA8.out.below (ext_drew (Below.refl _ _))).bk Tryd.underlying31 rfl (by kernel_rfl) BA8.out.size _ BA8.out.all ?_)
        | (refine wpList_load_sub rfl 31 (.tmp 10) rfl gb 0 64 rfl 31 _ _ (BB8.out.below (ext_drew (Below.refl _ _))).bk Tryd.underlying31 rfl (by kernel_rfl) BB8.out.size _ BB8.out.all ?_)
        | (go_at_call 15; ((with_reducible refine (meq_box (BA8.out.below (ext_drew (Below.refl _ _))) (BB8.out.below (ext_drew (Below.refl _ _)))).mono ?_); rintro e u9 ⟨rfl, hb⟩; have HB9 := Lib.hid hb; clear hb)))
      go_ret
      exact ⟨rfl, ext_trans (ext_drew B08.out) HB9.out⟩
theorem stepSame_walk (x : MachA) (a n : Int) {w : World} (hx : x.ok w) (ha : I64 a) (hn : I64 n) (ht : Tab w) : Calls Tryd.prog 7 #[x.val, .int .i64 a, .int .i64 n] w fun e w' => e = .returned (.bool true) ∧ Below w.heap.size w w' :=
  same_mv ⟨x.R, x.c, x.mem, x.stk, x.out⟩ x.ma x.sa x.oa x.mc x.sc x.oc a n w hx.h8 hx.wc hx.wm ha hn hx.mem hx.stk hx.out ht
end Go.Proofs.YtopdnihokbhjfaaDoor
