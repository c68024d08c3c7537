import Derived.Test.YtopdnihokbhjfaaDoorMOwnZ
import Derived.Test.YtopdnihokbhjfaaDoorBuO
import Derived.Test.YtopdnihokbhjfaaDoorBuP
import Derived.Deep.DeepCutAuto
/- StepFew: a step changes few things. -/
namespace Go.Proofs.YtopdnihokbhjfaaDoor
open Go.RowKit
set_option linter.unusedVariables false
set_option linter.unusedSimpArgs false
/-- What is known of a step that goes well. -/
structure FewH (m X : MV) (i : InstV) : Prop where
  ok : m.Ok
  op : instOk i = true
  len : X.mem.length = m.mem.length
  out0 : m.out.length ≤ X.out.length
  out1 : X.out.length ≤ m.out.length + 1
  front : X.out.take m.out.length = m.out
  mem : ∀ j : Nat, j < m.mem.length → X.mem.getD j zeroV ≠ m.mem.getD j zeroV → i.op = 11 ∧ (m.reg i.b).is = true ∧ covB (m.reg i.b).k.base (m.reg i.b).k.len j = true ∧ andI (m.reg i.b).k.perm 2 ≠ 0 ∧ (j : Int) = (m.reg i.b).k.at_ + i.c ∧ X.mem.getD j zeroV = m.reg i.a
  regs : i.op ≠ 21 → diffs X.R m.R 8 ≤ 1
  x8 : X.R.length = 8
theorem MBox.regC {g : Nat} {m : MV} {cs : Array Value} {W : World} (h : MBox g m cs W) {a : Nat} (ha : a < 8) :
    W.cell? ⟨g, a * 7, none⟩ = some (.bool (m.reg a).is) ∧ W.cell? ⟨g, a * 7 + 1, none⟩ = some (.int .i64 (m.reg a).n) ∧ W.cell? ⟨g, a * 7 + 2, none⟩ = some (.int .i64 (m.reg a).k.perm) ∧ W.cell? ⟨g, a * 7 + 3, none⟩ = some (.int .i64 (m.reg a).k.base) ∧
      W.cell? ⟨g, a * 7 + 4, none⟩ = some (.int .i64 (m.reg a).k.len) ∧ W.cell? ⟨g, a * 7 + 5, none⟩ = some (.int .i64 (m.reg a).k.at_) ∧ W.cell? ⟨g, a * 7 + 6, none⟩ = some (.int .i64 (m.reg a).k.seal_) := by
  obtain ⟨ma, sa, oa, mc, sc, oc, e, _⟩ := h.row
  have hb := h.bk
  rw [e] at hb
  exact reg_cells hb h.h8 ha
theorem diffs_le_k (xs ys : List ValV) (k : Nat) : diffs xs ys k ≤ k := by
  induction k with
  | zero => exact Nat.le_refl _
  | succ k ih => unfold diffs; split <;> omega
theorem few_h {m : MV} (h8 : m.R.length = 8) (he : (stepF m).2 = 0) : FewH m (stepF m).1 (opF m) := by
  obtain ⟨hk, h1, i, h2, h3⟩ := stepF_ok h8 he
  obtain ⟨hi, hi2⟩ := opF_of h2
  rw [hi]
  have ho := few_out h3
  refine ⟨hk, hi2, stepd_mem_len h3, ?_, ?_, ?_, fun j hj hne => few_mem h3 hj hne, fun h21 => ?_, (one_ok hk h1).2⟩
  · rcases ho with e | ⟨x, e⟩ <;> rw [e] <;> simp
  · rcases ho with e | ⟨x, e⟩ <;> rw [e] <;> simp
  · rcases ho with e | ⟨x, e⟩ <;> rw [e] <;> simp
  · obtain ⟨r, hr⟩ := few_regs h3 h21
    have := diffs_le hr 8
    split at this <;> omega
set_option maxHeartbeats 8000000 in
set_option maxRecDepth 100000 in
theorem few_mv (m : MV) (ma sa oa : Option Addr) (mc sc oc : Nat) (w : World) (h8 : m.R.length = 8) (hwc : m.c.wf) (hw : ∀ v ∈ m.mem, v.wf)
    (hm : Sl w ma m.mem.length m.mem) (hs : Sl w sa m.stk.length m.stk) (ho : Sl w oa m.out.length m.out) (ht : Tab w) : Calls Tryd.prog 4 #[.agg (mcs m.R m.c (.slice ma m.mem.length mc) (.slice sa m.stk.length sc) (.slice oa m.out.length oc))] w fun e w' => e = .returned (.bool true) ∧ Below w.heap.size w w' := by
  have op := fun W (h : Below w.heap.size w W) => opof_any m ma sa oa mc sc oc W h8 hwc hw (hm.below h) (ht.below h)
  have hgo := fun he => few_h h8 he
  have hX8 : (stepF m).1.R.length = 8 := by
    by_cases he : (stepF m).2 = 0
    · exact (hgo he).x8
    · rw [stepF_bad he]; rfl
  obtain ⟨⟨X, er⟩, s1⟩ : ∃ x, stepF m = x := ⟨_, rfl⟩
  rw [s1] at hgo hX8
  simp only at hgo hX8
  unfold instVal at op
  generalize opF m = i at *
  obtain ⟨w1, hw1⟩ : ∃ w1, w1 = w.alloc (.cells (mcs m.R m.c (.slice ma m.mem.length mc) (.slice sa m.stk.length sc) (.slice oa m.out.length oc)) 31) := ⟨_, rfl⟩
  have h1w : Below w.heap.size w w1 := by rw [hw1]; exact ext_alloc (Below.refl _ _) _
  have hbox : MBox w.heap.size m (mcs m.R m.c (.slice ma m.mem.length mc) (.slice sa m.stk.length sc) (.slice oa m.out.length oc)) w1 := ⟨h8, by rw [hw1]; exact bk_new _ _ _, ma, sa, oa, mc, sc, oc, rfl, hm.below h1w, hs.below h1w, ho.below h1w⟩
  have hrc := fun W (k : Bk W w.heap.size 31 (mcs m.R m.c (.slice ma m.mem.length mc) (.slice sa m.stk.length sc) (.slice oa m.out.length oc))) (a : Nat) (ha : a < 8) => reg_cells k h8 ha
  generalize mcs m.R m.c (.slice ma m.mem.length mc) (.slice sa m.stk.length sc) (.slice oa m.out.length oc) = cs at *
  have SD := Lib.hid (fun W (h : Below w.heap.size w W) => stepped_any W (ht.below h))
  have OP := Lib.hid op
  have MX := Lib.hid hbox
  have S1 := Lib.hid s1
  have HX8 := Lib.hid hX8
  have HW1 := Lib.hid hw1
  have H1W := Lib.hid h1w
  have HT := Lib.hid ht
  have HGO := Lib.hid hgo
  have HRC := Lib.hid hrc
  clear op hbox s1 hX8 hw1 h1w ht hgo hrc hm hs ho hw hwc h8
  by_cases he : er = 0
  case neg =>
    have g1 : (er == 0) = false := by simpa using he
    have g2 : (er != 0) = true := by simpa using he
    clear he HGO
    go_enter Tryd.func4, Tryd.ntmps4
    go_upto_region 1 with (fail)
    rw [← HW1.out]
    go_wp2_with (first
      | (refine wpList_load_sub rfl 31 (.tmp 1) rfl w.heap.size 0 64 rfl 31 _ _ MX.out.bk Tryd.underlying31 rfl (by kernel_rfl) MX.out.size _ MX.out.all ?_)
      | (go_at_call 13; ((with_reducible refine (step_own MX.out (HT.out.below H1W.out) S1.out HX8.out).mono ?_); rintro e u1 ⟨cs1, rfl, mo, hb⟩; have MO1 := Lib.hid mo; have MX1 := Lib.hid mo.alloc; have HB1 := Lib.hid hb; clear hb mo))
      | (refine wpList_store_fresh rfl 31 (.tmp 3) (.tmp 13) rfl rfl cs1 31 _ rfl rfl (by rw [MO1.out.sz]; kernel_rfl) (by rw [MO1.out.sz]; kernel_rfl) MO1.out.one ?_)
      | (go_at_call 14; ((with_reducible refine (SD.out _ (ext_trans H1W.out (ext_alloc HB1.out _))).mono ?_); rintro e u2 ⟨rfl, hb⟩; have HB2 := Lib.hid hb; clear hb)))
    go_ret
    exact ⟨rfl, ext_trans H1W.out (ext_trans (ext_alloc HB1.out _) HB2.out)⟩
  subst he
  have hgo := HGO.out rfl
  go_enter Tryd.func4, Tryd.ntmps4
  go_upto_region 1 with (fail)
  rw [← HW1.out]
  go_upto_region 7 with (first
    | (refine wpList_load_sub rfl 31 (.tmp 1) rfl w.heap.size 0 64 rfl 31 _ _ MX.out.bk Tryd.underlying31 rfl (by kernel_rfl) MX.out.size _ MX.out.all ?_)
    | (go_at_call 13; ((with_reducible refine (step_own MX.out (HT.out.below H1W.out) S1.out HX8.out).mono ?_); rintro e u1 ⟨cs1, rfl, mo, hb⟩; have MO1 := Lib.hid mo; have MX1 := Lib.hid mo.alloc; have HB1 := Lib.hid hb; clear hb mo))
    | (refine wpList_store_fresh rfl 31 (.tmp 3) (.tmp 13) rfl rfl cs1 31 _ rfl rfl (by rw [MO1.out.sz]; kernel_rfl) (by rw [MO1.out.sz]; kernel_rfl) MO1.out.one ?_)
    | (go_at_call 14; ((with_reducible refine (SD.out _ (ext_trans H1W.out (ext_alloc HB1.out _))).mono ?_); rintro e u2 ⟨rfl, hb⟩; have HB2 := Lib.hid hb; clear hb))
    | (refine wpList_load_sub rfl 31 (.tmp 1) rfl w.heap.size 0 64 rfl 31 _ _ (MX.out.below (ext_trans (ext_alloc HB1.out _) HB2.out)).bk Tryd.underlying31 rfl (by kernel_rfl) MX.out.size _ MX.out.all ?_)
    | (go_at_call 16; ((with_reducible refine (OP.out _ (ext_trans H1W.out (ext_trans (ext_alloc HB1.out _) HB2.out))).mono ?_); rintro e u3 ⟨rfl, hb⟩; have HB3 := Lib.hid hb; clear hb)))
  obtain ⟨W4, hW4⟩ : ∃ W4, W4 = u3.alloc (.cells #[.int .i64 i.op, .int .i64 i.a, .int .i64 i.b, .int .i64 i.c] 40) := ⟨_, rfl⟩
  obtain ⟨gi, hgi⟩ : ∃ gi, gi = u3.heap.size := ⟨_, rfl⟩
  have b14 : Below w1.heap.size w1 W4 := by rw [hW4]; exact (ext_alloc (ext_trans (ext_trans (ext_alloc HB1.out _) HB2.out) HB3.out) _)
  have ki4 : Bk W4 gi 40 #[.int .i64 i.op, .int .i64 i.a, .int .i64 i.b, .int .i64 i.c] := by rw [hW4, hgi]; exact bk_new _ _ _
  have bx4 : MBox u1.heap.size X cs1 W4 := by rw [hW4]; exact MX1.out.below (ext_alloc (ext_trans HB2.out HB3.out) _)
  have mo4 : MOwn w1.heap.size X cs1 W4 := by rw [hW4]; exact MO1.out.below (ext_alloc (ext_trans (ext_trans (ext_alloc (Below.refl _ _) _) HB2.out) HB3.out) _)
  obtain ⟨gx, hgx⟩ : ∃ gx, gx = u1.heap.size := ⟨_, rfl⟩
  rw [← hgx] at bx4
  rw [← hW4, ← hgi, ← hgx]
  clear hW4 hgi hgx MX1 MO1
  have bm4 := MX.out.below b14
  obtain ⟨xo, xc, x63, xsl, xcap, xmax⟩ := mo4.outC
  obtain ⟨xm, xmc, x61, xms⟩ := bx4.memC
  obtain ⟨mo, moc, m63, msl⟩ := bm4.outC
  obtain ⟨mm, mmc, m61, mms⟩ := bm4.memC
  have x63' : W4.cell? ⟨gx, 63, none⟩ = some (.slice xo X.out.length xc) := by rw [bx4.bk.cell]; exact x63
  have xfr := sl_front xsl hgo.out0
  rw [hgo.front] at xfr
  rw [hgo.len] at x61
  have heq : ∀ W1, Below W4.heap.size W4 W1 → Calls Tryd.prog 17 #[.slice xo m.out.length xc, .slice mo m.out.length moc] W1 fun e w' => e = .returned (.bool true) ∧ Below W1.heap.size W1 w' := fun W1 hb => by
    have := eq_int xo mo m.out.length m.out.length xc moc m.out m.out W1 (xfr.below hb) (msl.below hb)
    rwa [decide_eq_true rfl] at this
  have xlt := bx4.bk.lt
  have mlt := bm4.bk.lt
  have hcl : ∀ W1, Below W4.heap.size W4 W1 → W1.cell? ⟨gx, 61, none⟩ = some (.slice xm m.mem.length xmc) ∧ W1.cell? ⟨w.heap.size, 61, none⟩ = some (.slice mm m.mem.length mmc) ∧ W1.cell? ⟨gx, 63, none⟩ = some (.slice xo X.out.length xc) ∧ W1.cell? ⟨w.heap.size, 63, none⟩ = some (.slice mo m.out.length moc) := fun W1 hb =>
    ⟨(hb.cell (p := ⟨gx, 61, none⟩) xlt).trans x61, (hb.cell (p := ⟨w.heap.size, 61, none⟩) mlt).trans m61, (hb.cell (p := ⟨gx, 63, none⟩) xlt).trans x63', (hb.cell (p := ⟨w.heap.size, 63, none⟩) mlt).trans m63⟩
  have t100 := hgo.ok.1.told
  have l400 := hgo.ok.1.len
  have o0 := hgo.out0
  have o1 := hgo.out1
  have BX4 := Lib.hid bx4
  have BM4 := Lib.hid bm4
  have MO4 := Lib.hid mo4
  have KI4 := Lib.hid ki4
  have B14 := Lib.hid b14
  have XMS := Lib.hid xms
  have MMS := Lib.hid mms
  have HGG := Lib.hid hgo
  obtain ⟨lx, hlx⟩ : ∃ lx, X.out.length = lx := ⟨_, rfl⟩
  obtain ⟨lo, hlo⟩ : ∃ lo, m.out.length = lo := ⟨_, rfl⟩
  obtain ⟨lm, hlm⟩ : ∃ lm, m.mem.length = lm := ⟨_, rfl⟩
  simp only [hlx, hlo, hlm] at hcl
  rw [hlo] at heq
  rw [hlx] at xcap o0 o1
  rw [hlo] at o0 o1 t100
  rw [hlm] at l400
  have p1 : decide (lx < lo) = false := decide_eq_false (by omega)
  have p1i : decide ((lx : Int) < lo) = false := decide_eq_false (by omega)
  have p3 : decide ((lo : Int) + 1 < lx) = false := decide_eq_false (by omega)
  have p4 : (lo : Int) ≤ xc := by omega
  have p5 : (0 : Int) ≤ lo := by omega
  have p6 : lo ≤ xc := by omega
  obtain ⟨p2, p2b⟩ : IntKind.i64.wrap ((lo : Int) + 1) = (lo : Int) + 1 ∧ wrap64 ((lo : Int) + 1) = (lo : Int) + 1 := ⟨IntWalk.i64_in ((lo : Int) + 1) ⟨by omega, by omega⟩, IntWalk.wrap64_in ((lo : Int) + 1) ⟨by omega, by omega⟩⟩
  have HCL := Lib.hid hcl
  have HEQ := Lib.hid heq
  have HLM := Lib.hid hlm
  clear hcl heq x61 x63 x63' m61 m63 xfr xsl msl xms mms mo4 bx4 bm4 ki4 b14 hlx hlo hlm hgo xcap xmax t100 o0 o1 HGO
  refine wp_region_held_drew (S := fun W1 => Below W4.heap.size W4 W1) (by kernel_rfl) (ext_drew (Below.refl _ _)) (fun hHeld => ?_)
  refine wpAnyH_take (i := 0) (v := ?_) rfl (by kernel_rfl) (by kernel_rfl) (by kernel_rfl) (fun _ _ _ h => h) (Or.inl ⟨by rfl, ?hyT⟩) hHeld ?restT
  case hyT => (intro wS hSw; obtain ⟨q1, q2, q3, q4⟩ := HCL.out wS hSw; go_simp; try with_reducible rfl)
  case restT =>
    change wpAnyH _ _ _ _ _ _ _ (Act.mk _ _) _; try simp only [Act.put, List.setIfInBounds_toArray, List.set_cons_zero, List.set_cons_succ]
    refine wpAnyH_take (i := 1) (v := ?_) rfl (by kernel_rfl) (by kernel_rfl) (by kernel_rfl) (fun _ _ _ h => h) (Or.inl ⟨by rfl, ?hyT⟩) hHeld ?restT
    case hyT => (intro wS hSw; obtain ⟨q1, q2, q3, q4⟩ := HCL.out wS hSw; go_simp; try with_reducible rfl)
    case restT =>
      change wpAnyH _ _ _ _ _ _ _ (Act.mk _ _) _; try simp only [Act.put, List.setIfInBounds_toArray, List.set_cons_zero, List.set_cons_succ]
      refine wpAnyH_take (i := 2) (v := ?_) rfl (by kernel_rfl) (by kernel_rfl) (by kernel_rfl) (fun _ _ _ h => h) (Or.inl ⟨by rfl, ?hyT⟩) hHeld ?restT
      case hyT => (intro wS hSw; obtain ⟨q1, q2, q3, q4⟩ := HCL.out wS hSw; go_simp; try with_reducible rfl)
      case restT =>
        change wpAnyH _ _ _ _ _ _ _ (Act.mk _ _) _; try simp only [Act.put, List.setIfInBounds_toArray, List.set_cons_zero, List.set_cons_succ]
        refine wpAnyH_take (i := 3) (v := ?_) rfl (by kernel_rfl) (by kernel_rfl) (by kernel_rfl) (fun _ _ _ h => h) (Or.inl ⟨by rfl, ?hyT⟩) hHeld ?restT
        case hyT => (intro wS hSw; obtain ⟨q1, q2, q3, q4⟩ := HCL.out wS hSw; go_simp; try with_reducible rfl)
        case restT =>
          change wpAnyH _ _ _ _ _ _ _ (Act.mk _ _) _; try simp only [Act.put, List.setIfInBounds_toArray, List.set_cons_zero, List.set_cons_succ]
          refine wpAnyH_take (i := 4) (v := ?_) rfl (by kernel_rfl) (by kernel_rfl) (by kernel_rfl) (fun _ _ _ h => h) (Or.inl ⟨by rfl, ?hyT⟩) hHeld ?restT
          case hyT => (intro wS hSw; obtain ⟨q1, q2, q3, q4⟩ := HCL.out wS hSw; go_simp; try with_reducible rfl)
          case restT =>
            change wpAnyH _ _ _ _ _ _ _ (Act.mk _ _) _; try simp only [Act.put, List.setIfInBounds_toArray, List.set_cons_zero, List.set_cons_succ]
            refine wpAnyH_take (i := 5) (v := ?_) rfl (by kernel_rfl) (by kernel_rfl) (by kernel_rfl) (fun _ _ _ h => h) (Or.inl ⟨by rfl, ?hyT⟩) hHeld ?restT
            case hyT => (intro wS hSw; obtain ⟨q1, q2, q3, q4⟩ := HCL.out wS hSw; go_simp; try with_reducible rfl)
            case restT =>
              change wpAnyH _ _ _ _ _ _ _ (Act.mk _ _) _; try simp only [Act.put, List.setIfInBounds_toArray, List.set_cons_zero, List.set_cons_succ]
              refine wpAnyH_take (i := 6) (v := ?_) rfl (by kernel_rfl) (by kernel_rfl) (by kernel_rfl) (fun _ _ _ h => h) (Or.inl ⟨by rfl, ?hyT⟩) hHeld ?restT
              case hyT => (intro wS hSw; obtain ⟨q1, q2, q3, q4⟩ := HCL.out wS hSw; go_simp; try with_reducible rfl)
              case restT =>
                change wpAnyH _ _ _ _ _ _ _ (Act.mk _ _) _; try simp only [Act.put, List.setIfInBounds_toArray, List.set_cons_zero, List.set_cons_succ]
                refine wpAnyH_take (i := 7) (v := ?_) rfl (by kernel_rfl) (by kernel_rfl) (by kernel_rfl) (fun _ _ _ h => h) (Or.inl ⟨by rfl, ?hyT⟩) hHeld ?restT
                case hyT => (intro wS hSw; obtain ⟨q1, q2, q3, q4⟩ := HCL.out wS hSw; go_simp; try with_reducible rfl)
                case restT =>
                  change wpAnyH _ _ _ _ _ _ _ (Act.mk _ _) _; try simp only [Act.put, List.setIfInBounds_toArray, List.set_cons_zero, List.set_cons_succ]
                  refine wpAnyH_take (i := 8) (v := ?_) rfl (by kernel_rfl) (by kernel_rfl) (by kernel_rfl) (fun _ _ _ h => h) (Or.inl ⟨by rfl, ?hyT⟩) hHeld ?restT
                  case hyT => (intro wS hSw; obtain ⟨q1, q2, q3, q4⟩ := HCL.out wS hSw; go_simp; try with_reducible rfl)
                  case restT =>
                    change wpAnyH _ _ _ _ _ _ _ (Act.mk _ _) _; try simp only [Act.put, List.setIfInBounds_toArray, List.set_cons_zero, List.set_cons_succ]
                    refine wpAnyH_take (i := 9) (v := ?_) rfl (by kernel_rfl) (by kernel_rfl) (by kernel_rfl) (fun _ _ _ h => h) (Or.inl ⟨by rfl, ?hyT⟩) hHeld ?restT
                    case hyT => (intro wS hSw; obtain ⟨q1, q2, q3, q4⟩ := HCL.out wS hSw; go_simp; try with_reducible rfl)
                    case restT =>
                      change wpAnyH _ _ _ _ _ _ _ (Act.mk _ _) _; try simp only [Act.put, List.setIfInBounds_toArray, List.set_cons_zero, List.set_cons_succ]
                      refine wpAnyH_take (i := 10) (v := ?_) rfl (by kernel_rfl) (by kernel_rfl) (by kernel_rfl) (fun _ _ _ h => h) (Or.inl ⟨by rfl, ?hyT⟩) hHeld ?restT
                      case hyT => (intro wS hSw; obtain ⟨q1, q2, q3, q4⟩ := HCL.out wS hSw; go_simp; try with_reducible rfl)
                      case restT =>
                        change wpAnyH _ _ _ _ _ _ _ (Act.mk _ _) _; try simp only [Act.put, List.setIfInBounds_toArray, List.set_cons_zero, List.set_cons_succ]
                        refine wpAnyH_take (i := 11) (v := ?_) rfl (by kernel_rfl) (by kernel_rfl) (by kernel_rfl) (fun _ _ _ h => h) (Or.inl ⟨by rfl, ?hyT⟩) hHeld ?restT
                        case hyT => (intro wS hSw; obtain ⟨q1, q2, q3, q4⟩ := HCL.out wS hSw; go_simp; try with_reducible rfl)
                        case restT =>
                          change wpAnyH _ _ _ _ _ _ _ (Act.mk _ _) _; try simp only [Act.put, List.setIfInBounds_toArray, List.set_cons_zero, List.set_cons_succ]
                          refine wpAnyH_take (i := 12) (v := ?_) rfl (by kernel_rfl) (by kernel_rfl) (by kernel_rfl) (fun _ _ _ h => h) (Or.inl ⟨by rfl, ?hyT⟩) hHeld ?restT
                          case hyT => (intro wS hSw; obtain ⟨q1, q2, q3, q4⟩ := HCL.out wS hSw; go_simp; try with_reducible rfl)
                          case restT =>
                            change wpAnyH _ _ _ _ _ _ _ (Act.mk _ _) _; try simp only [Act.put, List.setIfInBounds_toArray, List.set_cons_zero, List.set_cons_succ]
                            refine wpAnyH_take (i := 13) (v := ?_) rfl (by kernel_rfl) (by kernel_rfl) (by kernel_rfl) (fun _ _ _ h => h) (Or.inl ⟨by rfl, ?hyT⟩) hHeld ?restT
                            case hyT => (intro wS hSw; obtain ⟨q1, q2, q3, q4⟩ := HCL.out wS hSw; go_simp; try with_reducible rfl)
                            case restT =>
                              change wpAnyH _ _ _ _ _ _ _ (Act.mk _ _) _; try simp only [Act.put, List.setIfInBounds_toArray, List.set_cons_zero, List.set_cons_succ]
                              refine wpAnyH_take (i := 14) (v := ?_) rfl (by kernel_rfl) (by kernel_rfl) (by kernel_rfl) (fun _ _ _ h => h) (Or.inl ⟨by rfl, ?hyT⟩) hHeld ?restT
                              case hyT => (intro wS hSw; obtain ⟨q1, q2, q3, q4⟩ := HCL.out wS hSw; go_simp; try with_reducible rfl)
                              case restT =>
                                change wpAnyH _ _ _ _ _ _ _ (Act.mk _ _) _; try simp only [Act.put, List.setIfInBounds_toArray, List.set_cons_zero, List.set_cons_succ]
                                refine wpAnyH_take (i := 15) (v := ?_) rfl (by kernel_rfl) (by kernel_rfl) (by kernel_rfl) (fun _ _ _ h => h) (Or.inl ⟨by rfl, ?hyT⟩) hHeld ?restT
                                case hyT => (intro wS hSw; obtain ⟨q1, q2, q3, q4⟩ := HCL.out wS hSw; go_simp; try with_reducible rfl)
                                case restT =>
                                  change wpAnyH _ _ _ _ _ _ _ (Act.mk _ _) _; try simp only [Act.put, List.setIfInBounds_toArray, List.set_cons_zero, List.set_cons_succ]
                                  refine wpAnyH_take (i := 16) (v := ?_) rfl (by kernel_rfl) (by kernel_rfl) (by kernel_rfl) (fun _ _ _ h => h) (Or.inl ⟨by rfl, ?hyT⟩) hHeld ?restT
                                  case hyT => (intro wS hSw; obtain ⟨q1, q2, q3, q4⟩ := HCL.out wS hSw; go_simp; try with_reducible rfl)
                                  case restT =>
                                    change wpAnyH _ _ _ _ _ _ _ (Act.mk _ _) _; try simp only [Act.put, List.setIfInBounds_toArray, List.set_cons_zero, List.set_cons_succ]
                                    refine wpAnyH_take (i := 17) (v := ?_) rfl (by kernel_rfl) (by kernel_rfl) (by kernel_rfl) (fun _ _ _ h => h) (Or.inl ⟨by rfl, ?hyT⟩) hHeld ?restT
                                    case hyT => (intro wS hSw; obtain ⟨q1, q2, q3, q4⟩ := HCL.out wS hSw; go_simp; try with_reducible rfl)
                                    case restT =>
                                      change wpAnyH _ _ _ _ _ _ _ (Act.mk _ _) _; try simp only [Act.put, List.setIfInBounds_toArray, List.set_cons_zero, List.set_cons_succ]
                                      refine wpAnyH_take (i := 18) (v := ?_) rfl (by kernel_rfl) (by kernel_rfl) (by kernel_rfl) (fun _ _ _ h => h) (Or.inl ⟨by rfl, ?hyT⟩) hHeld ?restT
                                      case hyT => (intro wS hSw; obtain ⟨q1, q2, q3, q4⟩ := HCL.out wS hSw; go_simp; try with_reducible rfl)
                                      case restT =>
                                        change wpAnyH _ _ _ _ _ _ _ (Act.mk _ _) _; try simp only [Act.put, List.setIfInBounds_toArray, List.set_cons_zero, List.set_cons_succ]
                                        refine wpAnyH_take (i := 19) (v := ?_) rfl (by kernel_rfl) (by kernel_rfl) (by kernel_rfl) (fun _ _ _ h => h) (Or.inl ⟨by rfl, ?hyT⟩) hHeld ?restT
                                        case hyT => (intro wS hSw; obtain ⟨q1, q2, q3, q4⟩ := HCL.out wS hSw; go_simp; try with_reducible rfl)
                                        case restT =>
                                          change wpAnyH _ _ _ _ _ _ _ (Act.mk _ _) _; try simp only [Act.put, List.setIfInBounds_toArray, List.set_cons_zero, List.set_cons_succ]
                                          refine wpAnyH_take (i := 20) (v := ?_) rfl (by kernel_rfl) (by kernel_rfl) (by kernel_rfl) (fun _ _ _ h => h) (Or.inl ⟨by rfl, ?hyT⟩) hHeld ?restT
                                          case hyT => (intro wS hSw; obtain ⟨q1, q2, q3, q4⟩ := HCL.out wS hSw; go_simp; try with_reducible rfl)
                                          case restT =>
                                            change wpAnyH _ _ _ _ _ _ _ (Act.mk _ _) _; try simp only [Act.put, List.setIfInBounds_toArray, List.set_cons_zero, List.set_cons_succ]
                                            refine wpAnyH_take (i := 21) (v := ?_) rfl (by kernel_rfl) (by kernel_rfl) (by kernel_rfl) (fun _ _ _ h => h) (Or.inl ⟨by rfl, ?hyT⟩) hHeld ?restT
                                            case hyT => (intro wS hSw; obtain ⟨q1, q2, q3, q4⟩ := HCL.out wS hSw; go_simp; try with_reducible rfl)
                                            case restT =>
                                              change wpAnyH _ _ _ _ _ _ _ (Act.mk _ _) _; try simp only [Act.put, List.setIfInBounds_toArray, List.set_cons_zero, List.set_cons_succ]
                                              refine wpAnyH_take (i := 22) (v := ?_) rfl (by kernel_rfl) (by kernel_rfl) (by kernel_rfl) (fun _ _ _ h => h) (Or.inl ⟨by rfl, ?hyT⟩) hHeld ?restT
                                              case hyT => (intro wS hSw; obtain ⟨q1, q2, q3, q4⟩ := HCL.out wS hSw; go_simp; try with_reducible rfl)
                                              case restT =>
                                                change wpAnyH _ _ _ _ _ _ _ (Act.mk _ _) _; try simp only [Act.put, List.setIfInBounds_toArray, List.set_cons_zero, List.set_cons_succ]
                                                refine wpAnyH_take (i := 23) (v := ?_) rfl (by kernel_rfl) (by kernel_rfl) (by kernel_rfl) (fun _ _ _ h => h) (Or.inl ⟨by rfl, ?hyT⟩) hHeld ?restT
                                                case hyT => (intro wS hSw; obtain ⟨q1, q2, q3, q4⟩ := HCL.out wS hSw; go_simp; try with_reducible rfl)
                                                case restT =>
                                                  change wpAnyH _ _ _ _ _ _ _ (Act.mk _ _) _; try simp only [Act.put, List.setIfInBounds_toArray, List.set_cons_zero, List.set_cons_succ]
                                                  refine wpAnyH_take (i := 24) (v := ?_) rfl (by kernel_rfl) (by kernel_rfl) (by kernel_rfl) (fun _ _ _ h => h) (Or.inl ⟨by rfl, ?hyT⟩) hHeld ?restT
                                                  case hyT => (intro wS hSw; obtain ⟨q1, q2, q3, q4⟩ := HCL.out wS hSw; go_simp; try with_reducible rfl)
                                                  case restT =>
                                                    change wpAnyH _ _ _ _ _ _ _ (Act.mk _ _) _; try simp only [Act.put, List.setIfInBounds_toArray, List.set_cons_zero, List.set_cons_succ]
                                                    refine wpAnyH_take (i := 25) (v := ?_) rfl (by kernel_rfl) (by kernel_rfl) (by kernel_rfl) (fun _ _ _ h => h) (Or.inl ⟨by rfl, ?hyT⟩) hHeld ?restT
                                                    case hyT => (intro wS hSw; obtain ⟨q1, q2, q3, q4⟩ := HCL.out wS hSw; go_simp; try with_reducible rfl)
                                                    case restT =>
                                                      change wpAnyH _ _ _ _ _ _ _ (Act.mk _ _) _; try simp only [Act.put, List.setIfInBounds_toArray, List.set_cons_zero, List.set_cons_succ]
                                                      refine wpAnyH_take (i := 26) (v := ?_) rfl (by kernel_rfl) (by kernel_rfl) (by kernel_rfl) (fun _ _ _ h => h) (Or.inl ⟨by rfl, ?hyT⟩) hHeld ?restT
                                                      case hyT => (intro wS hSw; obtain ⟨q1, q2, q3, q4⟩ := HCL.out wS hSw; go_simp; try with_reducible rfl)
                                                      case restT =>
                                                        change wpAnyH _ _ _ _ _ _ _ (Act.mk _ _) _; try simp only [Act.put, List.setIfInBounds_toArray, List.set_cons_zero, List.set_cons_succ]
                                                        refine wpAnyH_take (i := 27) (v := ?_) rfl (by kernel_rfl) (by kernel_rfl) (by kernel_rfl) (fun _ _ _ h => h) (Or.inl ⟨by rfl, ?hyT⟩) hHeld ?restT
                                                        case hyT => (intro wS hSw; obtain ⟨q1, q2, q3, q4⟩ := HCL.out wS hSw; go_simp; try with_reducible rfl)
                                                        case restT =>
                                                          change wpAnyH _ _ _ _ _ _ _ (Act.mk _ _) _; try simp only [Act.put, List.setIfInBounds_toArray, List.set_cons_zero, List.set_cons_succ]
                                                          refine wpAnyH_take (i := 28) (v := ?_) rfl (by kernel_rfl) (by kernel_rfl) (by kernel_rfl) (fun _ _ _ h => h) (Or.inl ⟨by rfl, ?hyT⟩) hHeld ?restT
                                                          case hyT => (intro wS hSw; obtain ⟨q1, q2, q3, q4⟩ := HCL.out wS hSw; go_simp; try with_reducible rfl)
                                                          case restT =>
                                                            change wpAnyH _ _ _ _ _ _ _ (Act.mk _ _) _; try simp only [Act.put, List.setIfInBounds_toArray, List.set_cons_zero, List.set_cons_succ]
                                                            refine wpAnyH_take (i := 29) (v := ?_) rfl (by kernel_rfl) (by kernel_rfl) (by kernel_rfl) (fun _ _ _ h => h) (Or.inl ⟨by rfl, ?hyT⟩) hHeld ?restT
                                                            case hyT => (intro wS hSw; obtain ⟨q1, q2, q3, q4⟩ := HCL.out wS hSw; go_simp; try with_reducible rfl)
                                                            case restT =>
                                                              change wpAnyH _ _ _ _ _ _ _ (Act.mk _ _) _; try simp only [Act.put, List.setIfInBounds_toArray, List.set_cons_zero, List.set_cons_succ]
                                                              refine wpAnyH_take (i := 30) (v := ?_) rfl (by kernel_rfl) (by kernel_rfl) (by kernel_rfl) (fun _ _ _ h => h) (Or.inl ⟨by rfl, ?hyT⟩) hHeld ?restT
                                                              case hyT => (intro wS hSw; obtain ⟨q1, q2, q3, q4⟩ := HCL.out wS hSw; go_simp; try with_reducible rfl)
                                                              case restT =>
                                                                change wpAnyH _ _ _ _ _ _ _ (Act.mk _ _) _; try simp only [Act.put, List.setIfInBounds_toArray, List.set_cons_zero, List.set_cons_succ]
                                                                refine wpAnyH_take (i := 31) (v := ?_) rfl (by kernel_rfl) (by kernel_rfl) (by kernel_rfl) (fun _ _ _ h => h) (Or.inl ⟨by rfl, ?hyT⟩) hHeld ?restT
                                                                case hyT => (intro wS hSw; obtain ⟨q1, q2, q3, q4⟩ := HCL.out wS hSw; go_simp; try with_reducible rfl)
                                                                case restT =>
                                                                  change wpAnyH _ _ _ _ _ _ _ (Act.mk _ _) _; try simp only [Act.put, List.setIfInBounds_toArray, List.set_cons_zero, List.set_cons_succ]
                                                                  refine wpAnyH_take (i := 32) (v := ?_) rfl (by kernel_rfl) (by kernel_rfl) (by kernel_rfl) (fun _ _ _ h => h) (Or.inl ⟨by rfl, ?hyT⟩) hHeld ?restT
                                                                  case hyT => (intro wS hSw; obtain ⟨q1, q2, q3, q4⟩ := HCL.out wS hSw; go_simp; try with_reducible rfl)
                                                                  case restT =>
                                                                    change wpAnyH _ _ _ _ _ _ _ (Act.mk _ _) _; try simp only [Act.put, List.setIfInBounds_toArray, List.set_cons_zero, List.set_cons_succ]
                                                                    refine wpAnyH_take (i := 33) (v := ?_) rfl (by kernel_rfl) (by kernel_rfl) (by kernel_rfl) (fun _ _ _ h => h) (Or.inl ⟨by rfl, ?hyT⟩) hHeld ?restT
                                                                    case hyT => (intro wS hSw; obtain ⟨q1, q2, q3, q4⟩ := HCL.out wS hSw; go_simp; try with_reducible rfl)
                                                                    case restT =>
                                                                      change wpAnyH _ _ _ _ _ _ _ (Act.mk _ _) _; try simp only [Act.put, List.setIfInBounds_toArray, List.set_cons_zero, List.set_cons_succ]
                                                                      refine wpAnyH_take (i := 34) (v := ?_) rfl (by kernel_rfl) (by kernel_rfl) (by kernel_rfl) (fun _ _ _ h => h) (Or.inl ⟨by rfl, ?hyT⟩) hHeld ?restT
                                                                      case hyT => (intro wS hSw; obtain ⟨q1, q2, q3, q4⟩ := HCL.out wS hSw; go_simp; try with_reducible rfl)
                                                                      case restT =>
                                                                        change wpAnyH _ _ _ _ _ _ _ (Act.mk _ _) _; try simp only [Act.put, List.setIfInBounds_toArray, List.set_cons_zero, List.set_cons_succ]
                                                                        refine wpAnyH_ready (rs := [35]) (by kernel_rfl) (by simp) ?_
                                                                        refine AllReadyH.cons rfl (fun K hK => ?_) AllReadyH.nil
                                                                        go_simp
                                                                        go_wp2_with (go_at_call 17; ((with_reducible refine (HEQ.out _ (ext_drew (Below.refl _ _))).mono ?_); rintro e u5 ⟨rfl, hb⟩; have HB5 := Lib.hid hb; clear hb))
                                                                        refine hK.out _ _ (ext_trans (ext_drew (Below.refl _ _)) HB5.out) (fun hHeld => ?_)
                                                                        clear hK K
                                                                        change wpAnyH _ _ _ _ _ _ _ (Act.mk _ _) _; try simp only [Act.put, List.setIfInBounds_toArray, List.set_cons_zero, List.set_cons_succ]
                                                                        refine wpAnyH_take (i := 36) (v := ?_) rfl (by kernel_rfl) (by kernel_rfl) (by kernel_rfl) (fun _ _ _ h => h) (Or.inl ⟨by rfl, ?hyT⟩) hHeld ?restT
                                                                        case hyT => (intro wS hSw; obtain ⟨q1, q2, q3, q4⟩ := HCL.out wS hSw; go_simp; try with_reducible rfl)
                                                                        case restT =>
                                                                          change wpAnyH _ _ _ _ _ _ _ (Act.mk _ _) _; try simp only [Act.put, List.setIfInBounds_toArray, List.set_cons_zero, List.set_cons_succ]
                                                                          refine wpAnyH_take (i := 37) (v := ?_) rfl (by kernel_rfl) (by kernel_rfl) (by kernel_rfl) (fun _ _ _ h => h) (Or.inl ⟨by rfl, ?hyT⟩) hHeld ?restT
                                                                          case hyT => (intro wS hSw; go_simp; try with_reducible rfl)
                                                                          case restT =>
                                                                            change wpAnyH _ _ _ _ _ _ _ (Act.mk _ _) _; try simp only [Act.put, List.setIfInBounds_toArray, List.set_cons_zero, List.set_cons_succ]
                                                                            refine wpAnyH_done (by kernel_rfl) ?_ _
                                                                            have b45 : Below W4.heap.size W4 u5 := ext_trans (ext_drew (Below.refl _ _)) HB5.out
                                                                            have kx5 := HCL.out _ b45
                                                                            obtain ⟨x61', m61', _, _⟩ := kx5
                                                                            clear x61'
                                                                            have B45 := Lib.hid b45
                                                                            clear b45
                                                                            go_wp2_with (fail)
                                                                            clear m61'
                                                                            go_loopw [62] (fun p wr => ∃ k : Nat, k ≤ lm ∧ p = .int .i64 k ∧ Below W4.heap.size W4 wr) (fun i _ => lm - (intOf i).toNat)
                                                                            case atStart => exact ⟨0, Nat.zero_le _, rfl, B45.out⟩
                                                                            case round =>
                                                                              obtain ⟨k, hk, rfl, hb⟩ := hrel
                                                                              obtain ⟨x61, m61, _, _⟩ := HCL.out _ hb
                                                                              have HB := Lib.hid hb
                                                                              by_cases hlt : k < lm
                                                                              · have q1 : (k : Int) < lm := by omega
                                                                                have q0 : (0 : Int) ≤ (k : Int) := by omega
                                                                                have hlX : k < X.mem.length := by rw [HGG.out.len, HLM.out]; exact hlt
                                                                                have hlM : k < m.mem.length := by rw [HLM.out]; exact hlt
                                                                                obtain ⟨x, hgx⟩ : ∃ x, X.mem[k]? = some x := ⟨_, List.getElem?_eq_getElem hlX⟩
                                                                                obtain ⟨y, hgy⟩ : ∃ y, m.mem[k]? = some y := ⟨_, List.getElem?_eq_getElem hlM⟩
                                                                                obtain ⟨ad, rfl, hab, e0, e1, e2, e3, e4, e5, e6⟩ := sl_valg (XMS.out.below hb) hlX hgx
                                                                                obtain ⟨bd, rfl, hbb, f0, f1, f2, f3, f4, f5, f6⟩ := sl_valg (MMS.out.below hb) hlM hgy
                                                                                have bx : (ad.add (k * 7)).block < wr.heap.size := by rw [el_block]; exact hab
                                                                                have by_ : (bd.add (k * 7)).block < wr.heap.size := by rw [el_block]; exact hbb
                                                                                have q := fun W => run_neq_val x y W
                                                                                have HGX := Lib.hid hgx
                                                                                have HGY := Lib.hid hgy
                                                                                clear hgx hgy hb hlX hlM
                                                                                have xL := World.block_lt_of_cell? _ _ x61
                                                                                have mL := World.block_lt_of_cell? _ _ m61
                                                                                by_cases hxy : x = y
                                                                                · subst hxy
                                                                                  simp only [decide_true, Bool.not_true] at q
                                                                                  obtain ⟨xi, xn, xp, xb, xl, xa, xs_⟩ := x
                                                                                  simp only [ValV.val] at q e0 e1 e2 e3 e4 e5 e6 f0 f1 f2 f3 f4 f5 f6
                                                                                  go_wp2
                                                                                  go_quiet (fail)
                                                                                  go_wp2
                                                                                  go_roundw
                                                                                  case rel => exact ⟨k + 1, by omega, by go_num, ext_drewN HB.out _⟩
                                                                                  case measure => simp [intOf]; omega
                                                                                · have hne : X.mem.getD k zeroV ≠ m.mem.getD k zeroV := by
                                                                                    rw [List.getD_eq_getElem?_getD, List.getD_eq_getElem?_getD, HGX.out, HGY.out]
                                                                                    exact hxy
                                                                                  obtain ⟨o11, his, hcov, hperm, hat, hval⟩ := HGG.out.mem k (by rw [HLM.out]; exact hlt) hne
                                                                                  have hxv : x = m.reg i.a := by rw [← hval, List.getD_eq_getElem?_getD, HGX.out]; rfl
                                                                                  obtain ⟨ia, ib, hN⟩ := inst_n HGG.out.op
                                                                                  simp only [decide_eq_false hxy, Bool.not_false] at q
                                                                                  have HXV := Lib.hid hxv
                                                                                  have HCOV := Lib.hid hcov
                                                                                  have HPERM := Lib.hid hperm
                                                                                  have HAT := Lib.hid hat
                                                                                  have HO11 := Lib.hid o11
                                                                                  have HN := Lib.hid hN
                                                                                  clear hne hxy hval hxv hcov hperm hat o11 his hN
                                                                                  obtain ⟨xi, xn, xp, xb, xl, xa, xs_⟩ := x
                                                                                  obtain ⟨yi, yn, yp, yb, yl, ya, ys_⟩ := y
                                                                                  simp only [ValV.val] at q e0 e1 e2 e3 e4 e5 e6 f0 f1 f2 f3 f4 f5 f6
                                                                                  go_wp2
                                                                                  go_quiet (fail)
                                                                                  have b6 : Below wr.heap.size wr (wr.drewN nq) := ext_drewN (Below.refl _ _) _
                                                                                  obtain ⟨W6, hW6⟩ : ∃ W6, W6 = wr.drewN nq := ⟨_, rfl⟩
                                                                                  rw [← hW6] at b6 ⊢
                                                                                  clear hW6
                                                                                  have HB6 := Lib.hid (ext_trans HB.out b6)
                                                                                  have ki := cells4 (bk_keep HB6.out KI4.out)
                                                                                  have kiL := (bk_keep HB6.out KI4.out).lt
                                                                                  obtain ⟨i0, i1, i2, i3⟩ := ki
                                                                                  rw [HN.out.eb] at i2
                                                                                  have rc := HRC.out W6 (bk_keep HB6.out BM4.out.bk) ib HN.out.b8
                                                                                  obtain ⟨_, _, r2, r3, r4, r5, r6⟩ := rc
                                                                                  have ib0 : (0 : Int) ≤ (ib : Int) := by omega
                                                                                  have ib1 : (ib : Int) < 8 := by have := HN.out.b8; omega
                                                                                  have mL6 := (bk_keep HB6.out BM4.out.bk).lt
                                                                                  clear e0 e1 e2 e3 e4 e5 e6 f0 f1 f2 f3 f4 f5 f6 x61 m61 xL mL bx by_ b6
                                                                                  go_upto_region 14 with (fail)
                                                                                  have k7 : Bk (W6.alloc (.cells #[.int .i64 (m.reg ib).k.perm, .int .i64 (m.reg ib).k.base, .int .i64 (m.reg ib).k.len, .int .i64 (m.reg ib).k.at_, .int .i64 (m.reg ib).k.seal_] 23)) W6.heap.size 23 #[.int .i64 (m.reg ib).k.perm, .int .i64 (m.reg ib).k.base, .int .i64 (m.reg ib).k.len, .int .i64 (m.reg ib).k.at_, .int .i64 (m.reg ib).k.seal_] := bk_new _ _ _
                                                                                  obtain ⟨W7, hW7⟩ : ∃ W7, W7 = W6.alloc (.cells #[.int .i64 (m.reg ib).k.perm, .int .i64 (m.reg ib).k.base, .int .i64 (m.reg ib).k.len, .int .i64 (m.reg ib).k.at_, .int .i64 (m.reg ib).k.seal_] 23) := ⟨_, rfl⟩
                                                                                  obtain ⟨gk, hgk⟩ : ∃ gk, gk = W6.heap.size := ⟨_, rfl⟩
                                                                                  have b67 : Below W6.heap.size W6 W7 := by rw [hW7]; exact ext_alloc (Below.refl _ _) _
                                                                                  rw [← hW7, ← hgk] at k7
                                                                                  rw [← hW7, ← hgk]
                                                                                  clear hW7 hgk i0 i1 i2 i3 r2 r3 r4 r5 r6
                                                                                  have hb47 := ext_trans HB6.out b67
                                                                                  have hf : ∀ W1, Below W7.heap.size W7 W1 → (W1.cell? ⟨gi, 0, none⟩ = some (.int .i64 11) ∧ W1.cell? ⟨gi, 1, none⟩ = some (.int .i64 ia) ∧ W1.cell? ⟨gi, 3, none⟩ = some (.int .i64 i.c)) ∧ (W1.cell? ⟨gk, 0, none⟩ = some (.int .i64 (m.reg ib).k.perm) ∧ W1.cell? ⟨gk, 1, none⟩ = some (.int .i64 (m.reg ib).k.base) ∧ W1.cell? ⟨gk, 2, none⟩ = some (.int .i64 (m.reg ib).k.len) ∧ W1.cell? ⟨gk, 3, none⟩ = some (.int .i64 (m.reg ib).k.at_) ∧ W1.cell? ⟨gk, 4, none⟩ = some (.int .i64 (m.reg ib).k.seal_)) := fun W1 hb => by
                                                                                    have h1 := bk_keep (ext_trans hb47 hb) KI4.out
                                                                                    rw [HO11.out, HN.out.ea] at h1
                                                                                    have h2 := bk_keep hb k7
                                                                                    exact ⟨⟨h1.cell 0, h1.cell 1, h1.cell 3⟩, cells5 h2⟩
                                                                                  have hs : ∀ W1, Below W7.heap.size W7 W1 → W1.cell? ⟨gx, 61, none⟩ = some (.slice (some ad) lm xmc) := fun W1 hb => (HCL.out _ (ext_trans hb47 hb)).1
                                                                                  have hlX2 : k < X.mem.length := by rw [HGG.out.len, HLM.out]; exact hlt
                                                                                  have hra : m.reg (ia : Int) = ⟨xi, xn, ⟨xp, xb, xl, xa, xs_⟩⟩ := by rw [← HN.out.ea]; exact HXV.out.symm
                                                                                  have hxe : ∀ W1, Below W7.heap.size W7 W1 → ValAt W1 (ad.add (k * 7)) ⟨xi, xn, ⟨xp, xb, xl, xa, xs_⟩⟩ := fun W1 hb => by
                                                                                    obtain ⟨a', e', _, h7⟩ := sl_valg (XMS.out.below (ext_trans hb47 hb)) hlX2 HGX.out
                                                                                    injection e' with e'
                                                                                    rw [e']
                                                                                    exact h7
                                                                                  have hre : ∀ W1, Below W7.heap.size W7 W1 → W1.cell? ⟨w.heap.size, ia * 7, none⟩ = some (.bool xi) ∧ W1.cell? ⟨w.heap.size, ia * 7 + 1, none⟩ = some (.int .i64 xn) ∧ W1.cell? ⟨w.heap.size, ia * 7 + 2, none⟩ = some (.int .i64 xp) ∧ W1.cell? ⟨w.heap.size, ia * 7 + 3, none⟩ = some (.int .i64 xb) ∧ W1.cell? ⟨w.heap.size, ia * 7 + 4, none⟩ = some (.int .i64 xl) ∧ W1.cell? ⟨w.heap.size, ia * 7 + 5, none⟩ = some (.int .i64 xa) ∧ W1.cell? ⟨w.heap.size, ia * 7 + 6, none⟩ = some (.int .i64 xs_) := fun W1 hb => by
                                                                                    have h := HRC.out W1 (bk_keep (ext_trans hb47 hb) BM4.out.bk) ia HN.out.a8
                                                                                    rw [hra] at h
                                                                                    exact h
                                                                                  have ia0 : (0 : Int) ≤ (ia : Int) := by omega
                                                                                  have ia1 : (ia : Int) < 8 := by have := HN.out.a8; omega
                                                                                  have qq := fun W => run_neq_val ⟨xi, xn, ⟨xp, xb, xl, xa, xs_⟩⟩ ⟨xi, xn, ⟨xp, xb, xl, xa, xs_⟩⟩ W
                                                                                  simp only [decide_true, Bool.not_true, ValV.val] at qq
                                                                                  have HXE := Lib.hid hxe
                                                                                  have HRE := Lib.hid hre
                                                                                  clear hxe hre hra hlX2
                                                                                  have hk5 : I64 (m.reg ib).k.base ∧ I64 (m.reg ib).k.len ∧ 0 ≤ (m.reg ib).k.at_ ∧ (m.reg ib).k.at_ ≤ 400 := by
                                                                                    rcases reg_ok HGG.out.ok ib with ⟨_, h, _⟩ | ⟨_, _, _, h⟩
                                                                                    · obtain ⟨_, _, b0, b1, l0, l1, a0, a1, _⟩ := h
                                                                                      exact ⟨⟨by omega, by omega⟩, ⟨by omega, by omega⟩, a0, a1⟩
                                                                                    · rw [h]; exact ⟨⟨by decide, by decide⟩, ⟨by decide, by decide⟩, by decide, by decide⟩
                                                                                  have hcov := HCOV.out
                                                                                  have hperm := HPERM.out
                                                                                  have hat := HAT.out
                                                                                  rw [HN.out.eb] at hcov hperm hat
                                                                                  have hcv : ∀ W1, Calls Tryd.prog 18 #[.agg #[.int .i64 (m.reg ib).k.perm, .int .i64 (m.reg ib).k.base, .int .i64 (m.reg ib).k.len, .int .i64 (m.reg ib).k.at_, .int .i64 (m.reg ib).k.seal_], .int .i64 k] W1 fun e w' => e = .returned (.bool true) ∧ Below W1.heap.size W1 w' := fun W1 => by
                                                                                    have := covers_any (m.reg ib).k.perm (m.reg ib).k.base (m.reg ib).k.len (m.reg ib).k.at_ (m.reg ib).k.seal_ k hk5.1 hk5.2.1 ⟨by omega, by omega⟩ W1
                                                                                    rwa [hcov] at this
                                                                                  have hand : bits .and .i64 (m.reg ib).k.perm 2 = andI (m.reg ib).k.perm 2 := bits_and_bv _ _
                                                                                  have g2 : (andI (m.reg ib).k.perm 2 == 0) = false := by simpa using hperm
                                                                                  have hci := inst_ci HGG.out.op
                                                                                  obtain ⟨hwa, hwa2⟩ : IntKind.i64.wrap ((m.reg ib).k.at_ + i.c) = (k : Int) ∧ wrap64 ((m.reg ib).k.at_ + i.c) = (k : Int) := by rw [← hat]; exact ⟨IntWalk.i64_in _ ⟨by omega, by omega⟩, IntWalk.wrap64_in _ ⟨by omega, by omega⟩⟩
                                                                                  have HCV := Lib.hid hcv
                                                                                  have HF := Lib.hid hf
                                                                                  have HS14 := Lib.hid hs
                                                                                  have B47 := Lib.hid hb47
                                                                                  clear hf hs hb47 k7 b67 hcv hcov hperm hat hci hk5
                                                                                  refine wp_region_held_drew (S := fun W1 => Below W7.heap.size W7 W1) (by kernel_rfl) (ext_drew (Below.refl _ _)) (fun hHeld => ?_)
                                                                                  refine wpAnyH_take (i := 0) (v := ?_) rfl (by kernel_rfl) (by kernel_rfl) (by kernel_rfl) (fun _ _ _ h => h) (Or.inl ⟨by rfl, ?hyT⟩) hHeld ?restT
                                                                                  case hyT => (intro wS hSw; obtain ⟨⟨p0, p1, p2⟩, p3, p4, p5, p6, p7⟩ := HF.out wS hSw; go_simp; try with_reducible rfl)
                                                                                  case restT =>
                                                                                    change wpAnyH _ _ _ _ _ _ _ (Act.mk _ _) _; try simp only [Act.put, List.setIfInBounds_toArray, List.set_cons_zero, List.set_cons_succ]
                                                                                    refine wpAnyH_take (i := 1) (v := ?_) rfl (by kernel_rfl) (by kernel_rfl) (by kernel_rfl) (fun _ _ _ h => h) (Or.inl ⟨by rfl, ?hyT⟩) hHeld ?restT
                                                                                    case hyT => (intro wS hSw; obtain ⟨⟨p0, p1, p2⟩, p3, p4, p5, p6, p7⟩ := HF.out wS hSw; go_simp; try with_reducible rfl)
                                                                                    case restT =>
                                                                                      change wpAnyH _ _ _ _ _ _ _ (Act.mk _ _) _; try simp only [Act.put, List.setIfInBounds_toArray, List.set_cons_zero, List.set_cons_succ]
                                                                                      refine wpAnyH_take (i := 2) (v := ?_) rfl (by kernel_rfl) (by kernel_rfl) (by kernel_rfl) (fun _ _ _ h => h) (Or.inl ⟨by rfl, ?hyT⟩) hHeld ?restT
                                                                                      case hyT => (intro wS hSw; obtain ⟨⟨p0, p1, p2⟩, p3, p4, p5, p6, p7⟩ := HF.out wS hSw; go_simp; try with_reducible rfl)
                                                                                      case restT =>
                                                                                        change wpAnyH _ _ _ _ _ _ _ (Act.mk _ _) _; try simp only [Act.put, List.setIfInBounds_toArray, List.set_cons_zero, List.set_cons_succ]
                                                                                        refine wpAnyH_take (i := 3) (v := ?_) rfl (by kernel_rfl) (by kernel_rfl) (by kernel_rfl) (fun _ _ _ h => h) (Or.inl ⟨by rfl, ?hyT⟩) hHeld ?restT
                                                                                        case hyT => (intro wS hSw; obtain ⟨⟨p0, p1, p2⟩, p3, p4, p5, p6, p7⟩ := HF.out wS hSw; go_simp; try with_reducible rfl)
                                                                                        case restT =>
                                                                                          change wpAnyH _ _ _ _ _ _ _ (Act.mk _ _) _; try simp only [Act.put, List.setIfInBounds_toArray, List.set_cons_zero, List.set_cons_succ]
                                                                                          refine wpAnyH_take (i := 4) (v := ?_) rfl (by kernel_rfl) (by kernel_rfl) (by kernel_rfl) (fun _ _ _ h => h) (Or.inl ⟨by rfl, ?hyT⟩) hHeld ?restT
                                                                                          case hyT => (intro wS hSw; obtain ⟨⟨p0, p1, p2⟩, p3, p4, p5, p6, p7⟩ := HF.out wS hSw; go_simp; try with_reducible rfl)
                                                                                          case restT =>
                                                                                            change wpAnyH _ _ _ _ _ _ _ (Act.mk _ _) _; try simp only [Act.put, List.setIfInBounds_toArray, List.set_cons_zero, List.set_cons_succ]
                                                                                            refine wpAnyH_take (i := 5) (v := ?_) rfl (by kernel_rfl) (by kernel_rfl) (by kernel_rfl) (fun _ _ _ h => h) (Or.inl ⟨by rfl, ?hyT⟩) hHeld ?restT
                                                                                            case hyT => (intro wS hSw; obtain ⟨⟨p0, p1, p2⟩, p3, p4, p5, p6, p7⟩ := HF.out wS hSw; go_simp; try with_reducible rfl)
                                                                                            case restT =>
                                                                                              change wpAnyH _ _ _ _ _ _ _ (Act.mk _ _) _; try simp only [Act.put, List.setIfInBounds_toArray, List.set_cons_zero, List.set_cons_succ]
                                                                                              refine wpAnyH_ready (rs := [6]) (by kernel_rfl) (by simp) ?_
                                                                                              refine AllReadyH.cons rfl (fun K hK => ?_) AllReadyH.nil
                                                                                              go_simp
                                                                                              go_wp2_with (go_at_call 18; ((with_reducible refine (HCV.out _).mono ?_); rintro e u8 ⟨rfl, hb⟩; have HB8 := Lib.hid hb; clear hb))
                                                                                              refine hK.out _ _ (ext_trans (ext_drew (Below.refl _ _)) HB8.out) (fun hHeld => ?_)
                                                                                              clear hK K
                                                                                              change wpAnyH _ _ _ _ _ _ _ (Act.mk _ _) _; try simp only [Act.put, List.setIfInBounds_toArray, List.set_cons_zero, List.set_cons_succ]
                                                                                              refine wpAnyH_take (i := 7) (v := ?_) rfl (by kernel_rfl) (by kernel_rfl) (by kernel_rfl) (fun _ _ _ h => h) (Or.inl ⟨by rfl, ?hyT⟩) hHeld ?restT
                                                                                              case hyT => (intro wS hSw; obtain ⟨⟨p0, p1, p2⟩, p3, p4, p5, p6, p7⟩ := HF.out wS hSw; go_simp; try with_reducible rfl)
                                                                                              case restT =>
                                                                                                change wpAnyH _ _ _ _ _ _ _ (Act.mk _ _) _; try simp only [Act.put, List.setIfInBounds_toArray, List.set_cons_zero, List.set_cons_succ]
                                                                                                refine wpAnyH_take (i := 8) (v := ?_) rfl (by kernel_rfl) (by kernel_rfl) (by kernel_rfl) (fun _ _ _ h => h) (Or.inl ⟨by rfl, ?hyT⟩) hHeld ?restT
                                                                                                case hyT => (intro wS hSw; obtain ⟨⟨p0, p1, p2⟩, p3, p4, p5, p6, p7⟩ := HF.out wS hSw; go_simp; try with_reducible rfl)
                                                                                                case restT =>
                                                                                                  change wpAnyH _ _ _ _ _ _ _ (Act.mk _ _) _; try simp only [Act.put, List.setIfInBounds_toArray, List.set_cons_zero, List.set_cons_succ]
                                                                                                  refine wpAnyH_take (i := 9) (v := ?_) rfl (by kernel_rfl) (by kernel_rfl) (by kernel_rfl) (fun _ _ _ h => h) (Or.inl ⟨by rfl, ?hyT⟩) hHeld ?restT
                                                                                                  case hyT => (intro wS hSw; obtain ⟨⟨p0, p1, p2⟩, p3, p4, p5, p6, p7⟩ := HF.out wS hSw; go_simp; try with_reducible rfl)
                                                                                                  case restT =>
                                                                                                    change wpAnyH _ _ _ _ _ _ _ (Act.mk _ _) _; try simp only [Act.put, List.setIfInBounds_toArray, List.set_cons_zero, List.set_cons_succ]
                                                                                                    refine wpAnyH_take (i := 10) (v := ?_) rfl (by kernel_rfl) (by kernel_rfl) (by kernel_rfl) (fun _ _ _ h => h) (Or.inl ⟨by rfl, ?hyT⟩) hHeld ?restT
                                                                                                    case hyT => (intro wS hSw; obtain ⟨⟨p0, p1, p2⟩, p3, p4, p5, p6, p7⟩ := HF.out wS hSw; go_simp; try with_reducible rfl)
                                                                                                    case restT =>
                                                                                                      change wpAnyH _ _ _ _ _ _ _ (Act.mk _ _) _; try simp only [Act.put, List.setIfInBounds_toArray, List.set_cons_zero, List.set_cons_succ]
                                                                                                      refine wpAnyH_take (i := 11) (v := ?_) rfl (by kernel_rfl) (by kernel_rfl) (by kernel_rfl) (fun _ _ _ h => h) (Or.inl ⟨by rfl, ?hyT⟩) hHeld ?restT
                                                                                                      case hyT => (intro wS hSw; obtain ⟨⟨p0, p1, p2⟩, p3, p4, p5, p6, p7⟩ := HF.out wS hSw; go_simp; try with_reducible rfl)
                                                                                                      case restT =>
                                                                                                        change wpAnyH _ _ _ _ _ _ _ (Act.mk _ _) _; try simp only [Act.put, List.setIfInBounds_toArray, List.set_cons_zero, List.set_cons_succ]
                                                                                                        refine wpAnyH_take (i := 12) (v := ?_) rfl (by kernel_rfl) (by kernel_rfl) (by kernel_rfl) (fun _ _ _ h => h) (Or.inl ⟨by rfl, ?hyT⟩) hHeld ?restT
                                                                                                        case hyT => (intro wS hSw; obtain ⟨⟨p0, p1, p2⟩, p3, p4, p5, p6, p7⟩ := HF.out wS hSw; go_simp; try with_reducible rfl)
                                                                                                        case restT =>
                                                                                                          change wpAnyH _ _ _ _ _ _ _ (Act.mk _ _) _; try simp only [Act.put, List.setIfInBounds_toArray, List.set_cons_zero, List.set_cons_succ]
                                                                                                          refine wpAnyH_take (i := 13) (v := ?_) rfl (by kernel_rfl) (by kernel_rfl) (by kernel_rfl) (fun _ _ _ h => h) (Or.inl ⟨by rfl, ?hyT⟩) hHeld ?restT
                                                                                                          case hyT => (intro wS hSw; obtain ⟨⟨p0, p1, p2⟩, p3, p4, p5, p6, p7⟩ := HF.out wS hSw; go_simp; try with_reducible rfl)
                                                                                                          case restT =>
                                                                                                            change wpAnyH _ _ _ _ _ _ _ (Act.mk _ _) _; try simp only [Act.put, List.setIfInBounds_toArray, List.set_cons_zero, List.set_cons_succ]
                                                                                                            refine wpAnyH_take (i := 14) (v := ?_) rfl (by kernel_rfl) (by kernel_rfl) (by kernel_rfl) (fun _ _ _ h => h) (Or.inl ⟨by rfl, ?hyT⟩) hHeld ?restT
                                                                                                            case hyT => (intro wS hSw; obtain ⟨⟨p0, p1, p2⟩, p3, p4, p5, p6, p7⟩ := HF.out wS hSw; go_simp; try with_reducible rfl)
                                                                                                            case restT =>
                                                                                                              change wpAnyH _ _ _ _ _ _ _ (Act.mk _ _) _; try simp only [Act.put, List.setIfInBounds_toArray, List.set_cons_zero, List.set_cons_succ]
                                                                                                              refine wpAnyH_take (i := 15) (v := ?_) rfl (by kernel_rfl) (by kernel_rfl) (by kernel_rfl) (fun _ _ _ h => h) (Or.inl ⟨by rfl, ?hyT⟩) hHeld ?restT
                                                                                                              case hyT => (intro wS hSw; obtain ⟨⟨p0, p1, p2⟩, p3, p4, p5, p6, p7⟩ := HF.out wS hSw; go_simp; try with_reducible rfl)
                                                                                                              case restT =>
                                                                                                                change wpAnyH _ _ _ _ _ _ _ (Act.mk _ _) _; try simp only [Act.put, List.setIfInBounds_toArray, List.set_cons_zero, List.set_cons_succ]
                                                                                                                refine wpAnyH_take (i := 16) (v := ?_) rfl (by kernel_rfl) (by kernel_rfl) (by kernel_rfl) (fun _ _ _ h => h) (Or.inl ⟨by rfl, ?hyT⟩) hHeld ?restT
                                                                                                                case hyT => (intro wS hSw; obtain ⟨⟨p0, p1, p2⟩, p3, p4, p5, p6, p7⟩ := HF.out wS hSw; go_simp; try with_reducible rfl)
                                                                                                                case restT =>
                                                                                                                  change wpAnyH _ _ _ _ _ _ _ (Act.mk _ _) _; try simp only [Act.put, List.setIfInBounds_toArray, List.set_cons_zero, List.set_cons_succ]
                                                                                                                  refine wpAnyH_take (i := 17) (v := ?_) rfl (by kernel_rfl) (by kernel_rfl) (by kernel_rfl) (fun _ _ _ h => h) (Or.inl ⟨by rfl, ?hyT⟩) hHeld ?restT
                                                                                                                  case hyT => (intro wS hSw; obtain ⟨⟨p0, p1, p2⟩, p3, p4, p5, p6, p7⟩ := HF.out wS hSw; go_simp; try with_reducible rfl)
                                                                                                                  case restT =>
                                                                                                                    change wpAnyH _ _ _ _ _ _ _ (Act.mk _ _) _; try simp only [Act.put, List.setIfInBounds_toArray, List.set_cons_zero, List.set_cons_succ]
                                                                                                                    refine wpAnyH_take (i := 18) (v := ?_) rfl (by kernel_rfl) (by kernel_rfl) (by kernel_rfl) (fun _ _ _ h => h) (Or.inl ⟨by rfl, ?hyT⟩) hHeld ?restT
                                                                                                                    case hyT => (intro wS hSw; obtain ⟨⟨p0, p1, p2⟩, p3, p4, p5, p6, p7⟩ := HF.out wS hSw; go_simp; try with_reducible rfl)
                                                                                                                    case restT =>
                                                                                                                      change wpAnyH _ _ _ _ _ _ _ (Act.mk _ _) _; try simp only [Act.put, List.setIfInBounds_toArray, List.set_cons_zero, List.set_cons_succ]
                                                                                                                      refine wpAnyH_take (i := 19) (v := ?_) rfl (by kernel_rfl) (by kernel_rfl) (by kernel_rfl) (fun _ _ _ h => h) (Or.inl ⟨by rfl, ?hyT⟩) hHeld ?restT
                                                                                                                      case hyT => (intro wS hSw; obtain ⟨⟨p0, p1, p2⟩, p3, p4, p5, p6, p7⟩ := HF.out wS hSw; go_simp; try with_reducible rfl)
                                                                                                                      case restT =>
                                                                                                                        change wpAnyH _ _ _ _ _ _ _ (Act.mk _ _) _; try simp only [Act.put, List.setIfInBounds_toArray, List.set_cons_zero, List.set_cons_succ]
                                                                                                                        refine wpAnyH_take (i := 20) (v := ?_) rfl (by kernel_rfl) (by kernel_rfl) (by kernel_rfl) (fun _ _ _ h => h) (Or.inl ⟨by rfl, ?hyT⟩) hHeld ?restT
                                                                                                                        case hyT => (intro wS hSw; obtain ⟨⟨p0, p1, p2⟩, p3, p4, p5, p6, p7⟩ := HF.out wS hSw; go_simp; try with_reducible rfl)
                                                                                                                        case restT =>
                                                                                                                          change wpAnyH _ _ _ _ _ _ _ (Act.mk _ _) _; try simp only [Act.put, List.setIfInBounds_toArray, List.set_cons_zero, List.set_cons_succ]
                                                                                                                          refine wpAnyH_take (i := 21) (v := ?_) rfl (by kernel_rfl) (by kernel_rfl) (by kernel_rfl) (fun _ _ _ h => h) (Or.inl ⟨by rfl, ?hyT⟩) hHeld ?restT
                                                                                                                          case hyT => (intro wS hSw; obtain ⟨⟨p0, p1, p2⟩, p3, p4, p5, p6, p7⟩ := HF.out wS hSw; go_simp; try with_reducible rfl)
                                                                                                                          case restT =>
                                                                                                                            change wpAnyH _ _ _ _ _ _ _ (Act.mk _ _) _; try simp only [Act.put, List.setIfInBounds_toArray, List.set_cons_zero, List.set_cons_succ]
                                                                                                                            refine wpAnyH_take (i := 22) (v := ?_) rfl (by kernel_rfl) (by kernel_rfl) (by kernel_rfl) (fun _ _ _ h => h) (Or.inl ⟨by rfl, ?hyT⟩) hHeld ?restT
                                                                                                                            case hyT => (intro wS hSw; obtain ⟨⟨p0, p1, p2⟩, p3, p4, p5, p6, p7⟩ := HF.out wS hSw; go_simp; try with_reducible rfl)
                                                                                                                            case restT =>
                                                                                                                              change wpAnyH _ _ _ _ _ _ _ (Act.mk _ _) _; try simp only [Act.put, List.setIfInBounds_toArray, List.set_cons_zero, List.set_cons_succ]
                                                                                                                              refine wpAnyH_take (i := 23) (v := ?_) rfl (by kernel_rfl) (by kernel_rfl) (by kernel_rfl) (fun _ _ _ h => h) (Or.inl ⟨by rfl, ?hyT⟩) hHeld ?restT
                                                                                                                              case hyT => (intro wS hSw; obtain ⟨⟨p0, p1, p2⟩, p3, p4, p5, p6, p7⟩ := HF.out wS hSw; go_simp; try with_reducible rfl)
                                                                                                                              case restT =>
                                                                                                                                change wpAnyH _ _ _ _ _ _ _ (Act.mk _ _) _; try simp only [Act.put, List.setIfInBounds_toArray, List.set_cons_zero, List.set_cons_succ]
                                                                                                                                refine wpAnyH_take (i := 24) (v := ?_) rfl (by kernel_rfl) (by kernel_rfl) (by kernel_rfl) (fun _ _ _ h => h) (Or.inl ⟨by rfl, ?hyT⟩) hHeld ?restT
                                                                                                                                case hyT => (intro wS hSw; obtain ⟨⟨p0, p1, p2⟩, p3, p4, p5, p6, p7⟩ := HF.out wS hSw; go_simp; try with_reducible rfl)
                                                                                                                                case restT =>
                                                                                                                                  change wpAnyH _ _ _ _ _ _ _ (Act.mk _ _) _; try simp only [Act.put, List.setIfInBounds_toArray, List.set_cons_zero, List.set_cons_succ]
                                                                                                                                  refine wpAnyH_take (i := 25) (v := ?_) rfl (by kernel_rfl) (by kernel_rfl) (by kernel_rfl) (fun _ _ _ h => h) (Or.inl ⟨by rfl, ?hyT⟩) hHeld ?restT
                                                                                                                                  case hyT => (intro wS hSw; obtain ⟨⟨p0, p1, p2⟩, p3, p4, p5, p6, p7⟩ := HF.out wS hSw; have s14 := HS14.out wS hSw; obtain ⟨e0, e1, e2, e3, e4, e5, e6⟩ := HXE.out wS hSw; obtain ⟨f0, f1, f2, f3, f4, f5, f6⟩ := HRE.out wS hSw; simp only at e0 e1 e2 e3 e4 e5 e6; go_simp; try with_reducible rfl)
                                                                                                                                  case restT =>
                                                                                                                                    change wpAnyH _ _ _ _ _ _ _ (Act.mk _ _) _; try simp only [Act.put, List.setIfInBounds_toArray, List.set_cons_zero, List.set_cons_succ]
                                                                                                                                    refine wpAnyH_take (i := 26) (v := ?_) rfl (by kernel_rfl) (by kernel_rfl) (by kernel_rfl) (fun _ _ _ h => h) (Or.inl ⟨by rfl, ?hyT⟩) hHeld ?restT
                                                                                                                                    case hyT => (intro wS hSw; obtain ⟨⟨p0, p1, p2⟩, p3, p4, p5, p6, p7⟩ := HF.out wS hSw; have s14 := HS14.out wS hSw; obtain ⟨e0, e1, e2, e3, e4, e5, e6⟩ := HXE.out wS hSw; obtain ⟨f0, f1, f2, f3, f4, f5, f6⟩ := HRE.out wS hSw; simp only at e0 e1 e2 e3 e4 e5 e6; go_simp; try with_reducible rfl)
                                                                                                                                    case restT =>
                                                                                                                                      change wpAnyH _ _ _ _ _ _ _ (Act.mk _ _) _; try simp only [Act.put, List.setIfInBounds_toArray, List.set_cons_zero, List.set_cons_succ]
                                                                                                                                      refine wpAnyH_take (i := 27) (v := ?_) rfl (by kernel_rfl) (by kernel_rfl) (by kernel_rfl) (fun _ _ _ h => h) (Or.inl ⟨by rfl, ?hyT⟩) hHeld ?restT
                                                                                                                                      case hyT => (intro wS hSw; obtain ⟨⟨p0, p1, p2⟩, p3, p4, p5, p6, p7⟩ := HF.out wS hSw; have s14 := HS14.out wS hSw; obtain ⟨e0, e1, e2, e3, e4, e5, e6⟩ := HXE.out wS hSw; obtain ⟨f0, f1, f2, f3, f4, f5, f6⟩ := HRE.out wS hSw; simp only at e0 e1 e2 e3 e4 e5 e6; go_simp; try with_reducible rfl)
                                                                                                                                      case restT =>
                                                                                                                                        change wpAnyH _ _ _ _ _ _ _ (Act.mk _ _) _; try simp only [Act.put, List.setIfInBounds_toArray, List.set_cons_zero, List.set_cons_succ]
                                                                                                                                        refine wpAnyH_take (i := 28) (v := ?_) rfl (by kernel_rfl) (by kernel_rfl) (by kernel_rfl) (fun _ _ _ h => h) (Or.inl ⟨by rfl, ?hyT⟩) hHeld ?restT
                                                                                                                                        case hyT => (intro wS hSw; obtain ⟨⟨p0, p1, p2⟩, p3, p4, p5, p6, p7⟩ := HF.out wS hSw; have s14 := HS14.out wS hSw; obtain ⟨e0, e1, e2, e3, e4, e5, e6⟩ := HXE.out wS hSw; obtain ⟨f0, f1, f2, f3, f4, f5, f6⟩ := HRE.out wS hSw; simp only at e0 e1 e2 e3 e4 e5 e6; go_simp; try with_reducible rfl)
                                                                                                                                        case restT =>
                                                                                                                                          change wpAnyH _ _ _ _ _ _ _ (Act.mk _ _) _; try simp only [Act.put, List.setIfInBounds_toArray, List.set_cons_zero, List.set_cons_succ]
                                                                                                                                          refine wpAnyH_take (i := 29) (v := ?_) rfl (by kernel_rfl) (by kernel_rfl) (by kernel_rfl) (fun _ _ _ h => h) (Or.inl ⟨by rfl, ?hyT⟩) hHeld ?restT
                                                                                                                                          case hyT => (intro wS hSw; obtain ⟨⟨p0, p1, p2⟩, p3, p4, p5, p6, p7⟩ := HF.out wS hSw; have s14 := HS14.out wS hSw; obtain ⟨e0, e1, e2, e3, e4, e5, e6⟩ := HXE.out wS hSw; obtain ⟨f0, f1, f2, f3, f4, f5, f6⟩ := HRE.out wS hSw; simp only at e0 e1 e2 e3 e4 e5 e6; go_simp; try with_reducible rfl)
                                                                                                                                          case restT =>
                                                                                                                                            change wpAnyH _ _ _ _ _ _ _ (Act.mk _ _) _; try simp only [Act.put, List.setIfInBounds_toArray, List.set_cons_zero, List.set_cons_succ]
                                                                                                                                            refine wpAnyH_take (i := 30) (v := ?_) rfl (by kernel_rfl) (by kernel_rfl) (by kernel_rfl) (fun _ _ _ h => h) (Or.inl ⟨by rfl, ?hyT⟩) hHeld ?restT
                                                                                                                                            case hyT => (intro wS hSw; obtain ⟨⟨p0, p1, p2⟩, p3, p4, p5, p6, p7⟩ := HF.out wS hSw; have s14 := HS14.out wS hSw; obtain ⟨e0, e1, e2, e3, e4, e5, e6⟩ := HXE.out wS hSw; obtain ⟨f0, f1, f2, f3, f4, f5, f6⟩ := HRE.out wS hSw; simp only at e0 e1 e2 e3 e4 e5 e6; go_simp; try with_reducible rfl)
                                                                                                                                            case restT =>
                                                                                                                                              change wpAnyH _ _ _ _ _ _ _ (Act.mk _ _) _; try simp only [Act.put, List.setIfInBounds_toArray, List.set_cons_zero, List.set_cons_succ]
                                                                                                                                              refine wpAnyH_take (i := 31) (v := ?_) rfl (by kernel_rfl) (by kernel_rfl) (by kernel_rfl) (fun _ _ _ h => h) (Or.inl ⟨by rfl, ?hyT⟩) hHeld ?restT
                                                                                                                                              case hyT => (intro wS hSw; obtain ⟨⟨p0, p1, p2⟩, p3, p4, p5, p6, p7⟩ := HF.out wS hSw; have s14 := HS14.out wS hSw; obtain ⟨e0, e1, e2, e3, e4, e5, e6⟩ := HXE.out wS hSw; obtain ⟨f0, f1, f2, f3, f4, f5, f6⟩ := HRE.out wS hSw; simp only at e0 e1 e2 e3 e4 e5 e6; go_simp; try with_reducible rfl)
                                                                                                                                              case restT =>
                                                                                                                                                change wpAnyH _ _ _ _ _ _ _ (Act.mk _ _) _; try simp only [Act.put, List.setIfInBounds_toArray, List.set_cons_zero, List.set_cons_succ]
                                                                                                                                                refine wpAnyH_take (i := 32) (v := ?_) rfl (by kernel_rfl) (by kernel_rfl) (by kernel_rfl) (fun _ _ _ h => h) (Or.inl ⟨by rfl, ?hyT⟩) hHeld ?restT
                                                                                                                                                case hyT => (intro wS hSw; obtain ⟨⟨p0, p1, p2⟩, p3, p4, p5, p6, p7⟩ := HF.out wS hSw; have s14 := HS14.out wS hSw; obtain ⟨e0, e1, e2, e3, e4, e5, e6⟩ := HXE.out wS hSw; obtain ⟨f0, f1, f2, f3, f4, f5, f6⟩ := HRE.out wS hSw; simp only at e0 e1 e2 e3 e4 e5 e6; go_simp; try with_reducible rfl)
                                                                                                                                                case restT =>
                                                                                                                                                  change wpAnyH _ _ _ _ _ _ _ (Act.mk _ _) _; try simp only [Act.put, List.setIfInBounds_toArray, List.set_cons_zero, List.set_cons_succ]
                                                                                                                                                  refine wpAnyH_take (i := 33) (v := ?_) rfl (by kernel_rfl) (by kernel_rfl) (by kernel_rfl) (fun _ _ _ h => h) (Or.inl ⟨by rfl, ?hyT⟩) hHeld ?restT
                                                                                                                                                  case hyT => (intro wS hSw; obtain ⟨⟨p0, p1, p2⟩, p3, p4, p5, p6, p7⟩ := HF.out wS hSw; have s14 := HS14.out wS hSw; obtain ⟨e0, e1, e2, e3, e4, e5, e6⟩ := HXE.out wS hSw; obtain ⟨f0, f1, f2, f3, f4, f5, f6⟩ := HRE.out wS hSw; simp only at e0 e1 e2 e3 e4 e5 e6; go_simp; try with_reducible rfl)
                                                                                                                                                  case restT =>
                                                                                                                                                    change wpAnyH _ _ _ _ _ _ _ (Act.mk _ _) _; try simp only [Act.put, List.setIfInBounds_toArray, List.set_cons_zero, List.set_cons_succ]
                                                                                                                                                    refine wpAnyH_take (i := 34) (v := ?_) rfl (by kernel_rfl) (by kernel_rfl) (by kernel_rfl) (fun _ _ _ h => h) (Or.inl ⟨by rfl, ?hyT⟩) hHeld ?restT
                                                                                                                                                    case hyT => (intro wS hSw; obtain ⟨⟨p0, p1, p2⟩, p3, p4, p5, p6, p7⟩ := HF.out wS hSw; have s14 := HS14.out wS hSw; obtain ⟨e0, e1, e2, e3, e4, e5, e6⟩ := HXE.out wS hSw; obtain ⟨f0, f1, f2, f3, f4, f5, f6⟩ := HRE.out wS hSw; simp only at e0 e1 e2 e3 e4 e5 e6; go_simp; try with_reducible rfl)
                                                                                                                                                    case restT =>
                                                                                                                                                      change wpAnyH _ _ _ _ _ _ _ (Act.mk _ _) _; try simp only [Act.put, List.setIfInBounds_toArray, List.set_cons_zero, List.set_cons_succ]
                                                                                                                                                      refine wpAnyH_take (i := 35) (v := ?_) rfl (by kernel_rfl) (by kernel_rfl) (by kernel_rfl) (fun _ _ _ h => h) (Or.inl ⟨by rfl, ?hyT⟩) hHeld ?restT
                                                                                                                                                      case hyT => (intro wS hSw; obtain ⟨⟨p0, p1, p2⟩, p3, p4, p5, p6, p7⟩ := HF.out wS hSw; have s14 := HS14.out wS hSw; obtain ⟨e0, e1, e2, e3, e4, e5, e6⟩ := HXE.out wS hSw; obtain ⟨f0, f1, f2, f3, f4, f5, f6⟩ := HRE.out wS hSw; simp only at e0 e1 e2 e3 e4 e5 e6; go_simp; try with_reducible rfl)
                                                                                                                                                      case restT =>
                                                                                                                                                        change wpAnyH _ _ _ _ _ _ _ (Act.mk _ _) _; try simp only [Act.put, List.setIfInBounds_toArray, List.set_cons_zero, List.set_cons_succ]
                                                                                                                                                        refine wpAnyH_take (i := 36) (v := ?_) rfl (by kernel_rfl) (by kernel_rfl) (by kernel_rfl) (fun _ _ _ h => h) (Or.inl ⟨by rfl, ?hyT⟩) hHeld ?restT
                                                                                                                                                        case hyT => (intro wS hSw; obtain ⟨⟨p0, p1, p2⟩, p3, p4, p5, p6, p7⟩ := HF.out wS hSw; have s14 := HS14.out wS hSw; obtain ⟨e0, e1, e2, e3, e4, e5, e6⟩ := HXE.out wS hSw; obtain ⟨f0, f1, f2, f3, f4, f5, f6⟩ := HRE.out wS hSw; simp only at e0 e1 e2 e3 e4 e5 e6; go_simp; try with_reducible rfl)
                                                                                                                                                        case restT =>
                                                                                                                                                          change wpAnyH _ _ _ _ _ _ _ (Act.mk _ _) _; try simp only [Act.put, List.setIfInBounds_toArray, List.set_cons_zero, List.set_cons_succ]
                                                                                                                                                          refine wpAnyH_done (by kernel_rfl) ?_ _
                                                                                                                                                          go_wp2
                                                                                                                                                          go_roundw
                                                                                                                                                          case rel => exact ⟨k + 1, by omega, by go_num, ext_trans B47.out (ext_trans (ext_drew (Below.refl _ _)) HB8.out)⟩
                                                                                                                                                          case measure => simp [intOf]; omega
                                                                              · have q1 : ¬ ((k : Int) < lm) := by omega
                                                                                obtain rfl : k = lm := by omega
                                                                                obtain ⟨wo, hwo⟩ : ∃ wo : World, wo = wr := ⟨_, rfl⟩
                                                                                subst hwo
                                                                                clear x61 m61 hb
                                                                                go_wp2_with (fail)
                                                                                go_loopw [8, 120] (fun q p wr => ∃ k : Nat, k ≤ 8 ∧ p = .int .i64 k ∧ q = .int .i64 (diffs X.R m.R k : Nat) ∧ Below W4.heap.size W4 wr) (fun _ p _ => 8 - (intOf p).toNat)
                                                                                case atStart => exact ⟨0, by omega, rfl, rfl, HB.out⟩
                                                                                case round =>
                                                                                  obtain ⟨k2, hk2, rfl, rfl, hb⟩ := hrel
                                                                                  have HB2 := Lib.hid hb
                                                                                  by_cases hlt2 : k2 < 8
                                                                                  · have q2 : (k2 : Int) < 8 := by omega
                                                                                    have q0 : (0 : Int) ≤ (k2 : Int) := by omega
                                                                                    obtain ⟨e0, e1, e2, e3, e4, e5, e6⟩ := (BX4.out.below hb).regC hlt2
                                                                                    obtain ⟨f0, f1, f2, f3, f4, f5, f6⟩ := (BM4.out.below hb).regC hlt2
                                                                                    have hgx := reg_get BX4.out.h8 hlt2
                                                                                    have hgy := reg_get BM4.out.h8 hlt2
                                                                                    have hd : diffs X.R m.R (k2 + 1) = diffs X.R m.R k2 + (if X.R[k2]? = m.R[k2]? then 0 else 1) := rfl
                                                                                    rw [hgx, hgy] at hd
                                                                                    have hdk := diffs_le_k X.R m.R k2
                                                                                    obtain ⟨x, hx⟩ : ∃ x, X.reg k2 = x := ⟨_, rfl⟩
                                                                                    obtain ⟨y, hy⟩ : ∃ y, m.reg k2 = y := ⟨_, rfl⟩
                                                                                    rw [hx] at e0 e1 e2 e3 e4 e5 e6
                                                                                    rw [hy] at f0 f1 f2 f3 f4 f5 f6
                                                                                    rw [hx, hy] at hd
                                                                                    have q := fun W => run_neq_val x y W
                                                                                    have xL := (BX4.out.below hb).bk.lt
                                                                                    have mL := (BM4.out.below hb).bk.lt
                                                                                    clear hgx hgy hx hy hb
                                                                                    obtain ⟨nd, hnd⟩ : ∃ nd, nd = diffs X.R m.R k2 := ⟨_, rfl⟩
                                                                                    rw [← hnd] at hd hdk ⊢
                                                                                    by_cases hxy : x = y
                                                                                    · subst hxy
                                                                                      rw [if_pos rfl, Nat.add_zero] at hd
                                                                                      simp only [decide_true, Bool.not_true] at q
                                                                                      obtain ⟨xi, xn, xp, xb, xl, xa, xs_⟩ := x
                                                                                      simp only [ValV.val] at q e0 e1 e2 e3 e4 e5 e6 f0 f1 f2 f3 f4 f5 f6
                                                                                      have HD := Lib.hid hd
                                                                                      have HNd := Lib.hid hnd
                                                                                      clear hd hdk hnd
                                                                                      go_wp2
                                                                                      go_quiet (fail)
                                                                                      go_wp2
                                                                                      go_roundw
                                                                                      case rel => exact ⟨k2 + 1, by omega, by go_num, by rw [HD.out]; rfl, ext_drewN HB2.out _⟩
                                                                                      case measure => simp [intOf]; omega
                                                                                    · rw [if_neg (fun e => hxy (Option.some.inj e))] at hd
                                                                                      simp only [decide_eq_false hxy, Bool.not_false] at q
                                                                                      obtain ⟨xi, xn, xp, xb, xl, xa, xs_⟩ := x
                                                                                      obtain ⟨yi, yn, yp, yb, yl, ya, ys_⟩ := y
                                                                                      simp only [ValV.val] at q e0 e1 e2 e3 e4 e5 e6 f0 f1 f2 f3 f4 f5 f6
                                                                                      have HD := Lib.hid hd
                                                                                      have HNd := Lib.hid hnd
                                                                                      have hwd : IntKind.i64.wrap ((nd : Int) + 1) = ((nd + 1 : Nat) : Int) ∧ wrap64 ((nd : Int) + 1) = ((nd + 1 : Nat) : Int) := ⟨IntWalk.i64_in _ ⟨by omega, by omega⟩, IntWalk.wrap64_in _ ⟨by omega, by omega⟩⟩
                                                                                      have HWD := Lib.hid hwd
                                                                                      clear hd hdk hnd hxy hwd
                                                                                      go_wp2
                                                                                      go_quiet (fail)
                                                                                      go_wp2
                                                                                      go_roundw
                                                                                      case rel => exact ⟨k2 + 1, by omega, by go_num, by rw [HD.out]; first | exact congrArg (Value.int .i64) HWD.out.1 | exact congrArg (Value.int .i64) HWD.out.2, ext_drewN HB2.out _⟩
                                                                                      case measure => simp [intOf]; omega
                                                                                  · have q2 : ¬ ((k2 : Int) < 8) := by omega
                                                                                    obtain rfl : k2 = 8 := by omega
                                                                                    have ki := cells4 (bk_keep hb KI4.out)
                                                                                    have kiL := (bk_keep hb KI4.out).lt
                                                                                    obtain ⟨i0, _, _, _⟩ := ki
                                                                                    have hdk := diffs_le_k X.R m.R 8
                                                                                    have hr := HGG.out.regs
                                                                                    obtain ⟨nd, hnd⟩ : ∃ nd, nd = diffs X.R m.R 8 := ⟨_, rfl⟩
                                                                                    rw [← hnd] at hdk hr ⊢
                                                                                    clear hnd hb
                                                                                    by_cases h1 : nd ≤ 1
                                                                                    · have g1 : decide ((nd : Int) ≤ 1) = true := by simp; omega
                                                                                      clear hr hdk h1
                                                                                      go_wp2
                                                                                      go_ret
                                                                                      exact ⟨rfl, ext_trans H1W.out (ext_trans B14.out HB2.out)⟩
                                                                                    · have g1 : decide ((nd : Int) ≤ 1) = false := by simp; omega
                                                                                      have h21 : i.op = 21 := by
                                                                                        by_cases h : i.op = 21
                                                                                        · exact h
                                                                                        · exact absurd (hr h) h1
                                                                                      rw [h21] at i0
                                                                                      clear hr hdk h1
                                                                                      go_wp2
                                                                                      go_ret
                                                                                      exact ⟨rfl, ext_trans H1W.out (ext_trans B14.out HB2.out)⟩
theorem stepFew_walk (x : MachA) {w : World} (hx : x.ok w) (ht : Tab w) : Calls Tryd.prog 4 #[x.val] w fun e w' => e = .returned (.bool true) ∧ Below w.heap.size w w' :=
  few_mv ⟨x.R, x.c, x.mem, x.stk, x.out⟩ x.ma x.sa x.oa x.mc x.sc x.oc w hx.h8 hx.wc hx.wm hx.mem hx.stk hx.out ht
end Go.Proofs.YtopdnihokbhjfaaDoor
