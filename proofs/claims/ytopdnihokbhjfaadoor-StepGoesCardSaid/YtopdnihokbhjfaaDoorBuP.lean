import Derived.Test.YtopdnihokbhjfaaDoorStepXZ
import Derived.Test.YtopdnihokbhjfaaDoorMachCopiedZ
import Derived.Test.YtopdnihokbhjfaaDoorMachEqZ
/- What opOf and stepped of the laws compute. -/
namespace Go.Proofs.YtopdnihokbhjfaaDoor
open Go.RowKit
set_option linter.unusedVariables false
set_option linter.unusedSimpArgs false
/-- The instruction that is next, or none. -/
def opF (m : MV) : InstV := if 0 ≤ m.c.at_ ∧ m.c.at_ < m.mem.length ∧ (m.mem.getD m.c.at_.toNat zeroV).is = false ∧ instOk (unpack (m.mem.getD m.c.at_.toNat zeroV).n) = true then unpack (m.mem.getD m.c.at_.toNat zeroV).n else ⟨-1, 0, 0, 0⟩
theorem opF_of {m : MV} {i : InstV} (h : m.fetch = .ok i) : opF m = i ∧ instOk i = true := by
  obtain ⟨_, _, _, _, _, _, h1, h2, h3, h4, h5⟩ := fetch_cases h
  subst h4
  unfold opF
  rw [if_pos ⟨h1, h2, h3, h5⟩]
  exact ⟨rfl, h5⟩
def instVal (i : InstV) : Value := .agg #[.int .i64 i.op, .int .i64 i.a, .int .i64 i.b, .int .i64 i.c]
theorem opof_Z {w W : World} (hB : Bk W (w.heap.size + 1) 40 #[.int .i64 0, .int .i64 0, .int .i64 0, .int .i64 0]) (hb : Below w.heap.size w W) (a b c d : Int) :
    Bk ((((W.setCell ⟨w.heap.size + 1, 0, none⟩ (.int .i64 a)).setCell ⟨w.heap.size + 1, 1, none⟩ (.int .i64 b)).setCell ⟨w.heap.size + 1, 2, none⟩ (.int .i64 c)).setCell ⟨w.heap.size + 1, 3, none⟩ (.int .i64 d)) (w.heap.size + 1) 40 #[.int .i64 a, .int .i64 b, .int .i64 c, .int .i64 d] ∧ Below w.heap.size w ((((W.setCell ⟨w.heap.size + 1, 0, none⟩ (.int .i64 a)).setCell ⟨w.heap.size + 1, 1, none⟩ (.int .i64 b)).setCell ⟨w.heap.size + 1, 2, none⟩ (.int .i64 c)).setCell ⟨w.heap.size + 1, 3, none⟩ (.int .i64 d)) :=
  ⟨bk_set 3 _ (bk_set 2 _ (bk_set 1 _ (bk_set 0 _ hB))), ext_set (ext_set (ext_set (ext_set hb (show w.heap.size ≤ w.heap.size + 1 by omega) _) (show w.heap.size ≤ w.heap.size + 1 by omega) _) (show w.heap.size ≤ w.heap.size + 1 by omega) _) (show w.heap.size ≤ w.heap.size + 1 by omega) _⟩
theorem opof_end {w W : World} (df : Act) (a b c d : Int) (hZ : Bk W (w.heap.size + 1) 40 #[.int .i64 a, .int .i64 b, .int .i64 c, .int .i64 d] ∧ Below w.heap.size w W) (h2 : df.tmps.getD 2 undef = .pointer (some ⟨w.heap.size + 1, 0, none⟩)) (hd : df.defers = []) :
    bodyPost Tryd.prog Tryd.f16 (fun e w' => e = .returned (.agg #[.int .i64 a, .int .i64 b, .int .i64 c, .int .i64 d]) ∧ Below w.heap.size w w') Exit.ret df W :=
  bodyPost_ret (results_cell_row (g := w.heap.size + 1) (t := 40) (cs := #[.int .i64 a, .int .i64 b, .int .i64 c, .int .i64 d]) (fr := (0, 0)) rfl _ _ _ h2 hZ.1 Tryd.underlying40 rfl (by kernel_rfl)) hd ⟨rfl, hZ.2⟩
set_option maxHeartbeats 4000000 in
set_option maxRecDepth 100000 in
theorem opof_any (m : MV) (ma sa oa : Option Addr) (mc sc oc : Nat) (w : World) (h8 : m.R.length = 8) (hwc : m.c.wf) (hw : ∀ v ∈ m.mem, v.wf)
    (hm : Sl w ma m.mem.length m.mem) (ht : Tab w) : Calls Tryd.prog 16 #[.agg (mcs m.R m.c (.slice ma m.mem.length mc) (.slice sa m.stk.length sc) (.slice oa m.out.length oc))] w fun e w' => e = .returned (instVal (opF m)) ∧ Below w.heap.size w w' := by
  have hmx := hm.max
  unfold maxLen at hmx
  have hhi := mcs_hi (c := m.c) (ms := .slice ma m.mem.length mc) (ss := .slice sa m.stk.length sc) (os := .slice oa m.out.length oc) h8
  unfold instVal
  have hop : opF m = (if 0 ≤ m.c.at_ ∧ m.c.at_ < m.mem.length ∧ (m.mem.getD m.c.at_.toNat zeroV).is = false ∧ instOk (unpack (m.mem.getD m.c.at_.toNat zeroV).n) = true then unpack (m.mem.getD m.c.at_.toNat zeroV).n else ⟨-1, 0, 0, 0⟩) := rfl
  generalize opF m = r at *
  generalize mcs m.R m.c (.slice ma m.mem.length mc) (.slice sa m.stk.length sc) (.slice oa m.out.length oc) = cs at *
  obtain ⟨w1, hw1⟩ : ∃ w1, w1 = (w.alloc (.cells cs 31)).alloc (.cells #[.int .i64 0, .int .i64 0, .int .i64 0, .int .i64 0] 40) := ⟨_, rfl⟩
  have hB : Bk w1 w.heap.size 31 cs := by rw [hw1]; exact bk_old _ (bk_new _ _ _)
  have hR : Bk w1 (w.heap.size + 1) 40 #[.int .i64 0, .int .i64 0, .int .i64 0, .int .i64 0] := by rw [hw1]; exact bk_new' _ _ (by simp)
  have h1w : Below w.heap.size w w1 := by rw [hw1]; exact ext_alloc (ext_alloc (Below.refl _ _) _) _
  have q59 : ∀ x : Later w1, x.val.cell? ⟨w.heap.size, 59, none⟩ = some (.int .i64 m.c.at_) := fun x => ((x.bk hB).cell _).trans (hhi 3)
  have q61 : ∀ x : Later w1, x.val.cell? ⟨w.heap.size, 61, none⟩ = some (.slice ma m.mem.length mc) := fun x => ((x.bk hB).cell _).trans (hhi 5)
  have qL : ∀ x : Later w1, w.heap.size < x.val.heap.size := fun x => x.lt hB.lt
  have rL : ∀ x : Later w1, w.heap.size + 1 < x.val.heap.size := fun x => x.lt hR.lt
  have r0 : ∀ x : Later w1, x.val.cell? ⟨w.heap.size + 1, 0, none⟩ = some (.int .i64 0) := fun x => (x.bk hR).cell 0
  have r1 : ∀ x : Later w1, x.val.cell? ⟨w.heap.size + 1, 1, none⟩ = some (.int .i64 0) := fun x => (x.bk hR).cell 1
  have r2 : ∀ x : Later w1, x.val.cell? ⟨w.heap.size + 1, 2, none⟩ = some (.int .i64 0) := fun x => (x.bk hR).cell 2
  have r3 : ∀ x : Later w1, x.val.cell? ⟨w.heap.size + 1, 3, none⟩ = some (.int .i64 0) := fun x => (x.bk hR).cell 3
  have rF : ∀ (x : Later w1) j, x.val.frozen? ⟨w.heap.size + 1, j, none⟩ = false := fun x j => (x.bk hR).frozen j
  have SM := fun x : Later w1 => (hm.below h1w).below x.ok
  have TX := fun x : Later w1 => (ht.below h1w).below x.ok
  have hat := hwc
  obtain ⟨y0, hy0⟩ := later_self (rfl : w1 = w1)
  have HW1 := Lib.hid hw1
  have H1W := Lib.hid h1w
  have HR := Lib.hid hR
  have hs1 : w1.heap.size = w.heap.size + 2 := by rw [hw1]; simp
  clear hw1 h1w hm ht hB hR hhi hat
  by_cases c1 : 0 ≤ m.c.at_
  case neg =>
    rw [if_neg (fun h => c1 h.1)] at hop
    subst hop
    clear SM TX hw hwc hmx
    go_enter Tryd.func16, Tryd.ntmps16
    go_upto_region 1 with (fail)
    rw [← HW1.out, hy0]
    go_wp2_with (fail)
    exact opof_end _ _ _ _ _ (opof_Z (y0.bk HR.out) (ext_trans H1W.out y0.ok) _ _ _ _) (by rfl) (by rfl)
  by_cases c2 : m.c.at_ < m.mem.length
  case neg =>
    rw [if_neg (fun h => c2 h.2.1)] at hop
    subst hop
    clear SM TX hw hwc
    go_enter Tryd.func16, Tryd.ntmps16
    go_upto_region 1 with (fail)
    rw [← HW1.out, hy0]
    go_wp2_with (fail)
    exact opof_end _ _ _ _ _ (opof_Z (y0.bk HR.out) (ext_trans H1W.out y0.ok) _ _ _ _) (by rfl) (by rfl)
  have hwi : I64 m.c.at_ := hwc.at_
  generalize m.c.at_ = at0 at *
  obtain ⟨j, rfl⟩ := Int.eq_ofNat_of_zero_le c1
  rw [Int.toNat_natCast] at hop
  have hj : j < m.mem.length := by omega
  have hx : m.mem[j]? = some (m.mem.getD j zeroV) := by rw [List.getD_eq_getElem?_getD, List.getElem?_eq_getElem hj]; rfl
  have hxw := hw _ (List.mem_of_getElem? hx)
  obtain ⟨ad, rfl, _, _⟩ := sl_val (SM y0) hj
  have VC := fun x : Later w1 => sl_val' (SM x) hj
  have VB : ∀ x : Later w1, (ad.add (j * 7)).block < x.val.heap.size := fun x => by
    obtain ⟨a', e, h1, _⟩ := sl_val (SM x) hj
    injection e with e
    subst e
    rw [el_block]; exact h1
  generalize m.mem.getD j zeroV = v at *
  obtain ⟨vi, vn, vk⟩ := v
  unfold ValAt at VC
  simp only at VC hop hxw
  have V0 := fun x => (VC x).1
  have V1 := fun x => (VC x).2.1
  clear VC SM hx
  cases vi
  case true =>
    rw [if_neg (by simp)] at hop
    subst hop
    clear TX hw hwc
    go_enter Tryd.func16, Tryd.ntmps16
    go_upto_region 1 with (fail)
    rw [← HW1.out, hy0]
    go_wp2_with (fail)
    exact opof_end _ _ _ _ _ (opof_Z (y0.bk HR.out) (ext_trans H1W.out y0.ok) _ _ _ _) (by rfl) (by rfl)
  case false =>
    have IR0 := fun x : Later w1 => iread_any vn hxw.n x.val (TX x)
    cases hk : instOk (unpack vn)
    case false =>
      rw [hk, if_neg (by simp)] at hop
      subst hop
      rw [hk] at IR0
      simp only [Bool.false_eq_true, if_false] at IR0
      have IR := Lib.hid IR0
      clear TX hw hwc IR0 hxw hk
      go_enter Tryd.func16, Tryd.ntmps16
      go_upto_region 1 with (fail)
      rw [← HW1.out, hy0]
      go_wp2_with (go_at_call 33; ((with_reducible refine (IR.out y0).mono ?_); rintro e w' ⟨rfl, hb⟩; obtain ⟨y1, rfl⟩ := later_call y0.ok hb; clear hb))
      have hz := opof_Z (y1.bk HR.out) (ext_trans H1W.out y1.ok) (-1) (0) (0) (0)
      exact opof_end _ _ _ _ _ (by first | exact hz | exact ⟨bk_old _ hz.1, ext_alloc hz.2 _⟩) (by rfl) (by rfl)
    case true =>
      rw [hk, if_pos ⟨c1, c2, rfl, rfl⟩] at hop
      subst hop
      rw [hk] at IR0
      simp only [if_true] at IR0
      have IR := Lib.hid IR0
      clear TX hw hwc IR0 hxw hk
      go_enter Tryd.func16, Tryd.ntmps16
      go_upto_region 1 with (fail)
      rw [← HW1.out, hy0]
      go_wp2_with (go_at_call 33; ((with_reducible refine (IR.out y0).mono ?_); rintro e w' ⟨rfl, hb⟩; obtain ⟨y1, rfl⟩ := later_call y0.ok hb; clear hb))
      have hz := opof_Z (y1.bk HR.out) (ext_trans H1W.out y1.ok) ((unpack vn).op) ((unpack vn).a) ((unpack vn).b) ((unpack vn).c)
      exact opof_end _ _ _ _ _ (by first | exact hz | exact ⟨bk_old _ hz.1, ext_alloc hz.2 _⟩) (by rfl) (by rfl)
end Go.Proofs.YtopdnihokbhjfaaDoor
/- A row that is stored into what was made just now. -/
namespace Go.Proofs.YtopdnihokbhjfaaDoor
open Go.RowKit
set_option linter.unusedVariables false
theorem setRow_alloc (w : World) (T : TypeId) (old cells : Array Value) : (w.alloc (.cells old T)).setRow w.heap.size cells = w.alloc (.cells cells T) := by
  unfold World.setRow
  show World.mk .. = World.mk ..
  congr 1
  apply Array.ext_getElem?
  intro i
  show ((w.heap.push (.cells old T)).modify w.heap.size _)[i]? = (w.heap.push (.cells cells T))[i]?
  rw [Array.getElem?_modify, Array.getElem?_push, Array.getElem?_push]
  by_cases h : i = w.heap.size
  · subst h; simp
  · rw [if_neg h, if_neg h, if_neg (fun e => h e.symm)]
theorem wpList_store_fresh {P : Program} {ops : Array Oper} {rest : List Oper} {o : Oper} {a : Act} {w0 : World} {Q : Exit → Act → World → Prop} (hgd : o.guard = none) (ty : TypeId) (x y : Operand) (ho : o.op = .store ty x y)
    (hd : o.dst = none) (cells : Array Value) (t : TypeId) (old : Array Value) (hx : a.eval x = .pointer (some ⟨w0.heap.size, 0, none⟩)) (hy : a.eval y = .agg cells)
    (hi : (P.info? ty).map (·.size) = some cells.size) (hold : old.size = cells.size) (h1 : cells.all (·.oneCell') = true)
    (h : wpList P ops Q rest a (w0.alloc (.cells cells t))) : wpList P ops Q (o :: rest) a (w0.alloc (.cells old t)) :=
  wpList_store_rowTo hgd ty x y ho hd w0.heap.size cells hx hy t old (bk_new _ _ _) hi hold h1 (by rw [setRow_alloc]; exact h)
end Go.Proofs.YtopdnihokbhjfaaDoor
/- What stepped of the laws computes. -/
namespace Go.Proofs.YtopdnihokbhjfaaDoor
open Go.RowKit
set_option linter.unusedVariables false
set_option linter.unusedSimpArgs false
def mv0 : MV := ⟨zeroR, ⟨4, 0, 1, 0, 0⟩, [nV 4212833], [], []⟩
def mv1 : MV := ⟨zeroR.set 3 (nV 9), ⟨4, 0, 1, 1, 0⟩, [nV 4212833], [], []⟩
theorem mv0_step : stepF mv0 = (mv1, 0) := by decide +kernel
set_option maxHeartbeats 4000000 in
set_option maxRecDepth 100000 in
theorem stepped_any (w : World) (ht : Tab w) : Calls Tryd.prog 14 #[] w fun e w' => e = .returned (.bool true) ∧ Below w.heap.size w w' := by
  have pk := ipack_any 1 3 0 9 w ht
  have i1 : instOk ⟨1, 3, 0, 9⟩ = true := by decide +kernel
  have i2 : packF ⟨1, 3, 0, 9⟩ = 4212833 := by decide +kernel
  rw [i1, i2] at pk
  simp only [if_true] at pk
  have sp0 : ∀ y : Later w, Calls Tryd.prog 13 #[.agg #[.bool false, .int .i64 0, .int .i64 0, .int .i64 0, .int .i64 0, .int .i64 0, .int .i64 0, .bool false, .int .i64 0, .int .i64 0, .int .i64 0, .int .i64 0, .int .i64 0, .int .i64 0, .bool false, .int .i64 0, .int .i64 0, .int .i64 0, .int .i64 0, .int .i64 0, .int .i64 0, .bool false, .int .i64 0, .int .i64 0, .int .i64 0, .int .i64 0, .int .i64 0, .int .i64 0, .bool false, .int .i64 0, .int .i64 0, .int .i64 0, .int .i64 0, .int .i64 0, .int .i64 0, .bool false, .int .i64 0, .int .i64 0, .int .i64 0, .int .i64 0, .int .i64 0, .int .i64 0, .bool false, .int .i64 0, .int .i64 0, .int .i64 0, .int .i64 0, .int .i64 0, .int .i64 0, .bool false, .int .i64 0, .int .i64 0, .int .i64 0, .int .i64 0, .int .i64 0, .int .i64 0, .int .i64 4, .int .i64 0, .int .i64 1, .int .i64 0, .int .i64 0, .slice (some ⟨y.val.heap.size, 0, none⟩) 1 1, .slice none 0 0, .slice none 0 0]] (y.val.alloc (.cells #[.bool false, .int .i64 4212833, .int .i64 0, .int .i64 0, .int .i64 0, .int .i64 0, .int .i64 0] 25)) (StRes (y.val.alloc (.cells #[.bool false, .int .i64 4212833, .int .i64 0, .int .i64 0, .int .i64 0, .int .i64 0, .int .i64 0] 25)) mv1 0) := fun y => by
    have h0 := own_lit (xs := [nV 4212833]) y.val 25 0 (Nat.zero_le _) #[.bool false, .int .i64 4212833, .int .i64 0, .int .i64 0, .int .i64 0, .int .i64 0, .int .i64 0] 1 rfl (by decide) rfl
    obtain ⟨ao, c, e, h, _⟩ := h0.sl
    injection e with e _ _
    subst e
    have hs := step_any mv0 (some ⟨y.val.heap.size, 0, none⟩) none none 1 0 0 (y.val.alloc (.cells #[.bool false, .int .i64 4212833, .int .i64 0, .int .i64 0, .int .i64 0, .int .i64 0, .int .i64 0] 25)) rfl h (Sl.nil _ _) (Sl.nil _ _) ((ht.below y.ok).below (ext_alloc (Below.refl _ _) _))
    rw [mv0_step] at hs
    exact hs
  unfold StRes at sp0
  have q := fun W => run_eql_val (nV 9) (nV 9) W
  simp only [decide_true, nV, zeroK, ValV.val] at q
  have PK := Lib.hid pk
  have SP := Lib.hid sp0
  clear pk sp0 i1 i2 ht
  go_enter Tryd.func14, Tryd.ntmps14
  go_upto_region 3 with (first
    | (go_at_call 30; ((with_reducible refine PK.out.mono ?_); rintro e w1 ⟨rfl, hb1⟩; obtain ⟨y1, rfl⟩ := later_call (Below.refl _ _) hb1; clear hb1))
    | (go_at_call 13; ((with_reducible refine (SP.out y1).mono ?_); rintro e w2 ⟨vm, vs, vo, rfl, om, os, oo, hb2⟩; have HO := Lib.hid (mcs_one (R := mv1.R) (c := mv1.c) (ownsOne om) (ownsOne os) (ownsOne oo)); have HSX := Lib.hid (show (mcs mv1.R mv1.c vm vs vo).size = 64 from mcs_size rfl); have HB2 := Lib.hid hb2; clear om os oo hb2))
    | (refine wpList_store_fresh rfl 31 (.tmp 3) (.tmp 17) rfl rfl (mcs mv1.R mv1.c vm vs vo) 31 _ rfl rfl (by rw [HSX.out]; kernel_rfl) (by rw [HSX.out]; kernel_rfl) HO.out ?_))
  have kB := bk_new w2 31 (mcs mv1.R mv1.c vm vs vo)
  have kL := kB.lt
  have c21 := (kB.cell 21).trans (show _ = some (.bool false) from rfl)
  have c22 := (kB.cell 22).trans (show _ = some (.int .i64 9) from rfl)
  have c23 := (kB.cell 23).trans (show _ = some (.int .i64 0) from rfl)
  have c24 := (kB.cell 24).trans (show _ = some (.int .i64 0) from rfl)
  have c25 := (kB.cell 25).trans (show _ = some (.int .i64 0) from rfl)
  have c26 := (kB.cell 26).trans (show _ = some (.int .i64 0) from rfl)
  have c27 := (kB.cell 27).trans (show _ = some (.int .i64 0) from rfl)
  have c59 := (kB.cell 59).trans (show _ = some (.int .i64 1) from rfl)
  clear kB
  go_wp2
  go_ret
  exact ⟨rfl, ext_alloc (ext_trans (ext_alloc y1.ok _) HB2.out) _⟩
end Go.Proofs.YtopdnihokbhjfaaDoor
/- What the laws on one step say, in plain words. -/
namespace Go.Proofs.YtopdnihokbhjfaaDoor
open Go.RowKit
set_option linter.unusedVariables false
set_option linter.unusedSimpArgs false
theorem stepF_bad {m : MV} (h : (stepF m).2 ≠ 0) : (stepF m).1 = zeroMV := by
  unfold stepF at h ⊢
  by_cases hc : m.check ≠ 0
  · rw [if_pos hc]
  · rw [if_neg hc] at h ⊢
    by_cases he : m.err ≠ 0
    · rw [if_pos he]
    · rw [if_neg he] at h; exact absurd rfl h
theorem stepF_ok {m : MV} (h8 : m.R.length = 8) (h : (stepF m).2 = 0) : m.Ok ∧ m.one = .ok (stepF m).1 ∧ ∃ i, m.fetch = .ok i ∧ Stepd i m (stepF m).1 := by
  unfold stepF at h ⊢
  by_cases hc : m.check ≠ 0
  · rw [if_pos hc] at h; exact absurd h hc
  · rw [if_neg hc] at h ⊢
    have hk : m.Ok := ⟨stepCheck_zero.1 (by simpa [MV.check] using hc), h8⟩
    by_cases he : m.err ≠ 0
    · rw [if_pos he] at h; exact absurd h he
    · rw [if_neg he]
      obtain ⟨m', hm'⟩ := err_zero.1 (by simpa using he)
      have ha : m.after = m' := by unfold MV.after; rw [hm']
      obtain ⟨i, h1, h2⟩ := one_cases hm'
      exact ⟨hk, by simp only [ha]; exact hm', i, h1, by simp only [ha]; exact h2⟩
theorem stepF_of {m m' : MV} (h : m.Ok) (ho : m.one = .ok m') : stepF m = (m', 0) := by
  have h1 : m.check = 0 := stepCheck_zero.2 h.1
  have h2 : m.err = 0 := err_zero.2 ⟨m', ho⟩
  unfold stepF
  rw [if_neg (by simp [h1]), if_neg (by simp [h2])]
  unfold MV.after
  rw [ho]
theorem stepd_goes {i : InstV} {m n : MV} (h : Stepd i m n) (h18 : i.op ≠ 18) (h19 : i.op ≠ 19) : ∃ d, n.c = { m.c with at_ := m.c.at_ + d } ∧ (d = 1 ∨ (i.op = 8 ∨ i.op = 9) ∧ d = i.c) := by
  cases h with
  | set h => exact ⟨1, rfl, .inl rfl⟩
  | store => exact ⟨1, rfl, .inl rfl⟩
  | clear => exact ⟨1, rfl, .inl rfl⟩
  | tell => exact ⟨1, rfl, .inl rfl⟩
  | jump ho h => exact ⟨i.c, rfl, .inr ⟨.inl ho, rfl⟩⟩
  | ifn ho hn hd h =>
    rename_i n d
    refine ⟨d, rfl, ?_⟩
    rw [hd]
    by_cases hz : n ≠ 0
    · rw [if_pos hz]; exact .inr ⟨.inr ho, rfl⟩
    · rw [if_neg hz]; exact .inl rfl
  | call ho => exact absurd ho h18
  | back ho => exact absurd ho h19
end Go.Proofs.YtopdnihokbhjfaaDoor
