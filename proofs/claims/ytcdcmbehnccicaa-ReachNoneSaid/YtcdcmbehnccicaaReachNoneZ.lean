import Derived.Test.YtcdcmbehnccicaaBuU
import Derived.Test.YtcdcmbehnccicaaReachNilZ
/- ReachNone. -/
namespace Go.Proofs.Ytcdcmbehnccicaa
open El (cl)
open Go.RowKit
set_option linter.unusedVariables false
set_option linter.unusedSimpArgs false
theorem hit_oneZ {mem : List ValV} {d : Bool} {c : KeyV} {p a : Int} (ho : opensB d c = false) : hitP d mem (rootsP d (List.replicate 8 zeroV) c []) p a ↔ countsB d c = true ∧ withinB p c.perm = true ∧ covB c.base c.len a = true := by
  constructor
  · rintro ⟨k, h1, h2⟩
    rw [(rch_shut ho).1 h1] at h2
    exact h2
  · exact fun h => ⟨c, (rch_shut ho).2 rfl, h⟩
def K2 : KeyV := ⟨3, 0, 1, 0, 0⟩
theorem hits2 : hitsL true (List.replicate 2 zeroV) (rootsP true (List.replicate 8 zeroV) K2 []) 3 0 2 = [0] := by
  have h := fun a => hit_oneZ (mem := List.replicate 2 zeroV) (d := true) (c := K2) (p := 3) (a := a) (by decide)
  have h0 : hitP true (List.replicate 2 zeroV) (rootsP true (List.replicate 8 zeroV) K2 []) 3 (0 + (0 : Nat)) := by rw [h]; decide
  have h1 : ¬ hitP true (List.replicate 2 zeroV) (rootsP true (List.replicate 8 zeroV) K2 []) 3 (0 + (1 : Nat)) := by rw [h]; decide
  rw [hits_skip h1, hits_snoc h0]
  rfl
theorem hits_none {mem : List ValV} {p : Int} {n : Nat} : hitsL true mem (rootsP true (List.replicate 8 zeroV) zeroK []) p 0 n = [] := by
  refine List.eq_nil_iff_forall_not_mem.2 fun a ha => ?_
  have h := (hit_oneZ (d := true) (c := zeroK) (by decide)).1 (mem_hits.1 ha).2
  have := covB_iff.1 h.2.2
  simp only [zeroK] at this
  omega
set_option maxRecDepth 100000 in
theorem info_valZ : (Try.prog.info? 25).map (fun i => (i.zero, i.size, i.bytes)) = some (some (.agg #[.bool false, .int .i64 0, .int .i64 0, .int .i64 0, .int .i64 0, .int .i64 0, .int .i64 0]), 7, 56) := by kernel_rfl
/-- What reach.Cells says of whatever machine. -/
def CellsAll (W : World) (ck : Int) (l : List Int) (e : Ending) (w' : World) : Prop := ∃ (ao : Option Addr) (n c : Nat), e = .returned (.tuple #[.slice ao n c, .int .i64 ck]) ∧ (ck ≠ 0 → n = 0) ∧ (ck = 0 → n = l.length ∧ Sl w' ao n l) ∧ Below W.heap.size W w'
theorem cells_all {R : List ValV} {c : KeyV} {mem : List ValV} {stk : List FrameV} {out : List Int} {cs : Array Value} {W : World} (h : MRow R c mem stk out cs W) (d : Bool) (p : Int) {ck : Int} (hck : stepCheck R c mem stk out = ck) {l : List Int} (hl : hitsL d mem (rootsP d R c stk) p 0 mem.length = l) :
    Calls Try.prog 7 #[.agg cs, .int .i64 p, .bool d] W (CellsAll W ck l) := by
  by_cases hc : ck = 0
  · subst hc
    refine (cells_any h d p (stepCheck_zero.1 hck)).mono ?_
    rintro e w' ⟨v, rfl, ho, hb⟩
    obtain ⟨a, k, rfl, s, _⟩ := ho.sl
    rw [hl] at s ⊢
    exact ⟨a, _, k, rfl, fun h => absurd rfl h, fun _ => ⟨rfl, s⟩, hb⟩
  · refine (cells_bad h d p (by rw [hck]; exact hc)).mono ?_
    rintro e w' ⟨rfl, hb⟩
    exact ⟨none, 0, 0, by rw [hck], fun _ => rfl, fun h => absurd h hc, hb⟩
/-- The cells of a machine that was handed in, of other registers, another code key and no stack. -/
def MachA.csN (x : MachA) (R : List ValV) : Array Value := mcs R zeroK (.slice x.ma x.mem.length x.mc) (.slice none 0 0) (.slice x.oa x.out.length x.oc)
section
variable {x : MachA} {w W : World} {R : List ValV} {c : KeyV} {r : Nat} {v : ValV}
theorem csN_box (hx : x.ok w) (hb : Below w.heap.size w W) (h8 : R.length = 8) (hk : Bk W w.heap.size 31 (x.csN R)) : MBR w.heap.size R zeroK x.mem [] x.out (x.csN R) W :=
  ⟨h8, hk, x.ma, none, x.oa, x.mc, 0, x.oc, rfl, hx.mem.below hb, Sl.nil _ _, hx.out.below hb⟩
theorem csN_reg (h8 : R.length = 8) (hr : r < 8) (hk : Bk W w.heap.size 31 (x.csN R)) (v : ValV) : Bk (W.setCells w.heap.size (r * 7) (cl v)) w.heap.size 31 (x.csN (R.set r v)) := by
  obtain ⟨y, hy⟩ := csF_get h8 hr
  unfold MachA.csN
  rw [← mcs_regset (c := zeroK) (ms := .slice x.ma x.mem.length x.mc) (ss := .slice none 0 0) (os := .slice x.oa x.out.length x.oc) h8 hy (us := cl v) rfl]
  exact bk_setCells (w := W) _ _ _ _ hk
theorem csN_cells (h8 : R.length = 8) (hr : r < 8) (hk : Bk W w.heap.size 31 (x.csN R)) : ∃ y : ValV,
    W.cell? ⟨w.heap.size, r * 7, none⟩ = some (.bool y.is) ∧ W.cell? ⟨w.heap.size, r * 7 + 1, none⟩ = some (.int .i64 y.n) ∧ W.cell? ⟨w.heap.size, r * 7 + 2, none⟩ = some (.int .i64 y.k.perm) ∧ W.cell? ⟨w.heap.size, r * 7 + 3, none⟩ = some (.int .i64 y.k.base) ∧
      W.cell? ⟨w.heap.size, r * 7 + 4, none⟩ = some (.int .i64 y.k.len) ∧ W.cell? ⟨w.heap.size, r * 7 + 5, none⟩ = some (.int .i64 y.k.at_) ∧ W.cell? ⟨w.heap.size, r * 7 + 6, none⟩ = some (.int .i64 y.k.seal_) := by
  obtain ⟨y, hy⟩ := csF_get h8 hr
  have h := fun j (hj : j < 7) => (hk.cell (r * 7 + j)).trans (mcs_regcell (c := zeroK) (ms := .slice x.ma x.mem.length x.mc) (ss := .slice none 0 0) (os := .slice x.oa x.out.length x.oc) hy hj)
  exact ⟨y, h 0 (by decide), h 1 (by decide), h 2 (by decide), h 3 (by decide), h 4 (by decide), h 5 (by decide), h 6 (by decide)⟩
theorem csN_start (h8 : R.length = 8) (hk : Bk W w.heap.size 31 (x.csF R c)) : Bk ((W.setCells w.heap.size 56 [.int .i64 0, .int .i64 0, .int .i64 0, .int .i64 0, .int .i64 0]).setCells w.heap.size 62 [.slice none 0 0]) w.heap.size 31 (x.csN R) := by
  have h1 := bk_setCells (w := W) [.int .i64 zeroK.perm, .int .i64 zeroK.base, .int .i64 zeroK.len, .int .i64 zeroK.at_, .int .i64 zeroK.seal_] _ 56 W hk
  rw [mcs_codeset (d := zeroK) h8] at h1
  have h2 := bk_setCells (w := W) [.slice none 0 0] _ 62 _ h1
  have hl : (cls R).length = 56 := by rw [cls_length]; show R.length * 7 = 56; omega
  have e := setL_app_right [.slice none 0 0] (cls R) [.int .i64 zeroK.perm, .int .i64 zeroK.base, .int .i64 zeroK.len, .int .i64 zeroK.at_, .int .i64 zeroK.seal_, .slice x.ma x.mem.length x.mc, .slice x.sa x.stk.length x.sc, .slice x.oa x.out.length x.oc] 6
  rw [hl] at e
  rw [e] at h2
  exact h2
end
def zUp (R : List ValV) (j : Nat) : List ValV := List.replicate j zeroV ++ R.drop j
theorem zUp_len {R : List ValV} (h : R.length = 8) {j : Nat} (hj : j ≤ 8) : (zUp R j).length = 8 := by unfold zUp; simp; omega
theorem zUp_set {R : List ValV} (h : R.length = 8) {j : Nat} (hj : j < 8) : (zUp R j).set j zeroV = zUp R (j + 1) := by
  unfold zUp
  rw [List.set_append_right _ _ (by simp), List.length_replicate, Nat.sub_self, List.drop_eq_getElem_cons (by omega), List.set_cons_zero, List.replicate_succ', List.append_assoc]
  rfl
theorem zUp_all {R : List ValV} (h : R.length = 8) : zUp R 8 = List.replicate 8 zeroV := by unfold zUp; rw [List.drop_of_length_le (by omega)]; simp
set_option maxHeartbeats 8000000 in
set_option maxRecDepth 100000 in
theorem reachNone_walk (x : MachA) (p : Int) {w : World} (hx : x.ok w) (hp : (Lit.int .i64 p).wf = true) : Calls Try.prog 5 #[x.val, .int .i64 p] w fun e w' => e = .returned (.bool true) ∧ Below w.heap.size w w' := by
  have h8 := hx.h8
  obtain ⟨ck, hck⟩ : ∃ ck, stepCheck (List.replicate 8 zeroV) zeroK x.mem [] x.out = ck := ⟨_, rfl⟩
  have hbx := fun W R (h : R.length = 8) (hb : Below w.heap.size w W) (hk : Bk W w.heap.size 31 (x.csN R)) => csN_box hx hb h hk
  have hrg := fun W R r (hr : r < 8) (h : R.length = 8) (hk : Bk W w.heap.size 31 (x.csN R)) => csN_reg (w := w) h hr hk zeroV
  have hcl := fun W R r (hr : r < 8) (h : R.length = 8) (hk : Bk W w.heap.size 31 (x.csN R)) => csN_cells (w := w) h hr hk
  have hst := fun W (hk : Bk W w.heap.size 31 (x.csF x.R x.c)) => csN_start (w := w) h8 hk
  have hcc : ∀ W (hk : Bk W w.heap.size 31 (x.csF x.R x.c)), W.cell? ⟨w.heap.size, 56, none⟩ = some (.int .i64 x.c.perm) ∧ W.cell? ⟨w.heap.size, 57, none⟩ = some (.int .i64 x.c.base) ∧ W.cell? ⟨w.heap.size, 58, none⟩ = some (.int .i64 x.c.len) ∧ W.cell? ⟨w.heap.size, 59, none⟩ = some (.int .i64 x.c.at_) ∧ W.cell? ⟨w.heap.size, 60, none⟩ = some (.int .i64 x.c.seal_) ∧ W.cell? ⟨w.heap.size, 62, none⟩ = some (.slice x.sa x.stk.length x.sc) := fun W hk => ⟨(hk.cell 56).trans (mcs_hi h8 0), (hk.cell 57).trans (mcs_hi h8 1), (hk.cell 58).trans (mcs_hi h8 2), (hk.cell 59).trans (mcs_hi h8 3), (hk.cell 60).trans (mcs_hi h8 4), (hk.cell 62).trans (mcs_hi h8 6)⟩
  have hv : x.val = .agg (x.csF x.R x.c) := rfl
  rw [hv]
  clear hv
  have hzl := fun j (hj : j ≤ 8) => zUp_len h8 hj
  have hzs := fun j (hj : j < 8) => zUp_set h8 hj
  have hza := zUp_all h8
  have hz0 : zUp x.R 0 = x.R := by unfold zUp; simp
  obtain ⟨w1, hw1⟩ : ∃ w1, w1 = w.alloc (.cells (x.csF x.R x.c) 31) := ⟨_, rfl⟩
  have k01 : Bk w1 w.heap.size 31 (x.csF x.R x.c) := by rw [hw1]; exact bk_new _ _ _
  have h1w : Below w.heap.size w w1 := by rw [hw1]; exact ext_alloc (Below.refl _ _) _
  obtain ⟨csa, hcsa⟩ : ∃ csa, csa = x.csF x.R x.c := ⟨_, rfl⟩
  rw [← hcsa] at hst hcc k01 hw1 ⊢
  obtain ⟨G3, hG3⟩ : ∃ G3, G3 = w1.heap.size := ⟨_, rfl⟩
  obtain ⟨w2, hw2⟩ : ∃ w2, w2 = w1.alloc (.cells #[.bool false, .int .i64 0, .int .i64 0, .int .i64 0, .int .i64 0, .int .i64 0, .int .i64 0, .bool false, .int .i64 0, .int .i64 0, .int .i64 0, .int .i64 0, .int .i64 0, .int .i64 0] 25) := ⟨_, rfl⟩
  have b12 : Below w1.heap.size w1 w2 := by rw [hw2]; exact ext_alloc (Below.refl _ _) _
  obtain ⟨i0, hi0, hz0', hz1, hz2⟩ := info_parts info_valZ
  have hmk : (Instr.makeSlice 27 (.int .i64 2) (.int .i64 2)).run Try.prog w1 = .ok (.slice (some ⟨G3, 0, none⟩) 2 2) w2 := by
    have h := run_make w1 27 25 i0 _ Try.underlying27 hi0 hz0' .i64 .i64 2 2 (by decide) (by decide) (by rw [hz2]; decide) (by decide)
    rw [hz1, show madeCells (Value.agg #[.bool false, .int .i64 0, .int .i64 0, .int .i64 0, .int .i64 0, .int .i64 0, .int .i64 0]).cells (Int.toNat 2 * 7) = #[.bool false, .int .i64 0, .int .i64 0, .int .i64 0, .int .i64 0, .int .i64 0, .int .i64 0, .bool false, .int .i64 0, .int .i64 0, .int .i64 0, .int .i64 0, .int .i64 0, .int .i64 0] from by first | kernel_rfl | rfl | (unfold madeCells; rfl)] at h
    rw [hG3, hw2]
    exact h
  have hlit : Calls Try.prog 7 #[.agg #[.bool false, .int .i64 0, .int .i64 0, .int .i64 0, .int .i64 0, .int .i64 0, .int .i64 0, .bool false, .int .i64 0, .int .i64 0, .int .i64 0, .int .i64 0, .int .i64 0, .int .i64 0, .bool false, .int .i64 0, .int .i64 0, .int .i64 0, .int .i64 0, .int .i64 0, .int .i64 0, .bool false, .int .i64 0, .int .i64 0, .int .i64 0, .int .i64 0, .int .i64 0, .int .i64 0, .bool false, .int .i64 0, .int .i64 0, .int .i64 0, .int .i64 0, .int .i64 0, .int .i64 0, .bool false, .int .i64 0, .int .i64 0, .int .i64 0, .int .i64 0, .int .i64 0, .int .i64 0, .bool false, .int .i64 0, .int .i64 0, .int .i64 0, .int .i64 0, .int .i64 0, .int .i64 0, .bool false, .int .i64 0, .int .i64 0, .int .i64 0, .int .i64 0, .int .i64 0, .int .i64 0, .int .i64 3, .int .i64 0, .int .i64 1, .int .i64 0, .int .i64 0, .slice (some ⟨G3, 0, none⟩) 2 2, .slice none 0 0, .slice none 0 0], .int .i64 3, .bool true] w2 fun e w' => ∃ (ao : Option Addr) (c : Nat), e = .returned (.tuple #[.slice ao 1 c, .int .i64 0]) ∧ Sl w' ao 1 [(0 : Int)] ∧ Below w2.heap.size w2 w' := by
    have hrow : MRow (List.replicate 8 zeroV) K2 (List.replicate 2 zeroV) [] [] #[.bool false, .int .i64 0, .int .i64 0, .int .i64 0, .int .i64 0, .int .i64 0, .int .i64 0, .bool false, .int .i64 0, .int .i64 0, .int .i64 0, .int .i64 0, .int .i64 0, .int .i64 0, .bool false, .int .i64 0, .int .i64 0, .int .i64 0, .int .i64 0, .int .i64 0, .int .i64 0, .bool false, .int .i64 0, .int .i64 0, .int .i64 0, .int .i64 0, .int .i64 0, .int .i64 0, .bool false, .int .i64 0, .int .i64 0, .int .i64 0, .int .i64 0, .int .i64 0, .int .i64 0, .bool false, .int .i64 0, .int .i64 0, .int .i64 0, .int .i64 0, .int .i64 0, .int .i64 0, .bool false, .int .i64 0, .int .i64 0, .int .i64 0, .int .i64 0, .int .i64 0, .int .i64 0, .bool false, .int .i64 0, .int .i64 0, .int .i64 0, .int .i64 0, .int .i64 0, .int .i64 0, .int .i64 3, .int .i64 0, .int .i64 1, .int .i64 0, .int .i64 0, .slice (some ⟨G3, 0, none⟩) 2 2, .slice none 0 0, .slice none 0 0] w2 := by
      refine ⟨rfl, some ⟨G3, 0, none⟩, none, none, 2, 0, 0, rfl, ?_, Sl.nil _ _, Sl.nil _ _⟩
      have h0 := own_lit (xs := List.replicate 2 zeroV) w1 25 0 (Nat.zero_le _) #[.bool false, .int .i64 0, .int .i64 0, .int .i64 0, .int .i64 0, .int .i64 0, .int .i64 0, .bool false, .int .i64 0, .int .i64 0, .int .i64 0, .int .i64 0, .int .i64 0, .int .i64 0] 2 rfl (by decide) rfl
      obtain ⟨ao, c', e, h, _⟩ := h0.sl
      injection e with e _ _
      subst e
      rw [hw2, hG3]
      exact h
    refine (cells_any hrow true 3 ((stepCheck_zero).1 (by decide))).mono ?_
    rintro e w' ⟨v, rfl, ho, hb⟩
    rw [show (List.replicate 2 zeroV).length = 2 from rfl, hits2] at ho
    obtain ⟨a, k, rfl, s, _⟩ := ho.sl
    exact ⟨a, k, rfl, s, hb⟩
  have HCK := Lib.hid hck
  have HBX := Lib.hid hbx
  have HRG := Lib.hid hrg
  have HCL := Lib.hid hcl
  have HST := Lib.hid hst
  have HCC := Lib.hid hcc
  have HZL := Lib.hid hzl
  have HZS := Lib.hid hzs
  have HZA := Lib.hid hza
  have HZ0 := Lib.hid hz0
  have K01 := Lib.hid k01
  have H1W := Lib.hid h1w
  have HW1 := Lib.hid hw1
  have B12 := Lib.hid b12
  have HMK := Lib.hid hmk
  have LIT := Lib.hid hlit
  have HW2 := Lib.hid hw2
  have HG3 := Lib.hid hG3
  clear hck hbx hrg hcl hst hcc hzl hzs hza hz0 k01 h1w hw1 b12 hmk hlit hw2 hG3 h8 hx hi0 hz0' hz1 hz2 hcsa
  go_enter Try.func5, Try.ntmps5
  go_upto_region 1 with (fail)
  rw [← HW1.out]
  have hmk' := HMK.out
  go_upto_region 2 with (go_at_call 7; ((with_reducible refine LIT.out.mono ?_); rintro e u1 ⟨a1, k1, rfl, s1, hb⟩; have S1 := Lib.hid s1; have HB1 := Lib.hid hb; clear hb s1))
  clear hmk'
  have s12 : Sl (u1.alloc (.cells #[.int .i64 0] 3)) (some ⟨u1.heap.size, 0, none⟩) 1 [(0 : Int)] := sl_one u1 0 _
  have heq := eq_int a1 (some ⟨u1.heap.size, 0, none⟩) 1 1 k1 1 [(0 : Int)] [(0 : Int)] _ (S1.out.alloc _) s12
  rw [decide_eq_true rfl] at heq
  have HEQ := Lib.hid heq
  clear heq s12
  go_upto_region 4 with (go_at_call 8; ((with_reducible refine HEQ.out.mono ?_); rintro e u2 ⟨rfl, hb⟩; have HB2 := Lib.hid hb; clear hb))
  have b02 : Below w1.heap.size w1 u2 := ext_trans (ext_alloc (ext_trans B12.out HB1.out) _) HB2.out
  have bw2 := ext_trans H1W.out b02
  have kb2 := bk_keep b02 K01.out
  have k3 := HST.out _ kb2
  have hv3 : (u2.setCells w.heap.size 56 [.int .i64 0, .int .i64 0, .int .i64 0, .int .i64 0, .int .i64 0]).setCells w.heap.size 62 [.slice none 0 0] = (((((u2.setCell ⟨w.heap.size, 56, none⟩ (.int .i64 0)).setCell ⟨w.heap.size, 57, none⟩ (.int .i64 0)).setCell ⟨w.heap.size, 58, none⟩ (.int .i64 0)).setCell ⟨w.heap.size, 59, none⟩ (.int .i64 0)).setCell ⟨w.heap.size, 60, none⟩ (.int .i64 0)).setCell ⟨w.heap.size, 62, none⟩ (.slice none 0 0) := rfl
  have bw3 := below_setCells (below_setCells bw2 (Nat.le_refl _) 56 [.int .i64 0, .int .i64 0, .int .i64 0, .int .i64 0, .int .i64 0]) (Nat.le_refl _) 62 [.slice none 0 0]
  obtain ⟨W3, hW3⟩ : ∃ W3, W3 = (u2.setCells w.heap.size 56 [.int .i64 0, .int .i64 0, .int .i64 0, .int .i64 0, .int .i64 0]).setCells w.heap.size 62 [.slice none 0 0] := ⟨_, rfl⟩
  rw [← hW3] at k3 hv3 bw3
  obtain ⟨c0, c1, c2, c3, c4, c6⟩ := HCC.out _ kb2
  have mF := fun j => kb2.frozen j
  have mL := kb2.lt
  have HV3 := Lib.hid hv3
  have K3 := Lib.hid k3
  have BW3 := Lib.hid bw3
  clear hW3 hv3 k3 bw3 bw2 b02 kb2
  go_upto_region 5 with (fail)
  rw [← HV3.out]
  clear c0 c1 c2 c3 c4 c6 mF mL HV3
  go_wp2
  go_loopw [30] (fun i wr => ∃ j : Nat, j ≤ 8 ∧ i = .int .i64 j ∧ Bk wr w.heap.size 31 (x.csN (zUp x.R j)) ∧ Below w.heap.size w wr) (fun i _ => 8 - (intOf i).toNat)
  case atStart => exact ⟨0, Nat.zero_le _, rfl, by rw [HZ0.out]; exact K3.out, BW3.out⟩
  case round =>
    obtain ⟨j, hj, rfl, hk, hb⟩ := hrel
    by_cases hlt : j < 8
    · have q0 : (0 : Int) ≤ j := by omega
      have q1 : (j : Int) < 8 := by omega
      obtain ⟨y, x0, x1, x2, x3, x4, x5, x6⟩ := HCL.out _ _ j hlt (HZL.out j hj) hk
      have mF := fun j => hk.frozen j
      have mL := hk.lt
      have k4 := HRG.out _ _ j hlt (HZL.out j hj) hk
      rw [HZS.out j hlt] at k4
      have hv4 : wr.setCells w.heap.size (j * 7) [.bool false, .int .i64 0, .int .i64 0, .int .i64 0, .int .i64 0, .int .i64 0, .int .i64 0] = wr.setCells w.heap.size (j * 7) (cl zeroV) := rfl
      have bw4 := below_setCells hb (Nat.le_refl _) (j * 7) (cl zeroV)
      obtain ⟨W4, hW4⟩ : ∃ W4, W4 = wr.setCells w.heap.size (j * 7) (cl zeroV) := ⟨_, rfl⟩
      rw [← hW4] at k4 hv4 bw4
      have HV4 := Lib.hid hv4
      have K4 := Lib.hid k4
      have BW4 := Lib.hid bw4
      clear hW4 hv4 k4 bw4 hk hb
      go_upto_region 9 with (fail)
      rw [setCells7R, HV4.out]
      clear x0 x1 x2 x3 x4 x5 x6 mF mL y
      go_wp2
      go_roundw
      case rel => exact ⟨j + 1, by omega, by go_num, K4.out, BW4.out⟩
      case measure => simp [intOf]; omega
    · have q1 : ¬ ((j : Int) < 8) := by omega
      obtain rfl : j = 8 := by omega
      have bx := HBX.out _ _ (HZL.out 8 (by decide)) hb hk
      rw [HZA.out] at bx
      obtain ⟨cs8, hcs8⟩ : ∃ cs8, cs8 = x.csN (List.replicate 8 zeroV) := ⟨_, rfl⟩
      rw [← hcs8] at bx
      clear hcs8
      have BX := Lib.hid bx
      have BW := Lib.hid hb
      clear bx hb hk
      go_upto_region 11 with (first
        | (refine wpList_load_sub rfl 31 (.tmp 2) rfl w.heap.size 0 64 rfl 31 _ _ BX.out.bk Try.underlying31 rfl (by kernel_rfl) BX.out.size _ BX.out.all ?_)
        | (go_at_call 7; ((with_reducible refine (cells_all BX.out.toRow true _ HCK.out hits_none).mono ?_); rintro e u5 ⟨a5, n5, k5, rfl, hz5, hg5, hb⟩; have HZ5 := Lib.hid hz5; have HG5 := Lib.hid hg5; have HB5 := Lib.hid hb; clear hb hz5 hg5)))
      go_upto_region 12 with (first
        | (refine wpList_load_sub rfl 31 (.tmp 2) rfl w.heap.size 0 64 rfl 31 _ _ (BX.out.below HB5.out).bk Try.underlying31 rfl (by kernel_rfl) BX.out.size _ BX.out.all ?_)
        | (go_at_call 10; ((with_reducible refine (keys_all (BX.out.below HB5.out).toRow true HCK.out).mono ?_); rintro e u6 ⟨a6, n6, k6, rfl, hz6, hg6, hb⟩; have HZ6 := Lib.hid hz6; have HG6 := Lib.hid hg6; have HB6 := Lib.hid hb; clear hb hz6 hg6)))
      have hchk : Calls Try.prog 14 #[.agg cs8] u6 fun e w' => e = .returned (.int .i64 ck) ∧ Below u6.heap.size u6 w' := by
        rw [← HCK.out]
        exact check_mbr (BX.out.below (ext_trans HB5.out HB6.out)).toRow
      have CHK := Lib.hid hchk
      clear hchk
      have hfin : ∀ W, Below u6.heap.size u6 W → Below w.heap.size w W := fun W h => ext_trans (ext_trans (ext_trans BW.out HB5.out) HB6.out) h
      have FIN := Lib.hid hfin
      clear hfin
      by_cases e1 : ck = 0
      case neg =>
        obtain rfl : n5 = 0 := HZ5.out e1
        obtain rfl : n6 = 0 := HZ6.out e1
        have g1 : (ck == 0) = false := by simpa using e1
        have g2 : (ck != 0) = true := by simpa using e1
        clear e1
        go_wp2_with (first
          | (refine wpList_load_sub rfl 31 (.tmp 2) rfl w.heap.size 0 64 rfl 31 _ _ (BX.out.below (ext_trans HB5.out HB6.out)).bk Try.underlying31 rfl (by kernel_rfl) BX.out.size _ BX.out.all ?_)
          | (go_at_call 14; ((with_reducible refine CHK.out.mono ?_); rintro e u7 ⟨rfl, hb⟩; have HB7 := Lib.hid hb; clear hb)))
        go_ret
        exact ⟨rfl, FIN.out _ HB7.out⟩
      subst e1
      obtain ⟨h5, _⟩ := HG5.out rfl
      obtain rfl : n5 = 0 := h5
      obtain ⟨ts, t1, t2, _, _, t4, _⟩ := HG6.out rfl
      obtain rfl : ts = [zeroK] := one_only (fun x => (t2 x).trans (rch_shut (by decide))) t4
      obtain rfl : n6 = 1 := t1.len.symm
      have T1 := Lib.hid t1
      clear t1 t2 t4
      go_upto_region 13 with (first
        | (refine wpList_load_sub rfl 31 (.tmp 2) rfl w.heap.size 0 64 rfl 31 _ _ (BX.out.below (ext_trans HB5.out HB6.out)).bk Try.underlying31 rfl (by kernel_rfl) BX.out.size _ BX.out.all ?_)
        | (go_at_call 14; ((with_reducible refine CHK.out.mono ?_); rintro e u7 ⟨rfl, hb⟩; have HB7 := Lib.hid hb; clear hb)))
      have s14 : Sl (u7.alloc (.cells #[.int .i64 0, .int .i64 0, .int .i64 0, .int .i64 0, .int .i64 0] 23)) (some ⟨u7.heap.size, 0, none⟩) 1 [zeroK] := by
        have h0 := own_lit (xs := [zeroK]) u7 23 0 (Nat.zero_le _) #[.int .i64 0, .int .i64 0, .int .i64 0, .int .i64 0, .int .i64 0] 1 rfl (by decide) rfl
        obtain ⟨ao, c', e, h, _⟩ := h0.sl
        injection e with e _ _
        subst e
        exact h
      have heq := eq_keyS a6 (some ⟨u7.heap.size, 0, none⟩) 1 1 k6 1 [zeroK] [zeroK] _ ((T1.out.below HB7.out).alloc _) s14
      rw [decide_eq_true rfl] at heq
      have HEQ2 := Lib.hid heq
      clear heq s14
      go_wp2_with (go_at_call 11; ((with_reducible refine HEQ2.out.mono ?_); rintro e u8 ⟨rfl, hb⟩; have HB8 := Lib.hid hb; clear hb))
      go_ret
      exact ⟨rfl, FIN.out _ (ext_trans (ext_alloc HB7.out _) HB8.out)⟩
end Go.Proofs.Ytcdcmbehnccicaa
