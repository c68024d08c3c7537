import Derived.Test.YtpjhjefjbkjhkaaGreatDoorPk01
import Derived.Test.YtpjhjefjbkjhkaaGreatDoorPk04
import Derived.Test.YtpjhjefjbkjhkaaGreatDoorPk06
import Derived.Test.YtpjhjefjbkjhkaaGreatDoorPk09
import Derived.WalkLawsBesides
import Derived.WalkSmall
set_option maxHeartbeats 40000000
set_option maxRecDepth 100000
set_option linter.unusedVariables false
set_option linter.unusedSimpArgs false
namespace Go.Proofs.YtpjhjefjbkjhkaaGreatDoor
open El (cl)
open Go.RowKit
def faultP (k : Int) : List PanicEntry := [{ v := .iface 219 (.agg #[.int .i64 k]), recovered := false }]
theorem must_ok (w : World) : Calls Tryz.prog 159 #[.int .i64 0] w fun e w' => e = .returned (.tuple #[]) ∧ w = w' := by
 go_enter Tryz.func159, Tryz.ntmps159
 go_wp2
 go_end0
 exact ⟨rfl, rfl⟩
theorem must_bad (k : Int) (hk : k ≠ 0) (w : World) : Calls Tryz.prog 159 #[.int .i64 k] w fun e w' => e = .panicked (faultP k) ∧ w = w' := by
 have g1 : (k != 0) = true := by simpa using hk
 go_enter Tryz.func159, Tryz.ntmps159
 go_wp2
 exact ⟨rfl, rfl, rfl⟩
def scs (gm : Nat) (i : InstV) : Array Value := #[.pointer (some ⟨gm, 0, none⟩), .int .i64 i.op, .int .i64 i.a, .int .i64 i.b, .int .i64 i.c]
theorem cls_atS {α : Type} [El α] {xs : List α} {i j : Nat} {x : α} (hx : xs[i]? = some x) (hj : j < El.k α) : (cls xs)[i * El.k α + j]? = (cl x)[j]? := by
 obtain ⟨h, rfl⟩ := List.getElem?_eq_some_iff.1 hx
 exact cls_at xs i h j hj
theorem regs_at {R : List ValV} {c : KeyV} {a b d : Value} (h8 : R.length = 8) {k : Nat} {x : ValV} (hx : R[k]? = some x) {j : Nat} (hj : j < 7) : (mcs R c a b d)[k * 7 + j]? = (cl x)[j]? := by
 have hk : k < 8 := by rw [← h8]; exact (List.getElem?_eq_some_iff.1 hx).1
 rw [mcs_lo h8 (by omega)]
 exact cls_atS hx hj
theorem reg_get {m : MV} (h8 : m.R.length = 8) {r : Nat} (hr : r < 8) : m.R[r]? = some (m.reg r) := by
 unfold MV.reg
 rw [Int.toNat_natCast, List.getD_eq_getElem?_getD, List.getElem?_eq_getElem (by omega)]
 rfl
theorem number_ok {W : World} {gs gm : Nat} {i : InstV} {m : MV} {vm vs vo : Value} (hs : Bk W gs 222 (scs gm i)) (hm : Bk W gm 72 (mcs m.R m.c vm vs vo)) (h8 : m.R.length = 8) (r : Nat) (hr : r < 8) (hi : (m.reg r).is = false) :
  Calls Tryz.prog 161 #[.pointer (some ⟨gs, 0, none⟩), .int .i64 r] W fun e w' => e = .returned (.int .i64 (m.reg r).n) ∧ W = w' := by
 have s0 := hs.cell 0
 simp only [scs, List.getElem?_toArray, List.getElem?_cons_zero] at s0
 have sL := hs.lt
 have mL := hm.lt
 have hx := reg_get h8 hr
 have c0 := (hm.cell (r * 7 + 0)).trans (regs_at h8 hx (by decide))
 have c1 := (hm.cell (r * 7 + 1)).trans (regs_at h8 hx (by decide))
 generalize m.reg r = x at *
 obtain ⟨xi, xn, xp, xb, xl, xa, xs⟩ := x
 simp only at hi
 subst hi
 simp only [cl, List.getElem?_cons_zero, List.getElem?_cons_succ, Nat.add_zero] at c0 c1
 have q1 : (0 : Int) ≤ (r : Int) := by omega
 have q2 : (r : Int) < 8 := by omega
 clear hs hm hx h8
 go_enter Tryz.func161, Tryz.ntmps161
 go_wp2
 go_ret
 exact ⟨rfl, rfl⟩
end Go.Proofs.YtpjhjefjbkjhkaaGreatDoor
namespace Go.Proofs.YtpjhjefjbkjhkaaGreatDoor
open El (cl)
open Go.RowKit
abbrev MS (base gm : Nat) (vm vs vo : Value) (m : MV) (W : World) : Prop := MSt 72 68 193 3 base gm vm vs vo m W
theorem MSt.drew' {base gm : Nat} {vm vs vo : Value} {m : MV} {W : World} (h : MS base gm vm vs vo m W) : MS base gm vm vs vo m W.drew := ⟨h.h8, h.mB, h.om, h.os, h.oo⟩
theorem MSt.setReg {base gm : Nat} {vm vs vo : Value} {m : MV} {W : World} (h : MS base gm vm vs vo m W) (r : Nat) (hr : r < 8) (v : ValV) {us : List Value} (hu : us = cl v) :
  MS base gm vm vs vo (m.set r v) (W.setCells gm (r * 7) us) ∧ Fr (mS gm vm vs vo) W (W.setCells gm (r * 7) us) := by
 refine ⟨MSt.put h (by decide) (by decide) (by decide) _ us (m' := m.set r v) (by simp [MV.set, h.h8]) rfl rfl rfl ?_, Fr.setCells W (.inl rfl) _ us⟩
 have e := mcs_regset (c := m.c) (ms := vm) (ss := vs) (os := vo) h.h8 (reg_get h.h8 hr) hu
 rw [e]
 unfold MV.set
 rw [Int.toNat_natCast]
theorem reg_cells {W : World} {gm : Nat} {m : MV} {vm vs vo : Value} (hm : Bk W gm 72 (mcs m.R m.c vm vs vo)) (h8 : m.R.length = 8) {a : Nat} (ha : a < 8) :
  W.cell? ⟨gm, a * 7, none⟩ = some (.bool (m.reg a).is) ∧ W.cell? ⟨gm, a * 7 + 1, none⟩ = some (.int .i64 (m.reg a).n) ∧ W.cell? ⟨gm, a * 7 + 2, none⟩ = some (.int .i64 (m.reg a).k.perm) ∧ W.cell? ⟨gm, a * 7 + 3, none⟩ = some (.int .i64 (m.reg a).k.base) ∧
   W.cell? ⟨gm, a * 7 + 4, none⟩ = some (.int .i64 (m.reg a).k.len) ∧ W.cell? ⟨gm, a * 7 + 5, none⟩ = some (.int .i64 (m.reg a).k.at_) ∧ W.cell? ⟨gm, a * 7 + 6, none⟩ = some (.int .i64 (m.reg a).k.seal_) := by
 have hx := reg_get h8 ha
 exact ⟨(hm.cell (a * 7 + 0)).trans (regs_at h8 hx (by decide)), (hm.cell (a * 7 + 1)).trans (regs_at h8 hx (by decide)), (hm.cell (a * 7 + 2)).trans (regs_at h8 hx (by decide)), (hm.cell (a * 7 + 3)).trans (regs_at h8 hx (by decide)), (hm.cell (a * 7 + 4)).trans (regs_at h8 hx (by decide)), (hm.cell (a * 7 + 5)).trans (regs_at h8 hx (by decide)), (hm.cell (a * 7 + 6)).trans (regs_at h8 hx (by decide))⟩
theorem setCells7 (w : World) (g i : Nat) (u0 u1 u2 u3 u4 u5 u6 : Value) :
  ((((((w.setCell ⟨g, i, none⟩ u0).setCell ⟨g, i + 1, none⟩ u1).setCell ⟨g, i + 2, none⟩ u2).setCell ⟨g, i + 3, none⟩ u3).setCell ⟨g, i + 4, none⟩ u4).setCell ⟨g, i + 5, none⟩ u5).setCell ⟨g, i + 6, none⟩ u6 = w.setCells g i [u0, u1, u2, u3, u4, u5, u6] := rfl
def SPost (base gm : Nat) (vm vs vo : Value) (m : MV) (W : World) (e : Ending) (w' : World) : Prop := e = .returned (.tuple #[]) ∧ MS base gm vm vs vo m w' ∧ Fr (mS gm vm vs vo) W w'
theorem SPost.drew {base gm : Nat} {vm vs vo : Value} {m : MV} {W w' : World} {e : Ending} (h : SPost base gm vm vs vo m W e w') : SPost base gm vm vs vo m W e w'.drew := ⟨h.1, h.2.1.drew', h.2.2.trans (Fr.drew (mS gm vm vs vo) _) (fun _ _ h => h)⟩
theorem SPost.alloc {base gm : Nat} {vm vs vo : Value} {m : MV} {W w' : World} {e : Ending} (h : SPost base gm vm vs vo m W e w') (o : Obj) : SPost base gm vm vs vo m W e (w'.alloc o) :=
 ⟨h.1, h.2.1.below (ext_alloc (Below.refl _ _) o), h.2.2.trans (Fr.alloc (mS gm vm vs vo) _ o) (fun _ _ h => h)⟩
theorem SPost.reg {base gm : Nat} {vm vs vo : Value} {m : MV} {W : World} (h : MS base gm vm vs vo m W) (r : Nat) (hr : r < 8) (v : ValV) {us : List Value} (hu : us = cl v) : SPost base gm vm vs vo (m.set r v) W (.returned (.tuple #[])) (W.setCells gm (r * 7) us) :=
 ⟨rfl, MSt.setReg h r hr v hu⟩
theorem setNumber_any {base : Nat} {W : World} {gs gm : Nat} {i : InstV} {m : MV} {vm vs vo : Value} (hs : Bk W gs 222 (scs gm i)) (hm : MS base gm vm vs vo m W) (a : Nat) (ha : i.a = a) (h8 : a < 8) (n : Int) :
  Calls Tryz.prog 207 #[.pointer (some ⟨gs, 0, none⟩), .int .i64 n] W (SPost base gm vm vs vo (m.set a (nV n)) W) := by
 have s0 := hs.cell 0
 have s2 := hs.cell 2
 simp only [scs, List.getElem?_toArray, List.getElem?_cons_zero, List.getElem?_cons_succ, ha] at s0 s2
 have sL := hs.lt
 have mL := hm.mB.lt
 have mF := fun j => hm.mB.frozen j
 have q1 : (0 : Int) ≤ (a : Int) := by omega
 have q2 : (a : Int) < 8 := by omega
 obtain ⟨c0, c1, c2, c3, c4, c5, c6⟩ := reg_cells hm.mB hm.h8 h8
 have HM := Lib.hid hm
 clear hs hm
 go_enter Tryz.func207, Tryz.ntmps207
 go_region
 go_wp2
 go_end0
 rw [setCells7]
 exact SPost.drew (SPost.reg HM.out a h8 (nV n) rfl)
end Go.Proofs.YtpjhjefjbkjhkaaGreatDoor
namespace Go.Proofs.YtpjhjefjbkjhkaaGreatDoor
open Go.RowKit
def Thrown (k : Int) (W : World) (e : Ending) (w' : World) : Prop := e = .panicked (faultP k) ∧ Below W.heap.size W w'
theorem Thrown.of {k : Int} {W w' : World} (h : Below W.heap.size W w') : Thrown k W (.panicked (faultP k)) w' := ⟨rfl, h⟩
theorem number_bad {W : World} {gs gm : Nat} {i : InstV} {m : MV} {vm vs vo : Value} (hs : Bk W gs 222 (scs gm i)) (hm : Bk W gm 72 (mcs m.R m.c vm vs vo)) (h8 : m.R.length = 8) (r : Nat) (hr : r < 8) (hi : (m.reg r).is = true) :
  Calls Tryz.prog 161 #[.pointer (some ⟨gs, 0, none⟩), .int .i64 r] W (Thrown 10 W) := by
 have s0 := hs.cell 0
 simp only [scs, List.getElem?_toArray, List.getElem?_cons_zero] at s0
 have sL := hs.lt
 have mL := hm.lt
 obtain ⟨c0, _⟩ := reg_cells hm h8 hr
 rw [hi] at c0
 have q1 : (0 : Int) ≤ (r : Int) := by omega
 have q2 : (r : Int) < 8 := by omega
 clear hs hm h8 hi
 go_enter Tryz.func161, Tryz.ntmps161
 go_wp2_with (go_at_call 159; ((with_reducible refine (must_bad 10 (by decide) _).mono ?_); rintro e w' ⟨rfl, rfl⟩))
 exact ⟨rfl, Thrown.of (Below.refl _ _)⟩
theorem key_bad {W : World} {gs gm : Nat} {i : InstV} {m : MV} {vm vs vo : Value} (hs : Bk W gs 222 (scs gm i)) (hm : Bk W gm 72 (mcs m.R m.c vm vs vo)) (h8 : m.R.length = 8) (r : Nat) (hr : r < 8) (hi : (m.reg r).is = false) :
  Calls Tryz.prog 206 #[.pointer (some ⟨gs, 0, none⟩), .int .i64 r] W (Thrown 10 W) := by
 have s0 := hs.cell 0
 simp only [scs, List.getElem?_toArray, List.getElem?_cons_zero] at s0
 have sL := hs.lt
 have mL := hm.lt
 obtain ⟨c0, _⟩ := reg_cells hm h8 hr
 rw [hi] at c0
 have q1 : (0 : Int) ≤ (r : Int) := by omega
 have q2 : (r : Int) < 8 := by omega
 clear hs hm h8 hi
 go_enter Tryz.func206, Tryz.ntmps206
 go_wp2_with (go_at_call 159; ((with_reducible refine (must_bad 10 (by decide) _).mono ?_); rintro e w' ⟨rfl, rfl⟩))
 exact ⟨rfl, Thrown.of (ext_alloc (Below.refl _ _) _)⟩
theorem skey_ok {W : World} {gs gm : Nat} {i : InstV} {m : MV} {vm vs vo : Value} (hs : Bk W gs 222 (scs gm i)) (hm : Bk W gm 72 (mcs m.R m.c vm vs vo)) (h8 : m.R.length = 8) (r : Nat) (hr : r < 8) (hi : (m.reg r).is = true) :
  Calls Tryz.prog 206 #[.pointer (some ⟨gs, 0, none⟩), .int .i64 r] W fun e w' => e = .returned (.agg #[.int .i64 (m.reg r).k.perm, .int .i64 (m.reg r).k.base, .int .i64 (m.reg r).k.len, .int .i64 (m.reg r).k.at_, .int .i64 (m.reg r).k.seal_]) ∧ Below W.heap.size W w' := by
 have s0 := hs.cell 0
 simp only [scs, List.getElem?_toArray, List.getElem?_cons_zero] at s0
 have sL := hs.lt
 have mL := hm.lt
 obtain ⟨c0, c1, c2, c3, c4, c5, c6⟩ := reg_cells hm h8 hr
 rw [hi] at c0
 have q1 : (0 : Int) ≤ (r : Int) := by omega
 have q2 : (r : Int) < 8 := by omega
 clear hs hm h8 hi
 go_enter Tryz.func206, Tryz.ntmps206
 go_wp2
 refine bodyPost_ret (v := .agg #[.int .i64 (m.reg r).k.perm, .int .i64 (m.reg r).k.base, .int .i64 (m.reg r).k.len, .int .i64 (m.reg r).k.at_, .int .i64 (m.reg r).k.seal_]) (by simp [results, Tryz.results206, go_sem, *]; try rfl) rfl ⟨rfl, ?_⟩
 repeat (first | with_reducible exact Below.refl _ _ | with_reducible refine ext_set ?_ (by first | omega | (simp; done) | (simp; omega)) _ | with_reducible refine ext_alloc ?_ _)
theorem setKey_bad {W : World} (gs : Nat) (p b l a s k : Int) (hk : k ≠ 0) :
  Calls Tryz.prog 211 #[.pointer (some ⟨gs, 0, none⟩), .agg #[.int .i64 p, .int .i64 b, .int .i64 l, .int .i64 a, .int .i64 s], .int .i64 k] W (Thrown k W) := by
 have MB := Lib.hid (fun W => must_bad k hk W)
 go_enter Tryz.func211, Tryz.ntmps211
 go_wp2_with (go_at_call 159; ((with_reducible refine (MB.out _).mono ?_); rintro e w' ⟨rfl, rfl⟩))
 exact ⟨rfl, Thrown.of (ext_alloc (Below.refl _ _) _)⟩
theorem setKey_ok {base : Nat} {W : World} {gs gm : Nat} {i : InstV} {m : MV} {vm vs vo : Value} (hs : Bk W gs 222 (scs gm i)) (hm : MS base gm vm vs vo m W) (a : Nat) (ha : i.a = a) (h8 : a < 8) (kp kb kl ka ks : Int) :
  Calls Tryz.prog 211 #[.pointer (some ⟨gs, 0, none⟩), .agg #[.int .i64 kp, .int .i64 kb, .int .i64 kl, .int .i64 ka, .int .i64 ks], .int .i64 0] W (SPost base gm vm vs vo (m.set a (kV ⟨kp, kb, kl, ka, ks⟩)) W) := by
 have s0 := hs.cell 0
 have s2 := hs.cell 2
 simp only [scs, List.getElem?_toArray, List.getElem?_cons_zero, List.getElem?_cons_succ, ha] at s0 s2
 have sL := hs.lt
 have mL := hm.mB.lt
 have mF := fun j => hm.mB.frozen j
 have q1 : (0 : Int) ≤ (a : Int) := by omega
 have q2 : (a : Int) < 8 := by omega
 obtain ⟨c0, c1, c2, c3, c4, c5, c6⟩ := reg_cells hm.mB hm.h8 h8
 have HM := Lib.hid hm
 clear hs hm
 go_enter Tryz.func211, Tryz.ntmps211
 go_wp2_with (go_at_call 159; ((with_reducible refine (must_ok _).mono ?_); rintro e w' ⟨rfl, rfl⟩))
 go_region
 go_wp2
 go_end0
 rw [setCells7]
 repeat (first | with_reducible refine SPost.drew ?_ | with_reducible refine SPost.alloc ?_ _)
 exact SPost.reg HM.out a h8 _ rfl
end Go.Proofs.YtpjhjefjbkjhkaaGreatDoor
namespace Go.Proofs.YtpjhjefjbkjhkaaGreatDoor
open Go.RowKit
theorem mcs_atset {R : List ValV} {c : KeyV} {ms ss os : Value} (h8 : R.length = 8) (n : Int) : (setL (cls R ++ [.int .i64 c.perm, .int .i64 c.base, .int .i64 c.len, .int .i64 c.at_, .int .i64 c.seal_, ms, ss, os]) 59 [.int .i64 n]).toArray = mcs R { c with at_ := n } ms ss os := by
 unfold mcs
 rw [show 59 = (cls R).length + 3 by rw [regs_cells h8], setL_app_right]
 rfl
theorem SPost.fwd {base gm : Nat} {vm vs vo : Value} {m : MV} {W : World} (h : MS base gm vm vs vo m W) (n : Int) : SPost base gm vm vs vo (m.fwd n) W (.returned (.tuple #[])) (W.setCell ⟨gm, 59, none⟩ (.int .i64 (m.c.at_ + n))) :=
 ⟨rfl, MSt.put h (by decide) (by decide) (by decide) 59 [.int .i64 (m.c.at_ + n)] (m' := m.fwd n) h.h8 rfl rfl rfl (mcs_atset h.h8 _), Fr.setCells W (.inl rfl) 59 [.int .i64 (m.c.at_ + n)]⟩
theorem MSt.at_cell {base gm : Nat} {vm vs vo : Value} {m : MV} {W : World} (h : MS base gm vm vs vo m W) : W.cell? ⟨gm, 59, none⟩ = some (.int .i64 m.c.at_) := (h.mB.cell 59).trans (mcs_hi h.h8 3)
theorem goes_bad {base : Nat} {W : World} {gs gm : Nat} {i : InstV} {m : MV} {vm vs vo : Value} (hs : Bk W gs 222 (scs gm i)) (hm : MS base gm vm vs vo m W) (n : Int) (h0 : 0 ≤ m.c.at_) (h1 : m.c.at_ ≤ 400) (n0 : -2048 ≤ n) (n1 : n ≤ 2047) (hb : m.c.at_ + n < 0 ∨ 400 < m.c.at_ + n) :
  Calls Tryz.prog 160 #[.pointer (some ⟨gs, 0, none⟩), .int .i64 n] W (Thrown 13 W) := by
 have s0 := hs.cell 0
 simp only [scs, List.getElem?_toArray, List.getElem?_cons_zero] at s0
 have sL := hs.lt
 have mL := hm.mB.lt
 have c3 := hm.at_cell
 clear hs hm
 by_cases hneg : m.c.at_ + n < 0
 ·go_enter Tryz.func160, Tryz.ntmps160
  go_wp2_with (go_at_call 159; ((with_reducible refine (must_bad 13 (by decide) _).mono ?_); rintro e w' ⟨rfl, rfl⟩))
  exact ⟨rfl, Thrown.of (Below.refl _ _)⟩
 ·have hgt : 400 < m.c.at_ + n := by omega
  go_enter Tryz.func160, Tryz.ntmps160
  go_wp2_with (go_at_call 159; ((with_reducible refine (must_bad 13 (by decide) _).mono ?_); rintro e w' ⟨rfl, rfl⟩))
  exact ⟨rfl, Thrown.of (Below.refl _ _)⟩
theorem goes_any {base : Nat} {W : World} {gs gm : Nat} {i : InstV} {m : MV} {vm vs vo : Value} (hs : Bk W gs 222 (scs gm i)) (hm : MS base gm vm vs vo m W) (n : Int) (h0 : 0 ≤ m.c.at_) (h1 : m.c.at_ ≤ 400) (hb : ¬ (m.c.at_ + n < 0 ∨ 400 < m.c.at_ + n)) :
  Calls Tryz.prog 160 #[.pointer (some ⟨gs, 0, none⟩), .int .i64 n] W (SPost base gm vm vs vo (m.fwd n) W) := by
 have s0 := hs.cell 0
 simp only [scs, List.getElem?_toArray, List.getElem?_cons_zero] at s0
 have sL := hs.lt
 have mL := hm.mB.lt
 have c3 := hm.at_cell
 have mF := fun j => hm.mB.frozen j
 have g1 : ¬ (m.c.at_ + n < 0) := by omega
 have g2 : ¬ (400 < m.c.at_ + n) := by omega
 have HM := Lib.hid (SPost.fwd hm n)
 clear hs hm hb
 go_enter Tryz.func160, Tryz.ntmps160
 go_wp2
 go_end0
 exact HM.out
theorem i_cells {W : World} {gs gm : Nat} {i : InstV} (hs : Bk W gs 222 (scs gm i)) : W.cell? ⟨gs, 0, none⟩ = some (.pointer (some ⟨gm, 0, none⟩)) ∧ W.cell? ⟨gs, 1, none⟩ = some (.int .i64 i.op) ∧ W.cell? ⟨gs, 2, none⟩ = some (.int .i64 i.a) ∧ W.cell? ⟨gs, 3, none⟩ = some (.int .i64 i.b) ∧ W.cell? ⟨gs, 4, none⟩ = some (.int .i64 i.c) :=
 ⟨hs.cell 0, hs.cell 1, hs.cell 2, hs.cell 3, hs.cell 4⟩
structure Named (i : InstV) (a b c : Nat) : Prop where
 ea : i.a = a
 eb : i.b = b
 ec : i.c = c
 a8 : a < 8
 b8 : b < 8
 c8 : c < 8
theorem numbers_bad1 {base : Nat} {W : World} {gs gm : Nat} {i : InstV} {m : MV} {vm vs vo : Value} (hs : Bk W gs 222 (scs gm i)) (hm : MS base gm vm vs vo m W) (b : Nat) (hb : i.b = b) (b8 : b < 8) (h1 : (m.reg b).is = true) (fv : Value) :
  Calls Tryz.prog 208 #[.pointer (some ⟨gs, 0, none⟩), fv] W (Thrown 10 W) := by
 obtain ⟨s0, s1, s2, s3, s4⟩ := i_cells hs
 rw [hb] at s3
 have sL := hs.lt
 have NB := Lib.hid (number_bad hs hm.mB hm.h8 b b8 h1)
 clear hs hm
 go_enter Tryz.func208, Tryz.ntmps208
 go_wp2_with (go_at_call 161; ((with_reducible refine NB.out.mono ?_); rintro e w' ⟨rfl, hb⟩))
 exact ⟨rfl, Thrown.of hb⟩
theorem numbers_bad2 {base : Nat} {W : World} {gs gm : Nat} {i : InstV} {m : MV} {vm vs vo : Value} (hs : Bk W gs 222 (scs gm i)) (hm : MS base gm vm vs vo m W) (b c : Nat) (hb : i.b = b) (hc : i.c = c) (b8 : b < 8) (c8 : c < 8) (h1 : (m.reg b).is = false) (h2 : (m.reg c).is = true) (fv : Value) :
  Calls Tryz.prog 208 #[.pointer (some ⟨gs, 0, none⟩), fv] W (Thrown 10 W) := by
 obtain ⟨s0, s1, s2, s3, s4⟩ := i_cells hs
 rw [hb] at s3
 rw [hc] at s4
 have sL := hs.lt
 have NB := Lib.hid (number_ok hs hm.mB hm.h8 b b8 h1)
 have NC := Lib.hid (number_bad hs hm.mB hm.h8 c c8 h2)
 clear hs hm
 go_enter Tryz.func208, Tryz.ntmps208
 go_wp2_with (first
  | (go_at_call 161; ((with_reducible refine NB.out.mono ?_); rintro e w' ⟨rfl, rfl⟩; clear NB))
  | (go_at_call 161; ((with_reducible refine NC.out.mono ?_); rintro e w' ⟨rfl, hb⟩)))
 exact ⟨rfl, Thrown.of hb⟩
theorem numbers_add {base : Nat} {W : World} {gs gm : Nat} {i : InstV} {m : MV} {vm vs vo : Value} (hs : Bk W gs 222 (scs gm i)) (hm : MS base gm vm vs vo m W) (a b c : Nat) (hn : Named i a b c) (h1 : (m.reg b).is = false) (h2 : (m.reg c).is = false) (n : Int)
  (hf : ∀ W, Calls Tryz.prog 178 #[.int .i64 (m.reg b).n, .int .i64 (m.reg c).n] W fun e w' => e = .returned (.int .i64 n) ∧ W = w') :
  Calls Tryz.prog 208 #[.pointer (some ⟨gs, 0, none⟩), .func (.func 178) #[] #[]] W (SPost base gm vm vs vo (m.set a (nV n)) W) := by
 obtain ⟨s0, s1, s2, s3, s4⟩ := i_cells hs
 obtain ⟨ha, hb, hc, a8, b8, c8⟩ := hn
 rw [hb] at s3
 rw [hc] at s4
 have sL := hs.lt
 have NB := Lib.hid (number_ok hs hm.mB hm.h8 b b8 h1)
 have NC := Lib.hid (number_ok hs hm.mB hm.h8 c c8 h2)
 have SN := Lib.hid (setNumber_any hs hm a ha a8 n)
 have HF := Lib.hid hf
 clear hs hm hf
 go_enter Tryz.func208, Tryz.ntmps208
 go_wp2_with (first
  | (go_at_call 161; ((with_reducible refine NB.out.mono ?_); rintro e w' ⟨rfl, rfl⟩; clear NB))
  | (go_at_call 161; ((with_reducible refine NC.out.mono ?_); rintro e w' ⟨rfl, rfl⟩; clear NC))
  | (go_at_call 178; ((with_reducible refine (HF.out _).mono ?_); rintro e w' ⟨rfl, rfl⟩))
  | (go_at_call 207; ((with_reducible refine SN.out.mono ?_); rintro e w' ⟨rfl, hm2, hf2⟩)))
 go_end0
 exact ⟨rfl, hm2, hf2⟩
theorem numbers_sub {base : Nat} {W : World} {gs gm : Nat} {i : InstV} {m : MV} {vm vs vo : Value} (hs : Bk W gs 222 (scs gm i)) (hm : MS base gm vm vs vo m W) (a b c : Nat) (hn : Named i a b c) (h1 : (m.reg b).is = false) (h2 : (m.reg c).is = false) (n : Int)
  (hf : ∀ W, Calls Tryz.prog 179 #[.int .i64 (m.reg b).n, .int .i64 (m.reg c).n] W fun e w' => e = .returned (.int .i64 n) ∧ W = w') :
  Calls Tryz.prog 208 #[.pointer (some ⟨gs, 0, none⟩), .func (.func 179) #[] #[]] W (SPost base gm vm vs vo (m.set a (nV n)) W) := by
 obtain ⟨s0, s1, s2, s3, s4⟩ := i_cells hs
 obtain ⟨ha, hb, hc, a8, b8, c8⟩ := hn
 rw [hb] at s3
 rw [hc] at s4
 have sL := hs.lt
 have NB := Lib.hid (number_ok hs hm.mB hm.h8 b b8 h1)
 have NC := Lib.hid (number_ok hs hm.mB hm.h8 c c8 h2)
 have SN := Lib.hid (setNumber_any hs hm a ha a8 n)
 have HF := Lib.hid hf
 clear hs hm hf
 go_enter Tryz.func208, Tryz.ntmps208
 go_wp2_with (first
  | (go_at_call 161; ((with_reducible refine NB.out.mono ?_); rintro e w' ⟨rfl, rfl⟩; clear NB))
  | (go_at_call 161; ((with_reducible refine NC.out.mono ?_); rintro e w' ⟨rfl, rfl⟩; clear NC))
  | (go_at_call 179; ((with_reducible refine (HF.out _).mono ?_); rintro e w' ⟨rfl, rfl⟩))
  | (go_at_call 207; ((with_reducible refine SN.out.mono ?_); rintro e w' ⟨rfl, hm2, hf2⟩)))
 go_end0
 exact ⟨rfl, hm2, hf2⟩
theorem numbers_mul {base : Nat} {W : World} {gs gm : Nat} {i : InstV} {m : MV} {vm vs vo : Value} (hs : Bk W gs 222 (scs gm i)) (hm : MS base gm vm vs vo m W) (a b c : Nat) (hn : Named i a b c) (h1 : (m.reg b).is = false) (h2 : (m.reg c).is = false) (n : Int)
  (hf : ∀ W, Calls Tryz.prog 180 #[.int .i64 (m.reg b).n, .int .i64 (m.reg c).n] W fun e w' => e = .returned (.int .i64 n) ∧ W = w') :
  Calls Tryz.prog 208 #[.pointer (some ⟨gs, 0, none⟩), .func (.func 180) #[] #[]] W (SPost base gm vm vs vo (m.set a (nV n)) W) := by
 obtain ⟨s0, s1, s2, s3, s4⟩ := i_cells hs
 obtain ⟨ha, hb, hc, a8, b8, c8⟩ := hn
 rw [hb] at s3
 rw [hc] at s4
 have sL := hs.lt
 have NB := Lib.hid (number_ok hs hm.mB hm.h8 b b8 h1)
 have NC := Lib.hid (number_ok hs hm.mB hm.h8 c c8 h2)
 have SN := Lib.hid (setNumber_any hs hm a ha a8 n)
 have HF := Lib.hid hf
 clear hs hm hf
 go_enter Tryz.func208, Tryz.ntmps208
 go_wp2_with (first
  | (go_at_call 161; ((with_reducible refine NB.out.mono ?_); rintro e w' ⟨rfl, rfl⟩; clear NB))
  | (go_at_call 161; ((with_reducible refine NC.out.mono ?_); rintro e w' ⟨rfl, rfl⟩; clear NC))
  | (go_at_call 180; ((with_reducible refine (HF.out _).mono ?_); rintro e w' ⟨rfl, rfl⟩))
  | (go_at_call 207; ((with_reducible refine SN.out.mono ?_); rintro e w' ⟨rfl, hm2, hf2⟩)))
 go_end0
 exact ⟨rfl, hm2, hf2⟩
theorem numbers_less {base : Nat} {W : World} {gs gm : Nat} {i : InstV} {m : MV} {vm vs vo : Value} (hs : Bk W gs 222 (scs gm i)) (hm : MS base gm vm vs vo m W) (a b c : Nat) (hn : Named i a b c) (h1 : (m.reg b).is = false) (h2 : (m.reg c).is = false) (n : Int)
  (hf : ∀ W, Calls Tryz.prog 181 #[.int .i64 (m.reg b).n, .int .i64 (m.reg c).n] W fun e w' => e = .returned (.int .i64 n) ∧ W = w') :
  Calls Tryz.prog 208 #[.pointer (some ⟨gs, 0, none⟩), .func (.func 181) #[] #[]] W (SPost base gm vm vs vo (m.set a (nV n)) W) := by
 obtain ⟨s0, s1, s2, s3, s4⟩ := i_cells hs
 obtain ⟨ha, hb, hc, a8, b8, c8⟩ := hn
 rw [hb] at s3
 rw [hc] at s4
 have sL := hs.lt
 have NB := Lib.hid (number_ok hs hm.mB hm.h8 b b8 h1)
 have NC := Lib.hid (number_ok hs hm.mB hm.h8 c c8 h2)
 have SN := Lib.hid (setNumber_any hs hm a ha a8 n)
 have HF := Lib.hid hf
 clear hs hm hf
 go_enter Tryz.func208, Tryz.ntmps208
 go_wp2_with (first
  | (go_at_call 161; ((with_reducible refine NB.out.mono ?_); rintro e w' ⟨rfl, rfl⟩; clear NB))
  | (go_at_call 161; ((with_reducible refine NC.out.mono ?_); rintro e w' ⟨rfl, rfl⟩; clear NC))
  | (go_at_call 181; ((with_reducible refine (HF.out _).mono ?_); rintro e w' ⟨rfl, rfl⟩))
  | (go_at_call 207; ((with_reducible refine SN.out.mono ?_); rintro e w' ⟨rfl, hm2, hf2⟩)))
 go_end0
 exact ⟨rfl, hm2, hf2⟩
theorem numbers_div {base : Nat} {W : World} {gs gm : Nat} {i : InstV} {m : MV} {vm vs vo : Value} (hs : Bk W gs 222 (scs gm i)) (hm : MS base gm vm vs vo m W) (a b c : Nat) (hn : Named i a b c) (h1 : (m.reg b).is = false) (h2 : (m.reg c).is = false) (n : Int)
  (hf : ∀ W, Calls Tryz.prog 209 #[.int .i64 (m.reg b).n, .int .i64 (m.reg c).n] W fun e w' => e = .returned (.int .i64 n) ∧ W = w') :
  Calls Tryz.prog 208 #[.pointer (some ⟨gs, 0, none⟩), .func (.func 209) #[] #[]] W (SPost base gm vm vs vo (m.set a (nV n)) W) := by
 obtain ⟨s0, s1, s2, s3, s4⟩ := i_cells hs
 obtain ⟨ha, hb, hc, a8, b8, c8⟩ := hn
 rw [hb] at s3
 rw [hc] at s4
 have sL := hs.lt
 have NB := Lib.hid (number_ok hs hm.mB hm.h8 b b8 h1)
 have NC := Lib.hid (number_ok hs hm.mB hm.h8 c c8 h2)
 have SN := Lib.hid (setNumber_any hs hm a ha a8 n)
 have HF := Lib.hid hf
 clear hs hm hf
 go_enter Tryz.func208, Tryz.ntmps208
 go_wp2_with (first
  | (go_at_call 161; ((with_reducible refine NB.out.mono ?_); rintro e w' ⟨rfl, rfl⟩; clear NB))
  | (go_at_call 161; ((with_reducible refine NC.out.mono ?_); rintro e w' ⟨rfl, rfl⟩; clear NC))
  | (go_at_call 209; ((with_reducible refine (HF.out _).mono ?_); rintro e w' ⟨rfl, rfl⟩))
  | (go_at_call 207; ((with_reducible refine SN.out.mono ?_); rintro e w' ⟨rfl, hm2, hf2⟩)))
 go_end0
 exact ⟨rfl, hm2, hf2⟩
theorem numbers_zero {base : Nat} {W : World} {gs gm : Nat} {i : InstV} {m : MV} {vm vs vo : Value} (hs : Bk W gs 222 (scs gm i)) (hm : MS base gm vm vs vo m W) (a b c : Nat) (hn : Named i a b c) (h1 : (m.reg b).is = false) (h2 : (m.reg c).is = false)
  (hf : ∀ W, Calls Tryz.prog 209 #[.int .i64 (m.reg b).n, .int .i64 (m.reg c).n] W (Thrown 14 W)) :
  Calls Tryz.prog 208 #[.pointer (some ⟨gs, 0, none⟩), .func (.func 209) #[] #[]] W (Thrown 14 W) := by
 obtain ⟨s0, s1, s2, s3, s4⟩ := i_cells hs
 obtain ⟨ha, hb, hc, a8, b8, c8⟩ := hn
 rw [hb] at s3
 rw [hc] at s4
 have sL := hs.lt
 have NB := Lib.hid (number_ok hs hm.mB hm.h8 b b8 h1)
 have NC := Lib.hid (number_ok hs hm.mB hm.h8 c c8 h2)
 have HF := Lib.hid hf
 clear hs hm hf
 go_enter Tryz.func208, Tryz.ntmps208
 go_wp2_with (first
  | (go_at_call 161; ((with_reducible refine NB.out.mono ?_); rintro e w' ⟨rfl, rfl⟩; clear NB))
  | (go_at_call 161; ((with_reducible refine NC.out.mono ?_); rintro e w' ⟨rfl, rfl⟩; clear NC))
  | (go_at_call 209; ((with_reducible refine (HF.out _).mono ?_); rintro e w' ⟨rfl, hb⟩)))
 exact ⟨rfl, Thrown.of hb⟩
theorem plain1_zero (a b : Int) (h : wrap32 b = 0) (W : World) : Calls Tryz.prog 209 #[.int .i64 a, .int .i64 b] W (Thrown 14 W) := by
 have DZ := Lib.hid (fun W => div_zero a b h W)
 clear h
 go_enter Tryz.func209, Tryz.ntmps209
 go_wp2_with (first
  | (go_at_call 183; ((with_reducible refine (DZ.out _).mono ?_); rintro e w' ⟨rfl, rfl⟩))
  | (go_at_call 159; ((with_reducible refine (must_bad 14 (by decide) _).mono ?_); rintro e w' ⟨rfl, rfl⟩)))
 exact ⟨rfl, Thrown.of (Below.refl _ _)⟩
theorem plain1_any (a b : Int) (h : wrap32 b ≠ 0) (W : World) : Calls Tryz.prog 209 #[.int .i64 a, .int .i64 b] W fun e w' => e = .returned (.int .i64 (divF a b)) ∧ W = w' := by
 have DZ := Lib.hid (fun W => div_any a b h W)
 clear h
 go_enter Tryz.func209, Tryz.ntmps209
 go_wp2_with (first
  | (go_at_call 183; ((with_reducible refine (DZ.out _).mono ?_); rintro e w' ⟨rfl, rfl⟩))
  | (go_at_call 159; ((with_reducible refine (must_ok _).mono ?_); rintro e w' ⟨rfl, rfl⟩)))
 go_ret
 exact ⟨rfl, rfl⟩
end Go.Proofs.YtpjhjefjbkjhkaaGreatDoor
