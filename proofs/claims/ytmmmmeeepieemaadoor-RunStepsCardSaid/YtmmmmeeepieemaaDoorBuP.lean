import Derived.Test.YtmmmmeeepieemaaDoorMachCopiedZ
import Derived.Test.YtmmmmeeepieemaaDoorMachEqZ
import Derived.Test.YtmmmmeeepieemaaDoorStepXZ
/- What opOf and stepped of the laws compute. -/
namespace Go.Proofs.YtmmmmeeepieemaaDoor
open Go.RowKit
set_option linter.unusedVariables false
set_option linter.unusedSimpArgs false
/-- The instruction that is next, or none. -/
def opF (m : MV) : InstV := if 0 ≤ m.c.at_ ∧ m.c.at_ < m.mem.length ∧ (m.mem.getD m.c.at_.toNat zeroV).is = false ∧ instOk (unpack (m.mem.getD m.c.at_.toNat zeroV).n) = true then unpack (m.mem.getD m.c.at_.toNat zeroV).n else ⟨-1, 0, 0, 0⟩
theorem opF_of {m : MV} {i : InstV} (h : m.fetch = .ok i) : opF m = i ∧ instOk i = true := by
  obtain ⟨_, _, _, _, _, _, h1, h2, h3, h4, h5⟩ := fetch_cases h
  subst h4
  unfold opF
  rw [if_pos ⟨h1, h2, h3, h5⟩]
  exact ⟨rfl, h5⟩
def instVal (i : InstV) : Value := .agg #[.int .i64 i.op, .int .i64 i.a, .int .i64 i.b, .int .i64 i.c]
end Go.Proofs.YtmmmmeeepieemaaDoor
/- A row that is stored into what was made just now. -/
namespace Go.Proofs.YtmmmmeeepieemaaDoor
open Go.RowKit
set_option linter.unusedVariables false
theorem setRow_alloc (w : World) (T : TypeId) (old cells : Array Value) : (w.alloc (.cells old T)).setRow w.heap.size cells = w.alloc (.cells cells T) := by
  unfold World.setRow
  show World.mk .. = World.mk ..
  congr 1
  apply Array.ext_getElem?
  intro i
  show ((w.heap.push (.cells old T)).modify w.heap.size _)[i]? = (w.heap.push (.cells cells T))[i]?
  rw [Array.getElem?_modify, Array.getElem?_push, Array.getElem?_push]
  by_cases h : i = w.heap.size
  · subst h; simp
  · rw [if_neg h, if_neg h, if_neg (fun e => h e.symm)]
theorem wpList_store_fresh {P : Program} {ops : Array Oper} {rest : List Oper} {o : Oper} {a : Act} {w0 : World} {Q : Exit → Act → World → Prop} (hgd : o.guard = none) (ty : TypeId) (x y : Operand) (ho : o.op = .store ty x y)
    (hd : o.dst = none) (cells : Array Value) (t : TypeId) (old : Array Value) (hx : a.eval x = .pointer (some ⟨w0.heap.size, 0, none⟩)) (hy : a.eval y = .agg cells)
    (hi : (P.info? ty).map (·.size) = some cells.size) (hold : old.size = cells.size) (h1 : cells.all (·.oneCell') = true)
    (h : wpList P ops Q rest a (w0.alloc (.cells cells t))) : wpList P ops Q (o :: rest) a (w0.alloc (.cells old t)) :=
  wpList_store_rowTo hgd ty x y ho hd w0.heap.size cells hx hy t old (bk_new _ _ _) hi hold h1 (by rw [setRow_alloc]; exact h)
end Go.Proofs.YtmmmmeeepieemaaDoor
/- What stepped of the laws computes. -/
namespace Go.Proofs.YtmmmmeeepieemaaDoor
open Go.RowKit
set_option linter.unusedVariables false
set_option linter.unusedSimpArgs false
def mv0 : MV := ⟨zeroR, ⟨4, 0, 1, 0, 0⟩, [nV 4212833], [], []⟩
def mv1 : MV := ⟨zeroR.set 3 (nV 9), ⟨4, 0, 1, 1, 0⟩, [nV 4212833], [], []⟩
theorem mv0_step : stepF mv0 = (mv1, 0) := by decide +kernel
set_option maxHeartbeats 4000000 in
set_option maxRecDepth 100000 in
theorem stepped_any (w : World) (ht : Tab w) : Calls Tryd.prog 10 #[] w fun e w' => e = .returned (.bool true) ∧ Below w.heap.size w w' := by
  have pk := ipack_any 1 3 0 9 w ht
  have i1 : instOk ⟨1, 3, 0, 9⟩ = true := by decide +kernel
  have i2 : packF ⟨1, 3, 0, 9⟩ = 4212833 := by decide +kernel
  rw [i1, i2] at pk
  simp only [if_true] at pk
  have sp0 : ∀ y : Later w, Calls Tryd.prog 14 #[.agg #[.bool false, .int .i64 0, .int .i64 0, .int .i64 0, .int .i64 0, .int .i64 0, .int .i64 0, .bool false, .int .i64 0, .int .i64 0, .int .i64 0, .int .i64 0, .int .i64 0, .int .i64 0, .bool false, .int .i64 0, .int .i64 0, .int .i64 0, .int .i64 0, .int .i64 0, .int .i64 0, .bool false, .int .i64 0, .int .i64 0, .int .i64 0, .int .i64 0, .int .i64 0, .int .i64 0, .bool false, .int .i64 0, .int .i64 0, .int .i64 0, .int .i64 0, .int .i64 0, .int .i64 0, .bool false, .int .i64 0, .int .i64 0, .int .i64 0, .int .i64 0, .int .i64 0, .int .i64 0, .bool false, .int .i64 0, .int .i64 0, .int .i64 0, .int .i64 0, .int .i64 0, .int .i64 0, .bool false, .int .i64 0, .int .i64 0, .int .i64 0, .int .i64 0, .int .i64 0, .int .i64 0, .int .i64 4, .int .i64 0, .int .i64 1, .int .i64 0, .int .i64 0, .slice (some ⟨y.val.heap.size, 0, none⟩) 1 1, .slice none 0 0, .slice none 0 0]] (y.val.alloc (.cells #[.bool false, .int .i64 4212833, .int .i64 0, .int .i64 0, .int .i64 0, .int .i64 0, .int .i64 0] 32)) (StRes (y.val.alloc (.cells #[.bool false, .int .i64 4212833, .int .i64 0, .int .i64 0, .int .i64 0, .int .i64 0, .int .i64 0] 32)) mv1 0) := fun y => by
    have h0 := own_lit (xs := [nV 4212833]) y.val 32 0 (Nat.zero_le _) #[.bool false, .int .i64 4212833, .int .i64 0, .int .i64 0, .int .i64 0, .int .i64 0, .int .i64 0] 1 rfl (by decide) rfl
    obtain ⟨ao, c, e, h, _⟩ := h0.sl
    injection e with e _ _
    subst e
    have hs := step_any mv0 (some ⟨y.val.heap.size, 0, none⟩) none none 1 0 0 (y.val.alloc (.cells #[.bool false, .int .i64 4212833, .int .i64 0, .int .i64 0, .int .i64 0, .int .i64 0, .int .i64 0] 32)) rfl h (Sl.nil _ _) (Sl.nil _ _) ((ht.below y.ok).below (ext_alloc (Below.refl _ _) _))
    rw [mv0_step] at hs
    exact hs
  unfold StRes at sp0
  have q := fun W => run_eql_val (nV 9) (nV 9) W
  simp only [decide_true, nV, zeroK, ValV.val] at q
  have PK := Lib.hid pk
  have SP := Lib.hid sp0
  clear pk sp0 i1 i2 ht
  go_enter Tryd.func10, Tryd.ntmps10
  go_upto_region 3 with (first
    | (go_at_call 26; ((with_reducible refine PK.out.mono ?_); rintro e w1 ⟨rfl, hb1⟩; obtain ⟨y1, rfl⟩ := later_call (Below.refl _ _) hb1; clear hb1))
    | (go_at_call 14; ((with_reducible refine (SP.out y1).mono ?_); rintro e w2 ⟨vm, vs, vo, rfl, om, os, oo, hb2⟩; have HO := Lib.hid (mcs_one (R := mv1.R) (c := mv1.c) (ownsOne om) (ownsOne os) (ownsOne oo)); have HSX := Lib.hid (show (mcs mv1.R mv1.c vm vs vo).size = 64 from mcs_size rfl); have HB2 := Lib.hid hb2; clear om os oo hb2))
    | (refine wpList_store_fresh rfl 38 (.tmp 3) (.tmp 17) rfl rfl (mcs mv1.R mv1.c vm vs vo) 38 _ rfl rfl (by rw [HSX.out]; kernel_rfl) (by rw [HSX.out]; kernel_rfl) HO.out ?_))
  have kB := bk_new w2 38 (mcs mv1.R mv1.c vm vs vo)
  have kL := kB.lt
  have c21 := (kB.cell 21).trans (show _ = some (.bool false) from rfl)
  have c22 := (kB.cell 22).trans (show _ = some (.int .i64 9) from rfl)
  have c23 := (kB.cell 23).trans (show _ = some (.int .i64 0) from rfl)
  have c24 := (kB.cell 24).trans (show _ = some (.int .i64 0) from rfl)
  have c25 := (kB.cell 25).trans (show _ = some (.int .i64 0) from rfl)
  have c26 := (kB.cell 26).trans (show _ = some (.int .i64 0) from rfl)
  have c27 := (kB.cell 27).trans (show _ = some (.int .i64 0) from rfl)
  have c59 := (kB.cell 59).trans (show _ = some (.int .i64 1) from rfl)
  clear kB
  go_wp2
  go_ret
  exact ⟨rfl, ext_alloc (ext_trans (ext_alloc y1.ok _) HB2.out) _⟩
end Go.Proofs.YtmmmmeeepieemaaDoor
/- What the laws on one step say, in plain words. -/
namespace Go.Proofs.YtmmmmeeepieemaaDoor
open Go.RowKit
set_option linter.unusedVariables false
set_option linter.unusedSimpArgs false
theorem stepF_bad {m : MV} (h : (stepF m).2 ≠ 0) : (stepF m).1 = zeroMV := by
  unfold stepF at h ⊢
  by_cases hc : m.check ≠ 0
  · rw [if_pos hc]
  · rw [if_neg hc] at h ⊢
    by_cases he : m.err ≠ 0
    · rw [if_pos he]
    · rw [if_neg he] at h; exact absurd rfl h
theorem stepF_ok {m : MV} (h8 : m.R.length = 8) (h : (stepF m).2 = 0) : m.Ok ∧ m.one = .ok (stepF m).1 ∧ ∃ i, m.fetch = .ok i ∧ Stepd i m (stepF m).1 := by
  unfold stepF at h ⊢
  by_cases hc : m.check ≠ 0
  · rw [if_pos hc] at h; exact absurd h hc
  · rw [if_neg hc] at h ⊢
    have hk : m.Ok := ⟨stepCheck_zero.1 (by simpa [MV.check] using hc), h8⟩
    by_cases he : m.err ≠ 0
    · rw [if_pos he] at h; exact absurd h he
    · rw [if_neg he]
      obtain ⟨m', hm'⟩ := err_zero.1 (by simpa using he)
      have ha : m.after = m' := by unfold MV.after; rw [hm']
      obtain ⟨i, h1, h2⟩ := one_cases hm'
      exact ⟨hk, by simp only [ha]; exact hm', i, h1, by simp only [ha]; exact h2⟩
theorem stepF_of {m m' : MV} (h : m.Ok) (ho : m.one = .ok m') : stepF m = (m', 0) := by
  have h1 : m.check = 0 := stepCheck_zero.2 h.1
  have h2 : m.err = 0 := err_zero.2 ⟨m', ho⟩
  unfold stepF
  rw [if_neg (by simp [h1]), if_neg (by simp [h2])]
  unfold MV.after
  rw [ho]
theorem stepd_goes {i : InstV} {m n : MV} (h : Stepd i m n) (h18 : i.op ≠ 18) (h19 : i.op ≠ 19) : ∃ d, n.c = { m.c with at_ := m.c.at_ + d } ∧ (d = 1 ∨ (i.op = 8 ∨ i.op = 9) ∧ d = i.c) := by
  cases h with
  | set h => exact ⟨1, rfl, .inl rfl⟩
  | store => exact ⟨1, rfl, .inl rfl⟩
  | clear => exact ⟨1, rfl, .inl rfl⟩
  | tell => exact ⟨1, rfl, .inl rfl⟩
  | jump ho h => exact ⟨i.c, rfl, .inr ⟨.inl ho, rfl⟩⟩
  | ifn ho hn hd h =>
    rename_i n d
    refine ⟨d, rfl, ?_⟩
    rw [hd]
    by_cases hz : n ≠ 0
    · rw [if_pos hz]; exact .inr ⟨.inr ho, rfl⟩
    · rw [if_neg hz]; exact .inl rfl
  | call ho => exact absurd ho h18
  | back ho => exact absurd ho h19
end Go.Proofs.YtmmmmeeepieemaaDoor
/- What the laws on one step say, in plain words: registers and cells that are of no matter. -/
namespace Go.Proofs.YtmmmmeeepieemaaDoor
open El (cl)
open Go.RowKit
set_option linter.unusedVariables false
set_option linter.unusedSimpArgs false
theorem ex_go {α β : Type} {x : Ex α} {f : α → Ex β} {a : α} (h : x = .ok a) : (x >>= f) = f a := by rw [h]; rfl
/-- An instruction that does not name a register. -/
structure Apart (i : InstV) (r : Int) : Prop where
  n18 : i.op ≠ 18
  n19 : i.op ≠ 19
  cl : i.op = 21 → i.c / (2 ^ r.toNat : Nat) % 2 ≠ 1
  a : i.op ≠ 21 → r ≠ i.a
  b : i.op ≠ 21 → r ≠ i.b
  c : (i.op = 3 ∨ i.op = 4 ∨ i.op = 5 ∨ i.op = 6 ∨ i.op = 7 ∨ i.op = 12 ∨ i.op = 13 ∨ i.op = 15 ∨ i.op = 16) → r ≠ i.c
section
variable {m n : MV} {i : InstV} {r q : Int} {v : ValV}
theorem reg_set_ne (hr : 0 ≤ r) (hq : 0 ≤ q) (h : r ≠ q) : (m.set r v).reg q = m.reg q := by
  unfold MV.reg MV.set
  simp only [List.getD_eq_getElem?_getD]
  rw [List.getElem?_set_ne (by omega)]
theorem num_set_ne (hr : 0 ≤ r) (hq : 0 ≤ q) (h : r ≠ q) : (m.set r v).num q = m.num q := by unfold MV.num; rw [reg_set_ne hr hq h]
theorem key_set_ne (hr : 0 ≤ r) (hq : 0 ≤ q) (h : r ≠ q) : (m.set r v).key q = m.key q := by unfold MV.key; rw [reg_set_ne hr hq h]
theorem set_set_ne {u : ValV} (hr : 0 ≤ r) (hq : 0 ≤ q) (h : r ≠ q) : (m.set r v).set q u = (m.set q u).set r v := by
  unfold MV.set
  simp only
  rw [List.set_comm _ _ (by omega)]
theorem clearL_set {c : Int} {l : List ValV} {k : Nat} (h : c / (2 ^ k : Nat) % 2 ≠ 1) : clearL c (l.set k v) = (clearL c l).set k v := by
  unfold clearL
  apply List.ext_getElem?
  intro j
  rw [List.getElem?_mapIdx, List.getElem?_set, List.getElem?_set, List.getElem?_mapIdx, List.length_mapIdx]
  by_cases hj : k = j
  · subst hj
    rw [if_pos rfl, if_pos rfl]
    by_cases hk : k < l.length
    · rw [if_pos hk, Option.map_some, if_neg h]
    · rw [if_neg hk]; rfl
  · rw [if_neg hj, if_neg hj]
theorem goes_set {d : Int} (h : m.goes d = .ok n) : (m.set r v).goes d = .ok (n.set r v) := by
  unfold MV.goes at h ⊢
  by_cases hc : m.c.at_ + d < 0 ∨ 400 < m.c.at_ + d
  · rw [if_pos hc] at h; cases h
  · rw [if_neg hc] at h
    rw [if_neg (show ¬ ((m.set r v).c.at_ + d < 0 ∨ 400 < (m.set r v).c.at_ + d) from hc)]
    injection h with h
    rw [← h]
    rfl
theorem set_numbers (hr : 0 ≤ r) (ha : 0 ≤ i.a) (hb : 0 ≤ i.b) (hc : 0 ≤ i.c) (na : r ≠ i.a) (nb : r ≠ i.b) (nc : r ≠ i.c) (h : m.numbers i = .ok n) : (m.set r v).numbers i = .ok (n.set r v) := by
  unfold MV.numbers at h ⊢
  rw [num_set_ne hr hb nb, num_set_ne hr hc nc]
  obtain ⟨x, hx, h⟩ := ex_bind h
  obtain ⟨y, hy, h⟩ := ex_bind h
  obtain ⟨z, hz, h⟩ := ex_bind h
  injection h with h
  rw [ex_go hx, ex_go hy, ex_go hz, ← h]
  exact congrArg Except.ok (set_set_ne hr ha na)
theorem set_ask (hr : 0 ≤ r) (ha : 0 ≤ i.a) (hb : 0 ≤ i.b) (na : r ≠ i.a) (nb : r ≠ i.b) (h : m.ask i = .ok n) : (m.set r v).ask i = .ok (n.set r v) := by
  unfold MV.ask at h ⊢
  rw [reg_set_ne hr hb nb, key_set_ne hr hb nb]
  by_cases h0 : i.c = 0
  · rw [if_pos h0] at h ⊢
    injection h with h
    rw [← h]
    exact congrArg Except.ok (set_set_ne hr ha na)
  · rw [if_neg h0] at h ⊢
    obtain ⟨k, hk, h⟩ := ex_bind h
    injection h with h
    rw [ex_go hk, ← h]
    exact congrArg Except.ok (set_set_ne hr ha na)
theorem set_tell (hr : 0 ≤ r) (ha : 0 ≤ i.a) (na : r ≠ i.a) (h : m.tell i = .ok n) : (m.set r v).tell i = .ok (n.set r v) := by
  unfold MV.tell at h ⊢
  rw [num_set_ne hr ha na]
  obtain ⟨k, hk, h⟩ := ex_bind h
  rw [ex_go hk]
  by_cases h0 : m.out.length = 100
  · rw [if_pos h0] at h; cases h
  · rw [if_neg h0] at h
    rw [if_neg (show ¬ (m.set r v).out.length = 100 from h0)]
    injection h with h
    rw [← h]
    rfl
theorem set_byKey (hr : 0 ≤ r) (ha : 0 ≤ i.a) (hb : 0 ≤ i.b) (na : r ≠ i.a) (nb : r ≠ i.b)
    (hc : i.op ≠ 10 → i.op ≠ 11 → i.op ≠ 14 → 0 ≤ i.c ∧ r ≠ i.c) (h : m.byKey i = .ok n) : (m.set r v).byKey i = .ok (n.set r v) := by
  unfold MV.byKey at h ⊢
  rw [key_set_ne hr hb nb]
  obtain ⟨k, hk, h⟩ := ex_bind h
  rw [ex_go hk]
  by_cases o1 : i.op = 10
  · rw [if_pos o1] at h ⊢
    obtain ⟨x, hx, h⟩ := ex_bind h
    injection h with h
    rw [show (m.set r v).mem = m.mem from rfl, ex_go hx, ← h]
    exact congrArg Except.ok (set_set_ne hr ha na)
  rw [if_neg o1] at h ⊢
  by_cases o2 : i.op = 11
  · rw [if_pos o2] at h ⊢
    rw [reg_set_ne hr ha na, show (m.set r v).mem = m.mem from rfl]
    by_cases hp : putE m.mem.length k i.c (m.reg i.a) ≠ 0
    · rw [if_pos hp] at h; cases h
    · rw [if_neg hp] at h ⊢
      injection h with h
      rw [← h]
      rfl
  rw [if_neg o2] at h ⊢
  by_cases o5 : i.op = 14
  · rw [if_neg (by omega), if_neg (by omega), if_pos o5] at h ⊢
    obtain ⟨x, hx, h⟩ := ex_bind h
    injection h with h
    rw [ex_go hx, ← h]
    exact congrArg Except.ok (set_set_ne hr ha na)
  obtain ⟨c0, nc⟩ := hc o1 o2 o5
  rw [num_set_ne hr c0 nc, key_set_ne hr c0 nc]
  by_cases o3 : i.op = 12
  · rw [if_pos o3] at h ⊢
    obtain ⟨x, hx, h⟩ := ex_bind h
    obtain ⟨y, hy, h⟩ := ex_bind h
    injection h with h
    rw [ex_go hx, ex_go hy, ← h]
    exact congrArg Except.ok (set_set_ne hr ha na)
  rw [if_neg o3] at h ⊢
  by_cases o4 : i.op = 13
  · rw [if_pos o4] at h ⊢
    obtain ⟨x, hx, h⟩ := ex_bind h
    obtain ⟨y, hy, h⟩ := ex_bind h
    injection h with h
    rw [ex_go hx, ex_go hy, ← h]
    exact congrArg Except.ok (set_set_ne hr ha na)
  rw [if_neg o4, if_neg o5] at h ⊢
  by_cases o6 : i.op = 15
  · rw [if_pos o6] at h ⊢
    obtain ⟨x, hx, h⟩ := ex_bind h
    obtain ⟨y, hy, h⟩ := ex_bind h
    injection h with h
    rw [ex_go hx, ex_go hy, ← h]
    exact congrArg Except.ok (set_set_ne hr ha na)
  · rw [if_neg o6] at h ⊢
    obtain ⟨x, hx, h⟩ := ex_bind h
    obtain ⟨y, hy, h⟩ := ex_bind h
    injection h with h
    rw [ex_go hx, ex_go hy, ← h]
    exact congrArg Except.ok (set_set_ne hr ha na)
theorem exec_set (hi : instOk i = true) (hr : 0 ≤ r) (hn : Apart i r) (h : m.exec i = .ok n) : (m.set r v).exec i = .ok (n.set r v) := by
  obtain ⟨a, b, hN⟩ := inst_n hi
  have ha : 0 ≤ i.a := by obtain ⟨op, a, b, c⟩ := i; exact (instOk_bd hi).2.2.1
  have hb : 0 ≤ i.b := by obtain ⟨op, a, b, c⟩ := i; exact (instOk_bd hi).2.2.2.2.1
  have hrg : (i.op = 3 ∨ i.op = 4 ∨ i.op = 5 ∨ i.op = 6 ∨ i.op = 7 ∨ i.op = 12 ∨ i.op = 13 ∨ i.op = 15 ∨ i.op = 16) → 0 ≤ i.c := fun ho => by obtain ⟨c, h, _⟩ := inst_reg hi ho; omega
  have hop : 0 ≤ i.op ∧ i.op < 23 := by obtain ⟨op, a, b, c⟩ := i; exact ⟨(instOk_bd hi).1, (instOk_bd hi).2.1⟩
  unfold MV.exec at h ⊢
  by_cases o0 : i.op = 0
  · rw [if_pos o0] at h; cases h
  rw [if_neg o0] at h ⊢
  by_cases o8 : i.op = 8
  · rw [if_pos o8] at h ⊢; exact goes_set h
  rw [if_neg o8] at h ⊢
  by_cases o9 : i.op = 9
  · rw [if_pos o9] at h ⊢
    obtain ⟨x, hx, h⟩ := ex_bind h
    rw [num_set_ne hr ha (hn.a (by omega)), ex_go hx]
    exact goes_set h
  rw [if_neg o9, if_neg hn.n18, if_neg hn.n19] at h ⊢
  obtain ⟨p, hp, h⟩ := ex_bind h
  injection h with h
  have hq : (m.set r v).plain i = .ok (p.set r v) := by
    unfold MV.plain at hp ⊢
    by_cases p21 : i.op = 21
    · have e : ¬ i.op = 1 ∧ ¬ i.op = 2 ∧ ¬ (i.op = 3 ∨ i.op = 4 ∨ i.op = 5 ∨ i.op = 7 ∨ i.op = 6) ∧ ¬ i.op = 17 ∧ ¬ i.op = 20 := by omega
      rw [if_neg e.1, if_neg e.2.1, if_neg e.2.2.1, if_neg e.2.2.2.1, if_neg e.2.2.2.2, if_pos p21] at hp ⊢
      injection hp with hp
      rw [← hp]
      unfold MV.set
      simp only
      rw [clearL_set (hn.cl p21)]
    have na := hn.a p21
    have nb := hn.b p21
    by_cases p1 : i.op = 1
    · rw [if_pos p1] at hp ⊢
      injection hp with hp
      rw [← hp]
      exact congrArg Except.ok (set_set_ne hr ha na)
    rw [if_neg p1] at hp ⊢
    by_cases p2 : i.op = 2
    · rw [if_pos p2] at hp ⊢
      injection hp with hp
      rw [reg_set_ne hr hb nb, ← hp]
      exact congrArg Except.ok (set_set_ne hr ha na)
    rw [if_neg p2] at hp ⊢
    by_cases p3 : i.op = 3 ∨ i.op = 4 ∨ i.op = 5 ∨ i.op = 7 ∨ i.op = 6
    · rw [if_pos p3] at hp ⊢
      exact set_numbers hr ha hb (hrg (by omega)) na nb (hn.c (by omega)) hp
    rw [if_neg p3] at hp ⊢
    by_cases p17 : i.op = 17
    · rw [if_pos p17] at hp ⊢
      exact set_ask hr ha hb na nb hp
    rw [if_neg p17] at hp ⊢
    by_cases p20 : i.op = 20
    · rw [if_pos p20] at hp ⊢
      injection hp with hp
      rw [← hp]
      exact congrArg Except.ok (set_set_ne hr ha na)
    rw [if_neg p20, if_neg p21] at hp ⊢
    by_cases p22 : i.op = 22
    · rw [if_pos p22] at hp ⊢
      exact set_tell hr ha na hp
    rw [if_neg p22] at hp ⊢
    have n18 := hn.n18
    have n19 := hn.n19
    exact set_byKey hr ha hb na nb (fun o1 o2 o3 => ⟨hrg (by omega), hn.c (by omega)⟩) hp
  rw [ex_go hq, ← h]
  rfl
theorem one_set (h : m.one = .ok n) (hf : m.fetch = .ok i) (hi : instOk i = true) (hr : 0 ≤ r) (hn : Apart i r) : (m.set r v).one = .ok (n.set r v) := by
  unfold MV.one at h ⊢
  rw [ex_go hf] at h
  rw [show (m.set r v).fetch = m.fetch from rfl, ex_go hf]
  exact exec_set hi hr hn h
end
end Go.Proofs.YtmmmmeeepieemaaDoor
/- What the laws on one step say, in plain words: cells that are of no matter. -/
namespace Go.Proofs.YtmmmmeeepieemaaDoor
open Go.RowKit
set_option linter.unusedVariables false
set_option linter.unusedSimpArgs false
/-- Another value in a cell. -/
def MV.put (m : MV) (j : Nat) (x : ValV) : MV := { m with mem := m.mem.set j x }
section
variable {m n : MV} {i : InstV} {j : Nat} {x : ValV}
theorem getD_set_ne {l : List ValV} {k j : Nat} (h : j ≠ k) : (l.set j x).getD k zeroV = l.getD k zeroV := by
  simp only [List.getD_eq_getElem?_getD]
  rw [List.getElem?_set_ne h]
theorem fetch_put (h : m.fetch = .ok i) (hj : (j : Int) ≠ m.c.at_) : (m.put j x).fetch = .ok i := by
  have h0 := (fetch_cases h).1
  obtain ⟨h1, h2, h3⟩ := atF_val h0
  rw [← h]
  unfold MV.fetch MV.put
  simp only [List.length_set]
  rw [h1, getD_set_ne (by omega)]
theorem getF_put {k : KeyV} {off : Int} {v : ValV} (h : getF m.mem k off = (v, 0)) (hj : (j : Int) ≠ k.at_ + off) : getF (m.mem.set j x) k off = (v, 0) := by
  by_cases h0 : (atF m.mem.length k off 1).2 = 0
  · obtain ⟨_, h2, _⟩ := atF_val h0
    obtain ⟨p, hp⟩ := Int.eq_ofNat_of_zero_le h2
    rw [getF_ok h0 hp] at h
    rw [getF_ok (by rw [List.length_set]; exact h0) hp, getD_set_ne (by omega)]
    exact h
  · rw [getF_err h0] at h
    injection h with _ h
    exact absurd h h0
theorem storeM_put {k : KeyV} {off : Int} {v : ValV} (h0 : 0 ≤ k.at_ + off) (hj : (j : Int) ≠ k.at_ + off) : storeM (m.mem.set j x) k off v = (storeM m.mem k off v).set j x := by
  unfold storeM
  rw [List.set_comm _ _ (by omega)]
theorem goes_put {d : Int} (h : m.goes d = .ok n) : (m.put j x).goes d = .ok (n.put j x) := by
  unfold MV.goes at h ⊢
  by_cases hc : m.c.at_ + d < 0 ∨ 400 < m.c.at_ + d
  · rw [if_pos hc] at h; cases h
  · rw [if_neg hc] at h
    rw [if_neg (show ¬ ((m.put j x).c.at_ + d < 0 ∨ 400 < (m.put j x).c.at_ + d) from hc)]
    injection h with h
    rw [← h]
    rfl
theorem put_num (q : Int) : (m.put j x).num q = m.num q := rfl
theorem put_key (q : Int) : (m.put j x).key q = m.key q := rfl
theorem put_reg (q : Int) : (m.put j x).reg q = m.reg q := rfl
theorem put_byKey (hk : i.op = 10 ∨ i.op = 11 → ∀ k, m.key i.b = .ok k → (j : Int) ≠ k.at_ + i.c) (h : m.byKey i = .ok n) : (m.put j x).byKey i = .ok (n.put j x) := by
  unfold MV.byKey at h ⊢
  simp only [put_num, put_key]
  obtain ⟨k, hk1, h⟩ := ex_bind h
  rw [ex_go hk1]
  by_cases o1 : i.op = 10
  · rw [if_pos o1] at h ⊢
    obtain ⟨y, hy, h⟩ := ex_bind h
    injection h with h
    have hg := getF_put (x := x) (resE_ok hy) (hk (.inl o1) k hk1)
    rw [show (m.put j x).mem = m.mem.set j x from rfl, hg, ex_go (show resE (y, (0 : Int)) = .ok y from rfl), ← h]
    rfl
  rw [if_neg o1] at h ⊢
  by_cases o2 : i.op = 11
  · rw [if_pos o2] at h ⊢
    have hl : (m.put j x).mem.length = m.mem.length := by unfold MV.put; simp only [List.length_set]
    by_cases hp : putE m.mem.length k i.c (m.reg i.a) ≠ 0
    · rw [if_pos hp] at h; cases h
    · rw [if_neg hp] at h
      rw [if_neg (show ¬ putE (m.put j x).mem.length k i.c ((m.put j x).reg i.a) ≠ 0 by rw [hl]; exact hp), show storeM (m.put j x).mem k i.c ((m.put j x).reg i.a) = storeM (m.mem.set j x) k i.c (m.reg i.a) from rfl]
      injection h with h
      have h0 : (atF m.mem.length k i.c 2).2 = 0 := by
        by_cases h0 : (atF m.mem.length k i.c 2).2 = 0
        · exact h0
        · rw [putE_err h0] at hp; exact absurd h0 hp
      rw [storeM_put (atF_val h0).2.1 (hk (.inr o2) k hk1), ← h]
      rfl
  rw [if_neg o2] at h ⊢
  by_cases o3 : i.op = 12
  · rw [if_pos o3] at h ⊢
    obtain ⟨y, hy, h⟩ := ex_bind h
    obtain ⟨z, hz, h⟩ := ex_bind h
    injection h with h
    rw [ex_go hy, ex_go hz, ← h]
    rfl
  rw [if_neg o3] at h ⊢
  by_cases o4 : i.op = 13
  · rw [if_pos o4] at h ⊢
    obtain ⟨y, hy, h⟩ := ex_bind h
    obtain ⟨z, hz, h⟩ := ex_bind h
    injection h with h
    rw [ex_go hy, ex_go hz, ← h]
    rfl
  rw [if_neg o4] at h ⊢
  by_cases o5 : i.op = 14
  · rw [if_pos o5] at h ⊢
    obtain ⟨y, hy, h⟩ := ex_bind h
    injection h with h
    rw [ex_go hy, ← h]
    rfl
  rw [if_neg o5] at h ⊢
  by_cases o6 : i.op = 15
  · rw [if_pos o6] at h ⊢
    obtain ⟨y, hy, h⟩ := ex_bind h
    obtain ⟨z, hz, h⟩ := ex_bind h
    injection h with h
    rw [ex_go hy, ex_go hz, ← h]
    rfl
  · rw [if_neg o6] at h ⊢
    obtain ⟨y, hy, h⟩ := ex_bind h
    obtain ⟨z, hz, h⟩ := ex_bind h
    injection h with h
    rw [ex_go hy, ex_go hz, ← h]
    rfl
theorem exec_put (hk : i.op = 10 ∨ i.op = 11 → ∀ k, m.key i.b = .ok k → (j : Int) ≠ k.at_ + i.c) (h : m.exec i = .ok n) : (m.put j x).exec i = .ok (n.put j x) := by
  unfold MV.exec at h ⊢
  by_cases o0 : i.op = 0
  · rw [if_pos o0] at h; cases h
  rw [if_neg o0] at h ⊢
  by_cases o8 : i.op = 8
  · rw [if_pos o8] at h ⊢; exact goes_put h
  rw [if_neg o8] at h ⊢
  by_cases o9 : i.op = 9
  · rw [if_pos o9] at h ⊢
    obtain ⟨y, hy, h⟩ := ex_bind h
    rw [put_num, ex_go hy]
    exact goes_put h
  rw [if_neg o9] at h ⊢
  by_cases o18 : i.op = 18
  · rw [if_pos o18] at h ⊢
    unfold MV.call at h ⊢
    simp only [put_key]
    obtain ⟨a, ha, h⟩ := ex_bind h
    obtain ⟨b, hb, h⟩ := ex_bind h
    rw [ex_go ha, ex_go hb]
    by_cases c1 : a.seal_ = 0 ∨ a.seal_ ≠ b.seal_
    · rw [if_pos c1] at h; cases h
    rw [if_neg c1] at h ⊢
    by_cases c2 : andI a.perm 4 = 0 ∨ andI b.perm 4 ≠ 0
    · rw [if_pos c2] at h; cases h
    rw [if_neg c2] at h ⊢
    by_cases c3 : m.stk.length = 16
    · rw [if_pos c3] at h; cases h
    rw [if_neg c3] at h
    rw [if_neg (show ¬ (m.put j x).stk.length = 16 from c3)]
    injection h with h
    rw [← h]
    rfl
  rw [if_neg o18] at h ⊢
  by_cases o19 : i.op = 19
  · rw [if_pos o19] at h ⊢
    unfold MV.back at h ⊢
    rw [show (m.put j x).stk = m.stk from rfl]
    cases hl : m.stk.getLast? with
    | none => rw [hl] at h; cases h
    | some f =>
      rw [hl] at h
      simp only at h ⊢
      injection h with h
      rw [← h]
      rfl
  rw [if_neg o19] at h ⊢
  obtain ⟨p, hp, h⟩ := ex_bind h
  injection h with h
  have hq : (m.put j x).plain i = .ok (p.put j x) := by
    unfold MV.plain at hp ⊢
    by_cases p1 : i.op = 1
    · rw [if_pos p1] at hp ⊢; injection hp with hp; rw [← hp]; rfl
    rw [if_neg p1] at hp ⊢
    by_cases p2 : i.op = 2
    · rw [if_pos p2] at hp ⊢; injection hp with hp; rw [← hp]; rfl
    rw [if_neg p2] at hp ⊢
    by_cases p3 : i.op = 3 ∨ i.op = 4 ∨ i.op = 5 ∨ i.op = 7 ∨ i.op = 6
    · rw [if_pos p3] at hp ⊢
      unfold MV.numbers at hp ⊢
      simp only [put_num]
      obtain ⟨a, ha, hp⟩ := ex_bind hp
      obtain ⟨b, hb, hp⟩ := ex_bind hp
      obtain ⟨c, hc, hp⟩ := ex_bind hp
      injection hp with hp
      rw [ex_go ha, ex_go hb, ex_go hc, ← hp]
      rfl
    rw [if_neg p3] at hp ⊢
    by_cases p17 : i.op = 17
    · rw [if_pos p17] at hp ⊢
      unfold MV.ask at hp ⊢
      simp only [put_key, put_reg]
      by_cases h0 : i.c = 0
      · rw [if_pos h0] at hp ⊢; injection hp with hp; rw [← hp]; rfl
      · rw [if_neg h0] at hp ⊢
        obtain ⟨a, ha, hp⟩ := ex_bind hp
        injection hp with hp
        rw [ex_go ha, ← hp]
        rfl
    rw [if_neg p17] at hp ⊢
    by_cases p20 : i.op = 20
    · rw [if_pos p20] at hp ⊢; injection hp with hp; rw [← hp]; rfl
    rw [if_neg p20] at hp ⊢
    by_cases p21 : i.op = 21
    · rw [if_pos p21] at hp ⊢; injection hp with hp; rw [← hp]; rfl
    rw [if_neg p21] at hp ⊢
    by_cases p22 : i.op = 22
    · rw [if_pos p22] at hp ⊢
      unfold MV.tell at hp ⊢
      simp only [put_num]
      obtain ⟨a, ha, hp⟩ := ex_bind hp
      rw [ex_go ha]
      by_cases h0 : m.out.length = 100
      · rw [if_pos h0] at hp; cases hp
      · rw [if_neg h0] at hp
        rw [if_neg (show ¬ (m.put j x).out.length = 100 from h0)]
        injection hp with hp
        rw [← hp]
        rfl
    rw [if_neg p22] at hp ⊢
    exact put_byKey hk hp
  rw [ex_go hq, ← h]
  rfl
theorem one_put (h : m.one = .ok n) (hf : m.fetch = .ok i) (hj : (j : Int) ≠ m.c.at_) (hk : i.op = 10 ∨ i.op = 11 → ∀ k, m.key i.b = .ok k → (j : Int) ≠ k.at_ + i.c) : (m.put j x).one = .ok (n.put j x) := by
  unfold MV.one at h ⊢
  rw [ex_go hf] at h
  rw [ex_go (fetch_put hf hj)]
  exact exec_put hk h
theorem put_ok (h : m.Ok) (hx : x.Ok) : (m.put j x).Ok := by
  obtain ⟨⟨r, c, ml, mo, sl, so, ol, oo⟩, h8⟩ := h
  refine ⟨⟨r, c, by unfold MV.put; simp only [List.length_set]; exact ml, fun v hv => ?_, sl, so, ol, oo⟩, h8⟩
  rcases mem_set hv with h | rfl
  · exact mo v h
  · exact hx
theorem set_ok {r : Int} (h : m.Ok) (hx : x.Ok) : (m.set r x).Ok := by
  obtain ⟨⟨rr, c, ml, mo, sl, so, ol, oo⟩, h8⟩ := h
  refine ⟨⟨fun v hv => ?_, c, ml, mo, sl, so, ol, oo⟩, by unfold MV.set; simp only [List.length_set]; exact h8⟩
  rcases mem_set hv with h | rfl
  · exact rr v h
  · exact hx
end
theorem stepd_mem_len {i : InstV} {m n : MV} (h : Stepd i m n) : n.mem.length = m.mem.length := by
  cases h <;> first | rfl | (simp [MV.fwd, storeM])
end Go.Proofs.YtmmmmeeepieemaaDoor
/- What the laws on one step say, in plain words: how little a step changes. -/
namespace Go.Proofs.YtmmmmeeepieemaaDoor
open Go.RowKit
set_option linter.unusedVariables false
set_option linter.unusedSimpArgs false
theorem few_out {i : InstV} {m n : MV} (h : Stepd i m n) : n.out = m.out ∨ ∃ x, n.out = m.out ++ [x] := by
  cases h with
  | tell ho hn h => exact .inr ⟨_, rfl⟩
  | _ => exact .inl rfl
theorem few_mem {i : InstV} {m n : MV} (h : Stepd i m n) {j : Nat} (hj : j < m.mem.length) (hne : n.mem.getD j zeroV ≠ m.mem.getD j zeroV) :
    i.op = 11 ∧ (m.reg i.b).is = true ∧ covB (m.reg i.b).k.base (m.reg i.b).k.len j = true ∧ andI (m.reg i.b).k.perm 2 ≠ 0 ∧ (j : Int) = (m.reg i.b).k.at_ + i.c ∧ n.mem.getD j zeroV = m.reg i.a := by
  cases h with
  | store ho hk h =>
    rename_i k
    obtain ⟨h1, h2⟩ := key_ok hk
    have h0 : (atF m.mem.length k i.c 2).2 = 0 := by
      by_cases h0 : (atF m.mem.length k i.c 2).2 = 0
      · exact h0
      · rw [putE_err h0] at h; exact absurd h h0
    obtain ⟨a1, a2, a3, a4, a5, a6, a7⟩ := atF_ok.1 h0
    have hb := (covB_iff.1 a6).1
    have hp := a1.b0
    have hjk : (j : Int) = k.at_ + i.c := by
      by_cases e : (j : Int) = k.at_ + i.c
      · exact e
      · exact absurd (show (storeM m.mem k i.c (m.reg i.a)).getD j zeroV = m.mem.getD j zeroV by unfold storeM; exact getD_set_ne (by omega)) hne
    subst h2
    refine ⟨ho, h1, by rw [hjk]; exact a6, a3, hjk, ?_⟩
    show (storeM m.mem _ i.c (m.reg i.a)).getD j zeroV = _
    unfold storeM
    rw [← hjk, Int.toNat_natCast, List.getD_eq_getElem?_getD, List.getElem?_set_self hj]
    rfl
  | _ => exact absurd rfl hne
theorem few_regs {i : InstV} {m n : MV} (h : Stepd i m n) (ho : i.op ≠ 21) : ∃ r : Nat, ∀ q : Nat, q ≠ r → n.R[q]? = m.R[q]? := by
  cases h with
  | set hv => exact ⟨i.a.toNat, fun q hq => List.getElem?_set_ne (fun e => hq e.symm)⟩
  | clear h => exact absurd h ho
  | call => exact ⟨7, fun q hq => List.getElem?_set_ne (fun e => hq e.symm)⟩
  | back => exact ⟨7, fun q hq => List.getElem?_set_ne (fun e => hq e.symm)⟩
  | _ => exact ⟨0, fun q hq => rfl⟩
/-- How many of the first k are not the same. -/
def diffs (xs ys : List ValV) : Nat → Nat
  | 0 => 0
  | k + 1 => diffs xs ys k + (if xs[k]? = ys[k]? then 0 else 1)
theorem diffs_le {xs ys : List ValV} {r : Nat} (h : ∀ q : Nat, q ≠ r → xs[q]? = ys[q]?) (k : Nat) : diffs xs ys k ≤ (if r < k then 1 else 0) := by
  induction k with
  | zero => simp [diffs]
  | succ k ih =>
    unfold diffs
    by_cases hk : k = r
    · subst hk
      have e : (if k < k then 1 else 0) = 0 := if_neg (Nat.lt_irrefl k)
      have e2 : (if k < k + 1 then 1 else 0) = 1 := if_pos (Nat.lt_succ_self k)
      have e3 : (if xs[k]? = ys[k]? then 0 else 1) ≤ 1 := by split <;> omega
      rw [e] at ih
      rw [e2]
      omega
    · rw [if_pos (h k hk)]
      by_cases hr : r < k
      · have e : (if r < k then 1 else 0) = 1 := if_pos hr
        have e2 : (if r < k + 1 then 1 else 0) = 1 := if_pos (show r < k + 1 by omega)
        rw [e] at ih; rw [e2]; omega
      · have e : (if r < k then 1 else 0) = 0 := if_neg hr
        rw [e] at ih; omega
end Go.Proofs.YtmmmmeeepieemaaDoor
