import Derived.Test.YtmffdgeebhpacaaDoorBuE
import Derived.Test.YtmffdgeebhpacaaDoorBuP
import Derived.Test.YtmffdgeebhpacaaDoorBuR
import Derived.Test.YtmffdgeebhpacaaDoorBuS
import Derived.Test.YtmffdgeebhpacaaDoorKeysLawZ
/- What steps can do to what one comes to: plain data. -/
namespace Go.Proofs.YtmffdgeebhpacaaDoor
open Go.RowKit
set_option linter.unusedVariables false
theorem bit_pow (k i : Nat) (hk : k < 64) : (bv ((2 ^ k : Nat) : Int)).getLsbD i = decide (i = k) := by
  have e : bv ((2 ^ k : Nat) : Int) = BitVec.ofNat 64 (2 ^ k) := by unfold bv; exact BitVec.ofInt_natCast 64 _
  rw [e, BitVec.getLsbD_ofNat, Nat.testBit_two_pow]
  by_cases h : i = k
  · subst h; simp [hk]
  · have : ¬ k = i := fun e => h e.symm
    simp [h, this]
theorem bit_and {p : Int} (k : Nat) (hk : k < 64) (h : andI p ((2 ^ k : Nat) : Int) ≠ 0) : (bv p).getLsbD k = true := by
  cases hb : (bv p).getLsbD k
  · exfalso
    apply h
    unfold andI
    rw [toInt_zero]
    apply BitVec.eq_of_getLsbD_eq
    intro i hi
    rw [BitVec.getLsbD_and, bit_pow k i hk]
    by_cases e : i = k
    · subst e; simp [hb]
    · simp [e]
  · rfl
theorem bits9 : ∀ i : Nat, (bv 9).getLsbD i = true → i = 0 ∨ i = 3 := by
  intro i hi
  have hl : i < 64 := by
    rcases Nat.lt_or_ge i 64 with h | h
    · exact h
    · rw [BitVec.getLsbD_of_ge _ _ h] at hi; cases hi
  have : ∀ i : Fin 64, (bv 9).getLsbD i.val = true → i.val = 0 ∨ i.val = 3 := by decide
  exact this ⟨i, hl⟩ hi
theorem within9 {p : Int} (h1 : andI p 1 ≠ 0) (h8 : andI p 8 ≠ 0) : withinB 9 p = true := by
  rw [withinB_iff]
  intro i hi
  rcases bits9 i hi with rfl | rfl
  · exact bit_and 0 (by decide) h1
  · exact bit_and 3 (by decide) h8
theorem within2 {p : Int} (h : andI p 2 ≠ 0) : withinB 2 p = true := by
  rw [withinB_iff]
  intro i hi
  rw [show (2 : Int) = ((2 ^ 1 : Nat) : Int) from rfl, bit_pow 1 i (by decide)] at hi
  rw [of_decide_eq_true hi]
  exact bit_and 1 (by decide) h
/-- A key that is no more than one of some others. -/
def DomT (G : KeyV → Prop) (k : KeyV) : Prop := ∃ g, G g ∧ lessP k g
def DomV (G : KeyV → Prop) (v : ValV) : Prop := v.is = true → DomT G v.k
def hitT (G : KeyV → Prop) (p : Int) (j : Nat) : Prop := ∃ g, G g ∧ withinB p g.perm = true ∧ covB g.base g.len j = true
/-- What holds all the time: each key is no more than one of those at first; a cell that none allows to store is as it was. -/
structure Safe (G : KeyV → Prop) (m0 : List ValV) (m : MV) : Prop where
  regs : ∀ v ∈ m.R, DomV G v
  code : DomT G m.c
  stk : ∀ f ∈ m.stk, DomT G f.code ∧ DomV G f.data
  len : m.mem.length = m0.length
  mem : ∀ j : Nat, m.mem.getD j zeroV = m0.getD j zeroV ∨ (hitT G 2 j ∧ DomV G (m.mem.getD j zeroV))
/-- Those at first are all that one comes to by them. -/
def Whole (G : KeyV → Prop) (m0 : List ValV) : Prop := ∀ g, G g → withinB 9 g.perm = true → ∀ j : Nat, covB g.base g.len j = true → j < m0.length → (m0.getD j zeroV).is = true → G (m0.getD j zeroV).k
section
variable {G : KeyV → Prop} {m0 : List ValV} {m n : MV} {i : InstV} {k q : KeyV}
theorem DomT.at (h : DomT G k) (x : Int) : DomT G { k with at_ := x } := by
  obtain ⟨g, h1, h2⟩ := h
  exact ⟨g, h1, h2⟩
theorem DomT.bare (h : DomT G k) : DomT G (bareK k) := by
  obtain ⟨g, h1, h2⟩ := h
  exact ⟨g, h1, h2⟩
theorem DomT.less (h : DomT G k) (hl : lessP q k) (h0 : 0 ≤ q.len) : DomT G q := by
  obtain ⟨g, h1, h2⟩ := h
  exact ⟨g, h1, lessP_trans hl h2 h0⟩
theorem DomV.num (n : Int) : DomV G (nV n) := fun h => by cases h
theorem DomV.zero : DomV G zeroV := fun h => by cases h
theorem DomV.key (h : DomT G k) : DomV G (kV k) := fun _ => h
theorem Safe.reg (h : Safe G m0 m) (r : Int) : DomV G (m.reg r) := by
  unfold MV.reg
  rw [List.getD_eq_getElem?_getD]
  cases hr : m.R[r.toNat]? with
  | none => exact DomV.zero
  | some v => exact h.regs v (List.mem_of_getElem? hr)
theorem Safe.key (h : Safe G m0 m) {r : Int} (hk : m.key r = .ok k) : DomT G k := by
  obtain ⟨h1, rfl⟩ := key_ok hk
  exact h.reg r h1
theorem Safe.set (h : Safe G m0 m) (r : Int) {v : ValV} (hv : DomV G v) : Safe G m0 (m.set r v) :=
  ⟨fun u hu => by
    rcases List.mem_or_eq_of_mem_set hu with hu | rfl
    · exact h.regs u hu
    · exact hv, h.code, h.stk, h.len, h.mem⟩
theorem Safe.fwd (h : Safe G m0 m) (d : Int) : Safe G m0 (m.fwd d) := ⟨h.regs, h.code.at _, h.stk, h.len, h.mem⟩
theorem keyStep_dom (hs : KeyStep i m k q) (h : DomT G k) : DomT G q := by
  cases hs with
  | mvK ho hn hq => have := move_less (k := k) (n := _) (by rw [hq]); rw [hq] at this; exact h.less this.2.2.2 this.1.l0
  | nwK ho hn hq => have := narrow_less (k := k) (n := _) (by rw [hq]); rw [hq] at this; exact h.less this.2.2.2 this.1.l0
  | drK ho hq => have := drop_less (k := k) (n := _) (by rw [hq]); rw [hq] at this; exact h.less this.2.2.2 this.1.l0
  | slK ho hn hq => have := seal_less (k := k) (c := _) (by rw [hq]); rw [hq] at this; exact h.less this.2.2.2 this.1.l0
  | opK ho hn hq => have := open_less (k := k) (c := _) (by rw [hq]); rw [hq] at this; exact h.less this.2.2 this.1.l0
theorem cov_less (hl : lessP q k) {x : Int} (hc : covB q.base q.len x = true) : covB k.base k.len x = true := by
  rw [covB_iff] at hc ⊢
  rcases hl.1 with h | h <;> omega
theorem getF_dom (hG : Whole G m0) (h : Safe G m0 m) (hk : DomT G k) {off : Int} {v : ValV} (hg : getF m.mem k off = (v, 0)) : DomV G v := by
  have h1 : (atF m.mem.length k off 1).2 = 0 := by
    by_cases e : (atF m.mem.length k off 1).2 = 0
    · exact e
    · simp only [getF] at hg
      rw [if_pos e] at hg
      injection hg with _ hg
  obtain ⟨a1, a2, a3, a4, a5, a6, a7⟩ := atF_ok.1 h1
  have hb := (covB_iff.1 a6).1
  have hp := a1.b0
  obtain ⟨j, hj⟩ := Int.eq_ofNat_of_zero_le (show 0 ≤ k.at_ + off by omega)
  rw [getF_ok h1 hj] at hg
  by_cases hc : (m.mem.getD j zeroV).is = true ∧ andI k.perm 8 = 0
  · rw [if_pos hc] at hg
    injection hg with hg
    rw [← hg]
    exact DomV.zero
  · rw [if_neg hc] at hg
    injection hg with hg
    rw [← hg]
    rcases h.mem j with e | ⟨_, e⟩
    · intro hi
      obtain ⟨g, g1, g2⟩ := hk
      have h8 : andI k.perm 8 ≠ 0 := fun e8 => hc ⟨hi, e8⟩
      rw [e] at hi ⊢
      refine ⟨_, hG g g1 (withinB_trans (within9 a3 h8) g2.2) j ?_ ?_ hi, lessP_refl _⟩
      · have := cov_less g2 a6; rwa [hj] at this
      · have := h.len; omega
    · exact e
theorem setV_dom (hG : Whole G m0) (h : Safe G m0 m) {v : ValV} (hs : SetV i m v) : DomV G v := by
  cases hs with
  | set ho => exact DomV.num _
  | copy ho => exact h.reg _
  | nums ho hb hc hn => exact DomV.num _
  | ask0 ho hc => exact DomV.num _
  | ask ho hc hk => exact DomV.num _
  | here ho => exact DomV.key h.code
  | load ho hk hg => exact getF_dom hG h (h.key hk) hg
  | key hk hs => exact DomV.key (keyStep_dom hs (h.key hk))
theorem Safe.step (hG : Whole G m0) (h : Safe G m0 m) (hs : Stepd i m n) : Safe G m0 n := by
  cases hs with
  | set hv => exact (h.set _ (setV_dom hG h hv)).fwd 1
  | store ho hk hp =>
    rename_i k
    have h0 : (atF m.mem.length k i.c 2).2 = 0 := by
      by_cases h0 : (atF m.mem.length k i.c 2).2 = 0
      · exact h0
      · rw [putE_err h0] at hp; exact absurd hp h0
    obtain ⟨a1, a2, a3, a4, a5, a6, a7⟩ := atF_ok.1 h0
    have hb := (covB_iff.1 a6).1
    have hp0 := a1.b0
    obtain ⟨j, hj⟩ := Int.eq_ofNat_of_zero_le (show 0 ≤ k.at_ + i.c by omega)
    obtain ⟨g, g1, g2⟩ := h.key hk
    refine Safe.fwd (m := { m with mem := storeM m.mem k i.c (m.reg i.a) }) ⟨h.regs, h.code, h.stk, ?_, fun l => ?_⟩ 1
    · show (storeM m.mem k i.c (m.reg i.a)).length = m0.length
      unfold storeM
      rw [List.length_set]; exact h.len
    · show (storeM m.mem k i.c (m.reg i.a)).getD l zeroV = _ ∨ _
      unfold storeM
      rw [hj, Int.toNat_natCast]
      by_cases e : j = l
      · subst e
        refine .inr ⟨⟨g, g1, withinB_trans (within2 a3) g2.2, ?_⟩, ?_⟩
        · have := cov_less g2 a6; rwa [hj] at this
        · show DomV G ((m.mem.set j (m.reg i.a)).getD j zeroV)
          rw [List.getD_eq_getElem?_getD, List.getElem?_set_self (by omega)]
          exact h.reg _
      · have e2 : (m.mem.set j (m.reg i.a)).getD l zeroV = m.mem.getD l zeroV := by
          rw [List.getD_eq_getElem?_getD, List.getD_eq_getElem?_getD, List.getElem?_set_ne e]
        show (m.mem.set j (m.reg i.a)).getD l zeroV = _ ∨ (hitT G 2 l ∧ DomV G ((m.mem.set j (m.reg i.a)).getD l zeroV))
        rw [e2]
        exact h.mem l
  | clear ho =>
    refine Safe.fwd (m := { m with R := clearL i.c m.R }) ⟨fun v hv => ?_, h.code, h.stk, h.len, h.mem⟩ 1
    simp only [clearL, List.mem_mapIdx] at hv
    obtain ⟨r, hr, rfl⟩ := hv
    split
    · exact DomV.zero
    · exact h.regs _ (List.getElem_mem hr)
  | tell ho hn hl => rename_i x; exact Safe.fwd (m := { m with out := m.out ++ [x] }) ⟨h.regs, h.code, h.stk, h.len, h.mem⟩ 1
  | jump ho hn => exact h.fwd _
  | ifn ho hn hd hx => exact h.fwd _
  | call ho ha hb h1 h2 h3 h4 h5 =>
    refine ⟨fun v hv => ?_, (h.key ha).bare, fun f hf => ?_, h.len, h.mem⟩
    · rcases List.mem_or_eq_of_mem_set hv with hv | rfl
      · exact h.regs v hv
      · exact DomV.key (h.key hb).bare
    · rcases List.mem_append.1 hf with hf | hf
      · exact h.stk f hf
      · rw [List.mem_singleton.1 hf]
        exact ⟨h.code.at _, h.reg _⟩
  | back ho hb =>
    rename_i s f
    have hf := h.stk f (by rw [hb]; simp)
    refine ⟨fun v hv => ?_, hf.1, fun f' hf' => h.stk f' (by rw [hb]; exact List.mem_append_left _ hf'), h.len, h.mem⟩
    rcases List.mem_or_eq_of_mem_set hv with hv | rfl
    · exact h.regs v hv
    · exact hf.2
theorem Safe.one (hG : Whole G m0) (h : Safe G m0 m) (ho : m.one = .ok n) : Safe G m0 n := by
  obtain ⟨i, _, hs⟩ := one_cases ho
  exact h.step hG hs
theorem Safe.run (hG : Whole G m0) (f : Nat) : ∀ m : MV, Safe G m0 m → Safe G m0 (m.run f).1 := by
  induction f with
  | zero => intro m h; exact h
  | succ f ih =>
    intro m h
    cases ho : m.one with
    | ok n => rw [run_ok ho]; exact ih n (h.one hG ho)
    | error e => rw [run_er ho]; exact h
end
/-- All that one comes to at first. -/
def allK (m : MV) (k : KeyV) : Prop := Rch true m.mem (rootsP true m.R m.c m.stk) k
theorem allK_whole (m : MV) : Whole (allK m) m.mem := fun g hg h9 j hc hj hi => by
  refine .next hg ⟨?_, j, ?_, ?_, hj, hi, rfl⟩
  · unfold opensB countsB
    rw [h9]; rfl
  · exact (covB_iff.1 hc).1
  · exact (covB_iff.1 hc).2
theorem allK_safe (m : MV) : Safe (allK m) m.mem m :=
  ⟨fun v hv hi => ⟨_, .root (.inr (.inl ⟨v, hv, hi, rfl⟩)), lessP_refl _⟩, ⟨_, .root (.inl rfl), lessP_refl _⟩,
    fun f hf => ⟨⟨_, .root (.inr (.inr ⟨rfl, f, hf, .inl rfl⟩)), lessP_refl _⟩, fun hi => ⟨_, .root (.inr (.inr ⟨rfl, f, hf, .inr ⟨hi, rfl⟩⟩)), lessP_refl _⟩⟩, rfl, fun j => .inl rfl⟩
/-- What nothing allows to store is as it was, however long it runs. -/
theorem guards_law (m : MV) (f : Nat) : (m.run f).1.mem.length = m.mem.length ∧ ∀ j : Nat, ¬ hitP true m.mem (rootsP true m.R m.c m.stk) 2 j → (m.run f).1.mem.getD j zeroV = m.mem.getD j zeroV := by
  have h := (allK_safe m).run (allK_whole m) f
  refine ⟨h.len, fun j hj => ?_⟩
  rcases h.mem j with e | ⟨⟨g, g1, g2, g3⟩, _⟩
  · exact e
  · exact absurd ⟨g, g1, rfl, g2, g3⟩ hj
/-- No key comes to be that is more than one of those at first. -/
theorem down_law {m n : MV} (h : Safe (allK m) m.mem n) {k : KeyV} (hk : allK n k) : DomT (allK m) k := by
  induction hk with
  | root hr =>
    rcases hr with rfl | ⟨v, hv, hi, rfl⟩ | ⟨_, f, hf, rfl | ⟨hi, rfl⟩⟩
    · exact h.code
    · exact h.regs v hv hi
    · exact (h.stk f hf).1
    · exact (h.stk f hf).2 hi
  | next _ hn ih =>
    obtain ⟨ho, j, h1, h2, h3, hi, rfl⟩ := hn
    obtain ⟨g, g1, g2⟩ := ih
    rcases h.mem j with e | ⟨_, e⟩
    · rw [e] at hi ⊢
      have h9 : withinB 9 _ = true := (Bool.and_eq_true _ _ ▸ ho).2
      exact ⟨_, allK_whole m g g1 (withinB_trans h9 g2.2) j (cov_less g2 (covB_iff.2 ⟨h1, h2⟩)) (by have := h.len; omega) hi, lessP_refl _⟩
    · exact e hi
end Go.Proofs.YtmffdgeebhpacaaDoor
/- What lies where nobody may look is of no matter: plain data. -/
namespace Go.Proofs.YtmffdgeebhpacaaDoor
open Go.RowKit
set_option linter.unusedVariables false
/-- The same machine with another memory. -/
def MV.mm (m : MV) (x : List ValV) : MV := { m with mem := x }
/-- May somebody look there? -/
def vis (G : KeyV → Prop) (j : Nat) : Prop := hitT G 1 j ∨ hitT G 4 j
/-- Two memories that are the same in these places. -/
structure Alike (V : Nat → Prop) (m x : List ValV) : Prop where
  len : x.length = m.length
  eq : ∀ j, V j → x.getD j zeroV = m.getD j zeroV
/-- Two steps that go alike. -/
def RelB (G : KeyV → Prop) (V : Nat → Prop) (x : List ValV) (a b : Ex MV) : Prop :=
  (∃ e, a = .error e ∧ b = .error e) ∨ ∃ n y, a = .ok n ∧ b = .ok (n.mm y) ∧ Alike V n.mem y ∧ ∀ j, ¬ hitT G 2 j → y.getD j zeroV = x.getD j zeroV
section
variable {G : KeyV → Prop} {V : Nat → Prop} {m0 x : List ValV} {m n : MV} {i : InstV} {k : KeyV}
theorem rel_err (e : Int) : RelB G V x (.error e) (.error e) := .inl ⟨e, rfl, rfl⟩
theorem rel_ok (ha : Alike V n.mem x) : RelB G V x (.ok n) (.ok (n.mm x)) := .inr ⟨n, x, rfl, rfl, ha, fun _ _ => rfl⟩
theorem within1 {p : Int} (h : andI p 1 ≠ 0) : withinB 1 p = true := by
  rw [withinB_iff]
  intro i hi
  rw [show (1 : Int) = ((2 ^ 0 : Nat) : Int) from rfl, bit_pow 0 i (by decide)] at hi
  rw [of_decide_eq_true hi]
  exact bit_and 0 (by decide) h
theorem within4 {p : Int} (h : andI p 4 ≠ 0) : withinB 4 p = true := by
  rw [withinB_iff]
  intro i hi
  rw [show (4 : Int) = ((2 ^ 2 : Nat) : Int) from rfl, bit_pow 2 i (by decide)] at hi
  rw [of_decide_eq_true hi]
  exact bit_and 2 (by decide) h
theorem hit_less {p : Int} (hk : DomT G k) (hp : withinB p k.perm = true) {j : Nat} (hc : covB k.base k.len j = true) : hitT G p j := by
  obtain ⟨g, g1, g2⟩ := hk
  exact ⟨g, g1, withinB_trans hp g2.2, cov_less g2 hc⟩
theorem atF_pos {l : Nat} {off p : Int} (h : (atF l k off p).2 = 0) : ∃ j : Nat, k.at_ + off = j ∧ (atF l k off p).1 = j ∧ j < l ∧ covB k.base k.len j = true ∧ andI k.perm p ≠ 0 := by
  obtain ⟨a1, a2, a3, a4, a5, a6, a7⟩ := atF_ok.1 h
  have hb := (covB_iff.1 a6).1
  have hp := a1.b0
  obtain ⟨j, hj⟩ := Int.eq_ofNat_of_zero_le (show 0 ≤ k.at_ + off by omega)
  exact ⟨j, hj, by rw [(atF_val h).1, hj], by omega, by rw [← hj]; exact a6, a3⟩
theorem getF_alike (hV : ∀ j, vis G j → V j) (ha : Alike V m.mem x) (hk : DomT G k) (off : Int) : getF x k off = getF m.mem k off := by
  by_cases h : (atF m.mem.length k off 1).2 = 0
  · obtain ⟨j, h1, _, _, h4, h5⟩ := atF_pos h
    have h' : (atF x.length k off 1).2 = 0 := by rw [ha.len]; exact h
    rw [getF_ok h h1, getF_ok h' h1, ha.eq j (hV j <| .inl (hit_less hk (within1 h5) h4))]
  · simp only [getF]
    rw [ha.len, if_pos h, if_pos h]
theorem fetch_alike (hV : ∀ j, vis G j → V j) (ha : Alike V m.mem x) (hk : DomT G m.c) : (m.mm x).fetch = m.fetch := by
  have hat : atF (m.mm x).mem.length (m.mm x).c 0 4 = atF m.mem.length m.c 0 4 := by
    show atF x.length m.c 0 4 = _
    rw [ha.len]
  unfold MV.fetch
  simp only []
  rw [hat]
  by_cases h : (atF m.mem.length m.c 0 4).2 = 0
  · obtain ⟨j, _, h2, _, h4, h5⟩ := atF_pos h
    have e : (m.mm x).mem.getD (atF m.mem.length m.c 0 4).1.toNat zeroV = m.mem.getD (atF m.mem.length m.c 0 4).1.toNat zeroV := by
      rw [h2, Int.toNat_natCast]
      exact ha.eq j (hV j <| .inr (hit_less hk (within4 h5) h4))
    rw [e]
  · rw [if_pos h, if_pos h]
theorem goes_alike (ha : Alike V m.mem x) (d : Int) : RelB G V x (m.goes d) ((m.mm x).goes d) := by
  unfold MV.goes
  show RelB G V x _ (if m.c.at_ + d < 0 ∨ 400 < m.c.at_ + d then _ else _)
  split
  · exact rel_err _
  · exact rel_ok (n := m.fwd d) ha
theorem numbers_alike (ha : Alike V m.mem x) : RelB G V x (m.numbers i) ((m.mm x).numbers i) := by
  unfold MV.numbers
  show RelB G V x _ (m.num i.b >>= fun b => m.num i.c >>= fun c => opN i.op b c >>= fun n => pure ((m.mm x).set i.a (nV n)))
  cases m.num i.b with
  | error e => exact rel_err e
  | ok b =>
    show RelB G V x (m.num i.c >>= fun c => opN i.op b c >>= fun n => pure (m.set i.a (nV n))) (m.num i.c >>= fun c => opN i.op b c >>= fun n => pure ((m.mm x).set i.a (nV n)))
    cases m.num i.c with
    | error e => exact rel_err e
    | ok c =>
      show RelB G V x (opN i.op b c >>= fun n => pure (m.set i.a (nV n))) (opN i.op b c >>= fun n => pure ((m.mm x).set i.a (nV n)))
      cases opN i.op b c with
      | error e => exact rel_err e
      | ok v => exact rel_ok (n := m.set i.a (nV v)) ha
theorem ask_alike (ha : Alike V m.mem x) : RelB G V x (m.ask i) ((m.mm x).ask i) := by
  unfold MV.ask
  by_cases hc : i.c = 0
  · rw [if_pos hc, if_pos hc]
    exact rel_ok (n := m.set i.a _) ha
  · rw [if_neg hc, if_neg hc]
    show RelB G V x _ (m.key i.b >>= fun k => pure ((m.mm x).set i.a _))
    cases m.key i.b with
    | error e => exact rel_err e
    | ok k => exact rel_ok (n := m.set i.a _) ha
theorem tell_alike (ha : Alike V m.mem x) : RelB G V x (m.tell i) ((m.mm x).tell i) := by
  unfold MV.tell
  show RelB G V x _ (m.num i.a >>= fun n => if m.out.length = 100 then .error 9 else pure { (m.mm x) with out := m.out ++ [n] })
  cases m.num i.a with
  | error e => exact rel_err e
  | ok n =>
    show RelB G V x (if m.out.length = 100 then .error 9 else pure { m with out := m.out ++ [n] }) (if m.out.length = 100 then .error 9 else pure { (m.mm x) with out := m.out ++ [n] })
    split
    · exact rel_err _
    · exact rel_ok (n := { m with out := m.out ++ [n] }) ha
theorem call_alike (ha : Alike V m.mem x) : RelB G V x (m.call i) ((m.mm x).call i) := by
  unfold MV.call
  show RelB G V x _ (m.key i.a >>= fun a => m.key i.b >>= fun b => if a.seal_ = 0 ∨ a.seal_ ≠ b.seal_ then .error 11 else if andI a.perm 4 = 0 ∨ andI b.perm 4 ≠ 0 then .error 12 else if m.stk.length = 16 then .error 9
    else pure (({ m with stk := m.stk ++ [⟨{ m.c with at_ := m.c.at_ + 1 }, m.reg 7⟩], c := bareK a, R := m.R.set 7 (kV (bareK b)) } : MV).mm x))
  cases m.key i.a with
  | error e => exact rel_err e
  | ok a =>
    show RelB G V x (m.key i.b >>= _) (m.key i.b >>= _)
    cases m.key i.b with
    | error e => exact rel_err e
    | ok b =>
      show RelB G V x (if a.seal_ = 0 ∨ a.seal_ ≠ b.seal_ then .error 11 else if andI a.perm 4 = 0 ∨ andI b.perm 4 ≠ 0 then .error 12 else if m.stk.length = 16 then .error 9 else .ok _) (if a.seal_ = 0 ∨ a.seal_ ≠ b.seal_ then .error 11 else if andI a.perm 4 = 0 ∨ andI b.perm 4 ≠ 0 then .error 12 else if m.stk.length = 16 then .error 9 else .ok _)
      by_cases h1 : a.seal_ = 0 ∨ a.seal_ ≠ b.seal_
      · rw [if_pos h1, if_pos h1]; exact rel_err _
      · rw [if_neg h1, if_neg h1]
        by_cases h2 : andI a.perm 4 = 0 ∨ andI b.perm 4 ≠ 0
        · rw [if_pos h2, if_pos h2]; exact rel_err _
        · rw [if_neg h2, if_neg h2]
          by_cases h3 : m.stk.length = 16
          · rw [if_pos h3, if_pos h3]; exact rel_err _
          · rw [if_neg h3, if_neg h3]
            exact rel_ok (n := { m with stk := m.stk ++ [⟨{ m.c with at_ := m.c.at_ + 1 }, m.reg 7⟩], c := bareK a, R := m.R.set 7 (kV (bareK b)) }) ha
theorem back_alike (ha : Alike V m.mem x) : RelB G V x m.back (m.mm x).back := by
  unfold MV.back
  show RelB G V x _ (match m.stk.getLast? with | none => .error 16 | some f => .ok (({ m with stk := m.stk.dropLast, c := f.code, R := m.R.set 7 f.data } : MV).mm x))
  cases m.stk.getLast? with
  | none => exact rel_err _
  | some f => exact rel_ok (n := { m with stk := m.stk.dropLast, c := f.code, R := m.R.set 7 f.data }) ha
/-- What is done by a key and laid into a register. -/
theorem reg_alike (ha : Alike V m.mem x) (q : Ex ValV) : RelB G V x (q >>= fun v => pure (m.set i.a v)) (q >>= fun v => pure ((m.mm x).set i.a v)) := by
  cases q with
  | error e => exact rel_err e
  | ok v => exact rel_ok (n := m.set i.a v) ha
theorem reg2_alike (ha : Alike V m.mem x) {α : Type} (q : Ex α) (f : α → Ex KeyV) : RelB G V x (q >>= fun a => f a >>= fun k => pure (m.set i.a (kV k))) (q >>= fun a => f a >>= fun k => pure ((m.mm x).set i.a (kV k))) := by
  cases q with
  | error e => exact rel_err e
  | ok a =>
    show RelB G V x (f a >>= fun k => pure (m.set i.a (kV k))) (f a >>= fun k => pure ((m.mm x).set i.a (kV k)))
    cases f a with
    | error e => exact rel_err e
    | ok v => exact rel_ok (n := m.set i.a (kV v)) ha
theorem byKey_alike (hV : ∀ j, vis G j → V j) (hs : Safe G m0 m) (ha : Alike V m.mem x) : RelB G V x (m.byKey i) ((m.mm x).byKey i) := by
  unfold MV.byKey
  show RelB G V x (m.key i.b >>= _) (m.key i.b >>= _)
  cases hk : m.key i.b with
  | error e => exact rel_err e
  | ok k =>
    have hd := hs.key hk
    simp only [ex_go rfl]
    show RelB G V x (if i.op = 10 then _ else _) (if i.op = 10 then _ else _)
    by_cases o10 : i.op = 10
    · rw [if_pos o10, if_pos o10]
      show RelB G V x _ (resE (getF x k i.c) >>= fun v => pure ((m.mm x).set i.a v))
      rw [getF_alike hV ha hd]
      exact reg_alike ha _
    rw [if_neg o10, if_neg o10]
    by_cases o11 : i.op = 11
    · rw [if_pos o11, if_pos o11]
      show RelB G V x _ (if putE x.length k i.c (m.reg i.a) ≠ 0 then .error (putE x.length k i.c (m.reg i.a)) else pure (m.mm (storeM x k i.c (m.reg i.a))))
      rw [ha.len]
      by_cases hp : putE m.mem.length k i.c (m.reg i.a) = 0
      · rw [if_neg (by simp [hp]), if_neg (by simp [hp])]
        have h0 : (atF m.mem.length k i.c 2).2 = 0 := by
          by_cases h0 : (atF m.mem.length k i.c 2).2 = 0
          · exact h0
          · rw [putE_err h0] at hp; exact absurd hp h0
        obtain ⟨j, h1, _, h3, h4, h5⟩ := atF_pos h0
        have hst := hit_less hd (within2 h5) h4
        refine .inr ⟨{ m with mem := storeM m.mem k i.c (m.reg i.a) }, storeM x k i.c (m.reg i.a), rfl, rfl, ⟨?_, fun l hl => ?_⟩, fun l hl => ?_⟩
        · unfold storeM; rw [List.length_set, List.length_set, ha.len]
        · unfold storeM
          rw [h1, Int.toNat_natCast, List.getD_eq_getElem?_getD, List.getD_eq_getElem?_getD]
          by_cases e : j = l
          · subst e
            rw [List.getElem?_set_self h3, List.getElem?_set_self (by rw [ha.len]; exact h3)]
          · rw [List.getElem?_set_ne e, List.getElem?_set_ne e, ← List.getD_eq_getElem?_getD, ← List.getD_eq_getElem?_getD]
            exact ha.eq l hl
        · unfold storeM
          rw [h1, Int.toNat_natCast, List.getD_eq_getElem?_getD]
          have e : j ≠ l := fun e => hl (e ▸ hst)
          rw [List.getElem?_set_ne e, ← List.getD_eq_getElem?_getD]
      · rw [if_pos hp, if_pos hp]; exact rel_err _
    rw [if_neg o11, if_neg o11]
    by_cases o12 : i.op = 12
    · rw [if_pos o12, if_pos o12]; exact reg2_alike ha (m.num i.c) fun n => resE (moveF k n)
    rw [if_neg o12, if_neg o12]
    by_cases o13 : i.op = 13
    · rw [if_pos o13, if_pos o13]; exact reg2_alike ha (m.num i.c) fun n => resE (narrowF k n)
    rw [if_neg o13, if_neg o13]
    by_cases o14 : i.op = 14
    · rw [if_pos o14, if_pos o14]; exact reg2_alike ha (.ok ()) fun _ => resE (dropF k i.c)
    rw [if_neg o14, if_neg o14]
    by_cases o15 : i.op = 15
    · rw [if_pos o15, if_pos o15]; exact reg2_alike ha (m.key i.c) fun c => resE (sealF k c)
    rw [if_neg o15, if_neg o15]
    exact reg2_alike ha (m.key i.c) fun c => resE (openF k c)
theorem plain_alike (hV : ∀ j, vis G j → V j) (hs : Safe G m0 m) (ha : Alike V m.mem x) : RelB G V x (m.plain i) ((m.mm x).plain i) := by
  unfold MV.plain
  by_cases o1 : i.op = 1
  · rw [if_pos o1, if_pos o1]; exact rel_ok (n := m.set i.a _) ha
  rw [if_neg o1, if_neg o1]
  by_cases o2 : i.op = 2
  · rw [if_pos o2, if_pos o2]; exact rel_ok (n := m.set i.a (m.reg i.b)) ha
  rw [if_neg o2, if_neg o2]
  by_cases o3 : i.op = 3 ∨ i.op = 4 ∨ i.op = 5 ∨ i.op = 7 ∨ i.op = 6
  · rw [if_pos o3, if_pos o3]; exact numbers_alike ha
  rw [if_neg o3, if_neg o3]
  by_cases o4 : i.op = 17
  · rw [if_pos o4, if_pos o4]; exact ask_alike ha
  rw [if_neg o4, if_neg o4]
  by_cases o5 : i.op = 20
  · rw [if_pos o5, if_pos o5]; exact rel_ok (n := m.set i.a (kV m.c)) ha
  rw [if_neg o5, if_neg o5]
  by_cases o6 : i.op = 21
  · rw [if_pos o6, if_pos o6]; exact rel_ok (n := { m with R := clearL i.c m.R }) ha
  rw [if_neg o6, if_neg o6]
  by_cases o7 : i.op = 22
  · rw [if_pos o7, if_pos o7]; exact tell_alike ha
  rw [if_neg o7, if_neg o7]
  exact byKey_alike hV hs ha
theorem exec_alike (hV : ∀ j, vis G j → V j) (hs : Safe G m0 m) (ha : Alike V m.mem x) : RelB G V x (m.exec i) ((m.mm x).exec i) := by
  unfold MV.exec
  by_cases o0 : i.op = 0
  · rw [if_pos o0, if_pos o0]; exact rel_err _
  rw [if_neg o0, if_neg o0]
  by_cases o1 : i.op = 8
  · rw [if_pos o1, if_pos o1]; exact goes_alike ha _
  rw [if_neg o1, if_neg o1]
  by_cases o2 : i.op = 9
  · rw [if_pos o2, if_pos o2]
    show RelB G V x (m.num i.a >>= _) (m.num i.a >>= _)
    cases m.num i.a with
    | error e => exact rel_err e
    | ok n => exact goes_alike ha _
  rw [if_neg o2, if_neg o2]
  by_cases o3 : i.op = 18
  · rw [if_pos o3, if_pos o3]; exact call_alike ha
  rw [if_neg o3, if_neg o3]
  by_cases o4 : i.op = 19
  · rw [if_pos o4, if_pos o4]; exact back_alike ha
  rw [if_neg o4, if_neg o4]
  rcases plain_alike hV (i := i) hs ha with ⟨e, h1, h2⟩ | ⟨n, y, h1, h2, h3, h4⟩
  · rw [h1, h2]; exact rel_err e
  · rw [h1, h2]; exact .inr ⟨n.fwd 1, y, rfl, rfl, h3, h4⟩
theorem one_alike (hV : ∀ j, vis G j → V j) (hs : Safe G m0 m) (ha : Alike V m.mem x) : RelB G V x m.one (m.mm x).one := by
  unfold MV.one
  rw [fetch_alike hV ha hs.code]
  cases m.fetch with
  | error e => exact rel_err e
  | ok i => exact exec_alike hV hs ha
end
/-- Two runs that go alike. -/
theorem run_alike {G : KeyV → Prop} {V : Nat → Prop} (hV : ∀ j, vis G j → V j) {m0 : List ValV} (hG : Whole G m0) (f : Nat) : ∀ (m : MV) (x : List ValV), Safe G m0 m → Alike V m.mem x →
    ∃ y, (m.mm x).run f = (((m.run f).1).mm y, (m.run f).2.1, (m.run f).2.2) ∧ Alike V (m.run f).1.mem y ∧ ∀ j, ¬ hitT G 2 j → y.getD j zeroV = x.getD j zeroV := by
  induction f with
  | zero => intro m x hs ha; exact ⟨x, rfl, ha, fun _ _ => rfl⟩
  | succ f ih =>
    intro m x hs ha
    rcases one_alike hV hs ha with ⟨e, h1, h2⟩ | ⟨n, y, h1, h2, h3, h4⟩
    · rw [run_er h1, run_er h2]; exact ⟨x, rfl, ha, fun _ _ => rfl⟩
    · obtain ⟨z, z1, z2, z3⟩ := ih n y (hs.one hG h1) h3
      rw [run_ok h1, run_ok h2, z1]
      exact ⟨z, rfl, z2, fun j hj => (z3 j hj).trans (h4 j hj)⟩
end Go.Proofs.YtmffdgeebhpacaaDoor
/- What a step can do to what one comes to without opening anything: plain data. -/
namespace Go.Proofs.YtmffdgeebhpacaaDoor
open Go.RowKit
set_option linter.unusedVariables false
/-- A key that, if it is not sealed, is no more than one of some others that is not sealed. -/
def Dom0 (G : KeyV → Prop) (k : KeyV) : Prop := k.seal_ = 0 → ∃ g, G g ∧ g.seal_ = 0 ∧ lessP k g
def Dom0V (G : KeyV → Prop) (v : ValV) : Prop := v.is = true → Dom0 G v.k
def Whole0 (G : KeyV → Prop) (m0 : List ValV) : Prop := ∀ g, G g → g.seal_ = 0 → withinB 9 g.perm = true → ∀ j : Nat, covB g.base g.len j = true → j < m0.length → (m0.getD j zeroV).is = true → G (m0.getD j zeroV).k
/-- What a step leaves. -/
structure Own1 (G : KeyV → Prop) (m n : MV) : Prop where
  regs : ∀ v ∈ n.R, Dom0V G v
  code : Dom0 G n.c
  len : n.mem.length = m.mem.length
  mem : ∀ j : Nat, n.mem.getD j zeroV = m.mem.getD j zeroV ∨ Dom0V G (n.mem.getD j zeroV)
section
variable {G : KeyV → Prop} {m n : MV} {i : InstV} {k q : KeyV}
theorem dom0_root (h : G k) : Dom0 G k := fun h0 => ⟨k, h, h0, lessP_refl _⟩
theorem Dom0.at (h : Dom0 G k) (x : Int) : Dom0 G { k with at_ := x } := fun h0 => h h0
theorem Dom0V.num (n : Int) : Dom0V G (nV n) := fun h => by cases h
theorem Dom0V.zero : Dom0V G zeroV := fun h => by cases h
theorem Dom0V.key (h : Dom0 G k) : Dom0V G (kV k) := fun _ => h
theorem Dom0.less (h : Dom0 G k) (hs : k.seal_ = 0) (hl : lessP q k) (h0 : 0 ≤ q.len) : Dom0 G q := fun _ => by
  obtain ⟨g, h1, h2, h3⟩ := h hs
  exact ⟨g, h1, h2, lessP_trans hl h3 h0⟩
theorem Own1.start (hr : ∀ v ∈ m.R, Dom0V G v) (hc : Dom0 G m.c) : Own1 G m m := ⟨hr, hc, rfl, fun _ => .inl rfl⟩
theorem Own1.set (h : Own1 G m n) (r : Int) {v : ValV} (hv : Dom0V G v) : Own1 G m (n.set r v) :=
  ⟨fun u hu => by
    rcases List.mem_or_eq_of_mem_set hu with hu | rfl
    · exact h.regs u hu
    · exact hv, h.code, h.len, h.mem⟩
theorem Own1.fwd (h : Own1 G m n) (d : Int) : Own1 G m (n.fwd d) := ⟨h.regs, h.code.at _, h.len, h.mem⟩
theorem reg_dom0 (hr : ∀ v ∈ m.R, Dom0V G v) (r : Int) : Dom0V G (m.reg r) := by
  unfold MV.reg
  rw [List.getD_eq_getElem?_getD]
  cases hx : m.R[r.toNat]? with
  | none => exact Dom0V.zero
  | some v => exact hr v (List.mem_of_getElem? hx)
theorem key_dom0 (hr : ∀ v ∈ m.R, Dom0V G v) {r : Int} (hk : m.key r = .ok k) : Dom0 G k := by
  obtain ⟨h1, rfl⟩ := key_ok hk
  exact reg_dom0 hr r h1
theorem getF_dom0 (hG : Whole0 G m.mem) (hk : Dom0 G k) {off : Int} {v : ValV} (hg : getF m.mem k off = (v, 0)) : Dom0V G v := by
  have h1 : (atF m.mem.length k off 1).2 = 0 := by
    by_cases e : (atF m.mem.length k off 1).2 = 0
    · exact e
    · simp only [getF] at hg
      rw [if_pos e] at hg
      injection hg with _ hg
  obtain ⟨a1, a2, a3, a4, a5, a6, a7⟩ := atF_ok.1 h1
  have hb := (covB_iff.1 a6).1
  have hp := a1.b0
  obtain ⟨j, hj⟩ := Int.eq_ofNat_of_zero_le (show 0 ≤ k.at_ + off by omega)
  rw [getF_ok h1 hj] at hg
  by_cases hc : (m.mem.getD j zeroV).is = true ∧ andI k.perm 8 = 0
  · rw [if_pos hc] at hg
    injection hg with hg
    rw [← hg]
    exact Dom0V.zero
  · rw [if_neg hc] at hg
    injection hg with hg
    rw [← hg]
    intro hi
    obtain ⟨g, g1, g0, g2⟩ := hk a2
    have h8 : andI k.perm 8 ≠ 0 := fun e8 => hc ⟨hi, e8⟩
    refine dom0_root (hG g g1 g0 (withinB_trans (within9 a3 h8) g2.2) j ?_ ?_ hi)
    · have := cov_less g2 a6; rwa [hj] at this
    · omega
theorem byKey_own (hG : Whole0 G m.mem) (hr : ∀ v ∈ m.R, Dom0V G v) (hc : Dom0 G m.c) (ho : i.op = 10 ∨ i.op = 11 ∨ i.op = 12 ∨ i.op = 13 ∨ i.op = 14 ∨ i.op = 15) (h : m.byKey i = .ok n) : Own1 G m n := by
  have h0 := Own1.start hr hc
  unfold MV.byKey at h
  obtain ⟨k, hk, h⟩ := ex_bind h
  have hd := key_dom0 hr hk
  by_cases o1 : i.op = 10
  · rw [if_pos o1] at h
    obtain ⟨v, hv, h⟩ := ex_bind h
    injection h with h
    subst h
    exact h0.set _ (getF_dom0 hG hd (resE_ok hv))
  rw [if_neg o1] at h
  by_cases o2 : i.op = 11
  · rw [if_pos o2] at h
    by_cases hp : putE m.mem.length k i.c (m.reg i.a) = 0
    · rw [if_neg (by simp [hp])] at h
      injection h with h
      subst h
      refine ⟨hr, hc, ?_, fun l => ?_⟩
      · show (storeM m.mem k i.c (m.reg i.a)).length = _
        unfold storeM; rw [List.length_set]
      · show (storeM m.mem k i.c (m.reg i.a)).getD l zeroV = _ ∨ Dom0V G ((storeM m.mem k i.c (m.reg i.a)).getD l zeroV)
        unfold storeM
        by_cases e : (k.at_ + i.c).toNat = l
        · rw [e]
          by_cases hl : l < m.mem.length
          · right
            rw [List.getD_eq_getElem?_getD, List.getElem?_set_self hl]
            exact reg_dom0 hr _
          · left
            rw [List.getD_eq_getElem?_getD, List.getD_eq_getElem?_getD, List.getElem?_eq_none (by rw [List.length_set]; omega), List.getElem?_eq_none (by omega)]
        · left
          rw [List.getD_eq_getElem?_getD, List.getD_eq_getElem?_getD, List.getElem?_set_ne e]
    · rw [if_pos hp] at h; cases h
  rw [if_neg o2] at h
  by_cases o3 : i.op = 12
  · rw [if_pos o3] at h
    obtain ⟨x, hn, h⟩ := ex_bind h
    obtain ⟨q, hq, h⟩ := ex_bind h
    injection h with h
    subst h
    have hq := resE_ok hq
    have := move_less (k := k) (n := x) (by rw [hq]); rw [hq] at this
    exact h0.set _ (Dom0V.key (hd.less this.2.2.1 this.2.2.2 this.1.l0))
  rw [if_neg o3] at h
  by_cases o4 : i.op = 13
  · rw [if_pos o4] at h
    obtain ⟨x, hn, h⟩ := ex_bind h
    obtain ⟨q, hq, h⟩ := ex_bind h
    injection h with h
    subst h
    have hq := resE_ok hq
    have := narrow_less (k := k) (n := x) (by rw [hq]); rw [hq] at this
    exact h0.set _ (Dom0V.key (hd.less this.2.2.1 this.2.2.2 this.1.l0))
  rw [if_neg o4] at h
  by_cases o5 : i.op = 14
  · rw [if_pos o5] at h
    obtain ⟨q, hq, h⟩ := ex_bind h
    injection h with h
    subst h
    have hq := resE_ok hq
    have := drop_less (k := k) (n := i.c) (by rw [hq]); rw [hq] at this
    exact h0.set _ (Dom0V.key (hd.less this.2.2.1 this.2.2.2 this.1.l0))
  rw [if_neg o5] at h
  have o6 : i.op = 15 := by omega
  rw [if_pos o6] at h
  obtain ⟨x, hn, h⟩ := ex_bind h
  obtain ⟨q, hq, h⟩ := ex_bind h
  injection h with h
  subst h
  have hq := resE_ok hq
  have := seal_less (k := k) (c := x) (by rw [hq]); rw [hq] at this
  exact h0.set _ (Dom0V.key (hd.less this.2.2.1 this.2.2.2 this.1.l0))
theorem plain_own (hG : Whole0 G m.mem) (hr : ∀ v ∈ m.R, Dom0V G v) (hc : Dom0 G m.c) (hi : instOk i = true) (ho : ¬ (i.op = 0 ∨ i.op = 8 ∨ i.op = 9 ∨ i.op = 16 ∨ i.op = 18 ∨ i.op = 19)) (h : m.plain i = .ok n) : Own1 G m n := by
  have h0 := Own1.start hr hc
  obtain ⟨b0, b1, _⟩ := instOk_bd (op := i.op) (a := i.a) (b := i.b) (c := i.c) hi
  unfold MV.plain at h
  by_cases o1 : i.op = 1
  · rw [if_pos o1] at h; injection h with h; subst h; exact h0.set _ (Dom0V.num _)
  rw [if_neg o1] at h
  by_cases o2 : i.op = 2
  · rw [if_pos o2] at h; injection h with h; subst h; exact h0.set _ (reg_dom0 hr _)
  rw [if_neg o2] at h
  by_cases o3 : i.op = 3 ∨ i.op = 4 ∨ i.op = 5 ∨ i.op = 7 ∨ i.op = 6
  · rw [if_pos o3] at h
    unfold MV.numbers at h
    obtain ⟨b, _, h⟩ := ex_bind h
    obtain ⟨c, _, h⟩ := ex_bind h
    obtain ⟨x, _, h⟩ := ex_bind h
    injection h with h; subst h
    exact h0.set _ (Dom0V.num _)
  rw [if_neg o3] at h
  by_cases o4 : i.op = 17
  · rw [if_pos o4] at h
    unfold MV.ask at h
    by_cases hc0 : i.c = 0
    · rw [if_pos hc0] at h; injection h with h; subst h; exact h0.set _ (Dom0V.num _)
    · rw [if_neg hc0] at h
      obtain ⟨b, _, h⟩ := ex_bind h
      injection h with h; subst h
      exact h0.set _ (Dom0V.num _)
  rw [if_neg o4] at h
  by_cases o5 : i.op = 20
  · rw [if_pos o5] at h; injection h with h; subst h; exact h0.set _ (Dom0V.key hc)
  rw [if_neg o5] at h
  by_cases o6 : i.op = 21
  · rw [if_pos o6] at h; injection h with h; subst h
    refine ⟨fun v hv => ?_, hc, rfl, fun _ => .inl rfl⟩
    simp only [clearL, List.mem_mapIdx] at hv
    obtain ⟨r, hx, rfl⟩ := hv
    split
    · exact Dom0V.zero
    · exact hr _ (List.getElem_mem hx)
  rw [if_neg o6] at h
  by_cases o7 : i.op = 22
  · rw [if_pos o7] at h
    unfold MV.tell at h
    obtain ⟨x, _, h⟩ := ex_bind h
    by_cases hl : m.out.length = 100
    · rw [if_pos hl] at h; cases h
    · rw [if_neg hl] at h
      injection h with h; subst h
      exact ⟨hr, hc, rfl, fun _ => .inl rfl⟩
  rw [if_neg o7] at h
  exact byKey_own hG hr hc (by omega) h
theorem exec_own (hG : Whole0 G m.mem) (hr : ∀ v ∈ m.R, Dom0V G v) (hc : Dom0 G m.c) (hi : instOk i = true) (h16 : i.op ≠ 16) (h18 : i.op ≠ 18) (h19 : i.op ≠ 19) (h : m.exec i = .ok n) : Own1 G m n := by
  have h0 := Own1.start hr hc
  unfold MV.exec at h
  by_cases o0 : i.op = 0
  · rw [if_pos o0] at h; cases h
  rw [if_neg o0] at h
  by_cases o1 : i.op = 8
  · rw [if_pos o1] at h
    obtain ⟨_, rfl⟩ := goes_ok h
    exact h0.fwd _
  rw [if_neg o1] at h
  by_cases o2 : i.op = 9
  · rw [if_pos o2] at h
    obtain ⟨x, _, h⟩ := ex_bind h
    obtain ⟨_, rfl⟩ := goes_ok h
    exact h0.fwd _
  rw [if_neg o2, if_neg h18, if_neg h19] at h
  obtain ⟨m', hp, h⟩ := ex_bind h
  injection h with h; subst h
  exact (plain_own hG hr hc hi (by omega) hp).fwd 1
end
/-- All that one comes to at first without opening anything. -/
def ownK (m : MV) (k : KeyV) : Prop := Rch false m.mem (rootsP false m.R m.c m.stk) k
theorem ownK_whole (m : MV) : Whole0 (ownK m) m.mem := fun g hg g0 h9 j hc hj hi => by
  refine .next hg ⟨?_, j, ?_, ?_, hj, hi, rfl⟩
  · unfold opensB countsB
    rw [h9, g0]; rfl
  · exact (covB_iff.1 hc).1
  · exact (covB_iff.1 hc).2
theorem own_reach {m n : MV} (h : Own1 (ownK m) m n) {k : KeyV} (hk : ownK n k) : Dom0 (ownK m) k := by
  induction hk with
  | root hr =>
    rcases hr with rfl | ⟨v, hv, hi, rfl⟩ | ⟨hf, _⟩
    · exact h.code
    · exact h.regs v hv hi
    · cases hf
  | @next k' x _ hn ih =>
    obtain ⟨ho, j, h1, h2, h3, hi, rfl⟩ := hn
    have ho2 := Bool.and_eq_true _ _ ▸ ho
    have hs : k'.seal_ = 0 := by
      have := ho2.1
      unfold countsB at this
      simpa using this
    obtain ⟨g, g1, g0, g2⟩ := ih hs
    rcases h.mem j with e | e
    · rw [e] at hi ⊢
      exact dom0_root (ownK_whole m g g1 g0 (withinB_trans ho2.2 g2.2) j (cov_less g2 (covB_iff.2 ⟨h1, h2⟩)) (by have := h.len; omega) hi)
    · exact e hi
/-- Except by Open, Call and Back nothing comes to be one's own that was not. -/
theorem own_law {m n : MV} {i : InstV} (hf : m.fetch = .ok i) (h : m.one = .ok n) (h16 : i.op ≠ 16) (h18 : i.op ≠ 18) (h19 : i.op ≠ 19) {p x : Int} (hx : hitP false n.mem (rootsP false n.R n.c n.stk) p x) : hitP false m.mem (rootsP false m.R m.c m.stk) p x := by
  have he : m.exec i = .ok n := by
    unfold MV.one at h
    rw [hf] at h
    exact h
  have hi := (fetch_cases hf).2.2.2.2.2.2.2.2.2.2
  have ho := exec_own (ownK_whole m) (fun v hv hi => dom0_root (.root (.inr (.inl ⟨v, hv, hi, rfl⟩)))) (dom0_root (.root (.inl rfl))) hi h16 h18 h19 he
  obtain ⟨k, h1, h2, h3, h4⟩ := hx
  have hs : k.seal_ = 0 := by
    unfold countsB at h2
    simpa using h2
  obtain ⟨g, g1, g0, g2⟩ := own_reach ho h1 hs
  refine ⟨g, g1, ?_, withinB_trans h3 g2.2, cov_less g2 h4⟩
  unfold countsB
  rw [g0]; rfl
end Go.Proofs.YtmffdgeebhpacaaDoor
