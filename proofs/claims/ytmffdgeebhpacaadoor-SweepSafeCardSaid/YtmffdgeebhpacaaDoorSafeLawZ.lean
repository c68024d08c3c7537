import Derived.Test.YtmffdgeebhpacaaDoorMixZ
import Derived.Test.YtmffdgeebhpacaaDoorSweepBoxZ
/- Numbers within a machine's range; a memory with other numbers where a sweep went; the law. -/
namespace Go.Proofs.YtmffdgeebhpacaaDoor
open El (cl)
open Go.RowKit
set_option linter.unusedVariables false
set_option linter.unusedSimpArgs false
def rngC (n : Int) : Bool := decide (-2147483648 ≤ n) && decide (n ≤ 2147483647)
def rngD (l : List Int) : Bool := l.all rngC
theorem rngD_iff {l : List Int} : rngD l = true ↔ ∀ n ∈ l, -2147483648 ≤ n ∧ n ≤ 2147483647 := by
  unfold rngD rngC
  simp [List.all_eq_true]
theorem rngD_snoc {l : List Int} {j : Nat} {x : Int} (hx : l[j]? = some x) (h : rngD (l.take j) = true) (h1 : -2147483648 ≤ x) (h2 : x ≤ 2147483647) : rngD (l.take (j + 1)) = true := by
  unfold rngD at h ⊢
  rw [List.take_add_one, hx, List.all_append, h]
  simp [rngC, h1, h2]
/-- Other numbers where the sweep went. -/
def safeM (b n : Nat) (vals : List Int) (M : List ValV) : List ValV := M.mapIdx fun j v => if b ≤ j ∧ j < b + n then nV (vals.getD (j % vals.length) 0) else v
theorem safe_len (b n : Nat) (vals : List Int) (M : List ValV) : (safeM b n vals M).length = M.length := by unfold safeM; simp
theorem safe_at {b n : Nat} {vals : List Int} {M : List ValV} {j : Nat} {x : ValV} (hx : M[j]? = some x) : (safeM b n vals M)[j]? = some (if b ≤ j ∧ j < b + n then nV (vals.getD (j % vals.length) 0) else x) := by
  unfold safeM
  rw [List.getElem?_mapIdx, hx]
  rfl
theorem safe_out {b n : Nat} {vals : List Int} {M : List ValV} {j : Nat} (h : ¬ (b ≤ j ∧ j < b + n)) : (safeM b n vals M)[j]? = M[j]? := by
  unfold safeM
  rw [List.getElem?_mapIdx]
  cases M[j]? with
  | none => rfl
  | some x => simp only [Option.map_some, if_neg h]
theorem safe_start (b n : Nat) (vals : List Int) (M : List ValV) : mixL (safeM b n vals M) M b = M := by
  have : (safeM b n vals M).take b = M.take b := by
    apply List.ext_getElem?
    intro j
    by_cases hj : j < b
    · rw [List.getElem?_take_of_lt hj, List.getElem?_take_of_lt hj, safe_out (by omega)]
    · rw [List.getElem?_take_eq_none (by omega), List.getElem?_take_eq_none (by omega)]
  unfold mixL
  rw [this, List.take_append_drop]
theorem safe_end {b n : Nat} {vals : List Int} {M : List ValV} {j : Nat} (h : b + n ≤ j ∨ M.length ≤ j) : mixL (safeM b n vals M) M j = safeM b n vals M := by
  have : M.drop j = (safeM b n vals M).drop j := by
    apply List.ext_getElem?
    intro i
    rw [List.getElem?_drop, List.getElem?_drop]
    rcases h with h | h
    · rw [safe_out (by omega)]
    · rw [List.getElem?_eq_none (by omega), List.getElem?_eq_none (by rw [safe_len]; omega)]
  unfold mixL
  rw [this, List.take_append_drop]
theorem safe_ok {m : MV} (h : m.Ok) (b n : Nat) {vals : List Int} (hv : rngD vals = true) (hne : vals ≠ []) : (m.mm (safeM b n vals m.mem)).Ok := by
  obtain ⟨h1, h8⟩ := h
  refine ⟨⟨h1.regs, h1.code, ?_, ?_, h1.deep, h1.stk, h1.told, h1.out⟩, h8⟩
  · show (safeM b n vals m.mem).length ≤ 400
    rw [safe_len]; exact h1.len
  · intro v hv'
    obtain ⟨j, hj⟩ := List.getElem?_of_mem (show v ∈ safeM b n vals m.mem from hv')
    have hlt : j < m.mem.length := by rw [← safe_len b n vals m.mem]; exact (List.getElem?_eq_some_iff.1 hj).1
    have hx : m.mem[j]? = some m.mem[j] := List.getElem?_eq_getElem hlt
    rw [safe_at hx] at hj
    obtain rfl := Option.some.inj hj
    by_cases hc : b ≤ j ∧ j < b + n
    · rw [if_pos hc]
      have hlen : j % vals.length < vals.length := Nat.mod_lt _ (List.length_pos_iff.2 hne)
      have hm : vals.getD (j % vals.length) 0 ∈ vals := by
        rw [List.getD_eq_getElem?_getD, List.getElem?_eq_getElem hlen]
        exact List.getElem_mem hlen
      have := rngD_iff.1 hv _ hm
      exact .inr ⟨rfl, this.1, this.2, rfl⟩
    · rw [if_neg hc]; exact h1.mem _ (List.getElem_mem hlt)
theorem getq_of {a b : List ValV} (h : a.length = b.length) {j : Nat} (e : a.getD j zeroV = b.getD j zeroV) : a[j]? = b[j]? := by
  by_cases hj : j < a.length
  · have hj' : j < b.length := by omega
    rw [List.getD_eq_getElem?_getD, List.getD_eq_getElem?_getD, List.getElem?_eq_getElem hj, List.getElem?_eq_getElem hj'] at e
    rw [List.getElem?_eq_getElem hj, List.getElem?_eq_getElem hj']
    exact congrArg some e
  · rw [List.getElem?_eq_none (by omega), List.getElem?_eq_none (by omega)]
theorem safe_fin {m X A : MV} {b n : Nat} (hX : X = m.swept b n) {f : Nat} {nn : Nat} {er : Int} (hA : X.run f = (A, nn, er)) (vals : List Int) :
    ∃ z, (X.mm (safeM b n vals X.mem)).run f = (A.mm z, nn, er) ∧ z.length = X.mem.length ∧ A.mem.length = X.mem.length ∧
      (∀ j : Nat, ¬ (b ≤ j ∧ j < b + n) → z[j]? = A.mem[j]?) ∧ (∀ j : Nat, (b ≤ j ∧ j < b + n) → z[j]? = (safeM b n vals X.mem)[j]? ∧ A.mem[j]? = X.mem[j]?) := by
  have hl : X.mem.length = m.mem.length := by rw [hX]; simp [MV.swept]
  have hcast : ∀ j : Nat, (((b : Nat) : Int) ≤ (j : Int) ∧ (j : Int) < (b : Int) + (n : Int)) ↔ (b ≤ j ∧ j < b + n) := fun j => by omega
  obtain ⟨z, z1, z2, z3, z4, z5⟩ := safe_law m b n (safeM b n vals X.mem) (by rw [safe_len, hl]) (fun j hj => by
    rw [hcast] at hj
    rw [← hX, List.getD_eq_getElem?_getD, List.getD_eq_getElem?_getD, safe_out hj]) f
  rw [← hX] at z1 z3 z4 z5
  rw [hA] at z1 z3 z4 z5
  simp only at z1 z3 z4 z5
  refine ⟨z, z1, by rw [z2, hl], by rw [z3, hl], fun j hj => ?_, fun j hj => ?_⟩
  · exact getq_of (by rw [z2, z3]) (z4 j (by rw [hcast]; exact hj))
  · obtain ⟨q1, q2⟩ := z5 j (by rw [hcast]; exact hj)
    exact ⟨getq_of (by rw [z2, safe_len, hl]) q1, getq_of (by rw [z3, hl]) q2⟩
/-- A load that is guarded and wanted; what the operation is comes first. -/
theorem wpList_load_sub_q {P : Program} {ops : Array Oper} {rest : List Oper} {o : Oper} {a : Act} {w : World} {Q : Exit → Act → World → Prop} (ty : TypeId) (x : Operand) (ho : o.op = .load ty x) (hw : Region.wanted o (yielded ops a.tmps) = true)
    (g off k : Nat) (hx : a.eval x = .pointer (some ⟨g, off, none⟩)) (t : TypeId) (cs : Array Value) (d : TypeDesc) (hg : w.heap[g]? = some (.cells cs t (0, 0)))
    (hu : P.underlying ty = some d) (hd : (match d with | .struct _ | .array _ _ => true | _ => false) = true) (hi : (P.info? ty).map (·.size) = some k) (hk : off + k ≤ cs.size) (u : Array Value) (he : cs.extract off (off + k) = u)
    (h : wpList P ops Q rest (a.put o.dst (.agg u)) w) : wpList P ops Q (o :: rest) a w := wpList_load_sub_w hw ty x ho g off k hx t cs d hg hu hd hi hk u he h
/-- What stands while the memory of the copy in box g is made another one, up to j. -/
structure SfSt (w0 : World) (g base : Nat) (m : MV) (B : List ValV) (ma : Option Addr) (mc : Nat) (vs vo : Value) (j : Nat) (W : World) : Prop where
  bk : Bk W g 31 (mcs m.R m.c (.slice ma m.mem.length mc) vs vo)
  om : Own W base 25 (.slice ma m.mem.length mc) (mixL B m.mem j)
  os : Own W base 58 vs m.stk
  oo : Own W base 3 vo m.out
  below : Below w0.heap.size w0 W
theorem SfSt.store {w0 W : World} {g base : Nat} {m : MV} {B : List ValV} {ma : Option Addr} {mc : Nat} {vs vo : Value} {j gm : Nat} (h : SfSt w0 g base m B ma mc vs vo j W) (hB : B.length = m.mem.length) (hma : ma = some ⟨gm, 0, none⟩) (hbase : w0.heap.size ≤ base) {y : ValV} (hy : B[j]? = some y) :
    SfSt w0 g base m B ma mc vs vo (j + 1) (W.setCells gm (j * 7) (cl y)) := by
  subst hma
  have hl : (mixL B m.mem j).length = m.mem.length := mix_len hB j
  have hj : j < (mixL B m.mem j).length := by rw [hl, ← hB]; exact (List.getElem?_eq_some_iff.1 hy).1
  have om := h.om
  rw [← hl] at om
  have h1 := (own_set om hj y).1
  rw [mix_set hB hy] at h1
  have hle : base ≤ gm := (own_lt om rfl).1
  refine ⟨bk_setCells_far h.bk (fun e => own_ty om h.bk (by decide) (by rw [e]; rfl)) _ _, ?_, own_setCells_own h.os om (by decide) _ _, own_setCells_own h.oo om (by decide) _ _, below_setCells h.below (by omega) _ _⟩
  rw [hl] at h1
  exact h1
theorem SfSt.drew {w0 W : World} {g base : Nat} {m : MV} {B : List ValV} {ma : Option Addr} {mc : Nat} {vs vo : Value} {j : Nat} (h : SfSt w0 g base m B ma mc vs vo j W) : SfSt w0 g base m B ma mc vs vo j W.drew :=
  ⟨bk_drew h.bk, h.om.drew, h.os.drew, h.oo.drew, ext_drew h.below⟩
/-- When all is stored, the box holds the machine with the other memory. -/
theorem SfSt.box {w0 W : World} {g base : Nat} {m : MV} {B : List ValV} {ma : Option Addr} {mc : Nat} {vs vo : Value} {j : Nat} (h : SfSt w0 g base m B ma mc vs vo j W) (h8 : m.R.length = 8) (hB : B.length = m.mem.length) (he : mixL B m.mem j = B) : MBox g (m.mm B) (mcs m.R m.c (.slice ma m.mem.length mc) vs vo) W := by
  have om := h.om
  rw [he] at om
  exact MOwn.box (base := base) ⟨h8, _, vs, vo, rfl, om, h.os, h.oo⟩ h.bk
end Go.Proofs.YtmffdgeebhpacaaDoor
