import Derived.Test.YtmffdgeebhpacaaDoorBuH
import Derived.Test.YtmffdgeebhpacaaDoorKeyEqZ
import Derived.Test.YtmffdgeebhpacaaDoorReachKeysZ
/- What reach.Keys says of whatever machine; a machine that is nought; a machine's parts stored. -/
namespace Go.Proofs.YtmffdgeebhpacaaDoor
open El (cl)
open Go.RowKit
set_option linter.unusedVariables false
theorem rch_onlyZ {d : Bool} {mem : List ValV} {P : KeyV → Prop} (hP : ∀ k, P k → opensB d k = false) {x : KeyV} (h : Rch d mem P x) : P x := by
  induction h with
  | root h => exact h
  | next _ n ih => exact absurd n.1 (by rw [hP _ ih]; decide)
theorem zeros_noZ : ∀ v ∈ List.replicate 8 zeroV, v.is = true → False := fun v hv hi => by
  rw [List.eq_of_mem_replicate hv] at hi
  cases hi
theorem roots_zeroZ {d : Bool} {c k : KeyV} : rootsP d (List.replicate 8 zeroV) c [] k ↔ k = c := by
  constructor
  · rintro (h | ⟨v, hv, hi, _⟩ | ⟨_, f, hf, _⟩)
    · exact h
    · exact (zeros_noZ v hv hi).elim
    · cases hf
  · exact .inl
theorem rch_shut {d : Bool} {mem : List ValV} {c x : KeyV} (ho : opensB d c = false) : Rch d mem (rootsP d (List.replicate 8 zeroV) c []) x ↔ x = c :=
  ⟨fun h => roots_zeroZ.1 (rch_onlyZ (fun k hk => by rw [roots_zeroZ.1 hk]; exact ho) h), fun h => .root (roots_zeroZ.2 h)⟩
theorem one_only {a : KeyV} {ts : List KeyV} (h : ∀ x, x ∈ ts ↔ x = a) (hn : ts.Nodup) : ts = [a] := by
  match ts, h, hn with
  | [], h, _ => exact absurd ((h a).2 rfl) (by simp)
  | [x], h, _ => rw [(h x).1 (by simp)]
  | x :: y :: l, h, hn =>
    have h1 := (h x).1 (by simp)
    have h2 := (h y).1 (by simp)
    rw [h1, h2] at hn
    simp at hn
/-- What reach.Keys says of whatever machine. -/
def KeysAll (W : World) (ck : Int) (P : KeyV → Prop) (e : Ending) (w' : World) : Prop := ∃ (ao : Option Addr) (n c : Nat), e = .returned (.tuple #[.slice ao n c, .int .i64 ck]) ∧ (ck ≠ 0 → n = 0) ∧ (ck = 0 → ∃ ts : List KeyV, Sl w' ao n ts ∧ (∀ x, x ∈ ts ↔ P x) ∧ (∀ x ∈ ts, x.Ok) ∧ ts.length ≤ 500 ∧ ts.Nodup ∧ ∀ a, ao = some a → W.heap.size ≤ a.block) ∧ Below W.heap.size W w'
theorem keys_all {R : List ValV} {c : KeyV} {mem : List ValV} {stk : List FrameV} {out : List Int} {cs : Array Value} {W : World} (h : MRow R c mem stk out cs W) (d : Bool) {ck : Int} (hck : stepCheck R c mem stk out = ck) :
    Calls Tryd.prog 38 #[.agg cs, .bool d] W (KeysAll W ck (Rch d mem (rootsP d R c stk))) := by
  by_cases hc : ck = 0
  · subst hc
    refine (keys_any h d (stepCheck_zero.1 hck)).mono ?_
    rintro e w' ⟨ao, cap, ts, rfl, h1, h2, h3, h4, h5⟩
    exact ⟨ao, ts.length, cap, rfl, fun h => absurd rfl h, fun _ => ⟨ts, h1, h2, h3, h4.1, h4.2.1, h4.2.2⟩, h5⟩
  · refine (keys_bad h d (by rw [hck]; exact hc)).mono ?_
    rintro e w' ⟨rfl, hb⟩
    exact ⟨none, 0, 0, by rw [hck], fun _ => rfl, fun h => absurd h hc, hb⟩
theorem zrow (W : World) : MRow (List.replicate 8 zeroV) zeroK [] [] [] #[.bool false, .int .i64 0, .int .i64 0, .int .i64 0, .int .i64 0, .int .i64 0, .int .i64 0, .bool false, .int .i64 0, .int .i64 0, .int .i64 0, .int .i64 0, .int .i64 0, .int .i64 0, .bool false, .int .i64 0, .int .i64 0, .int .i64 0, .int .i64 0, .int .i64 0, .int .i64 0, .bool false, .int .i64 0, .int .i64 0, .int .i64 0, .int .i64 0, .int .i64 0, .int .i64 0, .bool false, .int .i64 0, .int .i64 0, .int .i64 0, .int .i64 0, .int .i64 0, .int .i64 0, .bool false, .int .i64 0, .int .i64 0, .int .i64 0, .int .i64 0, .int .i64 0, .int .i64 0, .bool false, .int .i64 0, .int .i64 0, .int .i64 0, .int .i64 0, .int .i64 0, .int .i64 0, .bool false, .int .i64 0, .int .i64 0, .int .i64 0, .int .i64 0, .int .i64 0, .int .i64 0, .int .i64 0, .int .i64 0, .int .i64 0, .int .i64 0, .int .i64 0, .slice none 0 0, .slice none 0 0, .slice none 0 0] W := ⟨rfl, none, none, none, 0, 0, 0, rfl, Sl.nil _ _, Sl.nil _ _, Sl.nil _ _⟩
theorem keys_zero (d : Bool) (W : World) : Calls Tryd.prog 38 #[.agg #[.bool false, .int .i64 0, .int .i64 0, .int .i64 0, .int .i64 0, .int .i64 0, .int .i64 0, .bool false, .int .i64 0, .int .i64 0, .int .i64 0, .int .i64 0, .int .i64 0, .int .i64 0, .bool false, .int .i64 0, .int .i64 0, .int .i64 0, .int .i64 0, .int .i64 0, .int .i64 0, .bool false, .int .i64 0, .int .i64 0, .int .i64 0, .int .i64 0, .int .i64 0, .int .i64 0, .bool false, .int .i64 0, .int .i64 0, .int .i64 0, .int .i64 0, .int .i64 0, .int .i64 0, .bool false, .int .i64 0, .int .i64 0, .int .i64 0, .int .i64 0, .int .i64 0, .int .i64 0, .bool false, .int .i64 0, .int .i64 0, .int .i64 0, .int .i64 0, .int .i64 0, .int .i64 0, .bool false, .int .i64 0, .int .i64 0, .int .i64 0, .int .i64 0, .int .i64 0, .int .i64 0, .int .i64 0, .int .i64 0, .int .i64 0, .int .i64 0, .int .i64 0, .slice none 0 0, .slice none 0 0, .slice none 0 0], .bool d] W fun e w' => ∃ (ao : Option Addr) (c : Nat), e = .returned (.tuple #[.slice ao 1 c, .int .i64 0]) ∧ Sl w' ao 1 [zeroK] ∧ Below W.heap.size W w' := by
  refine (keys_any (zrow W) d (stepCheck_zero.1 (by decide))).mono ?_
  rintro e w' ⟨ao, cap, ts, rfl, h1, h2, h3, h4, h5⟩
  obtain rfl : ts = [zeroK] := one_only (fun x => (h2 x).trans (rch_shut (by cases d <;> decide))) h4.2.1
  exact ⟨ao, cap, rfl, h1, h5⟩
/-- The cells of a machine that was handed in, of other registers and another code key. -/
def MachA.csF (x : MachA) (R : List ValV) (c : KeyV) : Array Value := mcs R c (.slice x.ma x.mem.length x.mc) (.slice x.sa x.stk.length x.sc) (.slice x.oa x.out.length x.oc)
section
variable {x : MachA} {w W : World} {R : List ValV} {c : KeyV} {r : Nat} {v : ValV}
theorem csF_box (hx : x.ok w) (hb : Below w.heap.size w W) (h8 : R.length = 8) (hk : Bk W w.heap.size 31 (x.csF R c)) : MBR w.heap.size R c x.mem x.stk x.out (x.csF R c) W :=
  ⟨h8, hk, x.ma, x.sa, x.oa, x.mc, x.sc, x.oc, rfl, hx.mem.below hb, hx.stk.below hb, hx.out.below hb⟩
theorem csF_get (h8 : R.length = 8) (hr : r < 8) : ∃ y, R[r]? = some y := ⟨_, List.getElem?_eq_getElem (by omega)⟩
theorem csF_reg (h8 : R.length = 8) (hr : r < 8) (hk : Bk W w.heap.size 31 (x.csF R c)) (v : ValV) : Bk (W.setCells w.heap.size (r * 7) (cl v)) w.heap.size 31 (x.csF (R.set r v) c) := by
  obtain ⟨y, hy⟩ := csF_get h8 hr
  unfold MachA.csF
  rw [← mcs_regset (c := c) (ms := .slice x.ma x.mem.length x.mc) (ss := .slice x.sa x.stk.length x.sc) (os := .slice x.oa x.out.length x.oc) h8 hy (us := cl v) rfl]
  exact bk_setCells (w := W) _ _ _ _ hk
theorem cls_atq7 {xs : List ValV} {i j : Nat} {x : ValV} (hx : xs[i]? = some x) (hj : j < 7) : (cls xs)[i * 7 + j]? = (cl x)[j]? := by
  obtain ⟨h, e⟩ := List.getElem?_eq_some_iff.1 hx
  have := cls_at xs i h j hj
  rw [e] at this
  exact this
theorem mcs_regcell {R : List ValV} {c : KeyV} {ms ss os : Value} {r j : Nat} {y : ValV} (hy : R[r]? = some y) (hj : j < 7) : (mcs R c ms ss os)[r * 7 + j]? = (cl y)[j]? := by
  have hl : r < R.length := (List.getElem?_eq_some_iff.1 hy).1
  unfold mcs
  rw [List.getElem?_toArray, List.getElem?_append_left (by rw [cls_length]; show r * 7 + j < R.length * 7; omega)]
  exact cls_atq7 hy hj
theorem csF_cells (h8 : R.length = 8) (hr : r < 8) (hk : Bk W w.heap.size 31 (x.csF R c)) : ∃ y : ValV,
    W.cell? ⟨w.heap.size, r * 7, none⟩ = some (.bool y.is) ∧ W.cell? ⟨w.heap.size, r * 7 + 1, none⟩ = some (.int .i64 y.n) ∧ W.cell? ⟨w.heap.size, r * 7 + 2, none⟩ = some (.int .i64 y.k.perm) ∧ W.cell? ⟨w.heap.size, r * 7 + 3, none⟩ = some (.int .i64 y.k.base) ∧
      W.cell? ⟨w.heap.size, r * 7 + 4, none⟩ = some (.int .i64 y.k.len) ∧ W.cell? ⟨w.heap.size, r * 7 + 5, none⟩ = some (.int .i64 y.k.at_) ∧ W.cell? ⟨w.heap.size, r * 7 + 6, none⟩ = some (.int .i64 y.k.seal_) := by
  obtain ⟨y, hy⟩ := csF_get h8 hr
  have h := fun j (hj : j < 7) => (hk.cell (r * 7 + j)).trans (mcs_regcell (c := c) (ms := .slice x.ma x.mem.length x.mc) (ss := .slice x.sa x.stk.length x.sc) (os := .slice x.oa x.out.length x.oc) hy hj)
  exact ⟨y, h 0 (by decide), h 1 (by decide), h 2 (by decide), h 3 (by decide), h 4 (by decide), h 5 (by decide), h 6 (by decide)⟩
end
theorem setCells7R (w : World) (g i : Nat) (u0 u1 u2 u3 u4 u5 u6 : Value) :
    ((((((w.setCell ⟨g, i, none⟩ u0).setCell ⟨g, i + 1, none⟩ u1).setCell ⟨g, i + 2, none⟩ u2).setCell ⟨g, i + 3, none⟩ u3).setCell ⟨g, i + 4, none⟩ u4).setCell ⟨g, i + 5, none⟩ u5).setCell ⟨g, i + 6, none⟩ u6 = w.setCells g i [u0, u1, u2, u3, u4, u5, u6] := rfl
end Go.Proofs.YtmffdgeebhpacaaDoor
