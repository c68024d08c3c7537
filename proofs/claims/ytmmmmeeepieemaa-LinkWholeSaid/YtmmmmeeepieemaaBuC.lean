import Derived.Test.YtmmmmeeepieemaaBuA
import Derived.Test.YtmmmmeeepieemaaBuB
/- Rows of values in memory. -/
namespace Go.Proofs.Ytmmmmeeepieemaa
open Go.RowKit
set_option linter.unusedVariables false

instance : El ValV where
  k := 7
  cl v := [.bool v.is, .int .i64 v.n, .int .i64 v.k.perm, .int .i64 v.k.base, .int .i64 v.k.len, .int .i64 v.k.at_, .int .i64 v.k.seal_]
  z := zeroV
  len _ := rfl
  one _ := by intro u hu; simp at hu; rcases hu with rfl | rfl | rfl | rfl | rfl | rfl | rfl <;> rfl
  pos := by decide
theorem elk_val : El.k ValV = 7 := rfl
theorem add_more (a : Addr) (i j : Nat) (hj : 0 < j) : a.add (i + j) = ⟨(a.add i).block, (a.add i).off + j, none⟩ := by
  unfold Addr.add
  rw [if_neg (by omega)]
  by_cases hi : i = 0
  · subst hi; simp
  · rw [if_neg hi]; simp [Nat.add_assoc]
/-- The cells of a value at a place. -/
def ValAt (w : World) (a : Addr) (v : ValV) : Prop :=
  w.cell? a = some (.bool v.is) ∧ w.cell? ⟨a.block, a.off + 1, none⟩ = some (.int .i64 v.n) ∧
    w.cell? ⟨a.block, a.off + 2, none⟩ = some (.int .i64 v.k.perm) ∧ w.cell? ⟨a.block, a.off + 3, none⟩ = some (.int .i64 v.k.base) ∧
    w.cell? ⟨a.block, a.off + 4, none⟩ = some (.int .i64 v.k.len) ∧ w.cell? ⟨a.block, a.off + 5, none⟩ = some (.int .i64 v.k.at_) ∧
    w.cell? ⟨a.block, a.off + 6, none⟩ = some (.int .i64 v.k.seal_)
theorem sl_val {w : World} {ao : Option Addr} {n : Nat} {vs : List ValV} (h : Sl w ao n vs) {i : Nat} (hi : i < n) : ∃ a, ao = some a ∧ a.block < w.heap.size ∧ ValAt w (a.add (i * 7)) (vs.getD i zeroV) := by
  obtain ⟨a, x, e, hb, hx, hc⟩ := h.at hi
  have hg : vs.getD i zeroV = x := by simp [List.getD, hx]
  rw [hg]
  refine ⟨a, e, hb, ?_⟩
  unfold ValAt
  rw [← add_more a (i * 7) 1 (by decide), ← add_more a (i * 7) 2 (by decide), ← add_more a (i * 7) 3 (by decide), ← add_more a (i * 7) 4 (by decide), ← add_more a (i * 7) 5 (by decide), ← add_more a (i * 7) 6 (by decide)]
  exact ⟨hc 0 _ rfl, hc 1 _ rfl, hc 2 _ rfl, hc 3 _ rfl, hc 4 _ rfl, hc 5 _ rfl, hc 6 _ rfl⟩
end Go.Proofs.Ytmmmmeeepieemaa
/- Rows of frames. -/
namespace Go.Proofs.Ytmmmmeeepieemaa
open Go.RowKit
set_option linter.unusedVariables false
@[ext] structure FrameV where
  code : KeyV
  data : ValV
deriving DecidableEq
def FrameV.val (x : FrameV) : Value := .agg #[.int .i64 x.code.perm, .int .i64 x.code.base, .int .i64 x.code.len, .int .i64 x.code.at_, .int .i64 x.code.seal_, .bool x.data.is, .int .i64 x.data.n, .int .i64 x.data.k.perm, .int .i64 x.data.k.base, .int .i64 x.data.k.len, .int .i64 x.data.k.at_, .int .i64 x.data.k.seal_]
structure FrameV.wf (x : FrameV) : Prop where
  code : x.code.wf
  data : x.data.wf
def zeroF : FrameV := ⟨zeroK, zeroV⟩
instance : El FrameV where
  k := 12
  cl x := [.int .i64 x.code.perm, .int .i64 x.code.base, .int .i64 x.code.len, .int .i64 x.code.at_, .int .i64 x.code.seal_, .bool x.data.is, .int .i64 x.data.n, .int .i64 x.data.k.perm, .int .i64 x.data.k.base, .int .i64 x.data.k.len, .int .i64 x.data.k.at_, .int .i64 x.data.k.seal_]
  z := zeroF
  len _ := rfl
  one _ := by intro u hu; simp at hu; rcases hu with rfl | rfl | rfl | rfl | rfl | rfl | rfl | rfl | rfl | rfl | rfl | rfl <;> rfl
  pos := by decide
instance : Inhabited FrameV := ⟨zeroF⟩
theorem add_moreFrame (a : Addr) (i j : Nat) (hj : 0 < j) : a.add (i + j) = ⟨(a.add i).block, (a.add i).off + j, none⟩ := by
  unfold Addr.add
  rw [if_neg (by omega)]
  by_cases hi : i = 0
  · subst hi; simp
  · rw [if_neg hi]; simp [Nat.add_assoc]
theorem sl_frame {w : World} {ao : Option Addr} {n : Nat} {ks : List FrameV} (h : Sl w ao n ks) {i : Nat} (hi : i < n) {x : FrameV} (hx : ks[i]? = some x) : ∃ a, ao = some a ∧ (a.add (i * 12)).block < w.heap.size ∧
    w.cell? (a.add (i * 12)) = some (.int .i64 x.code.perm) ∧ w.cell? ⟨(a.add (i * 12)).block, (a.add (i * 12)).off + 1, none⟩ = some (.int .i64 x.code.base) ∧ w.cell? ⟨(a.add (i * 12)).block, (a.add (i * 12)).off + 2, none⟩ = some (.int .i64 x.code.len) ∧ w.cell? ⟨(a.add (i * 12)).block, (a.add (i * 12)).off + 3, none⟩ = some (.int .i64 x.code.at_) ∧ w.cell? ⟨(a.add (i * 12)).block, (a.add (i * 12)).off + 4, none⟩ = some (.int .i64 x.code.seal_) ∧ w.cell? ⟨(a.add (i * 12)).block, (a.add (i * 12)).off + 5, none⟩ = some (.bool x.data.is) ∧ w.cell? ⟨(a.add (i * 12)).block, (a.add (i * 12)).off + 6, none⟩ = some (.int .i64 x.data.n) ∧ w.cell? ⟨(a.add (i * 12)).block, (a.add (i * 12)).off + 7, none⟩ = some (.int .i64 x.data.k.perm) ∧ w.cell? ⟨(a.add (i * 12)).block, (a.add (i * 12)).off + 8, none⟩ = some (.int .i64 x.data.k.base) ∧ w.cell? ⟨(a.add (i * 12)).block, (a.add (i * 12)).off + 9, none⟩ = some (.int .i64 x.data.k.len) ∧ w.cell? ⟨(a.add (i * 12)).block, (a.add (i * 12)).off + 10, none⟩ = some (.int .i64 x.data.k.at_) ∧ w.cell? ⟨(a.add (i * 12)).block, (a.add (i * 12)).off + 11, none⟩ = some (.int .i64 x.data.k.seal_) := by
  obtain ⟨a, y, e, hb, hy, hc⟩ := h.at hi
  obtain rfl : y = x := by rw [hx] at hy; injection hy with hy; exact hy.symm
  refine ⟨a, e, by rw [el_block]; exact hb, ?_⟩
  rw [← add_moreFrame a (i * 12) 1 (by decide), ← add_moreFrame a (i * 12) 2 (by decide), ← add_moreFrame a (i * 12) 3 (by decide), ← add_moreFrame a (i * 12) 4 (by decide), ← add_moreFrame a (i * 12) 5 (by decide), ← add_moreFrame a (i * 12) 6 (by decide), ← add_moreFrame a (i * 12) 7 (by decide), ← add_moreFrame a (i * 12) 8 (by decide), ← add_moreFrame a (i * 12) 9 (by decide), ← add_moreFrame a (i * 12) 10 (by decide), ← add_moreFrame a (i * 12) 11 (by decide)]
  exact ⟨hc 0 _ rfl, hc 1 _ rfl, hc 2 _ rfl, hc 3 _ rfl, hc 4 _ rfl, hc 5 _ rfl, hc 6 _ rfl, hc 7 _ rfl, hc 8 _ rfl, hc 9 _ rfl, hc 10 _ rfl, hc 11 _ rfl⟩
end Go.Proofs.Ytmmmmeeepieemaa
/- Rows of numbers. -/
namespace Go.Proofs.Ytmmmmeeepieemaa
open Go.RowKit
set_option linter.unusedVariables false
instance elInt : El Int where
  k := 1
  cl x := [.int .i64 x]
  z := 0
  len _ := rfl
  one _ := by intro u hu; simp at hu; subst hu; rfl
  pos := by decide
theorem sl_int {w : World} {ao : Option Addr} {n : Nat} {ks : List Int} (h : Sl w ao n ks) {i : Nat} (hi : i < n) {x : Int} (hx : ks[i]? = some x) : ∃ a, ao = some a ∧ (a.add i).block < w.heap.size ∧ w.cell? (a.add i) = some (.int .i64 x) := by
  obtain ⟨a, y, e, hb, hy, hc⟩ := h.at hi
  obtain rfl : y = x := by rw [hx] at hy; injection hy with hy; exact hy.symm
  refine ⟨a, e, by rw [el_block]; exact hb, ?_⟩
  have := hc 0 _ rfl
  have e1 : i * El.k Int + 0 = i := by show i * 1 + 0 = i; omega
  rw [e1] at this
  exact this
end Go.Proofs.Ytmmmmeeepieemaa
