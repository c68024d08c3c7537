/- Rows of frames. -/
import Derived.Test.YtcdcmbehnccicaaMemRow
import Derived.Test.YtcdcmbehnccicaaSeq2
namespace Go.Proofs.Ytcdcmbehnccicaa
open El (cl)
open Go.RowKit
set_option linter.unusedVariables false
@[ext] structure FrameV where
  code : KeyV
  data : ValV
deriving DecidableEq
def FrameV.val (x : FrameV) : Value := .agg #[.int .i64 x.code.perm, .int .i64 x.code.base, .int .i64 x.code.len, .int .i64 x.code.at_, .int .i64 x.code.seal_, .bool x.data.is, .int .i64 x.data.n, .int .i64 x.data.k.perm, .int .i64 x.data.k.base, .int .i64 x.data.k.len, .int .i64 x.data.k.at_, .int .i64 x.data.k.seal_]
structure FrameV.wf (x : FrameV) : Prop where
  code : x.code.wf
  data : x.data.wf
def zeroF : FrameV := ⟨zeroK, zeroV⟩
instance : El FrameV where
  k := 12
  cl x := [.int .i64 x.code.perm, .int .i64 x.code.base, .int .i64 x.code.len, .int .i64 x.code.at_, .int .i64 x.code.seal_, .bool x.data.is, .int .i64 x.data.n, .int .i64 x.data.k.perm, .int .i64 x.data.k.base, .int .i64 x.data.k.len, .int .i64 x.data.k.at_, .int .i64 x.data.k.seal_]
  z := zeroF
  len _ := rfl
  one _ := by intro u hu; simp at hu; rcases hu with rfl | rfl | rfl | rfl | rfl | rfl | rfl | rfl | rfl | rfl | rfl | rfl <;> rfl
  pos := by decide
instance : Inhabited FrameV := ⟨zeroF⟩
theorem add_moreFrame (a : Addr) (i j : Nat) (hj : 0 < j) : a.add (i + j) = ⟨(a.add i).block, (a.add i).off + j, none⟩ := by
  unfold Addr.add
  rw [if_neg (by omega)]
  by_cases hi : i = 0
  · subst hi; simp
  · rw [if_neg hi]; simp [Nat.add_assoc]
theorem sl_frame {w : World} {ao : Option Addr} {n : Nat} {ks : List FrameV} (h : Sl w ao n ks) {i : Nat} (hi : i < n) {x : FrameV} (hx : ks[i]? = some x) : ∃ a, ao = some a ∧ (a.add (i * 12)).block < w.heap.size ∧
    w.cell? (a.add (i * 12)) = some (.int .i64 x.code.perm) ∧ w.cell? ⟨(a.add (i * 12)).block, (a.add (i * 12)).off + 1, none⟩ = some (.int .i64 x.code.base) ∧ w.cell? ⟨(a.add (i * 12)).block, (a.add (i * 12)).off + 2, none⟩ = some (.int .i64 x.code.len) ∧ w.cell? ⟨(a.add (i * 12)).block, (a.add (i * 12)).off + 3, none⟩ = some (.int .i64 x.code.at_) ∧ w.cell? ⟨(a.add (i * 12)).block, (a.add (i * 12)).off + 4, none⟩ = some (.int .i64 x.code.seal_) ∧ w.cell? ⟨(a.add (i * 12)).block, (a.add (i * 12)).off + 5, none⟩ = some (.bool x.data.is) ∧ w.cell? ⟨(a.add (i * 12)).block, (a.add (i * 12)).off + 6, none⟩ = some (.int .i64 x.data.n) ∧ w.cell? ⟨(a.add (i * 12)).block, (a.add (i * 12)).off + 7, none⟩ = some (.int .i64 x.data.k.perm) ∧ w.cell? ⟨(a.add (i * 12)).block, (a.add (i * 12)).off + 8, none⟩ = some (.int .i64 x.data.k.base) ∧ w.cell? ⟨(a.add (i * 12)).block, (a.add (i * 12)).off + 9, none⟩ = some (.int .i64 x.data.k.len) ∧ w.cell? ⟨(a.add (i * 12)).block, (a.add (i * 12)).off + 10, none⟩ = some (.int .i64 x.data.k.at_) ∧ w.cell? ⟨(a.add (i * 12)).block, (a.add (i * 12)).off + 11, none⟩ = some (.int .i64 x.data.k.seal_) := by
  obtain ⟨a, y, e, hb, hy, hc⟩ := h.at hi
  obtain rfl : y = x := by rw [hx] at hy; injection hy with hy; exact hy.symm
  refine ⟨a, e, by rw [el_block]; exact hb, ?_⟩
  rw [← add_moreFrame a (i * 12) 1 (by decide), ← add_moreFrame a (i * 12) 2 (by decide), ← add_moreFrame a (i * 12) 3 (by decide), ← add_moreFrame a (i * 12) 4 (by decide), ← add_moreFrame a (i * 12) 5 (by decide), ← add_moreFrame a (i * 12) 6 (by decide), ← add_moreFrame a (i * 12) 7 (by decide), ← add_moreFrame a (i * 12) 8 (by decide), ← add_moreFrame a (i * 12) 9 (by decide), ← add_moreFrame a (i * 12) 10 (by decide), ← add_moreFrame a (i * 12) 11 (by decide)]
  exact ⟨hc 0 _ rfl, hc 1 _ rfl, hc 2 _ rfl, hc 3 _ rfl, hc 4 _ rfl, hc 5 _ rfl, hc 6 _ rfl, hc 7 _ rfl, hc 8 _ rfl, hc 9 _ rfl, hc 10 _ rfl, hc 11 _ rfl⟩
end Go.Proofs.Ytcdcmbehnccicaa
