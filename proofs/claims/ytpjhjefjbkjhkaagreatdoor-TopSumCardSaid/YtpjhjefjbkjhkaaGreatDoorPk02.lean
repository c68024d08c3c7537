import Derived.Test.YtpjhjefjbkjhkaaGreatDoorPk00
import Derived.Test.YtpjhjefjbkjhkaaGreatDoorPk01
set_option maxHeartbeats 40000000
set_option maxRecDepth 100000
set_option linter.unusedVariables false
set_option linter.unusedSimpArgs false
namespace Go.Proofs.YtpjhjefjbkjhkaaGreatDoor
open El (cl)
open Go.RowKit
instance : El ValV where
 k := 7
 cl v := [.bool v.is, .int .i64 v.n, .int .i64 v.k.perm, .int .i64 v.k.base, .int .i64 v.k.len, .int .i64 v.k.at_, .int .i64 v.k.seal_]
 z := zeroV
 len _ := rfl
 one _ := by intro u hu; simp at hu; rcases hu with rfl | rfl | rfl | rfl | rfl | rfl | rfl <;> rfl
 pos := by decide
theorem add_more (a : Addr) (i j : Nat) (hj : 0 < j) : a.add (i + j) = ⟨(a.add i).block, (a.add i).off + j, none⟩ := by
 unfold Addr.add
 rw [if_neg (by omega)]
 by_cases hi : i = 0
 ·subst hi; simp
 ·rw [if_neg hi]; simp [Nat.add_assoc]
def ValAt (w : World) (a : Addr) (v : ValV) : Prop :=
 w.cell? a = some (.bool v.is) ∧ w.cell? ⟨a.block, a.off + 1, none⟩ = some (.int .i64 v.n) ∧
  w.cell? ⟨a.block, a.off + 2, none⟩ = some (.int .i64 v.k.perm) ∧ w.cell? ⟨a.block, a.off + 3, none⟩ = some (.int .i64 v.k.base) ∧
  w.cell? ⟨a.block, a.off + 4, none⟩ = some (.int .i64 v.k.len) ∧ w.cell? ⟨a.block, a.off + 5, none⟩ = some (.int .i64 v.k.at_) ∧
  w.cell? ⟨a.block, a.off + 6, none⟩ = some (.int .i64 v.k.seal_)
theorem sl_val {w : World} {ao : Option Addr} {n : Nat} {vs : List ValV} (h : Sl w ao n vs) {i : Nat} (hi : i < n) : ∃ a, ao = some a ∧ a.block < w.heap.size ∧ ValAt w (a.add (i * 7)) (vs.getD i zeroV) := by
 obtain ⟨a, x, e, hb, hx, hc⟩ := h.at hi
 have hg : vs.getD i zeroV = x := by simp [List.getD, hx]
 rw [hg]
 refine ⟨a, e, hb, ?_⟩
 unfold ValAt
 rw [← add_more a (i * 7) 1 (by decide), ← add_more a (i * 7) 2 (by decide), ← add_more a (i * 7) 3 (by decide), ← add_more a (i * 7) 4 (by decide), ← add_more a (i * 7) 5 (by decide), ← add_more a (i * 7) 6 (by decide)]
 exact ⟨hc 0 _ rfl, hc 1 _ rfl, hc 2 _ rfl, hc 3 _ rfl, hc 4 _ rfl, hc 5 _ rfl, hc 6 _ rfl⟩
end Go.Proofs.YtpjhjefjbkjhkaaGreatDoor
namespace Go.Proofs.YtpjhjefjbkjhkaaGreatDoor
open El (cl)
open Go.RowKit
@[ext] structure FrameV where
 code : KeyV
 data : ValV
deriving DecidableEq
def FrameV.val (x : FrameV) : Value := .agg #[.int .i64 x.code.perm, .int .i64 x.code.base, .int .i64 x.code.len, .int .i64 x.code.at_, .int .i64 x.code.seal_, .bool x.data.is, .int .i64 x.data.n, .int .i64 x.data.k.perm, .int .i64 x.data.k.base, .int .i64 x.data.k.len, .int .i64 x.data.k.at_, .int .i64 x.data.k.seal_]
structure FrameV.wf (x : FrameV) : Prop where
 code : x.code.wf
 data : x.data.wf
def zeroF : FrameV := ⟨zeroK, zeroV⟩
instance : El FrameV where
 k := 12
 cl x := [.int .i64 x.code.perm, .int .i64 x.code.base, .int .i64 x.code.len, .int .i64 x.code.at_, .int .i64 x.code.seal_, .bool x.data.is, .int .i64 x.data.n, .int .i64 x.data.k.perm, .int .i64 x.data.k.base, .int .i64 x.data.k.len, .int .i64 x.data.k.at_, .int .i64 x.data.k.seal_]
 z := zeroF
 len _ := rfl
 one _ := by intro u hu; simp at hu; rcases hu with rfl | rfl | rfl | rfl | rfl | rfl | rfl | rfl | rfl | rfl | rfl | rfl <;> rfl
 pos := by decide
instance : Inhabited FrameV := ⟨zeroF⟩
theorem add_moreFrame (a : Addr) (i j : Nat) (hj : 0 < j) : a.add (i + j) = ⟨(a.add i).block, (a.add i).off + j, none⟩ := by
 unfold Addr.add
 rw [if_neg (by omega)]
 by_cases hi : i = 0
 ·subst hi; simp
 ·rw [if_neg hi]; simp [Nat.add_assoc]
theorem sl_frame {w : World} {ao : Option Addr} {n : Nat} {ks : List FrameV} (h : Sl w ao n ks) {i : Nat} (hi : i < n) {x : FrameV} (hx : ks[i]? = some x) : ∃ a, ao = some a ∧ (a.add (i * 12)).block < w.heap.size ∧
  w.cell? (a.add (i * 12)) = some (.int .i64 x.code.perm) ∧ w.cell? ⟨(a.add (i * 12)).block, (a.add (i * 12)).off + 1, none⟩ = some (.int .i64 x.code.base) ∧ w.cell? ⟨(a.add (i * 12)).block, (a.add (i * 12)).off + 2, none⟩ = some (.int .i64 x.code.len) ∧ w.cell? ⟨(a.add (i * 12)).block, (a.add (i * 12)).off + 3, none⟩ = some (.int .i64 x.code.at_) ∧ w.cell? ⟨(a.add (i * 12)).block, (a.add (i * 12)).off + 4, none⟩ = some (.int .i64 x.code.seal_) ∧ w.cell? ⟨(a.add (i * 12)).block, (a.add (i * 12)).off + 5, none⟩ = some (.bool x.data.is) ∧ w.cell? ⟨(a.add (i * 12)).block, (a.add (i * 12)).off + 6, none⟩ = some (.int .i64 x.data.n) ∧ w.cell? ⟨(a.add (i * 12)).block, (a.add (i * 12)).off + 7, none⟩ = some (.int .i64 x.data.k.perm) ∧ w.cell? ⟨(a.add (i * 12)).block, (a.add (i * 12)).off + 8, none⟩ = some (.int .i64 x.data.k.base) ∧ w.cell? ⟨(a.add (i * 12)).block, (a.add (i * 12)).off + 9, none⟩ = some (.int .i64 x.data.k.len) ∧ w.cell? ⟨(a.add (i * 12)).block, (a.add (i * 12)).off + 10, none⟩ = some (.int .i64 x.data.k.at_) ∧ w.cell? ⟨(a.add (i * 12)).block, (a.add (i * 12)).off + 11, none⟩ = some (.int .i64 x.data.k.seal_) := by
 obtain ⟨a, y, e, hb, hy, hc⟩ := h.at hi
 obtain rfl : y = x := by rw [hx] at hy; injection hy with hy; exact hy.symm
 refine ⟨a, e, by rw [el_block]; exact hb, ?_⟩
 rw [← add_moreFrame a (i * 12) 1 (by decide), ← add_moreFrame a (i * 12) 2 (by decide), ← add_moreFrame a (i * 12) 3 (by decide), ← add_moreFrame a (i * 12) 4 (by decide), ← add_moreFrame a (i * 12) 5 (by decide), ← add_moreFrame a (i * 12) 6 (by decide), ← add_moreFrame a (i * 12) 7 (by decide), ← add_moreFrame a (i * 12) 8 (by decide), ← add_moreFrame a (i * 12) 9 (by decide), ← add_moreFrame a (i * 12) 10 (by decide), ← add_moreFrame a (i * 12) 11 (by decide)]
 exact ⟨hc 0 _ rfl, hc 1 _ rfl, hc 2 _ rfl, hc 3 _ rfl, hc 4 _ rfl, hc 5 _ rfl, hc 6 _ rfl, hc 7 _ rfl, hc 8 _ rfl, hc 9 _ rfl, hc 10 _ rfl, hc 11 _ rfl⟩
end Go.Proofs.YtpjhjefjbkjhkaaGreatDoor
namespace Go.Proofs.YtpjhjefjbkjhkaaGreatDoor
open Go.RowKit
def stErr : List FrameV → Int
 | [] => 0
 | f :: fs => if okB f.code = false then 1 else if valCheck f.data ≠ 0 then valCheck f.data else stErr fs
def outErr : List Int → Int
 | [] => 0
 | n :: ns => if n = wrap32 n then outErr ns else 1
def stepCheck (R : List ValV) (c : KeyV) (mem : List ValV) (stk : List FrameV) (out : List Int) : Int :=
 if firstErr R ≠ 0 then firstErr R else if okB c = false then 1 else if memCheck mem ≠ 0 then memCheck mem else if 16 < stk.length then 2 else if stErr stk ≠ 0 then stErr stk else if 100 < out.length then 2 else outErr out
theorem firstErr_at {m : List ValV} {k : Nat} {x : ValV} (hx : m[k]? = some x) : firstErr (m.drop k) = if valCheck x = 0 then firstErr (m.drop (k + 1)) else valCheck x := by
 obtain ⟨h, e⟩ := List.getElem?_eq_some_iff.1 hx
 rw [List.drop_eq_getElem_cons h, e, firstErr]
theorem stErr_at {m : List FrameV} {k : Nat} {x : FrameV} (hx : m[k]? = some x) : stErr (m.drop k) = if okB x.code = false then 1 else if valCheck x.data ≠ 0 then valCheck x.data else stErr (m.drop (k + 1)) := by
 obtain ⟨h, e⟩ := List.getElem?_eq_some_iff.1 hx
 rw [List.drop_eq_getElem_cons h, e, stErr]
theorem outErr_at {m : List Int} {k : Nat} {x : Int} (hx : m[k]? = some x) : outErr (m.drop k) = if x = wrap32 x then outErr (m.drop (k + 1)) else 1 := by
 obtain ⟨h, e⟩ := List.getElem?_eq_some_iff.1 hx
 rw [List.drop_eq_getElem_cons h, e, outErr]
theorem stErr_zero (m : List FrameV) : stErr m = 0 ↔ ∀ f ∈ m, f.code.Ok ∧ f.data.Ok := by
 induction m with
 | nil => simp [stErr]
 | cons f m ih =>
  rw [stErr]
  simp only [List.mem_cons, forall_eq_or_imp, ← okB_iff, ← valCheck_zero]
  cases h : okB f.code
  ·simp
  ·by_cases h2 : valCheck f.data = 0
   ·simp only [h2]
    simp [ih, ← okB_iff, ← valCheck_zero]
   ·simp [h2]
theorem wrap32_fix {n : Int} : n = wrap32 n ↔ -2147483648 ≤ n ∧ n ≤ 2147483647 := by
 unfold wrap32
 omega
theorem outErr_zero (m : List Int) : outErr m = 0 ↔ ∀ n ∈ m, -2147483648 ≤ n ∧ n ≤ 2147483647 := by
 induction m with
 | nil => simp [outErr]
 | cons f m ih =>
  rw [outErr]
  simp only [List.mem_cons, forall_eq_or_imp, ← wrap32_fix]
  by_cases h : f = wrap32 f
  ·rw [if_pos h, ih]
   simp only [← wrap32_fix]
   exact ⟨fun h2 => ⟨h, h2⟩, fun h2 => h2.2⟩
  ·rw [if_neg h]
   simp [h]
structure MOk (R : List ValV) (c : KeyV) (mem : List ValV) (stk : List FrameV) (out : List Int) : Prop where
 regs : ∀ v ∈ R, v.Ok
 code : c.Ok
 len : mem.length ≤ 400
 mem : ∀ v ∈ mem, v.Ok
 deep : stk.length ≤ 16
 stk : ∀ f ∈ stk, f.code.Ok ∧ f.data.Ok
 told : out.length ≤ 100
 out : ∀ n ∈ out, -2147483648 ≤ n ∧ n ≤ 2147483647
theorem stepCheck_zero {R : List ValV} {c : KeyV} {mem : List ValV} {stk : List FrameV} {out : List Int} : stepCheck R c mem stk out = 0 ↔ MOk R c mem stk out := by
 unfold stepCheck
 by_cases h1 : firstErr R = 0
 ·rw [if_neg (by simp [h1])]
  by_cases h2 : okB c = true
  ·rw [if_neg (by simp [h2])]
   by_cases h3 : memCheck mem = 0
   ·rw [if_neg (by simp [h3])]
    by_cases h4 : 16 < stk.length
    ·rw [if_pos h4]
     exact ⟨fun h => absurd h (by decide), fun h => by have := h.deep; omega⟩
    ·rw [if_neg h4]
     by_cases h5 : stErr stk = 0
     ·rw [if_neg (by simp [h5])]
      by_cases h6 : 100 < out.length
      ·rw [if_pos h6]
       exact ⟨fun h => absurd h (by decide), fun h => by have := h.told; omega⟩
      ·rw [if_neg h6]
       have hm := (memCheck_zero mem).1 h3
       exact ⟨fun h => ⟨(firstErr_zero R).1 h1, (okB_iff c).1 h2, hm.1, hm.2, by omega, (stErr_zero stk).1 h5, by omega, (outErr_zero out).1 h⟩, fun h => (outErr_zero out).2 h.out⟩
     ·rw [if_pos h5]
      exact ⟨fun h => absurd h h5, fun h => absurd ((stErr_zero stk).2 h.stk) h5⟩
   ·rw [if_pos h3]
    exact ⟨fun h => absurd h h3, fun h => absurd ((memCheck_zero mem).2 ⟨h.len, h.mem⟩) h3⟩
  ·rw [if_pos (by simpa using h2)]
   exact ⟨fun h => absurd h (by decide), fun h => absurd ((okB_iff c).2 h.code) h2⟩
 ·rw [if_pos h1]
  exact ⟨fun h => absurd h h1, fun h => absurd ((firstErr_zero R).2 h.regs) h1⟩
end Go.Proofs.YtpjhjefjbkjhkaaGreatDoor
namespace Go.Proofs.YtpjhjefjbkjhkaaGreatDoor
open El (cl)
open Go.RowKit
instance elInt : El Int where
 k := 1
 cl x := [.int .i64 x]
 z := 0
 len _ := rfl
 one _ := by intro u hu; simp at hu; subst hu; rfl
 pos := by decide
theorem sl_int {w : World} {ao : Option Addr} {n : Nat} {ks : List Int} (h : Sl w ao n ks) {i : Nat} (hi : i < n) {x : Int} (hx : ks[i]? = some x) : ∃ a, ao = some a ∧ (a.add i).block < w.heap.size ∧ w.cell? (a.add i) = some (.int .i64 x) := by
 obtain ⟨a, y, e, hb, hy, hc⟩ := h.at hi
 obtain rfl : y = x := by rw [hx] at hy; injection hy with hy; exact hy.symm
 refine ⟨a, e, by rw [el_block]; exact hb, ?_⟩
 have := hc 0 _ rfl
 have e1 : i * El.k Int + 0 = i := by show i * 1 + 0 = i; omega
 rw [e1] at this
 exact this
end Go.Proofs.YtpjhjefjbkjhkaaGreatDoor
namespace Go.Proofs.YtpjhjefjbkjhkaaGreatDoor
open Go.RowKit
theorem zeroV_ok : zeroV.Ok := .inr ⟨rfl, by decide, by decide, rfl⟩
end Go.Proofs.YtpjhjefjbkjhkaaGreatDoor
