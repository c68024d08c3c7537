/- What put of package cell does: bytes appended to a row of the caller's own. -/
import Derived.Test.YthadehaoafkaeaaRows
import Derived.Test.YthadehaoafkaeaaBlk
import Derived.Test.YthadehaoafkaeaaMath
import Derived.WalkKit
import Derived.WalkSpells
import Derived.OwnWalk
import Derived.Maps.AppendAt
import Derived.ChangeMade
namespace Go.Proofs.Ythadehaoafkaeaa
open Go.RowKit
set_option linter.unusedVariables false

/-- w' is w with new blocks and writes to block row alone, and the row that v' owns is that one or a new one. -/
def Wrote (w w' : World) (v v' : Value) : Prop := w.grownBy w' v.ownBlock ∧ (v'.ownBlock = v.ownBlock ∨ ∃ g, v'.ownBlock = some g ∧ w.heap.size ≤ g)
theorem grownBy_refl (w : World) (r : Option Nat) : w.grownBy w r := ⟨rfl, rfl, rfl, Nat.le_refl _, fun _ _ _ => rfl⟩
theorem Wrote.refl (w : World) (v : Value) : Wrote w w v v := ⟨grownBy_refl _ _, .inl rfl⟩
theorem grownBy_more {a b c : World} {r r1 : Option Nat} (h : a.grownBy b r) (k : b.grownBy c r1) (hr : r1 = r ∨ ∃ g, r1 = some g ∧ a.heap.size ≤ g) : a.grownBy c r :=
  ⟨k.os.trans h.os, k.tape.trans h.tape, k.output.trans h.output, Nat.le_trans h.size k.size, fun i hi hne => by
    refine (k.block i (Nat.lt_of_lt_of_le hi h.size) ?_).trans (h.block i hi hne)
    rcases hr with rfl | ⟨g, rfl, hg⟩
    · exact hne
    · intro e; injection e with e; omega⟩
theorem grownBy_alloc' {a b : World} {r : Option Nat} (h : a.grownBy b r) (o : Obj) : a.grownBy (b.alloc o) r := grownBy_more h (World.grownBy_alloc b o r) (.inl rfl)
theorem Wrote.step {a b c : World} {v v1 v2 : Value} (h : Wrote a b v v1) (k : b.grownBy c v1.ownBlock) (hl : v2.ownBlock = v1.ownBlock ∨ ∃ g, v2.ownBlock = some g ∧ b.heap.size ≤ g) : Wrote a c v v2 := by
  refine ⟨grownBy_more h.1 k h.2, ?_⟩
  rcases hl with hl | ⟨g, hl, hg⟩
  · rw [hl]; exact h.2
  · exact .inr ⟨g, hl, Nat.le_trans h.1.size hg⟩
/-- The bytes of a number from the greatest of 'many' down to number r. -/
def bytesUp (n : Int) (many r : Nat) : List Value := (List.range (many - r)).map fun t => .int .u8 (n / 2 ^ (8 * (many - 1 - t)) % 256)
theorem bytesUp_step (n : Int) {many r : Nat} (h0 : 0 < r) (hr : r ≤ many) : bytesUp n many (r - 1) = bytesUp n many r ++ [.int .u8 (n / 2 ^ (8 * (r - 1)) % 256)] := by
  unfold bytesUp
  have e : many - (r - 1) = (many - r) + 1 := by omega
  rw [e, List.range_succ, List.map_append, List.map_cons, List.map_nil]
  rw [show many - 1 - (many - r) = r - 1 by omega]
theorem bytesUp_len (n : Int) (many r : Nat) : (bytesUp n many r).length = many - r := by simp [bytesUp]

theorem infoU8 : (Try.prog.info? 5).map (fun i => (i.zero, i.size, i.bytes)) = some (some (.int .u8 0), 1, 1) := by kernel_rfl
def PutRel (B : Nat) (xs : List Value) (m : Nat) (n : Int) (many : Nat) (w : World) (v0 : Value) (v i : Value) (wr : World) : Prop :=
  ∃ r : Nat, r ≤ many ∧ i = .int .i64 ((r : Int) - 1) ∧ wr.ownsRow B 5 1 v (m + (many - r)) (xs ++ bytesUp n many r) ∧ Wrote w wr v0 v
def PutPost (B : Nat) (xs : List Value) (m : Nat) (n : Int) (many : Nat) (w : World) (v0 : Value) (e : Ending) (w' : World) : Prop :=
  ∃ v', e = .returned v' ∧ w'.ownsRow B 5 1 v' (m + many) (xs ++ bytesUp n many 0) ∧ Wrote w w' v0 v'
theorem put_any (B : Nat) (v0 : Value) (m : Nat) (xs : List Value) (n : Int) (many : Nat) (w : World) (hown : w.ownsRow B 5 1 v0 m xs) (hB : B ≤ w.heap.size) (hm : m ≤ 1000) (hmany : many ≤ 4)
    (hn : 0 ≤ n) (hn2 : n ≤ 1099511627776) :
    Calls Try.prog 44 #[v0, .int .i64 n, .int .i64 many] w (PutPost B xs m n many w v0) := by
  obtain ⟨i0, hi, hz0, hz1, hz2⟩ := info_parts infoU8
  go_enter Try.func44, Try.ntmps44
  go_wp2
  go_loopw [0, 7] (fun v i wr => PutRel B xs m n many w v0 v i wr) (fun _ i _ => (intOf i + 1).toNat)
  case atStart => exact ⟨many, Nat.le_refl _, by first | rfl | go_num, by simpa [bytesUp] using hown, Wrote.refl _ _⟩
  case round =>
    obtain ⟨r, hr, rfl, hrow, hwr⟩ := hrel
    by_cases h0 : 0 < r
    · obtain ⟨k, rfl⟩ : ∃ k, r = k + 1 := ⟨r - 1, by omega⟩
      have hHB := Nat.le_trans hB hwr.1.size
      have hst := bytesUp_step n h0 hr
      rw [Nat.add_sub_cancel] at hst
      have ei : (((k + 1 : Nat) : Int) - 1) = k := by omega
      rw [ei]
      have HST := Lib.hid hst
      have HWR := Lib.hid hwr
      have HROW := Lib.hid hrow
      have HR := Lib.hid hr
      clear hst hwr hrow hown ei
      have hk : k < 4 := by omega
      clear hr h0
      go_wp2_with (first
        | (at_builtin; refine wpList_append_own_at _ rfl _ _ 47 rfl B 5 i0 (.int .u8 0) 1 1 Try.underlying47 hi hz0 hz1 hz2 rfl (by decide) _ _ _ rfl (HROW.out.alloc _) ⟨wr.heap.size, 0, none⟩ 1 1 [.int .u8 (n / 2 ^ (8 * k) % 256)] rfl rfl ?c1 ?c2 ?c3 ?c4 ?c5 ?_))
      case c1 => exact cell_one_new _ _ _
      case c2 => simp [Value.oneCell']
      case c3 => unfold maxLen; omega
      case c4 => omega
      case c5 => simp; try omega
      intro v' w1 hown' hg _ hl
      have hk2 := HR.out
      have hrow' : w1.ownsRow B 5 1 v' (m + (many - k)) (xs ++ bytesUp n many k) := by
        rw [HST.out]
        rw [show m + (many - (k + 1)) + 1 = m + (many - k) by omega] at hown'
        simpa using hown'
      have hwr' : Wrote w w1 v0 v' := HWR.out.step (grownBy_more (World.grownBy_alloc wr _ _) hg (.inl rfl)) (by
        rcases hl with hl | hl
        · exact .inl hl
        · exact .inr ⟨_, hl, by simp⟩)
      have HROW' := Lib.hid hrow'
      have HWR' := Lib.hid hwr'
      clear hown' hg hl hrow' hwr' hk2
      go_wp2
      go_roundw
      case rel => exact ⟨k, by have := HR.out; omega, by first | rfl | go_num, HROW'.out, HWR'.out⟩
      case measure => first | (simp [intOf]; done) | (simp [intOf]; omega)
    · obtain rfl : r = 0 := by omega
      have HWR := Lib.hid hwr
      have HROW := Lib.hid hrow
      clear hwr hrow hown
      go_wp2
      go_ret
      exact ⟨_, rfl, by simpa using HROW.out, HWR.out⟩
end Go.Proofs.Ythadehaoafkaeaa
