import Derived.Test.YtpjhjefjbkjhkaaGreatDoorBuA
import Derived.Test.YtpjhjefjbkjhkaaGreatDoorBuB
/- Rows of values in memory. -/
namespace Go.Proofs.YtpjhjefjbkjhkaaGreatDoor
open El (cl)
open Go.RowKit
set_option linter.unusedVariables false

instance : El ValV where
  k := 7
  cl v := [.bool v.is, .int .i64 v.n, .int .i64 v.k.perm, .int .i64 v.k.base, .int .i64 v.k.len, .int .i64 v.k.at_, .int .i64 v.k.seal_]
  z := zeroV
  len _ := rfl
  one _ := by intro u hu; simp at hu; rcases hu with rfl | rfl | rfl | rfl | rfl | rfl | rfl <;> rfl
  pos := by decide
theorem elk_val : El.k ValV = 7 := rfl
theorem add_more (a : Addr) (i j : Nat) (hj : 0 < j) : a.add (i + j) = ⟨(a.add i).block, (a.add i).off + j, none⟩ := by
  unfold Addr.add
  rw [if_neg (by omega)]
  by_cases hi : i = 0
  · subst hi; simp
  · rw [if_neg hi]; simp [Nat.add_assoc]
/-- The cells of a value at a place. -/
def ValAt (w : World) (a : Addr) (v : ValV) : Prop :=
  w.cell? a = some (.bool v.is) ∧ w.cell? ⟨a.block, a.off + 1, none⟩ = some (.int .i64 v.n) ∧
    w.cell? ⟨a.block, a.off + 2, none⟩ = some (.int .i64 v.k.perm) ∧ w.cell? ⟨a.block, a.off + 3, none⟩ = some (.int .i64 v.k.base) ∧
    w.cell? ⟨a.block, a.off + 4, none⟩ = some (.int .i64 v.k.len) ∧ w.cell? ⟨a.block, a.off + 5, none⟩ = some (.int .i64 v.k.at_) ∧
    w.cell? ⟨a.block, a.off + 6, none⟩ = some (.int .i64 v.k.seal_)
theorem sl_val {w : World} {ao : Option Addr} {n : Nat} {vs : List ValV} (h : Sl w ao n vs) {i : Nat} (hi : i < n) : ∃ a, ao = some a ∧ a.block < w.heap.size ∧ ValAt w (a.add (i * 7)) (vs.getD i zeroV) := by
  obtain ⟨a, x, e, hb, hx, hc⟩ := h.at hi
  have hg : vs.getD i zeroV = x := by simp [List.getD, hx]
  rw [hg]
  refine ⟨a, e, hb, ?_⟩
  unfold ValAt
  rw [← add_more a (i * 7) 1 (by decide), ← add_more a (i * 7) 2 (by decide), ← add_more a (i * 7) 3 (by decide), ← add_more a (i * 7) 4 (by decide), ← add_more a (i * 7) 5 (by decide), ← add_more a (i * 7) 6 (by decide)]
  exact ⟨hc 0 _ rfl, hc 1 _ rfl, hc 2 _ rfl, hc 3 _ rfl, hc 4 _ rfl, hc 5 _ rfl, hc 6 _ rfl⟩
end Go.Proofs.YtpjhjefjbkjhkaaGreatDoor
/- Rows of frames. -/
namespace Go.Proofs.YtpjhjefjbkjhkaaGreatDoor
open El (cl)
open Go.RowKit
set_option linter.unusedVariables false
@[ext] structure FrameV where
  code : KeyV
  data : ValV
deriving DecidableEq
def FrameV.val (x : FrameV) : Value := .agg #[.int .i64 x.code.perm, .int .i64 x.code.base, .int .i64 x.code.len, .int .i64 x.code.at_, .int .i64 x.code.seal_, .bool x.data.is, .int .i64 x.data.n, .int .i64 x.data.k.perm, .int .i64 x.data.k.base, .int .i64 x.data.k.len, .int .i64 x.data.k.at_, .int .i64 x.data.k.seal_]
structure FrameV.wf (x : FrameV) : Prop where
  code : x.code.wf
  data : x.data.wf
def zeroF : FrameV := ⟨zeroK, zeroV⟩
instance : El FrameV where
  k := 12
  cl x := [.int .i64 x.code.perm, .int .i64 x.code.base, .int .i64 x.code.len, .int .i64 x.code.at_, .int .i64 x.code.seal_, .bool x.data.is, .int .i64 x.data.n, .int .i64 x.data.k.perm, .int .i64 x.data.k.base, .int .i64 x.data.k.len, .int .i64 x.data.k.at_, .int .i64 x.data.k.seal_]
  z := zeroF
  len _ := rfl
  one _ := by intro u hu; simp at hu; rcases hu with rfl | rfl | rfl | rfl | rfl | rfl | rfl | rfl | rfl | rfl | rfl | rfl <;> rfl
  pos := by decide
instance : Inhabited FrameV := ⟨zeroF⟩
theorem add_moreFrame (a : Addr) (i j : Nat) (hj : 0 < j) : a.add (i + j) = ⟨(a.add i).block, (a.add i).off + j, none⟩ := by
  unfold Addr.add
  rw [if_neg (by omega)]
  by_cases hi : i = 0
  · subst hi; simp
  · rw [if_neg hi]; simp [Nat.add_assoc]
theorem sl_frame {w : World} {ao : Option Addr} {n : Nat} {ks : List FrameV} (h : Sl w ao n ks) {i : Nat} (hi : i < n) {x : FrameV} (hx : ks[i]? = some x) : ∃ a, ao = some a ∧ (a.add (i * 12)).block < w.heap.size ∧
    w.cell? (a.add (i * 12)) = some (.int .i64 x.code.perm) ∧ w.cell? ⟨(a.add (i * 12)).block, (a.add (i * 12)).off + 1, none⟩ = some (.int .i64 x.code.base) ∧ w.cell? ⟨(a.add (i * 12)).block, (a.add (i * 12)).off + 2, none⟩ = some (.int .i64 x.code.len) ∧ w.cell? ⟨(a.add (i * 12)).block, (a.add (i * 12)).off + 3, none⟩ = some (.int .i64 x.code.at_) ∧ w.cell? ⟨(a.add (i * 12)).block, (a.add (i * 12)).off + 4, none⟩ = some (.int .i64 x.code.seal_) ∧ w.cell? ⟨(a.add (i * 12)).block, (a.add (i * 12)).off + 5, none⟩ = some (.bool x.data.is) ∧ w.cell? ⟨(a.add (i * 12)).block, (a.add (i * 12)).off + 6, none⟩ = some (.int .i64 x.data.n) ∧ w.cell? ⟨(a.add (i * 12)).block, (a.add (i * 12)).off + 7, none⟩ = some (.int .i64 x.data.k.perm) ∧ w.cell? ⟨(a.add (i * 12)).block, (a.add (i * 12)).off + 8, none⟩ = some (.int .i64 x.data.k.base) ∧ w.cell? ⟨(a.add (i * 12)).block, (a.add (i * 12)).off + 9, none⟩ = some (.int .i64 x.data.k.len) ∧ w.cell? ⟨(a.add (i * 12)).block, (a.add (i * 12)).off + 10, none⟩ = some (.int .i64 x.data.k.at_) ∧ w.cell? ⟨(a.add (i * 12)).block, (a.add (i * 12)).off + 11, none⟩ = some (.int .i64 x.data.k.seal_) := by
  obtain ⟨a, y, e, hb, hy, hc⟩ := h.at hi
  obtain rfl : y = x := by rw [hx] at hy; injection hy with hy; exact hy.symm
  refine ⟨a, e, by rw [el_block]; exact hb, ?_⟩
  rw [← add_moreFrame a (i * 12) 1 (by decide), ← add_moreFrame a (i * 12) 2 (by decide), ← add_moreFrame a (i * 12) 3 (by decide), ← add_moreFrame a (i * 12) 4 (by decide), ← add_moreFrame a (i * 12) 5 (by decide), ← add_moreFrame a (i * 12) 6 (by decide), ← add_moreFrame a (i * 12) 7 (by decide), ← add_moreFrame a (i * 12) 8 (by decide), ← add_moreFrame a (i * 12) 9 (by decide), ← add_moreFrame a (i * 12) 10 (by decide), ← add_moreFrame a (i * 12) 11 (by decide)]
  exact ⟨hc 0 _ rfl, hc 1 _ rfl, hc 2 _ rfl, hc 3 _ rfl, hc 4 _ rfl, hc 5 _ rfl, hc 6 _ rfl, hc 7 _ rfl, hc 8 _ rfl, hc 9 _ rfl, hc 10 _ rfl, hc 11 _ rfl⟩
end Go.Proofs.YtpjhjefjbkjhkaaGreatDoor
/- Which machines may be: plain data. -/
namespace Go.Proofs.YtpjhjefjbkjhkaaGreatDoor
open Go.RowKit
set_option linter.unusedVariables false
/-- What is wrong with a stack. -/
def stErr : List FrameV → Int
  | [] => 0
  | f :: fs => if okB f.code = false then 1 else if valCheck f.data ≠ 0 then valCheck f.data else stErr fs
/-- What is wrong with numbers that were told. -/
def outErr : List Int → Int
  | [] => 0
  | n :: ns => if n = wrap32 n then outErr ns else 1
def stepCheck (R : List ValV) (c : KeyV) (mem : List ValV) (stk : List FrameV) (out : List Int) : Int :=
  if firstErr R ≠ 0 then firstErr R else if okB c = false then 1 else if memCheck mem ≠ 0 then memCheck mem else if 16 < stk.length then 2 else if stErr stk ≠ 0 then stErr stk else if 100 < out.length then 2 else outErr out
theorem firstErr_at {m : List ValV} {k : Nat} {x : ValV} (hx : m[k]? = some x) : firstErr (m.drop k) = if valCheck x = 0 then firstErr (m.drop (k + 1)) else valCheck x := by
  obtain ⟨h, e⟩ := List.getElem?_eq_some_iff.1 hx
  rw [List.drop_eq_getElem_cons h, e, firstErr]
theorem stErr_at {m : List FrameV} {k : Nat} {x : FrameV} (hx : m[k]? = some x) : stErr (m.drop k) = if okB x.code = false then 1 else if valCheck x.data ≠ 0 then valCheck x.data else stErr (m.drop (k + 1)) := by
  obtain ⟨h, e⟩ := List.getElem?_eq_some_iff.1 hx
  rw [List.drop_eq_getElem_cons h, e, stErr]
theorem outErr_at {m : List Int} {k : Nat} {x : Int} (hx : m[k]? = some x) : outErr (m.drop k) = if x = wrap32 x then outErr (m.drop (k + 1)) else 1 := by
  obtain ⟨h, e⟩ := List.getElem?_eq_some_iff.1 hx
  rw [List.drop_eq_getElem_cons h, e, outErr]
theorem stErr_zero (m : List FrameV) : stErr m = 0 ↔ ∀ f ∈ m, f.code.Ok ∧ f.data.Ok := by
  induction m with
  | nil => simp [stErr]
  | cons f m ih =>
    rw [stErr]
    simp only [List.mem_cons, forall_eq_or_imp, ← okB_iff, ← valCheck_zero]
    cases h : okB f.code
    · simp
    · by_cases h2 : valCheck f.data = 0
      · simp only [h2]
        simp [ih, ← okB_iff, ← valCheck_zero]
      · simp [h2]
theorem wrap32_fix {n : Int} : n = wrap32 n ↔ -2147483648 ≤ n ∧ n ≤ 2147483647 := by
  unfold wrap32
  omega
theorem outErr_zero (m : List Int) : outErr m = 0 ↔ ∀ n ∈ m, -2147483648 ≤ n ∧ n ≤ 2147483647 := by
  induction m with
  | nil => simp [outErr]
  | cons f m ih =>
    rw [outErr]
    simp only [List.mem_cons, forall_eq_or_imp, ← wrap32_fix]
    by_cases h : f = wrap32 f
    · rw [if_pos h, ih]
      simp only [← wrap32_fix]
      exact ⟨fun h2 => ⟨h, h2⟩, fun h2 => h2.2⟩
    · rw [if_neg h]
      simp [h]
/-- May a machine be? -/
structure MOk (R : List ValV) (c : KeyV) (mem : List ValV) (stk : List FrameV) (out : List Int) : Prop where
  regs : ∀ v ∈ R, v.Ok
  code : c.Ok
  len : mem.length ≤ 400
  mem : ∀ v ∈ mem, v.Ok
  deep : stk.length ≤ 16
  stk : ∀ f ∈ stk, f.code.Ok ∧ f.data.Ok
  told : out.length ≤ 100
  out : ∀ n ∈ out, -2147483648 ≤ n ∧ n ≤ 2147483647
theorem stepCheck_zero {R : List ValV} {c : KeyV} {mem : List ValV} {stk : List FrameV} {out : List Int} : stepCheck R c mem stk out = 0 ↔ MOk R c mem stk out := by
  unfold stepCheck
  by_cases h1 : firstErr R = 0
  · rw [if_neg (by simp [h1])]
    by_cases h2 : okB c = true
    · rw [if_neg (by simp [h2])]
      by_cases h3 : memCheck mem = 0
      · rw [if_neg (by simp [h3])]
        by_cases h4 : 16 < stk.length
        · rw [if_pos h4]
          exact ⟨fun h => absurd h (by decide), fun h => by have := h.deep; omega⟩
        · rw [if_neg h4]
          by_cases h5 : stErr stk = 0
          · rw [if_neg (by simp [h5])]
            by_cases h6 : 100 < out.length
            · rw [if_pos h6]
              exact ⟨fun h => absurd h (by decide), fun h => by have := h.told; omega⟩
            · rw [if_neg h6]
              have hm := (memCheck_zero mem).1 h3
              exact ⟨fun h => ⟨(firstErr_zero R).1 h1, (okB_iff c).1 h2, hm.1, hm.2, by omega, (stErr_zero stk).1 h5, by omega, (outErr_zero out).1 h⟩, fun h => (outErr_zero out).2 h.out⟩
          · rw [if_pos h5]
            exact ⟨fun h => absurd h h5, fun h => absurd ((stErr_zero stk).2 h.stk) h5⟩
      · rw [if_pos h3]
        exact ⟨fun h => absurd h h3, fun h => absurd ((memCheck_zero mem).2 ⟨h.len, h.mem⟩) h3⟩
    · rw [if_pos (by simpa using h2)]
      exact ⟨fun h => absurd h (by decide), fun h => absurd ((okB_iff c).2 h.code) h2⟩
  · rw [if_pos h1]
    exact ⟨fun h => absurd h h1, fun h => absurd ((firstErr_zero R).2 h.regs) h1⟩
end Go.Proofs.YtpjhjefjbkjhkaaGreatDoor
/- Rows of numbers. -/
namespace Go.Proofs.YtpjhjefjbkjhkaaGreatDoor
open El (cl)
open Go.RowKit
set_option linter.unusedVariables false
instance elInt : El Int where
  k := 1
  cl x := [.int .i64 x]
  z := 0
  len _ := rfl
  one _ := by intro u hu; simp at hu; subst hu; rfl
  pos := by decide
theorem sl_int {w : World} {ao : Option Addr} {n : Nat} {ks : List Int} (h : Sl w ao n ks) {i : Nat} (hi : i < n) {x : Int} (hx : ks[i]? = some x) : ∃ a, ao = some a ∧ (a.add i).block < w.heap.size ∧ w.cell? (a.add i) = some (.int .i64 x) := by
  obtain ⟨a, y, e, hb, hy, hc⟩ := h.at hi
  obtain rfl : y = x := by rw [hx] at hy; injection hy with hy; exact hy.symm
  refine ⟨a, e, by rw [el_block]; exact hb, ?_⟩
  have := hc 0 _ rfl
  have e1 : i * El.k Int + 0 = i := by show i * 1 + 0 = i; omega
  rw [e1] at this
  exact this
end Go.Proofs.YtpjhjefjbkjhkaaGreatDoor
/- Sweeping as a plain function. -/
namespace Go.Proofs.YtpjhjefjbkjhkaaGreatDoor
open Go.RowKit
set_option linter.unusedVariables false
set_option linter.unusedSimpArgs false
def hitsB (b n : Int) (k : KeyV) : Bool := decide (0 < k.len ∧ 0 < n ∧ k.base < b + n ∧ b < k.base + k.len)
def swK (b n : Int) (k : KeyV) : KeyV := if hitsB b n k then zeroK else k
def swV (b n : Int) (v : ValV) : ValV := if v.is && hitsB b n v.k then zeroV else v
def swF (b n : Int) (f : FrameV) : FrameV := ⟨swK b n f.code, swV b n f.data⟩
def ctK (b n : Int) (k : KeyV) : Int := if hitsB b n k then 1 else 0
def ctV (b n : Int) (v : ValV) : Int := if v.is && hitsB b n v.k then 1 else 0
def ctF (b n : Int) (f : FrameV) : Int := ctK b n f.code + ctV b n f.data
def sumV (b n : Int) : List ValV → Int
  | [] => 0
  | v :: vs => ctV b n v + sumV b n vs
def sumF (b n : Int) : List FrameV → Int
  | [] => 0
  | f :: fs => ctF b n f + sumF b n fs
def swCount (b n : Int) (R : List ValV) (c : KeyV) (mem : List ValV) (stk : List FrameV) : Int := ctK b n c + sumV b n R + sumV b n mem + sumF b n stk
theorem ctK_bd (b n : Int) (k : KeyV) : 0 ≤ ctK b n k ∧ ctK b n k ≤ 1 := by unfold ctK; split <;> omega
theorem ctV_bd (b n : Int) (v : ValV) : 0 ≤ ctV b n v ∧ ctV b n v ≤ 1 := by unfold ctV; split <;> omega
theorem sumV_bd (b n : Int) : ∀ vs : List ValV, 0 ≤ sumV b n vs ∧ sumV b n vs ≤ vs.length
  | [] => by simp [sumV]
  | v :: vs => by
    have := sumV_bd b n vs
    have := ctV_bd b n v
    rw [sumV, List.length_cons]
    omega
theorem sumF_bd (b n : Int) : ∀ vs : List FrameV, 0 ≤ sumF b n vs ∧ sumF b n vs ≤ 2 * vs.length
  | [] => by simp [sumF]
  | v :: vs => by
    have := sumF_bd b n vs
    have := ctV_bd b n v.data
    have := ctK_bd b n v.code
    rw [sumF, List.length_cons]
    unfold ctF
    omega
theorem sumV_snoc (b n : Int) (vs : List ValV) (v : ValV) : sumV b n (vs ++ [v]) = sumV b n vs + ctV b n v := by
  induction vs with
  | nil => simp [sumV]
  | cons x xs ih => rw [List.cons_append, sumV, sumV, ih]; omega
theorem sumF_snoc (b n : Int) (vs : List FrameV) (v : FrameV) : sumF b n (vs ++ [v]) = sumF b n vs + ctF b n v := by
  induction vs with
  | nil => simp [sumF]
  | cons x xs ih => rw [List.cons_append, sumF, sumF, ih]; omega
theorem hits_zero (b n : Int) : hitsB b n zeroK = false := by unfold hitsB zeroK; simp
theorem swK_hits (b n : Int) (k : KeyV) : hitsB b n (swK b n k) = false := by
  unfold swK
  cases h : hitsB b n k
  · simp [h]
  · simp [hits_zero]
theorem swV_hits (b n : Int) (v : ValV) : ((swV b n v).is && hitsB b n (swV b n v).k) = false := by
  unfold swV
  cases h : v.is && hitsB b n v.k
  · simpa using h
  · simp [zeroV]
theorem swK_idem (b n : Int) (k : KeyV) : swK b n (swK b n k) = swK b n k := by rw [show swK b n (swK b n k) = if hitsB b n (swK b n k) then zeroK else swK b n k from rfl, swK_hits]; rfl
theorem swV_idem (b n : Int) (v : ValV) : swV b n (swV b n v) = swV b n v := by rw [show swV b n (swV b n v) = if (swV b n v).is && hitsB b n (swV b n v).k then zeroV else swV b n v from rfl, swV_hits]; rfl
theorem swF_idem (b n : Int) (f : FrameV) : swF b n (swF b n f) = swF b n f := by unfold swF; rw [swK_idem, swV_idem]
theorem ctK_swept (b n : Int) (k : KeyV) : ctK b n (swK b n k) = 0 := by unfold ctK; rw [swK_hits]; rfl
theorem ctV_swept (b n : Int) (v : ValV) : ctV b n (swV b n v) = 0 := by unfold ctV; rw [swV_hits]; rfl
theorem sumV_swept (b n : Int) (vs : List ValV) : sumV b n (vs.map (swV b n)) = 0 := by
  induction vs with
  | nil => rfl
  | cons v vs ih => rw [List.map_cons, sumV, ctV_swept, ih]; rfl
theorem sumF_swept (b n : Int) (vs : List FrameV) : sumF b n (vs.map (swF b n)) = 0 := by
  induction vs with
  | nil => rfl
  | cons v vs ih => rw [List.map_cons, sumF, ih]; unfold ctF swF; simp only; rw [ctK_swept, ctV_swept]; rfl
theorem swCount_swept (b n : Int) (R : List ValV) (c : KeyV) (mem : List ValV) (stk : List FrameV) : swCount b n (R.map (swV b n)) (swK b n c) (mem.map (swV b n)) (stk.map (swF b n)) = 0 := by
  unfold swCount; rw [ctK_swept, sumV_swept, sumV_swept, sumF_swept]; rfl
theorem swK_ok {b n : Int} {k : KeyV} (h : k.Ok) : (swK b n k).Ok := by unfold swK; split; exact zeroK_ok; exact h
theorem zeroV_ok : zeroV.Ok := .inr ⟨rfl, by decide, by decide, rfl⟩
theorem swV_ok {b n : Int} {v : ValV} (h : v.Ok) : (swV b n v).Ok := by unfold swV; split; exact zeroV_ok; exact h
theorem swept_ok {b n : Int} {R : List ValV} {c : KeyV} {mem : List ValV} {stk : List FrameV} {out : List Int} (h : MOk R c mem stk out) : MOk (R.map (swV b n)) (swK b n c) (mem.map (swV b n)) (stk.map (swF b n)) out := by
  refine ⟨fun v hv => ?_, swK_ok h.code, by simpa using h.len, fun v hv => ?_, by simpa using h.deep, fun f hf => ?_, h.told, h.out⟩
  · obtain ⟨x, hx, rfl⟩ := List.mem_map.1 hv; exact swV_ok (h.regs x hx)
  · obtain ⟨x, hx, rfl⟩ := List.mem_map.1 hv; exact swV_ok (h.mem x hx)
  · obtain ⟨x, hx, rfl⟩ := List.mem_map.1 hf; exact ⟨swK_ok (h.stk x hx).1, swV_ok (h.stk x hx).2⟩
/-- Two sweeps in either order. -/
theorem swK_comm (b n d m : Int) (k : KeyV) : swK d m (swK b n k) = swK b n (swK d m k) := by
  unfold swK
  cases h1 : hitsB b n k <;> cases h2 : hitsB d m k <;> simp [h1, h2, hits_zero]
theorem swV_comm (b n d m : Int) (v : ValV) : swV d m (swV b n v) = swV b n (swV d m v) := by
  unfold swV
  cases h1 : v.is && hitsB b n v.k <;> cases h2 : v.is && hitsB d m v.k <;> simp [h1, h2] <;> simp [zeroV]
theorem swF_comm (b n d m : Int) (f : FrameV) : swF d m (swF b n f) = swF b n (swF d m f) := by unfold swF; rw [swK_comm, swV_comm]
theorem ctK_comm (b n d m : Int) (k : KeyV) : ctK b n k + ctK d m (swK b n k) = ctK d m k + ctK b n (swK d m k) := by
  unfold swK ctK
  cases h1 : hitsB b n k <;> cases h2 : hitsB d m k <;> simp [h1, h2, hits_zero]
theorem ctV_comm (b n d m : Int) (v : ValV) : ctV b n v + ctV d m (swV b n v) = ctV d m v + ctV b n (swV d m v) := by
  unfold swV ctV
  cases h1 : v.is && hitsB b n v.k <;> cases h2 : v.is && hitsB d m v.k <;> simp [h1, h2] <;> simp [zeroV]
theorem sumV_comm (b n d m : Int) (vs : List ValV) : sumV b n vs + sumV d m (vs.map (swV b n)) = sumV d m vs + sumV b n (vs.map (swV d m)) := by
  induction vs with
  | nil => rfl
  | cons v vs ih => simp only [List.map_cons, sumV]; have := ctV_comm b n d m v; omega
theorem sumF_comm (b n d m : Int) (vs : List FrameV) : sumF b n vs + sumF d m (vs.map (swF b n)) = sumF d m vs + sumF b n (vs.map (swF d m)) := by
  induction vs with
  | nil => rfl
  | cons v vs ih => simp only [List.map_cons, sumF]; unfold ctF swF; simp only; have h1 := ctK_comm b n d m v.code; have h2 := ctV_comm b n d m v.data; unfold swF at ih; omega
theorem swCount_comm (b n d m : Int) (R : List ValV) (c : KeyV) (mem : List ValV) (stk : List FrameV) :
    swCount b n R c mem stk + swCount d m (R.map (swV b n)) (swK b n c) (mem.map (swV b n)) (stk.map (swF b n)) = swCount d m R c mem stk + swCount b n (R.map (swV d m)) (swK d m c) (mem.map (swV d m)) (stk.map (swF d m)) := by
  have h1 := ctK_comm b n d m c
  have h2 := sumV_comm b n d m R
  have h3 := sumV_comm b n d m mem
  have h4 := sumF_comm b n d m stk
  unfold swCount
  omega
end Go.Proofs.YtpjhjefjbkjhkaaGreatDoor
