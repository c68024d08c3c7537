/- Which machines may be: plain data. -/
import Derived.Test.YtcdcmbehnccicaaFrame
import Derived.Test.YtcdcmbehnccicaaMemMath
namespace Go.Proofs.Ytcdcmbehnccicaa
open Go.RowKit
set_option linter.unusedVariables false
/-- What is wrong with a stack. -/
def stErr : List FrameV → Int
  | [] => 0
  | f :: fs => if okB f.code = false then 1 else if valCheck f.data ≠ 0 then valCheck f.data else stErr fs
/-- What is wrong with numbers that were told. -/
def outErr : List Int → Int
  | [] => 0
  | n :: ns => if n = wrap32 n then outErr ns else 1
def stepCheck (R : List ValV) (c : KeyV) (mem : List ValV) (stk : List FrameV) (out : List Int) : Int :=
  if firstErr R ≠ 0 then firstErr R else if okB c = false then 1 else if memCheck mem ≠ 0 then memCheck mem else if 16 < stk.length then 2 else if stErr stk ≠ 0 then stErr stk else if 100 < out.length then 2 else outErr out
theorem firstErr_at {m : List ValV} {k : Nat} {x : ValV} (hx : m[k]? = some x) : firstErr (m.drop k) = if valCheck x = 0 then firstErr (m.drop (k + 1)) else valCheck x := by
  obtain ⟨h, e⟩ := List.getElem?_eq_some_iff.1 hx
  rw [List.drop_eq_getElem_cons h, e, firstErr]
theorem stErr_at {m : List FrameV} {k : Nat} {x : FrameV} (hx : m[k]? = some x) : stErr (m.drop k) = if okB x.code = false then 1 else if valCheck x.data ≠ 0 then valCheck x.data else stErr (m.drop (k + 1)) := by
  obtain ⟨h, e⟩ := List.getElem?_eq_some_iff.1 hx
  rw [List.drop_eq_getElem_cons h, e, stErr]
theorem outErr_at {m : List Int} {k : Nat} {x : Int} (hx : m[k]? = some x) : outErr (m.drop k) = if x = wrap32 x then outErr (m.drop (k + 1)) else 1 := by
  obtain ⟨h, e⟩ := List.getElem?_eq_some_iff.1 hx
  rw [List.drop_eq_getElem_cons h, e, outErr]
theorem stErr_zero (m : List FrameV) : stErr m = 0 ↔ ∀ f ∈ m, f.code.Ok ∧ f.data.Ok := by
  induction m with
  | nil => simp [stErr]
  | cons f m ih =>
    rw [stErr]
    simp only [List.mem_cons, forall_eq_or_imp, ← okB_iff, ← valCheck_zero]
    cases h : okB f.code
    · simp
    · by_cases h2 : valCheck f.data = 0
      · simp only [h2]
        simp [ih, ← okB_iff, ← valCheck_zero]
      · simp [h2]
theorem wrap32_fix {n : Int} : n = wrap32 n ↔ -2147483648 ≤ n ∧ n ≤ 2147483647 := by
  unfold wrap32
  omega
theorem outErr_zero (m : List Int) : outErr m = 0 ↔ ∀ n ∈ m, -2147483648 ≤ n ∧ n ≤ 2147483647 := by
  induction m with
  | nil => simp [outErr]
  | cons f m ih =>
    rw [outErr]
    simp only [List.mem_cons, forall_eq_or_imp, ← wrap32_fix]
    by_cases h : f = wrap32 f
    · rw [if_pos h, ih]
      simp only [← wrap32_fix]
      exact ⟨fun h2 => ⟨h, h2⟩, fun h2 => h2.2⟩
    · rw [if_neg h]
      simp [h]
/-- May a machine be? -/
structure MOk (R : List ValV) (c : KeyV) (mem : List ValV) (stk : List FrameV) (out : List Int) : Prop where
  regs : ∀ v ∈ R, v.Ok
  code : c.Ok
  len : mem.length ≤ 400
  mem : ∀ v ∈ mem, v.Ok
  deep : stk.length ≤ 16
  stk : ∀ f ∈ stk, f.code.Ok ∧ f.data.Ok
  told : out.length ≤ 100
  out : ∀ n ∈ out, -2147483648 ≤ n ∧ n ≤ 2147483647
theorem stepCheck_zero {R : List ValV} {c : KeyV} {mem : List ValV} {stk : List FrameV} {out : List Int} : stepCheck R c mem stk out = 0 ↔ MOk R c mem stk out := by
  unfold stepCheck
  by_cases h1 : firstErr R = 0
  · rw [if_neg (by simp [h1])]
    by_cases h2 : okB c = true
    · rw [if_neg (by simp [h2])]
      by_cases h3 : memCheck mem = 0
      · rw [if_neg (by simp [h3])]
        by_cases h4 : 16 < stk.length
        · rw [if_pos h4]
          exact ⟨fun h => absurd h (by decide), fun h => by have := h.deep; omega⟩
        · rw [if_neg h4]
          by_cases h5 : stErr stk = 0
          · rw [if_neg (by simp [h5])]
            by_cases h6 : 100 < out.length
            · rw [if_pos h6]
              exact ⟨fun h => absurd h (by decide), fun h => by have := h.told; omega⟩
            · rw [if_neg h6]
              have hm := (memCheck_zero mem).1 h3
              exact ⟨fun h => ⟨(firstErr_zero R).1 h1, (okB_iff c).1 h2, hm.1, hm.2, by omega, (stErr_zero stk).1 h5, by omega, (outErr_zero out).1 h⟩, fun h => (outErr_zero out).2 h.out⟩
          · rw [if_pos h5]
            exact ⟨fun h => absurd h h5, fun h => absurd ((stErr_zero stk).2 h.stk) h5⟩
      · rw [if_pos h3]
        exact ⟨fun h => absurd h h3, fun h => absurd ((memCheck_zero mem).2 ⟨h.len, h.mem⟩) h3⟩
    · rw [if_pos (by simpa using h2)]
      exact ⟨fun h => absurd h (by decide), fun h => absurd ((okB_iff c).2 h.code) h2⟩
  · rw [if_pos h1]
    exact ⟨fun h => absurd h h1, fun h => absurd ((firstErr_zero R).2 h.regs) h1⟩
end Go.Proofs.Ytcdcmbehnccicaa
