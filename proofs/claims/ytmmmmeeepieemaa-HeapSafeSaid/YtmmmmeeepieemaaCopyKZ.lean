import Derived.Laws.CopyOwn
import Derived.Laws.CopyRow
import Derived.Lib.AppendZerosOnto
import Derived.Test.YtmmmmeeepieemaaBuB
/- copy of elements of whatever size; an element laid into a row. No program in sight. -/
namespace Go.Proofs.Ytmmmmeeepieemaa
open Go.RowKit
set_option linter.unusedVariables false
theorem splice_shift {A B C X : List Value} {k : Nat} (hX : X.length = k) : splice (splice (A ++ (B ++ C)) (A.length + k) B) A.length X = A ++ (X ++ (B ++ C.drop k)) ∨ C.length < k := by
  by_cases hC : k ≤ C.length
  · left
    have e1 : splice (A ++ (B ++ C)) (A.length + k) B = A ++ ((B ++ C).take k ++ (B ++ C.drop k)) := by
      unfold splice
      rw [List.take_append, List.take_of_length_le (by omega), show A.length + k - A.length = k by omega, List.drop_append, List.drop_of_length_le (by omega), List.nil_append,
        show A.length + k + B.length - A.length = k + B.length by omega, List.drop_append, List.drop_of_length_le (by omega), List.nil_append, show k + B.length - B.length = k by omega, List.append_assoc]
    rw [e1]
    unfold splice
    have h2 : ((B ++ C).take k).length = k := by rw [List.length_take, List.length_append]; omega
    rw [List.take_append, List.take_of_length_le (by omega), Nat.sub_self, List.take_zero, List.append_nil, List.drop_append, List.drop_of_length_le (by omega), List.nil_append, hX, show A.length + k - A.length = k by omega,
      List.drop_append, List.drop_of_length_le (by omega), h2, Nat.sub_self, List.drop_zero, List.nil_append]
  · right; omega
theorem splice_fill {A B Z Z2 X : List Value} {k : Nat} (hX : X.length = k) (hZ : Z.length = k + B.length) : splice (splice (A ++ (Z ++ Z2)) A.length X) (A.length + k) B = A ++ (X ++ (B ++ Z2)) := by
  have e1 : splice (A ++ (Z ++ Z2)) A.length X = A ++ (X ++ (Z.drop k ++ Z2)) := by
    unfold splice
    rw [List.take_append, List.take_of_length_le (by omega), Nat.sub_self, List.take_zero, List.append_nil, List.drop_append, List.drop_of_length_le (by omega), List.nil_append, hX, show A.length + k - A.length = k by omega,
      List.drop_append, show k - Z.length = 0 by omega, List.drop_zero]
  rw [e1]
  unfold splice
  rw [List.take_append, List.take_of_length_le (by omega), show A.length + k - A.length = k by omega, List.take_append, List.take_of_length_le (by omega), hX, Nat.sub_self, List.take_zero, List.append_nil, List.append_assoc,
    List.drop_append, List.drop_of_length_le (by omega), List.nil_append, show A.length + k + B.length - A.length = k + B.length by omega, List.drop_append, List.drop_of_length_le (by omega), List.nil_append, hX,
    show k + B.length - k = B.length by omega, List.drop_append, List.drop_of_length_le (by rw [List.length_drop]; omega), List.nil_append, List.length_drop, show B.length - (Z.length - k) = 0 by omega, List.drop_zero]
theorem run_copy_rowK {P : Program} (w : World) (dT sT ty elem : TypeId) (k : Nat) (g o dLen dCap : Nat) (a : Addr) (sLen sCap m : Nat) (cur : List Value) (t : TypeId) (cs : List Value)
    (hu : P.underlying dT = some (.slice elem)) (hs : (P.info? elem).map (·.size) = some k)
    (hg : w.heap[g]? = some (.cells cur.toArray t (0, 0))) (hm : Nat.min sLen dLen = m) (hn : cs.length = m * k)
    (hsrc : ∀ j v, cs[j]? = some v → w.cell? (a.add j) = some v) (hfit : o + cs.length ≤ cur.length) (h1 : ∀ v ∈ cs, v.oneCell' = true) :
    (Builtin.copy_ #[dT, sT] ty #[.slice (some ⟨g, o, none⟩) dLen dCap, .slice (some a) sLen sCap]).run P w =
      .ok (goInt m) (w.setRow g (splice cur o cs).toArray) := by
  have hl := run_loadCells_list (P := P) w a cs hsrc
  have hst := run_storeCells_at P g o t cs 0 cur.toArray w hg (by simpa using hfit) h1
  cases hq : P.info? elem with
  | none => simp [hq] at hs
  | some i =>
    have hi : i.size = k := by simpa [hq] using hs
    simp [Builtin.copy_, run_underlying hu, Builtin.lenOf, Builtin.firstCells, sizeOf, typeInfo, hq, hi, hm, ← hn, hl, hst, splice]
section
variable {α : Type} [El α]
/-- What a row of one's own is made of. -/
theorem own_parts {w : World} {base : Nat} {T : TypeId} {g cap : Nat} {xs : List α} (h : Own w base T (.slice (some ⟨g, 0, none⟩) xs.length cap) xs) :
    base ≤ g ∧ ∃ C : List Value, w.heap[g]? = some (.cells (cls xs ++ C).toArray T (0, 0)) ∧ xs.length ≤ cap ∧ cap ≤ maxLen ∧ C.length = (cap - xs.length) * El.k α := by
  rcases h.2 with ⟨h1, _⟩ | ⟨g', cap', cur, h1, h2, h3, h4, h5, h6, h7⟩
  · cases h1
  · injection h1 with e1 e2 e3
    injection e1 with e1
    injection e1 with e1 _
    subst e1
    subst e3
    refine ⟨h2, cur.toList.drop (xs.length * El.k α), ?_, h4, h5, ?_⟩
    · rw [← h7, List.take_append_drop]; simpa using h3
    · rw [List.length_drop, Array.length_toList, h6, Nat.sub_mul]
/-- .. and so it is made. -/
theorem own_row {w : World} {base : Nat} {T : TypeId} {g cap : Nat} {xs : List α} {C : List Value} (hb : base ≤ g) (h : w.heap[g]? = some (.cells (cls xs ++ C).toArray T (0, 0))) (h4 : xs.length ≤ cap) (h5 : cap ≤ maxLen)
    (h6 : C.length = (cap - xs.length) * El.k α) : Own w base T (.slice (some ⟨g, 0, none⟩) xs.length cap) xs := by
  refine ⟨cls_length xs, .inr ⟨g, cap, _, rfl, hb, h, h4, h5, ?_, ?_⟩⟩
  · rw [List.size_toArray, List.length_append, cls_length, h6, ← Nat.add_mul]
    congr 1
    omega
  · simp [← cls_length]
end
end Go.Proofs.Ytmmmmeeepieemaa
