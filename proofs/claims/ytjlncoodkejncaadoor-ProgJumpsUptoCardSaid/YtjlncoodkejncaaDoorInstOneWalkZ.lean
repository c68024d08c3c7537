import Derived.Test.YtjlncoodkejncaaDoorInstOneLawZ
import Derived.Test.YtjlncoodkejncaaDoorInstTextBZ
/- The walk of InstOne. -/
namespace Go.Proofs.YtjlncoodkejncaaDoor
open Go.RowKit
set_option linter.unusedVariables false
set_option linter.unusedSimpArgs false
theorem str_eq1 {a b : ByteArray} : a.toList = b.toList ↔ a = b := by
  rw [ByteArray.toList_eq, ByteArray.toList_eq]
  exact ⟨fun h => Go.WideShapes.bytes_inj h, fun h => by rw [h]⟩
theorem run_eql_inst (x y : InstV) (W : World) : (binOp .eql 23 x.val y.val).run Tryd.prog W = .ok (.bool (decide (x = y))) W := by
  obtain ⟨op, a, b, c⟩ := x
  obtain ⟨op2, a2, b2, c2⟩ := y
  simp only [InstV.val, InstV.mk.injEq]
  rw [run_eql_struct]
  go_simp
  repeat' split
  all_goals simp [*]
theorem itext_any (op a b c : Int) (w : World) (ht : Tab w) (h10 : Tab10 w) : Calls Tryd.prog 10 #[.agg #[.int .i64 op, .int .i64 a, .int .i64 b, .int .i64 c]] w fun e w' => e = .returned (.tuple #[.string (if instOk ⟨op, a, b, c⟩ then ⟨(textL ⟨op, a, b, c⟩).toArray⟩ else ⟨#[]⟩), .int .i64 (if instOk ⟨op, a, b, c⟩ then 0 else 1)]) ∧ Below w.heap.size w w' := by
  cases hk : instOk ⟨op, a, b, c⟩
  · simpa using itext_bad op a b c hk w ht
  · simpa using itext_ok op a b c hk w ht h10

end Go.Proofs.YtjlncoodkejncaaDoor
