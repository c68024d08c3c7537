import Derived.JoinedCond
import Derived.Test.YtpjhjefjbkjhkaaGreatDoorEnvLaidZ
import Derived.Test.YtpjhjefjbkjhkaaGreatDoorRows
/- ModuleLabels: what the row says of the program. -/
namespace Go.Proofs.YtpjhjefjbkjhkaaGreatDoor
open Go Go.ChangeShapes Go.WideShapes Go.ChangeAt Go.RowKit
theorem jfA : (Rows.moduleLabelsUptoRow.inPlace == Tryz.pinned.checked.prog.inPlace 6) = true := by kernel_rfl
theorem jfB : (Rows.moduleLabelsUptoRow.unfollowed == Tryz.pinned.checked.prog.unfollowed 6) = true := by kernel_rfl
theorem jfC : (Rows.moduleLabelsUptoRow.recurses == Tryz.pinned.checked.prog.recurses 6) = true := by kernel_rfl
theorem jfD : (Rows.moduleLabelsUptoRow.named == Tryz.pinned.checked.prog.varsNamed 6) = true := by kernel_rfl
theorem jf : joinedFacts Tryz.pinned.checked.prog 6 Tryz.f6 (Rows.OpenSpec.upto Rows.moduleLabelsSpec).bare Rows.moduleLabelsUptoRow = true := by
  unfold joinedFacts
  rw [jfA, jfB, jfC, jfD]
  kernel_rfl
end Go.Proofs.YtpjhjefjbkjhkaaGreatDoor
