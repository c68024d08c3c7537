import Derived.JoinedCond
import Derived.Test.YtpjhjefjbkjhkaaGreatDoorEnvLaidZ
import Derived.Test.YtpjhjefjbkjhkaaGreatDoorRows
/- DeskNew: what the row says of the program. -/
namespace Go.Proofs.YtpjhjefjbkjhkaaGreatDoor
open Go Go.ChangeShapes Go.WideShapes Go.ChangeAt Go.RowKit
theorem jfA : (Rows.deskNewUptoRow.inPlace == Tryz.pinned.checked.prog.inPlace 10) = true := by kernel_rfl
theorem jfB : (Rows.deskNewUptoRow.unfollowed == Tryz.pinned.checked.prog.unfollowed 10) = true := by kernel_rfl
theorem jfC : (Rows.deskNewUptoRow.recurses == Tryz.pinned.checked.prog.recurses 10) = true := by kernel_rfl
theorem jfD : (Rows.deskNewUptoRow.named == Tryz.pinned.checked.prog.varsNamed 10) = true := by kernel_rfl
theorem jf : joinedFacts Tryz.pinned.checked.prog 10 Tryz.f10 (Rows.OpenSpec.upto Rows.deskNewSpec).bare Rows.deskNewUptoRow = true := by
  unfold joinedFacts
  rw [jfA, jfB, jfC, jfD]
  kernel_rfl
end Go.Proofs.YtpjhjefjbkjhkaaGreatDoor
