import Derived.JoinedCond
import Derived.Test.YtpjhjefjbkjhkaaGreatDoorEnvLaidZ
import Derived.Test.YtpjhjefjbkjhkaaGreatDoorRows
/- DeskFront: what the row says of the program. -/
namespace Go.Proofs.YtpjhjefjbkjhkaaGreatDoor
open Go Go.ChangeShapes Go.WideShapes Go.ChangeAt Go.RowKit
theorem jfA : (Rows.deskFrontUptoRow.inPlace == Tryz.pinned.checked.prog.inPlace 8) = true := by kernel_rfl
theorem jfB : (Rows.deskFrontUptoRow.unfollowed == Tryz.pinned.checked.prog.unfollowed 8) = true := by kernel_rfl
theorem jfC : (Rows.deskFrontUptoRow.recurses == Tryz.pinned.checked.prog.recurses 8) = true := by kernel_rfl
theorem jfD : (Rows.deskFrontUptoRow.named == Tryz.pinned.checked.prog.varsNamed 8) = true := by kernel_rfl
theorem jf : joinedFacts Tryz.pinned.checked.prog 8 Tryz.f8 (Rows.OpenSpec.upto Rows.deskFrontSpec).bare Rows.deskFrontUptoRow = true := by
  unfold joinedFacts
  rw [jfA, jfB, jfC, jfD]
  kernel_rfl
end Go.Proofs.YtpjhjefjbkjhkaaGreatDoor
