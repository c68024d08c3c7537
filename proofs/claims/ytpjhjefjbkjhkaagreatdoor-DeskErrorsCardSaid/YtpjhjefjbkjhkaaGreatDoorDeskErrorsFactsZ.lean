import Derived.JoinedCond
import Derived.Test.YtpjhjefjbkjhkaaGreatDoorEnvLaidZ
import Derived.Test.YtpjhjefjbkjhkaaGreatDoorRows
/- DeskErrors: what the row says of the program. -/
namespace Go.Proofs.YtpjhjefjbkjhkaaGreatDoor
open Go Go.ChangeShapes Go.WideShapes Go.ChangeAt Go.RowKit
theorem jfA : (Rows.deskErrorsRow.inPlace == Tryz.pinned.checked.prog.inPlace 9) = true := by kernel_rfl
theorem jfB : (Rows.deskErrorsRow.unfollowed == Tryz.pinned.checked.prog.unfollowed 9) = true := by kernel_rfl
theorem jfC : (Rows.deskErrorsRow.recurses == Tryz.pinned.checked.prog.recurses 9) = true := by kernel_rfl
theorem jfD : (Rows.deskErrorsRow.named == Tryz.pinned.checked.prog.varsNamed 9) = true := by kernel_rfl
theorem jf : joinedFacts Tryz.pinned.checked.prog 9 Tryz.f9 (OpenSpec.ofChange Rows.deskErrorsSpec).bare Rows.deskErrorsRow = true := by
  unfold joinedFacts
  rw [jfA, jfB, jfC, jfD]
  kernel_rfl
end Go.Proofs.YtpjhjefjbkjhkaaGreatDoor
