import Derived.JoinedCond
import Derived.Test.YtpjhjefjbkjhkaaGreatDoorEnvLaidZ
import Derived.Test.YtpjhjefjbkjhkaaGreatDoorRows
/- FileTurned: what the row says of the program. -/
namespace Go.Proofs.YtpjhjefjbkjhkaaGreatDoor
open Go Go.ChangeShapes Go.WideShapes Go.ChangeAt Go.RowKit
theorem jfA : (Rows.fileTurnedRow.inPlace == Tryz.pinned.checked.prog.inPlace 7) = true := by kernel_rfl
theorem jfB : (Rows.fileTurnedRow.unfollowed == Tryz.pinned.checked.prog.unfollowed 7) = true := by kernel_rfl
theorem jfC : (Rows.fileTurnedRow.recurses == Tryz.pinned.checked.prog.recurses 7) = true := by kernel_rfl
theorem jfD : (Rows.fileTurnedRow.named == Tryz.pinned.checked.prog.varsNamed 7) = true := by kernel_rfl
theorem jf : joinedFacts Tryz.pinned.checked.prog 7 Tryz.f7 (OpenSpec.ofChange Rows.fileTurnedSpec).bare Rows.fileTurnedRow = true := by
  unfold joinedFacts
  rw [jfA, jfB, jfC, jfD]
  kernel_rfl
end Go.Proofs.YtpjhjefjbkjhkaaGreatDoor
