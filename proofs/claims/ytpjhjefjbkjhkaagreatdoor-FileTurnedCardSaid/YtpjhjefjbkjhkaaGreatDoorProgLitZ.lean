import Derived.KernelRfl
import Derived.Test.YtpjhjefjbkjhkaaGreatDoorProgLinesZ
/- Programs that the laws hold written out. -/
namespace Go.Proofs.YtpjhjefjbkjhkaaGreatDoor
open Go Go.RowKit
set_option linter.unusedVariables false
theorem read_ah : readF [97, 58, 10, 104, 97, 108, 116] = ⟨[4194304], [⟨ba [97], 0⟩], 0, 0⟩ := by kernel_rfl
theorem read_lines0 : readF [97, 58, 10, 10, 115, 101, 116, 32, 114, 49, 32, 53, 10, 106, 117, 109, 112, 32, 97] = ⟨[packF ⟨1, 1, 0, 5⟩, packF ⟨8, 0, 0, -1⟩], [⟨ba [97], 0⟩], 0, 0⟩ := by kernel_rfl
theorem read_jumps0 : readF [105, 102, 32, 114, 50, 32, 98, 10, 104, 97, 108, 116, 10, 98, 58, 10, 106, 117, 109, 112, 32, 98] = ⟨[packF ⟨9, 2, 0, 2⟩, packF ⟨0, 0, 0, 0⟩, packF ⟨8, 0, 0, 0⟩], [⟨ba [98], 2⟩], 0, 0⟩ := by kernel_rfl
end Go.Proofs.YtpjhjefjbkjhkaaGreatDoor
