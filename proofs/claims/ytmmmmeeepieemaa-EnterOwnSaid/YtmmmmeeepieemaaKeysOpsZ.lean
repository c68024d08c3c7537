import Derived.Test.YtmmmmeeepieemaaBuF
/- What Move, Narrow and Drop of package keys compute. -/
namespace Go.Proofs.Ytmmmmeeepieemaa
open Go.RowKit
set_option linter.unusedVariables false
set_option linter.unusedSimpArgs false

end Go.Proofs.Ytmmmmeeepieemaa
