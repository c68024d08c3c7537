import Derived.Test.YtmmmmeeepieemaaBuF
/- What Seal and Open of package keys compute. -/
namespace Go.Proofs.Ytmmmmeeepieemaa
open Go.RowKit
set_option linter.unusedVariables false
set_option linter.unusedSimpArgs false

end Go.Proofs.Ytmmmmeeepieemaa
