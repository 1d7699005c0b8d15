/- The order of events, as the reference compares them. -/
import Derived.Test.YtlnfhlmgnppcbaaD
namespace Go.Proofs.Ytlnfhlmgnppcbaa
open Go.RowKit Go.ChangeShapes Go.WideShapes Go.Deep
set_option linter.unusedVariables false
set_option linter.unusedSimpArgs false
end Go.Proofs.Ytlnfhlmgnppcbaa
