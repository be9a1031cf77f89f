/- The walk of the reference's Same. -/
import Derived.Test.YtcdlmappcbbacaaDoorObE
namespace Go.Proofs.YtcdlmappcbbacaaDoor
open Go.RowKit
set_option linter.unusedVariables false
set_option linter.unusedSimpArgs false

end Go.Proofs.YtcdlmappcbbacaaDoor
