/- Acts and exchanges as values: a block's whole load and store. -/
import Derived.Test.YtgnhpjakjoaejaaDoorAcMsg
import Derived.Test.YtgnhpjakjoaejaaDoorLBlk
set_option linter.unusedVariables false
set_option linter.unusedSimpArgs false
namespace Go.Proofs.YtgnhpjakjoaejaaDoor
open Go.RowKit
open Go.Proofs.YtgnhpjakjoaejaaDoor.Ac (ActS)

end Go.Proofs.YtgnhpjakjoaejaaDoor
