/- Packages window and inbox side by side. -/
import Derived.Test.YtkfpooljbpijhaaDoorWinSt
import Derived.Test.YtkfpooljbpijhaaDoorIbAny
import Derived.Test.YtkfpooljbpijhaaDoorLOwnS
set_option linter.unusedVariables false
set_option linter.unusedSimpArgs false
namespace Go.Proofs.YtkfpooljbpijhaaDoor
open Go.RowKit
end Go.Proofs.YtkfpooljbpijhaaDoor
