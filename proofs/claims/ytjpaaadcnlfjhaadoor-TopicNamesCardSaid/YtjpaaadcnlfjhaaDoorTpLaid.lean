/- Nothing is asked of the rows' listed variables. -/
import Derived.Test.YtjpaaadcnlfjhaaDoorRows
import Derived.Lib.LaidTab
set_option linter.unusedVariables false
set_option linter.unusedSimpArgs false
namespace Go.Proofs.YtjpaaadcnlfjhaaDoor

def Laid (_ : World) : Prop := True
theorem Laid.of_met {W : World} {l : List (String × DataW Unit)} (_ : laidMet Tryd.prog l W) : Laid W := trivial
end Go.Proofs.YtjpaaadcnlfjhaaDoor
