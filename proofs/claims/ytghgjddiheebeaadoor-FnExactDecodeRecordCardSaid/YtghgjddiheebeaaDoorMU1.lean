/- UndoOf: both packages. -/
import Derived.Test.YtghgjddiheebeaaDoorMX23
import Derived.Test.YtghgjddiheebeaaDoorMG2
import Derived.Deep.RegionHeld3
namespace Go.Proofs.YtghgjddiheebeaaDoor
open Go.RowKit
set_option linter.unusedSimpArgs false
set_option linter.unusedVariables false
def zeroRecD : DLogRecord := ⟨0, 0, 0, 0, 0, ⟨false, []⟩, ⟨false, []⟩, 0, 0, [], [], []⟩
end Go.Proofs.YtghgjddiheebeaaDoor
