/- The laws' arguments opened. Printed by gen_fam.py, a program of this session. -/
import Derived.Test.YtghgjddiheebeaaDoorMFDirtyEntry
import Derived.Test.YtghgjddiheebeaaDoorMFPageRecord
import Derived.Test.YtghgjddiheebeaaDoorMFTxnEntry
import Derived.Test.YtghgjddiheebeaaDoorMFLogRecord
import Derived.StillTailTactics
import Derived.Test.YtghgjddiheebeaaDoorMF0
import Derived.Test.YtghgjddiheebeaaDoorMFRecordResult
import Derived.Test.YtghgjddiheebeaaDoorMO
namespace Go.Proofs.YtghgjddiheebeaaDoor
open Go.RowKit
set_option linter.unusedSimpArgs false
set_option linter.unusedVariables false
set_option maxRecDepth 100000

theorem opensByteS : Opens (Rep.int .u8).slice Tryd.prog 22 := Opens.slice Tryd.underlying22 (by kernel_rfl) (by decide) (Opens.int Tryd.underlying5)
end Go.Proofs.YtghgjddiheebeaaDoor
