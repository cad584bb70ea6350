/-
  Walks of package cursor: going back; the calls of the statements on cursors, caught.
-/
import Derived.Test.YtjlemghmpnkncaaDoorCursorC
import Derived.Test.YtjlemghmpnkncaaDoorCursorD
namespace Go.Proofs.YtjlemghmpnkncaaDoor
open Go.RowKit
set_option linter.unusedSimpArgs false
set_option linter.unusedVariables false

end Go.Proofs.YtjlemghmpnkncaaDoor
