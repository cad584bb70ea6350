/-
  Walks of package cursor: going back; the calls of the statements on cursors, caught.
-/
import Derived.Test.YtjlemghmpnkncaaCursorC
import Derived.Test.YtjlemghmpnkncaaCursorD
namespace Go.Proofs.Ytjlemghmpnkncaa
open Go.RowKit
set_option linter.unusedSimpArgs false
set_option linter.unusedVariables false

end Go.Proofs.Ytjlemghmpnkncaa
