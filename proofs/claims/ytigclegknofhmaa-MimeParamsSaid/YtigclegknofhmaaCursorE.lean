/-
  Walks of package cursor: going back; the calls of the statements on cursors, caught.
-/
import Derived.Test.YtigclegknofhmaaCursorC
import Derived.Test.YtigclegknofhmaaCursorD
namespace Go.Proofs.Ytigclegknofhmaa
open Go.RowKit
set_option linter.unusedSimpArgs false
set_option linter.unusedVariables false

end Go.Proofs.Ytigclegknofhmaa
