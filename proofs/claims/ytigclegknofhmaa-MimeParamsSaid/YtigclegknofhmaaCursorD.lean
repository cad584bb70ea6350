/-
  Walks of package cursor: numbers of four bytes; going back, going by a text.
-/
import Derived.Test.YtigclegknofhmaaCursorB
import Derived.Test.YtigclegknofhmaaBytesMem
import Derived.Test.YtigclegknofhmaaBigPlain
namespace Go.Proofs.Ytigclegknofhmaa
open Go.RowKit
set_option linter.unusedSimpArgs false
set_option linter.unusedVariables false

end Go.Proofs.Ytigclegknofhmaa
