/-
  Walks of package cursor: numbers of four bytes; going back, going by a text.
-/
import Derived.Test.YtjlemghmpnkncaaDoorCursorB
import Derived.Test.YtjlemghmpnkncaaDoorBytesMem
import Derived.Test.YtjlemghmpnkncaaDoorBigPlain
namespace Go.Proofs.YtjlemghmpnkncaaDoor
open Go.RowKit
set_option linter.unusedSimpArgs false
set_option linter.unusedVariables false

end Go.Proofs.YtjlemghmpnkncaaDoor
