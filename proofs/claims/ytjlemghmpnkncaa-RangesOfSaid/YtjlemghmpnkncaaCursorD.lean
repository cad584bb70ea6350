/-
  Walks of package cursor: numbers of four bytes; going back, going by a text.
-/
import Derived.Test.YtjlemghmpnkncaaCursorB
import Derived.Test.YtjlemghmpnkncaaBytesMem
import Derived.Test.YtjlemghmpnkncaaBigPlain
namespace Go.Proofs.Ytjlemghmpnkncaa
open Go.RowKit
set_option linter.unusedSimpArgs false
set_option linter.unusedVariables false

end Go.Proofs.Ytjlemghmpnkncaa
