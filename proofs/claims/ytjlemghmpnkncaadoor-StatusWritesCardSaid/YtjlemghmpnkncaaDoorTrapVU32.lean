/-
  Walks of package trap: Value at uint32.
-/
import Derived.Test.YtjlemghmpnkncaaDoorTrapB
namespace Go.Proofs.YtjlemghmpnkncaaDoor
open Go.RowKit
set_option linter.unusedSimpArgs false
set_option linter.unusedVariables false

end Go.Proofs.YtjlemghmpnkncaaDoor
