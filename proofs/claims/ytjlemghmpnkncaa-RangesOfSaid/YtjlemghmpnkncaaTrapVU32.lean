/-
  Walks of package trap: Value at uint32.
-/
import Derived.Test.YtjlemghmpnkncaaTrapB
namespace Go.Proofs.Ytjlemghmpnkncaa
open Go.RowKit
set_option linter.unusedSimpArgs false
set_option linter.unusedVariables false

end Go.Proofs.Ytjlemghmpnkncaa
