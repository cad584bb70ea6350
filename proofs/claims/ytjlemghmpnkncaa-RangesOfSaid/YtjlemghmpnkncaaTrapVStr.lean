/-
  Walks of package trap: Value at string.
-/
import Derived.Test.YtjlemghmpnkncaaTrapB
namespace Go.Proofs.Ytjlemghmpnkncaa
open Go.RowKit
set_option linter.unusedSimpArgs false
set_option linter.unusedVariables false

end Go.Proofs.Ytjlemghmpnkncaa
