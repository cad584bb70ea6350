/-
  Walks of package trap: Value at uint32.
-/
import Derived.Test.YtigclegknofhmaaTrapB
namespace Go.Proofs.Ytigclegknofhmaa
open Go.RowKit
set_option linter.unusedSimpArgs false
set_option linter.unusedVariables false

end Go.Proofs.Ytigclegknofhmaa
