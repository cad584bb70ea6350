/-
  Tables of patterns: whether there is a type.
-/
import Derived.Test.YtcpjokjfjhhndaaTabB
namespace Go.Proofs.Ytcpjokjfjhhndaa
open Go.RowKit
set_option linter.unusedSimpArgs false
set_option linter.unusedVariables false

/-- One of the patterns matches. -/
def anyP (s : ByteArray) (ps : List Pat) : Bool := decide (findN s ps < ps.length)

theorem type_some {s : ByteArray} {ps : List Pat} (hf : Fulls ps) (h : findN s ps < ps.length) : (typeP s ps).toList ≠ [] := by
  rw [typeP_at h, ByteArray.toList_eq]
  exact full_t (hf _ h)

theorem type_none {s : ByteArray} {ps : List Pat} (h : ¬ findN s ps < ps.length) : (typeP s ps).toList = [] := by
  rw [typeP_none h, ByteArray.toList_eq]

end Go.Proofs.Ytcpjokjfjhhndaa
