/-
  The calls of the statements on cursors; their living call.
-/
import Derived.Test.YtjlemghmpnkncaaDoorCursorB
import Derived.Test.YtjlemghmpnkncaaDoorTrapVStr
import Derived.Test.YtjlemghmpnkncaaDoorTrapVU32
import Derived.Laws.IdiomStrings
namespace Go.Proofs.YtjlemghmpnkncaaDoor
open Go.RowKit
set_option linter.unusedSimpArgs false
set_option linter.unusedVariables false

theorem one_byte {P : Program} (src dst e : TypeId) (b : UInt8) (hs : P.underlying src = some (.slice e)) (he : P.underlying e = some (.int .u8)) (hd : P.underlying dst = some .string) (w : World) (a : Nat) (ha : a = w.heap.size) :
    (convert src dst (.slice (some ⟨a, 0, none⟩) 1 1)).run P (w.alloc (.cells #[.int .u8 (b.toNat : Int)] e)) = .ok (.string ⟨#[b]⟩) (w.alloc (.cells #[.int .u8 (b.toNat : Int)] e)) := by
  subst ha
  refine run_convert_bytes_back (w.alloc (.cells #[.int .u8 (b.toNat : Int)] e)) src dst e ⟨w.heap.size, 0, none⟩ 1 [b] hs he hd ?_
  intro j hj
  simp at hj
  subst hj
  simp [go_sem, Addr.add]

end Go.Proofs.YtjlemghmpnkncaaDoor
