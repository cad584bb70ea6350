/-
  A region that draws its order, all of whose operations but the last few read or call quietly.
-/
import Derived.Test.YtjlemghmpnkncaaDoorBase
import Derived.StillTailTactics
namespace Go.Proofs.YtjlemghmpnkncaaDoor
open Go.RowKit

theorem wp_region_tail {P : Program} {id : Nat} {Q : Exit → Act → World → Prop} {a : Act} {w : World} {l : List Oper} (n : Nat) (hm : P.follows .mixedOrders = true) (hB : Region.lexTailB .any l.toArray n = true)
    (h : ∀ w2, w2 = w.drew → wpStill P l.toArray w2 (fun a' => wpList P l.toArray Q (l.drop n) a' w2) (l.take n) a) : (Code.region id l.toArray true).wp P Q a w :=
  wp_region_still_tail n hm hB (h _ rfl)

end Go.Proofs.YtjlemghmpnkncaaDoor
