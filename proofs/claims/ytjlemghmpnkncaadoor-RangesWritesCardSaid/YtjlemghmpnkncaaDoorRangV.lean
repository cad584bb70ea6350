/-
  What the readers of ranges and parts say.
-/
import Derived.Test.YtjlemghmpnkncaaDoorBase
import Derived.Test.YtjlemghmpnkncaaDoorRangPlain
import Derived.Test.YtjlemghmpnkncaaDoorPartPlain
namespace Go.Proofs.YtjlemghmpnkncaaDoor
open Go.RowKit

/-- What is asked for, and what was wrong. -/
def askedV (l : List UInt8) : Value :=
  match askL l with
  | none => .tuple #[.agg #[.int .i64 0, .int .i64 0], .int .i64 2]
  | some (f, t) => if saidE t (saidE f 0) ≠ 0 ∨ (saidN t < saidN f ∧ saidN t ≠ -1) then .tuple #[.agg #[.int .i64 0, .int .i64 0], .int .i64 9] else .tuple #[.agg #[.int .i64 (saidN f), .int .i64 (saidN t)], .int .i64 0]

/-- What comes, and what was wrong. -/
def conV (l : List UInt8) : Value :=
  match conL l with
  | none => .tuple #[.agg #[.int .i64 0, .int .i64 0, .int .i64 0], .int .i64 2]
  | some (f, t, a) => if saidE a (saidE t (saidE f 0)) ≠ 0 ∨ goodP (saidN f) (saidN t) (saidN a) = false then .tuple #[.agg #[.int .i64 0, .int .i64 0, .int .i64 0], .int .i64 9] else .tuple #[.agg #[.int .i64 (saidN f), .int .i64 (saidN t), .int .i64 (saidN a)], .int .i64 0]

end Go.Proofs.YtjlemghmpnkncaaDoor
