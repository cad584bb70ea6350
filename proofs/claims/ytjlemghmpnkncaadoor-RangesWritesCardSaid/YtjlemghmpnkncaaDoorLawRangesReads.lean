/-
  The walk of the law RangesReads. (Written by genrr.py.)
-/
import Derived.Test.YtjlemghmpnkncaaDoorRangT
import Derived.Test.YtjlemghmpnkncaaDoorRangG
namespace Go.Proofs.YtjlemghmpnkncaaDoor
open Go.RowKit
set_option linter.unusedSimpArgs false
set_option linter.unusedVariables false

theorem askedV_cases (l : List UInt8) : ∃ a b c, askedV l = .tuple #[.agg #[.int .i64 a, .int .i64 b], .int .i64 c] := by
  unfold askedV
  split
  · exact ⟨_, _, _, rfl⟩
  · split <;> exact ⟨_, _, _, rfl⟩

theorem conV_cases (l : List UInt8) : ∃ a b d c, conV l = .tuple #[.agg #[.int .i64 a, .int .i64 b, .int .i64 d], .int .i64 c] := by
  unfold conV
  split
  · exact ⟨_, _, _, _, rfl⟩
  · split <;> exact ⟨_, _, _, _, rfl⟩

end Go.Proofs.YtjlemghmpnkncaaDoor
