/-
  Walks of the reference of package ranges: Parse.
-/
import Derived.Test.YtjlemghmpnkncaaDoorRangR
import Derived.Test.YtjlemghmpnkncaaDoorRangV
import Derived.Test.YtjlemghmpnkncaaDoorRangD
namespace Go.Proofs.YtjlemghmpnkncaaDoor
open Go.RowKit
set_option linter.unusedSimpArgs false
set_option linter.unusedVariables false

theorem bl_run (q : List UInt8) : (bl q).extract 0 (q.takeWhile isDigit).length = bl (q.takeWhile isDigit) ∧ (bl q).extract (q.takeWhile isDigit).length (bl q).size = bl (q.dropWhile isDigit) ∧ (q.takeWhile isDigit).length ≤ (bl q).size := by
  have h := tw_split isDigit q
  unfold spanN at h
  refine ⟨?_, ?_, ?_⟩
  · rw [bl_take, h.1]
  · rw [bl_drop, h.2]
  · rw [bl_size]; exact (List.takeWhile_sublist isDigit).length_le

theorem askedV_none {l : List UInt8} (h : askL l = none) : askedV l = .tuple #[.agg #[.int .i64 0, .int .i64 0], .int .i64 2] := by unfold askedV; rw [h]

theorem numOk_iff (l : List UInt8) : numOk l = true ↔ (l = [] ∨ valL l ≤ mostN) := by unfold numOk; rw [decide_eq_true_eq]

theorem askedV_some {l f t : List UInt8} (h : askL l = some (f, t)) :
    askedV l = if numOk f = false ∨ numOk t = false ∨ (0 ≤ saidN t ∧ saidN t < saidN f) then .tuple #[.agg #[.int .i64 0, .int .i64 0], .int .i64 9] else .tuple #[.agg #[.int .i64 (saidN f), .int .i64 (saidN t)], .int .i64 0] := by
  unfold askedV
  rw [h]
  have h1 := saidE_zero f t
  rw [← numOk_iff, ← numOk_iff] at h1
  have h2 := saidN_least t
  have e : (saidE t (saidE f 0) ≠ 0 ∨ (saidN t < saidN f ∧ saidN t ≠ -1)) ↔ (numOk f = false ∨ numOk t = false ∨ (0 ≤ saidN t ∧ saidN t < saidN f)) := by
    rw [ne_eq, h1]
    cases numOk f <;> cases numOk t <;> simp <;> omega
  simp only [e]

end Go.Proofs.YtjlemghmpnkncaaDoor
