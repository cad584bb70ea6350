/-
  Walks of the reference of package ranges: Content. (Written by genrt.py.)
-/
import Derived.Test.YtjlemghmpnkncaaDoorRangS
import Derived.Test.YtjlemghmpnkncaaDoorPartB
import Derived.BigRegion
namespace Go.Proofs.YtjlemghmpnkncaaDoor
open Go.RowKit
set_option linter.unusedSimpArgs false
set_option linter.unusedVariables false

theorem tw_len_all (l : List UInt8) : (l.takeWhile isDigit).length = l.length ↔ l.all isDigit = true := by
  constructor
  · intro h
    have := twAll isDigit l
    rwa [(List.takeWhile_prefix isDigit).eq_of_length h] at this
  · intro h
    rw [tw_full h]

theorem conV_none {l : List UInt8} (h : conL l = none) : conV l = .tuple #[.agg #[.int .i64 0, .int .i64 0, .int .i64 0], .int .i64 2] := by unfold conV; rw [h]

theorem conV_some {l f t a : List UInt8} (h : conL l = some (f, t, a)) :
    conV l = if numOk f = false ∨ numOk t = false ∨ numOk a = false ∨ goodP (saidN f) (saidN t) (saidN a) = false then .tuple #[.agg #[.int .i64 0, .int .i64 0, .int .i64 0], .int .i64 9] else .tuple #[.agg #[.int .i64 (saidN f), .int .i64 (saidN t), .int .i64 (saidN a)], .int .i64 0] := by
  unfold conV
  rw [h]
  have h1 := saidE_zero3 f t a
  rw [← numOk_iff, ← numOk_iff, ← numOk_iff] at h1
  have e : (saidE a (saidE t (saidE f 0)) ≠ 0 ∨ goodP (saidN f) (saidN t) (saidN a) = false) ↔ (numOk f = false ∨ numOk t = false ∨ numOk a = false ∨ goodP (saidN f) (saidN t) (saidN a) = false) := by
    rw [ne_eq, h1]
    cases numOk f <;> cases numOk t <;> cases numOk a <;> simp
  simp only [e]

theorem rcon_off {l f t r : List UInt8} (h : conL l = if r = [42] ∧ f ≠ [] then some (f, t, []) else if r = [] ∨ r.all isDigit = false then none else some (f, t, r)) (hn : ¬ (r = [42] ∧ f ≠ [])) : conL l = if r = [] ∨ r.all isDigit = false then none else some (f, t, r) := h.trans (if_neg hn)

theorem rcon_on {l f t r : List UInt8} (h : conL l = if r = [42] ∧ f ≠ [] then some (f, t, []) else if r = [] ∨ r.all isDigit = false then none else some (f, t, r)) (hn : r = [42] ∧ f ≠ []) : conL l = some (f, t, []) := h.trans (if_pos hn)

end Go.Proofs.YtjlemghmpnkncaaDoor
