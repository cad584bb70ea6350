/-
  Walks of parts: packages ranges and partial, and their references.
-/
import Derived.Test.YtjlemghmpnkncaaDoorBase
import Derived.Test.YtjlemghmpnkncaaDoorPartPlain
namespace Go.Proofs.YtjlemghmpnkncaaDoor
open Go.RowKit
set_option linter.unusedSimpArgs false
set_option linter.unusedVariables false

/-- A part, as a value. -/
abbrev partV (f t s : Int) : Value := .agg #[.int .i64 f, .int .i64 t, .int .i64 s]

theorem good_any (f t s : Int) (w : World) :
    Calls Tryd.prog 51 #[.agg #[.int .i64 f, .int .i64 t, .int .i64 s]] w fun e w' => e = .returned (.bool (goodP f t s)) ∧ Below w.heap.size w w' := by
  go_enter Tryd.func51, Tryd.ntmps51
  go_wp2
  all_goals go_ret
  all_goals exact ⟨ret_bool (by unfold goodP; exact (by (try simp only [Bool.not_eq_true', Bool.not_eq_false', Bool.and_eq_true, Bool.or_eq_true, Bool.and_eq_false_iff, Bool.or_eq_false_iff, beq_iff_eq, beq_eq_false_iff_ne, bne_iff_ne, bne_eq_false_iff_eq, decide_eq_true_eq, decide_eq_false_iff_not, ne_eq, Int.not_le, Int.not_lt] at *); first | done | rfl | exact decide_eq_decide.2 (by omega) | exact (decide_eq_false (by omega)).symm | exact (decide_eq_true (by omega)).symm | exact decide_eq_false (by omega) | exact decide_eq_true (by omega) | (rw [Bool.eq_iff_iff]; simp only [Bool.or_eq_true, Bool.and_eq_true, beq_iff_eq, bne_iff_ne, ne_eq, decide_eq_true_eq, Bool.not_eq_true, Bool.false_eq_true, true_iff, false_iff, iff_true, iff_false] <;> omega))), below_box _ _⟩

theorem Good_any (f t s : Int) (w : World) :
    Calls Tryd.prog 27 #[.agg #[.int .i64 f, .int .i64 t, .int .i64 s]] w fun e w' => e = .returned (.bool (goodP f t s)) ∧ Below w.heap.size w w' := by
  go_enter Tryd.func27, Tryd.ntmps27
  go_wp2_with (go_at_call 51; refine (good_any _ _ _ _).mono ?_; rintro e w' ⟨rfl, hb⟩)
  go_ret
  exact ⟨rfl, below_after hb⟩

theorem length_any (f t s : Int) (w : World) :
    Calls Tryd.prog 84 #[.agg #[.int .i64 f, .int .i64 t, .int .i64 s]] w fun e w' => e = .returned (.int .i64 (lenP f t s)) ∧ Below w.heap.size w w' := by
  cases hg : goodP f t s
  · have H : Hid (lenP f t s = 0) := Lib.hid (by simp [lenP, hg])
    have HG := Lib.hid hg; clear hg
    go_enter Tryd.func84, Tryd.ntmps84
    go_wp2_with (go_at_call 51; refine (good_any _ _ _ _).mono ?_; rintro e w' ⟨rfl, hb⟩; obtain ⟨hc, hf⟩ := bcell hb; rw [HG.out])
    go_ret
    exact ⟨ret_int H.out.symm, below_after hb⟩
  · have hx := hg
    unfold goodP at hx
    rw [decide_eq_true_eq] at hx
    have HG := Lib.hid hg
    by_cases hf1 : f = -1
    · subst hf1
      have H : Hid (lenP (-1) t s = 0) := Lib.hid (by simp [lenP])
      clear hg hx
      go_enter Tryd.func84, Tryd.ntmps84
      go_wp2_with (go_at_call 51; refine (good_any _ _ _ _).mono ?_; rintro e w' ⟨rfl, hb⟩; obtain ⟨hc, hf⟩ := bcell hb; rw [HG.out])
      go_ret
      exact ⟨ret_int H.out.symm, below_after hb⟩
    · have H : Hid (lenP f t s = t - f + 1) := Lib.hid (by simp [lenP, hf1, hg])
      have hx2 : 0 ≤ f ∧ f ≤ t ∧ t ≤ 9007199254740991 := by omega
      clear hg hx
      go_enter Tryd.func84, Tryd.ntmps84
      go_wp2_with (go_at_call 51; refine (good_any _ _ _ _).mono ?_; rintro e w' ⟨rfl, hb⟩; obtain ⟨hc, hf⟩ := bcell hb; rw [HG.out])
      go_ret
      exact ⟨ret_int H.out.symm, below_after hb⟩

theorem Len_any (f t s : Int) (w : World) :
    Calls Tryd.prog 52 #[.agg #[.int .i64 f, .int .i64 t, .int .i64 s]] w fun e w' => e = .returned (.int .i64 (lenP f t s)) ∧ Below w.heap.size w w' := by
  go_enter Tryd.func52, Tryd.ntmps52
  go_wp2_with (go_at_call 84; refine (length_any _ _ _ _).mono ?_; rintro e w' ⟨rfl, hb⟩)
  go_ret
  exact ⟨rfl, below_after hb⟩

end Go.Proofs.YtjlemghmpnkncaaDoor
