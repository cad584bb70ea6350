/-
  Walks of package partial: whether a part is whole, covers another one, and what comes next.
-/
import Derived.Test.YtjlemghmpnkncaaPartA
namespace Go.Proofs.Ytjlemghmpnkncaa
open Go.RowKit
set_option linter.unusedSimpArgs false
set_option linter.unusedVariables false

theorem Whole_any (f t s : Int) (w : World) :
    Calls Try.prog 34 #[.agg #[.int .i64 f, .int .i64 t, .int .i64 s]] w fun e w' => e = .returned (.bool (wholeP f t s)) ∧ Below w.heap.size w w' := by
  cases hg : saysP f t s
  · have H : Hid (wholeP f t s = false) := Lib.hid (by simp [wholeP, hg])
    have HG := Lib.hid hg; clear hg
    go_enter Try.func34, Try.ntmps34
    go_wp2_with (go_at_call 57; refine (says_any _ _ _ _).mono ?_; rintro e w' ⟨rfl, hb⟩; obtain ⟨hc, hf⟩ := bcell hb; rw [HG.out])
    go_ret
    exact ⟨ret_bool H.out.symm, below_after hb⟩
  · have hr := saysP_range hg
    have H : Hid (wholeP f t s = decide (f = 0 ∧ t = s - 1)) := Lib.hid (by simp [wholeP, hg])
    have HG := Lib.hid hg; clear hg
    obtain ⟨r1, r2, r3, r4, r5, r6⟩ := hr
    go_enter Try.func34, Try.ntmps34
    go_wp2_with (go_at_call 57; refine (says_any _ _ _ _).mono ?_; rintro e w' ⟨rfl, hb⟩; obtain ⟨hc, hf⟩ := bcell hb; rw [HG.out])
    all_goals go_ret
    all_goals exact ⟨ret_bool (by rw [H.out]; exact (by (try simp only [Bool.not_eq_true', Bool.not_eq_false', Bool.and_eq_true, Bool.or_eq_true, Bool.and_eq_false_iff, Bool.or_eq_false_iff, beq_iff_eq, beq_eq_false_iff_ne, bne_iff_ne, bne_eq_false_iff_eq, decide_eq_true_eq, decide_eq_false_iff_not, ne_eq, Int.not_le, Int.not_lt] at *); first | done | rfl | exact decide_eq_decide.2 (by omega) | exact (decide_eq_false (by omega)).symm | exact (decide_eq_true (by omega)).symm | exact decide_eq_false (by omega) | exact decide_eq_true (by omega) | (rw [Bool.eq_iff_iff]; simp only [Bool.or_eq_true, Bool.and_eq_true, beq_iff_eq, bne_iff_ne, ne_eq, decide_eq_true_eq, Bool.not_eq_true, Bool.false_eq_true, true_iff, false_iff, iff_true, iff_false] <;> omega))), below_after hb⟩

theorem in24_any (n : Int) (w : World) :
    Calls Try.prog 76 #[.int .i64 n] w fun e w' => e = .returned (.bool (decide (-1 ≤ n ∧ n ≤ 9007199254740991))) ∧ w = w' := by
  go_enter Try.func76, Try.ntmps76
  go_wp2
  all_goals go_ret
  all_goals exact ⟨ret_bool (by (try simp only [Bool.not_eq_true', Bool.not_eq_false', Bool.and_eq_true, Bool.or_eq_true, Bool.and_eq_false_iff, Bool.or_eq_false_iff, beq_iff_eq, beq_eq_false_iff_ne, bne_iff_ne, bne_eq_false_iff_eq, decide_eq_true_eq, decide_eq_false_iff_not, ne_eq, Int.not_le, Int.not_lt] at *); first | done | rfl | exact decide_eq_decide.2 (by omega) | exact (decide_eq_false (by omega)).symm | exact (decide_eq_true (by omega)).symm | exact decide_eq_false (by omega) | exact decide_eq_true (by omega) | (rw [Bool.eq_iff_iff]; simp only [Bool.or_eq_true, Bool.and_eq_true, beq_iff_eq, bne_iff_ne, ne_eq, decide_eq_true_eq, Bool.not_eq_true, Bool.false_eq_true, true_iff, false_iff, iff_true, iff_false] <;> omega)), rfl⟩

theorem rGood_any (f t s : Int) (w : World) :
    Calls Try.prog 48 #[.agg #[.int .i64 f, .int .i64 t, .int .i64 s]] w fun e w' => e = .returned (.bool (goodP f t s)) ∧ Below w.heap.size w w' := by
  go_enter Try.func48, Try.ntmps48
  go_wp2_with (go_at_call 76; refine (in24_any _ _).mono ?_; rintro e w' ⟨rfl, rfl⟩)
  all_goals go_ret
  all_goals exact ⟨ret_bool (by unfold goodP; exact (by (try simp only [Bool.not_eq_true', Bool.not_eq_false', Bool.and_eq_true, Bool.or_eq_true, Bool.and_eq_false_iff, Bool.or_eq_false_iff, beq_iff_eq, beq_eq_false_iff_ne, bne_iff_ne, bne_eq_false_iff_eq, decide_eq_true_eq, decide_eq_false_iff_not, ne_eq, Int.not_le, Int.not_lt] at *); first | done | rfl | exact decide_eq_decide.2 (by omega) | exact (decide_eq_false (by omega)).symm | exact (decide_eq_true (by omega)).symm | exact decide_eq_false (by omega) | exact decide_eq_true (by omega) | (rw [Bool.eq_iff_iff]; simp only [Bool.or_eq_true, Bool.and_eq_true, beq_iff_eq, bne_iff_ne, ne_eq, decide_eq_true_eq, Bool.not_eq_true, Bool.false_eq_true, true_iff, false_iff, iff_true, iff_false] <;> omega))), below_box _ _⟩

theorem rLen_any (f t s : Int) (w : World) :
    Calls Try.prog 22 #[.agg #[.int .i64 f, .int .i64 t, .int .i64 s]] w fun e w' => e = .returned (.int .i64 (lenP f t s)) ∧ Below w.heap.size w w' := by
  cases hg : goodP f t s
  · have H : Hid (lenP f t s = 0) := Lib.hid (by simp [lenP, hg])
    have HG := Lib.hid hg; clear hg
    go_enter Try.func22, Try.ntmps22
    go_wp2_with (go_at_call 48; refine (rGood_any _ _ _ _).mono ?_; rintro e w' ⟨rfl, hb⟩; obtain ⟨hc, hf⟩ := bcell hb; rw [HG.out])
    go_ret
    exact ⟨ret_int H.out.symm, below_after hb⟩
  · have hx := hg
    unfold goodP at hx
    rw [decide_eq_true_eq] at hx
    have HG := Lib.hid hg
    by_cases hf1 : f < 0
    · have H : Hid (lenP f t s = 0) := Lib.hid (by have : f = -1 := by omega
                                                   simp [lenP, this])
      clear hg hx
      go_enter Try.func22, Try.ntmps22
      go_wp2_with (go_at_call 48; refine (rGood_any _ _ _ _).mono ?_; rintro e w' ⟨rfl, hb⟩; obtain ⟨hc, hf⟩ := bcell hb; rw [HG.out])
      go_ret
      exact ⟨ret_int H.out.symm, below_after hb⟩
    · have H : Hid (lenP f t s = t - f + 1) := Lib.hid (by have : ¬ f = -1 := by omega
                                                           simp [lenP, this, hg])
      have hx2 : 0 ≤ f ∧ f ≤ t ∧ t ≤ 9007199254740991 := by omega
      clear hg hx
      go_enter Try.func22, Try.ntmps22
      go_wp2_with (go_at_call 48; refine (rGood_any _ _ _ _).mono ?_; rintro e w' ⟨rfl, hb⟩; obtain ⟨hc, hf⟩ := bcell hb; rw [HG.out])
      go_ret
      exact ⟨ret_int H.out.symm, below_after hb⟩

end Go.Proofs.Ytjlemghmpnkncaa
