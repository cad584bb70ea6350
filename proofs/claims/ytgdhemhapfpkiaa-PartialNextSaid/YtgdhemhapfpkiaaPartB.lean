/-
  Walks of package partial: whether a part is whole, covers another one, and what comes next.
-/
import Derived.Test.YtgdhemhapfpkiaaPartA
namespace Go.Proofs.Ytgdhemhapfpkiaa
open Go.RowKit
set_option linter.unusedSimpArgs false
set_option linter.unusedVariables false

theorem Whole_any (f t s : Int) (w : World) :
    Calls Try.prog 62 #[.agg #[.int .i64 f, .int .i64 t, .int .i64 s]] w fun e w' => e = .returned (.bool (wholeP f t s)) ∧ Below w.heap.size w w' := by
  cases hg : saysP f t s
  · have H : Hid (wholeP f t s = false) := Lib.hid (by simp [wholeP, hg])
    have HG := Lib.hid hg; clear hg
    go_enter Try.func62, Try.ntmps62
    go_wp2_with (go_at_call 90; refine (says_any _ _ _ _).mono ?_; rintro e w' ⟨rfl, hb⟩; obtain ⟨hc, hf⟩ := bcell hb; rw [HG.out])
    go_ret
    exact ⟨ret_bool H.out.symm, below_after hb⟩
  · have hr := saysP_range hg
    have H : Hid (wholeP f t s = decide (f = 0 ∧ t = s - 1)) := Lib.hid (by simp [wholeP, hg])
    have HG := Lib.hid hg; clear hg
    obtain ⟨r1, r2, r3, r4, r5, r6⟩ := hr
    go_enter Try.func62, Try.ntmps62
    go_wp2_with (go_at_call 90; refine (says_any _ _ _ _).mono ?_; rintro e w' ⟨rfl, hb⟩; obtain ⟨hc, hf⟩ := bcell hb; rw [HG.out])
    all_goals go_ret
    all_goals exact ⟨ret_bool (by rw [H.out]; exact (by (try simp only [Bool.not_eq_true', Bool.not_eq_false', Bool.and_eq_true, Bool.or_eq_true, Bool.and_eq_false_iff, Bool.or_eq_false_iff, beq_iff_eq, beq_eq_false_iff_ne, bne_iff_ne, bne_eq_false_iff_eq, decide_eq_true_eq, decide_eq_false_iff_not, ne_eq, Int.not_le, Int.not_lt] at *); first | rfl | exact decide_eq_decide.2 (by omega) | exact (decide_eq_false (by omega)).symm | exact (decide_eq_true (by omega)).symm | exact decide_eq_false (by omega) | exact decide_eq_true (by omega) | (rw [Bool.eq_iff_iff]; simp only [Bool.or_eq_true, Bool.and_eq_true, beq_iff_eq, bne_iff_ne, ne_eq, decide_eq_true_eq, Bool.not_eq_true, Bool.false_eq_true, true_iff, false_iff, iff_true, iff_false]; omega))), below_after hb⟩

theorem Covers_any (f t s f2 t2 s2 : Int) (w : World) :
    Calls Try.prog 61 #[.agg #[.int .i64 f, .int .i64 t, .int .i64 s], .agg #[.int .i64 f2, .int .i64 t2, .int .i64 s2]] w fun e w' => e = .returned (.bool (coversP f t s f2 t2 s2)) ∧ Below w.heap.size w w' := by
  cases hg : saysP f t s <;> cases hg2 : saysP f2 t2 s2
  all_goals
    have H : Hid (coversP f t s f2 t2 s2 = _) := Lib.hid (by unfold coversP; rw [hg, hg2])
    have HG := Lib.hid hg; clear hg
    have HG2 := Lib.hid hg2; clear hg2
    go_enter Try.func61, Try.ntmps61
    go_wp2_with fail
    refine (says_any _ _ _ _).mono ?_
    rintro e w1 ⟨rfl, hb⟩
    obtain ⟨hc, hf⟩ := bcell hb
    have hz : w.heap.size + 1 < w1.heap.size := by have := hb.size; simp at this; omega
    have hz0 : w.heap.size < w1.heap.size := by omega
    rw [HG.out]
    go_wp2_with (go_at_call 90; refine (says_any _ _ _ _).mono ?_; rintro e w2 ⟨rfl, hb2⟩; obtain ⟨hc2, hf2⟩ := bcell hb2; rw [HG2.out])
    all_goals go_ret
    all_goals exact ⟨ret_bool (by rw [H.out]; first | done | (simp only [Bool.false_eq_true, false_and, true_and, decide_false]; first | done | exact (by (try simp only [Bool.not_eq_true', Bool.not_eq_false', Bool.and_eq_true, Bool.or_eq_true, Bool.and_eq_false_iff, Bool.or_eq_false_iff, beq_iff_eq, beq_eq_false_iff_ne, bne_iff_ne, bne_eq_false_iff_eq, decide_eq_true_eq, decide_eq_false_iff_not, ne_eq, Int.not_le, Int.not_lt] at *); first | rfl | exact decide_eq_decide.2 (by omega) | exact (decide_eq_false (by omega)).symm | exact (decide_eq_true (by omega)).symm | exact decide_eq_false (by omega) | exact decide_eq_true (by omega) | (rw [Bool.eq_iff_iff]; simp only [Bool.or_eq_true, Bool.and_eq_true, beq_iff_eq, bne_iff_ne, ne_eq, decide_eq_true_eq, Bool.not_eq_true, Bool.false_eq_true, true_iff, false_iff, iff_true, iff_false]; omega)))), below_after2 (by first | exact hb | exact below_trans hb hb2)⟩

/-- What comes next: from the next byte on. -/
theorem Next_yes (f t s : Int) (w : World) (h : moreP f t s = true) :
    Calls Try.prog 59 #[.agg #[.int .i64 f, .int .i64 t, .int .i64 s]] w fun e w' => e = .returned (.tuple #[.agg #[.int .i64 (t + 1), .int .i64 (-1)], .bool true]) ∧ Below w.heap.size w w' := by
  unfold moreP at h
  rw [decide_eq_true_eq] at h
  obtain ⟨hg, h1, h2⟩ := h
  obtain ⟨r1, r2, r3, r4, r5, r6⟩ := saysP_range hg
  have HG := Lib.hid hg; clear hg
  have e1 : (t == s - 1) = false := by simpa using h1
  have e2 : (t == 9007199254740991) = false := by simpa using h2
  clear h1 h2
  go_enter Try.func59, Try.ntmps59
  go_wp2_with (go_at_call 90; refine (says_any _ _ _ _).mono ?_; rintro e w1 ⟨rfl, hb⟩; obtain ⟨hc, hf⟩ := bcell hb; (have hz : w.heap.size + 1 < w1.heap.size := by have := hb.size; simp at this; omega); (have hz0 : w.heap.size < w1.heap.size := by omega); rw [HG.out])
  refine bodyPost_ret (v := .tuple #[.agg #[.int .i64 (t + 1), .int .i64 (-1)], .bool true]) ?_ rfl ⟨rfl, ?_⟩
  · simp [results, Try.results59, go_sem, hc, hz, hz0]
  · exact ((below_after2 hb).setCell (by simp) _).setCell (by simp) _

theorem Next_no (f t s : Int) (w : World) (h : moreP f t s = false) :
    Calls Try.prog 59 #[.agg #[.int .i64 f, .int .i64 t, .int .i64 s]] w fun e w' => e = .returned (.tuple #[.agg #[.int .i64 0, .int .i64 0], .bool false]) ∧ Below w.heap.size w w' := by
  unfold moreP at h
  rw [decide_eq_false_iff_not] at h
  cases hg : saysP f t s
  · have HG := Lib.hid hg; clear hg h
    go_enter Try.func59, Try.ntmps59
    go_wp2_with (go_at_call 90; refine (says_any _ _ _ _).mono ?_; rintro e w1 ⟨rfl, hb⟩; obtain ⟨hc, hf⟩ := bcell hb; (have hz : w.heap.size + 1 < w1.heap.size := by have := hb.size; simp at this; omega); (have hz0 : w.heap.size < w1.heap.size := by omega); rw [HG.out])
    refine bodyPost_ret (v := .tuple #[.agg #[.int .i64 0, .int .i64 0], .bool false]) ?_ rfl ⟨rfl, ?_⟩
    · simp [results, Try.results59, go_sem, hc, hz, hz0]
    · exact ((below_after2 hb).setCell (by simp) _).setCell (by simp) _
  · obtain ⟨r1, r2, r3, r4, r5, r6⟩ := saysP_range hg
    have HG := Lib.hid hg
    by_cases e1 : t = s - 1
    · have e1' : (t == s - 1) = true := by simpa using e1
      clear e1 h hg
      go_enter Try.func59, Try.ntmps59
      go_wp2_with (go_at_call 90; refine (says_any _ _ _ _).mono ?_; rintro e w1 ⟨rfl, hb⟩; obtain ⟨hc, hf⟩ := bcell hb; (have hz : w.heap.size + 1 < w1.heap.size := by have := hb.size; simp at this; omega); (have hz0 : w.heap.size < w1.heap.size := by omega); rw [HG.out])
      refine bodyPost_ret (v := .tuple #[.agg #[.int .i64 0, .int .i64 0], .bool false]) ?_ rfl ⟨rfl, ?_⟩
      · simp [results, Try.results59, go_sem, hc, hz, hz0]
      · exact ((below_after2 hb).setCell (by simp) _).setCell (by simp) _
    · have e1' : (t == s - 1) = false := by simpa using e1
      have e2' : (t == 9007199254740991) = true := by
        by_cases e2 : t = 9007199254740991
        · simpa using e2
        · exact absurd ⟨hg, e1, e2⟩ h
      clear e1 h hg
      go_enter Try.func59, Try.ntmps59
      go_wp2_with (go_at_call 90; refine (says_any _ _ _ _).mono ?_; rintro e w1 ⟨rfl, hb⟩; obtain ⟨hc, hf⟩ := bcell hb; (have hz : w.heap.size + 1 < w1.heap.size := by have := hb.size; simp at this; omega); (have hz0 : w.heap.size < w1.heap.size := by omega); rw [HG.out])
      refine bodyPost_ret (v := .tuple #[.agg #[.int .i64 0, .int .i64 0], .bool false]) ?_ rfl ⟨rfl, ?_⟩
      · simp [results, Try.results59, go_sem, hc, hz, hz0]
      · exact ((below_after2 hb).setCell (by simp) _).setCell (by simp) _

theorem in24_any (n : Int) (w : World) :
    Calls Try.prog 92 #[.int .i64 n] w fun e w' => e = .returned (.bool (decide (-1 ≤ n ∧ n ≤ 9007199254740991))) ∧ w = w' := by
  go_enter Try.func92, Try.ntmps92
  go_wp2
  all_goals go_ret
  all_goals exact ⟨ret_bool (by (try simp only [Bool.not_eq_true', Bool.not_eq_false', Bool.and_eq_true, Bool.or_eq_true, Bool.and_eq_false_iff, Bool.or_eq_false_iff, beq_iff_eq, beq_eq_false_iff_ne, bne_iff_ne, bne_eq_false_iff_eq, decide_eq_true_eq, decide_eq_false_iff_not, ne_eq, Int.not_le, Int.not_lt] at *); first | rfl | exact decide_eq_decide.2 (by omega) | exact (decide_eq_false (by omega)).symm | exact (decide_eq_true (by omega)).symm | exact decide_eq_false (by omega) | exact decide_eq_true (by omega) | (rw [Bool.eq_iff_iff]; simp only [Bool.or_eq_true, Bool.and_eq_true, beq_iff_eq, bne_iff_ne, ne_eq, decide_eq_true_eq, Bool.not_eq_true, Bool.false_eq_true, true_iff, false_iff, iff_true, iff_false]; omega)), rfl⟩

theorem rGood_any (f t s : Int) (w : World) :
    Calls Try.prog 63 #[.agg #[.int .i64 f, .int .i64 t, .int .i64 s]] w fun e w' => e = .returned (.bool (goodP f t s)) ∧ Below w.heap.size w w' := by
  go_enter Try.func63, Try.ntmps63
  go_wp2_with (go_at_call 92; refine (in24_any _ _).mono ?_; rintro e w' ⟨rfl, rfl⟩)
  all_goals go_ret
  all_goals exact ⟨ret_bool (by unfold goodP; exact (by (try simp only [Bool.not_eq_true', Bool.not_eq_false', Bool.and_eq_true, Bool.or_eq_true, Bool.and_eq_false_iff, Bool.or_eq_false_iff, beq_iff_eq, beq_eq_false_iff_ne, bne_iff_ne, bne_eq_false_iff_eq, decide_eq_true_eq, decide_eq_false_iff_not, ne_eq, Int.not_le, Int.not_lt] at *); first | rfl | exact decide_eq_decide.2 (by omega) | exact (decide_eq_false (by omega)).symm | exact (decide_eq_true (by omega)).symm | exact decide_eq_false (by omega) | exact decide_eq_true (by omega) | (rw [Bool.eq_iff_iff]; simp only [Bool.or_eq_true, Bool.and_eq_true, beq_iff_eq, bne_iff_ne, ne_eq, decide_eq_true_eq, Bool.not_eq_true, Bool.false_eq_true, true_iff, false_iff, iff_true, iff_false]; omega))), below_box _ _⟩

theorem rLen_any (f t s : Int) (w : World) :
    Calls Try.prog 91 #[.agg #[.int .i64 f, .int .i64 t, .int .i64 s]] w fun e w' => e = .returned (.int .i64 (lenP f t s)) ∧ Below w.heap.size w w' := by
  cases hg : goodP f t s
  · have H : Hid (lenP f t s = 0) := Lib.hid (by simp [lenP, hg])
    have HG := Lib.hid hg; clear hg
    go_enter Try.func91, Try.ntmps91
    go_wp2_with (go_at_call 63; refine (rGood_any _ _ _ _).mono ?_; rintro e w' ⟨rfl, hb⟩; obtain ⟨hc, hf⟩ := bcell hb; rw [HG.out])
    go_ret
    exact ⟨ret_int H.out.symm, below_after hb⟩
  · have hx := hg
    unfold goodP at hx
    rw [decide_eq_true_eq] at hx
    have HG := Lib.hid hg
    by_cases hf1 : f < 0
    · have H : Hid (lenP f t s = 0) := Lib.hid (by have : f = -1 := by omega
                                                   simp [lenP, this])
      clear hg hx
      go_enter Try.func91, Try.ntmps91
      go_wp2_with (go_at_call 63; refine (rGood_any _ _ _ _).mono ?_; rintro e w' ⟨rfl, hb⟩; obtain ⟨hc, hf⟩ := bcell hb; rw [HG.out])
      go_ret
      exact ⟨ret_int H.out.symm, below_after hb⟩
    · have H : Hid (lenP f t s = t - f + 1) := Lib.hid (by have : ¬ f = -1 := by omega
                                                           simp [lenP, this, hg])
      have hx2 : 0 ≤ f ∧ f ≤ t ∧ t ≤ 9007199254740991 := by omega
      clear hg hx
      go_enter Try.func91, Try.ntmps91
      go_wp2_with (go_at_call 63; refine (rGood_any _ _ _ _).mono ?_; rintro e w' ⟨rfl, hb⟩; obtain ⟨hc, hf⟩ := bcell hb; rw [HG.out])
      go_ret
      exact ⟨ret_int H.out.symm, below_after hb⟩

theorem rSays_any (f t s : Int) (w : World) :
    Calls Try.prog 60 #[.agg #[.int .i64 f, .int .i64 t, .int .i64 s]] w fun e w' => e = .returned (.bool (saysP f t s)) ∧ Below w.heap.size w w' := by
  go_enter Try.func60, Try.ntmps60
  go_wp2_with (go_at_call 91; refine (rLen_any _ _ _ _).mono ?_; rintro e w' ⟨rfl, hb⟩)
  go_ret
  exact ⟨rfl, below_after hb⟩

end Go.Proofs.Ytgdhemhapfpkiaa
