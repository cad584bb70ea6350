/-
  The law PartialNext: its walk.
-/
import Derived.Test.YtgdhemhapfpkiaaPartC
import Derived.Test.YtgdhemhapfpkiaaQuietIn
import Derived.Deep.DeepCutAuto
namespace Go.Proofs.Ytgdhemhapfpkiaa
open Go.RowKit
set_option linter.unusedSimpArgs false
set_option linter.unusedVariables false

theorem Covers_is {f t s f2 t2 s2 : Int} {b : Bool} (h : coversP f t s f2 t2 s2 = b) (w : World) :
    Calls Try.prog 61 #[.agg #[.int .i64 f, .int .i64 t, .int .i64 s], .agg #[.int .i64 f2, .int .i64 t2, .int .i64 s2]] w fun e w' => e = .returned (.bool b) ∧ Below w.heap.size w w' := by
  rw [← h]; exact Covers_any f t s f2 t2 s2 w

theorem Whole_is {f t s : Int} {b : Bool} (h : wholeP f t s = b) (w : World) :
    Calls Try.prog 62 #[.agg #[.int .i64 f, .int .i64 t, .int .i64 s]] w fun e w' => e = .returned (.bool b) ∧ Below w.heap.size w w' := by
  rw [← h]; exact Whole_any f t s w

theorem rGood_is {f t s : Int} {b : Bool} (h : goodP f t s = b) (w : World) :
    Calls Try.prog 63 #[.agg #[.int .i64 f, .int .i64 t, .int .i64 s]] w fun e w' => e = .returned (.bool b) ∧ Below w.heap.size w w' := by
  rw [← h]; exact rGood_any f t s w

theorem coversP_no2 {f t s f2 t2 s2 : Int} (h : ¬ saysP f2 t2 s2 = true) : coversP f t s f2 t2 s2 = false := coversP_no (Or.inr (by simpa using h))

/-- What Next answers of a part. -/
def nextA (f t s : Int) : Int := if moreP f t s = true then t + 1 else 0
def nextB (f t s : Int) : Int := if moreP f t s = true then -1 else 0

theorem Next_any (f t s : Int) (w : World) :
    Calls Try.prog 59 #[.agg #[.int .i64 f, .int .i64 t, .int .i64 s]] w fun e w' => e = .returned (.tuple #[.agg #[.int .i64 (nextA f t s), .int .i64 (nextB f t s)], .bool (moreP f t s)]) ∧ Below w.heap.size w w' := by
  cases h : moreP f t s
  · have := Next_no f t s w h
    unfold nextA nextB
    rw [h]
    exact this
  · have := Next_yes f t s w h
    unfold nextA nextB
    rw [h]
    exact this

set_option maxHeartbeats 2000000 in
set_option maxRecDepth 20000 in
theorem partialNext_no (f t s f2 t2 s2 : Int) (w : World) (hs : saysP f t s = false) :
    Calls Try.prog 13 #[.agg #[.int .i64 f, .int .i64 t, .int .i64 s], .agg #[.int .i64 f2, .int .i64 t2, .int .i64 s2]] w fun e w' => e = .returned (.bool true) ∧ Below w.heap.size w w' := by
  have HS := Lib.hid hs
  have HM := Lib.hid (moreP_no hs)
  have HC := Lib.hid (coversP_no (f2 := f2) (t2 := t2) (s2 := s2) (Or.inl hs))
  have HW := Lib.hid (wholeP_no hs)
  clear hs
  go_enter Try.func13, Try.ntmps13
  go_upto_region 1 with fail
  go_wp2_with fail
  refine (Next_any _ _ _ _).mono ?_
  rintro e w1 ⟨rfl, hb1⟩
  obtain ⟨hc1, hf1⟩ := bcell hb1
  have hz1 : w.heap.size + 1 < w1.heap.size := by have := hb1.size; simp at this; omega
  have hz1a : w.heap.size < w1.heap.size := by omega
  go_wp2_with fail
  refine (rSays_any _ _ _ _).mono ?_
  rintro e w2 ⟨rfl, hb2⟩
  rw [HS.out]
  obtain ⟨hc2, hf2⟩ := bcell hb2
  have hz2 : w1.heap.size < w2.heap.size := by have := hb2.size; simp at this; omega
  have hz2a : w.heap.size < w2.heap.size := by omega
  have hz2b : w.heap.size + 1 < w2.heap.size := by omega
  have hB1 := below_after2 hb1
  have hB2 : Below w.heap.size w w2 := (hB1.alloc hB1.size _).trans (hb2.mono (by simp; omega))
  have p0 : w2.cell? ⟨w.heap.size, 0, none⟩ = some (.int .i64 f) := by rw [hc2 _ _ (by simp; omega)]; simp [go_sem, hc1, hz1, hz1a]
  have p1 : w2.cell? ⟨w.heap.size, 1, none⟩ = some (.int .i64 t) := by rw [hc2 _ _ (by simp; omega)]; simp [go_sem, hc1, hz1, hz1a]
  have p2 : w2.cell? ⟨w.heap.size, 2, none⟩ = some (.int .i64 s) := by rw [hc2 _ _ (by simp; omega)]; simp [go_sem, hc1, hz1, hz1a]
  have q0 : w2.cell? ⟨w.heap.size + 1, 0, none⟩ = some (.int .i64 f2) := by rw [hc2 _ _ (by simp; omega)]; simp [go_sem, hc1, hz1, hz1a]
  have q1 : w2.cell? ⟨w.heap.size + 1, 1, none⟩ = some (.int .i64 t2) := by rw [hc2 _ _ (by simp; omega)]; simp [go_sem, hc1, hz1, hz1a]
  have q2 : w2.cell? ⟨w.heap.size + 1, 2, none⟩ = some (.int .i64 s2) := by rw [hc2 _ _ (by simp; omega)]; simp [go_sem, hc1, hz1, hz1a]
  have r0 : w2.cell? ⟨w1.heap.size, 0, none⟩ = some (.int .i64 (nextA f t s)) := by rw [hc2 _ _ (by simp)]; simp [go_sem]
  have r1 : w2.cell? ⟨w1.heap.size, 1, none⟩ = some (.int .i64 (nextB f t s)) := by rw [hc2 _ _ (by simp)]; simp [go_sem]
  clear hc1 hc2 hf1 hf2 hb1 hb2
  have hA : nextA f t s = 0 := by simp [nextA, HM.out]
  have hB : nextB f t s = 0 := by simp [nextB, HM.out]
  rw [hA] at r0
  rw [hB] at r1
  rw [hA, hB, HM.out]
  clear hA hB
  go_upto_region 8 with fail
  obtain ⟨gd, hgd⟩ : ∃ gd, goodP f t s = gd := ⟨_, rfl⟩
  have HG := Lib.hid hgd
  clear hgd
  cases gd
  case false =>
    have hx := @InB.cells (w2.alloc (Obj.cells #[.int .i64 0, .int .i64 0] 62))
    refine wp_region_inb (by kernel_rfl) (by kernel_rfl) ?_; (repeat (first | go_big_quiet_skip | (go_big_quiet_want; go_big_quiet_op; first | go_big_quiet_on | (apply Exists.intro; refine ⟨fun x => ?_, ?_⟩; (· ((first | (go_at_call 61; exact inb_call _ (Covers_is HC.out _)) | (go_at_call 62; exact inb_call _ (Whole_is HW.out _)) | (go_at_call 63; exact inb_call _ (rGood_is HG.out _)) | (go_at_call 64; exact inb_call _ (lives35_any _))))); go_big_quiet_on)))); refine wpQuiet_nil ?_; intro _ hw'; obtain ⟨⟨wq, hbq⟩, rfl⟩ := hw'
    go_wp2_with fail
    go_ret
    exact ⟨rfl, (hB2.alloc hB2.size _).trans (hbq.mono (by simp; omega))⟩
  case true =>
    have hx := @InB.cells (w2.alloc (Obj.cells #[.int .i64 0, .int .i64 0] 62))
    refine wp_region_inb (by kernel_rfl) (by kernel_rfl) ?_; (repeat (first | go_big_quiet_skip | (go_big_quiet_want; go_big_quiet_op; first | go_big_quiet_on | (apply Exists.intro; refine ⟨fun x => ?_, ?_⟩; (· ((first | (go_at_call 61; exact inb_call _ (Covers_is HC.out _)) | (go_at_call 62; exact inb_call _ (Whole_is HW.out _)) | (go_at_call 63; exact inb_call _ (rGood_is HG.out _)) | (go_at_call 64; exact inb_call _ (lives35_any _))))); go_big_quiet_on)))); refine wpQuiet_nil ?_; intro _ hw'; obtain ⟨⟨wq, hbq⟩, rfl⟩ := hw'
    go_wp2_with fail
    go_ret
    exact ⟨rfl, (hB2.alloc hB2.size _).trans (hbq.mono (by simp; omega))⟩

set_option maxHeartbeats 4000000 in
set_option maxRecDepth 20000 in
theorem partialNext_yes (f t s f2 t2 s2 : Int) (w : World) (hs : saysP f t s = true) :
    Calls Try.prog 13 #[.agg #[.int .i64 f, .int .i64 t, .int .i64 s], .agg #[.int .i64 f2, .int .i64 t2, .int .i64 s2]] w fun e w' => e = .returned (.bool true) ∧ Below w.heap.size w w' := by
  have HS := Lib.hid hs
  have HM := Lib.hid (moreP_eq hs)
  have HG := Lib.hid (goodP_says hs)
  obtain ⟨b1, b2, b3, b4, b5, b6⟩ := saysP_range hs
  go_enter Try.func13, Try.ntmps13
  go_upto_region 1 with fail
  go_wp2_with fail
  refine (Next_any _ _ _ _).mono ?_
  rintro e w1 ⟨rfl, hb1⟩
  obtain ⟨hc1, hf1⟩ := bcell hb1
  have hz1 : w.heap.size + 1 < w1.heap.size := by have := hb1.size; simp at this; omega
  have hz1a : w.heap.size < w1.heap.size := by omega
  go_wp2_with fail
  refine (rSays_any _ _ _ _).mono ?_
  rintro e w2 ⟨rfl, hb2⟩
  rw [HS.out]
  obtain ⟨hc2, hf2⟩ := bcell hb2
  have hz2 : w1.heap.size < w2.heap.size := by have := hb2.size; simp at this; omega
  have hz2a : w.heap.size < w2.heap.size := by omega
  have hz2b : w.heap.size + 1 < w2.heap.size := by omega
  have hB1 := below_after2 hb1
  have hB2 : Below w.heap.size w w2 := (hB1.alloc hB1.size _).trans (hb2.mono (by simp; omega))
  have p0 : w2.cell? ⟨w.heap.size, 0, none⟩ = some (.int .i64 f) := by rw [hc2 _ _ (by simp; omega)]; simp [go_sem, hc1, hz1, hz1a]
  have p1 : w2.cell? ⟨w.heap.size, 1, none⟩ = some (.int .i64 t) := by rw [hc2 _ _ (by simp; omega)]; simp [go_sem, hc1, hz1, hz1a]
  have p2 : w2.cell? ⟨w.heap.size, 2, none⟩ = some (.int .i64 s) := by rw [hc2 _ _ (by simp; omega)]; simp [go_sem, hc1, hz1, hz1a]
  have q0 : w2.cell? ⟨w.heap.size + 1, 0, none⟩ = some (.int .i64 f2) := by rw [hc2 _ _ (by simp; omega)]; simp [go_sem, hc1, hz1, hz1a]
  have q1 : w2.cell? ⟨w.heap.size + 1, 1, none⟩ = some (.int .i64 t2) := by rw [hc2 _ _ (by simp; omega)]; simp [go_sem, hc1, hz1, hz1a]
  have q2 : w2.cell? ⟨w.heap.size + 1, 2, none⟩ = some (.int .i64 s2) := by rw [hc2 _ _ (by simp; omega)]; simp [go_sem, hc1, hz1, hz1a]
  have r0 : w2.cell? ⟨w1.heap.size, 0, none⟩ = some (.int .i64 (nextA f t s)) := by rw [hc2 _ _ (by simp)]; simp [go_sem]
  have r1 : w2.cell? ⟨w1.heap.size, 1, none⟩ = some (.int .i64 (nextB f t s)) := by rw [hc2 _ _ (by simp)]; simp [go_sem]
  clear hc1 hc2 hf1 hf2 hb1 hb2
  go_upto_region 3 with fail
  go_cut [8] (fun s8 wx => s8 = .bool (moreP f t s) ∧ w2 = wx)
  case first =>
    go_wp2_with fail
    all_goals go_meet
    all_goals exact ⟨by rw [HM.out]; first | done | (refine congrArg Value.bool ?_; exact (by (try simp only [Bool.not_eq_true', Bool.not_eq_false', Bool.and_eq_true, Bool.or_eq_true, Bool.and_eq_false_iff, Bool.or_eq_false_iff, beq_iff_eq, beq_eq_false_iff_ne, bne_iff_ne, bne_eq_false_iff_eq, decide_eq_true_eq, decide_eq_false_iff_not, ne_eq, Int.not_le, Int.not_lt] at *); first | done | rfl | exact decide_eq_decide.2 (by omega) | exact (decide_eq_false (by omega)).symm | exact (decide_eq_true (by omega)).symm | exact decide_eq_false (by omega) | exact decide_eq_true (by omega) | (rw [Bool.eq_iff_iff]; simp only [Bool.or_eq_true, Bool.and_eq_true, beq_iff_eq, bne_iff_ne, ne_eq, decide_eq_true_eq, Bool.not_eq_true, Bool.false_eq_true, true_iff, false_iff, iff_true, iff_false] <;> omega))), rfl⟩
  obtain ⟨rfl, rfl⟩ := hcut
  go_upto_if 38 with fail
  go_cut [] (fun wx => wx.cell? ⟨w2.heap.size, 0, none⟩ = some (.int .i64 (nextA f t s)) ∧ wx.cell? ⟨w2.heap.size, 1, none⟩ = some (.int .i64 (nextB f t s)) ∧ Below w2.heap.size w2 wx ∧ w2.heap.size < wx.heap.size)
  case first =>
    go_wp2_with fail
    · go_meet
      refine ⟨?_, ?_, below_box _ _, by simp⟩
      · simp [nextA, *, go_sem]
      · simp [nextB, *, go_sem]
    · go_meet
      refine ⟨?_, ?_, below_box _ _, by simp⟩
      · simp [nextA, *, go_sem]
      · simp [nextB, *, go_sem]
  obtain ⟨e0, e1, hB3, hz3⟩ := hcut
  obtain ⟨w3, rfl⟩ : ∃ w3 : World, w3 = wc := ⟨_, rfl⟩
  have hB := hB2.trans (hB3.mono hB2.size)
  have z1 : w1.heap.size < w3.heap.size := by omega
  have z2 : w.heap.size < w3.heap.size := by omega
  have z3 : w.heap.size + 1 < w3.heap.size := by omega
  have P0 : w3.cell? ⟨w.heap.size, 0, none⟩ = some (.int .i64 f) := by rw [hB3.cell (p := ⟨w.heap.size, 0, none⟩) (by simpa using hz2a)]; exact p0
  have P1 : w3.cell? ⟨w.heap.size, 1, none⟩ = some (.int .i64 t) := by rw [hB3.cell (p := ⟨w.heap.size, 1, none⟩) (by simpa using hz2a)]; exact p1
  have P2 : w3.cell? ⟨w.heap.size, 2, none⟩ = some (.int .i64 s) := by rw [hB3.cell (p := ⟨w.heap.size, 2, none⟩) (by simpa using hz2a)]; exact p2
  have Q0 : w3.cell? ⟨w.heap.size + 1, 0, none⟩ = some (.int .i64 f2) := by rw [hB3.cell (p := ⟨w.heap.size + 1, 0, none⟩) (by simpa using hz2b)]; exact q0
  have Q1 : w3.cell? ⟨w.heap.size + 1, 1, none⟩ = some (.int .i64 t2) := by rw [hB3.cell (p := ⟨w.heap.size + 1, 1, none⟩) (by simpa using hz2b)]; exact q1
  have Q2 : w3.cell? ⟨w.heap.size + 1, 2, none⟩ = some (.int .i64 s2) := by rw [hB3.cell (p := ⟨w.heap.size + 1, 2, none⟩) (by simpa using hz2b)]; exact q2
  have R0 : w3.cell? ⟨w1.heap.size, 0, none⟩ = some (.int .i64 (nextA f t s)) := by rw [hB3.cell (p := ⟨w1.heap.size, 0, none⟩) (by simpa using hz2)]; exact r0
  have R1 : w3.cell? ⟨w1.heap.size, 1, none⟩ = some (.int .i64 (nextB f t s)) := by rw [hB3.cell (p := ⟨w1.heap.size, 1, none⟩) (by simpa using hz2)]; exact r1
  clear p0 p1 p2 q0 q1 q2 r0 r1 hB1 hB2 hB3
  go_upto_region 7 with fail
  go_cut [10] (fun s10 wx => s10 = .bool (coversP f t s f2 t2 s2) ∧ Below w3.heap.size w3 wx)
  case first =>
    go_wp2_with fail
    refine (rSays_any _ _ _ _).mono ?_
    rintro e w4 ⟨rfl, hb4⟩
    obtain ⟨hc4, hf4⟩ := bcell hb4
    go_wp2_with fail
    all_goals go_meet
    all_goals exact ⟨congrArg Value.bool (by first | (rw [coversP_eq HS.out (by assumption)]; exact (by (try simp only [Bool.not_eq_true', Bool.not_eq_false', Bool.and_eq_true, Bool.or_eq_true, Bool.and_eq_false_iff, Bool.or_eq_false_iff, beq_iff_eq, beq_eq_false_iff_ne, bne_iff_ne, bne_eq_false_iff_eq, decide_eq_true_eq, decide_eq_false_iff_not, ne_eq, Int.not_le, Int.not_lt] at *); first | done | rfl | exact decide_eq_decide.2 (by omega) | exact (decide_eq_false (by omega)).symm | exact (decide_eq_true (by omega)).symm | exact decide_eq_false (by omega) | exact decide_eq_true (by omega) | (rw [Bool.eq_iff_iff]; simp only [Bool.or_eq_true, Bool.and_eq_true, beq_iff_eq, bne_iff_ne, ne_eq, decide_eq_true_eq, Bool.not_eq_true, Bool.false_eq_true, true_iff, false_iff, iff_true, iff_false] <;> omega))) | (rw [coversP_no2 (by assumption)])), hb4⟩
  obtain ⟨rfl, hb4⟩ := hcut
  obtain ⟨w4, rfl⟩ : ∃ w4 : World, w4 = wc := ⟨_, rfl⟩
  obtain ⟨hc4, hf4⟩ := bcell hb4
  have hz4 := hb4.size
  have y1 : w1.heap.size < w4.heap.size := by omega
  have y2 : w.heap.size < w4.heap.size := by omega
  have y3 : w.heap.size + 1 < w4.heap.size := by omega
  have y4 : w2.heap.size < w4.heap.size := by omega
  go_upto_region 8 with fail
  by_cases hf0 : f = 0
  · subst hf0
    by_cases hs0 : 0 ≤ s
    · have HW : Hid (wholeP 0 t s = (t == s - 1)) := Lib.hid (by rw [wholeP_eq HS.out, Bool.eq_iff_iff]; simp; omega)
      have hx := @InB.cells w4
      refine wp_region_inb (by kernel_rfl) (by kernel_rfl) ?_; (repeat (first | go_big_quiet_skip | (go_big_quiet_want; go_big_quiet_op; first | go_big_quiet_on | (apply Exists.intro; refine ⟨fun x => ?_, ?_⟩; (· ((first | (go_at_call 61; exact inb_call _ (Covers_any _ _ _ _ _ _ _)) | (go_at_call 62; exact inb_call _ (Whole_is HW.out _)) | (go_at_call 63; exact inb_call _ (rGood_is HG.out _)) | (go_at_call 64; exact inb_call _ (lives35_any _))))); go_big_quiet_on)))); refine wpQuiet_nil ?_; intro _ hw'; obtain ⟨⟨wq, hbq⟩, rfl⟩ := hw'
      go_wp2_with fail
      go_ret
      exact ⟨rfl, (hB.trans (hb4.mono hB.size)).trans (hbq.mono (by have := hB.size; omega))⟩
    · have HW : Hid (wholeP 0 t s = false) := Lib.hid (by rw [wholeP_eq HS.out, decide_eq_false_iff_not]; omega)
      have hx := @InB.cells w4
      refine wp_region_inb (by kernel_rfl) (by kernel_rfl) ?_; (repeat (first | go_big_quiet_skip | (go_big_quiet_want; go_big_quiet_op; first | go_big_quiet_on | (apply Exists.intro; refine ⟨fun x => ?_, ?_⟩; (· ((first | (go_at_call 61; exact inb_call _ (Covers_any _ _ _ _ _ _ _)) | (go_at_call 62; exact inb_call _ (Whole_is HW.out _)) | (go_at_call 63; exact inb_call _ (rGood_is HG.out _)) | (go_at_call 64; exact inb_call _ (lives35_any _))))); go_big_quiet_on)))); refine wpQuiet_nil ?_; intro _ hw'; obtain ⟨⟨wq, hbq⟩, rfl⟩ := hw'
      go_wp2_with fail
      go_ret
      exact ⟨rfl, (hB.trans (hb4.mono hB.size)).trans (hbq.mono (by have := hB.size; omega))⟩
  · have HW : Hid (wholeP f t s = false) := Lib.hid (by rw [wholeP_eq HS.out, decide_eq_false_iff_not]; omega)
    have hf0' : (f == 0) = false := by simpa using hf0
    have hx := @InB.cells w4
    refine wp_region_inb (by kernel_rfl) (by kernel_rfl) ?_; (repeat (first | go_big_quiet_skip | (go_big_quiet_want; go_big_quiet_op; first | go_big_quiet_on | (apply Exists.intro; refine ⟨fun x => ?_, ?_⟩; (· ((first | (go_at_call 61; exact inb_call _ (Covers_any _ _ _ _ _ _ _)) | (go_at_call 62; exact inb_call _ (Whole_is HW.out _)) | (go_at_call 63; exact inb_call _ (rGood_is HG.out _)) | (go_at_call 64; exact inb_call _ (lives35_any _))))); go_big_quiet_on)))); refine wpQuiet_nil ?_; intro _ hw'; obtain ⟨⟨wq, hbq⟩, rfl⟩ := hw'
    go_wp2_with fail
    go_ret
    exact ⟨rfl, (hB.trans (hb4.mono hB.size)).trans (hbq.mono (by have := hB.size; omega))⟩

end Go.Proofs.Ytgdhemhapfpkiaa
