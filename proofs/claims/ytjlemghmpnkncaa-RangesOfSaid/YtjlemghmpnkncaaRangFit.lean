/-
  Walks of package ranges and its reference: what fits.
-/
import Derived.Test.YtjlemghmpnkncaaPartB
import Derived.Deep.DeepCutAuto
import Derived.Test.YtjlemghmpnkncaaQuietIn
namespace Go.Proofs.Ytjlemghmpnkncaa
open Go.RowKit
set_option linter.unusedSimpArgs false
set_option linter.unusedVariables false

/-- A part of a length fits a range. -/
def fitsP (rf rt n f t s : Int) : Bool := decide (¬ (n = 0 ∨ rf < -1 ∨ rt < -1) ∧ ((rf = -1 ∧ s ≠ -1 ∧ t = s - 1 ∧ n ≤ rt) ∨ (rf ≠ -1 ∧ f = rf ∧ (rt = -1 ∨ t ≤ rt))))

theorem lenP_size {f t s : Int} (h : ¬ lenP f t s = 0) : -1 ≤ s ∧ s ≤ 9007199254740991 := by
  have h1 := lenP_range f t s
  have h2 : saysP f t s = true := by unfold saysP; exact decide_eq_true (by omega)
  have h3 := saysP_range h2
  exact ⟨h3.2.2.2.1, h3.2.2.2.2.1⟩

set_option maxHeartbeats 1000000 in
theorem Fits_any (rf rt f t s : Int) (w : World) :
    Calls Try.prog 18 #[.agg #[.int .i64 rf, .int .i64 rt], .agg #[.int .i64 f, .int .i64 t, .int .i64 s]] w fun e w' => e = .returned (.bool (fitsP rf rt (lenP f t s) f t s)) ∧ Below w.heap.size w w' := by
  have HL := Lib.hid (fun w => length_any f t s w)
  have hsz := @lenP_size f t s
  generalize lenP f t s = n at *
  by_cases hn : n = 0
  · subst hn
    have HV : Hid (fitsP rf rt 0 f t s = false) := Lib.hid (by unfold fitsP; exact decide_eq_false (by omega))
    clear hsz
    go_enter Try.func18, Try.ntmps18
    go_wp2_with (go_at_call 47; refine (HL.out _).mono ?_; rintro e w' ⟨rfl, hb⟩; obtain ⟨hc, hf⟩ := bcell hb)
    go_ret
    exact ⟨ret_bool HV.out.symm, below_after2 hb⟩
  · obtain ⟨hs1, hs2⟩ := hsz hn
    clear hsz
    go_enter Try.func18, Try.ntmps18
    go_wp2_with (go_at_call 47; refine (HL.out _).mono ?_; rintro e w' ⟨rfl, hb⟩; obtain ⟨hc, hf⟩ := bcell hb; have hz : w.heap.size + 1 < w'.heap.size := (by have := hb.size; simp at this; omega); have hz1 : w.heap.size < w'.heap.size := by omega)
    all_goals go_ret
    all_goals exact ⟨ret_bool (by unfold fitsP; exact (by (try simp only [Bool.not_eq_true', Bool.not_eq_false', Bool.and_eq_true, Bool.or_eq_true, Bool.and_eq_false_iff, Bool.or_eq_false_iff, beq_iff_eq, beq_eq_false_iff_ne, bne_iff_ne, bne_eq_false_iff_eq, decide_eq_true_eq, decide_eq_false_iff_not, ne_eq, Int.not_le, Int.not_lt] at *); first | done | rfl | exact decide_eq_decide.2 (by omega) | exact (decide_eq_false (by omega)).symm | exact (decide_eq_true (by omega)).symm | exact decide_eq_false (by omega) | exact decide_eq_true (by omega) | (rw [Bool.eq_iff_iff]; simp only [Bool.or_eq_true, Bool.and_eq_true, beq_iff_eq, bne_iff_ne, ne_eq, decide_eq_true_eq, Bool.not_eq_true, Bool.false_eq_true, true_iff, false_iff, iff_true, iff_false] <;> omega))), below_after2 hb⟩

theorem First_rng (f t s : Int) (w : World) :
    Calls Try.prog 20 #[.agg #[.int .i64 f, .int .i64 t, .int .i64 s]] w fun e w' => e = .returned (.bool (f == 0)) ∧ Below w.heap.size w w' := by
  go_enter Try.func20, Try.ntmps20
  go_wp2_with fail
  go_ret
  exact ⟨rfl, below_box _ _⟩

set_option maxHeartbeats 1000000 in
theorem rFits_rng (rf rt f t s : Int) (w : World) :
    Calls Try.prog 19 #[.agg #[.int .i64 rf, .int .i64 rt], .agg #[.int .i64 f, .int .i64 t, .int .i64 s]] w fun e w' => e = .returned (.bool (fitsP rf rt (lenP f t s) f t s)) ∧ Below w.heap.size w w' := by
  have HL := Lib.hid (fun w => rLen_any f t s w)
  have hsz := @lenP_size f t s
  generalize lenP f t s = n at *
  by_cases hn : n = 0
  · subst hn
    have HV : Hid (fitsP rf rt 0 f t s = false) := Lib.hid (by unfold fitsP; exact decide_eq_false (by omega))
    clear hsz
    go_enter Try.func19, Try.ntmps19
    go_wp2_with (go_at_call 22; refine (HL.out _).mono ?_; rintro e w' ⟨rfl, hb⟩; obtain ⟨hc, hf⟩ := bcell hb)
    go_ret
    exact ⟨ret_bool HV.out.symm, below_after2 hb⟩
  obtain ⟨hs1, hs2⟩ := hsz hn
  clear hsz
  by_cases hrf : rf = -1
  · subst hrf
    by_cases hrt : rt < -1
    · go_enter Try.func19, Try.ntmps19
      go_wp2_with (go_at_call 22; refine (HL.out _).mono ?_; rintro e w' ⟨rfl, hb⟩; obtain ⟨hc, hf⟩ := bcell hb; have hz : w.heap.size + 1 < w'.heap.size := (by have := hb.size; simp at this; omega); have hz1 : w.heap.size < w'.heap.size := by omega)
      all_goals go_ret
      all_goals exact ⟨ret_bool (by unfold fitsP; exact (by (try simp only [Bool.not_eq_true', Bool.not_eq_false', Bool.and_eq_true, Bool.or_eq_true, Bool.and_eq_false_iff, Bool.or_eq_false_iff, beq_iff_eq, beq_eq_false_iff_ne, bne_iff_ne, bne_eq_false_iff_eq, decide_eq_true_eq, decide_eq_false_iff_not, ne_eq, Int.not_le, Int.not_lt] at *); first | done | rfl | exact decide_eq_decide.2 (by omega) | exact (decide_eq_false (by omega)).symm | exact (decide_eq_true (by omega)).symm | exact decide_eq_false (by omega) | exact decide_eq_true (by omega) | (rw [Bool.eq_iff_iff]; simp only [Bool.or_eq_true, Bool.and_eq_true, beq_iff_eq, bne_iff_ne, ne_eq, decide_eq_true_eq, Bool.not_eq_true, Bool.false_eq_true, true_iff, false_iff, iff_true, iff_false] <;> omega))), below_after2 hb⟩
    · have hn2 : (n == 0) = false := beq_eq_false_iff_ne.2 hn
      have hrt2 : decide (rt < -1) = false := decide_eq_false hrt
      go_enter Try.func19, Try.ntmps19
      go_upto_region 4 with (go_at_call 22; refine (HL.out _).mono ?_; rintro e w' ⟨rfl, hb⟩; obtain ⟨hc, hf⟩ := bcell hb; have hz : w.heap.size + 1 < w'.heap.size := (by have := hb.size; simp at this; omega); have hz1 : w.heap.size < w'.heap.size := by omega)
      have c0 : w'.cell? ⟨w.heap.size, 1, none⟩ = some (.int .i64 rt) := by rw [hc _ _ (by simp; omega)]; simp [go_sem]
      have c1 : w'.cell? ⟨w.heap.size + 1, 0, none⟩ = some (.int .i64 f) := by rw [hc _ _ (by simp)]; simp [go_sem]
      have c2 : w'.cell? ⟨w.heap.size + 1, 1, none⟩ = some (.int .i64 t) := by rw [hc _ _ (by simp)]; simp [go_sem]
      have c3 : w'.cell? ⟨w.heap.size + 1, 2, none⟩ = some (.int .i64 s) := by rw [hc _ _ (by simp)]; simp [go_sem]
      clear hc hf
      have hx := @InB.cells w'
      have hb2 := below_after2 hb
      by_cases hs0 : 0 ≤ s
      · by_cases hts : t = s - 1
        · subst hts
          refine wp_region_inb (by kernel_rfl) (by kernel_rfl) ?_; (repeat (first | go_big_quiet_skip | (go_big_quiet_want; go_big_quiet_op; first | go_big_quiet_on | (apply Exists.intro; refine ⟨fun x => ?_, ?_⟩; (· ((first | (go_at_call 22; exact inb_call _ (HL.out _))))); go_big_quiet_on)))); refine wpQuiet_nil ?_; intro _ hw'; obtain ⟨⟨wq, hbq⟩, rfl⟩ := hw'
          go_wp2_with fail
          go_ret
          exact ⟨ret_bool (by unfold fitsP; exact decide_eq_decide.2 (by omega)), hb2.trans (hbq.mono hb2.size)⟩
        · have hts2 : (t == s - 1) = false := beq_eq_false_iff_ne.2 hts
          refine wp_region_inb (by kernel_rfl) (by kernel_rfl) ?_; (repeat (first | go_big_quiet_skip | (go_big_quiet_want; go_big_quiet_op; first | go_big_quiet_on | (apply Exists.intro; refine ⟨fun x => ?_, ?_⟩; (· ((first | (go_at_call 22; exact inb_call _ (HL.out _))))); go_big_quiet_on)))); refine wpQuiet_nil ?_; intro _ hw'; obtain ⟨⟨wq, hbq⟩, rfl⟩ := hw'
          go_wp2_with fail
          go_ret
          exact ⟨ret_bool (by unfold fitsP; exact (decide_eq_false (by omega)).symm), hb2.trans (hbq.mono hb2.size)⟩
      · refine wp_region_inb (by kernel_rfl) (by kernel_rfl) ?_; (repeat (first | go_big_quiet_skip | (go_big_quiet_want; go_big_quiet_op; first | go_big_quiet_on | (apply Exists.intro; refine ⟨fun x => ?_, ?_⟩; (· ((first | (go_at_call 22; exact inb_call _ (HL.out _))))); go_big_quiet_on)))); refine wpQuiet_nil ?_; intro _ hw'; obtain ⟨⟨wq, hbq⟩, rfl⟩ := hw'
        go_wp2_with fail
        go_ret
        exact ⟨ret_bool (by unfold fitsP; exact (decide_eq_false (by omega)).symm), hb2.trans (hbq.mono hb2.size)⟩
  · go_enter Try.func19, Try.ntmps19
    go_wp2_with (go_at_call 22; refine (HL.out _).mono ?_; rintro e w' ⟨rfl, hb⟩; obtain ⟨hc, hf⟩ := bcell hb; have hz : w.heap.size + 1 < w'.heap.size := (by have := hb.size; simp at this; omega); have hz1 : w.heap.size < w'.heap.size := by omega)
    all_goals go_ret
    all_goals exact ⟨ret_bool (by unfold fitsP; exact (by (try simp only [Bool.not_eq_true', Bool.not_eq_false', Bool.and_eq_true, Bool.or_eq_true, Bool.and_eq_false_iff, Bool.or_eq_false_iff, beq_iff_eq, beq_eq_false_iff_ne, bne_iff_ne, bne_eq_false_iff_eq, decide_eq_true_eq, decide_eq_false_iff_not, ne_eq, Int.not_le, Int.not_lt] at *); first | done | rfl | exact decide_eq_decide.2 (by omega) | exact (decide_eq_false (by omega)).symm | exact (decide_eq_true (by omega)).symm | exact decide_eq_false (by omega) | exact decide_eq_true (by omega) | (rw [Bool.eq_iff_iff]; simp only [Bool.or_eq_true, Bool.and_eq_true, beq_iff_eq, bne_iff_ne, ne_eq, decide_eq_true_eq, Bool.not_eq_true, Bool.false_eq_true, true_iff, false_iff, iff_true, iff_false] <;> omega))), below_after2 hb⟩

end Go.Proofs.Ytjlemghmpnkncaa
