/-
  Walk of the reference of package status: Good.
-/
import Derived.Test.YtjlemghmpnkncaaDoorStatW
namespace Go.Proofs.YtjlemghmpnkncaaDoor
open Go.RowKit
set_option linter.unusedSimpArgs false
set_option linter.unusedVariables false

theorem Good_any (a b c : Int) (r : ByteArray) (w : World) (hs : r.size ≤ maxLen) : Calls Tryd.prog 19 #[statV a b c r] w fun e w' => e = .returned (.bool (goodS a b c r)) ∧ Below w.heap.size w w' := by
  have HG := Lib.hid (fun w => goodS_any a b c r w hs)
  unfold statV at *
  go_enter Tryd.func19, Tryd.ntmps19
  go_wp2_with fail
  refine (HG.out _).mono ?_
  rintro e w2 ⟨rfl, hb⟩
  go_wp2_with fail
  go_ret
  exact ⟨rfl, below_after hb⟩

/-- The six ways of three numbers. -/
theorem good_ways (a b n : Int) (R q : Bool) (hoff : ¬ (0 ≤ a ∧ a < 10 ∧ 0 ≤ b ∧ b < 10 ∧ 0 < n) → R = false) (hon : (0 ≤ a ∧ a < 10 ∧ 0 ≤ b ∧ b < 10 ∧ 0 < n) → R = q) :
    (¬ (0 ≤ a) ∧ R = false) ∨ (0 ≤ a ∧ ¬ (a < 10) ∧ R = false) ∨ (0 ≤ a ∧ a < 10 ∧ ¬ (0 ≤ b) ∧ R = false) ∨ (0 ≤ a ∧ a < 10 ∧ 0 ≤ b ∧ ¬ (b < 10) ∧ R = false) ∨ (0 ≤ a ∧ a < 10 ∧ 0 ≤ b ∧ b < 10 ∧ ¬ (0 < n) ∧ R = false) ∨ (0 ≤ a ∧ a < 10 ∧ 0 ≤ b ∧ b < 10 ∧ 0 < n ∧ R = q) := by
  by_cases h1 : 0 ≤ a
  · by_cases h2 : a < 10
    · by_cases h3 : 0 ≤ b
      · by_cases h4 : b < 10
        · by_cases h5 : 0 < n
          · exact .inr (.inr (.inr (.inr (.inr ⟨h1, h2, h3, h4, h5, hon ⟨h1, h2, h3, h4, h5⟩⟩))))
          · exact .inr (.inr (.inr (.inr (.inl ⟨h1, h2, h3, h4, h5, hoff (by omega)⟩))))
        · exact .inr (.inr (.inr (.inl ⟨h1, h2, h3, h4, hoff (by omega)⟩)))
      · exact .inr (.inr (.inl ⟨h1, h2, h3, hoff (by omega)⟩))
    · exact .inr (.inl ⟨h1, h2, hoff (by omega)⟩)
  · exact .inl ⟨h1, hoff (by omega)⟩

theorem good_off {a b c : Int} {r : ByteArray} (h : ¬ (0 ≤ a ∧ a < 10 ∧ 0 ≤ b ∧ b < 10 ∧ 0 < hundB c)) : goodS a b c r = false := by
  unfold goodS smallI
  rw [Bool.eq_false_iff]
  intro h2
  simp only [Bool.and_eq_true, decide_eq_true_eq] at h2
  omega

theorem good_on {a b c : Int} {r : ByteArray} (h : 0 ≤ a ∧ a < 10 ∧ 0 ≤ b ∧ b < 10 ∧ 0 < hundB c) : goodS a b c r = reasonB r := by
  unfold goodS smallI
  rw [decide_eq_true h.1, decide_eq_true (show a ≤ 9 by omega), decide_eq_true h.2.2.1, decide_eq_true (show b ≤ 9 by omega), decide_eq_true h.2.2.2.2]
  simp

set_option maxRecDepth 20000 in
set_option maxHeartbeats 4000000 in
theorem rGood25_any (a b c : Int) (r : ByteArray) (w : World) (hs : r.size ≤ maxLen) : Calls Tryd.prog 20 #[statV a b c r] w fun e w' => e = .returned (.bool (goodS a b c r)) ∧ Below w.heap.size w w' := by
  have HQ := Lib.hid (fun w => r10Quoted_any r w hs)
  have HC := Lib.hid (fun w => rClass_any c w)
  have hs2 : r.size ≤ 9223372036854775807 := by unfold maxLen at hs; omega
  have hoff := @good_off a b c r
  have hon := @good_on a b c r
  unfold reasonB at hon
  generalize goodS a b c r = R at *
  generalize hundB c = n at *
  unfold statV
  by_cases h : 0 < r.size
  · rw [dif_pos h] at hon
    have hpos := h
    have hidy := fun w => index_byte (P := Tryd.prog) 9 Tryd.underlying9 r (r.size - 1) (by omega) w
    have hsub : (((r.size - 1 : Nat)) : Int) = (r.size : Int) - 1 := by omega
    rw [hsub] at hidy
    have HX := Lib.hid (fun w => rTab_any r[0] w)
    have HY := Lib.hid (fun w => rTab_any r[r.size - 1] w)
    generalize quoL r.data.toList = q at *
    generalize r[r.size - 1] = y at *
    have hne : r.toList.isEmpty = false := by
      rw [List.isEmpty_eq_false_iff, ne_eq]
      intro e
      have := congrArg List.length e
      rw [Lib.toList_data, ← Lib.size_eq, List.length_nil] at this
      omega
    cases hx : isTab r[0]
    · cases hy : isTab y
      · rw [hx, hy] at hon
        have HX2 := Lib.hid hx
        have HY2 := Lib.hid hy
        clear hx hy
        rcases good_ways a b n R q hoff (fun hg => by rw [hon hg]; simp) with ⟨h1, hR⟩ | ⟨h1, h2, hR⟩ | ⟨h1, h2, h3, hR⟩ | ⟨h1, h2, h3, h4, hR⟩ | ⟨h1, h2, h3, h4, h5, hR⟩ | ⟨h1, h2, h3, h4, h5, hR⟩
        all_goals (
          subst hR
          clear hon hoff
          go_enter Tryd.func20, Tryd.ntmps20
          go_wp2_with (first | (go_at_call 38; first | (with_reducible refine Calls.mono (HX.out _) ?_; rintro e w' ⟨rfl, rfl⟩; rw [HX2.out]) | (with_reducible refine Calls.mono (HY.out _) ?_; rintro e w' ⟨rfl, rfl⟩; rw [HY2.out])) | (go_at_call 7; refine Calls.mono (HC.out _) ?_; rintro e w' ⟨rfl, rfl⟩) | (go_at_call 39; refine Calls.mono (HQ.out _) ?_; rintro e w' ⟨rfl, rfl⟩))
          go_ret
          exact ⟨rfl, below_box _ _⟩)
      · have hR : R = false := by
          by_cases hg : 0 ≤ a ∧ a < 10 ∧ 0 ≤ b ∧ b < 10 ∧ 0 < n
          · rw [hon hg, hx, hy]; rfl
          · exact hoff hg
        subst hR
        have HX2 := Lib.hid hx
        have HY2 := Lib.hid hy
        clear hx hy hon hoff
        go_enter Tryd.func20, Tryd.ntmps20
        go_wp2_with (first | (go_at_call 38; first | (with_reducible refine Calls.mono (HX.out _) ?_; rintro e w' ⟨rfl, rfl⟩; rw [HX2.out]) | (with_reducible refine Calls.mono (HY.out _) ?_; rintro e w' ⟨rfl, rfl⟩; rw [HY2.out])))
        go_ret
        exact ⟨rfl, below_box _ _⟩
    · have hR : R = false := by
        by_cases hg : 0 ≤ a ∧ a < 10 ∧ 0 ≤ b ∧ b < 10 ∧ 0 < n
        · rw [hon hg, hx]; rfl
        · exact hoff hg
      subst hR
      have HX2 := Lib.hid hx
      clear hx hon hoff
      go_enter Tryd.func20, Tryd.ntmps20
      go_wp2_with (first | (go_at_call 38; (with_reducible refine Calls.mono (HX.out _) ?_; rintro e w' ⟨rfl, rfl⟩; rw [HX2.out])))
      go_ret
      exact ⟨rfl, below_box _ _⟩
  · rw [dif_neg h] at hon
    have he : r.toList = [] := by
      rw [Lib.toList_data]
      exact List.eq_nil_of_length_eq_zero (by rw [← Lib.size_eq]; omega)
    generalize quoL r.data.toList = q at *
    rcases good_ways a b n R q hoff (fun hg => by rw [hon hg]; simp) with ⟨h1, hR⟩ | ⟨h1, h2, hR⟩ | ⟨h1, h2, h3, hR⟩ | ⟨h1, h2, h3, h4, hR⟩ | ⟨h1, h2, h3, h4, h5, hR⟩ | ⟨h1, h2, h3, h4, h5, hR⟩
    all_goals (
      subst hR
      clear hon hoff
      go_enter Tryd.func20, Tryd.ntmps20
      go_wp2_with (first | (go_at_call 7; refine Calls.mono (HC.out _) ?_; rintro e w' ⟨rfl, rfl⟩) | (go_at_call 39; refine Calls.mono (HQ.out _) ?_; rintro e w' ⟨rfl, rfl⟩))
      go_ret
      exact ⟨rfl, below_box _ _⟩)

end Go.Proofs.YtjlemghmpnkncaaDoor
