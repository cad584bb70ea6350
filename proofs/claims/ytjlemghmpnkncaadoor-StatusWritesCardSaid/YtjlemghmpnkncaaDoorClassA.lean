/-
  Walks of package class: the functions on one byte.
-/
import Derived.Test.YtjlemghmpnkncaaDoorBase
import Derived.Test.YtjlemghmpnkncaaDoorBytesPlain
import Derived.Lib.Bytealg
namespace Go.Proofs.YtjlemghmpnkncaaDoor
open Go.RowKit
set_option linter.unusedSimpArgs false
set_option linter.unusedVariables false

theorem small_any (b : UInt8) (w : World) :
    Calls Tryd.prog 124 #[.int .u8 b.toNat] w fun e w' => e = .returned (.bool (isSmall b)) ∧ w = w' := by
  go_enter Tryd.func124, Tryd.ntmps124
  go_wp2
  all_goals go_ret
  all_goals exact ⟨ret_bool (by rw [isSmall_eq]; exact (by first | exact decide_eq_decide.2 (by omega) | exact (decide_eq_false (by omega)).symm | exact (decide_eq_true (by omega)).symm | (rw [Bool.eq_iff_iff]; simp only [Bool.or_eq_true, Bool.and_eq_true, beq_iff_eq, bne_iff_ne, ne_eq, decide_eq_true_eq, Bool.not_eq_true, Bool.false_eq_true, true_iff, false_iff, iff_true, iff_false] <;> omega))), rfl⟩

theorem great_any (b : UInt8) (w : World) :
    Calls Tryd.prog 125 #[.int .u8 b.toNat] w fun e w' => e = .returned (.bool (isGreat b)) ∧ w = w' := by
  go_enter Tryd.func125, Tryd.ntmps125
  go_wp2
  all_goals go_ret
  all_goals exact ⟨ret_bool (by rw [isGreat_eq]; exact (by first | exact decide_eq_decide.2 (by omega) | exact (decide_eq_false (by omega)).symm | exact (decide_eq_true (by omega)).symm | (rw [Bool.eq_iff_iff]; simp only [Bool.or_eq_true, Bool.and_eq_true, beq_iff_eq, bne_iff_ne, ne_eq, decide_eq_true_eq, Bool.not_eq_true, Bool.false_eq_true, true_iff, false_iff, iff_true, iff_false] <;> omega))), rfl⟩

theorem digit_any (b : UInt8) (w : World) :
    Calls Tryd.prog 105 #[.int .u8 b.toNat] w fun e w' => e = .returned (.bool (isDigit b)) ∧ w = w' := by
  go_enter Tryd.func105, Tryd.ntmps105
  go_wp2
  all_goals go_ret
  all_goals exact ⟨ret_bool (by rw [isDigit_eq]; exact (by first | exact decide_eq_decide.2 (by omega) | exact (decide_eq_false (by omega)).symm | exact (decide_eq_true (by omega)).symm | (rw [Bool.eq_iff_iff]; simp only [Bool.or_eq_true, Bool.and_eq_true, beq_iff_eq, bne_iff_ne, ne_eq, decide_eq_true_eq, Bool.not_eq_true, Bool.false_eq_true, true_iff, false_iff, iff_true, iff_false] <;> omega))), rfl⟩

theorem letter_any (b : UInt8) (w : World) :
    Calls Tryd.prog 116 #[.int .u8 b.toNat] w fun e w' => e = .returned (.bool (isLetter b)) ∧ w = w' := by
  unfold isLetter
  cases h : isSmall b
  all_goals
    have H := Lib.hid h; clear h
    go_enter Tryd.func116, Tryd.ntmps116
    go_wp2_with (first | (go_at_call 124; refine (small_any _ _).mono ?_; rintro e w' ⟨rfl, rfl⟩; rw [H.out]) | (go_at_call 125; refine (great_any _ _).mono ?_; rintro e w' ⟨rfl, rfl⟩))
    go_ret
    exact ⟨ret_bool (by simp), rfl⟩

theorem tabbed_any (b : UInt8) (w : World) :
    Calls Tryd.prog 63 #[.int .u8 b.toNat] w fun e w' => e = .returned (.bool (isTab b)) ∧ w = w' := by
  go_enter Tryd.func63, Tryd.ntmps63
  go_wp2
  all_goals go_ret
  all_goals exact ⟨ret_bool (by rw [isTab_eq]; exact (by first | exact decide_eq_decide.2 (by omega) | exact (decide_eq_false (by omega)).symm | exact (decide_eq_true (by omega)).symm | (rw [Bool.eq_iff_iff]; simp only [Bool.or_eq_true, Bool.and_eq_true, beq_iff_eq, bne_iff_ne, ne_eq, decide_eq_true_eq, Bool.not_eq_true, Bool.false_eq_true, true_iff, false_iff, iff_true, iff_false] <;> omega))), rfl⟩

theorem Quoted_any (b : UInt8) (w : World) :
    Calls Tryd.prog 89 #[.int .u8 b.toNat] w fun e w' => e = .returned (.bool (isQuoted b)) ∧ w = w' := by
  go_enter Tryd.func89, Tryd.ntmps89
  go_wp2
  all_goals go_ret
  all_goals exact ⟨ret_bool (by rw [isQuoted_eq]; exact (by first | exact decide_eq_decide.2 (by omega) | exact (decide_eq_false (by omega)).symm | exact (decide_eq_true (by omega)).symm | (rw [Bool.eq_iff_iff]; simp only [Bool.or_eq_true, Bool.and_eq_true, beq_iff_eq, bne_iff_ne, ne_eq, decide_eq_true_eq, Bool.not_eq_true, Bool.false_eq_true, true_iff, false_iff, iff_true, iff_false] <;> omega))), rfl⟩

theorem Tab_any (b : UInt8) (w : World) :
    Calls Tryd.prog 71 #[.int .u8 b.toNat] w fun e w' => e = .returned (.bool (isTab b)) ∧ w = w' := by
  go_enter Tryd.func71, Tryd.ntmps71
  go_wp2_with (go_at_call 63; refine (tabbed_any _ _).mono ?_; rintro e w' ⟨rfl, rfl⟩)
  go_ret
  exact ⟨rfl, rfl⟩

theorem Digit_any (b : UInt8) (w : World) :
    Calls Tryd.prog 80 #[.int .u8 b.toNat] w fun e w' => e = .returned (.bool (isDigit b)) ∧ w = w' := by
  go_enter Tryd.func80, Tryd.ntmps80
  go_wp2_with (go_at_call 105; refine (digit_any _ _).mono ?_; rintro e w' ⟨rfl, rfl⟩)
  go_ret
  exact ⟨rfl, rfl⟩

theorem Letter_any (b : UInt8) (w : World) :
    Calls Tryd.prog 104 #[.int .u8 b.toNat] w fun e w' => e = .returned (.bool (isLetter b)) ∧ w = w' := by
  go_enter Tryd.func104, Tryd.ntmps104
  go_wp2_with (go_at_call 116; refine (letter_any _ _).mono ?_; rintro e w' ⟨rfl, rfl⟩)
  go_ret
  exact ⟨rfl, rfl⟩

theorem low_any (b : UInt8) (w : World) :
    Calls Tryd.prog 123 #[.int .u8 b.toNat] w fun e w' => e = .returned (.int .u8 (lowOf b).toNat) ∧ w = w' := by
  have hb := bytes_small b
  have hl := lowOf_toNat b
  have hg := isGreat_eq b
  by_cases h : 65 ≤ b.toNat ∧ b.toNat ≤ 90
  · rw [if_pos h] at hl
    have H1 := Lib.hid hl; clear hl
    have H2 : Hid (isGreat b = true) := Lib.hid (by rw [hg]; simpa using h)
    clear hg
    obtain ⟨h1, h2⟩ := h
    go_enter Tryd.func123, Tryd.ntmps123
    go_wp2_with (go_at_call 125; refine (great_any _ _).mono ?_; rintro e w' ⟨rfl, rfl⟩; rw [H2.out])
    go_ret
    exact ⟨ret_int (by rw [H1.out]; simp), rfl⟩
  · rw [if_neg h] at hl
    have H1 := Lib.hid hl; clear hl
    have H2 : Hid (isGreat b = false) := Lib.hid (by rw [hg]; simpa using h)
    clear hg
    go_enter Tryd.func123, Tryd.ntmps123
    go_wp2_with (go_at_call 125; refine (great_any _ _).mono ?_; rintro e w' ⟨rfl, rfl⟩; rw [H2.out])
    go_ret
    exact ⟨ret_int (by rw [H1.out]), rfl⟩

theorem rQuoted_any (b : UInt8) (w : World) :
    Calls Tryd.prog 61 #[.int .u8 b.toNat] w fun e w' => e = .returned (.bool (isQuoted b)) ∧ w = w' := by
  go_enter Tryd.func61, Tryd.ntmps61
  go_wp2
  all_goals go_ret
  all_goals exact ⟨ret_bool (by rw [isQuoted_eq]; exact (by first | exact decide_eq_decide.2 (by omega) | exact (decide_eq_false (by omega)).symm | exact (decide_eq_true (by omega)).symm | (rw [Bool.eq_iff_iff]; simp only [Bool.or_eq_true, Bool.and_eq_true, beq_iff_eq, bne_iff_ne, ne_eq, decide_eq_true_eq, Bool.not_eq_true, Bool.false_eq_true, true_iff, false_iff, iff_true, iff_false] <;> omega))), rfl⟩

theorem Has_any (s : ByteArray) (b : UInt8) (w : World) (hs : s.size ≤ maxLen) :
    Calls Tryd.prog 60 #[.string s, .int .u8 b.toNat] w fun e w' => e = .returned (.bool (hasB s b)) ∧ w = w' := by
  unfold maxLen at hs
  go_enter Tryd.func60, Tryd.ntmps60
  go_wp2
  go_loop [5] (fun i => ∃ k : Nat, k ≤ s.size ∧ i = .int .i64 k ∧ (∀ j (h : j < s.size), j < k → s[j] ≠ b)) (fun i => s.size - (intOf i).toNat)
  case atStart => exact ⟨0, Nat.zero_le _, rfl, fun j h hj => by omega⟩
  case round =>
    obtain ⟨k, hk, rfl, hno⟩ := hrel
    have HN := Lib.hid hno; clear hno
    by_cases hlt : k < s.size
    · go_wp2
      · go_ret
        exact ⟨ret_bool (hasB_at hlt ‹_›).symm, rfl⟩
      · go_round
        case rel => exact ⟨k + 1, by omega, by go_num, fun j h hj => by
          by_cases e : j = k
          · subst e; exact u8_ne ‹_›
          · exact HN.out j h (by omega)⟩
        case measure => simp [intOf]; omega
    · go_wp2
      go_ret
      exact ⟨ret_bool (hasB_none fun j hj => HN.out j hj (by omega)).symm, rfl⟩

theorem rTab_any (b : UInt8) (w : World) :
    Calls Tryd.prog 38 #[.int .u8 b.toNat] w fun e w' => e = .returned (.bool (isTab b)) ∧ w = w' := by
  have H : Hid (hasB ⟨#[9, 32]⟩ b = isTab b) := Lib.hid (all_u8 (p := fun b => hasB ⟨#[9, 32]⟩ b = isTab b) (by decide +kernel) b)
  go_enter Tryd.func38, Tryd.ntmps38
  go_wp2_with (go_at_call 60; refine (Has_any ⟨#[9, 32]⟩ _ _ (by decide)).mono ?_; rintro e w' ⟨rfl, rfl⟩; rw [H.out])
  go_ret
  exact ⟨rfl, rfl⟩

def rSigns : ByteArray := ⟨#[33, 35, 36, 37, 38, 39, 42, 43, 45, 46, 94, 95, 96, 124, 126]⟩

end Go.Proofs.YtjlemghmpnkncaaDoor
