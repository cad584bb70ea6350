/-
  Walks of package class: the functions on one byte.
-/
import Derived.Test.YtigclegknofhmaaBase
import Derived.Test.YtigclegknofhmaaBytesPlain
import Derived.Lib.Bytealg
namespace Go.Proofs.Ytigclegknofhmaa
open Go.RowKit
set_option linter.unusedSimpArgs false
set_option linter.unusedVariables false

theorem small_any (b : UInt8) (w : World) :
    Calls Try.prog 103 #[.int .u8 b.toNat] w fun e w' => e = .returned (.bool (isSmall b)) ∧ w = w' := by
  go_enter Try.func103, Try.ntmps103
  go_wp2
  all_goals go_ret
  all_goals exact ⟨ret_bool (by rw [isSmall_eq]; exact (by first | exact decide_eq_decide.2 (by omega) | exact (decide_eq_false (by omega)).symm | exact (decide_eq_true (by omega)).symm | (rw [Bool.eq_iff_iff]; simp only [Bool.or_eq_true, Bool.and_eq_true, beq_iff_eq, bne_iff_ne, ne_eq, decide_eq_true_eq, Bool.not_eq_true, Bool.false_eq_true, true_iff, false_iff, iff_true, iff_false] <;> omega))), rfl⟩

theorem great_any (b : UInt8) (w : World) :
    Calls Try.prog 104 #[.int .u8 b.toNat] w fun e w' => e = .returned (.bool (isGreat b)) ∧ w = w' := by
  go_enter Try.func104, Try.ntmps104
  go_wp2
  all_goals go_ret
  all_goals exact ⟨ret_bool (by rw [isGreat_eq]; exact (by first | exact decide_eq_decide.2 (by omega) | exact (decide_eq_false (by omega)).symm | exact (decide_eq_true (by omega)).symm | (rw [Bool.eq_iff_iff]; simp only [Bool.or_eq_true, Bool.and_eq_true, beq_iff_eq, bne_iff_ne, ne_eq, decide_eq_true_eq, Bool.not_eq_true, Bool.false_eq_true, true_iff, false_iff, iff_true, iff_false] <;> omega))), rfl⟩

theorem digit_any (b : UInt8) (w : World) :
    Calls Try.prog 83 #[.int .u8 b.toNat] w fun e w' => e = .returned (.bool (isDigit b)) ∧ w = w' := by
  go_enter Try.func83, Try.ntmps83
  go_wp2
  all_goals go_ret
  all_goals exact ⟨ret_bool (by rw [isDigit_eq]; exact (by first | exact decide_eq_decide.2 (by omega) | exact (decide_eq_false (by omega)).symm | exact (decide_eq_true (by omega)).symm | (rw [Bool.eq_iff_iff]; simp only [Bool.or_eq_true, Bool.and_eq_true, beq_iff_eq, bne_iff_ne, ne_eq, decide_eq_true_eq, Bool.not_eq_true, Bool.false_eq_true, true_iff, false_iff, iff_true, iff_false] <;> omega))), rfl⟩

theorem letter_any (b : UInt8) (w : World) :
    Calls Try.prog 82 #[.int .u8 b.toNat] w fun e w' => e = .returned (.bool (isLetter b)) ∧ w = w' := by
  unfold isLetter
  cases h : isSmall b
  all_goals
    have H := Lib.hid h; clear h
    go_enter Try.func82, Try.ntmps82
    go_wp2_with (first | (go_at_call 103; refine (small_any _ _).mono ?_; rintro e w' ⟨rfl, rfl⟩; rw [H.out]) | (go_at_call 104; refine (great_any _ _).mono ?_; rintro e w' ⟨rfl, rfl⟩))
    go_ret
    exact ⟨ret_bool (by simp), rfl⟩

theorem white_any (b : UInt8) (w : World) :
    Calls Try.prog 89 #[.int .u8 b.toNat] w fun e w' => e = .returned (.bool (isWhite b)) ∧ w = w' := by
  go_enter Try.func89, Try.ntmps89
  go_wp2
  all_goals go_ret
  all_goals exact ⟨ret_bool (by rw [isWhite_eq]; exact (by first | exact decide_eq_decide.2 (by omega) | exact (decide_eq_false (by omega)).symm | exact (decide_eq_true (by omega)).symm | (rw [Bool.eq_iff_iff]; simp only [Bool.or_eq_true, Bool.and_eq_true, beq_iff_eq, bne_iff_ne, ne_eq, decide_eq_true_eq, Bool.not_eq_true, Bool.false_eq_true, true_iff, false_iff, iff_true, iff_false] <;> omega))), rfl⟩

theorem tabbed_any (b : UInt8) (w : World) :
    Calls Try.prog 109 #[.int .u8 b.toNat] w fun e w' => e = .returned (.bool (isTab b)) ∧ w = w' := by
  go_enter Try.func109, Try.ntmps109
  go_wp2
  all_goals go_ret
  all_goals exact ⟨ret_bool (by rw [isTab_eq]; exact (by first | exact decide_eq_decide.2 (by omega) | exact (decide_eq_false (by omega)).symm | exact (decide_eq_true (by omega)).symm | (rw [Bool.eq_iff_iff]; simp only [Bool.or_eq_true, Bool.and_eq_true, beq_iff_eq, bne_iff_ne, ne_eq, decide_eq_true_eq, Bool.not_eq_true, Bool.false_eq_true, true_iff, false_iff, iff_true, iff_false] <;> omega))), rfl⟩

theorem Quoted_any (b : UInt8) (w : World) :
    Calls Try.prog 53 #[.int .u8 b.toNat] w fun e w' => e = .returned (.bool (isQuoted b)) ∧ w = w' := by
  go_enter Try.func53, Try.ntmps53
  go_wp2
  all_goals go_ret
  all_goals exact ⟨ret_bool (by rw [isQuoted_eq]; exact (by first | exact decide_eq_decide.2 (by omega) | exact (decide_eq_false (by omega)).symm | exact (decide_eq_true (by omega)).symm | (rw [Bool.eq_iff_iff]; simp only [Bool.or_eq_true, Bool.and_eq_true, beq_iff_eq, bne_iff_ne, ne_eq, decide_eq_true_eq, Bool.not_eq_true, Bool.false_eq_true, true_iff, false_iff, iff_true, iff_false] <;> omega))), rfl⟩

theorem White_any (b : UInt8) (w : World) :
    Calls Try.prog 94 #[.int .u8 b.toNat] w fun e w' => e = .returned (.bool (isWhite b)) ∧ w = w' := by
  go_enter Try.func94, Try.ntmps94
  go_wp2_with (go_at_call 89; refine (white_any _ _).mono ?_; rintro e w' ⟨rfl, rfl⟩)
  go_ret
  exact ⟨rfl, rfl⟩

theorem Tab_any (b : UInt8) (w : World) :
    Calls Try.prog 100 #[.int .u8 b.toNat] w fun e w' => e = .returned (.bool (isTab b)) ∧ w = w' := by
  go_enter Try.func100, Try.ntmps100
  go_wp2_with (go_at_call 109; refine (tabbed_any _ _).mono ?_; rintro e w' ⟨rfl, rfl⟩)
  go_ret
  exact ⟨rfl, rfl⟩

theorem low_any (b : UInt8) (w : World) :
    Calls Try.prog 106 #[.int .u8 b.toNat] w fun e w' => e = .returned (.int .u8 (lowOf b).toNat) ∧ w = w' := by
  have hb := bytes_small b
  have hl := lowOf_toNat b
  have hg := isGreat_eq b
  by_cases h : 65 ≤ b.toNat ∧ b.toNat ≤ 90
  · rw [if_pos h] at hl
    have H1 := Lib.hid hl; clear hl
    have H2 : Hid (isGreat b = true) := Lib.hid (by rw [hg]; simpa using h)
    clear hg
    obtain ⟨h1, h2⟩ := h
    go_enter Try.func106, Try.ntmps106
    go_wp2_with (go_at_call 104; refine (great_any _ _).mono ?_; rintro e w' ⟨rfl, rfl⟩; rw [H2.out])
    go_ret
    exact ⟨ret_int (by rw [H1.out]; simp), rfl⟩
  · rw [if_neg h] at hl
    have H1 := Lib.hid hl; clear hl
    have H2 : Hid (isGreat b = false) := Lib.hid (by rw [hg]; simpa using h)
    clear hg
    go_enter Try.func106, Try.ntmps106
    go_wp2_with (go_at_call 104; refine (great_any _ _).mono ?_; rintro e w' ⟨rfl, rfl⟩; rw [H2.out])
    go_ret
    exact ⟨ret_int (by rw [H1.out]), rfl⟩

theorem indexByteString_run (s : ByteArray) (b : UInt8) (w : World) :
    (callFunc 110 #[.string s, .int .u8 b.toNat]).run Try.prog w = .ok (.value (.int .i64 (Lib.indexByte s.data.toList b))) w := by
  rw [run_callFunc_extern Try.func110 (by kernel_rfl) (by kernel_rfl) (by kernel_rfl) (by kernel_rfl), Lib.run_indexByteString]
  simp [Result.andThen]

theorem IndexByte_any (s : ByteArray) (b : UInt8) (w : World) :
    Calls Try.prog 84 #[.string s, .int .u8 b.toNat] w fun e w' => e = .returned (.int .i64 (Lib.indexByte s.data.toList b)) ∧ w = w' := by
  have hib := indexByteString_run s b
  go_enter Try.func84, Try.ntmps84
  go_wp2
  go_ret
  exact ⟨rfl, rfl⟩

theorem Token_any (b : UInt8) (w : World) :
    Calls Try.prog 49 #[.int .u8 b.toNat] w fun e w' => e = .returned (.bool (isToken b)) ∧ w = w' := by
  unfold isToken
  have hi := indexByte_has signs b
  have HI : Hid (decide (0 ≤ Lib.indexByte signs b) = signs.contains b) := Lib.hid (by rw [Bool.eq_iff_iff, decide_eq_true_eq, hi])
  clear hi
  cases h : isLetter b <;> cases h2 : isDigit b
  all_goals
    have H := Lib.hid h; clear h
    have H2 := Lib.hid h2; clear h2
    go_enter Try.func49, Try.ntmps49
    go_wp2_with (first | (go_at_call 82; refine (letter_any _ _).mono ?_; rintro e w' ⟨rfl, rfl⟩; rw [H.out]) | (go_at_call 83; refine (digit_any _ _).mono ?_; rintro e w' ⟨rfl, rfl⟩; rw [H2.out]) | (go_at_call 84; refine (IndexByte_any ⟨⟨signs⟩⟩ _ _).mono ?_; rintro e w' ⟨rfl, rfl⟩))
    go_ret
    exact ⟨ret_bool (by first | rfl | (simp; done) | (rw [← HI.out]; simp)), rfl⟩

theorem rLetter_any (b : UInt8) (w : World) :
    Calls Try.prog 45 #[.int .u8 b.toNat] w fun e w' => e = .returned (.bool (isLetter b)) ∧ w = w' := by
  go_enter Try.func45, Try.ntmps45
  go_wp2
  all_goals go_ret
  all_goals exact ⟨ret_bool (by rw [isLetter_eq]; exact (by first | exact decide_eq_decide.2 (by omega) | exact (decide_eq_false (by omega)).symm | exact (decide_eq_true (by omega)).symm | (rw [Bool.eq_iff_iff]; simp only [Bool.or_eq_true, Bool.and_eq_true, beq_iff_eq, bne_iff_ne, ne_eq, decide_eq_true_eq, Bool.not_eq_true, Bool.false_eq_true, true_iff, false_iff, iff_true, iff_false] <;> omega))), rfl⟩

theorem rDigit_any (b : UInt8) (w : World) :
    Calls Try.prog 46 #[.int .u8 b.toNat] w fun e w' => e = .returned (.bool (isDigit b)) ∧ w = w' := by
  go_enter Try.func46, Try.ntmps46
  go_wp2
  all_goals go_ret
  all_goals exact ⟨ret_bool (by rw [isDigit_eq]; exact (by first | exact decide_eq_decide.2 (by omega) | exact (decide_eq_false (by omega)).symm | exact (decide_eq_true (by omega)).symm | (rw [Bool.eq_iff_iff]; simp only [Bool.or_eq_true, Bool.and_eq_true, beq_iff_eq, bne_iff_ne, ne_eq, decide_eq_true_eq, Bool.not_eq_true, Bool.false_eq_true, true_iff, false_iff, iff_true, iff_false] <;> omega))), rfl⟩

theorem rQuoted_any (b : UInt8) (w : World) :
    Calls Try.prog 55 #[.int .u8 b.toNat] w fun e w' => e = .returned (.bool (isQuoted b)) ∧ w = w' := by
  go_enter Try.func55, Try.ntmps55
  go_wp2
  all_goals go_ret
  all_goals exact ⟨ret_bool (by rw [isQuoted_eq]; exact (by first | exact decide_eq_decide.2 (by omega) | exact (decide_eq_false (by omega)).symm | exact (decide_eq_true (by omega)).symm | (rw [Bool.eq_iff_iff]; simp only [Bool.or_eq_true, Bool.and_eq_true, beq_iff_eq, bne_iff_ne, ne_eq, decide_eq_true_eq, Bool.not_eq_true, Bool.false_eq_true, true_iff, false_iff, iff_true, iff_false] <;> omega))), rfl⟩

theorem Has_any (s : ByteArray) (b : UInt8) (w : World) (hs : s.size ≤ maxLen) :
    Calls Try.prog 47 #[.string s, .int .u8 b.toNat] w fun e w' => e = .returned (.bool (hasB s b)) ∧ w = w' := by
  unfold maxLen at hs
  go_enter Try.func47, Try.ntmps47
  go_wp2
  go_loop [5] (fun i => ∃ k : Nat, k ≤ s.size ∧ i = .int .i64 k ∧ (∀ j (h : j < s.size), j < k → s[j] ≠ b)) (fun i => s.size - (intOf i).toNat)
  case atStart => exact ⟨0, Nat.zero_le _, rfl, fun j h hj => by omega⟩
  case round =>
    obtain ⟨k, hk, rfl, hno⟩ := hrel
    have HN := Lib.hid hno; clear hno
    by_cases hlt : k < s.size
    · go_wp2
      · go_ret
        exact ⟨ret_bool (hasB_at hlt ‹_›).symm, rfl⟩
      · go_round
        case rel => exact ⟨k + 1, by omega, by go_num, fun j h hj => by
          by_cases e : j = k
          · subst e; exact u8_ne ‹_›
          · exact HN.out j h (by omega)⟩
        case measure => simp [intOf]; omega
    · go_wp2
      go_ret
      exact ⟨ret_bool (hasB_none fun j hj => HN.out j hj (by omega)).symm, rfl⟩

theorem rWhite_any (b : UInt8) (w : World) :
    Calls Try.prog 68 #[.int .u8 b.toNat] w fun e w' => e = .returned (.bool (isWhite b)) ∧ w = w' := by
  have H : Hid (hasB ⟨#[9, 10, 13, 32]⟩ b = isWhite b) := Lib.hid (all_u8 (p := fun b => hasB ⟨#[9, 10, 13, 32]⟩ b = isWhite b) (by decide +kernel) b)
  go_enter Try.func68, Try.ntmps68
  go_wp2_with (go_at_call 47; refine (Has_any ⟨#[9, 10, 13, 32]⟩ _ _ (by decide)).mono ?_; rintro e w' ⟨rfl, rfl⟩; rw [H.out])
  go_ret
  exact ⟨rfl, rfl⟩

def rSigns : ByteArray := ⟨#[33, 35, 36, 37, 38, 39, 42, 43, 45, 46, 94, 95, 96, 124, 126]⟩

theorem rToken_any (b : UInt8) (w : World) :
    Calls Try.prog 18 #[.int .u8 b.toNat] w fun e w' => e = .returned (.bool (isToken b)) ∧ w = w' := by
  have HI : Hid (hasB rSigns b = signs.contains b) := Lib.hid (all_u8 (p := fun b => hasB rSigns b = signs.contains b) (by decide +kernel) b)
  unfold isToken
  cases h : isLetter b <;> cases h2 : isDigit b
  all_goals
    have H := Lib.hid h; clear h
    have H2 := Lib.hid h2; clear h2
    go_enter Try.func18, Try.ntmps18
    go_wp2_with (first | (go_at_call 45; refine (rLetter_any _ _).mono ?_; rintro e w' ⟨rfl, rfl⟩; rw [H.out]) | (go_at_call 46; refine (rDigit_any _ _).mono ?_; rintro e w' ⟨rfl, rfl⟩; rw [H2.out]) | (go_at_call 47; refine (Has_any rSigns _ _ (by decide)).mono ?_; rintro e w' ⟨rfl, rfl⟩; rw [HI.out]))
    go_ret
    exact ⟨ret_bool (by simp), rfl⟩

end Go.Proofs.Ytigclegknofhmaa
