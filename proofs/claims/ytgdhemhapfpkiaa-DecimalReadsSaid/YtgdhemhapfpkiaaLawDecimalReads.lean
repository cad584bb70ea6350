/-
  The statement DecimalReads: the law's walk.
-/
import Derived.Test.YtgdhemhapfpkiaaDecimalA
namespace Go.Proofs.Ytgdhemhapfpkiaa
open Go.RowKit
set_option linter.unusedSimpArgs false
set_option linter.unusedVariables false

theorem lives05_any (w : World) :
    Calls Try.prog 36 #[] w fun e w' => e = .returned (.bool true) ∧ w = w' := by
  have H : Hid (parseN ⟨#[48, 48, 55]⟩ = 7 ∧ parseE ⟨#[48, 48, 55]⟩ = 0 ∧ strictN ⟨#[48, 48, 55]⟩ = 0 ∧ strictE ⟨#[48, 48, 55]⟩ = 2) := Lib.hid (by decide +kernel)
  go_enter Try.func36, Try.ntmps36
  go_wp2_with (first | (go_at_call 31; refine (Parse_any ⟨#[48, 48, 55]⟩ _ (by decide)).mono ?_; rintro e w' ⟨rfl, rfl⟩; rw [H.out.1, H.out.2.1]) | (go_at_call 32; refine (Strict_any ⟨#[48, 48, 55]⟩ _ (by decide)).mono ?_; rintro e w' ⟨rfl, rfl⟩; rw [H.out.2.2.1, H.out.2.2.2]))
  go_ret
  exact ⟨rfl, rfl⟩

theorem Cut_60 (s : ByteArray) (w : World) (hs : s.size ≤ maxLen) :
    Calls Try.prog 21 #[.string s, .int .i64 60] w fun e w' => e = .returned (.string (cutB s 60)) ∧ w = w' :=
  Cut_any s 60 w hs (by decide)

/-- What the text's first digits are, as the law says it and as Prefix says it. -/
theorem prefix_eq (s : ByteArray) : ((if parseE (s.extract 0 (runL s.data.toList)) = 9 then (9007199254740991 : Int) else parseN (s.extract 0 (runL s.data.toList)))) = ((min (valL (s.data.toList.take (runL s.data.toList))) mostN : Nat) : Int) := by
  have hd := extract_digits s
  have he := extract_run s
  generalize s.extract 0 (runL s.data.toList) = t at *
  rw [← he]
  by_cases h0 : t.size = 0
  · obtain ⟨e1, e2, e3⟩ := parse_empty h0
    rw [e1, e2, e3]
    simp
  · obtain ⟨e1, e2⟩ := parse_digits (s := t) (by omega) hd
    rw [e1, e2]
    by_cases hm : valL t.data.toList ≤ mostN
    · simp [hm, Nat.min_eq_left hm]
    · rw [if_neg hm, if_pos rfl, Nat.min_eq_right (by omega)]
      rfl

theorem prefix_9 {t : ByteArray} (h : parseE (t.extract 0 (runL t.data.toList)) = 9) : ((min (valL (t.data.toList.take (runL t.data.toList))) mostN : Nat) : Int) = 9007199254740991 := by
  have := prefix_eq t
  rw [if_pos h] at this
  exact this.symm

theorem prefix_n {t : ByteArray} (h : ¬ parseE (t.extract 0 (runL t.data.toList)) = 9) : ((min (valL (t.data.toList.take (runL t.data.toList))) mostN : Nat) : Int) = parseN (t.extract 0 (runL t.data.toList)) := by
  have := prefix_eq t
  rw [if_neg h] at this
  exact this.symm

set_option maxHeartbeats 1000000 in
set_option maxRecDepth 20000 in
theorem decimalReads_walk (s : ByteArray) (w : World) (hs : s.size ≤ maxLen) :
    Calls Try.prog 7 #[.string s] w fun e w' => e = .returned (.bool true) ∧ Below w.heap.size w w' := by
  have hb : Below w.heap.size w w := Below.refl _ _
  have hs0 := cutB_size s 60
  go_enter Try.func7, Try.ntmps7
  go_wp2_with (go_at_call 21; (with_reducible refine (Cut_60 _ _ (by assumption)).mono ?_); rintro e w' ⟨rfl, rfl⟩)
  generalize cutB s 60 = t at *
  have ht : t.size ≤ maxLen := by omega
  have ht' : t.size ≤ 9223372036854775807 := by unfold maxLen at ht; omega
  clear hs0 hs
  have hr := runL_leB t
  have hx : (t.extract 0 (runL t.data.toList)).size ≤ maxLen := by rw [extract_size]; omega
  by_cases h1 : 1 < t.size
  · have ho := strictOff_at t h1
    have hidx := index_zero (P := Try.prog) 9 Try.underlying9 t (by omega)
    generalize hx0 : t[0] = x at *
    clear hx0
    cases hs1 : strictOff t
    all_goals
      rw [hs1] at ho
      have ho2 := ho.symm
      clear ho
    · have HS := Lib.hid (strict_off hs1)
      clear hs1
      by_cases h9 : parseE (t.extract 0 (runL t.data.toList)) = 9
      · have h9' : (parseE (t.extract 0 (runL t.data.toList)) == 9) = true := by rw [h9]; rfl
        have HP := Lib.hid (prefix_9 h9)
        clear h9
        go_wp2_with (first | (go_at_call 31; (with_reducible refine (Parse_any _ _ ht).mono ?_); rintro e w' ⟨rfl, rfl⟩) | (go_at_call 32; (with_reducible refine (Strict_any _ _ ht).mono ?_); rintro e w' ⟨rfl, rfl⟩; rw [HS.out.1, HS.out.2]) | (go_at_call 33; (with_reducible refine (rParse_any t _ ht).mono ?_); rintro e w' ⟨rfl, rfl⟩) | (go_at_call 34; (with_reducible refine (Run_any _ _ ht).mono ?_); rintro e w' ⟨rfl, rfl⟩) | (go_at_call 33; (with_reducible refine (rParse_any _ _ hx).mono ?_); rintro e w' ⟨rfl, rfl⟩) | (go_at_call 35; (with_reducible refine (Prefix_any _ _ ht).mono ?_); rintro e w' ⟨rfl, rfl⟩; rw [HP.out]) | (go_at_call 36; refine (lives05_any _).mono ?_; rintro e w' ⟨rfl, rfl⟩))
        go_ret
        exact ⟨rfl, hb⟩
      · have h9' : (parseE (t.extract 0 (runL t.data.toList)) == 9) = false := by simpa using h9
        have HP := Lib.hid (prefix_n h9)
        clear h9
        go_wp2_with (first | (go_at_call 31; (with_reducible refine (Parse_any _ _ ht).mono ?_); rintro e w' ⟨rfl, rfl⟩) | (go_at_call 32; (with_reducible refine (Strict_any _ _ ht).mono ?_); rintro e w' ⟨rfl, rfl⟩; rw [HS.out.1, HS.out.2]) | (go_at_call 33; (with_reducible refine (rParse_any t _ ht).mono ?_); rintro e w' ⟨rfl, rfl⟩) | (go_at_call 34; (with_reducible refine (Run_any _ _ ht).mono ?_); rintro e w' ⟨rfl, rfl⟩) | (go_at_call 33; (with_reducible refine (rParse_any _ _ hx).mono ?_); rintro e w' ⟨rfl, rfl⟩) | (go_at_call 35; (with_reducible refine (Prefix_any _ _ ht).mono ?_); rintro e w' ⟨rfl, rfl⟩; rw [HP.out]) | (go_at_call 36; refine (lives05_any _).mono ?_; rintro e w' ⟨rfl, rfl⟩))
        go_ret
        exact ⟨rfl, hb⟩
    · have HS := Lib.hid (strict_on hs1)
      clear hs1
      by_cases h9 : parseE (t.extract 0 (runL t.data.toList)) = 9
      · have h9' : (parseE (t.extract 0 (runL t.data.toList)) == 9) = true := by rw [h9]; rfl
        have HP := Lib.hid (prefix_9 h9)
        clear h9
        go_wp2_with (first | (go_at_call 31; (with_reducible refine (Parse_any _ _ ht).mono ?_); rintro e w' ⟨rfl, rfl⟩) | (go_at_call 32; (with_reducible refine (Strict_any _ _ ht).mono ?_); rintro e w' ⟨rfl, rfl⟩; rw [HS.out.1, HS.out.2]) | (go_at_call 33; (with_reducible refine (rParse_any t _ ht).mono ?_); rintro e w' ⟨rfl, rfl⟩) | (go_at_call 34; (with_reducible refine (Run_any _ _ ht).mono ?_); rintro e w' ⟨rfl, rfl⟩) | (go_at_call 33; (with_reducible refine (rParse_any _ _ hx).mono ?_); rintro e w' ⟨rfl, rfl⟩) | (go_at_call 35; (with_reducible refine (Prefix_any _ _ ht).mono ?_); rintro e w' ⟨rfl, rfl⟩; rw [HP.out]) | (go_at_call 36; refine (lives05_any _).mono ?_; rintro e w' ⟨rfl, rfl⟩))
        go_ret
        exact ⟨rfl, hb⟩
      · have h9' : (parseE (t.extract 0 (runL t.data.toList)) == 9) = false := by simpa using h9
        have HP := Lib.hid (prefix_n h9)
        clear h9
        go_wp2_with (first | (go_at_call 31; (with_reducible refine (Parse_any _ _ ht).mono ?_); rintro e w' ⟨rfl, rfl⟩) | (go_at_call 32; (with_reducible refine (Strict_any _ _ ht).mono ?_); rintro e w' ⟨rfl, rfl⟩; rw [HS.out.1, HS.out.2]) | (go_at_call 33; (with_reducible refine (rParse_any t _ ht).mono ?_); rintro e w' ⟨rfl, rfl⟩) | (go_at_call 34; (with_reducible refine (Run_any _ _ ht).mono ?_); rintro e w' ⟨rfl, rfl⟩) | (go_at_call 33; (with_reducible refine (rParse_any _ _ hx).mono ?_); rintro e w' ⟨rfl, rfl⟩) | (go_at_call 35; (with_reducible refine (Prefix_any _ _ ht).mono ?_); rintro e w' ⟨rfl, rfl⟩; rw [HP.out]) | (go_at_call 36; refine (lives05_any _).mono ?_; rintro e w' ⟨rfl, rfl⟩))
        go_ret
        exact ⟨rfl, hb⟩
  · have HS := Lib.hid (strict_off (strictOff_short t h1))
    by_cases h9 : parseE (t.extract 0 (runL t.data.toList)) = 9
    · have h9' : (parseE (t.extract 0 (runL t.data.toList)) == 9) = true := by rw [h9]; rfl
      have HP := Lib.hid (prefix_9 h9)
      clear h9
      go_wp2_with (first | (go_at_call 31; (with_reducible refine (Parse_any _ _ ht).mono ?_); rintro e w' ⟨rfl, rfl⟩) | (go_at_call 32; (with_reducible refine (Strict_any _ _ ht).mono ?_); rintro e w' ⟨rfl, rfl⟩; rw [HS.out.1, HS.out.2]) | (go_at_call 33; (with_reducible refine (rParse_any t _ ht).mono ?_); rintro e w' ⟨rfl, rfl⟩) | (go_at_call 34; (with_reducible refine (Run_any _ _ ht).mono ?_); rintro e w' ⟨rfl, rfl⟩) | (go_at_call 33; (with_reducible refine (rParse_any _ _ hx).mono ?_); rintro e w' ⟨rfl, rfl⟩) | (go_at_call 35; (with_reducible refine (Prefix_any _ _ ht).mono ?_); rintro e w' ⟨rfl, rfl⟩; rw [HP.out]) | (go_at_call 36; refine (lives05_any _).mono ?_; rintro e w' ⟨rfl, rfl⟩))
      go_ret
      exact ⟨rfl, hb⟩
    · have h9' : (parseE (t.extract 0 (runL t.data.toList)) == 9) = false := by simpa using h9
      have HP := Lib.hid (prefix_n h9)
      clear h9
      go_wp2_with (first | (go_at_call 31; (with_reducible refine (Parse_any _ _ ht).mono ?_); rintro e w' ⟨rfl, rfl⟩) | (go_at_call 32; (with_reducible refine (Strict_any _ _ ht).mono ?_); rintro e w' ⟨rfl, rfl⟩; rw [HS.out.1, HS.out.2]) | (go_at_call 33; (with_reducible refine (rParse_any t _ ht).mono ?_); rintro e w' ⟨rfl, rfl⟩) | (go_at_call 34; (with_reducible refine (Run_any _ _ ht).mono ?_); rintro e w' ⟨rfl, rfl⟩) | (go_at_call 33; (with_reducible refine (rParse_any _ _ hx).mono ?_); rintro e w' ⟨rfl, rfl⟩) | (go_at_call 35; (with_reducible refine (Prefix_any _ _ ht).mono ?_); rintro e w' ⟨rfl, rfl⟩; rw [HP.out]) | (go_at_call 36; refine (lives05_any _).mono ?_; rintro e w' ⟨rfl, rfl⟩))
      go_ret
      exact ⟨rfl, hb⟩

end Go.Proofs.Ytgdhemhapfpkiaa
