/-
  The statements ClassCounts and ClassTexts: the walks of the laws.
-/
import Derived.Test.YtgdhemhapfpkiaaClassC
import Derived.Test.YtgdhemhapfpkiaaLawClassBytes
namespace Go.Proofs.Ytgdhemhapfpkiaa
open Go.RowKit
open Go.ChangeShapes Go.WideShapes Go.ChangeAt
set_option linter.unusedSimpArgs false
set_option linter.unusedVariables false

theorem toList_nil_iff (t : ByteArray) : (t.toList = []) = (t.size = 0) := by
  rw [Lib.toList_data, Lib.size_eq, List.length_eq_zero_iff]

set_option maxRecDepth 20000 in
theorem classCounts_walk (s : ByteArray) (w : World) (hs : s.size ≤ maxLen) :
    Calls Try.prog 5 #[.string s] w fun e w' => e = .returned (.bool true) ∧ Below w.heap.size w w' := by
  go_enter Try.func5, Try.ntmps5
  go_wp2_with (go_at_call 21; refine (Cut_any _ 100 _ hs (by decide)).mono ?_; rintro e w' ⟨rfl, rfl⟩)
  have ht0 := cutB_size s 100
  generalize cutB s 100 = t at *
  have ht : t.size ≤ 100 := by omega
  clear ht0
  have hm : t.size ≤ maxLen := by unfold maxLen; omega
  go_loop [3, 4, 5] (fun n m i => ∃ k : Nat, k ≤ t.size ∧ i = .int .i64 k ∧ n = .int .i64 (cnt isToken (t.data.toList.take k)) ∧ m = .int .i64 (cnt isDigit (t.data.toList.take k))) (fun _ _ i => t.size - (intOf i).toNat)
  case atStart => exact ⟨0, Nat.zero_le _, rfl, rfl, rfl⟩
  case round =>
    obtain ⟨k, hk, rfl, rfl, rfl⟩ := hrel
    have hc : cnt isToken (t.data.toList.take k) ≤ k := by have := cnt_le isToken (t.data.toList.take k); rw [take_lengthB t k hk] at this; exact this
    have hc2 : cnt isDigit (t.data.toList.take k) ≤ k := by have := cnt_le isDigit (t.data.toList.take k); rw [take_lengthB t k hk] at this; exact this
    by_cases hlt : k < t.size
    · have HS := Lib.hid (cnt_atB isToken t k hlt)
      have HS2 := Lib.hid (cnt_atB isDigit t k hlt)
      cases hb : isToken t[k] <;> cases hb2 : isDigit t[k]
      all_goals
        have HB := Lib.hid hb; clear hb
        have HB2 := Lib.hid hb2; clear hb2
        go_wp2_with (first | (go_at_call 22; refine (rToken_any _ _).mono ?_; rintro e w' ⟨rfl, rfl⟩; rw [HB.out]) | (go_at_call 23; refine (rDigit_any _ _).mono ?_; rintro e w' ⟨rfl, rfl⟩; rw [HB2.out]))
        go_round
        case rel => exact ⟨k + 1, by omega, by go_num, by rw [HS.out, HB.out]; rfl, by rw [HS2.out, HB2.out]; rfl⟩
        case measure => simp [intOf]; omega
    · obtain rfl : k = t.size := by omega
      rw [take_allB] at *
      have hz : ((0 : Int) == t.size) = t.toList.isEmpty := by
        rw [Bool.eq_iff_iff, beq_iff_eq, List.isEmpty_iff, toList_nil_iff]; omega
      have HZ := Lib.hid hz; clear hz
      go_wp2_with (first | (go_at_call 24; (with_reducible refine (Count_any _ _ fnToken _ _ hm).mono ?_); rintro e w' ⟨rfl, rfl⟩) | (go_at_call 24; (with_reducible refine (Count_any _ _ fnDigit _ _ hm).mono ?_); rintro e w' ⟨rfl, rfl⟩) | (go_at_call 26; (with_reducible refine (All_any _ _ fnToken _ _ hm).mono ?_); rintro e w' ⟨rfl, rfl⟩) | (go_at_call 26; (with_reducible refine (All_any _ _ fnDigit _ _ hm).mono ?_); rintro e w' ⟨rfl, rfl⟩) | (go_at_call 24; (with_reducible refine (Count_nil _ _).mono ?_); rintro e w' ⟨rfl, rfl⟩) | (go_at_call 26; (with_reducible refine (All_nil _ _).mono ?_); rintro e w' ⟨rfl, rfl⟩; rw [HZ.out]) | (go_at_call 28; refine (lives03_any _).mono ?_; rintro e w' ⟨rfl, hb⟩))
      go_ret
      exact ⟨rfl, hb⟩

set_option maxRecDepth 20000 in
theorem classTexts_walk (s t : ByteArray) (w : World) (hs : s.size ≤ maxLen) (ht : t.size ≤ maxLen) :
    Calls Try.prog 12 #[.string s, .string t] w fun e w' => e = .returned (.bool true) ∧ Below w.heap.size w w' := by
  have hb : Below w.heap.size w w := Below.refl _ _
  have hs0 := cutB_size s 100
  have ht0 := cutB_size t 100
  go_enter Try.func12, Try.ntmps12
  go_wp2_with (go_at_call 21; (with_reducible refine (Cut_100 _ _ (by assumption)).mono ?_); rintro e w' ⟨rfl, rfl⟩)
  generalize cutB s 100 = a at *
  generalize cutB t 100 = b at *
  have ha : a.size ≤ maxLen := by omega
  have hbb : b.size ≤ maxLen := by omega
  have hla : a.size ≤ 100 := by omega
  have hlb : b.size ≤ 100 := by omega
  clear hs0 ht0 hs ht
  have h1 : (lowerB a).size ≤ maxLen := by rw [lowerB_size]; exact ha
  have h2 : (trimB a).size ≤ maxLen := Nat.le_trans (trimB_le a) ha
  have h3 : (endsB a).size ≤ maxLen := Nat.le_trans (endsB_le a) ha
  have r1 : a.size ≤ 140737488355328 := by omega
  have r2 : b.size ≤ 140737488355328 := by omega
  have R1 := Lib.hid r1
  have R2 := Lib.hid r2
  clear r1 r2
  have I1 := Lib.hid (lowerB_idem a)
  have I2 := Lib.hid (trimB_idem a)
  have I3 := Lib.hid (endsB_idem a)
  have E1 := Lib.hid (sameB_eq a b)
  by_cases hab : b.size ≤ a.size
  · have hx : (a.extract 0 b.size).size ≤ maxLen := by rw [extract_size]; omega
    have r3 : (a.extract 0 b.size).size ≤ 140737488355328 := by rw [extract_size]; omega
    have R3 := Lib.hid r3
    clear r3
    have E2 : Hid ((decide (b.size ≤ a.size) && lowerL ((a.extract 0 b.size).data.toList) == lowerL b.data.toList) = ((lowerB (a.extract 0 b.size)).toList == (lowerB b).toList)) := Lib.hid (by rw [sameB_eq]; simp [hab])
    go_wp2_with (first | (go_at_call 51; (with_reducible refine (Lower_any (lowerB a) _ h1).mono ?_); rintro e w' ⟨rfl, hb2⟩; replace hb := below_trans hb hb2; clear hb2; rw [I1.out]) | (go_at_call 51; (with_reducible refine (Lower_any _ _ (by assumption)).mono ?_); rintro e w' ⟨rfl, hb2⟩; replace hb := below_trans hb hb2; clear hb2) | (go_at_call 52; (with_reducible refine (Trim_any (trimB a) _ h2).mono ?_); rintro e w' ⟨rfl, rfl⟩; rw [I2.out]) | (go_at_call 52; (with_reducible refine (Trim_any _ _ (by assumption)).mono ?_); rintro e w' ⟨rfl, rfl⟩) | (go_at_call 53; (with_reducible refine (Ends_any (endsB a) _ h3).mono ?_); rintro e w' ⟨rfl, rfl⟩; rw [I3.out]) | (go_at_call 53; (with_reducible refine (Ends_any _ _ (by assumption)).mono ?_); rintro e w' ⟨rfl, rfl⟩) | (go_at_call 54; (with_reducible refine (rLower_any a _ ha R1.out).mono ?_); rintro e w' ⟨rfl, hb2⟩; replace hb := below_trans hb hb2; clear hb2) | (go_at_call 54; (with_reducible refine (rLower_any b _ hbb R2.out).mono ?_); rintro e w' ⟨rfl, hb2⟩; replace hb := below_trans hb hb2; clear hb2) | (go_at_call 54; (with_reducible refine (rLower_any (a.extract 0 b.size) _ hx R3.out).mono ?_); rintro e w' ⟨rfl, hb2⟩; replace hb := below_trans hb hb2; clear hb2) | (go_at_call 55; (with_reducible refine (rTrim_any _ _ ha).mono ?_); rintro e w' ⟨rfl, rfl⟩) | (go_at_call 56; (with_reducible refine (rEnds_any _ _ ha).mono ?_); rintro e w' ⟨rfl, rfl⟩) | (go_at_call 57; (with_reducible refine (Same_any _ _ _ ha hbb).mono ?_); rintro e w' ⟨rfl, hb2⟩; replace hb := below_trans hb (hb2.below _); clear hb2; rw [E1.out]) | (go_at_call 58; (with_reducible refine (Begins_any _ _ _ ha hbb).mono ?_); rintro e w' ⟨rfl, hb2⟩; replace hb := below_trans hb (hb2.below _); clear hb2; rw [E2.out]) | (go_at_call 28; (with_reducible refine (lives03_any _).mono ?_); rintro e w' ⟨rfl, hb2⟩; replace hb := below_trans hb hb2; clear hb2))
    go_ret
    exact ⟨rfl, hb⟩
  · have E2 : Hid ((decide (b.size ≤ a.size) && lowerL ((a.extract 0 b.size).data.toList) == lowerL b.data.toList) = false) := Lib.hid (by simp [hab])
    go_wp2_with (first | (go_at_call 51; (with_reducible refine (Lower_any (lowerB a) _ h1).mono ?_); rintro e w' ⟨rfl, hb2⟩; replace hb := below_trans hb hb2; clear hb2; rw [I1.out]) | (go_at_call 51; (with_reducible refine (Lower_any _ _ (by assumption)).mono ?_); rintro e w' ⟨rfl, hb2⟩; replace hb := below_trans hb hb2; clear hb2) | (go_at_call 52; (with_reducible refine (Trim_any (trimB a) _ h2).mono ?_); rintro e w' ⟨rfl, rfl⟩; rw [I2.out]) | (go_at_call 52; (with_reducible refine (Trim_any _ _ (by assumption)).mono ?_); rintro e w' ⟨rfl, rfl⟩) | (go_at_call 53; (with_reducible refine (Ends_any (endsB a) _ h3).mono ?_); rintro e w' ⟨rfl, rfl⟩; rw [I3.out]) | (go_at_call 53; (with_reducible refine (Ends_any _ _ (by assumption)).mono ?_); rintro e w' ⟨rfl, rfl⟩) | (go_at_call 54; (with_reducible refine (rLower_any a _ ha R1.out).mono ?_); rintro e w' ⟨rfl, hb2⟩; replace hb := below_trans hb hb2; clear hb2) | (go_at_call 54; (with_reducible refine (rLower_any b _ hbb R2.out).mono ?_); rintro e w' ⟨rfl, hb2⟩; replace hb := below_trans hb hb2; clear hb2) | (go_at_call 55; (with_reducible refine (rTrim_any _ _ ha).mono ?_); rintro e w' ⟨rfl, rfl⟩) | (go_at_call 56; (with_reducible refine (rEnds_any _ _ ha).mono ?_); rintro e w' ⟨rfl, rfl⟩) | (go_at_call 57; (with_reducible refine (Same_any _ _ _ ha hbb).mono ?_); rintro e w' ⟨rfl, hb2⟩; replace hb := below_trans hb (hb2.below _); clear hb2; rw [E1.out]) | (go_at_call 58; (with_reducible refine (Begins_any _ _ _ ha hbb).mono ?_); rintro e w' ⟨rfl, hb2⟩; replace hb := below_trans hb (hb2.below _); clear hb2; rw [E2.out]) | (go_at_call 28; (with_reducible refine (lives03_any _).mono ?_); rintro e w' ⟨rfl, hb2⟩; replace hb := below_trans hb hb2; clear hb2))
    go_ret
    exact ⟨rfl, hb⟩

end Go.Proofs.Ytgdhemhapfpkiaa
