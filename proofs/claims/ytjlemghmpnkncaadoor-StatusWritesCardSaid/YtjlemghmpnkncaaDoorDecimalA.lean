/-
  Walks of package decimal (reading) and its reference.
-/
import Derived.Test.YtjlemghmpnkncaaDoorClassB
import Derived.Test.YtjlemghmpnkncaaDoorDecimalPlain
namespace Go.Proofs.YtjlemghmpnkncaaDoor
open Go.RowKit
set_option linter.unusedSimpArgs false
set_option linter.unusedVariables false

set_option maxRecDepth 20000 in
theorem digits_any (s : ByteArray) (w : World) (hs : s.size ≤ maxLen) :
    Calls Tryd.prog 121 #[.string s] w fun e w' => e = .returned (.int .i64 (runL s.data.toList)) ∧ w = w' := by
  unfold maxLen at hs
  go_enter Tryd.func121, Tryd.ntmps121
  go_wp2
  go_loop [3] (fun i => ∃ k : Nat, k ≤ s.size ∧ i = .int .i64 k ∧ DigTo s k) (fun i => s.size - (intOf i).toNat)
  case atStart => exact ⟨0, Nat.zero_le _, rfl, digTo_zero s⟩
  case round =>
    obtain ⟨k, hk, rfl, hp⟩ := hrel
    have HP := Lib.hid hp; clear hp
    by_cases hlt : k < s.size
    · cases hb : isDigit s[k]
      · have HB := Lib.hid hb; clear hb
        go_wp2_with (go_at_call 80; refine (Digit_any _ _).mono ?_; rintro e w' ⟨rfl, rfl⟩; rw [HB.out])
        go_ret
        exact ⟨ret_int (by rw [runL_stop HP.out hlt HB.out]), rfl⟩
      · have HB := Lib.hid hb; clear hb
        go_wp2_with (go_at_call 80; refine (Digit_any _ _).mono ?_; rintro e w' ⟨rfl, rfl⟩; rw [HB.out])
        go_round
        case rel => exact ⟨k + 1, by omega, by go_num, digTo_step HP.out hlt HB.out⟩
        case measure => simp [intOf]; omega
    · obtain rfl : k = s.size := by omega
      go_wp2
      go_ret
      exact ⟨ret_int (by rw [runL_all HP.out]), rfl⟩

set_option maxRecDepth 20000 in
theorem value_any (s : ByteArray) (w : World) (hs : s.size ≤ maxLen) (hd : s.data.toList.all isDigit = true) :
    Calls Tryd.prog 122 #[.string s] w fun e w' => e = .returned (.tuple #[.int .i64 (min (valL s.data.toList) mostN : Nat), .bool (decide (valL s.data.toList ≤ mostN))]) ∧ w = w' := by
  unfold maxLen at hs
  have HD := Lib.hid (digTo_at hd); clear hd
  go_enter Tryd.func122, Tryd.ntmps122
  go_wp2
  go_loop [4, 5, 8] (fun n i j => ∃ k : Nat, k ≤ s.size ∧ j = .int .i64 k ∧ n = .int .i64 (valL (s.data.toList.take k)) ∧ valL (s.data.toList.take k) ≤ mostN) (fun _ _ j => s.size - (intOf j).toNat)
  case atStart => exact ⟨0, Nat.zero_le _, rfl, rfl, Nat.zero_le _⟩
  case round =>
    obtain ⟨k, hk, rfl, rfl, hm⟩ := hrel
    unfold mostN at hm
    by_cases hlt : k < s.size
    · have hv := valL_at s k hlt
      have hx0 := HD.out k hlt
      have hle := valL_take_le s.data.toList (k + 1)
      have hidx := index_byte (P := Tryd.prog) 9 Tryd.underlying9 s k hlt
      generalize hx : s[k] = x at *
      have HX := Lib.hid hx; clear hx
      rw [isDigit_eq, decide_eq_true_eq] at hx0
      have hx1 : (48 : Int) ≤ x.toNat ∧ (x.toNat : Int) ≤ 57 := by omega
      clear hx0
      generalize hw0 : valL (s.data.toList.take k) = n at *
      have hn : (n : Int) ≤ 9007199254740991 := by omega
      have HV := Lib.hid hv; have HL := Lib.hid hle
      clear hv hle hw0 hm
      go_wp2
      · go_ret2
        exact ⟨ret_ib (by have h1 := HV.out; have h2 := HL.out; unfold mostN; omega) (decide_eq_false (by have h1 := HV.out; have h2 := HL.out; unfold mostN; omega)).symm, rfl⟩
      · go_round
        case rel => exact ⟨k + 1, by omega, by go_num, by rw [HV.out]; exact congrArg _ (by omega), by rw [HV.out]; unfold mostN; omega⟩
        case measure => simp [intOf]; omega
    · obtain rfl : k = s.size := by omega
      rw [take_allB] at *
      have HM : Hid (valL s.data.toList ≤ mostN) := Lib.hid hm
      clear hm
      go_wp2
      go_ret2
      exact ⟨ret_ib (by rw [Nat.min_eq_left HM.out]) (by rw [decide_eq_true HM.out]), rfl⟩

theorem parse_any (s : ByteArray) (w : World) (hs : s.size ≤ maxLen) :
    Calls Tryd.prog 113 #[.string s] w fun e w' => e = .returned (.tuple #[.int .i64 (parseN s), .int .i64 (parseE s)]) ∧ w = w' := by
  have hs' := hs
  unfold maxLen at hs'
  have hr := runL_leB s
  by_cases h0 : s.size = 0
  · have hz : s.toList.isEmpty = true := by rw [Lib.toList_data, List.isEmpty_iff, ← List.length_eq_zero_iff, ← Lib.size_eq]; exact h0
    have H : Hid (parseN s = 0 ∧ parseE s = 2) := Lib.hid (by
      rw [Lib.toList_data] at hz
      simp [parseN, parseE, parseOk, hz])
    clear h0
    go_enter Tryd.func113, Tryd.ntmps113
    go_wp2
    go_ret2
    exact ⟨ret_ii H.out.1.symm H.out.2.symm, rfl⟩
  · have hz : s.toList.isEmpty = false := by rw [Lib.toList_data, List.isEmpty_eq_false_iff, ne_eq, ← List.length_eq_zero_iff, ← Lib.size_eq]; exact h0
    have hz' : s.data.toList.isEmpty = false := by rw [← Lib.toList_data]; exact hz
    by_cases hall : s.data.toList.all isDigit = true
    · have hrun := run_of_all hall
      rw [← Lib.size_eq] at hrun
      have HRUN := Lib.hid hrun
      have hno : ¬ runL s.data.toList < s.size := by omega
      clear hrun
      by_cases hm : valL s.data.toList ≤ mostN
      · have H : Hid (parseN s = (min (valL s.data.toList) mostN : Nat) ∧ parseE s = 0) := Lib.hid (by
          rw [Nat.min_eq_left hm]; simp [parseN, parseE, parseOk, hz', hall, hm])
        have HM := Lib.hid (decide_eq_true hm)
        clear hm hz'
        go_enter Tryd.func113, Tryd.ntmps113
        go_wp2_with (first | (go_at_call 121; refine (digits_any _ _ hs).mono ?_; rintro e w' ⟨rfl, rfl⟩) | (go_at_call 122; refine (value_any _ _ hs hall).mono ?_; rintro e w' ⟨rfl, rfl⟩; rw [HM.out]))
        go_ret2
        exact ⟨ret_ii H.out.1.symm H.out.2.symm, rfl⟩
      · have H : Hid (parseN s = 0 ∧ parseE s = 9) := Lib.hid (by
          simp [parseN, parseE, parseOk, hz', hall, hm])
        have HM := Lib.hid (decide_eq_false hm)
        clear hm hz'
        go_enter Tryd.func113, Tryd.ntmps113
        go_wp2_with (first | (go_at_call 121; refine (digits_any _ _ hs).mono ?_; rintro e w' ⟨rfl, rfl⟩) | (go_at_call 122; refine (value_any _ _ hs hall).mono ?_; rintro e w' ⟨rfl, rfl⟩; rw [HM.out]))
        go_ret2
        exact ⟨ret_ii H.out.1.symm H.out.2.symm, rfl⟩
    · have H : Hid (parseN s = 0 ∧ parseE s = 2) := Lib.hid (by simp [parseN, parseE, parseOk, hall])
      have hlt : runL s.data.toList < s.size := by
        rcases Nat.lt_or_ge (runL s.data.toList) s.size with h | h
        · exact h
        · exact absurd (all_of_run (l := s.data.toList) (by rw [← Lib.size_eq]; omega)) hall
      clear hz' hall h0
      go_enter Tryd.func113, Tryd.ntmps113
      go_wp2_with (go_at_call 121; refine (digits_any _ _ hs).mono ?_; rintro e w' ⟨rfl, rfl⟩)
      go_ret2
      exact ⟨ret_ii H.out.1.symm H.out.2.symm, rfl⟩

theorem Parse_any (s : ByteArray) (w : World) (hs : s.size ≤ maxLen) :
    Calls Tryd.prog 96 #[.string s] w fun e w' => e = .returned (.tuple #[.int .i64 (parseN s), .int .i64 (parseE s)]) ∧ w = w' := by
  go_enter Tryd.func96, Tryd.ntmps96
  go_wp2_with (go_at_call 113; refine (parse_any _ _ hs).mono ?_; rintro e w' ⟨rfl, rfl⟩)
  go_ret2
  exact ⟨rfl, rfl⟩

/-- What a reader of digits holds behind k of them. -/
def ParseRel (s : ByteArray) (n o i : Value) : Prop :=
  ∃ k : Nat, ∃ N : Int, ∃ over : Bool, k ≤ s.size ∧ i = .int .i64 k ∧ n = .int .i64 N ∧ o = .bool over ∧ DigTo s k ∧ 0 ≤ N ∧ N ≤ 100000000000000000 ∧
    (over = false → N = (valL (s.data.toList.take k) : Int) ∧ N ≤ 9007199254740991) ∧ (over = true → 9007199254740991 < N ∧ mostN < valL (s.data.toList.take k))

end Go.Proofs.YtjlemghmpnkncaaDoor
