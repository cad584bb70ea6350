/-
  Walks of package decimal (reading) and its reference.
-/
import Derived.Test.YtjlemghmpnkncaaClassB
import Derived.Test.YtjlemghmpnkncaaDecimalPlain
namespace Go.Proofs.Ytjlemghmpnkncaa
open Go.RowKit
set_option linter.unusedSimpArgs false
set_option linter.unusedVariables false

set_option maxRecDepth 20000 in
theorem digits_any (s : ByteArray) (w : World) (hs : s.size ≤ maxLen) :
    Calls Try.prog 123 #[.string s] w fun e w' => e = .returned (.int .i64 (runL s.data.toList)) ∧ w = w' := by
  unfold maxLen at hs
  go_enter Try.func123, Try.ntmps123
  go_wp2
  go_loop [3] (fun i => ∃ k : Nat, k ≤ s.size ∧ i = .int .i64 k ∧ DigTo s k) (fun i => s.size - (intOf i).toNat)
  case atStart => exact ⟨0, Nat.zero_le _, rfl, digTo_zero s⟩
  case round =>
    obtain ⟨k, hk, rfl, hp⟩ := hrel
    have HP := Lib.hid hp; clear hp
    by_cases hlt : k < s.size
    · cases hb : isDigit s[k]
      · have HB := Lib.hid hb; clear hb
        go_wp2_with (go_at_call 89; refine (Digit_any _ _).mono ?_; rintro e w' ⟨rfl, rfl⟩; rw [HB.out])
        go_ret
        exact ⟨ret_int (by rw [runL_stop HP.out hlt HB.out]), rfl⟩
      · have HB := Lib.hid hb; clear hb
        go_wp2_with (go_at_call 89; refine (Digit_any _ _).mono ?_; rintro e w' ⟨rfl, rfl⟩; rw [HB.out])
        go_round
        case rel => exact ⟨k + 1, by omega, by go_num, digTo_step HP.out hlt HB.out⟩
        case measure => simp [intOf]; omega
    · obtain rfl : k = s.size := by omega
      go_wp2
      go_ret
      exact ⟨ret_int (by rw [runL_all HP.out]), rfl⟩

set_option maxRecDepth 20000 in
theorem Run_any (s : ByteArray) (w : World) (hs : s.size ≤ maxLen) :
    Calls Try.prog 43 #[.string s] w fun e w' => e = .returned (.int .i64 (runL s.data.toList)) ∧ w = w' := by
  unfold maxLen at hs
  go_enter Try.func43, Try.ntmps43
  go_wp2
  go_loop [3] (fun i => ∃ k : Nat, k ≤ s.size ∧ i = .int .i64 k ∧ DigTo s k) (fun i => s.size - (intOf i).toNat)
  case atStart => exact ⟨0, Nat.zero_le _, rfl, digTo_zero s⟩
  case round =>
    obtain ⟨k, hk, rfl, hp⟩ := hrel
    have HP := Lib.hid hp; clear hp
    by_cases hlt : k < s.size
    · cases hb : isDigit s[k]
      · have HB := Lib.hid hb; clear hb
        go_wp2_with (go_at_call 42; refine (rDigit_any _ _).mono ?_; rintro e w' ⟨rfl, rfl⟩; rw [HB.out])
        go_ret
        exact ⟨ret_int (by rw [runL_stop HP.out hlt HB.out]), rfl⟩
      · have HB := Lib.hid hb; clear hb
        go_wp2_with (go_at_call 42; refine (rDigit_any _ _).mono ?_; rintro e w' ⟨rfl, rfl⟩; rw [HB.out])
        go_round
        case rel => exact ⟨k + 1, by omega, by go_num, digTo_step HP.out hlt HB.out⟩
        case measure => simp [intOf]; omega
    · obtain rfl : k = s.size := by omega
      go_wp2
      go_ret
      exact ⟨ret_int (by rw [runL_all HP.out]), rfl⟩

set_option maxRecDepth 20000 in
theorem value_any (s : ByteArray) (w : World) (hs : s.size ≤ maxLen) (hd : s.data.toList.all isDigit = true) :
    Calls Try.prog 124 #[.string s] w fun e w' => e = .returned (.tuple #[.int .i64 (min (valL s.data.toList) mostN : Nat), .bool (decide (valL s.data.toList ≤ mostN))]) ∧ w = w' := by
  unfold maxLen at hs
  have HD := Lib.hid (digTo_at hd); clear hd
  go_enter Try.func124, Try.ntmps124
  go_wp2
  go_loop [4, 5, 8] (fun n i j => ∃ k : Nat, k ≤ s.size ∧ j = .int .i64 k ∧ n = .int .i64 (valL (s.data.toList.take k)) ∧ valL (s.data.toList.take k) ≤ mostN) (fun _ _ j => s.size - (intOf j).toNat)
  case atStart => exact ⟨0, Nat.zero_le _, rfl, rfl, Nat.zero_le _⟩
  case round =>
    obtain ⟨k, hk, rfl, rfl, hm⟩ := hrel
    unfold mostN at hm
    by_cases hlt : k < s.size
    · have hv := valL_at s k hlt
      have hx0 := HD.out k hlt
      have hle := valL_take_le s.data.toList (k + 1)
      have hidx := index_byte (P := Try.prog) 9 Try.underlying9 s k hlt
      generalize hx : s[k] = x at *
      have HX := Lib.hid hx; clear hx
      rw [isDigit_eq, decide_eq_true_eq] at hx0
      have hx1 : (48 : Int) ≤ x.toNat ∧ (x.toNat : Int) ≤ 57 := by omega
      clear hx0
      generalize hw0 : valL (s.data.toList.take k) = n at *
      have hn : (n : Int) ≤ 9007199254740991 := by omega
      have HV := Lib.hid hv; have HL := Lib.hid hle
      clear hv hle hw0 hm
      go_wp2
      · go_ret2
        exact ⟨ret_ib (by have h1 := HV.out; have h2 := HL.out; unfold mostN; omega) (decide_eq_false (by have h1 := HV.out; have h2 := HL.out; unfold mostN; omega)).symm, rfl⟩
      · go_round
        case rel => exact ⟨k + 1, by omega, by go_num, by rw [HV.out]; exact congrArg _ (by omega), by rw [HV.out]; unfold mostN; omega⟩
        case measure => simp [intOf]; omega
    · obtain rfl : k = s.size := by omega
      rw [take_allB] at *
      have HM : Hid (valL s.data.toList ≤ mostN) := Lib.hid hm
      clear hm
      go_wp2
      go_ret2
      exact ⟨ret_ib (by rw [Nat.min_eq_left HM.out]) (by rw [decide_eq_true HM.out]), rfl⟩

theorem parse_any (s : ByteArray) (w : World) (hs : s.size ≤ maxLen) :
    Calls Try.prog 117 #[.string s] w fun e w' => e = .returned (.tuple #[.int .i64 (parseN s), .int .i64 (parseE s)]) ∧ w = w' := by
  have hs' := hs
  unfold maxLen at hs'
  have hr := runL_leB s
  by_cases h0 : s.size = 0
  · have hz : s.toList.isEmpty = true := by rw [Lib.toList_data, List.isEmpty_iff, ← List.length_eq_zero_iff, ← Lib.size_eq]; exact h0
    have H : Hid (parseN s = 0 ∧ parseE s = 2) := Lib.hid (by
      rw [Lib.toList_data] at hz
      simp [parseN, parseE, parseOk, hz])
    clear h0
    go_enter Try.func117, Try.ntmps117
    go_wp2
    go_ret2
    exact ⟨ret_ii H.out.1.symm H.out.2.symm, rfl⟩
  · have hz : s.toList.isEmpty = false := by rw [Lib.toList_data, List.isEmpty_eq_false_iff, ne_eq, ← List.length_eq_zero_iff, ← Lib.size_eq]; exact h0
    have hz' : s.data.toList.isEmpty = false := by rw [← Lib.toList_data]; exact hz
    by_cases hall : s.data.toList.all isDigit = true
    · have hrun := run_of_all hall
      rw [← Lib.size_eq] at hrun
      have HRUN := Lib.hid hrun
      have hno : ¬ runL s.data.toList < s.size := by omega
      clear hrun
      by_cases hm : valL s.data.toList ≤ mostN
      · have H : Hid (parseN s = (min (valL s.data.toList) mostN : Nat) ∧ parseE s = 0) := Lib.hid (by
          rw [Nat.min_eq_left hm]; simp [parseN, parseE, parseOk, hz', hall, hm])
        have HM := Lib.hid (decide_eq_true hm)
        clear hm hz'
        go_enter Try.func117, Try.ntmps117
        go_wp2_with (first | (go_at_call 123; refine (digits_any _ _ hs).mono ?_; rintro e w' ⟨rfl, rfl⟩) | (go_at_call 124; refine (value_any _ _ hs hall).mono ?_; rintro e w' ⟨rfl, rfl⟩; rw [HM.out]))
        go_ret2
        exact ⟨ret_ii H.out.1.symm H.out.2.symm, rfl⟩
      · have H : Hid (parseN s = 0 ∧ parseE s = 9) := Lib.hid (by
          simp [parseN, parseE, parseOk, hz', hall, hm])
        have HM := Lib.hid (decide_eq_false hm)
        clear hm hz'
        go_enter Try.func117, Try.ntmps117
        go_wp2_with (first | (go_at_call 123; refine (digits_any _ _ hs).mono ?_; rintro e w' ⟨rfl, rfl⟩) | (go_at_call 124; refine (value_any _ _ hs hall).mono ?_; rintro e w' ⟨rfl, rfl⟩; rw [HM.out]))
        go_ret2
        exact ⟨ret_ii H.out.1.symm H.out.2.symm, rfl⟩
    · have H : Hid (parseN s = 0 ∧ parseE s = 2) := Lib.hid (by simp [parseN, parseE, parseOk, hall])
      have hlt : runL s.data.toList < s.size := by
        rcases Nat.lt_or_ge (runL s.data.toList) s.size with h | h
        · exact h
        · exact absurd (all_of_run (l := s.data.toList) (by rw [← Lib.size_eq]; omega)) hall
      clear hz' hall h0
      go_enter Try.func117, Try.ntmps117
      go_wp2_with (go_at_call 123; refine (digits_any _ _ hs).mono ?_; rintro e w' ⟨rfl, rfl⟩)
      go_ret2
      exact ⟨ret_ii H.out.1.symm H.out.2.symm, rfl⟩

theorem Parse_any (s : ByteArray) (w : World) (hs : s.size ≤ maxLen) :
    Calls Try.prog 99 #[.string s] w fun e w' => e = .returned (.tuple #[.int .i64 (parseN s), .int .i64 (parseE s)]) ∧ w = w' := by
  go_enter Try.func99, Try.ntmps99
  go_wp2_with (go_at_call 117; refine (parse_any _ _ hs).mono ?_; rintro e w' ⟨rfl, rfl⟩)
  go_ret2
  exact ⟨rfl, rfl⟩

/-- What a reader of digits holds behind k of them. -/
def ParseRel (s : ByteArray) (n o i : Value) : Prop :=
  ∃ k : Nat, ∃ N : Int, ∃ over : Bool, k ≤ s.size ∧ i = .int .i64 k ∧ n = .int .i64 N ∧ o = .bool over ∧ DigTo s k ∧ 0 ≤ N ∧ N ≤ 100000000000000000 ∧
    (over = false → N = (valL (s.data.toList.take k) : Int) ∧ N ≤ 9007199254740991) ∧ (over = true → 9007199254740991 < N ∧ mostN < valL (s.data.toList.take k))

set_option maxRecDepth 20000 in
theorem rParse_any (s : ByteArray) (w : World) (hs : s.size ≤ maxLen) :
    Calls Try.prog 92 #[.string s] w fun e w' => e = .returned (.tuple #[.int .i64 (parseN s), .int .i64 (parseE s)]) ∧ w = w' := by
  unfold maxLen at hs
  go_enter Try.func92, Try.ntmps92
  go_wp2
  go_loop [4, 5, 6] (fun n o i => ParseRel s n o i) (fun _ _ j => s.size - (intOf j).toNat)
  case atStart => exact ⟨0, 0, false, Nat.zero_le _, rfl, rfl, rfl, digTo_zero s, by omega, by omega, fun _ => ⟨rfl, by omega⟩, fun h => by cases h⟩
  case round =>
    obtain ⟨k, N, over, hk, rfl, rfl, rfl, hp, hN0, hN1, hf, ht⟩ := hrel
    have HP := Lib.hid hp; clear hp
    by_cases hlt : k < s.size
    · have hv := valL_at s k hlt
      have hle := valL_take_le s.data.toList (k + 1)
      have hidx := index_byte (P := Try.prog) 9 Try.underlying9 s k hlt
      have hnd := fun h => not_all_at (s := s) hlt h
      have hds := fun h => digTo_step (s := s) HP.out hlt h
      generalize hx : s[k] = x at *
      have HX := Lib.hid hx; clear hx
      cases hb : isDigit x
      · have H : Hid (parseN s = 0 ∧ parseE s = 2) := Lib.hid (parse_bad (hnd hb))
        have HB := Lib.hid hb
        clear hv hle hnd hds hf ht hb
        go_wp2_with (go_at_call 42; refine (rDigit_any _ _).mono ?_; rintro e w' ⟨rfl, rfl⟩; rw [HB.out])
        go_ret2
        exact ⟨ret_ii H.out.1.symm H.out.2.symm, rfl⟩
      · have HD := Lib.hid (hds hb)
        have hx0 := hb
        rw [isDigit_eq, decide_eq_true_eq] at hx0
        have hx1 : (48 : Int) ≤ x.toNat ∧ (x.toNat : Int) ≤ 57 := by omega
        have HB := Lib.hid hb
        have HV := Lib.hid hv; have HL := Lib.hid hle
        clear hx0 hb hnd hds hv hle
        cases over
        · obtain ⟨hf1, hf2⟩ := hf rfl
          have HF := Lib.hid hf1
          clear hf ht hf1
          go_wp2_with (go_at_call 42; refine (rDigit_any _ _).mono ?_; rintro e w' ⟨rfl, rfl⟩; rw [HB.out])
          go_round
          case rel =>
            have h1 := HV.out
            have h2 := HF.out
            exact ⟨k + 1, _, _, by omega, by go_num, rfl, rfl, HD.out, by omega, by omega, fun h => ⟨by omega, by simpa using h⟩, fun h => ⟨by simpa using h, by have := of_decide_eq_true h; unfold mostN; omega⟩⟩
          case measure => simp [intOf]; omega
        · obtain ⟨ht1, ht2⟩ := ht rfl
          have HT := Lib.hid ht2
          clear hf ht ht2
          go_wp2_with (go_at_call 42; refine (rDigit_any _ _).mono ?_; rintro e w' ⟨rfl, rfl⟩; rw [HB.out])
          go_round
          case rel => exact ⟨k + 1, N, true, by omega, by go_num, rfl, rfl, HD.out, hN0, hN1, (fun h => by cases h), fun _ => ⟨ht1, by have h1 := HV.out; have h2 := HT.out; omega⟩⟩
          case measure => simp [intOf]; omega
    · obtain rfl : k = s.size := by omega
      rw [take_allB] at *
      by_cases h0 : s.size = 0
      · have hz : s.toList.isEmpty = true := by rw [Lib.toList_data, List.isEmpty_iff, ← List.length_eq_zero_iff, ← Lib.size_eq]; exact h0
        obtain ⟨e1, e2, _⟩ := parse_empty h0
        have H := Lib.hid (And.intro e1 e2)
        clear e1 e2 h0 hf ht
        go_wp2
        all_goals go_ret2
        all_goals exact ⟨ret_ii H.out.1.symm H.out.2.symm, rfl⟩
      · have hz : s.toList.isEmpty = false := by rw [Lib.toList_data, List.isEmpty_eq_false_iff, ne_eq, ← List.length_eq_zero_iff, ← Lib.size_eq]; exact h0
        obtain ⟨e1, e2⟩ := parse_digits (s := s) (by omega) (all_of_digTo HP.out)
        cases over
        · obtain ⟨hf1, hf2⟩ := hf rfl
          have hm : valL s.data.toList ≤ mostN := by unfold mostN; omega
          rw [if_pos hm] at e1 e2
          have H : Hid (parseN s = N ∧ parseE s = 0) := Lib.hid ⟨by rw [e1]; exact hf1.symm, e2⟩
          clear e1 e2 h0 hf ht hf1 hm
          go_wp2
          go_ret2
          exact ⟨ret_ii H.out.1.symm H.out.2.symm, rfl⟩
        · obtain ⟨ht1, ht2⟩ := ht rfl
          have hm : ¬ valL s.data.toList ≤ mostN := by omega
          rw [if_neg hm] at e1 e2
          have H := Lib.hid (And.intro e1 e2)
          clear e1 e2 h0 hf ht hm ht2
          go_wp2
          go_ret2
          exact ⟨ret_ii H.out.1.symm H.out.2.symm, rfl⟩

end Go.Proofs.Ytjlemghmpnkncaa
