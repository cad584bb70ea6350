/-
  Walks of package class and its reference: the functions on texts.
-/
import Derived.Test.YtjlemghmpnkncaaClassA
import Derived.Test.YtjlemghmpnkncaaBytesMem
import Derived.Test.YtjlemghmpnkncaaTextsPlain
import Derived.Laws.IdiomStrings
import Derived.Conc.MuLone
import Derived.Deep.QuietTactic
import Derived.BigQuiet
namespace Go.Proofs.Ytjlemghmpnkncaa
open Go.RowKit
set_option linter.unusedSimpArgs false
set_option linter.unusedVariables false

theorem Cut_any (s : ByteArray) (n : Nat) (w : World) (hs : s.size ≤ maxLen) (hn : (n : Int) ≤ 100000) :
    Calls Try.prog 14 #[.string s, .int .i64 n] w fun e w' => e = .returned (.string (cutB s n)) ∧ w = w' := by
  unfold maxLen at hs
  unfold cutB
  by_cases h : n < s.size
  · rw [if_pos h]
    go_enter Try.func14, Try.ntmps14
    go_wp2
    go_ret
    exact ⟨rfl, rfl⟩
  · rw [if_neg h]
    go_enter Try.func14, Try.ntmps14
    go_wp2
    go_ret
    exact ⟨rfl, rfl⟩

theorem Cut_100 (s : ByteArray) (w : World) (hs : s.size ≤ maxLen) :
    Calls Try.prog 14 #[.string s, .int .i64 100] w fun e w' => e = .returned (.string (cutB s 100)) ∧ w = w' :=
  Cut_any s 100 w hs (by decide)

theorem same_any (a b : ByteArray) (w : World) (ha : a.size ≤ maxLen) (hb : b.size ≤ maxLen) :
    Calls Try.prog 121 #[.string a, .string b] w fun e w' => e = .returned (.bool (lowerL a.data.toList == lowerL b.data.toList)) ∧ Drew w w' := by
  unfold maxLen at ha hb
  by_cases h : a.size = b.size
  · have HE := Lib.hid h; clear h
    have hne : ((a.size : Int) != (b.size : Int)) = false := by rw [HE.out]; simp
    go_enter Try.func121, Try.ntmps121
    go_wp2
    go_loopw [5, 13] (fun i i2 wr => ∃ k : Nat, k ≤ a.size ∧ i2 = .int .i64 k ∧ Drew w wr ∧ SameTo a b k) (fun _ i _ => a.size - (intOf i).toNat)
    case atStart => exact ⟨0, Nat.zero_le _, rfl, Drew.refl _, sameTo_zero a b⟩
    case round =>
      obtain ⟨k, hk, rfl, hd, hp⟩ := hrel
      have HP := Lib.hid hp; clear hp
      by_cases hlt : k < a.size
      · have hlt2 : k < b.size := by rw [← HE.out]; exact hlt
        go_wp2
        go_quiet ((go_at_call 125; exact quiet_same (low_any _ _)))
        go_wp2
        · go_ret
          exact ⟨ret_bool (sameTo_miss hlt hlt2 ‹_›).symm, hd.drewN _⟩
        · go_roundw
          case rel => exact ⟨k + 1, by omega, by go_num, hd.drewN _, sameTo_step HP.out hlt hlt2 ‹_›⟩
          case measure => simp [intOf]; omega
      · obtain rfl : k = a.size := by omega
        go_wp2
        go_ret
        exact ⟨ret_bool (sameTo_all HE.out HP.out).symm, hd⟩
  · have hne : ((a.size : Int) != (b.size : Int)) = true := by simp; omega
    have HE := Lib.hid h; clear h
    go_enter Try.func121, Try.ntmps121
    go_wp2
    go_ret
    exact ⟨ret_bool (same_size HE.out).symm, Drew.refl _⟩

theorem Same_any (a b : ByteArray) (w : World) (ha : a.size ≤ maxLen) (hb : b.size ≤ maxLen) :
    Calls Try.prog 110 #[.string a, .string b] w fun e w' => e = .returned (.bool (lowerL a.data.toList == lowerL b.data.toList)) ∧ Drew w w' := by
  go_enter Try.func110, Try.ntmps110
  go_wp2_with (go_at_call 121; refine (same_any _ _ _ ha hb).mono ?_; rintro e w' ⟨rfl, hd⟩)
  go_ret
  exact ⟨rfl, hd⟩

/-- Function K asks a byte whether p holds of it, and turns nothing. -/
def FnPure (K : FuncId) (p : UInt8 → Bool) : Prop :=
  (∀ (args : Array Value) (w : World), (callFunc K args).run Try.prog w = .ok (.enter K args) w) ∧
    ∀ (b : UInt8) (w : World), Calls Try.prog K #[.int .u8 b.toNat] w fun e w' => e = .returned (.bool (p b)) ∧ w = w'

theorem end_any (K : FuncId) (p : UInt8 → Bool) (hK : FnPure K p) (s : ByteArray) (w : World) (hs : s.size ≤ maxLen) :
    Calls Try.prog 60 #[.string s, .func (.func K) #[] #[]] w fun e w' => e = .returned (.int .i64 (trimEnd p s.data.toList).length) ∧ w = w' := by
  unfold maxLen at hs
  obtain ⟨hcf, hK2⟩ := hK
  have HK := Lib.hid hK2; clear hK2
  go_enter Try.func60, Try.ntmps60
  go_wp2
  go_loop [5] (fun i => ∃ n : Nat, n ≤ s.size ∧ i = .int .i64 n ∧ trimEnd p (s.data.toList.take n) = trimEnd p s.data.toList) (fun i => (intOf i).toNat)
  case atStart => exact ⟨s.size, Nat.le_refl _, rfl, by rw [List.take_of_length_le (by rw [← Lib.size_eq]; omega)]⟩
  case round =>
    obtain ⟨n, hn, rfl, hp⟩ := hrel
    have HP := Lib.hid hp; clear hp
    cases n with
    | zero =>
      go_wp2
      go_ret
      exact ⟨ret_int (by rw [← HP.out]; simp [trimEnd]), rfl⟩
    | succ n =>
      have hlt : n < s.size := by omega
      cases hb : p s[n]
      · have HB := Lib.hid hb; clear hb
        go_wp2_with fail
        refine (HK.out _ _).mono ?_
        rintro e w' ⟨rfl, rfl⟩
        rw [HB.out]
        go_wp2_with fail
        go_ret
        exact ⟨ret_int (by rw [← HP.out, trimEnd_stopB p s n hlt HB.out, take_lengthB s _ hn]; first | rfl | omega), rfl⟩
      · have HB := Lib.hid hb; clear hb
        go_wp2_with fail
        refine (HK.out _ _).mono ?_
        rintro e w' ⟨rfl, rfl⟩
        rw [HB.out]
        go_wp2_with fail
        go_round
        case rel => exact ⟨n, by omega, by go_num, by rw [← HP.out, trimEnd_atB p s n hlt HB.out]⟩
        case measure => simp [intOf]

theorem fnTabbed : FnPure 61 isTab :=
  ⟨fun args w => MuLone.run_callFunc_enter Try.func61 (by kernel_rfl) rfl args w, tabbed_any⟩

theorem fnDigit : FnPure 89 isDigit :=
  ⟨fun args w => MuLone.run_callFunc_enter Try.func89 (by kernel_rfl) rfl args w, Digit_any⟩

theorem Ends_any (s : ByteArray) (w : World) (hs : s.size ≤ maxLen) :
    Calls Try.prog 36 #[.string s] w fun e w' => e = .returned (.string (endsB s)) ∧ w = w' := by
  have hl := trimEnd_leB isTab s
  have HE := Lib.hid (extract_trimEnd isTab s)
  have hs' := hs
  unfold maxLen at hs'
  go_enter Try.func36, Try.ntmps36
  go_wp2_with (go_at_call 60; refine (end_any _ _ fnTabbed _ _ hs).mono ?_; rintro e w' ⟨rfl, rfl⟩)
  go_ret
  exact ⟨ret_string HE.out, rfl⟩

theorem count_any (K : FuncId) (p : UInt8 → Bool) (hK : FnPure K p) (s : ByteArray) (w : World) (hs : s.size ≤ maxLen) :
    Calls Try.prog 116 #[.string s, .func (.func K) #[] #[]] w fun e w' => e = .returned (.int .i64 (cnt p s.data.toList)) ∧ w = w' := by
  unfold maxLen at hs
  obtain ⟨hcf, hK2⟩ := hK
  have HK := Lib.hid hK2; clear hK2
  have hnn := fun (w : World) => run_neq_func_nil (P := Try.prog) w Try.underlying74 (.func K) #[] #[]
  go_enter Try.func116, Try.ntmps116
  go_wp2
  go_loop [5, 6] (fun m i => ∃ k : Nat, k ≤ s.size ∧ i = .int .i64 k ∧ m = .int .i64 (cnt p (s.data.toList.take k))) (fun _ i => s.size - (intOf i).toNat)
  case atStart => exact ⟨0, Nat.zero_le _, rfl, rfl⟩
  case round =>
    obtain ⟨k, hk, rfl, rfl⟩ := hrel
    have hc : cnt p (s.data.toList.take k) ≤ k := by have := cnt_le p (s.data.toList.take k); rw [take_lengthB s k hk] at this; exact this
    by_cases hlt : k < s.size
    · have HS := Lib.hid (cnt_atB p s k hlt)
      cases hb : p s[k]
      · have HB := Lib.hid hb; clear hb
        go_wp2_with fail
        refine (HK.out _ _).mono ?_
        rintro e w' ⟨rfl, rfl⟩
        rw [HB.out]
        go_wp2_with fail
        go_round
        case rel => exact ⟨k + 1, by omega, by go_num, by rw [HS.out, HB.out]; rfl⟩
        case measure => simp [intOf]; omega
      · have HB := Lib.hid hb; clear hb
        go_wp2_with fail
        refine (HK.out _ _).mono ?_
        rintro e w' ⟨rfl, rfl⟩
        rw [HB.out]
        go_wp2_with fail
        go_round
        case rel => exact ⟨k + 1, by omega, by go_num, by rw [HS.out, HB.out]; rfl⟩
        case measure => simp [intOf]; omega
    · obtain rfl : k = s.size := by omega
      go_wp2
      go_ret
      exact ⟨ret_int (by rw [take_allB]), rfl⟩

theorem count_nil (s : ByteArray) (w : World) :
    Calls Try.prog 116 #[.string s, .nilFunc] w fun e w' => e = .returned (.int .i64 0) ∧ w = w' := by
  have hnn := fun (w : World) => run_neq_nil_func (P := Try.prog) w Try.underlying74
  go_enter Try.func116, Try.ntmps116
  go_wp2
  go_loop [5, 6] (fun m i => m = .int .i64 0 ∧ i = .int .i64 0) (fun _ i => 0)
  case atStart => exact ⟨rfl, rfl⟩
  case round =>
    obtain ⟨rfl, rfl⟩ := hrel
    go_wp2
    go_ret
    exact ⟨rfl, rfl⟩

theorem All_any (K : FuncId) (p : UInt8 → Bool) (hK : FnPure K p) (s : ByteArray) (w : World) (hs : s.size ≤ maxLen) :
    Calls Try.prog 97 #[.string s, .func (.func K) #[] #[]] w fun e w' => e = .returned (.bool ((cnt p s.data.toList : Int) == s.size)) ∧ w = w' := by
  go_enter Try.func97, Try.ntmps97
  go_wp2_with (go_at_call 116; refine (count_any _ _ hK _ _ hs).mono ?_; rintro e w' ⟨rfl, rfl⟩)
  go_ret
  exact ⟨rfl, rfl⟩

theorem All_nil (s : ByteArray) (w : World) :
    Calls Try.prog 97 #[.string s, .nilFunc] w fun e w' => e = .returned (.bool ((0 : Int) == s.size)) ∧ w = w' := by
  go_enter Try.func97, Try.ntmps97
  go_wp2_with (go_at_call 116; refine (count_nil _ _).mono ?_; rintro e w' ⟨rfl, rfl⟩)
  go_ret
  exact ⟨rfl, rfl⟩

theorem rEnds_any (s : ByteArray) (w : World) (hs : s.size ≤ maxLen) :
    Calls Try.prog 40 #[.string s] w fun e w' => e = .returned (.string (endsB s)) ∧ w = w' := by
  unfold maxLen at hs
  go_enter Try.func40, Try.ntmps40
  go_wp2
  go_loop [0] (fun v => ∃ t : ByteArray, v = .string t ∧ t.size ≤ s.size ∧ trimEnd isTab t.data.toList = trimEnd isTab s.data.toList) (fun v => strLen v)
  case atStart => exact ⟨s, rfl, Nat.le_refl _, rfl⟩
  case round =>
    obtain ⟨t, rfl, hts, hp⟩ := hrel
    have HP := Lib.hid hp; clear hp
    by_cases hlt : 0 < t.size
    · cases hb : isTab t[t.size - 1]
      · have HB := Lib.hid hb; clear hb
        go_wp2_with (go_at_call 44; refine (rTab_any t[t.size - 1] _).mono ?_; rintro e w' ⟨rfl, rfl⟩; rw [HB.out])
        go_ret
        exact ⟨ret_string (endsB_stop isTab HP.out hlt HB.out), rfl⟩
      · have HB := Lib.hid hb; clear hb
        go_wp2_with (go_at_call 44; refine (rTab_any t[t.size - 1] _).mono ?_; rintro e w' ⟨rfl, rfl⟩; rw [HB.out])
        go_round
        case rel => exact ⟨_, rfl, by rw [extract_size]; omega, endsB_step isTab HP.out hlt HB.out⟩
        case measure => simp [strLen, ByteArray.size_extract]; omega
    · go_wp2
      go_ret
      exact ⟨ret_string (endsB_empty isTab HP.out (by omega)), rfl⟩

end Go.Proofs.Ytjlemghmpnkncaa
