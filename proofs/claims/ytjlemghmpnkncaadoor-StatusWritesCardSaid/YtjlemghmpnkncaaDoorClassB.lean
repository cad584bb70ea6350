/-
  Walks of package class and its reference: the functions on texts.
-/
import Derived.Test.YtjlemghmpnkncaaDoorClassA
import Derived.Test.YtjlemghmpnkncaaDoorBytesMem
import Derived.Test.YtjlemghmpnkncaaDoorTextsPlain
import Derived.Laws.IdiomStrings
import Derived.Conc.MuLone
import Derived.Deep.QuietTactic
import Derived.BigQuiet
namespace Go.Proofs.YtjlemghmpnkncaaDoor
open Go.RowKit
set_option linter.unusedSimpArgs false
set_option linter.unusedVariables false

theorem Cut_any (s : ByteArray) (n : Nat) (w : World) (hs : s.size ≤ maxLen) (hn : (n : Int) ≤ 100000) :
    Calls Tryd.prog 17 #[.string s, .int .i64 n] w fun e w' => e = .returned (.string (cutB s n)) ∧ w = w' := by
  unfold maxLen at hs
  unfold cutB
  by_cases h : n < s.size
  · rw [if_pos h]
    go_enter Tryd.func17, Tryd.ntmps17
    go_wp2
    go_ret
    exact ⟨rfl, rfl⟩
  · rw [if_neg h]
    go_enter Tryd.func17, Tryd.ntmps17
    go_wp2
    go_ret
    exact ⟨rfl, rfl⟩

theorem Cut_100 (s : ByteArray) (w : World) (hs : s.size ≤ maxLen) :
    Calls Tryd.prog 17 #[.string s, .int .i64 100] w fun e w' => e = .returned (.string (cutB s 100)) ∧ w = w' :=
  Cut_any s 100 w hs (by decide)

theorem same_any (a b : ByteArray) (w : World) (ha : a.size ≤ maxLen) (hb : b.size ≤ maxLen) :
    Calls Tryd.prog 115 #[.string a, .string b] w fun e w' => e = .returned (.bool (lowerL a.data.toList == lowerL b.data.toList)) ∧ Drew w w' := by
  unfold maxLen at ha hb
  by_cases h : a.size = b.size
  · have HE := Lib.hid h; clear h
    have hne : ((a.size : Int) != (b.size : Int)) = false := by rw [HE.out]; simp
    go_enter Tryd.func115, Tryd.ntmps115
    go_wp2
    go_loopw [5, 13] (fun i i2 wr => ∃ k : Nat, k ≤ a.size ∧ i2 = .int .i64 k ∧ Drew w wr ∧ SameTo a b k) (fun _ i _ => a.size - (intOf i).toNat)
    case atStart => exact ⟨0, Nat.zero_le _, rfl, Drew.refl _, sameTo_zero a b⟩
    case round =>
      obtain ⟨k, hk, rfl, hd, hp⟩ := hrel
      have HP := Lib.hid hp; clear hp
      by_cases hlt : k < a.size
      · have hlt2 : k < b.size := by rw [← HE.out]; exact hlt
        go_wp2
        go_quiet ((go_at_call 123; exact quiet_same (low_any _ _)))
        go_wp2
        · go_ret
          exact ⟨ret_bool (sameTo_miss hlt hlt2 ‹_›).symm, hd.drewN _⟩
        · go_roundw
          case rel => exact ⟨k + 1, by omega, by go_num, hd.drewN _, sameTo_step HP.out hlt hlt2 ‹_›⟩
          case measure => simp [intOf]; omega
      · obtain rfl : k = a.size := by omega
        go_wp2
        go_ret
        exact ⟨ret_bool (sameTo_all HE.out HP.out).symm, hd⟩
  · have hne : ((a.size : Int) != (b.size : Int)) = true := by simp; omega
    have HE := Lib.hid h; clear h
    go_enter Tryd.func115, Tryd.ntmps115
    go_wp2
    go_ret
    exact ⟨ret_bool (same_size HE.out).symm, Drew.refl _⟩

theorem Same_any (a b : ByteArray) (w : World) (ha : a.size ≤ maxLen) (hb : b.size ≤ maxLen) :
    Calls Tryd.prog 103 #[.string a, .string b] w fun e w' => e = .returned (.bool (lowerL a.data.toList == lowerL b.data.toList)) ∧ Drew w w' := by
  go_enter Tryd.func103, Tryd.ntmps103
  go_wp2_with (go_at_call 115; refine (same_any _ _ _ ha hb).mono ?_; rintro e w' ⟨rfl, hd⟩)
  go_ret
  exact ⟨rfl, hd⟩

/-- Function K asks a byte whether p holds of it, and turns nothing. -/
def FnPure (K : FuncId) (p : UInt8 → Bool) : Prop :=
  (∀ (args : Array Value) (w : World), (callFunc K args).run Tryd.prog w = .ok (.enter K args) w) ∧
    ∀ (b : UInt8) (w : World), Calls Tryd.prog K #[.int .u8 b.toNat] w fun e w' => e = .returned (.bool (p b)) ∧ w = w'

theorem end_any (K : FuncId) (p : UInt8 → Bool) (hK : FnPure K p) (s : ByteArray) (w : World) (hs : s.size ≤ maxLen) :
    Calls Tryd.prog 62 #[.string s, .func (.func K) #[] #[]] w fun e w' => e = .returned (.int .i64 (trimEnd p s.data.toList).length) ∧ w = w' := by
  unfold maxLen at hs
  obtain ⟨hcf, hK2⟩ := hK
  have HK := Lib.hid hK2; clear hK2
  go_enter Tryd.func62, Tryd.ntmps62
  go_wp2
  go_loop [5] (fun i => ∃ n : Nat, n ≤ s.size ∧ i = .int .i64 n ∧ trimEnd p (s.data.toList.take n) = trimEnd p s.data.toList) (fun i => (intOf i).toNat)
  case atStart => exact ⟨s.size, Nat.le_refl _, rfl, by rw [List.take_of_length_le (by rw [← Lib.size_eq]; omega)]⟩
  case round =>
    obtain ⟨n, hn, rfl, hp⟩ := hrel
    have HP := Lib.hid hp; clear hp
    cases n with
    | zero =>
      go_wp2
      go_ret
      exact ⟨ret_int (by rw [← HP.out]; simp [trimEnd]), rfl⟩
    | succ n =>
      have hlt : n < s.size := by omega
      cases hb : p s[n]
      · have HB := Lib.hid hb; clear hb
        go_wp2_with fail
        refine (HK.out _ _).mono ?_
        rintro e w' ⟨rfl, rfl⟩
        rw [HB.out]
        go_wp2_with fail
        go_ret
        exact ⟨ret_int (by rw [← HP.out, trimEnd_stopB p s n hlt HB.out, take_lengthB s _ hn]; first | rfl | omega), rfl⟩
      · have HB := Lib.hid hb; clear hb
        go_wp2_with fail
        refine (HK.out _ _).mono ?_
        rintro e w' ⟨rfl, rfl⟩
        rw [HB.out]
        go_wp2_with fail
        go_round
        case rel => exact ⟨n, by omega, by go_num, by rw [← HP.out, trimEnd_atB p s n hlt HB.out]⟩
        case measure => simp [intOf]

theorem fnTabbed : FnPure 63 isTab :=
  ⟨fun args w => MuLone.run_callFunc_enter Tryd.func63 (by kernel_rfl) rfl args w, tabbed_any⟩

theorem fnDigit : FnPure 80 isDigit :=
  ⟨fun args w => MuLone.run_callFunc_enter Tryd.func80 (by kernel_rfl) rfl args w, Digit_any⟩

theorem Ends_any (s : ByteArray) (w : World) (hs : s.size ≤ maxLen) :
    Calls Tryd.prog 41 #[.string s] w fun e w' => e = .returned (.string (endsB s)) ∧ w = w' := by
  have hl := trimEnd_leB isTab s
  have HE := Lib.hid (extract_trimEnd isTab s)
  have hs' := hs
  unfold maxLen at hs'
  go_enter Tryd.func41, Tryd.ntmps41
  go_wp2_with (go_at_call 62; refine (end_any _ _ fnTabbed _ _ hs).mono ?_; rintro e w' ⟨rfl, rfl⟩)
  go_ret
  exact ⟨ret_string HE.out, rfl⟩

theorem count_any (K : FuncId) (p : UInt8 → Bool) (hK : FnPure K p) (s : ByteArray) (w : World) (hs : s.size ≤ maxLen) :
    Calls Tryd.prog 109 #[.string s, .func (.func K) #[] #[]] w fun e w' => e = .returned (.int .i64 (cnt p s.data.toList)) ∧ w = w' := by
  unfold maxLen at hs
  obtain ⟨hcf, hK2⟩ := hK
  have HK := Lib.hid hK2; clear hK2
  have hnn := fun (w : World) => run_neq_func_nil (P := Tryd.prog) w Tryd.underlying53 (.func K) #[] #[]
  go_enter Tryd.func109, Tryd.ntmps109
  go_wp2
  go_loop [5, 6] (fun m i => ∃ k : Nat, k ≤ s.size ∧ i = .int .i64 k ∧ m = .int .i64 (cnt p (s.data.toList.take k))) (fun _ i => s.size - (intOf i).toNat)
  case atStart => exact ⟨0, Nat.zero_le _, rfl, rfl⟩
  case round =>
    obtain ⟨k, hk, rfl, rfl⟩ := hrel
    have hc : cnt p (s.data.toList.take k) ≤ k := by have := cnt_le p (s.data.toList.take k); rw [take_lengthB s k hk] at this; exact this
    by_cases hlt : k < s.size
    · have HS := Lib.hid (cnt_atB p s k hlt)
      cases hb : p s[k]
      · have HB := Lib.hid hb; clear hb
        go_wp2_with fail
        refine (HK.out _ _).mono ?_
        rintro e w' ⟨rfl, rfl⟩
        rw [HB.out]
        go_wp2_with fail
        go_round
        case rel => exact ⟨k + 1, by omega, by go_num, by rw [HS.out, HB.out]; rfl⟩
        case measure => simp [intOf]; omega
      · have HB := Lib.hid hb; clear hb
        go_wp2_with fail
        refine (HK.out _ _).mono ?_
        rintro e w' ⟨rfl, rfl⟩
        rw [HB.out]
        go_wp2_with fail
        go_round
        case rel => exact ⟨k + 1, by omega, by go_num, by rw [HS.out, HB.out]; rfl⟩
        case measure => simp [intOf]; omega
    · obtain rfl : k = s.size := by omega
      go_wp2
      go_ret
      exact ⟨ret_int (by rw [take_allB]), rfl⟩

theorem count_nil (s : ByteArray) (w : World) :
    Calls Tryd.prog 109 #[.string s, .nilFunc] w fun e w' => e = .returned (.int .i64 0) ∧ w = w' := by
  have hnn := fun (w : World) => run_neq_nil_func (P := Tryd.prog) w Tryd.underlying53
  go_enter Tryd.func109, Tryd.ntmps109
  go_wp2
  go_loop [5, 6] (fun m i => m = .int .i64 0 ∧ i = .int .i64 0) (fun _ i => 0)
  case atStart => exact ⟨rfl, rfl⟩
  case round =>
    obtain ⟨rfl, rfl⟩ := hrel
    go_wp2
    go_ret
    exact ⟨rfl, rfl⟩

theorem All_any (K : FuncId) (p : UInt8 → Bool) (hK : FnPure K p) (s : ByteArray) (w : World) (hs : s.size ≤ maxLen) :
    Calls Tryd.prog 88 #[.string s, .func (.func K) #[] #[]] w fun e w' => e = .returned (.bool ((cnt p s.data.toList : Int) == s.size)) ∧ w = w' := by
  go_enter Tryd.func88, Tryd.ntmps88
  go_wp2_with (go_at_call 109; refine (count_any _ _ hK _ _ hs).mono ?_; rintro e w' ⟨rfl, rfl⟩)
  go_ret
  exact ⟨rfl, rfl⟩

theorem All_nil (s : ByteArray) (w : World) :
    Calls Tryd.prog 88 #[.string s, .nilFunc] w fun e w' => e = .returned (.bool ((0 : Int) == s.size)) ∧ w = w' := by
  go_enter Tryd.func88, Tryd.ntmps88
  go_wp2_with (go_at_call 109; refine (count_nil _ _).mono ?_; rintro e w' ⟨rfl, rfl⟩)
  go_ret
  exact ⟨rfl, rfl⟩

end Go.Proofs.YtjlemghmpnkncaaDoor
