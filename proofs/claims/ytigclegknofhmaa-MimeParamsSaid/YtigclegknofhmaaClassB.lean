/-
  Walks of package class and its reference: the functions on texts.
-/
import Derived.Test.YtigclegknofhmaaClassA
import Derived.Test.YtigclegknofhmaaBytesMem
import Derived.Test.YtigclegknofhmaaTextsPlain
import Derived.Laws.IdiomStrings
import Derived.Conc.MuLone
import Derived.Deep.QuietTactic
import Derived.BigQuiet
namespace Go.Proofs.Ytigclegknofhmaa
open Go.RowKit
set_option linter.unusedSimpArgs false
set_option linter.unusedVariables false

theorem lower_any (s : ByteArray) (w : World) (hs : s.size ≤ maxLen) :
    Calls Try.prog 90 #[.string s] w fun e w' => e = .returned (.string (lowerB s)) ∧ Below w.heap.size w w' := by
  unfold maxLen at hs
  have hconv := run_bytes_of_string (P := Try.prog) w 9 68 5 s Try.underlying9 Try.underlying68 Try.underlying5
  have h0 := BytesAt.ofString w s (grownCap w s.size 0 5) 5
  have hsz := Lib.size_eq s
  have H0 := Lib.hid h0; clear h0
  have HZ := Lib.hid hsz; clear hsz
  go_enter Try.func90, Try.ntmps90
  go_wp2
  clear hconv
  go_loopw [4, 9] (fun i i2 wr => ∃ k : Nat, k ≤ s.size ∧ i2 = .int .i64 k ∧ BytesAt wr w.heap.size (lowTo s.data.toList k) ∧ Below w.heap.size w wr) (fun _ i _ => s.size - (intOf i).toNat)
  case atStart => exact ⟨0, Nat.zero_le _, rfl, by rw [lowTo_zero]; exact H0.out, ((Below.refl _ _).alloc (Nat.le_refl _) _).drew⟩
  case round =>
    obtain ⟨k, hk, rfl, hby, hbl⟩ := hrel
    have HB := Lib.hid hby; clear hby
    have HW := Lib.hid hbl; clear hbl
    by_cases hlt : k < s.size
    · obtain ⟨x, hc, hf, hn⟩ := HB.out.low hlt
      have HN := Lib.hid hn; clear hn
      go_wp2_with (go_at_call 106; refine (low_any _ _).mono ?_; rintro e w' ⟨rfl, rfl⟩)
      go_roundw
      case rel => exact ⟨k + 1, by omega, by go_num, HN.out, HW.out.setCell (Nat.le_refl _) _⟩
      case measure => simp [intOf]; omega
    · obtain rfl : k = s.size := by omega
      have hby := HB.out
      rw [HZ.out, lowTo_all] at hby
      have hback := hby.back (P := Try.prog) (n := s.size) (grownCap w s.size 0 5) (by rw [HZ.out]; simp [lowerL]) 68 9 5 Try.underlying68 Try.underlying5 Try.underlying9
      clear hby
      go_wp2
      go_ret
      exact ⟨rfl, HW.out⟩

theorem Lower_any (s : ByteArray) (w : World) (hs : s.size ≤ maxLen) :
    Calls Try.prog 57 #[.string s] w fun e w' => e = .returned (.string (lowerB s)) ∧ Below w.heap.size w w' := by
  go_enter Try.func57, Try.ntmps57
  go_wp2_with (go_at_call 90; refine (lower_any _ _ hs).mono ?_; rintro e w' ⟨rfl, hb⟩)
  go_ret
  exact ⟨rfl, hb⟩

theorem Cut_any (s : ByteArray) (n : Nat) (w : World) (hs : s.size ≤ maxLen) (hn : (n : Int) ≤ 100000) :
    Calls Try.prog 8 #[.string s, .int .i64 n] w fun e w' => e = .returned (.string (cutB s n)) ∧ w = w' := by
  unfold maxLen at hs
  unfold cutB
  by_cases h : n < s.size
  · rw [if_pos h]
    go_enter Try.func8, Try.ntmps8
    go_wp2
    go_ret
    exact ⟨rfl, rfl⟩
  · rw [if_neg h]
    go_enter Try.func8, Try.ntmps8
    go_wp2
    go_ret
    exact ⟨rfl, rfl⟩

theorem Cut_100 (s : ByteArray) (w : World) (hs : s.size ≤ maxLen) :
    Calls Try.prog 8 #[.string s, .int .i64 100] w fun e w' => e = .returned (.string (cutB s 100)) ∧ w = w' :=
  Cut_any s 100 w hs (by decide)

/-- Function K asks a byte whether p holds of it, and turns nothing. -/
def FnPure (K : FuncId) (p : UInt8 → Bool) : Prop :=
  (∀ (args : Array Value) (w : World), (callFunc K args).run Try.prog w = .ok (.enter K args) w) ∧
    ∀ (b : UInt8) (w : World), Calls Try.prog K #[.int .u8 b.toNat] w fun e w' => e = .returned (.bool (p b)) ∧ w = w'

theorem end_any (K : FuncId) (p : UInt8 → Bool) (hK : FnPure K p) (s : ByteArray) (w : World) (hs : s.size ≤ maxLen) :
    Calls Try.prog 88 #[.string s, .func (.func K) #[] #[]] w fun e w' => e = .returned (.int .i64 (trimEnd p s.data.toList).length) ∧ w = w' := by
  unfold maxLen at hs
  obtain ⟨hcf, hK2⟩ := hK
  have HK := Lib.hid hK2; clear hK2
  go_enter Try.func88, Try.ntmps88
  go_wp2
  go_loop [5] (fun i => ∃ n : Nat, n ≤ s.size ∧ i = .int .i64 n ∧ trimEnd p (s.data.toList.take n) = trimEnd p s.data.toList) (fun i => (intOf i).toNat)
  case atStart => exact ⟨s.size, Nat.le_refl _, rfl, by rw [List.take_of_length_le (by rw [← Lib.size_eq]; omega)]⟩
  case round =>
    obtain ⟨n, hn, rfl, hp⟩ := hrel
    have HP := Lib.hid hp; clear hp
    cases n with
    | zero =>
      go_wp2
      go_ret
      exact ⟨ret_int (by rw [← HP.out]; simp [trimEnd]), rfl⟩
    | succ n =>
      have hlt : n < s.size := by omega
      cases hb : p s[n]
      · have HB := Lib.hid hb; clear hb
        go_wp2_with fail
        refine (HK.out _ _).mono ?_
        rintro e w' ⟨rfl, rfl⟩
        rw [HB.out]
        go_wp2_with fail
        go_ret
        exact ⟨ret_int (by rw [← HP.out, trimEnd_stopB p s n hlt HB.out, take_lengthB s _ hn]; first | rfl | omega), rfl⟩
      · have HB := Lib.hid hb; clear hb
        go_wp2_with fail
        refine (HK.out _ _).mono ?_
        rintro e w' ⟨rfl, rfl⟩
        rw [HB.out]
        go_wp2_with fail
        go_round
        case rel => exact ⟨n, by omega, by go_num, by rw [← HP.out, trimEnd_atB p s n hlt HB.out]⟩
        case measure => simp [intOf]

theorem fnWhite : FnPure 89 isWhite :=
  ⟨fun args w => MuLone.run_callFunc_enter Try.func89 (by kernel_rfl) rfl args w, white_any⟩

theorem fnTabbed : FnPure 109 isTab :=
  ⟨fun args w => MuLone.run_callFunc_enter Try.func109 (by kernel_rfl) rfl args w, tabbed_any⟩

theorem fnToken : FnPure 49 isToken :=
  ⟨fun args w => MuLone.run_callFunc_enter Try.func49 (by kernel_rfl) rfl args w, Token_any⟩

theorem Ends_any (s : ByteArray) (w : World) (hs : s.size ≤ maxLen) :
    Calls Try.prog 99 #[.string s] w fun e w' => e = .returned (.string (endsB s)) ∧ w = w' := by
  have hl := trimEnd_leB isTab s
  have HE := Lib.hid (extract_trimEnd isTab s)
  have hs' := hs
  unfold maxLen at hs'
  go_enter Try.func99, Try.ntmps99
  go_wp2_with (go_at_call 88; refine (end_any _ _ fnTabbed _ _ hs).mono ?_; rintro e w' ⟨rfl, rfl⟩)
  go_ret
  exact ⟨ret_string HE.out, rfl⟩

theorem Trim_any (s : ByteArray) (w : World) (hs : s.size ≤ maxLen) :
    Calls Try.prog 56 #[.string s] w fun e w' => e = .returned (.string (trimB s)) ∧ w = w' := by
  have hl := trimEnd_leB isWhite s
  have HE := Lib.hid (extract_trimEnd isWhite s)
  have hs' := hs
  unfold maxLen at hs'
  go_enter Try.func56, Try.ntmps56
  go_wp2_with (go_at_call 88; refine (end_any _ _ fnWhite _ _ hs).mono ?_; rintro e w' ⟨rfl, rfl⟩)
  generalize hT : s.extract 0 (trimEnd isWhite s.data.toList).length = t
  have ht : t.data.toList = trimEnd isWhite s.data.toList := by rw [← hT, HE.out]
  have hts : t.size ≤ 9223372036854775807 := by rw [Lib.size_eq, ht]; omega
  have HT := Lib.hid ht
  clear ht hT HE
  go_loop [3] (fun i => ∃ n : Nat, n ≤ t.size ∧ i = .int .i64 n ∧ (t.data.toList.drop n).dropWhile isWhite = t.data.toList.dropWhile isWhite) (fun i => t.size - (intOf i).toNat)
  case atStart => exact ⟨0, Nat.zero_le _, rfl, by rw [List.drop_zero]⟩
  case round =>
    obtain ⟨n, hn, rfl, hp⟩ := hrel
    have HP := Lib.hid hp; clear hp
    by_cases hlt : n < t.size
    · cases hb : isWhite t[n]
      · have HB := Lib.hid hb; clear hb
        go_wp2_with (go_at_call 89; refine (white_any _ _).mono ?_; rintro e w' ⟨rfl, rfl⟩; rw [HB.out])
        go_ret
        exact ⟨ret_string (trimB_of HT.out (by rw [← HP.out, dropWhile_stopB isWhite t n hlt HB.out])), rfl⟩
      · have HB := Lib.hid hb; clear hb
        go_wp2_with (go_at_call 89; refine (white_any _ _).mono ?_; rintro e w' ⟨rfl, rfl⟩; rw [HB.out])
        go_round
        case rel => exact ⟨n + 1, by omega, by go_num, by rw [← HP.out, dropWhile_atB isWhite t n hlt HB.out]⟩
        case measure => simp [intOf]; omega
    · obtain rfl : n = t.size := by omega
      go_wp2
      go_ret
      exact ⟨ret_string (by rw [← trimB_of HT.out (i := t.size) (by rw [← HP.out, drop_endB]; rfl)]; simp), rfl⟩

theorem count_any (K : FuncId) (p : UInt8 → Bool) (hK : FnPure K p) (s : ByteArray) (w : World) (hs : s.size ≤ maxLen) :
    Calls Try.prog 81 #[.string s, .func (.func K) #[] #[]] w fun e w' => e = .returned (.int .i64 (cnt p s.data.toList)) ∧ w = w' := by
  unfold maxLen at hs
  obtain ⟨hcf, hK2⟩ := hK
  have HK := Lib.hid hK2; clear hK2
  have hnn := fun (w : World) => run_neq_func_nil (P := Try.prog) w Try.underlying43 (.func K) #[] #[]
  go_enter Try.func81, Try.ntmps81
  go_wp2
  go_loop [5, 6] (fun m i => ∃ k : Nat, k ≤ s.size ∧ i = .int .i64 k ∧ m = .int .i64 (cnt p (s.data.toList.take k))) (fun _ i => s.size - (intOf i).toNat)
  case atStart => exact ⟨0, Nat.zero_le _, rfl, rfl⟩
  case round =>
    obtain ⟨k, hk, rfl, rfl⟩ := hrel
    have hc : cnt p (s.data.toList.take k) ≤ k := by have := cnt_le p (s.data.toList.take k); rw [take_lengthB s k hk] at this; exact this
    by_cases hlt : k < s.size
    · have HS := Lib.hid (cnt_atB p s k hlt)
      cases hb : p s[k]
      · have HB := Lib.hid hb; clear hb
        go_wp2_with fail
        refine (HK.out _ _).mono ?_
        rintro e w' ⟨rfl, rfl⟩
        rw [HB.out]
        go_wp2_with fail
        go_round
        case rel => exact ⟨k + 1, by omega, by go_num, by rw [HS.out, HB.out]; rfl⟩
        case measure => simp [intOf]; omega
      · have HB := Lib.hid hb; clear hb
        go_wp2_with fail
        refine (HK.out _ _).mono ?_
        rintro e w' ⟨rfl, rfl⟩
        rw [HB.out]
        go_wp2_with fail
        go_round
        case rel => exact ⟨k + 1, by omega, by go_num, by rw [HS.out, HB.out]; rfl⟩
        case measure => simp [intOf]; omega
    · obtain rfl : k = s.size := by omega
      go_wp2
      go_ret
      exact ⟨ret_int (by rw [take_allB]), rfl⟩

theorem count_nil (s : ByteArray) (w : World) :
    Calls Try.prog 81 #[.string s, .nilFunc] w fun e w' => e = .returned (.int .i64 0) ∧ w = w' := by
  have hnn := fun (w : World) => run_neq_nil_func (P := Try.prog) w Try.underlying43
  go_enter Try.func81, Try.ntmps81
  go_wp2
  go_loop [5, 6] (fun m i => m = .int .i64 0 ∧ i = .int .i64 0) (fun _ i => 0)
  case atStart => exact ⟨rfl, rfl⟩
  case round =>
    obtain ⟨rfl, rfl⟩ := hrel
    go_wp2
    go_ret
    exact ⟨rfl, rfl⟩

theorem All_any (K : FuncId) (p : UInt8 → Bool) (hK : FnPure K p) (s : ByteArray) (w : World) (hs : s.size ≤ maxLen) :
    Calls Try.prog 48 #[.string s, .func (.func K) #[] #[]] w fun e w' => e = .returned (.bool ((cnt p s.data.toList : Int) == s.size)) ∧ w = w' := by
  go_enter Try.func48, Try.ntmps48
  go_wp2_with (go_at_call 81; refine (count_any _ _ hK _ _ hs).mono ?_; rintro e w' ⟨rfl, rfl⟩)
  go_ret
  exact ⟨rfl, rfl⟩

theorem All_nil (s : ByteArray) (w : World) :
    Calls Try.prog 48 #[.string s, .nilFunc] w fun e w' => e = .returned (.bool ((0 : Int) == s.size)) ∧ w = w' := by
  go_enter Try.func48, Try.ntmps48
  go_wp2_with (go_at_call 81; refine (count_nil _ _).mono ?_; rintro e w' ⟨rfl, rfl⟩)
  go_ret
  exact ⟨rfl, rfl⟩

theorem rTrim_any (s : ByteArray) (w : World) (hs : s.size ≤ maxLen) :
    Calls Try.prog 63 #[.string s] w fun e w' => e = .returned (.string (trimB s)) ∧ w = w' := by
  unfold maxLen at hs
  go_enter Try.func63, Try.ntmps63
  go_wp2
  go_loop [0] (fun v => ∃ t : ByteArray, v = .string t ∧ t.size ≤ s.size ∧ t.data.toList.dropWhile isWhite = s.data.toList.dropWhile isWhite) (fun v => strLen v)
  case atStart => exact ⟨s, rfl, Nat.le_refl _, rfl⟩
  case round =>
    obtain ⟨t, rfl, hts, hp⟩ := hrel
    have HP := Lib.hid hp; clear hp
    by_cases hlt : 0 < t.size
    · cases hb : isWhite t[0]
      · have HB := Lib.hid hb; clear hb
        have HF := Lib.hid (front_stop isWhite HP.out hlt HB.out)
        go_wp2_with (go_at_call 68; refine (rWhite_any t[0] _).mono ?_; rintro e w' ⟨rfl, rfl⟩; rw [HB.out])
        go_loop [0] (fun v => ∃ q : ByteArray, v = .string q ∧ q.size ≤ s.size ∧ trimEnd isWhite q.data.toList = trimEnd isWhite t.data.toList) (fun v => strLen v)
        case atStart => exact ⟨t, rfl, hts, rfl⟩
        case round =>
          obtain ⟨q, rfl, hqs, hp⟩ := hrel
          have HQ := Lib.hid hp; clear hp
          by_cases hq : 0 < q.size
          · cases hb2 : isWhite q[q.size - 1]
            · have HB2 := Lib.hid hb2; clear hb2
              go_wp2_with (go_at_call 68; refine (rWhite_any q[q.size - 1] _).mono ?_; rintro e w' ⟨rfl, rfl⟩; rw [HB2.out])
              go_ret
              exact ⟨ret_string (trimB_back HF.out (endsB_stop isWhite HQ.out hq HB2.out)), rfl⟩
            · have HB2 := Lib.hid hb2; clear hb2
              go_wp2_with (go_at_call 68; refine (rWhite_any q[q.size - 1] _).mono ?_; rintro e w' ⟨rfl, rfl⟩; rw [HB2.out])
              go_round
              case rel => exact ⟨_, rfl, by rw [extract_size]; omega, endsB_step isWhite HQ.out hq HB2.out⟩
              case measure => simp [strLen, ByteArray.size_extract]; omega
          · go_wp2
            go_ret
            exact ⟨ret_string (trimB_back HF.out (endsB_empty isWhite HQ.out (by omega))), rfl⟩
      · have HB := Lib.hid hb; clear hb
        go_wp2_with (go_at_call 68; refine (rWhite_any t[0] _).mono ?_; rintro e w' ⟨rfl, rfl⟩; rw [HB.out])
        go_round
        case rel => exact ⟨_, rfl, by rw [extract_size]; omega, front_step isWhite HP.out hlt HB.out⟩
        case measure => simp [strLen, ByteArray.size_extract]; omega
    · have HF := Lib.hid (front_empty isWhite HP.out (by omega))
      go_wp2
      go_loop [0] (fun v => ∃ q : ByteArray, v = .string q ∧ q.size ≤ s.size ∧ trimEnd isWhite q.data.toList = trimEnd isWhite t.data.toList) (fun v => strLen v)
      case atStart => exact ⟨t, rfl, hts, rfl⟩
      case round =>
        obtain ⟨q, rfl, hqs, hp⟩ := hrel
        have HQ := Lib.hid hp; clear hp
        by_cases hq : 0 < q.size
        · cases hb2 : isWhite q[q.size - 1]
          · have HB2 := Lib.hid hb2; clear hb2
            go_wp2_with (go_at_call 68; refine (rWhite_any q[q.size - 1] _).mono ?_; rintro e w' ⟨rfl, rfl⟩; rw [HB2.out])
            go_ret
            exact ⟨ret_string (trimB_back HF.out (endsB_stop isWhite HQ.out hq HB2.out)), rfl⟩
          · have HB2 := Lib.hid hb2; clear hb2
            go_wp2_with (go_at_call 68; refine (rWhite_any q[q.size - 1] _).mono ?_; rintro e w' ⟨rfl, rfl⟩; rw [HB2.out])
            go_round
            case rel => exact ⟨_, rfl, by rw [extract_size]; omega, endsB_step isWhite HQ.out hq HB2.out⟩
            case measure => simp [strLen, ByteArray.size_extract]; omega
        · go_wp2
          go_ret
          exact ⟨ret_string (trimB_back HF.out (endsB_empty isWhite HQ.out (by omega))), rfl⟩

end Go.Proofs.Ytigclegknofhmaa
