/-
  Walks of package mime: what a text is.
-/
import Derived.Test.YtigclegknofhmaaMimePlain
import Derived.Test.YtigclegknofhmaaClassC
import Derived.Test.YtigclegknofhmaaQuietIn
import Derived.Deep.RegionWith
namespace Go.Proofs.Ytigclegknofhmaa
open Go.RowKit
set_option linter.unusedSimpArgs false
set_option linter.unusedVariables false

theorem fnQuoted : FnPure 53 isQuoted :=
  ⟨fun args w => MuLone.run_callFunc_enter Try.func53 (by kernel_rfl) rfl args w, Quoted_any⟩

theorem fnWhiteC : FnPure 94 isWhite :=
  ⟨fun args w => MuLone.run_callFunc_enter Try.func94 (by kernel_rfl) rfl args w, White_any⟩

theorem All_list (K : FuncId) (p : UInt8 → Bool) (hK : FnPure K p) (s : ByteArray) (w : World) (hs : s.size ≤ maxLen) :
    Calls Try.prog 48 #[.string s, .func (.func K) #[] #[]] w fun e w' => e = .returned (.bool (s.data.toList.all p)) ∧ w = w' := by
  have HA := All_any K p hK s w hs
  have hc := cnt_all p s.data.toList
  rw [← Lib.size_eq] at hc
  rw [hc] at HA
  exact HA

theorem token_any (s : ByteArray) (w : World) (hs : s.size ≤ maxLen) :
    Calls Try.prog 61 #[.string s] w fun e w' => e = .returned (.bool (tokL s.data.toList)) ∧ w = w' := by
  have HA := Lib.hid (All_list 49 isToken fnToken s w hs)
  have HT : Hid (tokL s.data.toList = (!s.toList.isEmpty && s.data.toList.all isToken)) := Lib.hid (by rw [Lib.toList_data]; rfl)
  generalize s.data.toList.all isToken = r at *
  generalize tokL s.data.toList = t at *
  go_enter Try.func61, Try.ntmps61
  go_wp2_with (go_at_call 48; refine (HA.out).mono ?_; rintro e w' ⟨rfl, rfl⟩)
  · go_ret
    exact ⟨ret_bool (by rw [HT.out]; simp_all), rfl⟩
  · go_ret
    exact ⟨ret_bool (by rw [HT.out]), rfl⟩

theorem small_eq (s : ByteArray) : smallL s.data.toList = (tokL s.data.toList && ((lowerB s).toList == s.toList)) := by
  rw [Lib.toList_data, Lib.toList_data]
  rfl

theorem plain_any (s : ByteArray) (w : World) (hs : s.size ≤ maxLen) :
    Calls Try.prog 87 #[.string s] w fun e w' => e = .returned (.bool (smallL s.data.toList)) ∧ Below w.heap.size w w' := by
  have HT := Lib.hid (token_any s w hs)
  have HL := Lib.hid (Lower_any s w hs)
  have HE := Lib.hid (small_eq s)
  generalize tokL s.data.toList = t at *
  generalize lowerB s = l at *
  go_enter Try.func87, Try.ntmps87
  cases t
  · go_wp2_with (go_at_call 61; refine (HT.out).mono ?_; rintro e w' ⟨rfl, rfl⟩)
    go_ret
    exact ⟨ret_bool (by rw [HE.out]; rfl), Below.refl _ _⟩
  · go_wp2_with (first | (go_at_call 61; refine (HT.out).mono ?_; rintro e w' ⟨rfl, rfl⟩) | (go_at_call 57; refine (HL.out).mono ?_; rintro e w' ⟨rfl, hb⟩))
    go_ret
    refine ⟨ret_bool (by rw [HE.out]; simp), hb⟩

set_option maxRecDepth 20000 in
theorem r10Token_any (s : ByteArray) (w : World) (hs : s.size ≤ maxLen) :
    Calls Try.prog 65 #[.string s] w fun e w' => e = .returned (.bool (tokL s.data.toList)) ∧ w = w' := by
  unfold maxLen at hs
  have HT : Hid (tokL s.data.toList = (!s.toList.isEmpty && s.data.toList.all isToken)) := Lib.hid (by rw [Lib.toList_data]; rfl)
  go_enter Try.func65, Try.ntmps65
  go_wp2
  go_loop [3] (fun i => ∃ k : Nat, k ≤ s.size ∧ i = .int .i64 k ∧ (s.data.toList.take k).all isToken = true) (fun i => s.size - (intOf i).toNat)
  case atStart => exact ⟨0, Nat.zero_le _, rfl, rfl⟩
  case round =>
    obtain ⟨k, hk, rfl, hp⟩ := hrel
    have HP := Lib.hid hp
    clear hp
    by_cases hlt : k < s.size
    · have hidx := fun w => index_byte 9 Try.underlying9 s k hlt w
      have HS := Lib.hid (take_snocB s k hlt)
      have HC := Lib.hid (fun w => rToken_any s[k] w)
      have HD : Hid (isToken s[k] = false → s.data.toList.all isToken = false) := Lib.hid (fun h => by
        rw [List.all_eq_false]
        exact ⟨s[k], by rw [getElem_data s k hlt]; exact List.getElem_mem _, by rw [h]; simp⟩)
      generalize s[k] = x at *
      cases hx : isToken x
      · have HX := Lib.hid hx
        clear hx
        go_wp2_with (go_at_call 18; refine (HC.out _).mono ?_; rintro e w' ⟨rfl, rfl⟩; rw [HX.out])
        go_ret
        exact ⟨ret_bool (by rw [HT.out, HD.out HX.out]; simp), rfl⟩
      · have HX := Lib.hid hx
        clear hx
        go_wp2_with (go_at_call 18; refine (HC.out _).mono ?_; rintro e w' ⟨rfl, rfl⟩; rw [HX.out])
        go_round
        case rel => exact ⟨k + 1, by omega, by go_num, by rw [HS.out, List.all_append, HP.out]; simp [HX.out]⟩
        case measure => simp [intOf]; omega
    · obtain rfl : k = s.size := by omega
      have HP2 : Hid (s.data.toList.all isToken = true) := Lib.hid (by have := HP.out; rwa [List.take_of_length_le (by rw [← Lib.size_eq]; exact Nat.le_refl _)] at this)
      clear HP
      go_wp2
      all_goals go_ret
      all_goals exact ⟨ret_bool (by rw [HT.out, HP2.out]; simp_all), rfl⟩

set_option maxRecDepth 20000 in
theorem r10Quoted_any (s : ByteArray) (w : World) (hs : s.size ≤ maxLen) :
    Calls Try.prog 28 #[.string s] w fun e w' => e = .returned (.bool (quoL s.data.toList)) ∧ w = w' := by
  unfold maxLen at hs
  have HT : Hid (quoL s.data.toList = (s.data.toList.all isQuoted)) := Lib.hid rfl
  go_enter Try.func28, Try.ntmps28
  go_wp2
  go_loop [3] (fun i => ∃ k : Nat, k ≤ s.size ∧ i = .int .i64 k ∧ (s.data.toList.take k).all isQuoted = true) (fun i => s.size - (intOf i).toNat)
  case atStart => exact ⟨0, Nat.zero_le _, rfl, rfl⟩
  case round =>
    obtain ⟨k, hk, rfl, hp⟩ := hrel
    have HP := Lib.hid hp
    clear hp
    by_cases hlt : k < s.size
    · have hidx := fun w => index_byte 9 Try.underlying9 s k hlt w
      have HS := Lib.hid (take_snocB s k hlt)
      have HC := Lib.hid (fun w => rQuoted_any s[k] w)
      have HD : Hid (isQuoted s[k] = false → s.data.toList.all isQuoted = false) := Lib.hid (fun h => by
        rw [List.all_eq_false]
        exact ⟨s[k], by rw [getElem_data s k hlt]; exact List.getElem_mem _, by rw [h]; simp⟩)
      generalize s[k] = x at *
      cases hx : isQuoted x
      · have HX := Lib.hid hx
        clear hx
        go_wp2_with (go_at_call 55; refine (HC.out _).mono ?_; rintro e w' ⟨rfl, rfl⟩; rw [HX.out])
        go_ret
        exact ⟨ret_bool (by rw [HT.out, HD.out HX.out]), rfl⟩
      · have HX := Lib.hid hx
        clear hx
        go_wp2_with (go_at_call 55; refine (HC.out _).mono ?_; rintro e w' ⟨rfl, rfl⟩; rw [HX.out])
        go_round
        case rel => exact ⟨k + 1, by omega, by go_num, by rw [HS.out, List.all_append, HP.out]; simp [HX.out]⟩
        case measure => simp [intOf]; omega
    · obtain rfl : k = s.size := by omega
      have HP2 : Hid (s.data.toList.all isQuoted = true) := Lib.hid (by have := HP.out; rwa [List.take_of_length_le (by rw [← Lib.size_eq]; exact Nat.le_refl _)] at this)
      clear HP
      go_wp2
      all_goals go_ret
      all_goals exact ⟨ret_bool (by rw [HT.out, HP2.out]), rfl⟩

theorem rsmall_any (s : ByteArray) (w : World) (hs : s.size ≤ maxLen) (hr : s.size ≤ 140737488355328) :
    Calls Try.prog 54 #[.string s] w fun e w' => e = .returned (.bool (smallL s.data.toList)) ∧ Below w.heap.size w w' := by
  have HT := Lib.hid (r10Token_any s w hs)
  have HL := Lib.hid (rLower_any s w hs hr)
  have HE := Lib.hid (small_eq s)
  generalize tokL s.data.toList = t at *
  generalize lowerB s = l at *
  go_enter Try.func54, Try.ntmps54
  cases t
  · go_wp2_with (go_at_call 65; refine (HT.out).mono ?_; rintro e w' ⟨rfl, rfl⟩)
    go_ret
    exact ⟨ret_bool (by rw [HE.out]; rfl), Below.refl _ _⟩
  · go_wp2_with (first | (go_at_call 65; refine (HT.out).mono ?_; rintro e w' ⟨rfl, rfl⟩) | (go_at_call 66; refine (HL.out).mono ?_; rintro e w' ⟨rfl, hb⟩))
    go_ret
    refine ⟨ret_bool (by rw [HE.out]; simp), hb⟩

set_option maxRecDepth 20000 in
theorem back_any (s : ByteArray) (w : World) (hs : s.size ≤ maxLen) :
    Calls Try.prog 60 #[.string s] w fun e w' => e = .returned (.string (bt (trimEnd isWhite s.data.toList))) ∧ w = w' := by
  have hl := trimEnd_leB isWhite s
  have HE := Lib.hid (extract_trimEnd isWhite s)
  unfold maxLen at hs
  go_enter Try.func60, Try.ntmps60
  go_wp2
  go_loop [3] (fun i => ∃ n : Nat, n ≤ s.size ∧ i = .int .i64 n ∧ trimEnd isWhite (s.data.toList.take n) = trimEnd isWhite s.data.toList) (fun i => (intOf i).toNat)
  case atStart => exact ⟨s.size, Nat.le_refl _, rfl, by rw [List.take_of_length_le (by rw [← Lib.size_eq]; omega)]⟩
  case round =>
    obtain ⟨n, hn, rfl, hp⟩ := hrel
    have HP := Lib.hid hp; clear hp
    cases n with
    | zero =>
      have HZ : Hid (ByteArray.empty = bt (trimEnd isWhite s.data.toList)) := Lib.hid (by
        rw [← HP.out]
        rfl)
      go_wp2
      go_ret
      exact ⟨ret_string HZ.out, rfl⟩
    | succ n =>
      have hlt : n < s.size := by omega
      have hidx := fun w => index_byte 9 Try.underlying9 s n hlt w
      have HC := Lib.hid (fun w => White_any s[n] w)
      have HB0 := Lib.hid (fun h => trimEnd_stopB isWhite s n hlt h)
      have HB1 := Lib.hid (fun h => trimEnd_atB isWhite s n hlt h)
      generalize s[n] = x at *
      cases hb : isWhite x
      · have HB := Lib.hid hb; clear hb
        have HZ : Hid (s.extract 0 (n + 1) = bt (trimEnd isWhite s.data.toList)) := Lib.hid (by
          rw [← HP.out, HB0.out HB.out]
          apply bytes_ext
          rw [Lib.extract_data]
          simp [bt])
        go_wp2_with (go_at_call 94; refine (HC.out _).mono ?_; rintro e w' ⟨rfl, rfl⟩; rw [HB.out])
        go_ret
        exact ⟨ret_string HZ.out, rfl⟩
      · have HB := Lib.hid hb; clear hb
        go_wp2_with (go_at_call 94; refine (HC.out _).mono ?_; rintro e w' ⟨rfl, rfl⟩; rw [HB.out])
        go_round
        case rel => exact ⟨n, by omega, by go_num, by rw [← HP.out, HB1.out HB.out]⟩
        case measure => simp [intOf]

set_option maxRecDepth 20000 in
theorem rback_any (s : ByteArray) (w : World) (hs : s.size ≤ maxLen) :
    Calls Try.prog 67 #[.string s] w fun e w' => e = .returned (.string (bt (trimEnd isWhite s.data.toList))) ∧ w = w' := by
  unfold maxLen at hs
  obtain ⟨R, hR⟩ : ∃ R, bt (trimEnd isWhite s.data.toList) = R := ⟨_, rfl⟩
  rw [hR]
  go_enter Try.func67, Try.ntmps67
  go_wp2
  go_loop [0] (fun i => ∃ t : ByteArray, t.size ≤ s.size ∧ i = .string t ∧ bt (trimEnd isWhite t.data.toList) = R) (fun i => match i with | .string t => t.size | _ => 0)
  case atStart => exact ⟨s, Nat.le_refl _, rfl, hR⟩
  case round =>
    clear hR
    obtain ⟨t, hn, rfl, hp⟩ := hrel
    have HP := Lib.hid hp; clear hp
    by_cases h0 : t.size = 0
    · have hse : t = ByteArray.empty := by apply ByteArray.ext; apply Array.ext'; apply List.eq_nil_of_length_eq_zero; rw [← Lib.size_eq]; omega
      subst hse
      go_wp2
      go_ret
      exact ⟨ret_string HP.out, rfl⟩
    · have hlt : t.size - 1 < t.size := by omega
      have hidx := fun w => index_byte 9 Try.underlying9 t (t.size - 1) hlt w
      rw [show ((t.size - 1 : Nat) : Int) = (t.size : Int) - 1 by omega] at hidx
      have HC := Lib.hid (fun w => rWhite_any t[t.size - 1] w)
      have HB0 := Lib.hid (fun h => trimEnd_stopB isWhite t (t.size - 1) hlt h)
      have HB1 := Lib.hid (fun h => trimEnd_atB isWhite t (t.size - 1) hlt h)
      have HTK : Hid (t.data.toList.take t.size = t.data.toList) := Lib.hid (List.take_of_length_le (by rw [← Lib.size_eq]; exact Nat.le_refl _))
      rw [show t.size - 1 + 1 = t.size by omega] at HB0 HB1
      generalize t[t.size - 1] = x at *
      have HZS : Hid ((t.extract 0 (t.size - 1)).size = t.size - 1) := Lib.hid (by rw [extract_size]; omega)
      cases hb : isWhite x
      · have HB := Lib.hid hb; clear hb
        go_wp2_with (go_at_call 68; refine (HC.out _).mono ?_; rintro e w' ⟨rfl, rfl⟩; rw [HB.out])
        go_ret
        refine ⟨ret_string ?_, rfl⟩
        have h := HB0.out HB.out
        rw [HTK.out] at h
        rw [← HP.out, h]
        rfl
      · have HB := Lib.hid hb; clear hb
        go_wp2_with (go_at_call 68; refine (HC.out _).mono ?_; rintro e w' ⟨rfl, rfl⟩; rw [HB.out])
        go_round
        case rel =>
          refine ⟨_, by rw [HZS.out]; omega, rfl, ?_⟩
          have h := HB1.out HB.out
          rw [HTK.out] at h
          rw [← HP.out, h]
          apply congrArg bt
          rw [Lib.extract_data]
          simp
        case measure =>
          show (t.extract 0 (t.size - 1)).size < t.size
          rw [HZS.out]; omega

end Go.Proofs.Ytigclegknofhmaa
