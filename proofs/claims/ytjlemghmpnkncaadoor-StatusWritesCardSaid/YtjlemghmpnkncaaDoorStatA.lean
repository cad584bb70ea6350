/-
  Walks of package status: the pieces of a line.
-/
import Derived.Test.YtjlemghmpnkncaaDoorCursorG
import Derived.Test.YtjlemghmpnkncaaDoorDecimalA
import Derived.Test.YtjlemghmpnkncaaDoorStatF
import Derived.Test.YtjlemghmpnkncaaDoorTrapVStat
import Derived.Test.YtjlemghmpnkncaaDoorQuietIn
namespace Go.Proofs.YtjlemghmpnkncaaDoor
open Go.RowKit
set_option linter.unusedSimpArgs false
set_option linter.unusedVariables false

theorem sign_gives (p : ByteArray) (g : Nat) (s : ByteArray) (k : Nat) (w : World) (h : Cur w g s k) (hk : k ≤ s.size) (hs : s.size ≤ maxLen) (hp : prefB (restB s k) p = true) :
    Calls Tryd.prog 66 #[.pointer (some ⟨g, 0, none⟩), .string p] w fun e w' => e = .returned (.tuple #[]) ∧ Moved g s (k + p.size) w w' := by
  have HC := Lib.hid (Skip_yes p g s k w h hk hs hp)
  clear hp h
  go_enter Tryd.func66, Tryd.ntmps66
  go_wp2_with (first | (go_at_call 68; refine HC.out.mono ?_; rintro e w1 ⟨rfl, hm⟩) | (go_at_call 93; refine (At_any g s (k + p.size) _ hm.1).mono ?_; rintro e w2 ⟨rfl, rfl⟩) | (go_at_call 73; refine (Check_yes _ _ _).mono ?_; rintro e w2 ⟨rfl, rfl⟩))
  go_end0
  exact ⟨rfl, hm⟩

theorem sign_throws (p : ByteArray) (g : Nat) (s : ByteArray) (k : Nat) (w : World) (h : Cur w g s k) (hk : k ≤ s.size) (hs : s.size ≤ maxLen) (hp : prefB (restB s k) p = false) :
    Calls Tryd.prog 66 #[.pointer (some ⟨g, 0, none⟩), .string p] w fun e w' => e = .panicked [{ v := faultV k 2, recovered := false }] ∧ Moved g s k w w' := by
  have HC := Lib.hid (Skip_no p g s k w h hk hs hp)
  clear hp h
  go_enter Tryd.func66, Tryd.ntmps66
  go_wp2_with (first | (go_at_call 68; refine HC.out.mono ?_; rintro e w1 ⟨rfl, hm⟩) | (go_at_call 93; refine (At_any g s k _ hm.1).mono ?_; rintro e w2 ⟨rfl, rfl⟩) | (go_at_call 73; refine (Check_no _ _ _).mono ?_; rintro e w2 ⟨rfl, rfl⟩))
  exact ⟨rfl, rfl, hm⟩

theorem valL_digits (l : List UInt8) (h : l.all isDigit = true) : valL l < 10 ^ l.length := by
  have H : ∀ (l : List UInt8), l.all isDigit = true → ∀ n, valFrom n l < (n + 1) * 10 ^ l.length := by
    intro l
    induction l with
    | nil => intro _ n; simp [valFrom]
    | cons b l ih =>
      intro h n
      rw [List.all_cons, Bool.and_eq_true] at h
      have h2 := ih h.2 (10 * n + (b.toNat - 48))
      have hb : b.toNat - 48 ≤ 9 := by
        have := h.1
        rw [isDigit_eq] at this
        simp only [Bool.and_eq_true, decide_eq_true_eq] at this
        omega
      have e : valFrom n (b :: l) = valFrom (10 * n + (b.toNat - 48)) l := rfl
      rw [e, List.length_cons, Nat.pow_succ]
      refine Nat.lt_of_lt_of_le h2 ?_
      calc (10 * n + (b.toNat - 48) + 1) * 10 ^ l.length ≤ ((n + 1) * 10) * 10 ^ l.length := Nat.mul_le_mul_right _ (by omega)
        _ = (n + 1) * (10 ^ l.length * 10) := by rw [Nat.mul_assoc, Nat.mul_comm 10]
  have := H l h 0
  simpa [valL] using this

/-- The number that digits say. -/
def numB (s : ByteArray) (k n : Nat) : Nat := valL (s.extract k (k + n)).data.toList

/-- So many digits stand at a place. -/
def digB (s : ByteArray) (k n : Nat) : Bool := (s.extract k (k + n)).data.toList.all isDigit

theorem numB_lt (s : ByteArray) (k n : Nat) (h : digB s k n = true) (hn : n ≤ 3) : numB s k n < 1000 := by
  have h1 := valL_digits _ h
  have h2 : (s.extract k (k + n)).data.toList.length ≤ 3 := by rw [← Lib.size_eq, extract_size]; omega
  exact Nat.lt_of_lt_of_le h1 (Nat.le_trans (Nat.pow_le_pow_right (by decide) h2) (by decide))

set_option maxRecDepth 20000 in
theorem digits_gives (g : Nat) (s : ByteArray) (k n : Nat) (w : World) (h : Cur w g s k) (hn : k + n ≤ s.size) (hn1 : 1 ≤ n) (hn3 : n ≤ 3) (hs : s.size ≤ maxLen) (hd : digB s k n = true) :
    Calls Tryd.prog 67 #[.pointer (some ⟨g, 0, none⟩), .int .i64 n] w fun e w' => e = .returned (.int .i64 (numB s k n)) ∧ Moved g s (k + n) w w' := by
  have hlt := numB_lt s k n hd hn3
  unfold numB at hlt ⊢
  unfold digB at hd
  have hz : (s.extract k (k + n)).size = n := by rw [extract_size]; omega
  have hzm : (s.extract k (k + n)).size ≤ maxLen := by unfold maxLen; omega
  have hp := parse_digits (s := s.extract k (k + n)) (by omega) hd
  have HC := Lib.hid (Take_gives g s k n w h hn hs)
  have hm : valL (s.extract k (k + n)).data.toList ≤ mostN := by unfold mostN; omega
  rw [if_pos hm, if_pos hm] at hp
  have HA : Hid (∀ w, Calls Tryd.prog 88 #[.string (s.extract k (k + n)), .func (.func 80) #[] #[]] w fun e w' => e = .returned (.bool true) ∧ w = w') := Lib.hid (fun w => by
    have := All_list 80 isDigit fnDigit (s.extract k (k + n)) w hzm
    rwa [hd] at this)
  have HP : Hid (∀ w, Calls Tryd.prog 96 #[.string (s.extract k (k + n))] w fun e w' => e = .returned (.tuple #[.int .i64 (valL (s.extract k (k + n)).data.toList), .int .i64 0]) ∧ w = w') := Lib.hid (fun w => by
    have := Parse_any (s.extract k (k + n)) w hzm
    rwa [hp.1, hp.2] at this)
  generalize valL (s.extract k (k + n)).data.toList = v at *
  generalize s.extract k (k + n) = t at *
  clear hp hd hz hzm hm hlt h
  go_enter Tryd.func67, Tryd.ntmps67
  go_wp2_with (first | (go_at_call 94; refine HC.out.mono ?_; rintro e w1 ⟨rfl, hm⟩) | (go_at_call 88; refine (HA.out _).mono ?_; rintro e w2 ⟨rfl, rfl⟩) | (go_at_call 93; refine (At_any g s (k + n) _ hm.1).mono ?_; rintro e w2 ⟨rfl, rfl⟩) | (go_at_call 73; refine (Check_yes _ _ _).mono ?_; rintro e w2 ⟨rfl, rfl⟩) | (go_at_call 96; refine (HP.out _).mono ?_; rintro e w2 ⟨rfl, rfl⟩) | (go_at_call 95; refine (Must_gives _ _).mono ?_; rintro e w2 ⟨rfl, rfl⟩))
  go_ret
  exact ⟨rfl, hm⟩

set_option maxRecDepth 20000 in
theorem digits_short (g : Nat) (s : ByteArray) (k n : Nat) (w : World) (h : Cur w g s k) (hk : k ≤ s.size) (hn : s.size < k + n) (hs : s.size ≤ maxLen) :
    Calls Tryd.prog 67 #[.pointer (some ⟨g, 0, none⟩), .int .i64 n] w fun e w' => e = .panicked [{ v := faultV k 8, recovered := false }] ∧ Moved g s k w w' := by
  have HC := Lib.hid (Take_throws g s k n w h hk (by omega) hs)
  rw [if_neg (by omega)] at HC
  have H := Lib.hid h
  clear h
  go_enter Tryd.func67, Tryd.ntmps67
  go_wp2_with (first | (go_at_call 94; refine HC.out.mono ?_; rintro e w1 ⟨rfl, hm⟩))
  exact ⟨rfl, rfl, moved_drew H.out hm⟩

set_option maxRecDepth 20000 in
theorem digits_bad (g : Nat) (s : ByteArray) (k n : Nat) (w : World) (h : Cur w g s k) (hn : k + n ≤ s.size) (hn3 : n ≤ 3) (hs : s.size ≤ maxLen) (hd : digB s k n = false) :
    Calls Tryd.prog 67 #[.pointer (some ⟨g, 0, none⟩), .int .i64 n] w fun e w' => e = .panicked [{ v := faultV ((k + n : Nat) : Int) 2, recovered := false }] ∧ Moved g s (k + n) w w' := by
  unfold digB at hd
  have hz : (s.extract k (k + n)).size = n := by rw [extract_size]; omega
  have hzm : (s.extract k (k + n)).size ≤ maxLen := by unfold maxLen; omega
  have HC := Lib.hid (Take_gives g s k n w h hn hs)
  have HA : Hid (∀ w, Calls Tryd.prog 88 #[.string (s.extract k (k + n)), .func (.func 80) #[] #[]] w fun e w' => e = .returned (.bool false) ∧ w = w') := Lib.hid (fun w => by
    have := All_list 80 isDigit fnDigit (s.extract k (k + n)) w hzm
    rwa [hd] at this)
  generalize s.extract k (k + n) = t at *
  clear hd hz hzm h
  go_enter Tryd.func67, Tryd.ntmps67
  go_wp2_with (first | (go_at_call 94; refine HC.out.mono ?_; rintro e w1 ⟨rfl, hm⟩) | (go_at_call 88; refine (HA.out _).mono ?_; rintro e w2 ⟨rfl, rfl⟩) | (go_at_call 93; refine (At_any g s (k + n) _ hm.1).mono ?_; rintro e w2 ⟨rfl, rfl⟩) | (go_at_call 73; refine (Check_no _ _ _).mono ?_; rintro e w2 ⟨rfl, rfl⟩))
  exact ⟨rfl, rfl, hm⟩

def hundB (n : Int) : Int := if n < 100 ∨ 999 < n then 0 else n / 100

theorem hundreds_any (n : Int) (w : World) : Calls Tryd.prog 32 #[.int .i64 n] w fun e w' => e = .returned (.int .i64 (hundB n)) ∧ w = w' := by
  unfold hundB
  rcases Int.lt_or_le n 100 with h | h
  · rw [if_pos (.inl h)]
    go_enter Tryd.func32, Tryd.ntmps32
    go_wp2_with fail
    go_ret
    exact ⟨rfl, rfl⟩
  rcases Int.lt_or_le 999 n with h2 | h2
  · rw [if_pos (.inr h2)]
    have h3 : ¬ (n < 100) := by omega
    go_enter Tryd.func32, Tryd.ntmps32
    go_wp2_with fail
    go_ret
    exact ⟨rfl, rfl⟩
  · rw [if_neg (by omega)]
    have h3 : ¬ (n < 100) := by omega
    have h4 : ¬ (999 < n) := by omega
    go_enter Tryd.func32, Tryd.ntmps32
    go_wp2_with fail
    go_ret
    exact ⟨rfl, rfl⟩

def smallI (n : Int) : Bool := decide (0 ≤ n) && decide (n ≤ 9)

theorem smallS_any (n : Int) (w : World) : Calls Tryd.prog 57 #[.int .i64 n] w fun e w' => e = .returned (.bool (smallI n)) ∧ w = w' := by
  unfold smallI
  go_enter Tryd.func57, Tryd.ntmps57
  by_cases h : 0 ≤ n
  · go_wp2_with fail
    go_ret
    exact ⟨ret_bool (by simp [h]), rfl⟩
  · have h2 : n < 0 := by omega
    go_wp2_with fail
    go_ret
    exact ⟨ret_bool (by simp; omega), rfl⟩

theorem Partial_any (n : Int) (w : World) : Calls Tryd.prog 13 #[.int .i64 n] w fun e w' => e = .returned (.bool (n == 206)) ∧ w = w' := by
  go_enter Tryd.func13, Tryd.ntmps13
  go_wp2_with fail
  go_ret
  exact ⟨rfl, rfl⟩

/-- A text may be a reason. -/
def reasonB (s : ByteArray) : Bool := (if h : 0 < s.size then !(isTab s[0] || isTab s[s.size - 1]) else true) && quoL s.data.toList

theorem reason_any (s : ByteArray) (w : World) (hs : s.size ≤ maxLen) : Calls Tryd.prog 58 #[.string s] w fun e w' => e = .returned (.bool (reasonB s)) ∧ w = w' := by
  have HQ := Lib.hid (fun w => All_list 89 isQuoted fnQuoted s w hs)
  have hs2 : s.size ≤ 9223372036854775807 := by unfold maxLen at hs; omega
  unfold reasonB quoL
  by_cases h : 0 < s.size
  · have hpos := h
    have hidy := fun w => index_byte (P := Tryd.prog) 9 Tryd.underlying9 s (s.size - 1) (by omega) w
    rw [dif_pos h]
    have HX := Lib.hid (fun w => Tab_any s[0] w)
    have HY := Lib.hid (fun w => Tab_any s[s.size - 1] w)
    have hsub : (((s.size - 1 : Nat)) : Int) = (s.size : Int) - 1 := by omega
    rw [hsub] at hidy
    generalize s.data.toList.all isQuoted = q at *
    generalize s[s.size - 1] = y at *
    have hne : s.toList.isEmpty = false := by
      rw [List.isEmpty_eq_false_iff, ne_eq]
      intro e
      have := congrArg List.length e
      rw [Lib.toList_data, ← Lib.size_eq, List.length_nil] at this
      omega
    cases hx : isTab s[0] <;> cases hy : isTab y <;>
      (skip
       have HX2 := Lib.hid hx
       have HY2 := Lib.hid hy
       clear hx hy
       go_enter Tryd.func58, Tryd.ntmps58
       go_wp2_with (first | (go_at_call 71; first | (with_reducible refine Calls.mono (HX.out _) ?_; rintro e w' ⟨rfl, rfl⟩; rw [HX2.out]) | (with_reducible refine Calls.mono (HY.out _) ?_; rintro e w' ⟨rfl, rfl⟩; rw [HY2.out])) | (go_at_call 88; refine Calls.mono (HQ.out _) ?_; rintro e w' ⟨rfl, rfl⟩))
       go_ret
       exact ⟨rfl, rfl⟩)
  · rw [dif_neg h]
    have he : s.toList = [] := by
      rw [Lib.toList_data]
      exact List.eq_nil_of_length_eq_zero (by rw [← Lib.size_eq]; omega)
    generalize s.data.toList.all isQuoted = q at *
    go_enter Tryd.func58, Tryd.ntmps58
    go_wp2_with (go_at_call 88; refine Calls.mono (HQ.out _) ?_; rintro e w' ⟨rfl, rfl⟩)
    go_ret
    exact ⟨ret_bool (by simp), rfl⟩

/-- A status line is good. -/
def goodS (a b c : Int) (r : ByteArray) : Bool := smallI a && smallI b && decide (0 < hundB c) && reasonB r

theorem goodS_any (a b c : Int) (r : ByteArray) (w : World) (hs : r.size ≤ maxLen) : Calls Tryd.prog 36 #[statV a b c r] w fun e w' => e = .returned (.bool (goodS a b c r)) ∧ Below w.heap.size w w' := by
  have HA := Lib.hid (fun w => smallS_any a w)
  have HB := Lib.hid (fun w => smallS_any b w)
  have HC := Lib.hid (fun w => hundreds_any c w)
  have HR := Lib.hid (fun w => reason_any r w hs)
  unfold goodS statV
  generalize hundB c = n at *
  generalize reasonB r = q at *
  cases ha : smallI a <;> cases hb : smallI b <;> by_cases hn : 0 < n <;>
    (skip
     have HA2 := Lib.hid ha
     have HB2 := Lib.hid hb
     have HN : Hid (decide (0 < n) = _) := Lib.hid rfl
     rw [show decide (0 < n) = _ from (by first | exact decide_eq_true hn | exact decide_eq_false hn)]
     clear ha hb HN
     go_enter Tryd.func36, Tryd.ntmps36
     go_wp2_with (first | (go_at_call 57; first | (with_reducible refine Calls.mono (HA.out _) ?_; rintro e w' ⟨rfl, rfl⟩; rw [HA2.out]) | (with_reducible refine Calls.mono (HB.out _) ?_; rintro e w' ⟨rfl, rfl⟩; rw [HB2.out])) | (go_at_call 32; refine Calls.mono (HC.out _) ?_; rintro e w' ⟨rfl, rfl⟩) | (go_at_call 58; refine Calls.mono (HR.out _) ?_; rintro e w' ⟨rfl, rfl⟩))
     go_ret
     exact ⟨rfl, below_box _ _⟩)

end Go.Proofs.YtjlemghmpnkncaaDoor
