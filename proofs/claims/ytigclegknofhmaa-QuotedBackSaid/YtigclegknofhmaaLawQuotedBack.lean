/-
  The law QuotedBack: its walk.
-/
import Derived.Test.YtigclegknofhmaaQuoG
namespace Go.Proofs.Ytigclegknofhmaa
open Go.RowKit
set_option linter.unusedSimpArgs false
set_option linter.unusedVariables false

theorem cat_list (a b : ByteArray) : (a ++ b).data.toList = a.data.toList ++ b.data.toList := by
  rw [ByteArray.data_append, Array.toList_append]

set_option maxHeartbeats 4000000 in
set_option maxRecDepth 100000 in
theorem quotedBack_walk (s0 b0 : ByteArray) (w : World) (hs0 : s0.size ≤ maxLen) (hb0 : b0.size ≤ maxLen) :
    Calls Try.prog 4 #[.string s0, .string b0] w fun e w' => e = .returned (.bool true) ∧ Below w.heap.size w w' := by
  have ht := cutB_size s0 60
  have ht2 := cutB_size b0 20
  have C1 : Hid (∀ w, Calls Try.prog 8 #[.string s0, .int .i64 60] w fun e w' => e = .returned (.string (cutB s0 60)) ∧ w = w') := Lib.hid (fun w => Cut_any s0 60 w hs0 (by decide))
  have C2 : Hid (∀ w, Calls Try.prog 8 #[.string b0, .int .i64 20] w fun e w' => e = .returned (.string (cutB b0 20)) ∧ w = w') := Lib.hid (fun w => Cut_any b0 20 w hb0 (by decide))
  go_enter Try.func4, Try.ntmps4
  go_upto_region 2 with (first | (go_at_call 8; (with_reducible refine (C1.out _).mono ?_); rintro e w' ⟨rfl, rfl⟩) | (go_at_call 8; (with_reducible refine (C2.out _).mono ?_); rintro e w' ⟨rfl, rfl⟩))
  clear C1 C2
  generalize cutB s0 60 = s at *
  generalize cutB b0 20 = b at *
  have hsz : s.size ≤ 60 := by omega
  have hbz : b.size ≤ 20 := by omega
  clear ht ht2 hs0 hb0
  have hsm : s.size ≤ maxLen := by unfold maxLen; omega
  have HQ : Hid ((⟨(serL s.data.toList).toArray⟩ : ByteArray).size = (escL s.data.toList).length + 2) := Lib.hid (by rw [Lib.size_eq]; simp [serL])
  have hel := escL_length s.data.toList
  rw [← Lib.size_eq] at hel
  have HL : Hid (((⟨(serL s.data.toList).toArray⟩ : ByteArray) ++ b).data.toList = 34 :: (escL s.data.toList ++ 34 :: b.data.toList)) := Lib.hid (by rw [cat_list]; simp [serL])
  have HE := Lib.hid (readL_esc s.data.toList b.data.toList)
  have HSE := Lib.hid (fun w => Serial_any s w (by omega))
  have HRS := Lib.hid (fun w => rSerial_any s w (by omega))
  have HN := Lib.hid (fun w => Needs_any s w hsm)
  generalize hq : (⟨(serL s.data.toList).toArray⟩ : ByteArray) = q at *
  have hq0 : 0 < (q ++ b).size := by rw [Lib.size_eq, HL.out]; simp
  have hq1 : (q ++ b)[0] = 34 := by
    have e : (q ++ b).data.toList[0]'(by rw [HL.out]; simp) = 34 := by simp only [HL.out]; rfl
    exact e
  have hqz : (q ++ b).size ≤ 100000 := by rw [ByteArray.size_append, HQ.out]; omega
  have HRD : Hid (∀ w, Calls Try.prog 9 #[.string (q ++ b)] w fun e w' => e = .returned (.tuple #[.string s, .int .i64 (q.size : Int), .int .i64 0]) ∧ Below w.heap.size w w') := Lib.hid (by
    intro w
    have h := Read_yes (q ++ b) w hq0 hq1 hqz
    have e : dropB (q ++ b) 1 = escL s.data.toList ++ 34 :: b.data.toList := by unfold dropB; rw [HL.out]; rfl
    rw [e, HE.out] at h
    have e2 : (⟨s.data.toList.toArray⟩ : ByteArray) = s := by
      show (⟨s.data.toList.toArray⟩ : ByteArray) = ⟨s.data⟩
      rw [Array.toArray_toList]
    dsimp only at h
    rw [e2, show 1 + ((escL s.data.toList).length + 1) = q.size by rw [HQ.out]; omega] at h
    exact h)
  have hcat : (q ++ b).size = q.size + b.size := ByteArray.size_append
  have hqs : q.size ≤ 1000 := by rw [HQ.out]; omega
  clear HL HE HQ hel hq0 hq1 hq hqz
  go_upto_region 3 with fail
  refine (HSE.out _).mono ?_
  rintro e w1 ⟨rfl, hb1⟩
  have HB1 := Lib.hid hb1
  clear hb1 HSE
  go_upto_region 4 with fail
  refine (HRD.out _).mono ?_
  rintro e w2 ⟨rfl, hb2⟩
  have HB2 := Lib.hid (HB1.out.trans (hb2.mono HB1.out.size))
  clear hb2 HRD HB1
  have HND : Hid (needsB s = (s.toList.isEmpty || !(s.data.toList.all isToken))) := Lib.hid rfl
  go_upto_region 5 with fail
  generalize s.toList.isEmpty = n0 at *
  go_wp2_with fail
  go_loop [9, 10] (fun n i => ∃ k : Nat, k ≤ s.size ∧ i = .int .i64 k ∧ n = .bool (n0 || !((s.data.toList.take k).all isToken))) (fun _ i => s.size - (intOf i).toNat)
  case atStart => exact ⟨0, Nat.zero_le _, rfl, by simp⟩
  case round =>
    obtain ⟨k, hk, rfl, rfl⟩ := hrel
    by_cases hlt : k < s.size
    · have hidx := fun w => index_byte 9 Try.underlying9 s k hlt w
      have HS := Lib.hid (take_snocB s k hlt)
      have HT := Lib.hid (fun w => rToken_any s[k] w)
      have HA : Hid ((s.data.toList.take (k + 1)).all isToken = ((s.data.toList.take k).all isToken && isToken s[k])) := Lib.hid (by rw [HS.out, List.all_append]; simp)
      generalize s[k] = x at *
      generalize isToken x = tx at *
      generalize (s.data.toList.take k).all isToken = r at *
      clear HS
      cases hn : (n0 || !r)
      · have HNN := Lib.hid hn
        clear hn
        go_wp2_with (go_at_call 18; (with_reducible refine (HT.out _).mono ?_); rintro e w' ⟨rfl, rfl⟩)
        go_round
        case rel => exact ⟨k + 1, by omega, by go_num, by rw [HA.out]; have := HNN.out; revert this; cases n0 <;> cases r <;> cases tx <;> simp⟩
        case measure => simp [intOf]; omega
      · have HNN := Lib.hid hn
        clear hn
        go_wp2_with fail
        go_round
        case rel => exact ⟨k + 1, by omega, by go_num, by rw [HA.out]; have := HNN.out; revert this; cases n0 <;> cases r <;> cases tx <;> simp⟩
        case measure => simp [intOf]; omega
    · obtain rfl : k = s.size := by omega
      have HND2 : Hid ((n0 || !((s.data.toList.take s.size).all isToken)) = needsB s) := Lib.hid (by rw [HND.out, List.take_of_length_le (by rw [← Lib.size_eq]; exact Nat.le_refl _)])
      rw [HND2.out]
      clear HND HND2
      generalize needsB s = nb at *
      go_wp2_with (first | (go_at_call 19; (with_reducible refine (HRS.out _).mono ?_); rintro e w' ⟨rfl, rfl⟩) | (go_at_call 20; (with_reducible refine (HN.out _).mono ?_); rintro e w' ⟨rfl, rfl⟩))
      refine (lives04_any _).mono ?_
      rintro e w3 ⟨rfl, hb3⟩
      have HB3 := Lib.hid (HB2.out.trans (hb3.mono HB2.out.size))
      clear hb3
      go_wp2_with fail
      go_ret
      exact ⟨rfl, HB3.out⟩

end Go.Proofs.Ytigclegknofhmaa
