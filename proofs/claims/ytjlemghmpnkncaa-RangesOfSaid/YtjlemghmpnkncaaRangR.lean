/-
  Walks of the reference of package ranges: cut, unit, num, Parse.
-/
import Derived.Test.YtjlemghmpnkncaaRangA
import Derived.Test.YtjlemghmpnkncaaRangLaw
import Derived.Test.YtjlemghmpnkncaaClassC
import Derived.Deep.DeepCutAuto
namespace Go.Proofs.Ytjlemghmpnkncaa
open Go.RowKit
set_option linter.unusedSimpArgs false
set_option linter.unusedVariables false

theorem bl_drop (n : Nat) (l : List UInt8) : (bl l).extract n (bl l).size = bl (l.drop n) := by
  apply bytes_ext
  rw [Lib.extract_data, bl_list, bl_list, bl_size, List.take_of_length_le]
  rw [List.length_drop]
  exact Nat.le_refl _

theorem bl_take (n : Nat) (l : List UInt8) : (bl l).extract 0 n = bl (l.take n) := by
  apply bytes_ext
  rw [Lib.extract_data, bl_list, bl_list]
  rfl

theorem bl_cons_size (x : UInt8) (l : List UInt8) : 0 < (bl (x :: l)).size := by rw [bl_size]; simp

theorem bl_head (x : UInt8) (l : List UInt8) (w : World) : (Instr.index 9 (.string (bl (x :: l))) (.int .i64 0)).run Try.prog w = .ok (.int .u8 (x.toNat : Int)) w :=
  index_zero 9 Try.underlying9 (bl (x :: l)) (bl_cons_size x l) w

theorem bl_of {s : ByteArray} {l : List UInt8} (h : s.data.toList = l) : s = bl l := bytes_ext (by rw [bl_list, h])

theorem lst_head (t : ByteArray) (h : 0 < t.size) : t.data.toList = t[0] :: (t.extract 1 t.size).data.toList := by
  have e : (t.extract 1 t.size).data.toList = t.data.toList.drop 1 := lef_rest t 1
  rw [e]
  conv => lhs; rw [← List.drop_zero (l := t.data.toList)]
  rw [List.drop_eq_getElem_cons (by rw [← Lib.size_eq]; exact h)]
  rfl

theorem lst_drop (t : ByteArray) (h : 0 < t.size) (p : UInt8 → Bool) (hp : p t[0] = true) : (t.extract 1 t.size).data.toList.dropWhile p = t.data.toList.dropWhile p := by
  rw [lst_head t h, List.dropWhile_cons, if_pos hp]

theorem lst_stay (t : ByteArray) (h : 0 < t.size) (p : UInt8 → Bool) (hp : p t[0] = false) : t.data.toList.dropWhile p = t.data.toList := by
  conv => lhs; rw [lst_head t h, List.dropWhile_cons, if_neg (by rw [hp]; simp)]
  exact (lst_head t h).symm

set_option maxRecDepth 20000 in
theorem cut24_any (s : ByteArray) (w : World) (hs : s.size ≤ maxLen) :
    Calls Try.prog 54 #[.string s] w fun e w' => e = .returned (.string (bl (s.data.toList.dropWhile isTab))) ∧ w = w' := by
  unfold maxLen at hs
  have HT : Hid (s.data.toList.dropWhile isTab = s.data.toList.dropWhile isTab) := Lib.hid rfl
  go_enter Try.func54, Try.ntmps54
  go_wp2
  go_loop [0] (fun v => ∃ t : ByteArray, v = .string t ∧ t.size ≤ s.size ∧ t.data.toList.dropWhile isTab = s.data.toList.dropWhile isTab) (fun v => strLen v)
  case atStart => exact ⟨s, rfl, Nat.le_refl _, rfl⟩
  case round =>
    obtain ⟨t, rfl, hts, hp⟩ := hrel
    by_cases hlt : 0 < t.size
    · have hlti : (0 : Int) < (t.size : Int) := by omega
      have HTB := Lib.hid (fun w => rTab_any t[0] w)
      cases htb : isTab t[0]
      · rw [lst_stay t hlt isTab htb] at hp
        have HS := Lib.hid hp
        have HT0 := Lib.hid htb
        clear hp htb
        go_wp2_with (go_at_call 44; refine Calls.mono (HTB.out _) ?_; rintro e w' ⟨rfl, rfl⟩; rw [HT0.out])
        go_ret
        exact ⟨ret_string (bl_of HS.out), rfl⟩
      · have hnext := lst_drop t hlt isTab htb
        have HN := Lib.hid (hnext.trans hp)
        have hsz := Lib.hid (extract_size t 1 t.size)
        have HT0 := Lib.hid htb
        clear hnext hp htb
        go_wp2_with (go_at_call 44; refine Calls.mono (HTB.out _) ?_; rintro e w' ⟨rfl, rfl⟩; rw [HT0.out])
        go_round
        case rel => exact ⟨_, rfl, by rw [hsz.out]; omega, HN.out⟩
        case measure => simp [strLen, hsz.out]; omega
    · have hlti : ¬ ((0 : Int) < (t.size : Int)) := by omega
      have hnil : t.data.toList = [] := List.eq_nil_of_length_eq_zero (by rw [← Lib.size_eq]; omega)
      rw [hnil, List.dropWhile_nil] at hp
      have HS := Lib.hid (hnil.trans hp)
      clear hp hnil
      go_wp2_with fail
      go_ret
      exact ⟨ret_string (bl_of HS.out), rfl⟩

/-- A number of no digits or of some; whether it is not too great. -/
def numOk (l : List UInt8) : Bool := decide (l = [] ∨ valL l ≤ mostN)

theorem num24_any (l : List UInt8) (w : World) (hl : l.length ≤ 1000) (hd : l.all isDigit = true) :
    Calls Try.prog 55 #[.string (bl l)] w fun e w' => e = .returned (.tuple #[.int .i64 (saidN l), .bool (numOk l)]) ∧ w = w' := by
  by_cases h0 : l = []
  · have H1 : Hid (saidN l = -1) := Lib.hid (by unfold saidN; rw [if_pos h0])
    have H2 : Hid (numOk l = true) := Lib.hid (decide_eq_true (.inl h0))
    have hb : (bl l).toList = [] := by rw [bl_nil]; exact h0
    generalize bl l = s at *
    clear h0
    go_enter Try.func55, Try.ntmps55
    go_wp2_with fail
    go_ret2
    exact ⟨by rw [H1.out, H2.out]; rfl, rfl⟩
  · have hb : (bl l).toList.isEmpty = false := by rw [List.isEmpty_eq_false_iff, ne_eq, bl_nil]; exact h0
    have hz : 0 < (bl l).size := by rw [bl_size]; exact List.length_pos_iff.2 h0
    have hd2 : (bl l).data.toList.all isDigit = true := by rw [bl_list]; exact hd
    have hp := parse_digits hz hd2
    have HP := Lib.hid (fun w => rParse_any (bl l) w (by rw [bl_size]; unfold maxLen; omega))
    rw [hp.1, hp.2] at HP
    rw [bl_list] at HP
    by_cases hm : valL l ≤ mostN
    · rw [if_pos hm, if_pos hm] at HP
      have H1 : Hid (saidN l = valL l) := Lib.hid (by unfold saidN; rw [if_neg h0, if_pos hm])
      have H2 : Hid (numOk l = true) := Lib.hid (decide_eq_true (.inr hm))
      clear hp hd2 hz h0 hm
      generalize bl l = s at *
      go_enter Try.func55, Try.ntmps55
      go_wp2_with (go_at_call 92; refine (HP.out _).mono ?_; rintro e w2 ⟨rfl, rfl⟩)
      go_ret2
      exact ⟨by rw [H1.out, H2.out]; rfl, rfl⟩
    · rw [if_neg hm, if_neg hm] at HP
      have H1 : Hid (saidN l = 0) := Lib.hid (by unfold saidN; rw [if_neg h0, if_neg hm])
      have H2 : Hid (numOk l = false) := Lib.hid (decide_eq_false (by rintro (h | h); exact h0 h; exact hm h))
      clear hp hd2 hz h0 hm
      generalize bl l = s at *
      go_enter Try.func55, Try.ntmps55
      go_wp2_with (go_at_call 92; refine (HP.out _).mono ?_; rintro e w2 ⟨rfl, rfl⟩)
      go_ret2
      exact ⟨by rw [H1.out, H2.out]; rfl, rfl⟩

/-- What the reference's unit says. -/
def unitV (l : List UInt8) : Value :=
  if unitOk (l.dropWhile isTab) = true then .tuple #[.string (bl ((l.dropWhile isTab).dropWhile isLetter)), .bool true] else .tuple #[.string ⟨#[]⟩, .bool false]

theorem lowerB_bl (l : List UInt8) : (lowerB (bl l)).toList = lowerL l := by
  rw [Lib.toList_data]
  unfold lowerB
  simp [bl]

theorem unitV_eq (l : List UInt8) : unitV l = if runitOk (l.dropWhile isTab) = true then .tuple #[.string (bl ((l.dropWhile isTab).drop 5)), .bool true] else .tuple #[.string ⟨#[]⟩, .bool false] := by
  unfold unitV
  rw [unit_plain]
  by_cases h : runitOk (l.dropWhile isTab) = true
  · rw [if_pos h, if_pos h, unit_drop h]
  · rw [if_neg h, if_neg h]

set_option maxRecDepth 20000 in
set_option maxHeartbeats 1000000 in
theorem unit24_any (s : ByteArray) (w : World) (hs : s.size ≤ maxLen) :
    Calls Try.prog 53 #[.string s] w fun e w' => e = .returned (unitV s.data.toList) ∧ Below w.heap.size w w' := by
  have HC := Lib.hid (fun w => cut24_any s w hs)
  have HV0 := unitV_eq s.data.toList
  have hl : (s.data.toList.dropWhile isTab).length ≤ s.size := by
    have := (List.dropWhile_sublist (p := isTab) (l := s.data.toList)).length_le
    rw [← Lib.size_eq] at this
    exact this
  generalize s.data.toList.dropWhile isTab = l at *
  have hz : (bl l).size = l.length := bl_size l
  have hs2 : (bl l).size ≤ 9223372036854775807 := by unfold maxLen at hs; omega
  by_cases h5 : l.length < 5
  · have HR : runitOk l = false := decide_eq_false (by omega)
    have HV := Lib.hid (HV0.trans (if_neg (by rw [HR]; simp)))
    have h5i : ((bl l).size : Int) < 5 := by omega
    clear HV0 HR
    generalize bl l = t at *
    go_enter Try.func53, Try.ntmps53
    go_wp2_with (go_at_call 54; (with_reducible refine (HC.out _).mono ?_); rintro e w2 ⟨rfl, rfl⟩)
    go_ret2
    exact ⟨by rw [HV.out]; rfl, Below.refl _ _⟩
  have h5i : ¬ (((bl l).size : Int) < 5) := by omega
  have h5j : (5 : Int) ≤ ((bl l).size : Int) := by omega
  have ht : (bl l).extract 0 5 = bl (l.take 5) := bl_take 5 l
  have hdr : (bl l).extract 5 (bl l).size = bl (l.drop 5) := bl_drop 5 l
  have HL := Lib.hid (fun w => rLower_any (bl (l.take 5)) w (by rw [bl_size]; have := List.length_take_le 5 l; unfold maxLen; omega) (by rw [bl_size]; have := List.length_take_le 5 l; omega))
  have hlow := lowerB_bl (l.take 5)
  generalize lowerB (bl (l.take 5)) = L5 at *
  generalize bl (l.take 5) = T5 at *
  by_cases hu : lowerL (l.take 5) = bytesL
  case neg =>
    have HR : runitOk l = false := decide_eq_false (fun h => hu h.2.1)
    have HV := Lib.hid (HV0.trans (if_neg (by rw [HR]; simp)))
    have hne : (L5.toList == [98, 121, 116, 101, 115]) = false := beq_eq_false_iff_ne.2 (by rw [hlow]; exact hu)
    clear HV0 HR hu hlow hdr
    generalize bl l = t at *
    go_enter Try.func53, Try.ntmps53
    go_wp2_with (first | (go_at_call 54; (with_reducible refine (HC.out _).mono ?_); rintro e w2 ⟨rfl, rfl⟩) | (go_at_call 90; (with_reducible refine (HL.out _).mono ?_); rintro e w2 ⟨rfl, hb⟩))
    go_ret2
    exact ⟨by rw [HV.out]; rfl, hb⟩
  have heq : L5.toList = [98, 121, 116, 101, 115] := by rw [hlow]; exact hu
  by_cases h6 : 5 < l.length
  · have h6i : (5 : Int) < ((bl l).size : Int) := by omega
    have hg : (bl l)[5]'(by omega) = l.getD 5 0 := by
      unfold List.getD
      rw [List.getElem?_eq_getElem h6]
      rfl
    have HLT := Lib.hid (fun w => rLetter_any (l.getD 5 0) w)
    have hidx : ∀ w, (Instr.index 9 (.string (bl l)) (.int .i64 5)).run Try.prog w = .ok (.int .u8 ((l.getD 5 0).toNat : Int)) w := fun w => by
      have h := index_byte (P := Try.prog) 9 Try.underlying9 (bl l) 5 (by omega) w
      rw [hg] at h
      exact h
    cases hle : isLetter (l.getD 5 0)
    · have HR : runitOk l = true := decide_eq_true ⟨by omega, hu, by rintro ⟨_, h⟩; rw [hle] at h; cases h⟩
      have HV := Lib.hid (HV0.trans (if_pos HR))
      rw [hle] at HLT
      clear HV0 HR hu hlow hg hle hz h5 h6
      generalize bl (l.drop 5) = D5 at *
      generalize l.getD 5 0 = x at *
      generalize bl l = t at *
      go_enter Try.func53, Try.ntmps53
      go_wp2_with (first | (go_at_call 54; (with_reducible refine (HC.out _).mono ?_); rintro e w2 ⟨rfl, rfl⟩) | (go_at_call 90; (with_reducible refine (HL.out _).mono ?_); rintro e w2 ⟨rfl, hb⟩) | (go_at_call 91; (with_reducible refine (HLT.out _).mono ?_); rintro e w2 ⟨rfl, rfl⟩))
      go_ret2
      exact ⟨by rw [HV.out]; rfl, hb⟩
    · have HR : runitOk l = false := decide_eq_false (fun h => h.2.2 ⟨h6, hle⟩)
      have HV := Lib.hid (HV0.trans (if_neg (by rw [HR]; simp)))
      rw [hle] at HLT
      clear HV0 HR hu hlow hg hle hz h5 h6
      generalize bl (l.drop 5) = D5 at *
      generalize l.getD 5 0 = x at *
      generalize bl l = t at *
      go_enter Try.func53, Try.ntmps53
      go_wp2_with (first | (go_at_call 54; (with_reducible refine (HC.out _).mono ?_); rintro e w2 ⟨rfl, rfl⟩) | (go_at_call 90; (with_reducible refine (HL.out _).mono ?_); rintro e w2 ⟨rfl, hb⟩) | (go_at_call 91; (with_reducible refine (HLT.out _).mono ?_); rintro e w2 ⟨rfl, rfl⟩))
      go_ret2
      exact ⟨by rw [HV.out]; rfl, hb⟩
  · have h6i : ¬ ((5 : Int) < ((bl l).size : Int)) := by omega
    have HR : runitOk l = true := decide_eq_true ⟨by omega, hu, by rintro ⟨h, _⟩; exact h6 h⟩
    have HV := Lib.hid (HV0.trans (if_pos HR))
    clear HV0 HR hu hlow hz h5 h6
    generalize bl (l.drop 5) = D5 at *
    generalize bl l = t at *
    go_enter Try.func53, Try.ntmps53
    go_wp2_with (first | (go_at_call 54; (with_reducible refine (HC.out _).mono ?_); rintro e w2 ⟨rfl, rfl⟩) | (go_at_call 90; (with_reducible refine (HL.out _).mono ?_); rintro e w2 ⟨rfl, hb⟩))
    go_ret2
    exact ⟨by rw [HV.out]; rfl, hb⟩

end Go.Proofs.Ytjlemghmpnkncaa
