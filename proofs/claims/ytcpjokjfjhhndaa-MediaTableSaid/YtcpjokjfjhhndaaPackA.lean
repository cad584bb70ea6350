/-
  Walks of package pack: members.
-/
import Derived.Test.YtcpjokjfjhhndaaPackPlain
import Derived.Test.YtcpjokjfjhhndaaQuietIn
import Derived.Deep.DeepCutAuto
namespace Go.Proofs.Ytcpjokjfjhhndaa
open Go.RowKit
set_option linter.unusedSimpArgs false
set_option linter.unusedVariables false

theorem packLow_any (s : ByteArray) (w : World) (hs : s.size ≤ 4) :
    Calls Try.prog 93 #[.string s] w fun e w' => e = .returned (.int .i64 (lowB s)) ∧ w = w' := by
  go_enter Try.func93, Try.ntmps93
  go_wp2
  go_loop [3, 4] (fun n i => ∃ (k : Nat) (x : Int), k ≤ s.size ∧ x = (k : Int) - 1 ∧ i = .int .i64 x ∧ n = .int .i64 (lowN (s.data.toList.drop k))) (fun _ i => (intOf i + 1).toNat)
  case atStart => exact ⟨s.size, _, Nat.le_refl _, rfl, rfl, by rw [List.drop_eq_nil_of_le (by rw [Lib.size_eq]; exact Nat.le_refl _)]; rfl⟩
  case round =>
    obtain ⟨k, x, hk, hx, rfl, rfl⟩ := hrel
    cases k with
    | zero =>
      obtain rfl : x = -1 := by omega
      clear hx
      go_wp2
      go_ret
      exact ⟨rfl, rfl⟩
    | succ m =>
      obtain rfl : x = (m : Int) := by omega
      clear hx
      have hm : m < s.size := by omega
      have hl := lowN_drop s.data.toList m (by rw [← Lib.size_eq]; exact hm)
      have hb := lowN_lt (s.data.toList.drop (m + 1))
      have hb2 : lowN (s.data.toList.drop (m + 1)) < 256 ^ 4 := Nat.lt_of_lt_of_le hb (Nat.pow_le_pow_right (by decide) (by rw [List.length_drop, ← Lib.size_eq]; omega))
      have hb3 : lowN (s.data.toList.drop (m + 1)) < 4294967296 := hb2
      clear hb hb2
      have hidx := fun w => index_byte 9 Try.underlying9 s m hm w
      have he : s.data.toList[m]'(by rw [← Lib.size_eq]; exact hm) = s[m] := rfl
      rw [he] at hl
      clear he
      generalize s[m] = b at *
      have hor := or_byte_i64 (lowN (s.data.toList.drop (m + 1))) b.toNat (by omega) b.toNat_lt
      have hbt := b.toNat_lt
      have HL := Lib.hid hl
      clear hl
      generalize lowN (s.data.toList.drop (m + 1)) = n at *
      go_wp2
      go_round
      case rel => exact ⟨m, _, by omega, rfl, by go_num, by rw [HL.out]; congr 1; omega⟩
      case measure => simp [intOf]

theorem two_any (s : ByteArray) (w : World) (h : 2 ≤ s.size) :
    Calls Try.prog 81 #[.string s] w fun e w' => e = .returned (.int .i64 ((s[0].toNat + 256 * s[1].toNat : Nat) : Int)) ∧ Drew w w' := by
  have h0 := fun w => index_zero 9 Try.underlying9 s (by omega) w
  have h1 : ∀ w, (Instr.index 9 (.string s) (.int .i64 1)).run Try.prog w = .ok (.int .u8 (s[1].toNat : Int)) w := fun w => index_byte 9 Try.underlying9 s 1 (by omega) w
  generalize s[0] = a at *
  generalize s[1] = b at *
  have ha := a.toNat_lt
  have hb := b.toNat_lt
  go_enter Try.func81, Try.ntmps81
  go_wp2
  go_quiet (fail)
  go_wp2
  go_ret
  exact ⟨ret_int (by simp), ⟨_, rfl⟩⟩

theorem two_at (s : ByteArray) (k : Nat) (w : World) (h : k + 2 ≤ s.size) :
    Calls Try.prog 81 #[.string (s.extract k s.size)] w fun e w' => e = .returned (.int .i64 (twoN s k)) ∧ Drew w w' := by
  have := two_any (s.extract k s.size) w (by simp; omega)
  have e0 : (s.extract k s.size)[0]'(by simp; omega) = s[k] := by simp [ByteArray.getElem_eq_getElem_data]
  have e1 : (s.extract k s.size)[1]'(by simp; omega) = s[k + 1] := by simp [ByteArray.getElem_eq_getElem_data]
  rw [e0, e1] at this
  unfold twoN
  rw [low_two s k h]
  exact this

theorem lowB_lt (s : ByteArray) (k : Nat) (h : s.size ≤ k) : lowB s < 256 ^ k :=
  Nat.lt_of_lt_of_le (lowN_lt _) (Nat.pow_le_pow_right (by decide) (by rw [← Lib.size_eq]; exact h))

set_option maxRecDepth 20000 in
theorem size_head (s : ByteArray) (w : World) (hs : s.size ≤ 100000) (h : headB s = true) :
    Calls Try.prog 80 #[.string s] w fun e w' => e = .returned (.tuple #[.int .i64 (memSize s), .bool (decide (memSize s ≤ s.size))]) ∧ Drew w w' := by
  unfold headB at h
  rw [Bool.and_eq_true, decide_eq_true_eq] at h
  obtain ⟨h30, hp⟩ := h
  have C1 : ∀ w : World, Calls Try.prog 93 #[.string (s.extract 26 28)] w fun e w' => e = .returned (.int .i64 (lowB (s.extract 26 28))) ∧ w = w' := fun w => packLow_any _ w (by simp; omega)
  have C2 : ∀ w : World, Calls Try.prog 93 #[.string (s.extract 28 30)] w fun e w' => e = .returned (.int .i64 (lowB (s.extract 28 30))) ∧ w = w' := fun w => packLow_any _ w (by simp; omega)
  have C3 : ∀ w : World, Calls Try.prog 93 #[.string (s.extract 18 22)] w fun e w' => e = .returned (.int .i64 (lowB (s.extract 18 22))) ∧ w = w' := fun w => packLow_any _ w (by simp; omega)
  have b1 : lowB (s.extract 26 28) < 65536 := lowB_lt _ 2 (by simp; omega)
  have b2 : lowB (s.extract 28 30) < 65536 := lowB_lt _ 2 (by simp; omega)
  have b3 : lowB (s.extract 18 22) < 4294967296 := lowB_lt _ 4 (by simp; omega)
  have HM : Hid (memSize s = 30 + lowB (s.extract 26 28) + lowB (s.extract 28 30) + lowB (s.extract 18 22)) := Lib.hid rfl
  generalize lowB (s.extract 26 28) = x at *
  generalize lowB (s.extract 28 30) = y at *
  generalize lowB (s.extract 18 22) = z at *
  have H1 := Lib.hid C1
  have H2 := Lib.hid C2
  have H3 := Lib.hid C3
  generalize memSize s = m at *
  clear C1 C2 C3
  go_enter Try.func80, Try.ntmps80
  go_wp2
  have e0 : IntKind.i64.wrap (30 + (x : Int)) = 30 + (x : Int) := IntWalk.i64_in _ (by omega)
  have e1 : IntKind.i64.wrap (30 + (x : Int) + (y : Int)) = 30 + (x : Int) + (y : Int) := IntWalk.i64_in _ (by omega)
  have e2 : IntKind.i64.wrap (30 + (x : Int) + (y : Int) + (z : Int)) = 30 + (x : Int) + (y : Int) + (z : Int) := IntWalk.i64_in _ (by omega)
  go_quiet ((first | (go_at_call 93; (with_reducible exact quiet_same (H1.out _))) | (go_at_call 93; (with_reducible exact quiet_same (H2.out _))) | (go_at_call 93; (with_reducible exact quiet_same (H3.out _)))))
  go_wp2
  go_ret2
  exact ⟨ret_ib (by rw [HM.out]; omega) (by rw [HM.out]; exact decide_eq_decide.2 (by omega)), ⟨_, rfl⟩⟩

theorem size_none (s : ByteArray) (w : World) (hs : s.size ≤ 100000) (h : headB s = false) :
    Calls Try.prog 80 #[.string s] w fun e w' => e = .returned (.tuple #[.int .i64 0, .bool false]) ∧ Drew w w' := by
  by_cases h30 : 30 ≤ s.size
  · have hp : ((s.extract 0 4).toList == [80, 75, 3, 4]) = false := by
      unfold headB at h
      rw [decide_eq_true h30, Bool.true_and] at h
      exact h
    clear h
    go_enter Try.func80, Try.ntmps80
    go_wp2
    go_ret2
    exact ⟨rfl, Drew.refl w⟩
  · have h30' : (s.size : Int) < 30 := by omega
    clear h
    go_enter Try.func80, Try.ntmps80
    go_wp2
    go_ret2
    exact ⟨rfl, Drew.refl w⟩

def SizeNot (w : World) (e : Ending) (w' : World) : Prop := ∃ n : Int, e = .returned (.tuple #[.int .i64 n, .bool false]) ∧ Drew w w'

theorem size_whole (s : ByteArray) (w : World) (hs : s.size ≤ 100000) (h : wholeB s = true) :
    Calls Try.prog 80 #[.string s] w fun e w' => e = .returned (.tuple #[.int .i64 (memSize s), .bool true]) ∧ Drew w w' := by
  obtain ⟨h1, h2, _⟩ := whole_parts h
  have := size_head s w hs h1
  rwa [decide_eq_true h2] at this

theorem size_not (s : ByteArray) (w : World) (hs : s.size ≤ 100000) (h : wholeB s = false) :
    Calls Try.prog 80 #[.string s] w (SizeNot w) := by
  cases hh : headB s
  · exact (size_none s w hs hh).mono fun e w' ⟨he, hd⟩ => ⟨0, he, hd⟩
  · have h2 : decide (memSize s ≤ s.size) = false := by
      unfold wholeB at h
      rwa [hh, Bool.true_and] at h
    have := size_head s w hs hh
    rw [h2] at this
    exact this.mono fun e w' ⟨he, hd⟩ => ⟨_, he, hd⟩

theorem mem_end {c n : Nat} {e : Bool} {t : ByteArray} (h1 : c + memN t = n) (h2 : memE t = e) (h : wholeB t = false) : c = n ∧ decide (t.size = 0) = e := by
  obtain ⟨g1, g2⟩ := mem_none h
  rw [g1] at h1
  rw [g2] at h2
  exact ⟨by omega, h2⟩

theorem toList_nil (s : ByteArray) : (s.toList = []) = (s.size = 0) := by
  rw [Lib.toList_data, Lib.size_eq, List.length_eq_zero_iff]

set_option maxHeartbeats 1000000 in
set_option maxRecDepth 20000 in
theorem Members_any (s : ByteArray) (w : World) (hs : s.size ≤ 100000) :
    Calls Try.prog 53 #[.string s] w fun e w' => e = .returned (.tuple #[.int .i64 (memN s), .bool (decide (0 < memN s) && memE s)]) ∧ Drew w w' := by
  go_enter Try.func53, Try.ntmps53
  go_wp2
  go_loopw [0, 4] (fun t c wr => ∃ (x : ByteArray) (k : Nat), t = .string x ∧ c = .int .i64 k ∧ x.size ≤ s.size ∧ k ≤ s.size ∧ k + memN x = memN s ∧ memE x = memE s ∧ k + x.size ≤ s.size ∧ Drew w wr) (fun t _ _ => strLen t)
  case atStart => exact ⟨s, 0, rfl, rfl, Nat.le_refl _, Nat.zero_le _, Nat.zero_add _, rfl, by omega, Drew.refl w⟩
  case round =>
    obtain ⟨x, k, rfl, rfl, hx, hk, h1, h2, h3, hd⟩ := hrel
    have HD := Lib.hid hd
    have H1 := Lib.hid h1
    have H2 := Lib.hid h2
    clear hd h1 h2
    cases hw : wholeB x
    · obtain ⟨g1, g2⟩ := mem_end H1.out H2.out hw
      have HS := Lib.hid (fun w => size_not x w (by omega) hw)
      clear hw H1 H2
      have G1 := Lib.hid g1
      have G2 := Lib.hid g2
      have hnil : (x.toList.isEmpty) = decide (x.size = 0) := by
        rw [Bool.eq_iff_iff, List.isEmpty_iff, toList_nil, decide_eq_true_eq]
      have HN := Lib.hid hnil
      clear g1 g2 hnil
      go_wp2_with fail
      refine (HS.out _).mono ?_
      rintro r w1 ⟨m, rfl, hd⟩
      have HDD := Lib.hid (HD.out.trans hd)
      clear hd
      go_wp2_with fail
      all_goals go_ret2
      · refine ⟨ret_ib (by rw [G1.out]) ?_, HDD.out⟩
        have h0 : 0 < k := by assumption
        rw [← G1.out, ← G2.out, HN.out, decide_eq_true h0, Bool.true_and]
      · refine ⟨ret_ib (by rw [G1.out]) ?_, HDD.out⟩
        rw [← G1.out]
        simp [*]
    · obtain ⟨_, h4, h5⟩ := whole_parts hw
      obtain ⟨h6, h7⟩ := mem_whole hw
      have H6 := Lib.hid h6
      have H7 := Lib.hid h7
      have HS := Lib.hid (fun w => size_whole x w (by omega) hw)
      clear hw h6 h7
      generalize memSize x = m at *
      go_wp2_with fail
      refine (HS.out _).mono ?_
      rintro r w1 ⟨rfl, hd⟩
      have HD2 := Lib.hid (HD.out.trans hd)
      clear hd
      go_wp2_with fail
      go_roundw
      case rel => exact ⟨x.extract m x.size, k + 1, rfl, by go_num, by simp; omega, by omega, by have := H1.out; have := H6.out; omega, by rw [← H2.out, H7.out], by simp; omega, HD2.out⟩
      case measure => simp [strLen]; omega

set_option maxHeartbeats 4000000 in
set_option maxRecDepth 20000 in
theorem rMembers_any (s : ByteArray) (w : World) (hs : s.size ≤ 100000) :
    Calls Try.prog 54 #[.string s] w fun e w' => e = .returned (.tuple #[.int .i64 (memN s), .bool (decide (0 < memN s) && memE s)]) ∧ Drew w w' := by
  go_enter Try.func54, Try.ntmps54
  go_wp2
  go_loopw [0, 4] (fun t c wr => ∃ (x : ByteArray) (k : Nat), t = .string x ∧ c = .int .i64 k ∧ x.size ≤ s.size ∧ k ≤ s.size ∧ k + memN x = memN s ∧ memE x = memE s ∧ k + x.size ≤ s.size ∧ Drew w wr) (fun t _ _ => strLen t)
  case atStart => exact ⟨s, 0, rfl, rfl, Nat.le_refl _, Nat.zero_le _, Nat.zero_add _, rfl, by omega, Drew.refl w⟩
  case round =>
    obtain ⟨x, k, rfl, rfl, hx, hk, h1, h2, h3, hd⟩ := hrel
    have HD := Lib.hid hd
    have H1 := Lib.hid h1
    have H2 := Lib.hid h2
    clear hd h1 h2
    by_cases h30 : 30 ≤ x.size
    · have d0 := fun w => index_zero 9 Try.underlying9 x (by omega) w
      have d1 : ∀ w, (Instr.index 9 (.string x) (.int .i64 1)).run Try.prog w = .ok (.int .u8 (x[1].toNat : Int)) w := fun w => index_byte 9 Try.underlying9 x 1 (by omega) w
      have d2 : ∀ w, (Instr.index 9 (.string x) (.int .i64 2)).run Try.prog w = .ok (.int .u8 (x[2].toNat : Int)) w := fun w => index_byte 9 Try.underlying9 x 2 (by omega) w
      have d3 : ∀ w, (Instr.index 9 (.string x) (.int .i64 3)).run Try.prog w = .ok (.int .u8 (x[3].toNat : Int)) w := fun w => index_byte 9 Try.underlying9 x 3 (by omega) w
      obtain ⟨i0, e0⟩ : ∃ i : Int, (x[0].toNat : Int) = i := ⟨_, rfl⟩
      obtain ⟨i1, e1⟩ : ∃ i : Int, (x[1].toNat : Int) = i := ⟨_, rfl⟩
      obtain ⟨i2, e2⟩ : ∃ i : Int, (x[2].toNat : Int) = i := ⟨_, rfl⟩
      obtain ⟨i3, e3⟩ : ∃ i : Int, (x[3].toNat : Int) = i := ⟨_, rfl⟩
      obtain ⟨hy, hn⟩ := head_ints x h30 i0 i1 i2 i3 e0 e1 e2 e3
      rw [e0] at d0
      rw [e1] at d1
      rw [e2] at d2
      rw [e3] at d3
      clear e0 e1 e2 e3
      cases hh : headB x
      · have hw : wholeB x = false := by unfold wholeB; rw [hh]; rfl
        obtain ⟨g1, g2⟩ := mem_end H1.out H2.out hw
        have hnil : (x.toList.isEmpty) = decide (x.size = 0) := by
          rw [Bool.eq_iff_iff, List.isEmpty_iff, toList_nil, decide_eq_true_eq]
        have HN := Lib.hid hnil
        have G1 := Lib.hid g1
        have G2 := Lib.hid g2
        have hc := hn hh
        clear g1 g2 hnil hy hn H1 H2 hw hh
        rcases hc with hc | ⟨rfl, hc⟩ | ⟨rfl, rfl, hc⟩ | ⟨rfl, rfl, rfl, hc⟩
        all_goals
          go_wp2
          all_goals go_ret2
          · refine ⟨ret_ib (by rw [G1.out]) ?_, HD.out⟩
            have h0 : 0 < k := by assumption
            rw [← G1.out, ← G2.out, HN.out, decide_eq_true h0, Bool.true_and]
          · refine ⟨ret_ib (by rw [G1.out]) ?_, HD.out⟩
            rw [← G1.out]
            simp [*]
      · obtain ⟨rfl, rfl, rfl, rfl⟩ := hy hh
        clear hy hn
        have C1 := Lib.hid (fun w => two_at x 26 w (by omega))
        have C2 := Lib.hid (fun w => two_at x 28 w (by omega))
        have C3 := Lib.hid (fun w => two_at x 18 w (by omega))
        have C4 := Lib.hid (fun w => two_at x 20 w (by omega))
        have b1 := twoN_lt x 26
        have b2 := twoN_lt x 28
        have b3 := twoN_lt x 18
        have b4 := twoN_lt x 20
        have HM := Lib.hid (memSize_two x h30)
        have HW : Hid (wholeB x = decide (memSize x ≤ x.size)) := Lib.hid (by unfold wholeB; rw [hh, Bool.true_and])
        have HX := Lib.hid (fun h => mem_whole (s := x) h)
        have HY := Lib.hid (fun h => mem_none (s := x) h)
        clear hh
        generalize twoN x 26 = a1 at *
        generalize twoN x 28 = a2 at *
        generalize twoN x 18 = a3 at *
        generalize twoN x 20 = a4 at *
        generalize memSize x = m at *
        go_wp2
        have e0 : IntKind.i64.wrap (30 + (a1 : Int)) = 30 + (a1 : Int) := IntWalk.i64_in _ (by omega)
        have e1 : IntKind.i64.wrap (30 + (a1 : Int) + (a2 : Int)) = 30 + (a1 : Int) + (a2 : Int) := IntWalk.i64_in _ (by omega)
        have e2 : IntKind.i64.wrap (30 + (a1 : Int) + (a2 : Int) + (a3 : Int)) = 30 + (a1 : Int) + (a2 : Int) + (a3 : Int) := IntWalk.i64_in _ (by omega)
        have e3 : IntKind.i64.wrap (65536 * (a4 : Int)) = 65536 * (a4 : Int) := IntWalk.i64_in _ (by omega)
        have e4 : IntKind.i64.wrap (30 + (a1 : Int) + (a2 : Int) + (a3 : Int) + 65536 * (a4 : Int)) = 30 + (a1 : Int) + (a2 : Int) + (a3 : Int) + 65536 * (a4 : Int) := IntWalk.i64_in _ (by omega)
        go_quiet ((first | (go_at_call 81; (with_reducible exact quiet_drew (C1.out _))) | (go_at_call 81; (with_reducible exact quiet_drew (C2.out _))) | (go_at_call 81; (with_reducible exact quiet_drew (C3.out _))) | (go_at_call 81; (with_reducible exact quiet_drew (C4.out _)))))
        clear e0 e1 e2 e3 e4
        have hmI : 30 + (a1 : Int) + (a2 : Int) + (a3 : Int) + 65536 * (a4 : Int) = (m : Int) := by rw [HM.out]; omega
        rw [hmI]
        have h30m : 30 ≤ m := by rw [HM.out]; omega
        clear hmI b1 b2 b3 b4 HM C1 C2 C3 C4 d0 d1 d2 d3
        have HDN := Lib.hid (HD.out.drewN nq)
        clear HD
        by_cases hle : m ≤ x.size
        · have hw : wholeB x = true := by rw [HW.out]; exact decide_eq_true hle
          have HZ := Lib.hid (HX.out hw)
          clear HX HY hw HW
          go_wp2
          go_roundw
          case rel => exact ⟨x.extract m x.size, k + 1, rfl, by go_num, by simp; omega, by omega, by have := H1.out; have := HZ.out.1; omega, by rw [← H2.out, HZ.out.2], by simp; omega, HDN.out⟩
          case measure => simp [strLen]; omega
        · have hw : wholeB x = false := by rw [HW.out]; exact decide_eq_false hle
          have hz := HY.out hw
          have hx0 : decide (x.size = 0) = false := decide_eq_false (by omega)
          rw [hx0] at hz
          have HZ := Lib.hid hz
          clear HX HY hw HW hz hx0
          go_wp2
          go_ret2
          refine ⟨ret_ib (by have := H1.out; rw [HZ.out.1] at this; omega) ?_, HDN.out⟩
          rw [← H2.out, HZ.out.2, Bool.and_false]
    · have hw : wholeB x = false := by unfold wholeB headB; rw [decide_eq_false h30]; rfl
      obtain ⟨g1, g2⟩ := mem_end H1.out H2.out hw
      have hnil : (x.toList.isEmpty) = decide (x.size = 0) := by
        rw [Bool.eq_iff_iff, List.isEmpty_iff, toList_nil, decide_eq_true_eq]
      have HN := Lib.hid hnil
      have G1 := Lib.hid g1
      have G2 := Lib.hid g2
      have hlt : (x.size : Int) < 30 := by omega
      clear g1 g2 hnil H1 H2 hw
      go_wp2
      all_goals go_ret2
      · refine ⟨ret_ib (by rw [G1.out]) ?_, HD.out⟩
        have h0 : 0 < k := by assumption
        rw [← G1.out, ← G2.out, HN.out, decide_eq_true h0, Bool.true_and]
      · refine ⟨ret_ib (by rw [G1.out]) ?_, HD.out⟩
        rw [← G1.out]
        simp [*]

end Go.Proofs.Ytcpjokjfjhhndaa
