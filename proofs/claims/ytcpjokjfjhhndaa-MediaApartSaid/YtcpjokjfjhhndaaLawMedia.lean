/-
  The laws MediaTypes and MediaApart: their walks.
-/
import Derived.Test.YtcpjokjfjhhndaaMediaG
namespace Go.Proofs.Ytcpjokjfjhhndaa
open Go.RowKit
set_option linter.unusedSimpArgs false
set_option linter.unusedVariables false

set_option maxHeartbeats 4000000 in
set_option maxRecDepth 20000 in
theorem mediaTypes_walk (s : ByteArray) (w : World) (hs : s.size ≤ maxLen) :
    Calls Try.prog 8 #[.string s] w fun e w' => e = .returned (.bool true) ∧ Below w.heap.size w w' := by
  have C100 : Hid (∀ (w : World), Calls Try.prog 16 #[.string s, .int .i64 100] w fun e w' => e = .returned (.string (cutB s 100)) ∧ w = w') := Lib.hid (fun w => Cut_any s 100 w hs (by decide))
  have hx := cutB_size s 100
  generalize cutB s 100 = x at *
  have hx1000 : x.size ≤ 1000 := by omega
  have hxm : x.size ≤ maxLen := by unfold maxLen; omega
  have T1 := Lib.hid (fun w => Type_med x w hxm)
  have T2 := Lib.hid (fun (A : Option Addr) (c : Nat) (w : World) (hA : PatsAt w w.heap.size A medTable) => rType_any x medTable A c w hxm medFull.oks (by decide) hA)
  have N1 := fun w => Needs_med x w hx1000
  have N2 := fun (A : Option Addr) (c : Nat) (w : World) (hA : PatsAt w w.heap.size A medTable) => rNeeds_any x medTable A c w hx1000 medFull (by decide) hA
  have O1 := fun w => Open_med x w hx1000
  have I1 := fun w => Is_med x w hxm
  clear hx
  generalize typeP x medTable = t at *
  generalize needsN x medTable = n at *
  have hb := Below.refl w.heap.size w
  have HN1 := Lib.hid N1
  have HN2 := Lib.hid N2
  have HO1 := Lib.hid O1
  have HI1 := Lib.hid I1
  clear N1 N2 O1 I1
  have main : ∀ (d a : Bool), decide (0 < n) = d → t.toList.isEmpty = a → Calls Try.prog 8 #[.string s] w fun e w' => e = .returned (.bool true) ∧ Below w.heap.size w w' := by
    intro d a hd ha
    have O2 := HO1.out
    rw [hd] at O2
    have OO := Lib.hid O2
    have I2 := HI1.out
    rw [ha] at I2
    have II := Lib.hid I2
    clear O2 HO1 I2 HI1
    cases d
    · obtain rfl : n = 0 := by have := of_decide_eq_false hd; omega
      have N3 : Hid (∀ w : World, Calls Try.prog 44 #[.string x] w fun e w' => e = .returned (.int .i64 0) ∧ Below w.heap.size w w') := Lib.hid HN1.out
      have N4 : Hid (∀ (A : Option Addr) (c : Nat) (w : World), PatsAt w w.heap.size A medTable → Calls Try.prog 43 #[.string x, .slice A medTable.length c] w fun e w' => e = .returned (.int .i64 0) ∧ Below w.heap.size w w') := Lib.hid HN2.out
      clear HN1 HN2 hd
      cases a
      all_goals
        go_enter Try.func8, Try.ntmps8
        go_upto_region 2 with (go_at_call 16; (with_reducible refine (C100.out _).mono ?_); rintro e w' ⟨rfl, rfl⟩)
        go_wp2_with fail
        refine (rTable_med _).mono ?_
        rintro e w1 ⟨g, c, rfl, hp, hb1⟩
        replace hb := below_trans hb hb1
        have HP := Lib.hid hp
        clear hp hb1
        go_wp2_with (go_at_call 40; refine (T2.out _ _ _ HP.out).mono ?_; rintro e w2 ⟨rfl, hb2⟩; replace hb := below_trans hb hb2; clear hb2)
        refine (rTable_med _).mono ?_
        rintro e w3 ⟨g2, c2, rfl, hp, hb1⟩
        replace hb := below_trans hb hb1
        have HP2 := Lib.hid hp
        clear hp hb1
        go_wp2_with (first | (go_at_call 43; refine (N4.out _ _ _ HP2.out).mono ?_; rintro e w2 ⟨rfl, hb2⟩; replace hb := below_trans hb hb2; clear hb2) | (go_at_call 38; (with_reducible refine (T1.out _).mono ?_); rintro e w' ⟨rfl, hb2⟩; replace hb := below_trans hb hb2; clear hb2) | (go_at_call 39; (with_reducible refine (II.out _).mono ?_); rintro e w' ⟨rfl, hb2⟩; replace hb := below_trans hb hb2; clear hb2) | (go_at_call 42; (with_reducible refine (OO.out _).mono ?_); rintro e w' ⟨rfl, hb2⟩; replace hb := below_trans hb hb2; clear hb2) | (go_at_call 44; (with_reducible refine (N3.out _).mono ?_); rintro e w' ⟨rfl, hb2⟩; replace hb := below_trans hb hb2; clear hb2) | (go_at_call 32; (with_reducible refine (lives14_any _).mono ?_); rintro e w' ⟨rfl, hb2⟩; replace hb := below_trans hb hb2; clear hb2))
        go_ret
        exact ⟨rfl, hb⟩
    · have hn := of_decide_eq_true hd
      clear hd
      cases a
      all_goals
        go_enter Try.func8, Try.ntmps8
        go_upto_region 2 with (go_at_call 16; (with_reducible refine (C100.out _).mono ?_); rintro e w' ⟨rfl, rfl⟩)
        go_wp2_with fail
        refine (rTable_med _).mono ?_
        rintro e w1 ⟨g, c, rfl, hp, hb1⟩
        replace hb := below_trans hb hb1
        have HP := Lib.hid hp
        clear hp hb1
        go_wp2_with (go_at_call 40; refine (T2.out _ _ _ HP.out).mono ?_; rintro e w2 ⟨rfl, hb2⟩; replace hb := below_trans hb hb2; clear hb2)
        refine (rTable_med _).mono ?_
        rintro e w3 ⟨g2, c2, rfl, hp, hb1⟩
        replace hb := below_trans hb hb1
        have HP2 := Lib.hid hp
        clear hp hb1
        go_wp2_with (first | (go_at_call 43; refine (HN2.out _ _ _ HP2.out).mono ?_; rintro e w2 ⟨rfl, hb2⟩; replace hb := below_trans hb hb2; clear hb2) | (go_at_call 38; (with_reducible refine (T1.out _).mono ?_); rintro e w' ⟨rfl, hb2⟩; replace hb := below_trans hb hb2; clear hb2) | (go_at_call 39; (with_reducible refine (II.out _).mono ?_); rintro e w' ⟨rfl, hb2⟩; replace hb := below_trans hb hb2; clear hb2) | (go_at_call 42; (with_reducible refine (OO.out _).mono ?_); rintro e w' ⟨rfl, hb2⟩; replace hb := below_trans hb hb2; clear hb2) | (go_at_call 44; (with_reducible refine (HN1.out _).mono ?_); rintro e w' ⟨rfl, hb2⟩; replace hb := below_trans hb hb2; clear hb2) | (go_at_call 32; (with_reducible refine (lives14_any _).mono ?_); rintro e w' ⟨rfl, hb2⟩; replace hb := below_trans hb hb2; clear hb2))
        go_ret
        exact ⟨rfl, hb⟩
  exact main _ _ rfl rfl

theorem riff_index (P : Program) (t : TypeId) (ht : P.underlying t = some .string) (k : Nat) (hk : k < 4) (w : World) :
    (Instr.index t (.string ⟨#[82, 73, 70, 70]⟩) (.int .i64 (k : Int))).run P w = .ok (.int .u8 ((riffHead[k]'hk).toNat : Int)) w := index_byte t ht riffHead k hk w

set_option maxHeartbeats 4000000 in
set_option maxRecDepth 20000 in
theorem mediaApart_walk (s : ByteArray) (w : World) (hs : s.size ≤ maxLen) :
    Calls Try.prog 7 #[.string s] w fun e w' => e = .returned (.bool true) ∧ Below w.heap.size w w' := by
  have C100 : Hid (∀ (w : World), Calls Try.prog 16 #[.string s, .int .i64 100] w fun e w' => e = .returned (.string (cutB s 100)) ∧ w = w') := Lib.hid (fun w => Cut_any s 100 w hs (by decide))
  have hx := cutB_size s 100
  generalize cutB s 100 = x at *
  have hx1000 : x.size ≤ 1000 := by omega
  have hxm : x.size ≤ maxLen := by unfold maxLen; omega
  have T2 := fun (A : Option Addr) (c : Nat) (w : World) (hA : PatsAt w w.heap.size A imgTable) => rType_any x imgTable A c w hxm imgFull.oks (by decide) hA
  have N2 := fun (A : Option Addr) (c : Nat) (w : World) (hA : PatsAt w w.heap.size A imgTable) => rNeeds_any x imgTable A c w hx1000 imgFull (by decide) hA
  have O1 := fun w => Open_med x w hx1000
  have I1 := fun w => Is_med x w hxm
  have hap := media_apart x
  have hbo := media_both x
  clear hx
  generalize typeP x medTable = t at *
  generalize typeP x imgTable = u at *
  generalize needsN x medTable = n at *
  generalize needsN x imgTable = m at *
  have HO1 := Lib.hid O1
  have HI1 := Lib.hid I1
  have HT2 := Lib.hid T2
  have HN2 := Lib.hid N2
  have HAP := Lib.hid hap
  have HBO := Lib.hid hbo
  clear O1 I1 T2 N2 hap hbo
  -- the second half, from the world behind the first test
  have hb := Below.refl w.heap.size w
  have main : ∀ (d a : Bool), decide (0 < n) = d → t.toList.isEmpty = a → Calls Try.prog 7 #[.string s] w fun e w' => e = .returned (.bool true) ∧ Below w.heap.size w w' := by
    intro d a hd ha
    have O2 := HO1.out
    rw [hd] at O2
    have OO := Lib.hid O2
    have I2 := HI1.out
    rw [ha] at I2
    have II := Lib.hid I2
    clear O2 HO1 I2 HI1
    have hu : a = false → u.toList.isEmpty = true := fun h => by
      subst h
      have : t.toList ≠ [] := by rw [← List.isEmpty_eq_false_iff]; exact ha
      rw [HAP.out this]; rfl
    cases a
    · have hu2 := hu rfl
      clear hu ha HAP
      cases d
      · go_enter Try.func7, Try.ntmps7
        go_upto_region 2 with (go_at_call 16; (with_reducible refine (C100.out _).mono ?_); rintro e w' ⟨rfl, rfl⟩)
        go_wp2_with (go_at_call 39; (with_reducible refine (II.out _).mono ?_); rintro e w' ⟨rfl, hb2⟩; replace hb := below_trans hb hb2; clear hb2)
        refine (rTable_img _).mono ?_
        rintro e w1 ⟨g1, c1, rfl, hp, hb1⟩
        replace hb := below_trans hb hb1
        have HP1 := Lib.hid hp
        clear hp hb1
        go_wp2_with (first | (go_at_call 40; refine (HT2.out _ _ _ HP1.out).mono ?_; rintro e w2 ⟨rfl, hb2⟩; replace hb := below_trans hb hb2; clear hb2) | (go_at_call 42; (with_reducible refine (OO.out _).mono ?_); rintro e w' ⟨rfl, hb2⟩; replace hb := below_trans hb hb2; clear hb2) | (go_at_call 32; (with_reducible refine (lives14_any _).mono ?_); rintro e w' ⟨rfl, hb2⟩; replace hb := below_trans hb hb2; clear hb2))
        go_ret
        exact ⟨rfl, hb⟩
      · rcases Nat.eq_zero_or_pos m with rfl | hm
        · have N0 : Hid (∀ (A : Option Addr) (c : Nat) (w : World), PatsAt w w.heap.size A imgTable → Calls Try.prog 43 #[.string x, .slice A imgTable.length c] w fun e w' => e = .returned (.int .i64 0) ∧ Below w.heap.size w w') := Lib.hid HN2.out
          clear HN2
          go_enter Try.func7, Try.ntmps7
          go_upto_region 2 with (go_at_call 16; (with_reducible refine (C100.out _).mono ?_); rintro e w' ⟨rfl, rfl⟩)
          go_wp2_with (go_at_call 39; (with_reducible refine (II.out _).mono ?_); rintro e w' ⟨rfl, hb2⟩; replace hb := below_trans hb hb2; clear hb2)
          refine (rTable_img _).mono ?_
          rintro e w1 ⟨g1, c1, rfl, hp, hb1⟩
          replace hb := below_trans hb hb1
          have HP1 := Lib.hid hp
          clear hp hb1
          go_wp2_with (first | (go_at_call 40; refine (HT2.out _ _ _ HP1.out).mono ?_; rintro e w2 ⟨rfl, hb2⟩; replace hb := below_trans hb hb2; clear hb2) | (go_at_call 42; (with_reducible refine (OO.out _).mono ?_); rintro e w' ⟨rfl, hb2⟩; replace hb := below_trans hb hb2; clear hb2))
          refine (rTable_img _).mono ?_
          rintro e w3 ⟨g3, c3, rfl, hp, hb1⟩
          replace hb := below_trans hb hb1
          have HP3 := Lib.hid hp
          clear hp hb1
          go_wp2_with (first | (go_at_call 43; refine (N0.out _ _ _ HP3.out).mono ?_; rintro e w5 ⟨rfl, hb2⟩; replace hb := below_trans hb hb2; clear hb2) | (go_at_call 32; (with_reducible refine (lives14_any _).mono ?_); rintro e w' ⟨rfl, hb2⟩; replace hb := below_trans hb hb2; clear hb2))
          go_ret
          exact ⟨rfl, hb⟩
        · have hb8 := Lib.hid (HBO.out (of_decide_eq_true hd) hm)
          clear HBO hd
          go_enter Try.func7, Try.ntmps7
          go_upto_region 2 with (go_at_call 16; (with_reducible refine (C100.out _).mono ?_); rintro e w' ⟨rfl, rfl⟩)
          go_wp2_with (go_at_call 39; (with_reducible refine (II.out _).mono ?_); rintro e w' ⟨rfl, hb2⟩; replace hb := below_trans hb hb2; clear hb2)
          refine (rTable_img _).mono ?_
          rintro e w1 ⟨g1, c1, rfl, hp, hb1⟩
          replace hb := below_trans hb hb1
          have HP1 := Lib.hid hp
          clear hp hb1
          go_wp2_with (first | (go_at_call 40; refine (HT2.out _ _ _ HP1.out).mono ?_; rintro e w2 ⟨rfl, hb2⟩; replace hb := below_trans hb hb2; clear hb2) | (go_at_call 42; (with_reducible refine (OO.out _).mono ?_); rintro e w' ⟨rfl, hb2⟩; replace hb := below_trans hb hb2; clear hb2))
          refine (rTable_img _).mono ?_
          rintro e w3 ⟨g3, c3, rfl, hp, hb1⟩
          replace hb := below_trans hb hb1
          have HP3 := Lib.hid hp
          clear hp hb1
          go_wp2_with (go_at_call 43; refine (HN2.out _ _ _ HP3.out).mono ?_; rintro e w5 ⟨rfl, hb2⟩; replace hb := below_trans hb hb2; clear hb2)
          obtain ⟨WL, rfl⟩ : ∃ WL : World, WL = w5 := ⟨_, rfl⟩
          have HB0 := Lib.hid hb
          clear hb
          go_loopw [4] (fun i wr => ∃ k : Nat, k ≤ x.size ∧ i = .int .i64 k ∧ Below w.heap.size w wr) (fun i _ => x.size - (intOf i).toNat)
          case atStart => exact ⟨0, Nat.zero_le _, rfl, HB0.out⟩
          case round =>
            obtain ⟨k, hk, rfl, hb⟩ := hrel
            have HB := Lib.hid hb
            clear hb
            by_cases hlt : k < x.size
            · obtain ⟨hk8, hr4, hw8⟩ := hb8.out k hlt
              have hidx := fun w => index_byte 9 Try.underlying9 x k hlt w
              by_cases h4 : k < 4
              · have hridx := fun w => riff_index Try.prog 9 Try.underlying9 k h4 w
                have he := hr4 h4
                rw [← he] at hridx
                clear he hr4 hw8
                have d4 : decide ((k : Int) < 4) = true := decide_eq_true (by omega)
                have d8 : ((k : Int) == 8) = false := by rw [beq_eq_false_iff_ne]; omega
                have d9 : decide (8 < (k : Int)) = false := decide_eq_false (by omega)
                generalize x[k] = b at *
                go_wp2_with fail
                go_quiet (fail)
                go_wp2_with fail
                go_roundw
                case rel => exact ⟨k + 1, by omega, by go_num, below_drewN HB.out _⟩
                case measure => simp [intOf]; omega
              · clear hr4
                by_cases h8 : k = 8
                · have he := hw8 h8
                  rw [he] at hidx
                  subst h8
                  clear he hw8
                  have h87 : ((87 : UInt8).toNat : Int) = 87 := rfl
                  rw [h87] at hidx
                  have hidx8 : ∀ w : World, (Instr.index 9 (.string x) (.int .i64 8)).run Try.prog w = .ok (.int .u8 87) w := hidx
                  clear hidx
                  go_wp2_with fail
                  go_quiet (fail)
                  go_wp2_with fail
                  go_roundw
                  case rel => exact ⟨8 + 1, by omega, by go_num, below_drewN HB.out _⟩
                  case measure => simp [intOf]; omega
                · clear hw8 hidx
                  have d4 : decide ((k : Int) < 4) = false := decide_eq_false (by omega)
                  have d8 : ((k : Int) == 8) = false := by rw [beq_eq_false_iff_ne]; omega
                  have d9 : decide (8 < (k : Int)) = false := decide_eq_false (by omega)
                  go_wp2_with fail
                  go_quiet (fail)
                  go_wp2_with fail
                  go_roundw
                  case rel => exact ⟨k + 1, by omega, by go_num, below_drewN HB.out _⟩
                  case measure => simp [intOf]; omega
            · have hb := HB.out
              go_wp2_with (go_at_call 32; (with_reducible refine (lives14_any _).mono ?_); rintro e w' ⟨rfl, hb2⟩; replace hb := below_trans hb hb2; clear hb2)
              go_ret
              exact ⟨rfl, hb⟩
    · clear hu ha HAP
      cases d
      · go_enter Try.func7, Try.ntmps7
        go_upto_region 2 with (go_at_call 16; (with_reducible refine (C100.out _).mono ?_); rintro e w' ⟨rfl, rfl⟩)
        go_wp2_with (first | (go_at_call 39; (with_reducible refine (II.out _).mono ?_); rintro e w' ⟨rfl, hb2⟩; replace hb := below_trans hb hb2; clear hb2) | (go_at_call 42; (with_reducible refine (OO.out _).mono ?_); rintro e w' ⟨rfl, hb2⟩; replace hb := below_trans hb hb2; clear hb2) | (go_at_call 32; (with_reducible refine (lives14_any _).mono ?_); rintro e w' ⟨rfl, hb2⟩; replace hb := below_trans hb hb2; clear hb2))
        go_ret
        exact ⟨rfl, hb⟩
      · rcases Nat.eq_zero_or_pos m with rfl | hm
        · have N0 : Hid (∀ (A : Option Addr) (c : Nat) (w : World), PatsAt w w.heap.size A imgTable → Calls Try.prog 43 #[.string x, .slice A imgTable.length c] w fun e w' => e = .returned (.int .i64 0) ∧ Below w.heap.size w w') := Lib.hid HN2.out
          clear HN2
          go_enter Try.func7, Try.ntmps7
          go_upto_region 2 with (go_at_call 16; (with_reducible refine (C100.out _).mono ?_); rintro e w' ⟨rfl, rfl⟩)
          go_wp2_with (first | (go_at_call 39; (with_reducible refine (II.out _).mono ?_); rintro e w' ⟨rfl, hb2⟩; replace hb := below_trans hb hb2; clear hb2) | (go_at_call 42; (with_reducible refine (OO.out _).mono ?_); rintro e w' ⟨rfl, hb2⟩; replace hb := below_trans hb hb2; clear hb2))
          refine (rTable_img _).mono ?_
          rintro e w3 ⟨g3, c3, rfl, hp, hb1⟩
          replace hb := below_trans hb hb1
          have HP3 := Lib.hid hp
          clear hp hb1
          go_wp2_with (first | (go_at_call 43; refine (N0.out _ _ _ HP3.out).mono ?_; rintro e w5 ⟨rfl, hb2⟩; replace hb := below_trans hb hb2; clear hb2) | (go_at_call 32; (with_reducible refine (lives14_any _).mono ?_); rintro e w' ⟨rfl, hb2⟩; replace hb := below_trans hb hb2; clear hb2))
          go_ret
          exact ⟨rfl, hb⟩
        · have hb8 := Lib.hid (HBO.out (of_decide_eq_true hd) hm)
          clear HBO hd
          go_enter Try.func7, Try.ntmps7
          go_upto_region 2 with (go_at_call 16; (with_reducible refine (C100.out _).mono ?_); rintro e w' ⟨rfl, rfl⟩)
          go_wp2_with (first | (go_at_call 39; (with_reducible refine (II.out _).mono ?_); rintro e w' ⟨rfl, hb2⟩; replace hb := below_trans hb hb2; clear hb2) | (go_at_call 42; (with_reducible refine (OO.out _).mono ?_); rintro e w' ⟨rfl, hb2⟩; replace hb := below_trans hb hb2; clear hb2))
          refine (rTable_img _).mono ?_
          rintro e w3 ⟨g3, c3, rfl, hp, hb1⟩
          replace hb := below_trans hb hb1
          have HP3 := Lib.hid hp
          clear hp hb1
          go_wp2_with (go_at_call 43; refine (HN2.out _ _ _ HP3.out).mono ?_; rintro e w5 ⟨rfl, hb2⟩; replace hb := below_trans hb hb2; clear hb2)
          obtain ⟨WL, rfl⟩ : ∃ WL : World, WL = w5 := ⟨_, rfl⟩
          have HB0 := Lib.hid hb
          clear hb
          go_loopw [4] (fun i wr => ∃ k : Nat, k ≤ x.size ∧ i = .int .i64 k ∧ Below w.heap.size w wr) (fun i _ => x.size - (intOf i).toNat)
          case atStart => exact ⟨0, Nat.zero_le _, rfl, HB0.out⟩
          case round =>
            obtain ⟨k, hk, rfl, hb⟩ := hrel
            have HB := Lib.hid hb
            clear hb
            by_cases hlt : k < x.size
            · obtain ⟨hk8, hr4, hw8⟩ := hb8.out k hlt
              have hidx := fun w => index_byte 9 Try.underlying9 x k hlt w
              by_cases h4 : k < 4
              · have hridx := fun w => riff_index Try.prog 9 Try.underlying9 k h4 w
                have he := hr4 h4
                rw [← he] at hridx
                clear he hr4 hw8
                have d4 : decide ((k : Int) < 4) = true := decide_eq_true (by omega)
                have d8 : ((k : Int) == 8) = false := by rw [beq_eq_false_iff_ne]; omega
                have d9 : decide (8 < (k : Int)) = false := decide_eq_false (by omega)
                generalize x[k] = b at *
                go_wp2_with fail
                go_quiet (fail)
                go_wp2_with fail
                go_roundw
                case rel => exact ⟨k + 1, by omega, by go_num, below_drewN HB.out _⟩
                case measure => simp [intOf]; omega
              · clear hr4
                by_cases h8 : k = 8
                · have he := hw8 h8
                  rw [he] at hidx
                  subst h8
                  clear he hw8
                  have h87 : ((87 : UInt8).toNat : Int) = 87 := rfl
                  rw [h87] at hidx
                  have hidx8 : ∀ w : World, (Instr.index 9 (.string x) (.int .i64 8)).run Try.prog w = .ok (.int .u8 87) w := hidx
                  clear hidx
                  go_wp2_with fail
                  go_quiet (fail)
                  go_wp2_with fail
                  go_roundw
                  case rel => exact ⟨8 + 1, by omega, by go_num, below_drewN HB.out _⟩
                  case measure => simp [intOf]; omega
                · clear hw8 hidx
                  have d4 : decide ((k : Int) < 4) = false := decide_eq_false (by omega)
                  have d8 : ((k : Int) == 8) = false := by rw [beq_eq_false_iff_ne]; omega
                  have d9 : decide (8 < (k : Int)) = false := decide_eq_false (by omega)
                  go_wp2_with fail
                  go_quiet (fail)
                  go_wp2_with fail
                  go_roundw
                  case rel => exact ⟨k + 1, by omega, by go_num, below_drewN HB.out _⟩
                  case measure => simp [intOf]; omega
            · have hb := HB.out
              go_wp2_with (go_at_call 32; (with_reducible refine (lives14_any _).mono ?_); rintro e w' ⟨rfl, hb2⟩; replace hb := below_trans hb hb2; clear hb2)
              go_ret
              exact ⟨rfl, hb⟩
  exact main _ _ rfl rfl

end Go.Proofs.Ytcpjokjfjhhndaa
