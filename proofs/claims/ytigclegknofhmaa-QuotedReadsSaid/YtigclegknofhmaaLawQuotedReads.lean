/-
  The law QuotedReads: its walk.
-/
import Derived.Test.YtigclegknofhmaaQuoG
namespace Go.Proofs.Ytigclegknofhmaa
open Go.RowKit
set_option linter.unusedSimpArgs false
set_option linter.unusedVariables false

theorem ret_val_i64 {a b : Int} (h : a = b) : Value.int .i64 a = Value.int .i64 b := by rw [h]

set_option maxHeartbeats 4000000 in
set_option maxRecDepth 100000 in
theorem quotedReads_walk (s0 : ByteArray) (a : UInt8) (w : World) (hs0 : s0.size ≤ maxLen) :
    Calls Try.prog 3 #[.string s0, .int .u8 (a.toNat : Int)] w fun e w' => e = .returned (.bool true) ∧ Below w.heap.size w w' := by
  have ht := cutB_size s0 80
  have C1 : Hid (∀ w, Calls Try.prog 8 #[.string s0, .int .i64 80] w fun e w' => e = .returned (.string (cutB s0 80)) ∧ w = w') := Lib.hid (fun w => Cut_any s0 80 w hs0 (by decide))
  have hmf : ∀ (fn : Fn) (first cap : Array Value) (w : World), (Instr.makeFunc fn first cap).run Try.prog w = .ok (.func fn first cap) w := fun _ _ _ _ => rfl
  go_enter Try.func3, Try.ntmps3
  go_upto_region 2 with ((go_at_call 8; (with_reducible refine (C1.out _).mono ?_); rintro e w' ⟨rfl, rfl⟩))
  clear C1
  generalize cutB s0 80 = s at *
  have hsz : s.size ≤ 80 := by omega
  clear ht hs0
  have hsm : s.size ≤ maxLen := by unfold maxLen; omega
  obtain ⟨t, n, c, hRD, hyes, hno⟩ : ∃ (t : ByteArray) (n : Nat) (c : Int), (∀ w, Calls Try.prog 9 #[.string s] w fun e w' => e = .returned (.tuple #[.string t, .int .i64 (n : Int), .int .i64 c]) ∧ Below w.heap.size w w') ∧
      (∀ (h : 0 < s.size), s[0] = 34 → t = ⟨(readL (dropB s 1)).1.toArray⟩ ∧ n = 1 + (readL (dropB s 1)).2 ∧ c = 0) ∧ ((∀ (h : 0 < s.size), s[0] ≠ 34) → t = ⟨#[]⟩ ∧ n = 0 ∧ c = 2) := by
    by_cases h0 : ∃ h : 0 < s.size, s[0] = 34
    · obtain ⟨h1, h2⟩ := h0
      exact ⟨_, _, _, fun w => Read_yes s w h1 h2 (by omega), fun _ _ => ⟨rfl, rfl, rfl⟩, fun h => absurd h2 (h h1)⟩
    · exact ⟨_, _, _, fun w => Read_no s w (fun h e => h0 ⟨h, e⟩) (by omega), fun h e => absurd ⟨h, e⟩ h0, fun _ => ⟨rfl, rfl, rfl⟩⟩
  have HRD := Lib.hid hRD
  have HYES := Lib.hid hyes
  have HNO := Lib.hid hno
  clear hRD hyes hno
  go_upto_region 3 with fail
  refine (HRD.out _).mono ?_
  rintro e w1 ⟨rfl, hb1⟩
  have HB1 := Lib.hid hb1
  clear hb1 HRD
  go_upto_region 4 with fail
  obtain ⟨r, hr⟩ : ∃ r : Nat, ((a.toNat : Int) % 10) = (r : Int) := ⟨a.toNat % 10, by omega⟩
  rw [hr]
  clear hr
  obtain ⟨m, hm, hmr⟩ : ∃ m, m = min r s.size ∧ m ≤ s.size := ⟨_, rfl, Nat.min_le_right _ _⟩
  go_upto_if 32 with fail
  go_cut [8] (fun v wx => v = .int .i64 (m : Int) ∧ w1 = wx)
  case first =>
    go_wp2_with fail
    all_goals go_meet
    all_goals exact ⟨ret_val_i64 (by omega), rfl⟩
  obtain ⟨rfl, rfl⟩ := hcut
  clear hm
  have hms : m ≤ s.size := by omega
  clear hmr
  have HC0 := Lib.hid (Cur.new w1 s)
  have HBW := Lib.hid (HB1.out.trans ((below_box w1 (.cells #[.string s, .int .i64 0] 64)).mono HB1.out.size))
  go_upto_region 7 with (go_at_call 10; refine (New_any _ _).mono ?_; rintro e w' ⟨rfl, rfl⟩)
  generalize hW : w1.alloc (.cells #[.string s, .int .i64 0] 64) = W at *
  have hgB : w.heap.size ≤ w1.heap.size := HB1.out.size
  clear hW HB1
  generalize w1.heap.size = g at *
  have HSK := Lib.hid (fun (w2 : World) (h2 : Cur w2 g s 0) => valSkip g s 0 m w2 h2 (by omega) hsm)
  simp only [Nat.zero_add] at HSK
  go_upto_region 8 with fail
  refine (HSK.out _ HC0.out).mono ?_
  rintro e w2 ⟨rfl, hm2⟩
  have HM2 := Lib.hid hm2
  have HB2 := Lib.hid (HBW.out.trans (hm2.2.below (by omega) HBW.out.size))
  have HGZ : Hid ((s.extract 0 m).size = m) := Lib.hid (by rw [extract_size]; omega)
  clear hm2 HSK HC0 HBW
  go_upto_region 8 with fail
  have HCV := Lib.hid (HM2.out.1.alloc (.cells #[.int .i64 0, .int .i64 0] 29))
  have HBV := Lib.hid (HB2.out.alloc HB2.out.size (.cells #[.int .i64 0, .int .i64 0] 29))
  clear HM2 HB2
  generalize w2.alloc (.cells #[.int .i64 0, .int .i64 0] 29) = V at *
  obtain ⟨x, hx⟩ : ∃ x : Bool, x = decide (128 ≤ (a.toNat : Int)) := ⟨_, rfl⟩
  obtain ⟨got, fa, fc, m2, hCO, hq, hnq⟩ : ∃ (got : ByteArray) (fa fc : Int) (m2 : Nat), (∀ w3, Cur w3 g s m → Calls Try.prog 11 #[.func (.func 13) #[.agg #[.pointer (some ⟨g, 0, none⟩), .bool x]] #[]] w3 fun e w' => e = .returned (.tuple #[.string got, .agg #[.int .i64 fa, .int .i64 fc]]) ∧ Moved g s m2 w3 w') ∧
      (∀ (h : m < s.size), s[m] = 34 → got = takenB s m x ∧ fa = 0 ∧ fc = 0 ∧ m2 = m + 1 + (readL (dropB s (m + 1))).2) ∧ ((∀ (h : m < s.size), s[m] ≠ 34) → got = ⟨#[]⟩ ∧ fa = m ∧ fc = 2 ∧ m2 = m) := by
    by_cases h0 : ∃ h : m < s.size, s[m] = 34
    · obtain ⟨h1, h2⟩ := h0
      exact ⟨_, _, _, _, fun w3 h3 => valCollect_ok g x s m w3 h3 h1 h2 (by omega), fun _ _ => ⟨rfl, rfl, rfl, rfl⟩, fun h => absurd h2 (h h1)⟩
    · exact ⟨_, _, _, _, fun w3 h3 => valCollect_bad g x s m w3 h3 hms (fun h e => h0 ⟨h, e⟩) (by omega), fun h e => absurd ⟨h, e⟩ h0, fun _ => ⟨rfl, rfl, rfl, rfl⟩⟩
  have HCO := Lib.hid hCO
  have HQ := Lib.hid hq
  have HNQ := Lib.hid hnq
  have HXX := Lib.hid hx
  clear hCO hq hnq hx
  go_upto_region 9 with fail
  rw [← HXX.out]
  refine (HCO.out _ HCV.out).mono ?_
  rintro e w3 ⟨rfl, hm3⟩
  have HC3 := Lib.hid (hm3.1.alloc (.cells #[.int .i64 fa, .int .i64 fc] 29))
  have HB3 := Lib.hid ((HBV.out.trans (hm3.2.below (by omega) HBV.out.size)).alloc (by have := hm3.2.size; have := HBV.out.size; omega) (.cells #[.int .i64 fa, .int .i64 fc] 29))
  clear hm3 HCV HBV HCO
  go_upto_region 9 with fail
  generalize hU : w3.alloc (.cells #[.int .i64 fa, .int .i64 fc] 29) = U at *
  have p0 : U.cell? ⟨w3.heap.size, 0, none⟩ = some (.int .i64 fa) := by rw [← hU]; simp [go_sem]
  have p1 : U.cell? ⟨w3.heap.size, 1, none⟩ = some (.int .i64 fc) := by rw [← hU]; simp [go_sem]
  have hF : w3.heap.size < U.heap.size := by rw [← hU]; simp
  clear hU
  obtain ⟨F, hFe⟩ : ∃ F, w3.heap.size = F := ⟨_, rfl⟩
  rw [hFe] at p0 p1 hF ⊢
  have P0 := Lib.hid p0
  have P1 := Lib.hid p1
  clear hFe p0 p1
  obtain ⟨nA, hA1, hA2⟩ : ∃ nA : Bool, (nA = true → ∀ (h : 0 < s.size), s[0] ≠ 34) ∧ (nA = false → ∃ h : 0 < s.size, s[0] = 34) := by
    by_cases h0 : ∃ h : 0 < s.size, s[0] = 34
    · exact ⟨false, by simp, fun _ => h0⟩
    · exact ⟨true, fun _ h e => h0 ⟨h, e⟩, by simp⟩
  have HA1 := Lib.hid hA1
  have HA2 := Lib.hid hA2
  clear hA1 hA2
  go_cut [61] (fun v wx => v = .bool nA ∧ U = wx)
  case first =>
    by_cases h0 : 0 < s.size
    · have hidx := fun w => index_zero 9 Try.underlying9 s h0 w
      have HB := Lib.hid (show (((s.size : Int) == 0) || ((s[0].toNat : Int) != 34)) = nA from by
        have e0 : ((s.size : Int) == 0) = false := by rw [beq_eq_false_iff_ne]; omega
        rw [e0, Bool.false_or]
        cases nA
        · obtain ⟨_, e⟩ := HA2.out rfl
          rw [e]; rfl
        · have := ne_int (n := 34) (by decide) (HA1.out rfl h0)
          rw [bne]
          rw [show ((34 : Nat) : Int) = 34 from rfl] at this
          rw [this]; rfl)
      have hzf : ((s.size : Int) == 0) = false := by rw [beq_eq_false_iff_ne]; omega
      generalize s[0] = b at *
      go_wp2_with fail
      go_meet
      exact ⟨by rw [← HB.out, hzf]; rfl, rfl⟩
    · have hn : nA = true := by
        cases nA
        · exact absurd (HA2.out rfl).1 h0
        · rfl
      have hse : s = ByteArray.empty := by apply ByteArray.ext; apply Array.ext'; apply List.eq_nil_of_length_eq_zero; rw [← Lib.size_eq]; omega
      clear HA1 HA2 HQ HNQ
      subst hse
      go_wp2_with fail
      go_meet
      exact ⟨by rw [hn], rfl⟩
  obtain ⟨rfl, rfl⟩ := hcut
  go_upto_if 61 with fail
  go_cut [72] (fun _ wx => Below U.heap.size U wx)
  case first =>
    cases nA
    · obtain ⟨h0, h1⟩ := HA2.out rfl
      obtain ⟨e1, e2, rfl⟩ := HYES.out h0 h1
      have HRR := Lib.hid (fun w => rRead_any s w h0 (by omega))
      rw [← e1, ← e2] at HRR
      clear e1 e2 HYES HNO HA1 HA2
      go_wp2_with fail
      refine (HRR.out _).mono ?_
      rintro e w4 ⟨rfl, hb4⟩
      go_wp2_with fail
      go_meet
      exact hb4
    · obtain ⟨rfl, rfl, rfl⟩ := HNO.out (HA1.out rfl)
      clear HYES HNO HA1 HA2
      go_wp2_with fail
      go_meet
      exact Below.refl _ _
  obtain ⟨W4, rfl⟩ : ∃ W4 : World, W4 = wc := ⟨_, rfl⟩
  have q0 : W4.cell? ⟨F, 0, none⟩ = some (.int .i64 fa) := by rw [cell_below hcut hF]; exact P0.out
  have q1 : W4.cell? ⟨F, 1, none⟩ = some (.int .i64 fc) := by rw [cell_below hcut hF]; exact P1.out
  have HC4 := Lib.hid (HC3.out.below hcut HC3.out.lt)
  have HB4 := Lib.hid (HB3.out.trans (hcut.mono HB3.out.size))
  clear hcut HC3 HB3 P0 P1 HYES HNO HA1 HA2
  have hgz := HGZ.out
  have hAt := Lib.hid (fun (w5 : World) (h5 : Cur w5 g s m2) => At_any g s m2 w5 h5)
  by_cases hB : ∃ h : m < s.size, s[m] = 34
  · obtain ⟨h0, h1⟩ := hB
    obtain ⟨e1, rfl, rfl, e4⟩ := HQ.out h0 h1
    have HE1 := Lib.hid e1
    have HE4 := Lib.hid e4
    have hidx := fun w => index_byte 9 Try.underlying9 s m h0 w
    rw [h1] at hidx
    have hb34 : ((34 : UInt8).toNat : Int) = 34 := rfl
    rw [hb34] at hidx
    have hmlt : ((m : Int) == (s.size : Int)) = false := by rw [beq_eq_false_iff_ne]; omega
    clear e1 e4 HQ HNQ h1
    have hks := readL_le (dropB s (m + 1))
    have hdl : (dropB s (m + 1)).length = s.size - (m + 1) := by unfold dropB; rw [List.length_drop, Lib.size_eq]
    have HRR : Hid (∀ w, Calls Try.prog 14 #[.string (s.extract m s.size)] w fun e w' => e = .returned (.tuple #[.string ⟨(readL (dropB s (m + 1))).1.toArray⟩, .int .i64 ((1 + (readL (dropB s (m + 1))).2 : Nat) : Int)]) ∧ Below w.heap.size w w') := Lib.hid (by
      intro w
      have h := rRead_any (s.extract m s.size) w (by rw [extract_size]; omega) (by rw [extract_size]; omega)
      have e : dropB (s.extract m s.size) 1 = dropB s (m + 1) := by
        unfold dropB
        rw [ByteArray.data_extract, Array.toList_extract, List.extract_eq_take_drop, List.take_of_length_le (by rw [List.length_drop, ← Lib.size_eq]; omega), List.drop_drop]
      rw [e] at h
      exact h)
    have HTK : Hid (takenB s m x = if x then ⟨(readL (dropB s (m + 1))).1.toArray⟩ else s.extract m (m + 1 + (readL (dropB s (m + 1))).2)) := Lib.hid rfl
    generalize readL (dropB s (m + 1)) = R at *
    obtain ⟨k, hk⟩ : ∃ k, 1 + R.2 = k := ⟨_, rfl⟩
    have hm2 : m2 = m + k := by rw [HE4.out]; omega
    have hkz : m + k ≤ s.size := by omega
    rw [show m + 1 + R.2 = m + k by omega] at HTK
    rw [hk] at HRR
    clear hks hdl hk HE4
    subst hm2
    generalize (⟨R.1.toArray⟩ : ByteArray) = X at *
    generalize takenB s m x = TB at *
    clear R
    go_wp2_with fail
    refine (HRR.out _).mono ?_
    rintro e w5 ⟨rfl, hb5⟩
    have q2 : w5.cell? ⟨F, 1, none⟩ = some (.int .i64 0) := by rw [cell_below hb5 (lt_of_cell q1)]; exact q1
    have HC5 := Lib.hid (HC4.out.below hb5 HC4.out.lt)
    have HB5 := Lib.hid (HB4.out.trans (hb5.mono HB4.out.size))
    clear hb5 HC4 HB4 HRR q0 q1
    by_cases hx : 128 ≤ (a.toNat : Int)
    · have hgx : X = got := by rw [HE1.out, HTK.out, HXX.out]; simp [hx]
      subst hgx
      have HXL : ((a.toNat : Int) < 128) = False := by simp; omega
      go_wp2_with (go_at_call 15; refine (hAt.out _ HC5.out).mono ?_; rintro e w' ⟨rfl, rfl⟩)
      refine (lives04_any _).mono ?_
      rintro e w6 ⟨rfl, hb6⟩
      have HB6 := Lib.hid (HB5.out.trans (hb6.mono HB5.out.size))
      clear hb6
      go_wp2_with fail
      go_ret
      exact ⟨rfl, HB6.out⟩
    · have hgx : s.extract m (m + k) = got := by rw [HE1.out, HTK.out, HXX.out]; simp [hx]
      have hxl : ((a.toNat : Int) < 128) := by omega
      go_wp2_with (go_at_call 15; refine (hAt.out _ HC5.out).mono ?_; rintro e w' ⟨rfl, rfl⟩)
      refine (lives04_any _).mono ?_
      rintro e w6 ⟨rfl, hb6⟩
      have HB6 := Lib.hid (HB5.out.trans (hb6.mono HB5.out.size))
      clear hb6
      go_wp2_with fail
      go_ret
      exact ⟨rfl, HB6.out⟩
  · obtain ⟨rfl, rfl, rfl, rfl⟩ := HNQ.out (fun h e => hB ⟨h, e⟩)
    have HNB := Lib.hid (fun (h : m2 < s.size) (e : s[m2] = 34) => hB ⟨h, e⟩)
    clear hB HQ HNQ
    have HB5 := HB4
    by_cases hlt : m2 < s.size
    · have hidx := fun w => index_byte 9 Try.underlying9 s m2 hlt w
      have hnb := ne_int (n := 34) (by decide) (HNB.out hlt)
      have hmlt : ((m2 : Int) == (s.size : Int)) = false := by rw [beq_eq_false_iff_ne]; omega
      generalize s[m2] = b at *
      clear HNB
      go_wp2_with (go_at_call 15; refine (hAt.out _ HC4.out).mono ?_; rintro e w' ⟨rfl, rfl⟩)
      refine (lives04_any _).mono ?_
      rintro e w6 ⟨rfl, hb6⟩
      have HB6 := Lib.hid (HB5.out.trans (hb6.mono HB5.out.size))
      clear hb6
      go_wp2_with fail
      go_ret
      exact ⟨rfl, HB6.out⟩
    · have hm3 : m2 = s.size := by omega
      clear HNB
      go_wp2_with (go_at_call 15; refine (hAt.out _ HC4.out).mono ?_; rintro e w' ⟨rfl, rfl⟩)
      refine (lives04_any _).mono ?_
      rintro e w6 ⟨rfl, hb6⟩
      have HB6 := Lib.hid (HB5.out.trans (hb6.mono HB5.out.size))
      clear hb6
      go_wp2_with fail
      go_ret
      exact ⟨rfl, HB6.out⟩

end Go.Proofs.Ytigclegknofhmaa
