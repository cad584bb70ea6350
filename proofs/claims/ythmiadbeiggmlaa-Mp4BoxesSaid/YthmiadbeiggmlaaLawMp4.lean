/-
  The laws Mp4Tells and Mp4Grows: their walks.
-/
import Derived.Test.YthmiadbeiggmlaaMp4C
namespace Go.Proofs.Ythmiadbeiggmlaa
open Go.RowKit
set_option linter.unusedSimpArgs false
set_option linter.unusedVariables false

set_option maxHeartbeats 1000000 in
set_option maxRecDepth 20000 in
theorem mp4Tells_walk (s : ByteArray) (w : World) (hs : s.size ≤ maxLen) :
    Calls Try.prog 7 #[.string s] w fun e w' => e = .returned (.bool true) ∧ Below w.heap.size w w' := by
  have C1 : Hid (∀ (w : World), Calls Try.prog 11 #[.string s, .int .i64 300] w fun e w' => e = .returned (.string (cutB s 300)) ∧ w = w') := Lib.hid (fun w => Cut_any s 300 w hs (by decide))
  have hx := cutB_size s 300
  generalize cutB s 300 = x at *
  have hxm : x.size ≤ maxLen := by unfold maxLen; omega
  have H1 := Lib.hid (fun w => Head_any x w hxm)
  have H2 := Lib.hid (fun w => rHead_any x w hxm)
  have I1 := Lib.hid (fun w => Is_any x w (by omega))
  have I2 := Lib.hid (fun w => rIs_any x w (by omega))
  have B1 := Lib.hid (fun w => Brands_any x w (by omega))
  have B2 := Lib.hid (fun w => rBrands_any x w (by omega))
  have hll := brandsL_length x
  have hlm : (brandsL x).length ≤ maxLen := by unfold maxLen; omega
  clear hll
  have hb := Below.refl w.heap.size w
  by_cases h4 : 4 ≤ x.size
  · have S1 := Lib.hid (fun w => Size_yes x w h4 hxm)
    have S2 := Lib.hid (fun w => rSize_yes x w h4)
    have hlt := sizeF_lt x
    generalize sizeF x = n at *
    generalize headF x = hf at *
    generalize isF x = isf at *
    generalize brandsL x = l at *
    go_enter Try.func7, Try.ntmps7
    go_wp2_with (first | (go_at_call 11; (with_reducible refine (C1.out _).mono ?_); rintro e w' ⟨rfl, rfl⟩) | (go_at_call 33; (with_reducible refine (S1.out _).mono ?_); rintro e w' ⟨rfl, hb2⟩; replace hb := below_trans hb hb2; clear hb2) | (go_at_call 34; (with_reducible refine (S2.out _).mono ?_); rintro e w' ⟨rfl, hb2⟩; replace hb := below_trans hb (hb2.below _); clear hb2) | (go_at_call 35; (with_reducible refine (H1.out _).mono ?_); rintro e w' ⟨rfl, hb2⟩; replace hb := below_trans hb hb2; clear hb2) | (go_at_call 36; (with_reducible refine (H2.out _).mono ?_); rintro e w' ⟨rfl, hb2⟩; replace hb := below_trans hb hb2; clear hb2) | (go_at_call 30; (with_reducible refine (I1.out _).mono ?_); rintro e w' ⟨rfl, hb2⟩; replace hb := below_trans hb hb2; clear hb2) | (go_at_call 37; (with_reducible refine (I2.out _).mono ?_); rintro e w' ⟨rfl, hb2⟩; replace hb := below_trans hb hb2; clear hb2))
    refine (B1.out _).mono ?_
    rintro e w1 ⟨A, c, rfl, hin, hb1⟩
    replace hb := below_trans hb hb1
    have HIN := Lib.hid hin
    clear hin hb1
    go_wp2_with fail
    refine (B2.out _).mono ?_
    rintro e w2 ⟨A2, c2, rfl, hin2, hb1⟩
    replace hb := below_trans hb hb1
    have HIN1 := Lib.hid (HIN.out.below hb1)
    have HIN2 := Lib.hid hin2
    clear hin2 hb1 HIN
    go_wp2_with (first | (go_at_call 38; (with_reducible refine (rSame_strs l A A2 c c2 _ hlm HIN1.out HIN2.out).mono ?_); rintro e w' ⟨rfl, hb2⟩; replace hb := below_trans hb hb2; clear hb2) | (go_at_call 31; (with_reducible refine (lives16_any _).mono ?_); rintro e w' ⟨rfl, hb2⟩; replace hb := below_trans hb hb2; clear hb2))
    go_ret
    exact ⟨rfl, hb⟩
  · have S1 := Lib.hid (fun w => Size_no x w (by omega))
    have S2 := Lib.hid (fun w => rSize_no x w (by omega))
    generalize headF x = hf at *
    generalize isF x = isf at *
    generalize brandsL x = l at *
    go_enter Try.func7, Try.ntmps7
    go_wp2_with (first | (go_at_call 11; (with_reducible refine (C1.out _).mono ?_); rintro e w' ⟨rfl, rfl⟩) | (go_at_call 33; (with_reducible refine (S1.out _).mono ?_); rintro e w' ⟨rfl, hb2⟩; replace hb := below_trans hb hb2; clear hb2) | (go_at_call 34; (with_reducible refine (S2.out _).mono ?_); rintro e w' ⟨rfl, hb2⟩; replace hb := below_trans hb (hb2.below _); clear hb2) | (go_at_call 35; (with_reducible refine (H1.out _).mono ?_); rintro e w' ⟨rfl, hb2⟩; replace hb := below_trans hb hb2; clear hb2) | (go_at_call 36; (with_reducible refine (H2.out _).mono ?_); rintro e w' ⟨rfl, hb2⟩; replace hb := below_trans hb hb2; clear hb2) | (go_at_call 30; (with_reducible refine (I1.out _).mono ?_); rintro e w' ⟨rfl, hb2⟩; replace hb := below_trans hb hb2; clear hb2) | (go_at_call 37; (with_reducible refine (I2.out _).mono ?_); rintro e w' ⟨rfl, hb2⟩; replace hb := below_trans hb hb2; clear hb2))
    refine (B1.out _).mono ?_
    rintro e w1 ⟨A, c, rfl, hin, hb1⟩
    replace hb := below_trans hb hb1
    have HIN := Lib.hid hin
    clear hin hb1
    go_wp2_with fail
    refine (B2.out _).mono ?_
    rintro e w2 ⟨A2, c2, rfl, hin2, hb1⟩
    replace hb := below_trans hb hb1
    have HIN1 := Lib.hid (HIN.out.below hb1)
    have HIN2 := Lib.hid hin2
    clear hin2 hb1 HIN
    go_wp2_with (first | (go_at_call 38; (with_reducible refine (rSame_strs l A A2 c c2 _ hlm HIN1.out HIN2.out).mono ?_); rintro e w' ⟨rfl, hb2⟩; replace hb := below_trans hb hb2; clear hb2) | (go_at_call 31; (with_reducible refine (lives16_any _).mono ?_); rintro e w' ⟨rfl, hb2⟩; replace hb := below_trans hb hb2; clear hb2))
    go_ret
    exact ⟨rfl, hb⟩

theorem extract_in (h t : ByteArray) (i j : Nat) (hj : j ≤ h.size) : (h ++ t).extract i j = h.extract i j := by
  apply ByteArray.ext
  rw [ByteArray.data_extract, ByteArray.data_append, ByteArray.data_extract]
  apply Array.ext'
  rw [Array.toList_extract, Array.toList_append, Array.toList_extract]
  simp only [List.extract_eq_take_drop]
  rw [Lib.size_eq] at hj
  by_cases hi : i ≤ j
  · rw [List.drop_append_of_le_length (by omega), List.take_append_of_le_length (by rw [List.length_drop]; omega)]
  · rw [show j - i = 0 by omega, List.take_zero, List.take_zero]

theorem sizeF_more (x y : ByteArray) (h : 4 ≤ x.size) : sizeF (x ++ y) = sizeF x := by
  unfold sizeF
  rw [extract_in x y 0 4 h]

theorem isF_more (x y : ByteArray) (h : isF x = true) : isF (x ++ y) = true := by
  have hh : headF x = true := by
    unfold isF brandsL at h
    split at h
    · assumption
    · cases h
  obtain ⟨h1, h2, h3⟩ := headF_parts hh
  have hsz : (x ++ y).size = x.size + y.size := ByteArray.size_append
  have hs := sizeF_more x y (by omega)
  have hh2 : headF (x ++ y) = true := by
    unfold headF at hh ⊢
    rw [hs, extract_in x y 4 8 (by omega), decide_eq_true (by omega : 12 ≤ (x ++ y).size), decide_eq_true (by omega : sizeF x ≤ (x ++ y).size)]
    rw [decide_eq_true h1, decide_eq_true h2] at hh
    exact hh
  have hb : brandsL (x ++ y) = brandsL x := by
    unfold brandsL
    rw [if_pos hh, if_pos hh2, hs]
    unfold brandTo
    rw [extract_in x y 8 12 (by omega)]
    congr 1
    apply List.map_congr_left
    intro i hi
    rw [List.mem_range] at hi
    exact extract_in x y _ _ (by omega)
  unfold isF at h ⊢
  rw [hb]
  exact h

set_option maxHeartbeats 1000000 in
set_option maxRecDepth 20000 in
theorem mp4Grows_walk (s t : ByteArray) (w : World) (hs : s.size ≤ maxLen) (ht : t.size ≤ maxLen) :
    Calls Try.prog 6 #[.string s, .string t] w fun e w' => e = .returned (.bool true) ∧ Below w.heap.size w w' := by
  have C1 : Hid (∀ (w : World), Calls Try.prog 11 #[.string s, .int .i64 200] w fun e w' => e = .returned (.string (cutB s 200)) ∧ w = w') := Lib.hid (fun w => Cut_any s 200 w hs (by decide))
  have C2 : Hid (∀ (w : World), Calls Try.prog 11 #[.string t, .int .i64 100] w fun e w' => e = .returned (.string (cutB t 100)) ∧ w = w') := Lib.hid (fun w => Cut_any t 100 w ht (by decide))
  have hx := cutB_size s 200
  have hy := cutB_size t 100
  generalize cutB s 200 = x at *
  generalize cutB t 100 = y at *
  have hx2 : x.size ≤ 200 := by omega
  have hy2 : y.size ≤ 100 := by omega
  clear hx hy
  have hsz : (x ++ y).size = x.size + y.size := ByteArray.size_append
  have I1 := Lib.hid (fun w => Is_any x w (by omega))
  have I2 := Lib.hid (fun w => Is_any (x ++ y) w (by omega))
  have B1 := Lib.hid (fun w => Brands_any x w (by omega))
  have hll := brandsL_length x
  have HL2 := Lib.hid (brandsL_size x)
  have hm := isF_more x y
  have HI : Hid (isF x = (brandsL x).any mpB) := Lib.hid rfl
  have hb := Below.refl w.heap.size w
  cases hi : isF x
  · rw [hi] at I1
    clear hm HI hi hsz I2 B1
    go_enter Try.func6, Try.ntmps6
    go_wp2_with (first | (go_at_call 11; (with_reducible refine (C1.out _).mono ?_); rintro e w' ⟨rfl, rfl⟩) | (go_at_call 11; (with_reducible refine (C2.out _).mono ?_); rintro e w' ⟨rfl, rfl⟩) | (go_at_call 30; (with_reducible refine (I1.out _).mono ?_); rintro e w' ⟨rfl, hb2⟩; replace hb := below_trans hb hb2; clear hb2) | (go_at_call 31; (with_reducible refine (lives16_any _).mono ?_); rintro e w' ⟨rfl, hb2⟩; replace hb := below_trans hb hb2; clear hb2))
    go_ret
    exact ⟨rfl, hb⟩
  · rw [hi] at I1 HI
    rw [hm hi] at I2
    clear hm hi hsz
    generalize brandsL x = l at *
    go_enter Try.func6, Try.ntmps6
    go_wp2_with (first | (go_at_call 11; (with_reducible refine (C1.out _).mono ?_); rintro e w' ⟨rfl, rfl⟩) | (go_at_call 11; (with_reducible refine (C2.out _).mono ?_); rintro e w' ⟨rfl, rfl⟩) | (go_at_call 30; (with_reducible refine (I1.out _).mono ?_); rintro e w' ⟨rfl, hb2⟩; replace hb := below_trans hb hb2; clear hb2))
    refine (B1.out _).mono ?_
    rintro e w1 ⟨A, c, rfl, hin, hb1⟩
    replace hb := below_trans hb hb1
    have HIN := Lib.hid hin
    have HB := Lib.hid hb
    clear hin hb1 hb
    go_wp2_with fail
    go_loop [6, 7] (fun b i => ∃ n : Nat, n ≤ l.length ∧ i = .int .i64 n ∧ b = .bool ((l.take n).any mpB)) (fun _ i => l.length - (intOf i).toNat)
    case atStart => exact ⟨0, Nat.zero_le _, rfl, rfl⟩
    case round =>
      obtain ⟨n, hn, rfl, rfl⟩ := hrel
      by_cases hlt : n < l.length
      · rcases HIN.out with hnil | ⟨g, off, rfl, hg, hcs⟩
        · rw [hnil] at hlt; simp at hlt
        have c0 := hcs n hlt
        have HS := Lib.hid (any_take mpB l n hlt)
        have hx4 := HL2.out n hlt
        have hxm := mpB_cut l[n] hx4
        clear hcs
        generalize l[n] = z at *
        have h3x : (3 : Int) ≤ (z.size : Int) := by omega
        generalize hq : (l.take n).any mpB = q at *
        have HQ := Lib.hid hq
        clear hq
        cases q
        · cases hz : mpB z
          · rw [hz] at hxm
            have HX := Lib.hid hz; clear hz
            go_wp2_with fail
            go_round
            case rel => exact ⟨n + 1, by omega, by go_num, by rw [HS.out, HX.out]; rfl⟩
            case measure => simp [intOf]; omega
          · rw [hz] at hxm
            have HX := Lib.hid hz; clear hz
            go_wp2_with fail
            go_round
            case rel => exact ⟨n + 1, by omega, by go_num, by rw [HS.out, HX.out]; rfl⟩
            case measure => simp [intOf]; omega
        · clear hxm
          go_wp2_with fail
          go_round
          case rel => exact ⟨n + 1, by omega, by go_num, by rw [HS.out]; simp⟩
          case measure => simp [intOf]; omega
      · obtain rfl : n = l.length := by omega
        have hi := HI.out
        rw [List.take_length, ← hi]
        have hb := HB.out
        have hxs : x.size + y.size ≤ 9223372036854775807 := by omega
        clear hi HIN HL2 HI
        go_wp2_with (first | (go_at_call 30; (with_reducible refine (I2.out _).mono ?_); rintro e w' ⟨rfl, hb2⟩; replace hb := below_trans hb hb2; clear hb2) | (go_at_call 31; (with_reducible refine (lives16_any _).mono ?_); rintro e w' ⟨rfl, hb2⟩; replace hb := below_trans hb hb2; clear hb2))
        go_ret
        exact ⟨rfl, hb⟩

end Go.Proofs.Ythmiadbeiggmlaa
