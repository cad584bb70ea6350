/-
  The law ImageGrows: its walk.
-/
import Derived.Test.YtcpjokjfjhhndaaTabGrow
import Derived.Test.YtcpjokjfjhhndaaLawImage
namespace Go.Proofs.Ytcpjokjfjhhndaa
open Go.RowKit
set_option linter.unusedSimpArgs false
set_option linter.unusedVariables false

theorem imgClash : Clashes imgTable := by
  have h : ∀ i : Fin 8, ∀ j : Fin 8, i ≠ j → clashP (imgTable[i.val]'i.isLt) (imgTable[j.val]'j.isLt) = true := by decide +kernel
  intro i j hi hj hne
  exact h ⟨i, hi⟩ ⟨j, hj⟩ (fun e => hne (by simpa using congrArg Fin.val e))

theorem imgSelf : ∀ i (hi : i < imgTable.length), matchP imgTable[i].b imgTable[i] = true := by
  have h : ∀ i : Fin 8, matchP (imgTable[i.val]'i.isLt).b (imgTable[i.val]'i.isLt) = true := by decide +kernel
  exact fun i hi => h ⟨i, hi⟩

set_option maxHeartbeats 1000000 in
set_option maxRecDepth 20000 in
theorem imageGrows_walk (s t : ByteArray) (w : World) (hs : s.size ≤ maxLen) (ht : t.size ≤ maxLen) :
    Calls Try.prog 15 #[.string s, .string t] w fun e w' => e = .returned (.bool true) ∧ Below w.heap.size w w' := by
  have C60 : Hid (∀ (w : World), Calls Try.prog 16 #[.string s, .int .i64 60] w fun e w' => e = .returned (.string (cutB s 60)) ∧ w = w') := Lib.hid (fun w => Cut_any s 60 w hs (by decide))
  have C40 : Hid (∀ (w : World), Calls Try.prog 16 #[.string t, .int .i64 40] w fun e w' => e = .returned (.string (cutB t 40)) ∧ w = w') := Lib.hid (fun w => Cut_any t 40 w ht (by decide))
  have hx := cutB_size s 60
  have hy := cutB_size t 40
  generalize cutB s 60 = x at *
  generalize cutB t 40 = y at *
  have hx60 : x.size ≤ 60 := by omega
  have hy40 : y.size ≤ 40 := by omega
  have hx1000 : x.size ≤ 1000 := by omega
  have hxm : x.size ≤ maxLen := by unfold maxLen; omega
  have hxym : (x ++ y).size ≤ maxLen := by rw [ByteArray.size_append]; unfold maxLen; omega
  have hadd : x.size + y.size ≤ 9223372036854775807 := by omega
  clear hx hy
  have O1 := Lib.hid (fun w => Open_img x w hx1000)
  have hb := Below.refl w.heap.size w
  by_cases h0 : needsN x imgTable = 0
  · have T1 := Lib.hid (fun w => Type_img x w hxm)
    have T2 : Hid (∀ w, Calls Try.prog 58 #[.string (x ++ y)] w fun e w' => e = .returned (.string (typeP x imgTable)) ∧ Below w.heap.size w w') := Lib.hid (fun w => by
      have := Type_img (x ++ y) w hxym
      rwa [grow_closed imgFull imgClash x y h0] at this)
    have O2 := O1.out
    rw [h0] at O2
    have OO : Hid (∀ w, Calls Try.prog 61 #[.string x] w fun e w' => e = .returned (.bool false) ∧ Below w.heap.size w w') := Lib.hid O2
    clear h0 O1 O2
    generalize typeP x imgTable = k at *
    go_enter Try.func15, Try.ntmps15
    go_wp2_with (first | (go_at_call 16; (with_reducible refine (C60.out _).mono ?_); rintro e w' ⟨rfl, rfl⟩) | (go_at_call 16; (with_reducible refine (C40.out _).mono ?_); rintro e w' ⟨rfl, rfl⟩) | (go_at_call 61; (with_reducible refine (OO.out _).mono ?_); rintro e w' ⟨rfl, hb2⟩; replace hb := below_trans hb hb2; clear hb2) | (go_at_call 58; (with_reducible refine (T1.out _).mono ?_); rintro e w' ⟨rfl, hb2⟩; replace hb := below_trans hb hb2; clear hb2) | (go_at_call 58; (with_reducible refine (T2.out _).mono ?_); rintro e w' ⟨rfl, hb2⟩; replace hb := below_trans hb hb2; clear hb2) | (go_at_call 59; (with_reducible refine (lives13_any _).mono ?_); rintro e w' ⟨rfl, hb2⟩; replace hb := below_trans hb hb2; clear hb2))
    go_ret
    exact ⟨rfl, hb⟩
  · obtain ⟨g1, g2⟩ := grow_open imgFull x y (Nat.pos_of_ne_zero h0)
    have N1 := Lib.hid (fun w => Needs_img x w hx1000)
    have M1 := Lib.hid Most_img
    have I1 := Lib.hid (fun w => Is_img (x ++ y) w hxym)
    have O2 := O1.out
    rw [decide_eq_true (Nat.pos_of_ne_zero h0)] at O2
    have OO := Lib.hid O2
    clear O1 O2
    generalize mostN imgTable 0 = m at *
    generalize needsN x imgTable = n at *
    have hn0 : 0 < n := by omega
    clear h0
    by_cases hyn : y.size < n
    · have hI := g2 hyn
      have I2 := I1.out
      rw [hI] at I2
      have II := Lib.hid I2
      clear I1 I2 hI g2
      go_enter Try.func15, Try.ntmps15
      go_wp2_with (first | (go_at_call 16; (with_reducible refine (C60.out _).mono ?_); rintro e w' ⟨rfl, rfl⟩) | (go_at_call 16; (with_reducible refine (C40.out _).mono ?_); rintro e w' ⟨rfl, rfl⟩) | (go_at_call 61; (with_reducible refine (OO.out _).mono ?_); rintro e w' ⟨rfl, hb2⟩; replace hb := below_trans hb hb2; clear hb2) | (go_at_call 57; (with_reducible refine (M1.out _).mono ?_); rintro e w' ⟨rfl, hb2⟩; replace hb := below_trans hb hb2; clear hb2) | (go_at_call 62; (with_reducible refine (N1.out _).mono ?_); rintro e w' ⟨rfl, hb2⟩; replace hb := below_trans hb hb2; clear hb2) | (go_at_call 60; (with_reducible refine (II.out _).mono ?_); rintro e w' ⟨rfl, hb2⟩; replace hb := below_trans hb hb2; clear hb2) | (go_at_call 59; (with_reducible refine (lives13_any _).mono ?_); rintro e w' ⟨rfl, hb2⟩; replace hb := below_trans hb hb2; clear hb2))
      go_ret
      exact ⟨rfl, hb⟩
    · clear g2 I1
      go_enter Try.func15, Try.ntmps15
      go_wp2_with (first | (go_at_call 16; (with_reducible refine (C60.out _).mono ?_); rintro e w' ⟨rfl, rfl⟩) | (go_at_call 16; (with_reducible refine (C40.out _).mono ?_); rintro e w' ⟨rfl, rfl⟩) | (go_at_call 61; (with_reducible refine (OO.out _).mono ?_); rintro e w' ⟨rfl, hb2⟩; replace hb := below_trans hb hb2; clear hb2) | (go_at_call 57; (with_reducible refine (M1.out _).mono ?_); rintro e w' ⟨rfl, hb2⟩; replace hb := below_trans hb hb2; clear hb2) | (go_at_call 62; (with_reducible refine (N1.out _).mono ?_); rintro e w' ⟨rfl, hb2⟩; replace hb := below_trans hb hb2; clear hb2) | (go_at_call 59; (with_reducible refine (lives13_any _).mono ?_); rintro e w' ⟨rfl, hb2⟩; replace hb := below_trans hb hb2; clear hb2))
      go_ret
      exact ⟨rfl, hb⟩

end Go.Proofs.Ytcpjokjfjhhndaa
