/-
  The laws PackTypes, PackTables and PackMembers: their walks.
-/
import Derived.Test.YtcpjokjfjhhndaaPackC
namespace Go.Proofs.Ytcpjokjfjhhndaa
open Go.RowKit
set_option linter.unusedSimpArgs false
set_option linter.unusedVariables false

set_option maxHeartbeats 1000000 in
set_option maxRecDepth 20000 in
theorem packMembers_walk (s : ByteArray) (w : World) (hs : s.size ≤ maxLen) :
    Calls Try.prog 11 #[.string s] w fun e w' => e = .returned (.bool true) ∧ Below w.heap.size w w' := by
  have C1 : Hid (∀ (w : World), Calls Try.prog 16 #[.string s, .int .i64 400] w fun e w' => e = .returned (.string (cutB s 400)) ∧ w = w') := Lib.hid (fun w => Cut_any s 400 w hs (by decide))
  have hx := cutB_size s 400
  generalize cutB s 400 = x at *
  have M1 := Lib.hid (fun w => Members_any x w (by omega))
  have M2 := Lib.hid (fun w => rMembers_any x w (by omega))
  generalize (decide (0 < memN x) && memE x) = b at *
  generalize memN x = n at *
  have hb := Below.refl w.heap.size w
  go_enter Try.func11, Try.ntmps11
  go_wp2_with (first | (go_at_call 16; (with_reducible refine (C1.out _).mono ?_); rintro e w' ⟨rfl, rfl⟩) | (go_at_call 53; (with_reducible refine (M1.out _).mono ?_); rintro e w' ⟨rfl, hb2⟩; replace hb := below_trans hb (hb2.below _); clear hb2) | (go_at_call 54; (with_reducible refine (M2.out _).mono ?_); rintro e w' ⟨rfl, hb2⟩; replace hb := below_trans hb (hb2.below _); clear hb2) | (go_at_call 50; (with_reducible refine (lives15_any _).mono ?_); rintro e w' ⟨rfl, hb2⟩; replace hb := below_trans hb hb2; clear hb2))
  go_ret
  exact ⟨rfl, hb⟩

set_option maxHeartbeats 1000000 in
set_option maxRecDepth 20000 in
theorem packTypes_walk (s : ByteArray) (w : World) (hs : s.size ≤ maxLen) :
    Calls Try.prog 9 #[.string s] w fun e w' => e = .returned (.bool true) ∧ Below w.heap.size w w' := by
  have C1 : Hid (∀ (w : World), Calls Try.prog 16 #[.string s, .int .i64 120] w fun e w' => e = .returned (.string (cutB s 120)) ∧ w = w') := Lib.hid (fun w => Cut_any s 120 w hs (by decide))
  have hx := cutB_size s 120
  generalize cutB s 120 = x at *
  have hxm : x.size ≤ maxLen := by unfold maxLen; omega
  have T1 := Lib.hid (fun (A : Option Addr) (c : Nat) (w : World) (hA : PatsAt w w.heap.size A fontTab) => rType_any x fontTab A c w hxm fontFull.oks (by decide) hA)
  have T2 := Lib.hid (fun (A : Option Addr) (c : Nat) (w : World) (hA : PatsAt w w.heap.size A archTab) => rType_any x archTab A c w hxm archFull.oks (by decide) hA)
  have E1 := Lib.hid (fun w => Either_any x w hxm)
  have F1 := Lib.hid (fun w => Font_any x w hxm)
  have A1 := Lib.hid (fun w => Archive_any x w hxm)
  have hb := Below.refl w.heap.size w
  by_cases h : findN x fontTab < fontTab.length
  all_goals
    first
      | (have h1 := type_some fontFull h
         have h2 : (typeP x fontTab).toList.isEmpty = false := by rw [List.isEmpty_eq_false_iff]; exact h1
         have HE : eitherP x = typeP x fontTab := if_pos h
         rw [decide_eq_true h, HE] at E1)
      | (have h1 := type_none h
         have h2 : (typeP x fontTab).toList.isEmpty = true := by rw [h1]; rfl
         have HE : eitherP x = typeP x archTab := if_neg h
         rw [decide_eq_false h, HE] at E1)
    clear h HE
    generalize typeP x fontTab = t at *
    generalize typeP x archTab = u at *
    go_enter Try.func9, Try.ntmps9
    go_upto_region 2 with (go_at_call 16; (with_reducible refine (C1.out _).mono ?_); rintro e w' ⟨rfl, rfl⟩)
    go_wp2_with fail
    refine (rFonts_tab _).mono ?_
    rintro e w1 ⟨g, c, rfl, hp, hb1⟩
    replace hb := below_trans hb hb1
    have HP := Lib.hid hp
    clear hp hb1
    go_wp2_with (go_at_call 40; (with_reducible refine (T1.out _ _ _ HP.out).mono ?_); rintro e w2 ⟨rfl, hb2⟩; replace hb := below_trans hb hb2; clear hb2)
    refine (rArchives_tab _).mono ?_
    rintro e w3 ⟨g2, c2, rfl, hp, hb1⟩
    replace hb := below_trans hb hb1
    have HP2 := Lib.hid hp
    clear hp hb1
    go_wp2_with (first | (go_at_call 40; (with_reducible refine (T2.out _ _ _ HP2.out).mono ?_); rintro e w2 ⟨rfl, hb2⟩; replace hb := below_trans hb hb2; clear hb2) | (go_at_call 47; (with_reducible refine (E1.out _).mono ?_); rintro e w' ⟨rfl, hb2⟩; replace hb := below_trans hb hb2; clear hb2) | (go_at_call 48; (with_reducible refine (F1.out _).mono ?_); rintro e w' ⟨rfl, hb2⟩; replace hb := below_trans hb hb2; clear hb2) | (go_at_call 49; (with_reducible refine (A1.out _).mono ?_); rintro e w' ⟨rfl, hb2⟩; replace hb := below_trans hb hb2; clear hb2) | (go_at_call 50; (with_reducible refine (lives15_any _).mono ?_); rintro e w' ⟨rfl, hb2⟩; replace hb := below_trans hb hb2; clear hb2))
    go_ret
    exact ⟨rfl, hb⟩

end Go.Proofs.Ytcpjokjfjhhndaa
