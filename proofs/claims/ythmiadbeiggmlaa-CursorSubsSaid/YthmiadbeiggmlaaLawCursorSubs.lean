/-
  The law CursorSubs: its walk.
-/
import Derived.Test.YthmiadbeiggmlaaCursorC
namespace Go.Proofs.Ythmiadbeiggmlaa
open Go.RowKit
set_option linter.unusedSimpArgs false
set_option linter.unusedVariables false

theorem cursorSubs_yes (s : ByteArray) (a b : Nat) (w : World) (hs : s.size ≤ maxLen) (hab : a ≤ b) (hb : b ≤ (cutB s 200).size) :
    Calls Try.prog 3 #[.string s, .int .i64 a, .int .i64 b] w fun e w' => e = .returned (.bool true) ∧ Below w.heap.size w w' := by
  have ht := cutB_size s 200
  go_enter Try.func3, Try.ntmps3
  go_wp2_with (go_at_call 11; refine (Cut_any _ 200 _ hs (by decide)).mono ?_; rintro e w' ⟨rfl, rfl⟩)
  generalize cutB s 200 = t at *
  have hm : t.size ≤ maxLen := by omega
  have hm2 : t.size ≤ 200 := by omega
  clear ht
  go_wp2_with (first | (go_at_call 12; refine (Sub_yes _ _ _ _ hab hb hm).mono ?_; rintro e w' ⟨rfl, rfl⟩) | (go_at_call 13; refine (lives02_any _).mono ?_; rintro e w1 ⟨rfl, hb1⟩))
  go_ret
  exact ⟨rfl, hb1⟩

theorem cursorSubs_no (s : ByteArray) (a b : Int) (w : World) (hs : s.size ≤ maxLen) (h : a < 0 ∨ b < a ∨ ((cutB s 200).size : Int) < b) :
    Calls Try.prog 3 #[.string s, .int .i64 a, .int .i64 b] w fun e w' => e = .returned (.bool true) ∧ Below w.heap.size w w' := by
  have ht := cutB_size s 200
  have H := Lib.hid h
  clear h
  by_cases h1 : a < 0
  · go_enter Try.func3, Try.ntmps3
    go_wp2_with (go_at_call 11; refine (Cut_any _ 200 _ hs (by decide)).mono ?_; rintro e w' ⟨rfl, rfl⟩)
    generalize cutB s 200 = t at *
    have hm : t.size ≤ maxLen := by omega
    have hm2 : t.size ≤ 200 := by omega
    clear ht
    go_wp2_with (first | (go_at_call 12; refine (Sub_no _ _ _ _ H.out hm).mono ?_; rintro e w' ⟨rfl, rfl⟩) | (go_at_call 13; refine (lives02_any _).mono ?_; rintro e w1 ⟨rfl, hb1⟩))
    go_ret
    exact ⟨rfl, hb1⟩
  · by_cases h2 : b < a
    · go_enter Try.func3, Try.ntmps3
      go_wp2_with (go_at_call 11; refine (Cut_any _ 200 _ hs (by decide)).mono ?_; rintro e w' ⟨rfl, rfl⟩)
      generalize cutB s 200 = t at *
      have hm : t.size ≤ maxLen := by omega
      have hm2 : t.size ≤ 200 := by omega
      clear ht
      go_wp2_with (first | (go_at_call 12; refine (Sub_no _ _ _ _ H.out hm).mono ?_; rintro e w' ⟨rfl, rfl⟩) | (go_at_call 13; refine (lives02_any _).mono ?_; rintro e w1 ⟨rfl, hb1⟩))
      go_ret
      exact ⟨rfl, hb1⟩
    · have h3 : ((cutB s 200).size : Int) < b := by have := H.out; omega
      go_enter Try.func3, Try.ntmps3
      go_wp2_with (go_at_call 11; refine (Cut_any _ 200 _ hs (by decide)).mono ?_; rintro e w' ⟨rfl, rfl⟩)
      generalize cutB s 200 = t at *
      have hm : t.size ≤ maxLen := by omega
      have hm2 : t.size ≤ 200 := by omega
      clear ht
      go_wp2_with (first | (go_at_call 12; refine (Sub_no _ _ _ _ H.out hm).mono ?_; rintro e w' ⟨rfl, rfl⟩) | (go_at_call 13; refine (lives02_any _).mono ?_; rintro e w1 ⟨rfl, hb1⟩))
      go_ret
      exact ⟨rfl, hb1⟩

theorem cursorSubs_walk (s : ByteArray) (a b : Int) (w : World) (hs : s.size ≤ maxLen) :
    Calls Try.prog 3 #[.string s, .int .i64 a, .int .i64 b] w fun e w' => e = .returned (.bool true) ∧ Below w.heap.size w w' := by
  by_cases h : a < 0 ∨ b < a ∨ ((cutB s 200).size : Int) < b
  · exact cursorSubs_no s a b w hs h
  · obtain ⟨a', rfl⟩ := Int.eq_ofNat_of_zero_le (a := a) (by omega)
    obtain ⟨b', rfl⟩ := Int.eq_ofNat_of_zero_le (a := b) (by omega)
    exact cursorSubs_yes s a' b' w hs (by omega) (by omega)

end Go.Proofs.Ythmiadbeiggmlaa
