/-
  Walks of package class and its reference: the functions on texts.
-/
import Derived.Test.YtgdhemhapfpkiaaClassA
import Derived.Test.YtgdhemhapfpkiaaBytesMem
import Derived.Laws.IdiomStrings
namespace Go.Proofs.Ytgdhemhapfpkiaa
open Go.RowKit
set_option linter.unusedSimpArgs false
set_option linter.unusedVariables false

theorem ret_string {a b : ByteArray} (h : a = b) : Ending.returned (.string a) = Ending.returned (.string b) := by rw [h]

theorem lower_any (s : ByteArray) (w : World) (hs : s.size ≤ maxLen) :
    Calls Try.prog 87 #[.string s] w fun e w' => e = .returned (.string (lowerB s)) ∧ Below w.heap.size w w' := by
  unfold maxLen at hs
  have hconv := run_bytes_of_string (P := Try.prog) w 9 84 5 s Try.underlying9 Try.underlying84 Try.underlying5
  have h0 := BytesAt.ofString w s (grownCap w s.size 0 5) 5
  have hsz := Lib.size_eq s
  have H0 := Lib.hid h0; clear h0
  have HZ := Lib.hid hsz; clear hsz
  go_enter Try.func87, Try.ntmps87
  go_wp2
  clear hconv
  go_loopw [4, 9] (fun i i2 wr => ∃ k : Nat, k ≤ s.size ∧ i2 = .int .i64 k ∧ BytesAt wr w.heap.size (lowTo s.data.toList k) ∧ Below w.heap.size w wr) (fun _ i _ => s.size - (intOf i).toNat)
  case atStart => exact ⟨0, Nat.zero_le _, rfl, by rw [lowTo_zero]; exact H0.out, ((Below.refl _ _).alloc (Nat.le_refl _) _).drew⟩
  case round =>
    obtain ⟨k, hk, rfl, hby, hbl⟩ := hrel
    have HB := Lib.hid hby; clear hby
    have HW := Lib.hid hbl; clear hbl
    by_cases hlt : k < s.size
    · obtain ⟨x, hc, hf, hn⟩ := HB.out.low hlt
      have HN := Lib.hid hn; clear hn
      go_wp2_with (go_at_call 103; refine (low_any _ _).mono ?_; rintro e w' ⟨rfl, rfl⟩)
      go_roundw
      case rel => exact ⟨k + 1, by omega, by go_num, HN.out, HW.out.setCell (Nat.le_refl _) _⟩
      case measure => simp [intOf]; omega
    · obtain rfl : k = s.size := by omega
      have hby := HB.out
      rw [HZ.out, lowTo_all] at hby
      have hback := hby.back (P := Try.prog) (n := s.size) (grownCap w s.size 0 5) (by rw [HZ.out]; simp [lowerL]) 84 9 5 Try.underlying84 Try.underlying5 Try.underlying9
      clear hby
      go_wp2
      go_ret
      exact ⟨rfl, HW.out⟩

theorem Lower_any (s : ByteArray) (w : World) (hs : s.size ≤ maxLen) :
    Calls Try.prog 51 #[.string s] w fun e w' => e = .returned (.string (lowerB s)) ∧ Below w.heap.size w w' := by
  go_enter Try.func51, Try.ntmps51
  go_wp2_with (go_at_call 87; refine (lower_any _ _ hs).mono ?_; rintro e w' ⟨rfl, hb⟩)
  go_ret
  exact ⟨rfl, hb⟩

end Go.Proofs.Ytgdhemhapfpkiaa
