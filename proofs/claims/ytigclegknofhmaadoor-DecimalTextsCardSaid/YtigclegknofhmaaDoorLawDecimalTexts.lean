/-
  The walk of the law DecimalTexts.
-/
import Derived.Test.YtigclegknofhmaaDoorDecimalTP
import Derived.Test.YtigclegknofhmaaDoorLive05
namespace Go.Proofs.YtigclegknofhmaaDoor
open Go.RowKit
set_option linter.unusedSimpArgs false
set_option linter.unusedVariables false

theorem itoa_strict (n : Int) (h0 : -9223372036854775808 ≤ n) (h1 : n ≤ 9223372036854775807) :
    (n < 0 → strictN (txt (Lib.itoa n)) = 0 ∧ strictE (txt (Lib.itoa n)) = 2) ∧ (9007199254740991 < n → strictN (txt (Lib.itoa n)) = 0 ∧ strictE (txt (Lib.itoa n)) = 9) ∧ (0 ≤ n → n ≤ 9007199254740991 → strictN (txt (Lib.itoa n)) = n ∧ strictE (txt (Lib.itoa n)) = 0) := by
  rcases itoa_cases n h0 h1 with ⟨hn, hi⟩ | ⟨hn, hi⟩
  · rw [hi]
    refine ⟨fun h => by omega, fun h => strict_great _ (by unfold mostN; omega), fun _ h => ?_⟩
    have := strict_small n.toNat (by unfold mostN; omega)
    exact ⟨by rw [this.1]; omega, this.2⟩
  · rw [hi]
    exact ⟨fun _ => strict_minus _, fun h => by omega, fun h => by omega⟩

set_option maxRecDepth 20000 in
theorem decimalTexts_walk (n : Int) (w : World) (h0 : -9223372036854775808 ≤ n) (h1 : n ≤ 9223372036854775807) (hT : Lib.TabIs Tryd.prog w "internal/strconv.uint64pow10" .u64 Lib.pow10Tab) :
    Calls Tryd.prog 5 #[.int .i64 n] w fun e w' => e = .returned (.bool true) ∧ Below w.heap.size w w' := by
  have HT := Lib.hid (Text_any n w h0 h1 hT)
  have HR := Lib.hid (fun w => rText_any n w h0 h1)
  have hz : (txt (Lib.itoa n)).size ≤ maxLen := by
    rw [txt_size]
    have := Lib.itoa_length_le n h0 h1
    unfold maxLen; omega
  have HS := Lib.hid (fun w => Strict_any (txt (Lib.itoa n)) w hz)
  have HL := Lib.hid lives05_any
  obtain ⟨k1, k2, k3⟩ := itoa_strict n h0 h1
  generalize txt (Lib.itoa n) = s at *
  generalize strictN s = a at *
  generalize strictE s = b at *
  clear hz hT h0 h1
  rcases Int.lt_or_le n 0 with h | h
  · obtain ⟨rfl, rfl⟩ := k1 h
    clear k1 k2 k3
    go_enter Tryd.func5, Tryd.ntmps5
    go_wp2_with (first | (go_at_call 28; refine Calls.mono HT.out ?_; rintro e w' ⟨rfl, hb⟩) | (go_at_call 29; refine Calls.mono (HR.out _) ?_; rintro e w' ⟨rfl, rfl⟩) | (go_at_call 30; refine Calls.mono (HS.out _) ?_; rintro e w' ⟨rfl, rfl⟩) | (go_at_call 31; refine Calls.mono (HL.out _) ?_; rintro e w' ⟨rfl, rfl⟩))
    go_ret
    exact ⟨rfl, hb⟩
  rcases Int.lt_or_le 9007199254740991 n with h2 | h2
  · obtain ⟨rfl, rfl⟩ := k2 h2
    clear k1 k2 k3
    have h3 : ¬ (n < 0) := by omega
    go_enter Tryd.func5, Tryd.ntmps5
    go_wp2_with (first | (go_at_call 28; refine Calls.mono HT.out ?_; rintro e w' ⟨rfl, hb⟩) | (go_at_call 29; refine Calls.mono (HR.out _) ?_; rintro e w' ⟨rfl, rfl⟩) | (go_at_call 30; refine Calls.mono (HS.out _) ?_; rintro e w' ⟨rfl, rfl⟩) | (go_at_call 31; refine Calls.mono (HL.out _) ?_; rintro e w' ⟨rfl, rfl⟩))
    go_ret
    exact ⟨rfl, hb⟩
  · obtain ⟨rfl, rfl⟩ := k3 h h2
    clear k1 k2 k3
    have h3 : ¬ (a < 0) := by omega
    have h4 : ¬ (9007199254740991 < a) := by omega
    go_enter Tryd.func5, Tryd.ntmps5
    go_wp2_with (first | (go_at_call 28; refine Calls.mono HT.out ?_; rintro e w' ⟨rfl, hb⟩) | (go_at_call 29; refine Calls.mono (HR.out _) ?_; rintro e w' ⟨rfl, rfl⟩) | (go_at_call 30; refine Calls.mono (HS.out _) ?_; rintro e w' ⟨rfl, rfl⟩) | (go_at_call 31; refine Calls.mono (HL.out _) ?_; rintro e w' ⟨rfl, rfl⟩))
    go_ret
    exact ⟨rfl, hb⟩

end Go.Proofs.YtigclegknofhmaaDoor
