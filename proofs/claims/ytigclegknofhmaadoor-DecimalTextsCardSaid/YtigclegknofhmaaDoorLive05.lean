/-
  The small call of the laws on numbers.
-/
import Derived.Test.YtigclegknofhmaaDoorDecimalA
namespace Go.Proofs.YtigclegknofhmaaDoor
open Go.RowKit
set_option linter.unusedSimpArgs false
set_option linter.unusedVariables false

theorem lives05_any (w : World) :
    Calls Tryd.prog 31 #[] w fun e w' => e = .returned (.bool true) ∧ w = w' := by
  have H : Hid (parseN ⟨#[48, 48, 55]⟩ = 7 ∧ parseE ⟨#[48, 48, 55]⟩ = 0 ∧ strictN ⟨#[48, 48, 55]⟩ = 0 ∧ strictE ⟨#[48, 48, 55]⟩ = 2) := Lib.hid (by decide +kernel)
  go_enter Tryd.func31, Tryd.ntmps31
  go_wp2_with (first | (go_at_call 50; refine (Parse_any ⟨#[48, 48, 55]⟩ _ (by decide)).mono ?_; rintro e w' ⟨rfl, rfl⟩; rw [H.out.1, H.out.2.1]) | (go_at_call 30; refine (Strict_any ⟨#[48, 48, 55]⟩ _ (by decide)).mono ?_; rintro e w' ⟨rfl, rfl⟩; rw [H.out.2.2.1, H.out.2.2.2]))
  go_ret
  exact ⟨rfl, rfl⟩

end Go.Proofs.YtigclegknofhmaaDoor
