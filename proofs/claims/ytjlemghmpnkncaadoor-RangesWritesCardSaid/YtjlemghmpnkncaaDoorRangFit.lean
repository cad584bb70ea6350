/-
  Walks of package ranges and its reference: what fits.
-/
import Derived.Test.YtjlemghmpnkncaaDoorPartB
import Derived.Deep.DeepCutAuto
import Derived.Test.YtjlemghmpnkncaaDoorQuietIn
namespace Go.Proofs.YtjlemghmpnkncaaDoor
open Go.RowKit
set_option linter.unusedSimpArgs false
set_option linter.unusedVariables false

/-- A part of a length fits a range. -/
def fitsP (rf rt n f t s : Int) : Bool := decide (¬ (n = 0 ∨ rf < -1 ∨ rt < -1) ∧ ((rf = -1 ∧ s ≠ -1 ∧ t = s - 1 ∧ n ≤ rt) ∨ (rf ≠ -1 ∧ f = rf ∧ (rt = -1 ∨ t ≤ rt))))

theorem lenP_size {f t s : Int} (h : ¬ lenP f t s = 0) : -1 ≤ s ∧ s ≤ 9007199254740991 := by
  have h1 := lenP_range f t s
  have h2 : saysP f t s = true := by unfold saysP; exact decide_eq_true (by omega)
  have h3 := saysP_range h2
  exact ⟨h3.2.2.2.1, h3.2.2.2.2.1⟩

end Go.Proofs.YtjlemghmpnkncaaDoor
