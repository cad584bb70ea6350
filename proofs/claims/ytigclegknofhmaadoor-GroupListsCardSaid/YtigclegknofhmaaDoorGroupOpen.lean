/-
  What the row's listed variables give: the table of white space.
-/
import Derived.Test.YtigclegknofhmaaDoorGroupA
import Derived.Lib.LaidU8
import Derived.LaidMore
import Derived.SevenTiedAt
namespace Go.Proofs.YtigclegknofhmaaDoor
open Go.RowKit
open Go.ChangeShapes Go.WideShapes Go.ChangeAt
set_option linter.unusedSimpArgs false
set_option linter.unusedVariables false

theorem tab_type : (Tryd.prog.globals[0]?).map (·.type) = some 54 := by kernel_rfl

theorem tab_data : (Rows.laid_strings_asciiSpace : DataW Unit) = Lib.tabData .u8 Lib.asciiSpaceTab := by kernel_rfl

theorem tab_of_reads {W : World} {l : List (String × DataW Unit)} (h : laidMet Tryd.prog l W) (hm : ("strings.asciiSpace", Rows.laid_strings_asciiSpace) ∈ l) : Tab W := by
  obtain ⟨g, t, cs, fuel, p, hg, ht, hv, hd⟩ := Lib.laidMet.reads h hm
  obtain rfl := Option.some.inj (tab_var.symm.trans hg)
  obtain rfl := Option.some.inj (tab_type.symm.trans ht)
  rw [tab_data] at hd
  have hc := Lib.cells_of_tab Tryd.underlying54 Tryd.underlying5 (by kernel_rfl) (by kernel_rfl) hd
  unfold Tab Lib.TabIs
  rw [hv, ← hc]

theorem tab_of_laid {W : World} (h : laidMetH Tryd.prog Rows.groupKindsRow.laid W) : Tab W := by
  rw [MakeChecks.laidMetH_plain _ _ _ (by kernel_rfl)] at h
  exact tab_of_reads h (List.mem_cons_of_mem _ (List.mem_cons_self ..))

end Go.Proofs.YtigclegknofhmaaDoor
