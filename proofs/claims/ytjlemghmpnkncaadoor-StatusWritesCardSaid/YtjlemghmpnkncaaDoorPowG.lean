/-
  The library's table of powers of ten, out of the laid variables.
-/
import Derived.Test.YtjlemghmpnkncaaDoorBase
import Derived.Test.YtjlemghmpnkncaaDoorRows
import Derived.Lib.AppendIntMem
import Derived.Lib.LaidU8
import Derived.LaidMore
import Derived.SevenTiedAt
namespace Go.Proofs.YtjlemghmpnkncaaDoor
open Go.RowKit
set_option linter.unusedSimpArgs false
set_option linter.unusedVariables false

theorem pow_var : Tryd.prog.globalNamed "internal/strconv.uint64pow10" = some 2 := by kernel_rfl

theorem pow_type : (Tryd.prog.globals[2]?).map (·.type) = some 131 := by kernel_rfl

theorem pow_data : (Rows.laid_internal_strconv_uint64pow10 : DataW Unit) = Lib.tabData .u64 Lib.pow10Tab := by kernel_rfl

theorem pow_of_reads {W : World} {l : List (String × DataW Unit)} (h : laidMet Tryd.prog l W) (hm : ("internal/strconv.uint64pow10", Rows.laid_internal_strconv_uint64pow10) ∈ l) : Lib.TabIs Tryd.prog W "internal/strconv.uint64pow10" .u64 Lib.pow10Tab := by
  obtain ⟨g, t, cs, fuel, p, hg, ht, hv, hd⟩ := Lib.laidMet.reads h hm
  obtain rfl := Option.some.inj (pow_var.symm.trans hg)
  obtain rfl := Option.some.inj (pow_type.symm.trans ht)
  rw [pow_data] at hd
  have hc := Lib.cells_of_tab Tryd.underlying131 Tryd.underlying81 (by kernel_rfl) (by kernel_rfl) hd
  unfold Lib.TabIs
  rw [hv, ← hc]

theorem pow_lt {w : World} (h : Lib.TabIs Tryd.prog w "internal/strconv.uint64pow10" .u64 Lib.pow10Tab) : 2 < w.heap.size := by
  have hc := World.var?_cell pow_var h 0
  rw [Array.getElem?_eq_getElem (by simp [Lib.pow10Tab])] at hc
  exact lt_of_cell hc

theorem pow_on {w w' : World} (h : Lib.TabIs Tryd.prog w "internal/strconv.uint64pow10" .u64 Lib.pow10Tab) (hb : Below w.heap.size w w') : Lib.TabIs Tryd.prog w' "internal/strconv.uint64pow10" .u64 Lib.pow10Tab :=
  var?_below hb pow_var (pow_lt h) h

end Go.Proofs.YtjlemghmpnkncaaDoor
