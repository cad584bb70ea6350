/-
  Gathered by wip/tools/gather.py: what the statements of this seat want of other texts.
-/
import Derived.Test.YtjlemghmpnkncaaDoorStatA
import Derived.Test.YtjlemghmpnkncaaDoorShelf
import Derived.Test.YtjlemghmpnkncaaDoorQuietIn
import Derived.Lib.LaidU8
import Derived.LaidMore
import Derived.SevenTiedAt
namespace Go.Proofs.YtjlemghmpnkncaaDoor
open Go.RowKit
set_option linter.unusedSimpArgs false
set_option linter.unusedVariables false

/-- The library's table of white space. -/
def Tab (w : World) : Prop := Lib.TabIs Tryd.prog w "strings.asciiSpace" .u8 Lib.asciiSpaceTab

theorem tab_var : Tryd.prog.globalNamed "strings.asciiSpace" = some 0 := by kernel_rfl

theorem Tab.lt {w : World} (h : Tab w) : 0 < w.heap.size := by
  have hc := World.var?_cell tab_var h 0
  rw [Array.getElem?_eq_getElem (by simp [Lib.asciiSpaceTab])] at hc
  exact lt_of_cell hc

theorem Tab.on {w w' : World} (h : Tab w) (hb : Below w.heap.size w w') : Tab w' :=
  var?_below hb tab_var h.lt h

/-- A text of bytes below 128, which is not long. -/
def Asc (s : ByteArray) : Prop := s.size < 1000 ∧ ∀ (j : Nat) b, s.data.toList[j]? = some b → b.toNat < 128

theorem fields_len (s : ByteArray) : (Lib.fields s.data.toList).length ≤ s.size := by
  have h1 : ∀ (l cur : List UInt8), (Lib.fieldsGo cur l).length ≤ l.length + (if cur.isEmpty then 0 else 1) := by
    intro l
    induction l with
    | nil => intro cur; cases cur <;> simp [Lib.fieldsGo]
    | cons b r ih =>
      intro cur
      unfold Lib.fieldsGo
      split
      · split
        · have := ih []
          simp at this
          simp; omega
        · have := ih []
          simp at this
          simp; omega
      · have := ih (cur ++ [b])
        simp at this
        simp
        split <;> omega
  have := h1 s.data.toList []
  simp only [Lib.fields, List.isEmpty_nil, if_true] at this ⊢
  rw [Lib.size_eq]; omega

theorem tab_type : (Tryd.prog.globals[0]?).map (·.type) = some 66 := by kernel_rfl

theorem tab_data : (Rows.laid_strings_asciiSpace : DataW Unit) = Lib.tabData .u8 Lib.asciiSpaceTab := by kernel_rfl

theorem tab_of_reads {W : World} {l : List (String × DataW Unit)} (h : laidMet Tryd.prog l W) (hm : ("strings.asciiSpace", Rows.laid_strings_asciiSpace) ∈ l) : Tab W := by
  obtain ⟨g, t, cs, fuel, p, hg, ht, hv, hd⟩ := Lib.laidMet.reads h hm
  obtain rfl := Option.some.inj (tab_var.symm.trans hg)
  obtain rfl := Option.some.inj (tab_type.symm.trans ht)
  rw [tab_data] at hd
  have hc := Lib.cells_of_tab Tryd.underlying66 Tryd.underlying5 (by kernel_rfl) (by kernel_rfl) hd
  unfold Tab Lib.TabIs
  rw [hv, ← hc]

end Go.Proofs.YtjlemghmpnkncaaDoor
