/-
  Walks of the reference of package ranges: cut, unit, num, Parse.
-/
import Derived.Test.YtjlemghmpnkncaaDoorRangA
import Derived.Test.YtjlemghmpnkncaaDoorRangLaw
import Derived.Test.YtjlemghmpnkncaaDoorClassC
import Derived.Deep.DeepCutAuto
namespace Go.Proofs.YtjlemghmpnkncaaDoor
open Go.RowKit
set_option linter.unusedSimpArgs false
set_option linter.unusedVariables false

theorem bl_drop (n : Nat) (l : List UInt8) : (bl l).extract n (bl l).size = bl (l.drop n) := by
  apply bytes_ext
  rw [Lib.extract_data, bl_list, bl_list, bl_size, List.take_of_length_le]
  rw [List.length_drop]
  exact Nat.le_refl _

theorem bl_take (n : Nat) (l : List UInt8) : (bl l).extract 0 n = bl (l.take n) := by
  apply bytes_ext
  rw [Lib.extract_data, bl_list, bl_list]
  rfl

theorem bl_cons_size (x : UInt8) (l : List UInt8) : 0 < (bl (x :: l)).size := by rw [bl_size]; simp

theorem bl_head (x : UInt8) (l : List UInt8) (w : World) : (Instr.index 9 (.string (bl (x :: l))) (.int .i64 0)).run Tryd.prog w = .ok (.int .u8 (x.toNat : Int)) w :=
  index_zero 9 Tryd.underlying9 (bl (x :: l)) (bl_cons_size x l) w

theorem bl_of {s : ByteArray} {l : List UInt8} (h : s.data.toList = l) : s = bl l := bytes_ext (by rw [bl_list, h])

theorem lst_head (t : ByteArray) (h : 0 < t.size) : t.data.toList = t[0] :: (t.extract 1 t.size).data.toList := by
  have e : (t.extract 1 t.size).data.toList = t.data.toList.drop 1 := lef_rest t 1
  rw [e]
  conv => lhs; rw [← List.drop_zero (l := t.data.toList)]
  rw [List.drop_eq_getElem_cons (by rw [← Lib.size_eq]; exact h)]
  rfl

theorem lst_drop (t : ByteArray) (h : 0 < t.size) (p : UInt8 → Bool) (hp : p t[0] = true) : (t.extract 1 t.size).data.toList.dropWhile p = t.data.toList.dropWhile p := by
  rw [lst_head t h, List.dropWhile_cons, if_pos hp]

theorem lst_stay (t : ByteArray) (h : 0 < t.size) (p : UInt8 → Bool) (hp : p t[0] = false) : t.data.toList.dropWhile p = t.data.toList := by
  conv => lhs; rw [lst_head t h, List.dropWhile_cons, if_neg (by rw [hp]; simp)]
  exact (lst_head t h).symm

/-- A number of no digits or of some; whether it is not too great. -/
def numOk (l : List UInt8) : Bool := decide (l = [] ∨ valL l ≤ mostN)

/-- What the reference's unit says. -/
def unitV (l : List UInt8) : Value :=
  if unitOk (l.dropWhile isTab) = true then .tuple #[.string (bl ((l.dropWhile isTab).dropWhile isLetter)), .bool true] else .tuple #[.string ⟨#[]⟩, .bool false]

theorem lowerB_bl (l : List UInt8) : (lowerB (bl l)).toList = lowerL l := by
  rw [Lib.toList_data]
  unfold lowerB
  simp [bl]

theorem unitV_eq (l : List UInt8) : unitV l = if runitOk (l.dropWhile isTab) = true then .tuple #[.string (bl ((l.dropWhile isTab).drop 5)), .bool true] else .tuple #[.string ⟨#[]⟩, .bool false] := by
  unfold unitV
  rw [unit_plain]
  by_cases h : runitOk (l.dropWhile isTab) = true
  · rw [if_pos h, if_pos h, unit_drop h]
  · rw [if_neg h, if_neg h]

end Go.Proofs.YtjlemghmpnkncaaDoor
