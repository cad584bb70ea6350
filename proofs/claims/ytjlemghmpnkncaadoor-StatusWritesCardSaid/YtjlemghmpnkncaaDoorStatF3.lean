/-
  The walk of the reference of package status: Line.
-/
import Derived.Test.YtjlemghmpnkncaaDoorStatR2
import Derived.BigRegion
import Derived.Deep.CutBlock
import Derived.Deep.DeepCutAuto
import Derived.StillTailTactics
import Derived.Test.YtjlemghmpnkncaaDoorTailIn
namespace Go.Proofs.YtjlemghmpnkncaaDoor
open Go.RowKit
set_option linter.unusedSimpArgs false
set_option linter.unusedVariables false

/-- What the reference says of the list of a line's bytes, trimmed at its end. -/
def refS (S : List UInt8) (a b : Int) : Option (Int × Int × Int × List UInt8) :=
  if runL S < 3 then none else if S.getD 0 0 = 48 then none
  else if S.drop 3 ≠ [] ∧ (S.drop 3).getD 0 0 ≠ 32 then none
  else if quoL ((S.drop 3).dropWhile isTab) = false then none
  else some (a, b, (100 : Int) * (((S.getD 0 0).toNat : Int) - 48) + (10 : Int) * (((S.getD 1 0).toNat : Int) - 48) + (((S.getD 2 0).toNat : Int) - 48), (S.drop 3).dropWhile isTab)

def headOk (T : ByteArray) : Bool :=
  prefB T headT && decide (12 ≤ T.size) && isDigit (T.data.toList.getD 5 0) && (T.data.toList.getD 6 0 == 46) && isDigit (T.data.toList.getD 7 0) && (T.data.toList.getD 8 0 == 32)

def refR (T : ByteArray) : Option (Int × Int × Int × List UInt8) :=
  if headOk T = true then refS ((T.data.toList.drop 8).dropWhile (fun b => b == 32)) (((T.data.toList.getD 5 0).toNat : Int) - 48) (((T.data.toList.getD 7 0).toNat : Int) - 48) else none

/-- What the reference's Line says. -/
def refV (T : ByteArray) : Value :=
  match refR T with
  | none => .tuple #[statV 0 0 0 ⟨#[]⟩, .int .i64 2]
  | some (a, b, c, r) => .tuple #[statV a b c ⟨r.toArray⟩, .int .i64 0]

theorem refV_off {T : ByteArray} (h : headOk T = false) : refV T = .tuple #[statV 0 0 0 ⟨#[]⟩, .int .i64 2] := by
  unfold refV refR
  rw [if_neg (by rw [h]; simp)]

theorem getD_byte (s : ByteArray) (k : Nat) (h : k < s.size) : s.data.toList.getD k 0 = s[k] := by
  unfold List.getD
  rw [List.getElem?_eq_getElem (by rw [← Lib.size_eq]; exact h)]
  rfl

theorem digit_bounds {b : UInt8} (h : isDigit b = true) : 48 ≤ b.toNat ∧ b.toNat ≤ 57 := by
  rw [isDigit_eq] at h
  simpa using h

theorem list_head (t : ByteArray) (h : 0 < t.size) : t.data.toList = t[0] :: (t.extract 1 t.size).data.toList := by
  rw [rest_list]
  conv => lhs; rw [← List.drop_zero (l := t.data.toList)]
  rw [List.drop_eq_getElem_cons (by rw [← Lib.size_eq]; exact h)]
  rfl

theorem drop_head (t : ByteArray) (h : 0 < t.size) (p : UInt8 → Bool) (hp : p t[0] = true) : (t.extract 1 t.size).data.toList.dropWhile p = t.data.toList.dropWhile p := by
  rw [list_head t h, List.dropWhile_cons, if_pos hp]

theorem drop_stay (t : ByteArray) (h : 0 < t.size) (p : UInt8 → Bool) (hp : p t[0] = false) : t.data.toList.dropWhile p = t.data.toList := by
  conv => lhs; rw [list_head t h, List.dropWhile_cons, if_neg (by rw [hp]; simp)]
  exact (list_head t h).symm

theorem run_digit (t : ByteArray) (k : Nat) (h : k < t.size) (hr : k < runL t.data.toList) : isDigit t[k] = true := by
  have ha := take_all_digits t.data.toList
  rw [List.all_eq_true] at ha
  apply ha
  rw [List.mem_iff_getElem?]
  refine ⟨k, ?_⟩
  rw [List.getElem?_take, if_pos hr, List.getElem?_eq_getElem (by rw [← Lib.size_eq]; exact h)]
  rfl

def TwoBox (w cur : World) (a b c : Int) (r : ByteArray) : Prop := Below w.heap.size w cur ∧ cur.heap[w.heap.size]? = some (statO 0 0 0 ⟨#[]⟩) ∧ cur.heap[w.heap.size + 1]? = some (statO 0 0 0 ⟨#[]⟩)

end Go.Proofs.YtjlemghmpnkncaaDoor
