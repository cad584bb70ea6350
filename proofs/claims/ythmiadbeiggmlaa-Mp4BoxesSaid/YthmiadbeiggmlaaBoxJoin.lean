/-
  Boxes that are laid one behind the other, in plain Lean.
-/
import Derived.Test.YthmiadbeiggmlaaMp4F
import Derived.Test.YthmiadbeiggmlaaClassB
namespace Go.Proofs.Ythmiadbeiggmlaa
set_option linter.unusedSimpArgs false
set_option linter.unusedVariables false

theorem extract_head (h t : ByteArray) (i j : Nat) (hj : j ≤ h.size) : (h ++ t).extract i j = h.extract i j := by
  apply ByteArray.ext
  rw [ByteArray.data_extract, ByteArray.data_append, ByteArray.data_extract]
  apply Array.ext'
  rw [Array.toList_extract, Array.toList_append, Array.toList_extract]
  simp only [List.extract_eq_take_drop]
  rw [Lib.size_eq] at hj
  by_cases hi : i ≤ j
  · rw [List.drop_append_of_le_length (by omega), List.take_append_of_le_length (by rw [List.length_drop]; omega)]
  · rw [show j - i = 0 by omega, List.take_zero, List.take_zero]

theorem extract_tail (h t : ByteArray) : (h ++ t).extract h.size (h ++ t).size = t := by
  apply ByteArray.ext
  rw [ByteArray.data_extract, ByteArray.data_append, ByteArray.size_append]
  apply Array.ext'
  simp
  rw [List.drop_eq_nil_of_le (by rw [← Lib.size_eq]; exact Nat.le_refl _), List.take_nil, List.nil_append, List.take_of_length_le (by rw [← Lib.size_eq]; exact Nat.le_refl _)]

theorem boxB_size (nm body : ByteArray) : (boxB nm body).size = 4 + nm.size + body.size := by
  unfold boxB
  rw [ByteArray.size_append, ByteArray.size_append]; rfl

theorem boxB_whole (nm body t : ByteArray) (hn : nm.size = 4) (hb : body.size ≤ 60) :
    boxL (boxB nm body ++ t) = ((boxB nm body ++ t).extract 4 8, 8 + body.size) :: boxL t ∧ endN (boxB nm body ++ t) = 8 + body.size + endN t := by
  have hs := boxB_size nm body
  have hz : sizeF (boxB nm body ++ t) = 8 + body.size := by
    unfold sizeF
    rw [extract_head _ _ _ _ (by omega)]
    unfold boxB
    rw [ByteArray.append_assoc, extract_head _ _ _ _ (by show 4 ≤ 4; omega)]
    have e : (⟨#[0, 0, UInt8.ofNat ((8 + body.size) / 256), UInt8.ofNat (8 + body.size)]⟩ : ByteArray).extract 0 4 = ⟨#[0, 0, UInt8.ofNat ((8 + body.size) / 256), UInt8.ofNat (8 + body.size)]⟩ := rfl
    rw [e]
    simp only [bigN, List.foldl_cons, List.foldl_nil, UInt8.toNat_ofNat']
    have z0 : (0 : UInt8).toNat = 0 := rfl
    rw [z0]
    omega
  have hw : wholeX (boxB nm body ++ t) = true := by
    unfold wholeX
    rw [hz, ByteArray.size_append, decide_eq_true (by omega), decide_eq_true (by omega), decide_eq_true (by omega)]
    rfl
  obtain ⟨e1, e2⟩ := box_whole hw
  have hzz : 8 + body.size = (boxB nm body).size := by omega
  rw [hz] at e1 e2
  rw [show (boxB nm body ++ t).extract (8 + body.size) (boxB nm body ++ t).size = t from by rw [hzz]; exact extract_tail _ _] at e1 e2
  exact ⟨e1, e2⟩

/-- Two texts. -/
structure Duo where
  a : ByteArray
  b : ByteArray

instance : Inhabited Duo := ⟨⟨⟨#[]⟩, ⟨#[]⟩⟩⟩

def four : ByteArray := ⟨#[32, 32, 32, 32]⟩

def duoB (p : Duo) : ByteArray := boxB (cutB (p.a ++ four) 4) (cutB p.b 60)

/-- All boxes, one behind the other. -/
def joinB : List Duo → ByteArray
  | [] => ⟨#[]⟩
  | t :: l => duoB t ++ joinB l

theorem joinB_append (a b : List Duo) : joinB (a ++ b) = joinB a ++ joinB b := by
  induction a with
  | nil => exact (ByteArray.empty_append (b := joinB b)).symm
  | cons t l ih => simp only [List.cons_append, joinB, ih, ByteArray.append_assoc]

theorem joinB_take (l : List Duo) (k : Nat) (hk : k < l.length) : joinB (l.take (k + 1)) = joinB (l.take k) ++ duoB l[k] := by
  rw [List.take_succ_eq_append_getElem hk, joinB_append]
  simp only [joinB]
  rw [show duoB l[k] ++ (⟨#[]⟩ : ByteArray) = duoB l[k] from ByteArray.append_empty]

theorem name_size (p : Duo) : (cutB (p.a ++ four) 4).size = 4 := by
  rw [cutB_size, ByteArray.size_append, show four.size = 4 from rfl]
  omega

theorem duoB_size (p : Duo) : (duoB p).size = 8 + (cutB p.b 60).size ∧ (duoB p).size ≤ 68 := by
  have h1 := name_size p
  have h2 := cutB_size p.b 60
  have h3 := boxB_size (cutB (p.a ++ four) 4) (cutB p.b 60)
  unfold duoB
  omega

theorem joinB_size (l : List Duo) : (joinB l).size ≤ 68 * l.length := by
  induction l with
  | nil => exact Nat.le_refl 0
  | cons x l ih =>
    simp only [joinB, List.length_cons]
    rw [ByteArray.size_append]
    have := (duoB_size x).2
    omega

theorem boxL_nil : boxL ⟨#[]⟩ = [] ∧ endN ⟨#[]⟩ = 0 := ⟨rfl, rfl⟩

theorem joinB_boxes (l : List Duo) : (boxL (joinB l)).length = l.length ∧ endN (joinB l) = (joinB l).size := by
  induction l with
  | nil => exact ⟨rfl, rfl⟩
  | cons x l ih =>
    simp only [joinB, List.length_cons]
    have h2 := cutB_size x.b 60
    obtain ⟨e1, e2⟩ := boxB_whole (cutB (x.a ++ four) 4) (cutB x.b 60) (joinB l) (name_size x) (by omega)
    have hz := (duoB_size x).1
    unfold duoB at hz ⊢
    rw [e1, e2, List.length_cons, ih.1, ih.2, ByteArray.size_append]
    exact ⟨rfl, by omega⟩

theorem boxF_length : ∀ (f : Nat) (t : ByteArray), (boxF f t).length ≤ t.size := by
  intro f
  induction f with
  | zero => intro t; simp [boxF]
  | succ f ih =>
    intro t
    cases hw : wholeX t
    · simp [boxF, hw]
    · obtain ⟨h1, h2, h3⟩ := wholeX_parts hw
      simp only [boxF, hw, if_true, List.length_cons]
      have := ih (t.extract (sizeF t) t.size)
      have hz : (t.extract (sizeF t) t.size).size = t.size - sizeF t := by rw [extract_size]; omega
      omega

theorem boxL_length (t : ByteArray) : (boxL t).length ≤ t.size := boxF_length _ _

end Go.Proofs.Ythmiadbeiggmlaa
