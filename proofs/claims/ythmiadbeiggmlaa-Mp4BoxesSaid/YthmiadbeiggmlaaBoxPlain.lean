/-
  All boxes of any bytes, in plain Lean.
-/
import Derived.Test.YthmiadbeiggmlaaMp4D
namespace Go.Proofs.Ythmiadbeiggmlaa
set_option linter.unusedSimpArgs false
set_option linter.unusedVariables false

def boxF : Nat → ByteArray → List (ByteArray × Nat)
  | 0, _ => []
  | f + 1, t => if wholeX t then (t.extract 4 8, sizeF t) :: boxF f (t.extract (sizeF t) t.size) else []

def endF : Nat → ByteArray → Nat
  | 0, _ => 0
  | f + 1, t => if wholeX t then sizeF t + endF f (t.extract (sizeF t) t.size) else 0

theorem boxF_eq : ∀ (f g : Nat) (t : ByteArray), t.size ≤ f → t.size ≤ g → boxF f t = boxF g t ∧ endF f t = endF g t := by
  intro f
  induction f with
  | zero =>
    intro g t hf hg
    have hw : wholeX t = false := by
      cases h : wholeX t
      · rfl
      · have := (wholeX_parts h).1; omega
    cases g with
    | zero => exact ⟨rfl, rfl⟩
    | succ g => simp [boxF, endF, hw]
  | succ f ih =>
    intro g t hf hg
    cases hw : wholeX t
    · cases g with
      | zero => simp [boxF, endF, hw]
      | succ g => simp [boxF, endF, hw]
    · obtain ⟨h1, h2, h3⟩ := wholeX_parts hw
      cases g with
      | zero => omega
      | succ g =>
        have hz : (t.extract (sizeF t) t.size).size = t.size - sizeF t := by rw [extract_size]; omega
        obtain ⟨e1, e2⟩ := ih g (t.extract (sizeF t) t.size) (by omega) (by omega)
        simp only [boxF, endF, hw, if_true]
        rw [e1, e2]
        exact ⟨rfl, rfl⟩

/-- All boxes that are whole; how many bytes they have. -/
def boxL (t : ByteArray) : List (ByteArray × Nat) := boxF t.size t

def endN (t : ByteArray) : Nat := endF t.size t

theorem box_whole {t : ByteArray} (h : wholeX t = true) : boxL t = (t.extract 4 8, sizeF t) :: boxL (t.extract (sizeF t) t.size) ∧ endN t = sizeF t + endN (t.extract (sizeF t) t.size) := by
  obtain ⟨h1, h2, h3⟩ := wholeX_parts h
  have hz : (t.extract (sizeF t) t.size).size = t.size - sizeF t := by rw [extract_size]; omega
  obtain ⟨f, hf⟩ : ∃ f, t.size = f + 1 := ⟨t.size - 1, by omega⟩
  unfold boxL endN
  obtain ⟨e1, e2⟩ := boxF_eq f (t.extract (sizeF t) t.size).size (t.extract (sizeF t) t.size) (by omega) (Nat.le_refl _)
  rw [← e1, ← e2]
  conv => lhs; lhs; rw [hf]
  conv => rhs; lhs; rw [hf]
  simp only [boxF, endF, h, if_true]
  exact ⟨trivial, trivial⟩

theorem box_none {t : ByteArray} (h : wholeX t = false) : boxL t = [] ∧ endN t = 0 := by
  unfold boxL endN
  cases t.size with
  | zero => exact ⟨rfl, rfl⟩
  | succ n => simp [boxF, endF, h]

end Go.Proofs.Ythmiadbeiggmlaa
