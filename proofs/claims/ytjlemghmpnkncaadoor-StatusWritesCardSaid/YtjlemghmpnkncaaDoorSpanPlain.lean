/-
  How many bytes ahead are of a kind, in plain Lean.
-/
import Derived.Test.YtjlemghmpnkncaaDoorTextsPlain
namespace Go.Proofs.YtjlemghmpnkncaaDoor
set_option linter.unusedSimpArgs false

/-- How many bytes ahead are of a kind. -/
def spanN (p : UInt8 → Bool) (l : List UInt8) : Nat := (l.takeWhile p).length

theorem spanN_le (p : UInt8 → Bool) (l : List UInt8) : spanN p l ≤ l.length := (List.takeWhile_prefix p).length_le

/-- The first n bytes of a text are of a kind. -/
def AllTo (p : UInt8 → Bool) (t : ByteArray) (n : Nat) : Prop := ∀ j (h : j < t.size), j < n → p t[j] = true

theorem spanN_list (p : UInt8 → Bool) (l : List UInt8) (n : Nat) (hn : n ≤ l.length) (h : ∀ j (h : j < l.length), j < n → p l[j] = true) (hend : ∀ (hlt : n < l.length), p l[n] = false) : spanN p l = n := by
  induction l generalizing n with
  | nil => simp at hn; subst hn; rfl
  | cons x l ih =>
    cases n with
    | zero =>
      have := hend (by simp)
      simp at this
      simp [spanN, List.takeWhile_cons, this]
    | succ n =>
      have hx : p x = true := h 0 (by simp) (by omega)
      have := ih n (by simpa using hn) (fun j hj hjn => h (j + 1) (by simpa using hj) (by omega)) (fun hlt => hend (by simpa using hlt))
      simp [spanN, List.takeWhile_cons, hx] at this ⊢
      exact this

theorem spanN_of (p : UInt8 → Bool) (t : ByteArray) (n : Nat) (hn : n ≤ t.size) (h : AllTo p t n) (hend : ∀ (hlt : n < t.size), p t[n] = false) : spanN p t.data.toList = n := by
  refine spanN_list p _ n (by rw [← Lib.size_eq]; exact hn) (fun j hj hjn => ?_) fun hlt => ?_
  · exact h j (by rw [Lib.size_eq]; exact hj) hjn
  · exact hend (by rw [Lib.size_eq]; exact hlt)

theorem allTo_step {p : UInt8 → Bool} {t : ByteArray} {n : Nat} (h : AllTo p t n) (hn : n < t.size) (hp : p t[n] = true) : AllTo p t (n + 1) := fun j hj hjn => by
  by_cases e : j = n
  · subst e; exact hp
  · exact h j hj (by omega)

end Go.Proofs.YtjlemghmpnkncaaDoor
