/-
  Rows of texts: what a []string holds; that two are one; whether one of them meets a test.
-/
import Derived.Test.YtigclegknofhmaaQuietIn
import Derived.Deep.DeepCutAuto
import Derived.Deep.Slices
import Derived.Deep.AppendLies
import Derived.Laws.OwnMore
import Derived.Laws.StructEq
namespace Go.Proofs.Ytigclegknofhmaa
open Go.RowKit
set_option linter.unusedSimpArgs false
set_option linter.unusedVariables false

theorem infoStrT : (Try.prog.info? 9).map (fun i => (i.zero, i.size, i.bytes)) = some (some (.string ByteArray.empty), 1, 16) := by kernel_rfl

/-- Texts as values. -/
def rowS (l : List ByteArray) : List Value := l.map Value.string

theorem rowS_length (l : List ByteArray) : (rowS l).length = l.length := by simp [rowS]

theorem rowS_snoc (l : List ByteArray) (x : ByteArray) : rowS (l ++ [x]) = rowS l ++ [.string x] := by simp [rowS]

/-- A row of texts lies from an address on. -/
def StrsIn (w : World) (A : Option Addr) (l : List ByteArray) : Prop :=
  l = [] ∨ ∃ b off, A = some ⟨b, off, none⟩ ∧ b < w.heap.size ∧ ∀ i (h : i < l.length), w.cell? ⟨b, off + i, none⟩ = some (.string l[i])

theorem StrsIn.below {w w' : World} {A : Option Addr} {l : List ByteArray} (h : StrsIn w A l) (hb : Below w.heap.size w w') : StrsIn w' A l := by
  rcases h with h | ⟨b, off, hA, hlt, hc⟩
  · exact .inl h
  · exact .inr ⟨b, off, hA, Nat.lt_of_lt_of_le hlt hb.size, fun i hi => (cell_below hb hlt).trans (hc i hi)⟩

theorem strs_of_own {w : World} {B : Nat} {e : TypeId} {v : Value} {n : Nat} {l : List ByteArray} (h : w.ownsRow B e 1 v n (rowS l)) (hn : n = l.length) : ∃ A c, v = .slice A l.length c ∧ StrsIn w A l := by
  subst hn
  rcases h.2 with ⟨rfl, h0⟩ | ⟨g, cap, cur, rfl, hB, hg, _⟩
  · have : l = [] := List.eq_nil_of_length_eq_zero h0
    subst this
    exact ⟨none, 0, rfl, .inl rfl⟩
  · refine ⟨_, _, rfl, .inr ⟨g, 0, rfl, ?_, fun i hi => ?_⟩⟩
    · rcases Nat.lt_or_ge g w.heap.size with hlt | hge
      · exact hlt
      · rw [Array.getElem?_eq_none hge] at hg; cases hg
    · rw [Nat.zero_add, h.cellAt i (by omega)]
      simp [rowS, hi]

/-- What comes is a row of texts. -/
def GivesStrs (l : List ByteArray) (w : World) (e : Ending) (w' : World) : Prop :=
  ∃ A c, e = .returned (.slice A l.length c) ∧ StrsIn w' A l ∧ Below w.heap.size w w'

/-- A function value of the program that tests a text. -/
def FnStr (K : FuncId) (p : ByteArray → Bool) : Prop :=
  (∀ (args : Array Value) (w : World), (callFunc K args).run Try.prog w = .ok (.enter K args) w) ∧
    ∀ (x : ByteArray) (w : World), Calls Try.prog K #[.string x] w fun e w' => e = .returned (.bool (p x)) ∧ w = w'

theorem any_take (p : ByteArray → Bool) (l : List ByteArray) (n : Nat) (hn : n < l.length) : (l.take (n + 1)).any p = ((l.take n).any p || p l[n]) := by
  rw [List.take_succ_eq_append_getElem hn, List.any_append]
  simp

def IndexPost (p : ByteArray → Bool) (l : List ByteArray) (w : World) (e : Ending) (w' : World) : Prop := ∃ n : Int, e = .returned (.int .i64 n) ∧ decide (0 ≤ n) = l.any p ∧ w = w'

end Go.Proofs.Ytigclegknofhmaa
