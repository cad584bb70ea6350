/-
  Rows of texts: what a []string holds; that two are one; whether one of them meets a test.
-/
import Derived.Test.YtigclegknofhmaaDoorQuietIn
import Derived.Deep.DeepCutAuto
import Derived.Deep.Slices
import Derived.Deep.AppendLies
import Derived.Laws.OwnMore
import Derived.Laws.StructEq
namespace Go.Proofs.YtigclegknofhmaaDoor
open Go.RowKit
set_option linter.unusedSimpArgs false
set_option linter.unusedVariables false

theorem infoStrT : (Tryd.prog.info? 9).map (fun i => (i.zero, i.size, i.bytes)) = some (some (.string ByteArray.empty), 1, 16) := by kernel_rfl

/-- Texts as values. -/
def rowS (l : List ByteArray) : List Value := l.map Value.string

theorem rowS_length (l : List ByteArray) : (rowS l).length = l.length := by simp [rowS]

theorem rowS_snoc (l : List ByteArray) (x : ByteArray) : rowS (l ++ [x]) = rowS l ++ [.string x] := by simp [rowS]

/-- A row of texts lies from an address on. -/
def StrsIn (w : World) (A : Option Addr) (l : List ByteArray) : Prop :=
  l = [] ∨ ∃ b off, A = some ⟨b, off, none⟩ ∧ b < w.heap.size ∧ ∀ i (h : i < l.length), w.cell? ⟨b, off + i, none⟩ = some (.string l[i])

theorem StrsIn.below {w w' : World} {A : Option Addr} {l : List ByteArray} (h : StrsIn w A l) (hb : Below w.heap.size w w') : StrsIn w' A l := by
  rcases h with h | ⟨b, off, hA, hlt, hc⟩
  · exact .inl h
  · exact .inr ⟨b, off, hA, Nat.lt_of_lt_of_le hlt hb.size, fun i hi => (cell_below hb hlt).trans (hc i hi)⟩

theorem strs_of_own {w : World} {B : Nat} {e : TypeId} {v : Value} {n : Nat} {l : List ByteArray} (h : w.ownsRow B e 1 v n (rowS l)) (hn : n = l.length) : ∃ A c, v = .slice A l.length c ∧ StrsIn w A l := by
  subst hn
  rcases h.2 with ⟨rfl, h0⟩ | ⟨g, cap, cur, rfl, hB, hg, _⟩
  · have : l = [] := List.eq_nil_of_length_eq_zero h0
    subst this
    exact ⟨none, 0, rfl, .inl rfl⟩
  · refine ⟨_, _, rfl, .inr ⟨g, 0, rfl, ?_, fun i hi => ?_⟩⟩
    · rcases Nat.lt_or_ge g w.heap.size with hlt | hge
      · exact hlt
      · rw [Array.getElem?_eq_none hge] at hg; cases hg
    · rw [Nat.zero_add, h.cellAt i (by omega)]
      simp [rowS, hi]

/-- What comes is a row of texts. -/
def GivesStrs (l : List ByteArray) (w : World) (e : Ending) (w' : World) : Prop :=
  ∃ A c, e = .returned (.slice A l.length c) ∧ StrsIn w' A l ∧ Below w.heap.size w w'

theorem rSame_strs (l : List ByteArray) (A A2 : Option Addr) (c c2 : Nat) (w : World) (hn : l.length ≤ maxLen) (hA : StrsIn w A l) (hA2 : StrsIn w A2 l) :
    Calls Tryd.prog 38 #[.slice A l.length c, .slice A2 l.length c2] w fun e w' => e = .returned (.bool true) ∧ Below w.heap.size w w' := by
  unfold maxLen at hn
  have HA := Lib.hid hA; clear hA
  have HA2 := Lib.hid hA2; clear hA2
  go_enter Tryd.func38, Tryd.ntmps38
  go_wp2_with fail
  go_loopw [5] (fun i wr => ∃ n : Nat, n ≤ l.length ∧ i = .int .i64 n ∧ Below w.heap.size w wr) (fun i _ => l.length - (intOf i).toNat)
  case atStart => exact ⟨0, Nat.zero_le _, rfl, Below.refl _ _⟩
  case round =>
    obtain ⟨n, hn', rfl, hb⟩ := hrel
    by_cases hlt : n < l.length
    · have hz := hb.size
      rcases HA.out.below hb with hnil | ⟨g, off, rfl, hg, hcs⟩
      · rw [hnil] at hlt; simp at hlt
      rcases HA2.out.below hb with hnil | ⟨g2, off2, rfl, hg2, hcs2⟩
      · rw [hnil] at hlt; simp at hlt
      have c0 := hcs n hlt
      have d0 := hcs2 n hlt
      have HB := Lib.hid hb
      have i0 : (0 : Int) ≤ (n : Int) := by omega
      have i1 : (n : Int) < (l.length : Int) := by omega
      clear hcs hcs2 hb
      generalize l[n] = x at *
      go_upto_region 6 with fail
      go_cut [25] (fun s25 wx => s25 = .bool false ∧ Below wr.heap.size wr wx)
      case first =>
        have hx := @InB.cells wr
        refine wp_region_inb (by kernel_rfl) (by kernel_rfl) ?_; (repeat (first | go_big_quiet_skip | (go_big_quiet_want; go_big_quiet_op; first | go_big_quiet_on | (apply Exists.intro; refine ⟨fun x => ?_, ?_⟩; (· (fail)); go_big_quiet_on)))); refine wpQuiet_nil ?_; intro _ hw'; obtain ⟨⟨wq, hbq⟩, rfl⟩ := hw'
        go_wp2_with fail
        go_meet
        exact ⟨rfl, hbq⟩
      obtain ⟨rfl, hb2⟩ := hcut
      obtain ⟨W3, rfl⟩ : ∃ W3 : World, W3 = wc := ⟨_, rfl⟩
      have HB2 := Lib.hid hb2
      clear hb2 c0 d0
      go_wp2_with fail
      go_roundw
      case rel => exact ⟨n + 1, by omega, by go_num, HB.out.trans (HB2.out.mono HB.out.size)⟩
      case measure => simp [intOf]; omega
    · obtain rfl : n = l.length := by omega
      have HB := Lib.hid hb; clear hb
      go_wp2_with fail
      go_ret
      exact ⟨rfl, HB.out⟩

/-- A function value of the program that tests a text. -/
def FnStr (K : FuncId) (p : ByteArray → Bool) : Prop :=
  (∀ (args : Array Value) (w : World), (callFunc K args).run Tryd.prog w = .ok (.enter K args) w) ∧
    ∀ (x : ByteArray) (w : World), Calls Tryd.prog K #[.string x] w fun e w' => e = .returned (.bool (p x)) ∧ w = w'

theorem any_take (p : ByteArray → Bool) (l : List ByteArray) (n : Nat) (hn : n < l.length) : (l.take (n + 1)).any p = ((l.take n).any p || p l[n]) := by
  rw [List.take_succ_eq_append_getElem hn, List.any_append]
  simp

def IndexPost (p : ByteArray → Bool) (l : List ByteArray) (w : World) (e : Ending) (w' : World) : Prop := ∃ n : Int, e = .returned (.int .i64 n) ∧ decide (0 ≤ n) = l.any p ∧ w = w'

end Go.Proofs.YtigclegknofhmaaDoor
