/-
  Gathered by wip/tools/gather.py: what the statements of this seat want of other texts.
-/
import Derived.Test.YtjlemghmpnkncaaRangT
import Derived.Test.YtjlemghmpnkncaaRangG
import Derived.Deep.DeepCutAuto
import Derived.Deep.Slices
import Derived.Deep.AppendLies
import Derived.Laws.OwnMore
import Derived.Laws.StructEq
import Derived.Deep.RegionWith
import Derived.Deep.RegionHeld3
import Derived.Deep.Onto
import Derived.Lib.SmallJoins
namespace Go.Proofs.Ytjlemghmpnkncaa
open Go.RowKit
set_option linter.unusedSimpArgs false
set_option linter.unusedVariables false

theorem infoStrT : (Try.prog.info? 9).map (fun i => (i.zero, i.size, i.bytes)) = some (some (.string ByteArray.empty), 1, 16) := by kernel_rfl

/-- Texts as values. -/
def rowS (l : List ByteArray) : List Value := l.map Value.string

theorem rowS_snoc (l : List ByteArray) (x : ByteArray) : rowS (l ++ [x]) = rowS l ++ [.string x] := by simp [rowS]

/-- A row of texts lies from an address on. -/
def StrsIn (w : World) (A : Option Addr) (l : List ByteArray) : Prop :=
  l = [] ∨ ∃ b off, A = some ⟨b, off, none⟩ ∧ b < w.heap.size ∧ ∀ i (h : i < l.length), w.cell? ⟨b, off + i, none⟩ = some (.string l[i])

theorem StrsIn.below {w w' : World} {A : Option Addr} {l : List ByteArray} (h : StrsIn w A l) (hb : Below w.heap.size w w') : StrsIn w' A l := by
  rcases h with h | ⟨b, off, hA, hlt, hc⟩
  · exact .inl h
  · exact .inr ⟨b, off, hA, Nat.lt_of_lt_of_le hlt hb.size, fun i hi => (cell_below hb hlt).trans (hc i hi)⟩

theorem strs_of_own {w : World} {B : Nat} {e : TypeId} {v : Value} {n : Nat} {l : List ByteArray} (h : w.ownsRow B e 1 v n (rowS l)) (hn : n = l.length) : ∃ A c, v = .slice A l.length c ∧ StrsIn w A l := by
  subst hn
  rcases h.2 with ⟨rfl, h0⟩ | ⟨g, cap, cur, rfl, hB, hg, _⟩
  · have : l = [] := List.eq_nil_of_length_eq_zero h0
    subst this
    exact ⟨none, 0, rfl, .inl rfl⟩
  · refine ⟨_, _, rfl, .inr ⟨g, 0, rfl, ?_, fun i hi => ?_⟩⟩
    · rcases Nat.lt_or_ge g w.heap.size with hlt | hge
      · exact hlt
      · rw [Array.getElem?_eq_none hge] at hg; cases hg
    · rw [Nat.zero_add, h.cellAt i (by omega)]
      simp [rowS, hi]

theorem row_stands {w w' : World} {base : Nat} {e : TypeId} {z n : Nat} {r : Value} {xs : List Value} (h : w.ownsRow base e z r n xs) (hk : ∀ k, r.ownBlock = some k → k < w.heap.size → w'.heap[k]? = w.heap[k]?) : w'.ownsRow base e z r n xs := by
  obtain ⟨q1, q2⟩ := h
  refine ⟨q1, ?_⟩
  rcases q2 with q2 | ⟨g', cap', cur, q2, q3, q4, q5⟩
  · exact .inl q2
  · subst q2
    exact .inr ⟨g', cap', cur, rfl, q3, (hk g' rfl (Array.getElem?_eq_some_iff.1 q4).1).trans q4, q5⟩

/-- Bytes as a text. -/
def bt (l : List UInt8) : ByteArray := ⟨l.toArray⟩

theorem list_bt (s : ByteArray) : bt s.data.toList = s := rfl

theorem bt_size (l : List UInt8) : (bt l).size = l.length := rfl

abbrev Pars := List (List UInt8 × List UInt8)

/-- Parameters lie from a block's head on. -/
def ParsAt (w : World) (B : Nat) (A : Option Addr) (l : Pars) : Prop :=
  l = [] ∨ ∃ g, A = some ⟨g, 0, none⟩ ∧ g < B ∧ ∀ i (h : i < l.length), w.cell? ⟨g, i * 2, none⟩ = some (.string (bt l[i].1)) ∧ w.cell? ⟨g, i * 2 + 1, none⟩ = some (.string (bt l[i].2))

theorem ParsAt.below {w w' : World} {B : Nat} {A : Option Addr} {l : Pars} (h : ParsAt w B A l) (hb : Below B w w') : ParsAt w' B A l := by
  rcases h with h | ⟨g, hA, hg, hc⟩
  · exact .inl h
  · refine .inr ⟨g, hA, hg, fun i hi => ?_⟩
    obtain ⟨h1, h2⟩ := hc i hi
    exact ⟨by rw [cell_below hb hg]; exact h1, by rw [cell_below hb hg]; exact h2⟩

theorem ParsAt.more {w : World} {B B' : Nat} {A : Option Addr} {l : Pars} (h : ParsAt w B A l) (hB : B ≤ B') : ParsAt w B' A l := by
  rcases h with h | ⟨g, hA, hg, hc⟩
  · exact .inl h
  · exact .inr ⟨g, hA, by omega, hc⟩

/-- Parameters that are there, whatever has been made since. -/
theorem ParsAt.on {w w' : World} {A : Option Addr} {l : Pars} (h : ParsAt w w.heap.size A l) (hb : Below w.heap.size w w') : ParsAt w' w'.heap.size A l :=
  (h.below hb).more hb.size

def parCells (p : List UInt8 × List UInt8) : List Value := [.string (bt p.1), .string (bt p.2)]

def rowQ (l : Pars) : List Value := l.flatMap parCells

theorem rowQ_snoc (l : Pars) (p : List UInt8 × List UInt8) : rowQ (l ++ [p]) = rowQ l ++ parCells p := by simp [rowQ]

theorem rowQ_at (l : Pars) (i : Nat) (hi : i < l.length) (j : Nat) (hj : j < 2) : (rowQ l)[i * 2 + j]? = (parCells l[i])[j]? := by
  induction l generalizing i with
  | nil => simp at hi
  | cons p r ih =>
    have hl : (parCells p).length = 2 := rfl
    cases i with
    | zero =>
      simp only [rowQ, List.flatMap_cons, Nat.zero_mul, Nat.zero_add, List.getElem_cons_zero]
      rw [List.getElem?_append_left (by omega)]
    | succ i =>
      simp only [rowQ, List.flatMap_cons, List.getElem_cons_succ]
      rw [List.getElem?_append_right (by omega), hl, show (i + 1) * 2 + j - 2 = i * 2 + j by omega]
      exact ih i (by simpa using hi)

theorem pars_of_own {w : World} {base : Nat} {e : TypeId} {v : Value} {l : Pars} {n : Nat} (h : w.ownsRow base e 2 v n (rowQ l)) (hn : n = l.length) : ∃ A c, v = .slice A l.length c ∧ ParsAt w w.heap.size A l := by
  subst hn
  have h' := h.2
  rcases h' with ⟨rfl, h0⟩ | ⟨g, cap, cur, rfl, _, hgb, _⟩
  · have : l = [] := List.eq_nil_of_length_eq_zero h0
    subst this
    exact ⟨none, 0, rfl, .inl rfl⟩
  · refine ⟨_, _, rfl, .inr ⟨g, rfl, (Array.getElem?_eq_some_iff.1 hgb).1, fun i hi => ?_⟩⟩
    have hc : ∀ j, j < 2 → w.cell? ⟨g, i * 2 + j, none⟩ = (parCells l[i])[j]? := fun j hj => by
      rw [h.cellAt (i * 2 + j) (by omega), rowQ_at l i hi j hj]
    exact ⟨by simpa [parCells] using hc 0 (by omega), by simpa [parCells] using hc 1 (by omega)⟩

theorem par_cells_new (W : World) (p : List UInt8 × List UInt8) (e : TypeId) : ∀ j u, (parCells p)[j]? = some u → (W.alloc (.cells #[.string (bt p.1), .string (bt p.2)] e)).cell? ((⟨W.heap.size, 0, none⟩ : Addr).add j) = some u := by
  intro j u hj
  rw [Addr.add_lit, Nat.zero_add, cell_of_row _ _ _ _ _ (0, 0) (heap_alloc_new W _)]
  simpa [parCells] using hj

theorem cut_bt (x : List UInt8) (n : Nat) : cutB (bt x) n = bt (x.take n) := by
  unfold cutB
  split
  · apply bytes_ext
    rw [Lib.extract_data]
    simp [bt]
  · rename_i h
    rw [bt_size] at h
    rw [List.take_of_length_le (by omega)]

/-- Parameters lie somewhere in a block. -/
def ParsIn (w : World) (B : Nat) (A : Option Addr) (l : Pars) : Prop :=
  l = [] ∨ ∃ g off, A = some ⟨g, off, none⟩ ∧ g < B ∧ ∀ i (h : i < l.length), w.cell? ⟨g, off + i * 2, none⟩ = some (.string (bt l[i].1)) ∧ w.cell? ⟨g, off + i * 2 + 1, none⟩ = some (.string (bt l[i].2))

theorem ParsIn.below {w w' : World} {B : Nat} {A : Option Addr} {l : Pars} (h : ParsIn w B A l) (hb : Below B w w') : ParsIn w' B A l := by
  rcases h with h | ⟨g, off, hA, hg, hc⟩
  · exact .inl h
  · refine .inr ⟨g, off, hA, hg, fun i hi => ?_⟩
    obtain ⟨h1, h2⟩ := hc i hi
    exact ⟨by rw [cell_below hb hg]; exact h1, by rw [cell_below hb hg]; exact h2⟩

theorem ParsIn.more {w : World} {B B' : Nat} {A : Option Addr} {l : Pars} (h : ParsIn w B A l) (hB : B ≤ B') : ParsIn w B' A l := by
  rcases h with h | ⟨g, off, hA, hg, hc⟩
  · exact .inl h
  · exact .inr ⟨g, off, hA, by omega, hc⟩

theorem ParsIn.on {w w' : World} {A : Option Addr} {l : Pars} (h : ParsIn w w.heap.size A l) (hb : Below w.heap.size w w') : ParsIn w' w'.heap.size A l :=
  (h.below hb).more hb.size

theorem ParsAt.isIn {w : World} {B : Nat} {A : Option Addr} {l : Pars} (h : ParsAt w B A l) : ParsIn w B A l := by
  rcases h with h | ⟨g, hA, hg, hc⟩
  · exact .inl h
  · exact .inr ⟨g, 0, hA, hg, fun i hi => by simpa using hc i hi⟩

theorem choose_ltP {α : Type} [Inhabited α] {n : Nat} {p : Nat → α → Prop} (h : ∀ i, i < n → ∃ x, p i x) : ∃ f : Nat → α, ∀ i, i < n → p i (f i) := by
  classical
  exact ⟨fun i => if hi : i < n then (h i hi).choose else default, fun i hi => by simp only [hi, dif_pos]; exact (h i hi).choose_spec⟩

open Go.ChangeShapes Go.WideShapes Go.Deep in
/-- A slice of structs of two texts, opened. -/
theorem open_parsV {H : Type} {enc : TypeId × Value → H} {P : Program} {w : World} {base : Nat} {spare : Nat → Bool} {held : Bool} {t e ts : TypeId} {f0 f1 : Field} {v : Value} {n : Nat} {y : DataW H × List MemPlace}
    (ht : P.underlying t = some (.slice e)) (he : P.underlying e = some (.struct #[f0, f1])) (ce : P.cellsOf e = 2) (o0 : f0.offset = 0) (o1 : f1.offset = 1)
    (t0 : f0.type = ts) (t1 : f1.type = ts) (cs : P.cellsOf ts = 1) (hs : P.underlying ts = some .string)
    (h : DataW.trod enc P w base spare held n t [v] = some y) :
    ∃ A c ps, v = .slice A ps.length c ∧ ParsIn w w.heap.size A ps ∧ (∀ p ∈ ps, (bt p.1).size ≤ maxLen ∧ (bt p.2).size ≤ maxLen) ∧ ps.length ≤ maxLen := by
  rcases open_slice ht h with ⟨h0, _⟩ | ⟨a, len, cap, m, n', D, Pl, hc, hb, hl, hm, hmm, _, hx⟩
  · simp at h0
    subst h0
    exact ⟨none, 0, [], rfl, .inl rfl, fun p hp => by simp at hp, Nat.zero_le _⟩
  simp at hc
  subst hc
  have hlm : len ≤ m := by rw [hmm]; split <;> omega
  have each : ∀ i, i < len → ∃ p : List UInt8 × List UInt8, w.cell? (a.add (i * 2)) = some (.string (bt p.1)) ∧ w.cell? (a.add (i * 2 + 1)) = some (.string (bt p.2)) ∧ (bt p.1).size ≤ maxLen ∧ (bt p.2).size ≤ maxLen := by
    intro i hi
    obtain ⟨cs', h1, h2⟩ := hx i (by omega)
    rw [ce] at h1
    obtain ⟨_, hlen, hcell⟩ := World.cells?_some h1
    obtain ⟨xs, k, hk, hxy, _, hxl, hf⟩ := DataW.trod_struct he h2
    match xs, hxl, cs', hlen with
    | [y0, y1], _, [v0, v1], _ =>
      have g0 := hf 0 f0 rfl
      have g1 := hf 1 f1 rfl
      simp [o0, o1, t0, t1, cs] at g0 g1
      have e0 := hcell 0 (by omega)
      have e1 := hcell 1 (by omega)
      rw [add_add] at e0 e1
      obtain ⟨b0, q0, _, s0⟩ := DataW.trod_string hs g0
      obtain ⟨b1, q1, _, s1⟩ := DataW.trod_string hs g1
      simp at q0 q1
      subst q0 q1
      exact ⟨(b0.data.toList, b1.data.toList), by rw [list_bt]; simpa using e0, by rw [list_bt]; simpa using e1, s0, s1⟩
  obtain ⟨f, hfs⟩ := choose_ltP each
  refine ⟨some a, cap, (List.range len).map f, by simp, ?_, ?_, by simp; omega⟩
  · by_cases hz : len = 0
    · subst hz; exact .inl rfl
    right
    have h0 := (hfs 0 (by omega)).1
    rw [Nat.zero_mul, show a.add 0 = a from rfl] at h0
    obtain ⟨b, off, sp⟩ := a
    have hsp : sp = none := by
      cases sp with
      | none => rfl
      | some k =>
        simp only [World.cell?] at h0
        split at h0 <;> simp at h0
    subst hsp
    refine ⟨b, off, rfl, lt_of_cell h0, fun i hi => ?_⟩
    have hi' : i < len := by simpa using hi
    obtain ⟨h1, h2, _⟩ := hfs i hi'
    simp only [List.getElem_map, List.getElem_range]
    have hadd : ∀ k, (⟨b, off, none⟩ : Addr).add k = ⟨b, off + k, none⟩ := fun k => by
      unfold Addr.add
      split
      · rename_i hk; subst hk; rfl
      · rfl
    rw [hadd] at h1 h2
    exact ⟨h1, h2⟩
  · intro p hp
    simp only [List.mem_map, List.mem_range] at hp
    obtain ⟨i, hi, rfl⟩ := hp
    exact (hfs i hi).2.2

theorem fnTab : FnPure 69 isTab :=
  ⟨fun args w => MuLone.run_callFunc_enter Try.func69 (by kernel_rfl) rfl args w, Tab_any⟩

theorem bt_list (l : List UInt8) : (bt l).data.toList = l := rfl

end Go.Proofs.Ytjlemghmpnkncaa
