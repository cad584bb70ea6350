/-
  Deeds on a cursor, and a slice of them that came in.
-/
import Derived.Test.YthmiadbeiggmlaaBase
import Derived.Deep.Matrix
namespace Go.Proofs.Ythmiadbeiggmlaa
open Go.RowKit
set_option linter.unusedSimpArgs false
set_option linter.unusedVariables false

/-- What is done to a cursor. -/
structure Deed where
  kind : Int
  n : Int
  s : ByteArray

instance : Inhabited Deed := ⟨⟨0, 0, ⟨#[]⟩⟩⟩

/-- Block g holds the deeds. -/
def DeedsAt (w : World) (B : Nat) (A : Option Addr) (l : List Deed) : Prop :=
  l = [] ∨ ∃ g o, A = some ⟨g, o, none⟩ ∧ g < B ∧ ∀ i (h : i < l.length), w.cell? ⟨g, o + i * 3, none⟩ = some (.int .i64 l[i].kind) ∧ w.cell? ⟨g, o + i * 3 + 1, none⟩ = some (.int .i64 l[i].n) ∧ w.cell? ⟨g, o + i * 3 + 2, none⟩ = some (.string l[i].s)

theorem DeedsAt.below {w w' : World} {B : Nat} {A : Option Addr} {l : List Deed} (h : DeedsAt w B A l) (hb : Below B w w') : DeedsAt w' B A l := by
  rcases h with h | ⟨g, o, hA, hg, hc⟩
  · exact .inl h
  · refine .inr ⟨g, o, hA, hg, fun i hi => ?_⟩
    obtain ⟨h1, h2, h3⟩ := hc i hi
    exact ⟨by rw [cell_below hb hg]; exact h1, by rw [cell_below hb hg]; exact h2, by rw [cell_below hb hg]; exact h3⟩

open Go.ChangeShapes Go.WideShapes Go.Deep in
/-- A slice of structs of two numbers and a text, opened. -/
theorem open_deeds {H : Type} {enc : TypeId × Value → H} {P : Program} {w : World} {base : Nat} {spare : Nat → Bool} {held : Bool} {t e ti ts : TypeId} {f0 f1 f2 : Field} {A : Option Addr} {len cap : Nat} {d : DataW H} {q : List MemPlace}
    (ht : P.underlying t = some (.slice e)) (he : P.underlying e = some (.struct #[f0, f1, f2])) (ce : P.cellsOf e = 3) (o0 : f0.offset = 0) (o1 : f1.offset = 1) (o2 : f2.offset = 2)
    (t0 : f0.type = ti) (t1 : f1.type = ti) (t2 : f2.type = ts) (ci : P.cellsOf ti = 1) (cs : P.cellsOf ts = 1) (hi : P.underlying ti = some (.int .i64)) (hs : P.underlying ts = some .string)
    (h : DataW.Trod enc P w base spare held t (.slice A len cap) d q) :
    ∃ l : List Deed, l.length = len ∧ DeedsAt w w.heap.size A l ∧ (∀ i (h : i < l.length), l[i].s.size ≤ maxLen) ∧ len ≤ maxLen := by
  obtain ⟨fuel, hf⟩ := h
  rcases open_slice ht hf with ⟨h0, _⟩ | ⟨a, len', cap', m, n, D, Pl, hc, hb, hl, hm, hmm, _, hx⟩
  · simp [Value.cells] at h0
    obtain ⟨_, rfl, _⟩ := h0
    exact ⟨[], rfl, .inl rfl, fun i h => by simp at h, Nat.zero_le _⟩
  simp [Value.cells] at hc
  obtain ⟨rfl, rfl, rfl⟩ := hc
  have hlm : len ≤ m := by rw [hmm]; split <;> omega
  have each : ∀ i, i < len → ∃ p : Deed, w.cell? (a.add (i * 3)) = some (.int .i64 p.kind) ∧ w.cell? (a.add (i * 3 + 1)) = some (.int .i64 p.n) ∧ w.cell? (a.add (i * 3 + 2)) = some (.string p.s) ∧ p.s.size ≤ maxLen := by
    intro i hi'
    obtain ⟨cs', h1, h2⟩ := hx i (by omega)
    rw [ce] at h1
    obtain ⟨_, hlen, hcell⟩ := World.cells?_some h1
    obtain ⟨xs, k, hk, hxy, _, hxl, hf⟩ := DataW.trod_struct he h2
    match xs, hxl, cs', hlen with
    | [y0, y1, y2], _, [v0, v1, v2], _ =>
      have g0 := hf 0 f0 rfl
      have g1 := hf 1 f1 rfl
      have g2 := hf 2 f2 rfl
      simp [o0, o1, o2, t0, t1, t2, ci, cs] at g0 g1 g2
      have e0 := hcell 0 (by omega)
      have e1 := hcell 1 (by omega)
      have e2 := hcell 2 (by omega)
      rw [add_add] at e0 e1 e2
      obtain ⟨b0, q0, _, _⟩ := DataW.trod_int hi g0
      obtain ⟨b1, q1, _, _⟩ := DataW.trod_int hi g1
      obtain ⟨b2, q2, _, s2⟩ := DataW.trod_string hs g2
      simp at q0 q1 q2
      subst q0 q1 q2
      exact ⟨⟨b0, b1, b2⟩, by simpa using e0, by simpa using e1, by simpa using e2, s2⟩
  obtain ⟨f, hfs⟩ := choose_lt each
  refine ⟨(List.range len).map f, by simp, ?_, ?_, by omega⟩
  · by_cases hz : len = 0
    · subst hz; exact .inl rfl
    right
    have h0 := (hfs 0 (by omega)).1
    rw [Nat.zero_mul, show a.add 0 = a from rfl] at h0
    obtain ⟨b, off, sp⟩ := a
    have hsp : sp = none := by
      cases sp with
      | none => rfl
      | some k =>
        simp only [World.cell?] at h0
        split at h0 <;> simp at h0
    subst hsp
    refine ⟨b, off, rfl, lt_of_cell h0, fun i hi => ?_⟩
    have hi' : i < len := by simpa using hi
    obtain ⟨h1, h2, h3, _⟩ := hfs i hi'
    simp only [List.getElem_map, List.getElem_range]
    have hadd : ∀ k, (⟨b, off, none⟩ : Addr).add k = ⟨b, off + k, none⟩ := fun k => by
      unfold Addr.add
      split
      · rename_i hk; subst hk; rfl
      · rfl
    rw [hadd] at h1 h2 h3
    exact ⟨h1, h2, h3⟩
  · intro i hi
    have hi' : i < len := by simpa using hi
    simp only [List.getElem_map, List.getElem_range]
    exact (hfs i hi').2.2.2

end Go.Proofs.Ythmiadbeiggmlaa
