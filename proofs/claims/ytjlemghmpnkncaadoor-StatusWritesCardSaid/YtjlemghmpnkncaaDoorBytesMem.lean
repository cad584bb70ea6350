/-
  Rows of bytes in memory: what a []byte of the call's own holds.
-/
import Derived.Test.YtjlemghmpnkncaaDoorBase
import Derived.Test.YtjlemghmpnkncaaDoorTextsPlain
import Derived.Laws.IdiomStrings
namespace Go.Proofs.YtjlemghmpnkncaaDoor
open Go.RowKit
set_option linter.unusedSimpArgs false
set_option linter.unusedVariables false

/-- Block g of the world holds the bytes l from its head on, and they may be written. -/
def BytesAt (w : World) (g : Nat) (l : List UInt8) : Prop :=
  ∀ j (h : j < l.length), w.cell? ⟨g, j, none⟩ = some (.int .u8 (l[j].toNat : Int)) ∧ w.frozen? ⟨g, j, none⟩ = false

theorem BytesAt.drew {w : World} {g : Nat} {l : List UInt8} (h : BytesAt w g l) : BytesAt w.drew g l := h

theorem BytesAt.below {w w' : World} {B g : Nat} {l : List UInt8} (h : BytesAt w g l) (hb : Below B w w') (hg : g < B) : BytesAt w' g l := by
  intro j hj
  have := h j hj
  exact ⟨by rw [hb.cell (p := ⟨g, j, none⟩) hg]; exact this.1, by rw [hb.frozen (p := ⟨g, j, none⟩) hg]; exact this.2⟩

theorem BytesAt.set {w : World} {g : Nat} {l : List UInt8} (h : BytesAt w g l) (k : Nat) (hk : k < l.length) (b : UInt8) :
    BytesAt (w.setCell ⟨g, k, none⟩ (.int .u8 b.toNat)) g (l.set k b) := by
  intro j hj
  have hj' : j < l.length := by simpa using hj
  refine ⟨?_, by rw [World.frozen?_setCell]; exact (h j hj').2⟩
  by_cases e : k = j
  · subst e
    rw [World.cell?_setCell_same (h := (h k hk).1)]
    simp
  · rw [World.cell?_setCell_other (h := by intro e'; apply e; simpa using e'.symm)]
    rw [(h j hj').1]
    simp [e]

theorem BytesAt.ofString (w : World) (s : ByteArray) (cap : Nat) (e : TypeId) :
    BytesAt (w.alloc (.cells (bytesRow s cap) e ((bytesRow s cap).size, (bytesRow s cap).size + 1))) w.heap.size s.data.toList := by
  intro j hj
  have hj' : j < s.data.size := by simpa using hj
  refine ⟨?_, ?_⟩
  · rw [World.cell?_alloc_mark, bytesRow_at s cap j hj']
    simp
  · rw [World.frozen?_alloc_mark]
    have : j < (bytesRow s cap).size := by
      have := bytesRow_at s cap j hj'
      exact (Array.getElem?_eq_some_iff.1 this).1
    simp
    omega

/-- A text with small letters. -/
def lowerB (s : ByteArray) : ByteArray := ⟨(lowerL s.data.toList).toArray⟩

theorem lowerB_data (s : ByteArray) : (lowerB s).data.toList = lowerL s.data.toList := rfl

theorem lowerB_size (s : ByteArray) : (lowerB s).size = s.size := by
  rw [Lib.size_eq, lowerB_data, Lib.size_eq]; simp [lowerL]

theorem lowerB_idem (s : ByteArray) : lowerB (lowerB s) = lowerB s := by
  unfold lowerB; simp only [lowerL_idem]

theorem sameB_eq (a b : ByteArray) : (lowerL a.data.toList == lowerL b.data.toList) = ((lowerB a).toList == (lowerB b).toList) := by
  rw [Lib.toList_data, Lib.toList_data, lowerB_data, lowerB_data]

/-- The first k bytes made small. -/
def lowTo (l : List UInt8) (k : Nat) : List UInt8 := (l.take k).map lowOf ++ l.drop k

theorem lowTo_length (l : List UInt8) (k : Nat) : (lowTo l k).length = l.length := by
  simp [lowTo]; omega

theorem lowTo_zero (l : List UInt8) : lowTo l 0 = l := by simp [lowTo]

theorem lowTo_all (l : List UInt8) : lowTo l l.length = lowerL l := by simp [lowTo, lowerL]

theorem lowTo_at (l : List UInt8) (k : Nat) (hk : k < l.length) : (lowTo l k)[k]'(by rw [lowTo_length]; exact hk) = l[k] := by
  simp only [lowTo]
  rw [List.getElem_append_right (by simp; omega)]
  simp
  congr 1
  omega

theorem lowTo_step (l : List UInt8) (k : Nat) (hk : k < l.length) : (lowTo l k).set k (lowOf l[k]) = lowTo l (k + 1) := by
  have e1 : ((l.take k).map lowOf).length = k := by simp; omega
  unfold lowTo
  rw [List.drop_eq_getElem_cons hk, List.set_append_right _ _ (by omega), e1, Nat.sub_self, List.set_cons_zero, List.take_succ_eq_append_getElem hk]
  simp only [List.map_append, List.map_cons, List.map_nil, List.append_assoc, List.cons_append, List.nil_append]

theorem BytesAt.low {w : World} {g : Nat} {s : ByteArray} {k : Nat} (h : BytesAt w g (lowTo s.data.toList k)) (hk : k < s.size) :
    ∃ x : UInt8, w.cell? ⟨g, k, none⟩ = some (.int .u8 (x.toNat : Int)) ∧ w.frozen? ⟨g, k, none⟩ = false ∧
      BytesAt (w.setCell ⟨g, k, none⟩ (.int .u8 ((lowOf x).toNat : Int))) g (lowTo s.data.toList (k + 1)) := by
  rw [Lib.size_eq] at hk
  have hl : k < (lowTo s.data.toList k).length := by rw [lowTo_length]; exact hk
  obtain ⟨hc, hf⟩ := h k hl
  rw [lowTo_at _ _ hk] at hc
  exact ⟨_, hc, hf, by rw [← lowTo_step _ _ hk]; exact h.set k hl _⟩

theorem BytesAt.back {P : Program} {w : World} {g : Nat} {l : List UInt8} (h : BytesAt w g l) {n : Nat} (cap : Nat) (hn : n = l.length) (src dst e : TypeId)
    (hs : P.underlying src = some (.slice e)) (he : P.underlying e = some (.int .u8)) (hd : P.underlying dst = some .string) :
    (convert src dst (.slice (some ⟨g, 0, none⟩) n cap)).run P w = .ok (.string ⟨l.toArray⟩) w := by
  subst hn
  refine run_convert_bytes_back w src dst e ⟨g, 0, none⟩ cap l hs he hd ?_
  intro j hj
  rw [show (⟨g, 0, none⟩ : Addr).add j = ⟨g, j, none⟩ from by rw [Addr.add_lit, Nat.zero_add]]
  exact (h j hj).1

end Go.Proofs.YtjlemghmpnkncaaDoor
