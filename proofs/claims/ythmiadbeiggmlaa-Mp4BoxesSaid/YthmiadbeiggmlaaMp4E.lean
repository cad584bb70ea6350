/-
  Walks of package mp4: all boxes.
-/
import Derived.Test.YthmiadbeiggmlaaBoxPlain
import Derived.Test.YthmiadbeiggmlaaMp4B
namespace Go.Proofs.Ythmiadbeiggmlaa
open Go.RowKit
set_option linter.unusedSimpArgs false
set_option linter.unusedVariables false

theorem infoBox : (Try.prog.info? 91).map (fun i => (i.zero, i.size, i.bytes)) = some (some (.agg #[.string ByteArray.empty, .int .i64 0]), 2, 24) := by kernel_rfl

def boxCells (p : ByteArray × Nat) : List Value := [.string p.1, .int .i64 p.2]

def rowB (l : List (ByteArray × Nat)) : List Value := l.flatMap boxCells

theorem rowB_snoc (l : List (ByteArray × Nat)) (p : ByteArray × Nat) : rowB (l ++ [p]) = rowB l ++ boxCells p := by simp [rowB]

theorem rowB_at (l : List (ByteArray × Nat)) (i : Nat) (hi : i < l.length) (j : Nat) (hj : j < 2) : (rowB l)[i * 2 + j]? = (boxCells l[i])[j]? := by
  induction l generalizing i with
  | nil => simp at hi
  | cons p r ih =>
    have hl : (boxCells p).length = 2 := rfl
    cases i with
    | zero =>
      simp only [rowB, List.flatMap_cons, Nat.zero_mul, Nat.zero_add, List.getElem_cons_zero]
      rw [List.getElem?_append_left (by omega)]
    | succ i =>
      simp only [rowB, List.flatMap_cons, List.getElem_cons_succ]
      rw [List.getElem?_append_right (by omega), hl, show (i + 1) * 2 + j - 2 = i * 2 + j by omega]
      exact ih i (by simpa using hi)

/-- Boxes lie from a block's head on. -/
def BoxesIn (w : World) (A : Option Addr) (l : List (ByteArray × Nat)) : Prop :=
  l = [] ∨ ∃ g, A = some ⟨g, 0, none⟩ ∧ g < w.heap.size ∧ ∀ i (h : i < l.length), w.cell? ⟨g, i * 2, none⟩ = some (.string l[i].1) ∧ w.cell? ⟨g, i * 2 + 1, none⟩ = some (.int .i64 l[i].2)

theorem BoxesIn.below {w w' : World} {A : Option Addr} {l : List (ByteArray × Nat)} (h : BoxesIn w A l) (hb : Below w.heap.size w w') : BoxesIn w' A l := by
  rcases h with h | ⟨g, hA, hg, hc⟩
  · exact .inl h
  · refine .inr ⟨g, hA, Nat.lt_of_lt_of_le hg hb.size, fun i hi => ?_⟩
    obtain ⟨h1, h2⟩ := hc i hi
    exact ⟨by rw [cell_below hb hg]; exact h1, by rw [cell_below hb hg]; exact h2⟩

theorem boxes_of_own {w : World} {base : Nat} {e : TypeId} {v : Value} {l : List (ByteArray × Nat)} {n : Nat} (h : w.ownsRow base e 2 v n (rowB l)) (hn : n = l.length) : ∃ A c, v = .slice A l.length c ∧ BoxesIn w A l := by
  subst hn
  have h' := h.2
  rcases h' with ⟨rfl, h0⟩ | ⟨g, cap, cur, rfl, _, hgb, _⟩
  · have : l = [] := List.eq_nil_of_length_eq_zero h0
    subst this
    exact ⟨none, 0, rfl, .inl rfl⟩
  · refine ⟨_, _, rfl, .inr ⟨g, rfl, (Array.getElem?_eq_some_iff.1 hgb).1, fun i hi => ?_⟩⟩
    have hc : ∀ j, j < 2 → w.cell? ⟨g, i * 2 + j, none⟩ = (boxCells l[i])[j]? := fun j hj => by
      rw [h.cellAt (i * 2 + j) (by omega), rowB_at l i hi j hj]
    exact ⟨by simpa [boxCells] using hc 0 (by omega), by simpa [boxCells] using hc 1 (by omega)⟩

/-- What comes is boxes, and how many bytes they have. -/
def GivesBox (l : List (ByteArray × Nat)) (n : Nat) (w : World) (e : Ending) (w' : World) : Prop :=
  ∃ A c, e = .returned (.tuple #[.slice A l.length c, .int .i64 n]) ∧ BoxesIn w' A l ∧ Below w.heap.size w w'

theorem box_cells_new (W : World) (p : ByteArray × Nat) (e : TypeId) : ∀ j u, (boxCells p)[j]? = some u → (W.alloc (.cells #[.string p.1, .int .i64 p.2] e)).cell? ((⟨W.heap.size, 0, none⟩ : Addr).add j) = some u := by
  intro j u hj
  rw [Addr.add_lit, Nat.zero_add, cell_of_row _ _ _ _ _ (0, 0) (heap_alloc_new W _)]
  simpa [boxCells] using hj

theorem rest_rest (s : ByteArray) (a n : Nat) (h : a + n ≤ s.size) : (s.extract a s.size).extract n (s.extract a s.size).size = s.extract (a + n) s.size := by
  have hz : (s.extract a s.size).size = s.size - a := by rw [extract_size]; omega
  rw [hz, ByteArray.extract_extract]
  congr 1
  omega

theorem rest_name (s : ByteArray) (a : Nat) (h : a + 8 ≤ s.size) : (s.extract a s.size).extract 4 8 = s.extract (a + 4) (a + 8) := by
  rw [ByteArray.extract_extract]
  congr 1
  omega

theorem own_grown2 {w wr w1 : World} {v : Value} {k : Nat} {e : TypeId} {l : List Value} {o : Obj} (hb : Below w.heap.size w wr) (hr : wr.ownsRow w.heap.size e 2 v k l) (hg : (wr.alloc o).grownBy w1 v.ownBlock) : Below w.heap.size w w1 :=
  (hb.alloc hb.size _).grown hg (by have := hb.size; simp; omega) fun j hj => (hr.lt j hj).1

theorem own_below2 {w w' : World} {base : Nat} {e : TypeId} {v : Value} {n : Nat} {xs : List Value} (h : w.ownsRow base e 2 v n xs) (hb : Below w.heap.size w w') : w'.ownsRow base e 2 v n xs := by
  obtain ⟨q1, q2⟩ := h
  refine ⟨q1, ?_⟩
  rcases q2 with q2 | ⟨g', cap', cur, q2, q3, q4, q5⟩
  · exact .inl q2
  · exact .inr ⟨g', cap', cur, q2, q3, (hb.block _ (Array.getElem?_eq_some_iff.1 q4).1).trans q4, q5⟩

set_option maxHeartbeats 1000000 in
set_option maxRecDepth 20000 in
theorem Boxes_any (s : ByteArray) (w : World) (hs : s.size ≤ 100000) :
    Calls Try.prog 50 #[.string s] w (GivesBox (boxL s) (endN s) w) := by
  obtain ⟨i0, hi, hz0, hz1, hz2⟩ := info_parts infoBox
  have HI := Lib.hid hi; have HZ0 := Lib.hid hz0; have HZ1 := Lib.hid hz1; have HZ2 := Lib.hid hz2
  clear hi hz0 hz1 hz2
  go_enter Try.func50, Try.ntmps50
  go_wp2_with fail
  go_loopw [4, 5] (fun v i wr => ∃ (D : List (ByteArray × Nat)) (a : Nat), a ≤ s.size ∧ i = .int .i64 a ∧ wr.ownsRow w.heap.size 91 2 v D.length (rowB D) ∧ D ++ boxL (s.extract a s.size) = boxL s ∧ a + endN (s.extract a s.size) = endN s ∧ D.length ≤ a ∧ Below w.heap.size w wr) (fun _ i _ => s.size - (intOf i).toNat)
  case atStart => exact ⟨[], 0, Nat.zero_le _, rfl, World.ownsRow_nil _ _ _ _, by rw [extract_all]; rfl, by rw [extract_all]; omega, Nat.zero_le _, Below.refl _ _⟩
  case round =>
    obtain ⟨D, a, ha, rfl, hown, h1, h2, hDa, hb⟩ := hrel
    have HO := Lib.hid hown
    have HB := Lib.hid hb
    have H1 := Lib.hid h1
    have H2 := Lib.hid h2
    have hrz : (s.extract a s.size).size = s.size - a := by rw [extract_size]; omega
    have hrm : (s.extract a s.size).size ≤ maxLen := by unfold maxLen; omega
    have hz := hb.size
    clear hown h1 h2 hb
    cases hw : wholeX (s.extract a s.size)
    · have HC := Lib.hid (fun w => box_no (s.extract a s.size) w hw hrm)
      obtain ⟨e1, e2⟩ := box_none hw
      have HE : Hid (D = boxL s ∧ a = endN s) := Lib.hid ⟨by have := H1.out; rw [e1, List.append_nil] at this; exact this, by have := H2.out; rw [e2] at this; omega⟩
      clear hw e1 e2 H1 H2 hrz hrm
      go_wp2_with fail
      refine (HC.out _).mono ?_
      rintro e w1 ⟨nm, z, rfl, hb1⟩
      have HO2 := Lib.hid ((own_below2 HO.out hb1).alloc (.cells #[.string nm, .int .i64 z] 91))
      have HB2 := Lib.hid ((HB.out.trans (hb1.mono hz)).alloc (by have := hb1.size; omega) (.cells #[.string nm, .int .i64 z] 91))
      clear hb1
      go_wp2_with fail
      go_ret2
      obtain ⟨A, c, rfl, hin⟩ := boxes_of_own HO2.out rfl
      obtain ⟨rfl, rfl⟩ := HE.out
      exact ⟨A, c, rfl, hin, HB2.out⟩
    · have HC := Lib.hid (fun w => box_yes (s.extract a s.size) w hw hrm)
      obtain ⟨p1, p2, p3⟩ := wholeX_parts hw
      obtain ⟨e1, e2⟩ := box_whole hw
      rw [rest_rest s a _ (by omega)] at e1 e2
      rw [rest_name s a (by omega)] at e1 HC
      generalize sizeF (s.extract a s.size) = n at *
      have han : a + n ≤ s.size := by omega
      have HE1 := Lib.hid e1
      have HE2 := Lib.hid e2
      have p2' := p2
      clear hw e1 e2 hrz hrm p1 p3
      generalize s.extract (a + 4) (a + 8) = x at *
      go_wp2_with fail
      refine (HC.out _).mono ?_
      rintro e w1 ⟨rfl, hb1⟩
      have HO2 := Lib.hid ((own_below2 HO.out hb1).alloc (.cells #[.string x, .int .i64 n] 91))
      have HB2 := Lib.hid ((HB.out.trans (hb1.mono hz)).alloc (by have := hb1.size; omega) (.cells #[.string x, .int .i64 n] 91))
      have z1 : w.heap.size ≤ w1.heap.size := by have := hb1.size; omega
      have HLT := Lib.hid (fun r hr => ((own_below2 HO.out hb1).lt r hr).2)
      clear hb1
      go_upto_region 6 with fail
      generalize hW : w1.alloc (.cells #[.string x, .int .i64 n] 91) = W at *
      have c0 : W.cell? ⟨w1.heap.size, 0, none⟩ = some (.string x) := by rw [← hW]; simp [go_sem]
      have c1 : W.cell? ⟨w1.heap.size, 1, none⟩ = some (.int .i64 n) := by rw [← hW]; simp [go_sem]
      have z2 : w1.heap.size < W.heap.size := by rw [← hW]; simp
      have k0 := Lib.hid (HO2.out.alloc (.cells #[.string x, .int .i64 n] 91))
      have k1 := Lib.hid (box_cells_new W (x, n) 91)
      have k2 := Lib.hid (show ∀ v ∈ boxCells (x, n), v.oneCell' = true from by intro v hv; simp [boxCells] at hv; rcases hv with rfl | rfl <;> rfl)
      have k3 := Lib.hid (show D.length + 1 ≤ maxLen from by unfold maxLen; omega)
      have k4 := Lib.hid (show (D.length + 1) * 24 ≤ 140737488355328 from by omega)
      have k5 := Lib.hid (show w.heap.size ≤ (W.alloc (.cells #[.string x, .int .i64 n] 91)).heap.size from by simp; omega)
      clear hW
      go_wp2_with (at_builtin; refine wpList_append_own _ rfl (.tmp 19) (.tmp 21) 69 rfl w.heap.size 91 i0 (.agg #[.string ByteArray.empty, .int .i64 0]) 2 24 Try.underlying69 HI.out HZ0.out HZ1.out HZ2.out rfl (by decide) _ _ _ rfl k0.out ⟨W.heap.size, 0, none⟩ 1 1 (boxCells (x, n)) rfl rfl k1.out k2.out k3.out k4.out k5.out ?_; intro v' w3 hown' hg hne; have HO3 := Lib.hid hown'; have HK := Lib.hid (own_grown2 HB2.out HO2.out hg); have c1' : w3.cell? ⟨w1.heap.size, 1, none⟩ = some (.int .i64 n) := ((World.cell?_of_block (w := W) ((hg.block w1.heap.size (by simp; omega) (fun e => by have := HLT.out _ e.symm; omega)).trans (Below.heap_alloc W _ _ z2))).trans c1); clear hown' hg hne)
      refine ⟨⟨D ++ [(x, n)], a + n, han, by go_num, by rw [List.length_append, rowB_snoc]; exact HO3.out, by rw [← H1.out, HE1.out, List.append_assoc]; rfl, by rw [← H2.out, HE2.out]; omega, by rw [List.length_append]; simp; omega, HK.out⟩, by simp [intOf]; omega⟩

end Go.Proofs.Ythmiadbeiggmlaa
