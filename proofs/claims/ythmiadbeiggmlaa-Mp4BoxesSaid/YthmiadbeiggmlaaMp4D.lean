/-
  Walks of package mp4: one box.
-/
import Derived.Test.YthmiadbeiggmlaaCursorG
import Derived.Test.YthmiadbeiggmlaaMp4A
import Derived.Deep.DeepCutAuto
namespace Go.Proofs.Ythmiadbeiggmlaa
open Go.RowKit
set_option linter.unusedSimpArgs false
set_option linter.unusedVariables false

/-- A box is whole. -/
def wholeX (t : ByteArray) : Bool := decide (8 ≤ t.size) && decide (8 ≤ sizeF t) && decide (sizeF t ≤ t.size)

theorem wholeX_parts {t : ByteArray} (h : wholeX t = true) : 8 ≤ t.size ∧ 8 ≤ sizeF t ∧ sizeF t ≤ t.size := by
  unfold wholeX at h
  simp only [Bool.and_eq_true, decide_eq_true_eq] at h
  exact ⟨h.1.1, h.1.2, h.2⟩

/-- Block g is just a box: its name, its size. -/
def BoxAt (w : World) (g : Nat) (nm : ByteArray) (n : Int) : Prop := w.heap[g]? = some (.cells #[.string nm, .int .i64 n] 91 (0, 0))

theorem BoxAt.lt {w : World} {g : Nat} {nm : ByteArray} {n : Int} (h : BoxAt w g nm n) : g < w.heap.size := (Array.getElem?_eq_some_iff.1 h).1
theorem BoxAt.name {w : World} {g : Nat} {nm : ByteArray} {n : Int} (h : BoxAt w g nm n) : w.cell? ⟨g, 0, none⟩ = some (.string nm) := cell_of_row w g 0 _ _ (0, 0) h
theorem BoxAt.size {w : World} {g : Nat} {nm : ByteArray} {n : Int} (h : BoxAt w g nm n) : w.cell? ⟨g, 1, none⟩ = some (.int .i64 n) := cell_of_row w g 1 _ _ (0, 0) h
theorem BoxAt.free {w : World} {g : Nat} {nm : ByteArray} {n : Int} (h : BoxAt w g nm n) (o : Nat) : w.frozen? ⟨g, o, none⟩ = false := by
  unfold BoxAt at h
  simp [World.frozen?, h]

theorem BoxAt.setName {w : World} {g : Nat} {nm : ByteArray} {n : Int} (h : BoxAt w g nm n) (x : ByteArray) : BoxAt (w.setCell ⟨g, 0, none⟩ (.string x)) g x n := by
  unfold BoxAt at h ⊢
  simp [World.setCell, Array.getElem?_modify, h]

theorem BoxAt.setSize {w : World} {g : Nat} {nm : ByteArray} {n : Int} (h : BoxAt w g nm n) (x : Int) : BoxAt (w.setCell ⟨g, 1, none⟩ (.int .i64 x)) g nm x := by
  unfold BoxAt at h ⊢
  simp [World.setCell, Array.getElem?_modify, h]

theorem BoxAt.but {w w' : World} {g k : Nat} {nm : ByteArray} {n : Int} (h : BoxAt w g nm n) (hb : But k w w') (hne : g ≠ k) : BoxAt w' g nm n := (hb.block g h.lt (fun e => hne (by injection e))).trans h

theorem BoxAt.below {B : Nat} {w w' : World} {g : Nat} {nm : ByteArray} {n : Int} (h : BoxAt w g nm n) (hb : Below B w w') (hg : g < B) : BoxAt w' g nm n := (hb.block g hg).trans h

theorem Cur.other {w : World} {g : Nat} {s : ByteArray} {k : Nat} (h : Cur w g s k) {p : Addr} (hne : p.block ≠ g) (v : Value) : Cur (w.setCell p v) g s k :=
  (Below.heap_setCell w p v g (fun e => hne e.symm)).trans h

theorem But.then {g : Nat} {a w w2 : World} (h : But g a w) (hb : Below a.heap.size w w2) : But g a w2 :=
  ⟨hb.os.trans h.os, hb.tape.trans h.tape, hb.output.trans h.output, Nat.le_trans h.size hb.size, fun i hi hn => (hb.block i hi).trans (h.block i hi hn)⟩

set_option maxHeartbeats 1000000 in
set_option maxRecDepth 20000 in
theorem box1_gives (gs gb : Nat) (s nm : ByteArray) (z : Int) (w : World) (hw : wholeX s = true) (hs : s.size ≤ maxLen) (h0 : w.cell? ⟨gs, 0, none⟩ = some (.string s)) (hb : BoxAt w gb nm z) :
    Calls Try.prog 86 #[.pointer (some ⟨gs, 0, none⟩), .pointer (some ⟨gb, 0, none⟩)] w fun e w' => e = .returned (.tuple #[]) ∧ But gb w w' ∧ BoxAt w' gb (s.extract 4 8) (sizeF s) := by
  obtain ⟨h1, h2, h3⟩ := wholeX_parts hw
  have hlt := sizeF_lt s
  have HU : Hid (∀ (w1 : World), Cur w1 w.heap.size s 0 → Calls Try.prog 81 #[.pointer (some ⟨w.heap.size, 0, none⟩)] w1 fun e w' => e = .returned (.int .u32 (sizeF s)) ∧ Moved w.heap.size s 4 w1 w') := Lib.hid (fun w1 h => U32_gives w.heap.size s 0 w1 h (by omega) hs)
  have HT1 : Hid (∀ (w1 : World), Cur w1 w.heap.size s 4 → Calls Try.prog 79 #[.pointer (some ⟨w.heap.size, 0, none⟩), .int .i64 4] w1 fun e w' => e = .returned (.string (s.extract 4 8)) ∧ Moved w.heap.size s 8 w1 w') := Lib.hid (fun w1 h => Take_gives w.heap.size s 4 4 w1 h (by omega) hs)
  have HT2 : Hid (∀ (w1 : World), Cur w1 w.heap.size s 8 → Calls Try.prog 79 #[.pointer (some ⟨w.heap.size, 0, none⟩), .int .i64 ((sizeF s : Int) - 8)] w1 fun e w' => e = .returned (.string (s.extract 8 (8 + (sizeF s - 8)))) ∧ Moved w.heap.size s (8 + (sizeF s - 8)) w1 w') :=
    Lib.hid (fun w1 h => by
      have := Take_gives w.heap.size s 8 (sizeF s - 8) w1 h (by omega) hs
      rwa [show ((sizeF s - 8 : Nat) : Int) = (sizeF s : Int) - 8 from by omega] at this)
  generalize sizeF s = n at *
  have HB := Lib.hid hb
  have hgb := hb.lt
  clear hb hw
  go_enter Try.func86, Try.ntmps86
  go_wp2_with (go_at_call 20; refine (New_any _ _).mono ?_; rintro e w' ⟨rfl, rfl⟩)
  have hc0 := Lib.hid (Cur.new w s)
  have HB1 := Lib.hid (HB.out.below (below_box w (.cells #[.string s, .int .i64 0] 79)) hgb)
  have HN1 := Lib.hid ((But.refl gb w).alloc (.cells #[.string s, .int .i64 0] 79))
  have z1 : w.heap.size < (w.alloc (.cells #[.string s, .int .i64 0] 79)).heap.size := by simp
  generalize w.alloc (.cells #[.string s, .int .i64 0] 79) = W1 at *
  refine (HU.out _ hc0.out).mono ?_
  rintro e W2 ⟨rfl, hm⟩
  have HM := Lib.hid hm
  have HB2 := Lib.hid (HB1.out.but hm.2 (by omega))
  have c1 := HB2.out.size
  have f1 := HB2.out.free 1
  have HN2 := Lib.hid (HN1.out.then (hm.2.below (Nat.le_refl _) (by omega)))
  clear hm
  go_wp2_with fail
  have HB3 := Lib.hid (HB2.out.setSize (n : Int))
  have HC3 := Lib.hid (HM.out.1.other (p := ⟨gb, 1, none⟩) (by show gb ≠ _; omega) (.int .i64 (n : Int)))
  have HN3 := Lib.hid (HN2.out.setCell (p := ⟨gb, 1, none⟩) (.inl rfl) (.int .i64 (n : Int)))
  clear c1 f1
  generalize W2.setCell ⟨gb, 1, none⟩ (.int .i64 (n : Int)) = W3 at *
  refine (HT1.out _ HC3.out).mono ?_
  rintro e W4 ⟨rfl, hm⟩
  have HM4 := Lib.hid hm
  have HB4 := Lib.hid (HB3.out.but hm.2 (by omega))
  have c0 := HB4.out.name
  have c1 := HB4.out.size
  have f0 := HB4.out.free 0
  have HN4 := Lib.hid (HN3.out.then (hm.2.below (Nat.le_refl _) (by have := HC3.out.lt; omega)))
  clear hm
  have d8 : decide (8 ≤ (n : Int)) = true := decide_eq_true (by omega)
  go_wp2_with (go_at_call 78; (with_reducible refine (Check_yes _ _ _).mono ?_); rintro e w' ⟨rfl, rfl⟩)
  have HB5 := Lib.hid (HB4.out.setName (s.extract 4 8))
  have HC5 := Lib.hid (HM4.out.1.other (p := ⟨gb, 0, none⟩) (by show gb ≠ _; omega) (.string (s.extract 4 8)))
  have HN5 := Lib.hid (HN4.out.setCell (p := ⟨gb, 0, none⟩) (.inl rfl) (.string (s.extract 4 8)))
  refine (HT2.out _ HC5.out).mono ?_
  rintro e W6 ⟨rfl, hm⟩
  have HB6 := Lib.hid (HB5.out.but hm.2 (by omega))
  have HN6 := Lib.hid (HN5.out.then (hm.2.below (Nat.le_refl _) (by have := HC5.out.lt; omega)))
  clear hm
  go_wp2_with fail
  go_end0
  exact ⟨rfl, HN6.out, HB6.out⟩

/-- Something lies in a box's block. -/
def SomeBox (w : World) (g : Nat) : Prop := ∃ (nm : ByteArray) (n : Int), BoxAt w g nm n

set_option maxHeartbeats 1000000 in
set_option maxRecDepth 20000 in
theorem box1_short (gs gb : Nat) (s nm : ByteArray) (z : Int) (w : World) (h : s.size < 4) (hs : s.size ≤ maxLen) (h0 : w.cell? ⟨gs, 0, none⟩ = some (.string s)) (hb : BoxAt w gb nm z) :
    Calls Try.prog 86 #[.pointer (some ⟨gs, 0, none⟩), .pointer (some ⟨gb, 0, none⟩)] w fun e w' => e = .panicked [{ v := faultV 0 8, recovered := false }] ∧ But gb w w' ∧ SomeBox w' gb := by
  have HU := Lib.hid (fun (w1 : World) (h : Cur w1 w.heap.size s 0) => U32_throws w.heap.size s 0 w1 h (by omega) (by omega) hs)
  have HB := Lib.hid hb
  have hgb := hb.lt
  clear hb
  go_enter Try.func86, Try.ntmps86
  go_wp2_with (go_at_call 20; refine (New_any _ _).mono ?_; rintro e w' ⟨rfl, rfl⟩)
  have hc0 := Lib.hid (Cur.new w s)
  have HB1 := Lib.hid (HB.out.below (below_box w (.cells #[.string s, .int .i64 0] 79)) hgb)
  have HN1 := Lib.hid ((But.refl gb w).alloc (.cells #[.string s, .int .i64 0] 79))
  have z1 : w.heap.size < (w.alloc (.cells #[.string s, .int .i64 0] 79)).heap.size := by simp
  generalize w.alloc (.cells #[.string s, .int .i64 0] 79) = W1 at *
  go_wp2_with (go_at_call 81; refine (HU.out _ hc0.out).mono ?_; rintro e W2 ⟨rfl, hd⟩)
  exact ⟨rfl, rfl, HN1.out.then (hd.below _), nm, z, HB1.out.below (hd.below W1.heap.size) (by omega)⟩

set_option maxHeartbeats 1000000 in
set_option maxRecDepth 20000 in
theorem box1_name (gs gb : Nat) (s nm : ByteArray) (z : Int) (w : World) (h4 : 4 ≤ s.size) (h : s.size < 8) (hs : s.size ≤ maxLen) (h0 : w.cell? ⟨gs, 0, none⟩ = some (.string s)) (hb : BoxAt w gb nm z) :
    Calls Try.prog 86 #[.pointer (some ⟨gs, 0, none⟩), .pointer (some ⟨gb, 0, none⟩)] w fun e w' => e = .panicked [{ v := faultV 4 8, recovered := false }] ∧ But gb w w' ∧ SomeBox w' gb := by
  have hlt := sizeF_lt s
  have HU : Hid (∀ (w1 : World), Cur w1 w.heap.size s 0 → Calls Try.prog 81 #[.pointer (some ⟨w.heap.size, 0, none⟩)] w1 fun e w' => e = .returned (.int .u32 (sizeF s)) ∧ Moved w.heap.size s 4 w1 w') := Lib.hid (fun w1 h => U32_gives w.heap.size s 0 w1 h (by omega) hs)
  have HT1 : Hid (∀ (w1 : World), Cur w1 w.heap.size s 4 → Calls Try.prog 79 #[.pointer (some ⟨w.heap.size, 0, none⟩), .int .i64 4] w1 fun e w' => e = .panicked [{ v := faultV 4 8, recovered := false }] ∧ Drew w1 w') := Lib.hid (fun w1 h => by
    have := Take_throws w.heap.size s 4 4 w1 h (by omega) (.inr (by omega)) hs
    rwa [if_neg (by decide)] at this)
  generalize sizeF s = n at *
  have HB := Lib.hid hb
  have hgb := hb.lt
  clear hb
  go_enter Try.func86, Try.ntmps86
  go_wp2_with (go_at_call 20; refine (New_any _ _).mono ?_; rintro e w' ⟨rfl, rfl⟩)
  have hc0 := Lib.hid (Cur.new w s)
  have HB1 := Lib.hid (HB.out.below (below_box w (.cells #[.string s, .int .i64 0] 79)) hgb)
  have HN1 := Lib.hid ((But.refl gb w).alloc (.cells #[.string s, .int .i64 0] 79))
  have z1 : w.heap.size < (w.alloc (.cells #[.string s, .int .i64 0] 79)).heap.size := by simp
  generalize w.alloc (.cells #[.string s, .int .i64 0] 79) = W1 at *
  refine (HU.out _ hc0.out).mono ?_
  rintro e W2 ⟨rfl, hm⟩
  have HM := Lib.hid hm
  have HB2 := Lib.hid (HB1.out.but hm.2 (by omega))
  have c1 := HB2.out.size
  have f1 := HB2.out.free 1
  have HN2 := Lib.hid (HN1.out.then (hm.2.below (Nat.le_refl _) (by omega)))
  clear hm
  go_upto_region 2 with fail
  have HB3 := Lib.hid (HB2.out.setSize (n : Int))
  have HC3 := Lib.hid (HM.out.1.other (p := ⟨gb, 1, none⟩) (by show gb ≠ _; omega) (.int .i64 (n : Int)))
  have HN3 := Lib.hid (HN2.out.setCell (p := ⟨gb, 1, none⟩) (.inl rfl) (.int .i64 (n : Int)))
  clear c1 f1
  generalize W2.setCell ⟨gb, 1, none⟩ (.int .i64 (n : Int)) = W3 at *
  go_wp2_with (go_at_call 79; refine (HT1.out _ HC3.out).mono ?_; rintro e W4 ⟨rfl, hd⟩)
  exact ⟨rfl, rfl, HN3.out.then (hd.below _), nm, n, HB3.out.below (hd.below W3.heap.size) HB3.out.lt⟩

set_option maxHeartbeats 1000000 in
set_option maxRecDepth 20000 in
theorem box1_least (gs gb : Nat) (s nm : ByteArray) (z : Int) (w : World) (h8 : 8 ≤ s.size) (h : sizeF s < 8) (hs : s.size ≤ maxLen) (h0 : w.cell? ⟨gs, 0, none⟩ = some (.string s)) (hb : BoxAt w gb nm z) :
    Calls Try.prog 86 #[.pointer (some ⟨gs, 0, none⟩), .pointer (some ⟨gb, 0, none⟩)] w fun e w' => e = .panicked [{ v := faultV 0 2, recovered := false }] ∧ But gb w w' ∧ SomeBox w' gb := by
  have hlt := sizeF_lt s
  have HU : Hid (∀ (w1 : World), Cur w1 w.heap.size s 0 → Calls Try.prog 81 #[.pointer (some ⟨w.heap.size, 0, none⟩)] w1 fun e w' => e = .returned (.int .u32 (sizeF s)) ∧ Moved w.heap.size s 4 w1 w') := Lib.hid (fun w1 h => U32_gives w.heap.size s 0 w1 h (by omega) hs)
  have HT1 : Hid (∀ (w1 : World), Cur w1 w.heap.size s 4 → Calls Try.prog 79 #[.pointer (some ⟨w.heap.size, 0, none⟩), .int .i64 4] w1 fun e w' => e = .returned (.string (s.extract 4 8)) ∧ Moved w.heap.size s 8 w1 w') := Lib.hid (fun w1 h => Take_gives w.heap.size s 4 4 w1 h (by omega) hs)
  have H2 : Hid (thrownCode 2 = 2) := Lib.hid rfl
  generalize sizeF s = n at *
  have HB := Lib.hid hb
  have hgb := hb.lt
  clear hb
  go_enter Try.func86, Try.ntmps86
  go_wp2_with (go_at_call 20; refine (New_any _ _).mono ?_; rintro e w' ⟨rfl, rfl⟩)
  have hc0 := Lib.hid (Cur.new w s)
  have HB1 := Lib.hid (HB.out.below (below_box w (.cells #[.string s, .int .i64 0] 79)) hgb)
  have HN1 := Lib.hid ((But.refl gb w).alloc (.cells #[.string s, .int .i64 0] 79))
  have z1 : w.heap.size < (w.alloc (.cells #[.string s, .int .i64 0] 79)).heap.size := by simp
  generalize w.alloc (.cells #[.string s, .int .i64 0] 79) = W1 at *
  refine (HU.out _ hc0.out).mono ?_
  rintro e W2 ⟨rfl, hm⟩
  have HM := Lib.hid hm
  have HB2 := Lib.hid (HB1.out.but hm.2 (by omega))
  have c1 := HB2.out.size
  have f1 := HB2.out.free 1
  have HN2 := Lib.hid (HN1.out.then (hm.2.below (Nat.le_refl _) (by omega)))
  clear hm
  go_upto_region 2 with fail
  have HB3 := Lib.hid (HB2.out.setSize (n : Int))
  have HC3 := Lib.hid (HM.out.1.other (p := ⟨gb, 1, none⟩) (by show gb ≠ _; omega) (.int .i64 (n : Int)))
  have HN3 := Lib.hid (HN2.out.setCell (p := ⟨gb, 1, none⟩) (.inl rfl) (.int .i64 (n : Int)))
  clear c1 f1
  generalize W2.setCell ⟨gb, 1, none⟩ (.int .i64 (n : Int)) = W3 at *
  go_wp2_with fail
  refine (HT1.out _ HC3.out).mono ?_
  rintro e W4 ⟨rfl, hm⟩
  have HM4 := Lib.hid hm
  have HB4 := Lib.hid (HB3.out.but hm.2 (by omega))
  have c0 := HB4.out.name
  have c1 := HB4.out.size
  have f0 := HB4.out.free 0
  have HN4 := Lib.hid (HN3.out.then (hm.2.below (Nat.le_refl _) (by have := HC3.out.lt; omega)))
  have HB5 := Lib.hid (HB4.out.setName (s.extract 4 8))
  have HC5 := Lib.hid (HM4.out.1.other (p := ⟨gb, 0, none⟩) (by show gb ≠ _; omega) (.string (s.extract 4 8)))
  have HN5 := Lib.hid (HN4.out.setCell (p := ⟨gb, 0, none⟩) (.inl rfl) (.string (s.extract 4 8)))
  clear hm
  have d8 : decide (8 ≤ (n : Int)) = false := decide_eq_false (by omega)
  go_wp2_with (go_at_call 78; (with_reducible refine (Check_no _ _ _).mono ?_); rintro e w' ⟨rfl, rfl⟩; rw [H2.out])
  exact ⟨rfl, rfl, HN5.out, _, _, HB5.out⟩

set_option maxHeartbeats 1000000 in
set_option maxRecDepth 20000 in
theorem box1_more (gs gb : Nat) (s nm : ByteArray) (z : Int) (w : World) (h8 : 8 ≤ s.size) (hn : 8 ≤ sizeF s) (h : s.size < sizeF s) (hs : s.size ≤ maxLen) (h0 : w.cell? ⟨gs, 0, none⟩ = some (.string s)) (hb : BoxAt w gb nm z) :
    Calls Try.prog 86 #[.pointer (some ⟨gs, 0, none⟩), .pointer (some ⟨gb, 0, none⟩)] w fun e w' => e = .panicked [{ v := faultV 8 8, recovered := false }] ∧ But gb w w' ∧ SomeBox w' gb := by
  have hlt := sizeF_lt s
  have HU : Hid (∀ (w1 : World), Cur w1 w.heap.size s 0 → Calls Try.prog 81 #[.pointer (some ⟨w.heap.size, 0, none⟩)] w1 fun e w' => e = .returned (.int .u32 (sizeF s)) ∧ Moved w.heap.size s 4 w1 w') := Lib.hid (fun w1 h => U32_gives w.heap.size s 0 w1 h (by omega) hs)
  have HT1 : Hid (∀ (w1 : World), Cur w1 w.heap.size s 4 → Calls Try.prog 79 #[.pointer (some ⟨w.heap.size, 0, none⟩), .int .i64 4] w1 fun e w' => e = .returned (.string (s.extract 4 8)) ∧ Moved w.heap.size s 8 w1 w') := Lib.hid (fun w1 h => Take_gives w.heap.size s 4 4 w1 h (by omega) hs)
  have HT2 : Hid (∀ (w1 : World), Cur w1 w.heap.size s 8 → Calls Try.prog 79 #[.pointer (some ⟨w.heap.size, 0, none⟩), .int .i64 ((sizeF s : Int) - 8)] w1 fun e w' => e = .panicked [{ v := faultV 8 8, recovered := false }] ∧ Drew w1 w') := Lib.hid (fun w1 h => by
    have := Take_throws w.heap.size s 8 ((sizeF s : Int) - 8) w1 h (by omega) (.inr (by omega)) hs
    rwa [if_neg (by omega)] at this)
  generalize sizeF s = n at *
  have HB := Lib.hid hb
  have hgb := hb.lt
  clear hb
  go_enter Try.func86, Try.ntmps86
  go_wp2_with (go_at_call 20; refine (New_any _ _).mono ?_; rintro e w' ⟨rfl, rfl⟩)
  have hc0 := Lib.hid (Cur.new w s)
  have HB1 := Lib.hid (HB.out.below (below_box w (.cells #[.string s, .int .i64 0] 79)) hgb)
  have HN1 := Lib.hid ((But.refl gb w).alloc (.cells #[.string s, .int .i64 0] 79))
  have z1 : w.heap.size < (w.alloc (.cells #[.string s, .int .i64 0] 79)).heap.size := by simp
  generalize w.alloc (.cells #[.string s, .int .i64 0] 79) = W1 at *
  refine (HU.out _ hc0.out).mono ?_
  rintro e W2 ⟨rfl, hm⟩
  have HM := Lib.hid hm
  have HB2 := Lib.hid (HB1.out.but hm.2 (by omega))
  have c1 := HB2.out.size
  have f1 := HB2.out.free 1
  have HN2 := Lib.hid (HN1.out.then (hm.2.below (Nat.le_refl _) (by omega)))
  clear hm
  go_upto_region 2 with fail
  have HB3 := Lib.hid (HB2.out.setSize (n : Int))
  have HC3 := Lib.hid (HM.out.1.other (p := ⟨gb, 1, none⟩) (by show gb ≠ _; omega) (.int .i64 (n : Int)))
  have HN3 := Lib.hid (HN2.out.setCell (p := ⟨gb, 1, none⟩) (.inl rfl) (.int .i64 (n : Int)))
  clear c1 f1
  generalize W2.setCell ⟨gb, 1, none⟩ (.int .i64 (n : Int)) = W3 at *
  go_wp2_with fail
  refine (HT1.out _ HC3.out).mono ?_
  rintro e W4 ⟨rfl, hm⟩
  have HM4 := Lib.hid hm
  have HB4 := Lib.hid (HB3.out.but hm.2 (by omega))
  have c0 := HB4.out.name
  have c1 := HB4.out.size
  have f0 := HB4.out.free 0
  have HN4 := Lib.hid (HN3.out.then (hm.2.below (Nat.le_refl _) (by have := HC3.out.lt; omega)))
  have HB5 := Lib.hid (HB4.out.setName (s.extract 4 8))
  have HC5 := Lib.hid (HM4.out.1.other (p := ⟨gb, 0, none⟩) (by show gb ≠ _; omega) (.string (s.extract 4 8)))
  have HN5 := Lib.hid (HN4.out.setCell (p := ⟨gb, 0, none⟩) (.inl rfl) (.string (s.extract 4 8)))
  clear hm
  have d8 : decide (8 ≤ (n : Int)) = true := decide_eq_true (by omega)
  go_wp2_with (first | (go_at_call 78; (with_reducible refine (Check_yes _ _ _).mono ?_); rintro e w' ⟨rfl, rfl⟩) | (go_at_call 79; refine (HT2.out _ HC5.out).mono ?_; rintro e W6 ⟨rfl, hd⟩))
  exact ⟨rfl, rfl, HN5.out.then (hd.below _), _, _, HB5.out.below (hd.below _) HB5.out.lt⟩

theorem box1_fails (s : ByteArray) (hw : wholeX s = false) (hs : s.size ≤ maxLen) : ∃ a c : Int, ∀ (gs gb : Nat) (nm : ByteArray) (z : Int) (w : World), w.cell? ⟨gs, 0, none⟩ = some (.string s) → BoxAt w gb nm z →
    Calls Try.prog 86 #[.pointer (some ⟨gs, 0, none⟩), .pointer (some ⟨gb, 0, none⟩)] w fun e w' => e = .panicked [{ v := faultV a c, recovered := false }] ∧ But gb w w' ∧ SomeBox w' gb := by
  by_cases h4 : 4 ≤ s.size
  · by_cases h8 : 8 ≤ s.size
    · by_cases hn : 8 ≤ sizeF s
      · by_cases hm : sizeF s ≤ s.size
        · unfold wholeX at hw
          rw [decide_eq_true h8, decide_eq_true hn, decide_eq_true hm] at hw
          cases hw
        · exact ⟨8, 8, fun gs gb nm z w h0 hb => box1_more gs gb s nm z w h8 hn (by omega) hs h0 hb⟩
      · exact ⟨0, 2, fun gs gb nm z w h0 hb => box1_least gs gb s nm z w h8 (by omega) hs h0 hb⟩
    · exact ⟨4, 8, fun gs gb nm z w h0 hb => box1_name gs gb s nm z w h4 (by omega) hs h0 hb⟩
  · exact ⟨0, 8, fun gs gb nm z w h0 hb => box1_short gs gb s nm z w (by omega) hs h0 hb⟩

theorem entersBox1 : Enters 86 := fun args w => MuLone.run_callFunc_enter Try.func86 (by kernel_rfl) rfl args w

set_option maxHeartbeats 1000000 in
set_option maxRecDepth 20000 in
theorem box_yes (s : ByteArray) (w : World) (hw : wholeX s = true) (hs : s.size ≤ maxLen) :
    Calls Try.prog 74 #[.string s] w fun e w' => e = .returned (.tuple #[.agg #[.string (s.extract 4 8), .int .i64 (sizeF s)], .bool true]) ∧ Below w.heap.size w w' := by
  have hmf : ∀ (fn : Fn) (first cap : Array Value) (w : World), (Instr.makeFunc fn first cap).run Try.prog w = .ok (.func fn first cap) w := fun _ _ _ _ => rfl
  go_enter Try.func74, Try.ntmps74
  go_wp2_with fail
  generalize hW : (w.alloc (.cells #[.string s] 9)).alloc (.cells #[.string ⟨#[]⟩, .int .i64 0] 91) = W
  have z0 : W.heap.size = w.heap.size + 2 := by rw [← hW]; simp
  have c0 : W.cell? ⟨w.heap.size, 0, none⟩ = some (.string s) := by rw [← hW]; simp [go_sem]
  have hb0 : BoxAt W (w.heap.size + 1) ⟨#[]⟩ 0 := by rw [← hW]; have := heap_alloc_new (w.alloc (.cells #[.string s] 9)) (.cells #[.string ⟨#[]⟩, .int .i64 0] 91); simpa [BoxAt] using this
  have hB : Below w.heap.size w W := by rw [← hW]; exact (below_box w _).alloc (by simp) _
  have HZ0 := Lib.hid z0
  clear hW
  refine (Catch_gives 86 #[] #[.pointer (some ⟨w.heap.size, 0, none⟩), .pointer (some ⟨w.heap.size + 1, 0, none⟩)] W.heap.size (fun w' => Below w.heap.size w w' ∧ BoxAt w' (w.heap.size + 1) (s.extract 4 8) (sizeF s)) W entersBox1 (Nat.le_refl _) (fun w1 w2 hb2 hp => ⟨hp.1.trans (hb2.mono (by omega)), hp.2.below hb2 (by omega)⟩) ?_).mono ?_
  · intro w1 h1
    rw [Array.empty_append]
    refine (box1_gives w.heap.size (w.heap.size + 1) s ⟨#[]⟩ 0 w1 hw hs (by rw [cell_below h1 (by omega)]; exact c0) (hb0.below h1 (by omega))).mono ?_
    rintro e w' ⟨rfl, hn, hbx⟩
    have := h1.size
    exact ⟨rfl, hn.keeps (by omega), (hB.trans (h1.mono (by omega))).trans (hn.below (by omega) (by omega)), hbx⟩
  rintro e w2 ⟨rfl, _, hb2, hbx⟩
  have HB2 := Lib.hid hb2
  have HBX := Lib.hid hbx
  have d0 := hbx.name
  have d1 := hbx.size
  have f0 := hbx.free 0
  have f1 := hbx.free 1
  have z2 := hbx.lt
  clear hb2 hbx c0 hb0 hB z0 hw
  go_wp2_with fail
  refine bodyPost_ret (v := .tuple #[.agg #[.string (s.extract 4 8), .int .i64 (sizeF s)], .bool true]) ?_ rfl ⟨rfl, ?_⟩
  · simp [results, Try.results74, go_sem, d0, d1, z2]
  · exact ((HB2.out.setCell (p := ⟨w.heap.size + 1, 0, none⟩) (by simp) _).setCell (p := ⟨w.heap.size + 1, 1, none⟩) (by simp) _).alloc (by have := HB2.out.size; simp; omega) _

/-- What comes of no box. -/
def NoBox (w : World) (e : Ending) (w' : World) : Prop := ∃ (nm : ByteArray) (n : Int), e = .returned (.tuple #[.agg #[.string nm, .int .i64 n], .bool false]) ∧ Below w.heap.size w w'

set_option maxHeartbeats 1000000 in
set_option maxRecDepth 20000 in
theorem box_no (s : ByteArray) (w : World) (hw : wholeX s = false) (hs : s.size ≤ maxLen) :
    Calls Try.prog 74 #[.string s] w (NoBox w) := by
  obtain ⟨a, c, HK⟩ := box1_fails s hw hs
  have HKH := Lib.hid HK
  clear HK hw
  have hmf : ∀ (fn : Fn) (first cap : Array Value) (w : World), (Instr.makeFunc fn first cap).run Try.prog w = .ok (.func fn first cap) w := fun _ _ _ _ => rfl
  go_enter Try.func74, Try.ntmps74
  go_wp2_with fail
  generalize hW : (w.alloc (.cells #[.string s] 9)).alloc (.cells #[.string ⟨#[]⟩, .int .i64 0] 91) = W
  have z0 : W.heap.size = w.heap.size + 2 := by rw [← hW]; simp
  have c0 : W.cell? ⟨w.heap.size, 0, none⟩ = some (.string s) := by rw [← hW]; simp [go_sem]
  have hb0 : BoxAt W (w.heap.size + 1) ⟨#[]⟩ 0 := by rw [← hW]; have := heap_alloc_new (w.alloc (.cells #[.string s] 9)) (.cells #[.string ⟨#[]⟩, .int .i64 0] 91); simpa [BoxAt] using this
  have hB : Below w.heap.size w W := by rw [← hW]; exact (below_box w _).alloc (by simp) _
  have HZ0 := Lib.hid z0
  clear hW
  refine (Catch_throws 86 #[] #[.pointer (some ⟨w.heap.size, 0, none⟩), .pointer (some ⟨w.heap.size + 1, 0, none⟩)] a c W.heap.size (fun w' => Below w.heap.size w w' ∧ SomeBox w' (w.heap.size + 1)) W entersBox1 (Nat.le_refl _) (fun w1 w2 hb2 hp => ⟨hp.1.trans (hb2.mono (by omega)), by obtain ⟨nm, n, hx⟩ := hp.2; exact ⟨nm, n, hx.below hb2 (by omega)⟩⟩) ?_).mono ?_
  · intro w1 h1
    rw [Array.empty_append]
    refine (HKH.out w.heap.size (w.heap.size + 1) ⟨#[]⟩ 0 w1 (by rw [cell_below h1 (by omega)]; exact c0) (hb0.below h1 (by omega))).mono ?_
    rintro e w' ⟨rfl, hn, hbx⟩
    have := h1.size
    exact ⟨rfl, hn.keeps (by omega), (hB.trans (h1.mono (by omega))).trans (hn.below (by omega) (by omega)), hbx⟩
  rintro e w2 ⟨rfl, _, hb2, nm, n, hbx⟩
  have HB2 := Lib.hid hb2
  have d0 := hbx.name
  have d1 := hbx.size
  have f0 := hbx.free 0
  have f1 := hbx.free 1
  have z2 := hbx.lt
  clear hb2 hbx c0 hb0 hB z0
  go_wp2_with fail
  refine bodyPost_ret (v := .tuple #[.agg #[.string nm, .int .i64 n], .bool false]) ?_ rfl ⟨nm, n, rfl, ?_⟩
  · simp [results, Try.results74, go_sem, d0, d1, z2]
  · exact ((HB2.out.setCell (p := ⟨w.heap.size + 1, 0, none⟩) (by simp) _).setCell (p := ⟨w.heap.size + 1, 1, none⟩) (by simp) _).alloc (by have := HB2.out.size; simp; omega) _

end Go.Proofs.Ythmiadbeiggmlaa
