/-
  Walks of package cursor: bytes that are gone through.
-/
import Derived.Test.YtjlemghmpnkncaaDoorTrapB
import Derived.Test.YtjlemghmpnkncaaDoorClassB
import Derived.Test.YtjlemghmpnkncaaDoorSpanPlain
import Derived.Laws.Rows
import Derived.LaidEqlPtr
namespace Go.Proofs.YtjlemghmpnkncaaDoor
open Go.RowKit
set_option linter.unusedSimpArgs false
set_option linter.unusedVariables false

/-- Block g is just a cursor's two cells: the text, and how many bytes are gone by. -/
def Cur (w : World) (g : Nat) (s : ByteArray) (k : Nat) : Prop := w.heap[g]? = some (.cells #[.string s, .int .i64 k] 71 (0, 0))

theorem Cur.lt {w : World} {g : Nat} {s : ByteArray} {k : Nat} (h : Cur w g s k) : g < w.heap.size := by
  rcases Nat.lt_or_ge g w.heap.size with hlt | hge
  · exact hlt
  · unfold Cur at h; rw [Array.getElem?_eq_none hge] at h; cases h

theorem Cur.text {w : World} {g : Nat} {s : ByteArray} {k : Nat} (h : Cur w g s k) : w.cell? ⟨g, 0, none⟩ = some (.string s) := cell_of_row w g 0 _ _ (0, 0) h
theorem Cur.gone {w : World} {g : Nat} {s : ByteArray} {k : Nat} (h : Cur w g s k) : w.cell? ⟨g, 1, none⟩ = some (.int .i64 k) := cell_of_row w g 1 _ _ (0, 0) h
theorem Cur.free {w : World} {g : Nat} {s : ByteArray} {k : Nat} (h : Cur w g s k) (o : Nat) : w.frozen? ⟨g, o, none⟩ = false := by
  unfold Cur at h
  simp [World.frozen?, h]

theorem Cur.below {B : Nat} {w w' : World} {g : Nat} {s : ByteArray} {k : Nat} (h : Cur w g s k) (hb : Below B w w') (hg : g < B) : Cur w' g s k := (hb.block g hg).trans h

theorem Cur.stays {B g : Nat} {s : ByteArray} {k : Nat} (hg : g < B) : Stays B (fun w => Cur w g s k) := fun _ _ hb h => h.below hb hg

theorem Cur.set {w : World} {g : Nat} {s : ByteArray} {k : Nat} (h : Cur w g s k) (n : Nat) : Cur (w.setCell ⟨g, 1, none⟩ (.int .i64 n)) g s n := by
  unfold Cur at h ⊢
  simp [World.setCell, Array.getElem?_modify, h]

theorem Cur.new (w : World) (s : ByteArray) : Cur (w.alloc (.cells #[.string s, .int .i64 0] 71)) w.heap.size s 0 := heap_alloc_new w _

theorem Cur.drewN {w : World} {g : Nat} {s : ByteArray} {k : Nat} (h : Cur w g s k) (n : Nat) : Cur (w.drewN n) g s k := h

/-- Nothing but block g has turned. -/
def But (g : Nat) (w w' : World) : Prop := w.grownBy w' (some g)

theorem But.refl (g : Nat) (w : World) : But g w w := World.grownBy.refl w _

theorem But.drewN {g : Nat} {a w : World} (h : But g a w) (n : Nat) : But g a (w.drewN n) := ⟨h.os, h.tape, h.output, h.size, h.block⟩
theorem But.drew {g : Nat} {a w : World} (h : But g a w) : But g a w.drew := ⟨h.os, h.tape, h.output, h.size, h.block⟩

theorem But.alloc {g : Nat} {a w : World} (h : But g a w) (o : Obj) : But g a (w.alloc o) :=
  ⟨h.os, h.tape, h.output, Nat.le_trans h.size (by simp), fun i hi hne => (Below.heap_alloc w o i (Nat.lt_of_lt_of_le hi h.size)).trans (h.block i hi hne)⟩

theorem But.setCell {g : Nat} {a w : World} (h : But g a w) {p : Addr} (hp : p.block = g ∨ a.heap.size ≤ p.block) (u : Value) : But g a (w.setCell p u) :=
  ⟨h.os, h.tape, h.output, by simpa [World.setCell] using h.size, fun i hi hne => (Below.heap_setCell w p u i (by
    rintro rfl
    rcases hp with hp | hp
    · exact hne (by rw [hp])
    · omega)).trans (h.block i hi hne)⟩

theorem But.of_below {g : Nat} {a w : World} (h : Below a.heap.size a w) : But g a w := ⟨h.os, h.tape, h.output, h.size, fun i hi _ => h.block i hi⟩

theorem But.trans {g : Nat} {a b c : World} (h : But g a b) (k : But g b c) : But g a c :=
  ⟨k.os.trans h.os, k.tape.trans h.tape, k.output.trans h.output, Nat.le_trans h.size k.size, fun i hi hn => (k.block i (Nat.lt_of_lt_of_le hi h.size) hn).trans (h.block i hi hn)⟩

theorem But.below {g B : Nat} {a b : World} (h : But g a b) (hB : B ≤ g) (hs : B ≤ a.heap.size) : Below B a b :=
  ⟨h.os, h.tape, h.output, h.size, fun i hi => h.block i (by omega) (fun e => by injection e; omega)⟩

theorem But.keeps {g B : Nat} {a b : World} (h : But g a b) (hB : g < B) : Keeps B a b :=
  ⟨h.size, fun i h1 h2 => h.block i h2 (fun e => by injection e; omega)⟩

theorem But.stays {g B : Nat} {a : World} (hB : a.heap.size ≤ B) : Stays B (But g a) := fun w1 w2 hb h =>
  ⟨hb.os.trans h.os, hb.tape.trans h.tape, hb.output.trans h.output, Nat.le_trans h.size hb.size, fun i hi hn => (hb.block i (by omega)).trans (h.block i hi hn)⟩

theorem But.cell {g : Nat} {a b : World} (h : But g a b) {i o : Nat} (hi : i < a.heap.size) (hn : i ≠ g) : b.cell? ⟨i, o, none⟩ = a.cell? ⟨i, o, none⟩ :=
  World.cell?_of_block (w := a) (h.block i hi (fun e => by injection e; omega))

theorem New_any (s : ByteArray) (w : World) :
    Calls Tryd.prog 40 #[.string s] w fun e w' => e = .returned (.pointer (some ⟨w.heap.size, 0, none⟩)) ∧ w.alloc (.cells #[.string s, .int .i64 0] 71) = w' := by
  go_enter Tryd.func40, Tryd.ntmps40
  go_wp2_with fail
  go_ret
  exact ⟨rfl, rfl⟩

theorem place_any (g : Nat) (s : ByteArray) (k : Nat) (w : World) (h : Cur w g s k) :
    Calls Tryd.prog 111 #[.pointer (some ⟨g, 0, none⟩)] w fun e w' => e = .returned (.int .i64 k) ∧ w = w' := by
  have c1 := h.gone
  have hnn : ∀ w : World, (binOp .eql 55 (.pointer (some ⟨g, 0, none⟩)) (.pointer none)).run Tryd.prog w = .ok (.bool false) w := fun _ => by kernel_rfl
  go_enter Tryd.func111, Tryd.ntmps111
  go_wp2_with fail
  go_ret
  exact ⟨rfl, rfl⟩

theorem At_any (g : Nat) (s : ByteArray) (k : Nat) (w : World) (h : Cur w g s k) :
    Calls Tryd.prog 93 #[.pointer (some ⟨g, 0, none⟩)] w fun e w' => e = .returned (.int .i64 k) ∧ w = w' := by
  go_enter Tryd.func93, Tryd.ntmps93
  go_wp2_with (go_at_call 111; refine (place_any _ s k _ h).mono ?_; rintro e w' ⟨rfl, rfl⟩)
  go_ret
  exact ⟨rfl, rfl⟩

/-- What is left behind the first k bytes. -/
abbrev restB (s : ByteArray) (k : Nat) : ByteArray := s.extract k s.size

theorem rest_any (g : Nat) (s : ByteArray) (k : Nat) (w : World) (h : Cur w g s k) (hk : k ≤ s.size) (hs : s.size ≤ maxLen) :
    Calls Tryd.prog 98 #[.pointer (some ⟨g, 0, none⟩)] w fun e w' => e = .returned (.string (restB s k)) ∧ Drew w w' := by
  have c0 := h.text
  have c1 := h.gone
  unfold maxLen at hs
  go_enter Tryd.func98, Tryd.ntmps98
  go_wp2_with fail
  go_quiet (fail)
  go_wp2_with fail
  go_ret
  exact ⟨rfl, ⟨_, rfl⟩⟩

theorem restB_size (s : ByteArray) (k : Nat) (hk : k ≤ s.size) : (restB s k).size = s.size - k := by rw [extract_size]; omega

theorem restB_at (s : ByteArray) (k i : Nat) (hi : i < (restB s k).size) : (restB s k)[i] = s[k + i]'(by rw [extract_size] at hi; omega) := by
  simp [restB, ByteArray.getElem_extract]

theorem restB_take (s : ByteArray) (k n : Nat) (hn : k + n ≤ s.size) : (restB s k).extract 0 n = s.extract k (k + n) := by
  rw [restB, ByteArray.extract_extract]
  congr 1
  · omega

theorem End_any (g : Nat) (s : ByteArray) (k : Nat) (w : World) (h : Cur w g s k) (hk : k ≤ s.size) (hs : s.size ≤ maxLen) :
    Calls Tryd.prog 69 #[.pointer (some ⟨g, 0, none⟩)] w fun e w' => e = .returned (.bool (decide (k = s.size))) ∧ Drew w w' := by
  have hz := Lib.hid (restB_size s k hk)
  go_enter Tryd.func69, Tryd.ntmps69
  go_wp2_with (go_at_call 98; refine (rest_any _ s k _ h hk hs).mono ?_; rintro e w' ⟨rfl, hd⟩)
  go_ret
  refine ⟨ret_bool ?_, hd⟩
  have e1 : ((restB s k).toList.isEmpty) = decide (k = s.size) := by
    rw [Bool.eq_iff_iff, List.isEmpty_iff, decide_eq_true_eq, Lib.toList_data, ← List.length_eq_zero_iff, ← Lib.size_eq, hz.out]; omega
  exact e1

theorem Peek_yes (g : Nat) (s : ByteArray) (k i : Nat) (w : World) (h : Cur w g s k) (hi : k + i < s.size) (hs : s.size ≤ maxLen) :
    Calls Tryd.prog 106 #[.pointer (some ⟨g, 0, none⟩), .int .i64 i] w fun e w' => e = .returned (.tuple #[.int .u8 (s[k + i].toNat : Int), .bool true]) ∧ Drew w w' := by
  have hz := restB_size s k (by omega)
  have hlt : i < (restB s k).size := by omega
  have hat : (restB s k)[i] = s[k + i] := restB_at s k i hlt
  have hm : (restB s k).size ≤ 9223372036854775807 := by unfold maxLen at hs; omega
  have HC := Lib.hid (rest_any g s k w h (by omega) hs)
  generalize restB s k = t at *
  have HA := Lib.hid hat; clear hat hz
  go_enter Tryd.func106, Tryd.ntmps106
  go_wp2_with (go_at_call 98; refine HC.out.mono ?_; rintro e w' ⟨rfl, hd⟩)
  go_ret2
  refine ⟨?_, hd⟩
  rw [← HA.out]
  rfl

theorem Peek_no (g : Nat) (s : ByteArray) (k : Nat) (i : Int) (w : World) (h : Cur w g s k) (hk : k ≤ s.size) (hi : i < 0 ∨ (s.size : Int) - k ≤ i) (hs : s.size ≤ maxLen) :
    Calls Tryd.prog 106 #[.pointer (some ⟨g, 0, none⟩), .int .i64 i] w fun e w' => e = .returned (.tuple #[.int .u8 0, .bool false]) ∧ Drew w w' := by
  have hz := restB_size s k hk
  have hm : (restB s k).size ≤ 9223372036854775807 := by unfold maxLen at hs; omega
  have HC := Lib.hid (rest_any g s k w h hk hs)
  have hi2 : i < 0 ∨ ((restB s k).size : Int) ≤ i := by omega
  generalize restB s k = t at *
  clear hz hi
  rcases hi2 with hi2 | hi2
  · go_enter Tryd.func106, Tryd.ntmps106
    go_wp2_with (go_at_call 98; refine HC.out.mono ?_; rintro e w' ⟨rfl, hd⟩)
    go_ret2
    exact ⟨rfl, hd⟩
  · by_cases h0 : i < 0
    · go_enter Tryd.func106, Tryd.ntmps106
      go_wp2_with (go_at_call 98; refine HC.out.mono ?_; rintro e w' ⟨rfl, hd⟩)
      go_ret2
      exact ⟨rfl, hd⟩
    · go_enter Tryd.func106, Tryd.ntmps106
      go_wp2_with (go_at_call 98; refine HC.out.mono ?_; rintro e w' ⟨rfl, hd⟩)
      go_ret2
      exact ⟨rfl, hd⟩

/-- The cursor in block g has been moved, and nothing else. -/
def Moved (g : Nat) (s : ByteArray) (k : Nat) (w w' : World) : Prop := Cur w' g s k ∧ But g w w'

theorem Moved.stays {g : Nat} {s : ByteArray} {k : Nat} {w : World} (hg : g < w.heap.size) : Stays w.heap.size (Moved g s k w) :=
  (Cur.stays hg).and (But.stays (Nat.le_refl _))

theorem moved_set {g : Nat} {s : ByteArray} {k : Nat} {w w1 : World} (h : Cur w g s k) (hd : Drew w w1) (n : Nat) : Moved g s n w (w1.setCell ⟨g, 1, none⟩ (.int .i64 n)) := by
  obtain ⟨m, rfl⟩ := hd
  exact ⟨(h.drewN m).set n, ((But.refl _ _).drewN m).setCell (.inl rfl) _⟩

theorem Drew.cur {g : Nat} {s : ByteArray} {k : Nat} {w w1 : World} (hd : Drew w w1) (h : Cur w g s k) : Cur w1 g s k := by
  obtain ⟨m, rfl⟩ := hd
  exact h.drewN m

theorem take_gives (g : Nat) (s : ByteArray) (k n : Nat) (w : World) (h : Cur w g s k) (hn : k + n ≤ s.size) (hs : s.size ≤ maxLen) :
    Calls Tryd.prog 112 #[.pointer (some ⟨g, 0, none⟩), .int .i64 n] w fun e w' => e = .returned (.string (s.extract k (k + n))) ∧ Moved g s (k + n) w w' := by
  have hz := restB_size s k (by omega)
  have hm : (restB s k).size ≤ 9223372036854775807 := by unfold maxLen at hs; omega
  have hs2 : s.size ≤ 9223372036854775807 := by unfold maxLen at hs; omega
  have HC := Lib.hid (rest_any g s k w h (by omega) hs)
  have HT := Lib.hid (restB_take s k n hn)
  have hlt : n ≤ (restB s k).size := by omega
  have hnn : ∀ w : World, (binOp .neq 55 (.pointer (some ⟨g, 0, none⟩)) (.pointer none)).run Tryd.prog w = .ok (.bool true) w := fun _ => by kernel_rfl
  generalize restB s k = t at *
  clear hz
  have H := Lib.hid h
  clear h
  go_enter Tryd.func112, Tryd.ntmps112
  go_wp2_with fail
  refine HC.out.mono ?_
  rintro e w1 ⟨rfl, hd⟩
  have c1 := (hd.cur H.out).gone
  have f1 := (hd.cur H.out).free 1
  have HM := Lib.hid (moved_set H.out hd (k + n))
  clear hd
  go_wp2_with (go_at_call 73; refine (Check_yes _ _ _).mono ?_; rintro e w' ⟨rfl, rfl⟩)
  go_ret
  exact ⟨ret_string HT.out, by have := HM.out; simpa using this⟩

theorem take_throws (g : Nat) (s : ByteArray) (k : Nat) (n : Int) (w : World) (h : Cur w g s k) (hk : k ≤ s.size) (hn : n < 0 ∨ (s.size : Int) - k < n) (hs : s.size ≤ maxLen) :
    Calls Tryd.prog 112 #[.pointer (some ⟨g, 0, none⟩), .int .i64 n] w fun e w' => e = .panicked [{ v := faultV k (if n < 0 then 9 else 8), recovered := false }] ∧ Drew w w' := by
  have hz := restB_size s k hk
  have hm : (restB s k).size ≤ 9223372036854775807 := by unfold maxLen at hs; omega
  have hs2 : s.size ≤ 9223372036854775807 := by unfold maxLen at hs; omega
  have HC := Lib.hid (rest_any g s k w h (by omega) hs)
  have hlt : n < 0 ∨ ((restB s k).size : Int) < n := by omega
  have hnn : ∀ w : World, (binOp .neq 55 (.pointer (some ⟨g, 0, none⟩)) (.pointer none)).run Tryd.prog w = .ok (.bool true) w := fun _ => by kernel_rfl
  have H9 : Hid (thrownCode 9 = 9) := Lib.hid rfl
  have H8 : Hid (thrownCode 8 = 8) := Lib.hid rfl
  generalize restB s k = t at *
  clear hz hn
  have H := Lib.hid h
  clear h
  by_cases h0 : n < 0
  · have HI : Hid ((if n < 0 then (9 : Int) else 8) = 9) := Lib.hid (if_pos h0)
    have hd0 : decide (0 ≤ n) = false := decide_eq_false (by omega)
    go_enter Tryd.func112, Tryd.ntmps112
    go_wp2_with fail
    refine HC.out.mono ?_
    rintro e w1 ⟨rfl, hd⟩
    have c1 := (hd.cur H.out).gone
    go_wp2_with (first | (go_at_call 73; (with_reducible refine (Check_yes _ _ _).mono ?_); rintro e w' ⟨rfl, rfl⟩) | (go_at_call 73; (with_reducible refine (Check_no _ _ _).mono ?_); rintro e w' ⟨rfl, rfl⟩; rw [H9.out]))
    exact ⟨rfl, by first | rfl | rw [HI.out], hd⟩
  · have hlt2 : (t.size : Int) < n := by omega
    have HI : Hid ((if n < 0 then (9 : Int) else 8) = 8) := Lib.hid (if_neg h0)
    have hd0 : decide (n ≤ (t.size : Int)) = false := decide_eq_false (by omega)
    go_enter Tryd.func112, Tryd.ntmps112
    go_wp2_with fail
    refine HC.out.mono ?_
    rintro e w1 ⟨rfl, hd⟩
    have c1 := (hd.cur H.out).gone
    go_wp2_with (first | (go_at_call 73; (with_reducible refine (Check_yes _ _ _).mono ?_); rintro e w' ⟨rfl, rfl⟩) | (go_at_call 73; (with_reducible refine (Check_no _ _ _).mono ?_); rintro e w' ⟨rfl, rfl⟩; rw [H8.out]))
    exact ⟨rfl, by first | rfl | rw [HI.out], hd⟩

end Go.Proofs.YtjlemghmpnkncaaDoor
