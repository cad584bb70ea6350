/-
  Lemmas of this claim, part 2: the texts ClassB, SpanPlain, CursorA, CursorB, TrapVStr, TrapVU32, CursorC, BigPlain, CursorD, CursorE, CursorG, DecimalPlain, DecimalA, LastIn, LastIn2, StatF, one behind the other.
-/
import Derived.Test.YtfdacmccdipohaaM1
import Derived.Laws.IdiomStrings
import Derived.Conc.MuLone
import Derived.Deep.QuietTactic
import Derived.BigQuiet
import Derived.Laws.Rows
import Derived.LaidEqlPtr
import Derived.Test.YtfdacmccdipohaaShelf
import Derived.OrdersHeld
import Derived.StillTail
import Derived.Deep.RegionHeld
import Derived.Deep.RegionWith

namespace Go.Proofs.Ytfdacmccdipohaa
open Go.RowKit
set_option linter.unusedSimpArgs false
set_option linter.unusedVariables false

theorem Cut_any (s : ByteArray) (n : Nat) (w : World) (hs : s.size ≤ maxLen) (hn : (n : Int) ≤ 100000) :
    Calls Try.prog 14 #[.string s, .int .i64 n] w fun e w' => e = .returned (.string (cutB s n)) ∧ w = w' := by
  unfold maxLen at hs
  unfold cutB
  by_cases h : n < s.size
  · rw [if_pos h]
    go_enter Try.func14, Try.ntmps14
    go_wp2
    go_ret
    exact ⟨rfl, rfl⟩
  · rw [if_neg h]
    go_enter Try.func14, Try.ntmps14
    go_wp2
    go_ret
    exact ⟨rfl, rfl⟩

theorem Cut_100 (s : ByteArray) (w : World) (hs : s.size ≤ maxLen) :
    Calls Try.prog 14 #[.string s, .int .i64 100] w fun e w' => e = .returned (.string (cutB s 100)) ∧ w = w' :=
  Cut_any s 100 w hs (by decide)

theorem same_any (a b : ByteArray) (w : World) (ha : a.size ≤ maxLen) (hb : b.size ≤ maxLen) :
    Calls Try.prog 76 #[.string a, .string b] w fun e w' => e = .returned (.bool (lowerL a.data.toList == lowerL b.data.toList)) ∧ Drew w w' := by
  unfold maxLen at ha hb
  by_cases h : a.size = b.size
  · have HE := Lib.hid h; clear h
    have hne : ((a.size : Int) != (b.size : Int)) = false := by rw [HE.out]; simp
    go_enter Try.func76, Try.ntmps76
    go_wp2
    go_loopw [5, 13] (fun i i2 wr => ∃ k : Nat, k ≤ a.size ∧ i2 = .int .i64 k ∧ Drew w wr ∧ SameTo a b k) (fun _ i _ => a.size - (intOf i).toNat)
    case atStart => exact ⟨0, Nat.zero_le _, rfl, Drew.refl _, sameTo_zero a b⟩
    case round =>
      obtain ⟨k, hk, rfl, hd, hp⟩ := hrel
      have HP := Lib.hid hp; clear hp
      by_cases hlt : k < a.size
      · have hlt2 : k < b.size := by rw [← HE.out]; exact hlt
        go_wp2
        go_quiet ((go_at_call 85; exact quiet_same (low_any _ _)))
        go_wp2
        · go_ret
          exact ⟨ret_bool (sameTo_miss hlt hlt2 ‹_›).symm, hd.drewN _⟩
        · go_roundw
          case rel => exact ⟨k + 1, by omega, by go_num, hd.drewN _, sameTo_step HP.out hlt hlt2 ‹_›⟩
          case measure => simp [intOf]; omega
      · obtain rfl : k = a.size := by omega
        go_wp2
        go_ret
        exact ⟨ret_bool (sameTo_all HE.out HP.out).symm, hd⟩
  · have hne : ((a.size : Int) != (b.size : Int)) = true := by simp; omega
    have HE := Lib.hid h; clear h
    go_enter Try.func76, Try.ntmps76
    go_wp2
    go_ret
    exact ⟨ret_bool (same_size HE.out).symm, Drew.refl _⟩

theorem Same_any (a b : ByteArray) (w : World) (ha : a.size ≤ maxLen) (hb : b.size ≤ maxLen) :
    Calls Try.prog 62 #[.string a, .string b] w fun e w' => e = .returned (.bool (lowerL a.data.toList == lowerL b.data.toList)) ∧ Drew w w' := by
  go_enter Try.func62, Try.ntmps62
  go_wp2_with (go_at_call 76; refine (same_any _ _ _ ha hb).mono ?_; rintro e w' ⟨rfl, hd⟩)
  go_ret
  exact ⟨rfl, hd⟩

/-- Function K asks a byte whether p holds of it, and turns nothing. -/
def FnPure (K : FuncId) (p : UInt8 → Bool) : Prop :=
  (∀ (args : Array Value) (w : World), (callFunc K args).run Try.prog w = .ok (.enter K args) w) ∧
    ∀ (b : UInt8) (w : World), Calls Try.prog K #[.int .u8 b.toNat] w fun e w' => e = .returned (.bool (p b)) ∧ w = w'

theorem fnTabbed : FnPure 75 isTab :=
  ⟨fun args w => MuLone.run_callFunc_enter Try.func75 (by kernel_rfl) rfl args w, tabbed_any⟩

theorem fnDigit : FnPure 69 isDigit :=
  ⟨fun args w => MuLone.run_callFunc_enter Try.func69 (by kernel_rfl) rfl args w, Digit_any⟩

theorem rEnds_any (s : ByteArray) (w : World) (hs : s.size ≤ maxLen) :
    Calls Try.prog 33 #[.string s] w fun e w' => e = .returned (.string (endsB s)) ∧ w = w' := by
  unfold maxLen at hs
  go_enter Try.func33, Try.ntmps33
  go_wp2
  go_loop [0] (fun v => ∃ t : ByteArray, v = .string t ∧ t.size ≤ s.size ∧ trimEnd isTab t.data.toList = trimEnd isTab s.data.toList) (fun v => strLen v)
  case atStart => exact ⟨s, rfl, Nat.le_refl _, rfl⟩
  case round =>
    obtain ⟨t, rfl, hts, hp⟩ := hrel
    have HP := Lib.hid hp; clear hp
    by_cases hlt : 0 < t.size
    · cases hb : isTab t[t.size - 1]
      · have HB := Lib.hid hb; clear hb
        go_wp2_with (go_at_call 32; refine (rTab_any t[t.size - 1] _).mono ?_; rintro e w' ⟨rfl, rfl⟩; rw [HB.out])
        go_ret
        exact ⟨ret_string (endsB_stop isTab HP.out hlt HB.out), rfl⟩
      · have HB := Lib.hid hb; clear hb
        go_wp2_with (go_at_call 32; refine (rTab_any t[t.size - 1] _).mono ?_; rintro e w' ⟨rfl, rfl⟩; rw [HB.out])
        go_round
        case rel => exact ⟨_, rfl, by rw [extract_size]; omega, endsB_step isTab HP.out hlt HB.out⟩
        case measure => simp [strLen, ByteArray.size_extract]; omega
    · go_wp2
      go_ret
      exact ⟨ret_string (endsB_empty isTab HP.out (by omega)), rfl⟩

end Go.Proofs.Ytfdacmccdipohaa

namespace Go.Proofs.Ytfdacmccdipohaa
set_option linter.unusedSimpArgs false

/-- How many bytes ahead are of a kind. -/
def spanN (p : UInt8 → Bool) (l : List UInt8) : Nat := (l.takeWhile p).length

theorem spanN_le (p : UInt8 → Bool) (l : List UInt8) : spanN p l ≤ l.length := (List.takeWhile_prefix p).length_le

/-- The first n bytes of a text are of a kind. -/
def AllTo (p : UInt8 → Bool) (t : ByteArray) (n : Nat) : Prop := ∀ j (h : j < t.size), j < n → p t[j] = true

theorem spanN_list (p : UInt8 → Bool) (l : List UInt8) (n : Nat) (hn : n ≤ l.length) (h : ∀ j (h : j < l.length), j < n → p l[j] = true) (hend : ∀ (hlt : n < l.length), p l[n] = false) : spanN p l = n := by
  induction l generalizing n with
  | nil => simp at hn; subst hn; rfl
  | cons x l ih =>
    cases n with
    | zero =>
      have := hend (by simp)
      simp at this
      simp [spanN, List.takeWhile_cons, this]
    | succ n =>
      have hx : p x = true := h 0 (by simp) (by omega)
      have := ih n (by simpa using hn) (fun j hj hjn => h (j + 1) (by simpa using hj) (by omega)) (fun hlt => hend (by simpa using hlt))
      simp [spanN, List.takeWhile_cons, hx] at this ⊢
      exact this

theorem spanN_of (p : UInt8 → Bool) (t : ByteArray) (n : Nat) (hn : n ≤ t.size) (h : AllTo p t n) (hend : ∀ (hlt : n < t.size), p t[n] = false) : spanN p t.data.toList = n := by
  refine spanN_list p _ n (by rw [← Lib.size_eq]; exact hn) (fun j hj hjn => ?_) fun hlt => ?_
  · exact h j (by rw [Lib.size_eq]; exact hj) hjn
  · exact hend (by rw [Lib.size_eq]; exact hlt)

theorem allTo_step {p : UInt8 → Bool} {t : ByteArray} {n : Nat} (h : AllTo p t n) (hn : n < t.size) (hp : p t[n] = true) : AllTo p t (n + 1) := fun j hj hjn => by
  by_cases e : j = n
  · subst e; exact hp
  · exact h j hj (by omega)

end Go.Proofs.Ytfdacmccdipohaa

namespace Go.Proofs.Ytfdacmccdipohaa
open Go.RowKit
set_option linter.unusedSimpArgs false
set_option linter.unusedVariables false

/-- Block g is just a cursor's two cells: the text, and how many bytes are gone by. -/
def Cur (w : World) (g : Nat) (s : ByteArray) (k : Nat) : Prop := w.heap[g]? = some (.cells #[.string s, .int .i64 k] 83 (0, 0))

theorem Cur.lt {w : World} {g : Nat} {s : ByteArray} {k : Nat} (h : Cur w g s k) : g < w.heap.size := by
  rcases Nat.lt_or_ge g w.heap.size with hlt | hge
  · exact hlt
  · unfold Cur at h; rw [Array.getElem?_eq_none hge] at h; cases h

theorem Cur.text {w : World} {g : Nat} {s : ByteArray} {k : Nat} (h : Cur w g s k) : w.cell? ⟨g, 0, none⟩ = some (.string s) := cell_of_row w g 0 _ _ (0, 0) h
theorem Cur.gone {w : World} {g : Nat} {s : ByteArray} {k : Nat} (h : Cur w g s k) : w.cell? ⟨g, 1, none⟩ = some (.int .i64 k) := cell_of_row w g 1 _ _ (0, 0) h
theorem Cur.free {w : World} {g : Nat} {s : ByteArray} {k : Nat} (h : Cur w g s k) (o : Nat) : w.frozen? ⟨g, o, none⟩ = false := by
  unfold Cur at h
  simp [World.frozen?, h]

theorem Cur.below {B : Nat} {w w' : World} {g : Nat} {s : ByteArray} {k : Nat} (h : Cur w g s k) (hb : Below B w w') (hg : g < B) : Cur w' g s k := (hb.block g hg).trans h

theorem Cur.stays {B g : Nat} {s : ByteArray} {k : Nat} (hg : g < B) : Stays B (fun w => Cur w g s k) := fun _ _ hb h => h.below hb hg

theorem Cur.set {w : World} {g : Nat} {s : ByteArray} {k : Nat} (h : Cur w g s k) (n : Nat) : Cur (w.setCell ⟨g, 1, none⟩ (.int .i64 n)) g s n := by
  unfold Cur at h ⊢
  simp [World.setCell, Array.getElem?_modify, h]

theorem Cur.new (w : World) (s : ByteArray) : Cur (w.alloc (.cells #[.string s, .int .i64 0] 83)) w.heap.size s 0 := heap_alloc_new w _

theorem Cur.drewN {w : World} {g : Nat} {s : ByteArray} {k : Nat} (h : Cur w g s k) (n : Nat) : Cur (w.drewN n) g s k := h

/-- Nothing but block g has turned. -/
def But (g : Nat) (w w' : World) : Prop := w.grownBy w' (some g)

theorem But.refl (g : Nat) (w : World) : But g w w := World.grownBy.refl w _

theorem But.drewN {g : Nat} {a w : World} (h : But g a w) (n : Nat) : But g a (w.drewN n) := ⟨h.os, h.tape, h.output, h.size, h.block⟩
theorem But.drew {g : Nat} {a w : World} (h : But g a w) : But g a w.drew := ⟨h.os, h.tape, h.output, h.size, h.block⟩

theorem But.alloc {g : Nat} {a w : World} (h : But g a w) (o : Obj) : But g a (w.alloc o) :=
  ⟨h.os, h.tape, h.output, Nat.le_trans h.size (by simp), fun i hi hne => (Below.heap_alloc w o i (Nat.lt_of_lt_of_le hi h.size)).trans (h.block i hi hne)⟩

theorem But.setCell {g : Nat} {a w : World} (h : But g a w) {p : Addr} (hp : p.block = g ∨ a.heap.size ≤ p.block) (u : Value) : But g a (w.setCell p u) :=
  ⟨h.os, h.tape, h.output, by simpa [World.setCell] using h.size, fun i hi hne => (Below.heap_setCell w p u i (by
    rintro rfl
    rcases hp with hp | hp
    · exact hne (by rw [hp])
    · omega)).trans (h.block i hi hne)⟩

theorem But.of_below {g : Nat} {a w : World} (h : Below a.heap.size a w) : But g a w := ⟨h.os, h.tape, h.output, h.size, fun i hi _ => h.block i hi⟩

theorem But.trans {g : Nat} {a b c : World} (h : But g a b) (k : But g b c) : But g a c :=
  ⟨k.os.trans h.os, k.tape.trans h.tape, k.output.trans h.output, Nat.le_trans h.size k.size, fun i hi hn => (k.block i (Nat.lt_of_lt_of_le hi h.size) hn).trans (h.block i hi hn)⟩

theorem But.below {g B : Nat} {a b : World} (h : But g a b) (hB : B ≤ g) (hs : B ≤ a.heap.size) : Below B a b :=
  ⟨h.os, h.tape, h.output, h.size, fun i hi => h.block i (by omega) (fun e => by injection e; omega)⟩

theorem But.keeps {g B : Nat} {a b : World} (h : But g a b) (hB : g < B) : Keeps B a b :=
  ⟨h.size, fun i h1 h2 => h.block i h2 (fun e => by injection e; omega)⟩

theorem But.stays {g B : Nat} {a : World} (hB : a.heap.size ≤ B) : Stays B (But g a) := fun w1 w2 hb h =>
  ⟨hb.os.trans h.os, hb.tape.trans h.tape, hb.output.trans h.output, Nat.le_trans h.size hb.size, fun i hi hn => (hb.block i (by omega)).trans (h.block i hi hn)⟩

theorem But.cell {g : Nat} {a b : World} (h : But g a b) {i o : Nat} (hi : i < a.heap.size) (hn : i ≠ g) : b.cell? ⟨i, o, none⟩ = a.cell? ⟨i, o, none⟩ :=
  World.cell?_of_block (w := a) (h.block i hi (fun e => by injection e; omega))

theorem New_any (s : ByteArray) (w : World) :
    Calls Try.prog 59 #[.string s] w fun e w' => e = .returned (.pointer (some ⟨w.heap.size, 0, none⟩)) ∧ w.alloc (.cells #[.string s, .int .i64 0] 83) = w' := by
  go_enter Try.func59, Try.ntmps59
  go_wp2_with fail
  go_ret
  exact ⟨rfl, rfl⟩

theorem place_any (g : Nat) (s : ByteArray) (k : Nat) (w : World) (h : Cur w g s k) :
    Calls Try.prog 79 #[.pointer (some ⟨g, 0, none⟩)] w fun e w' => e = .returned (.int .i64 k) ∧ w = w' := by
  have c1 := h.gone
  have hnn : ∀ w : World, (binOp .eql 59 (.pointer (some ⟨g, 0, none⟩)) (.pointer none)).run Try.prog w = .ok (.bool false) w := fun _ => by kernel_rfl
  go_enter Try.func79, Try.ntmps79
  go_wp2_with fail
  go_ret
  exact ⟨rfl, rfl⟩

theorem At_any (g : Nat) (s : ByteArray) (k : Nat) (w : World) (h : Cur w g s k) :
    Calls Try.prog 65 #[.pointer (some ⟨g, 0, none⟩)] w fun e w' => e = .returned (.int .i64 k) ∧ w = w' := by
  go_enter Try.func65, Try.ntmps65
  go_wp2_with (go_at_call 79; refine (place_any _ s k _ h).mono ?_; rintro e w' ⟨rfl, rfl⟩)
  go_ret
  exact ⟨rfl, rfl⟩

/-- What is left behind the first k bytes. -/
abbrev restB (s : ByteArray) (k : Nat) : ByteArray := s.extract k s.size

theorem rest_any (g : Nat) (s : ByteArray) (k : Nat) (w : World) (h : Cur w g s k) (hk : k ≤ s.size) (hs : s.size ≤ maxLen) :
    Calls Try.prog 67 #[.pointer (some ⟨g, 0, none⟩)] w fun e w' => e = .returned (.string (restB s k)) ∧ Drew w w' := by
  have c0 := h.text
  have c1 := h.gone
  unfold maxLen at hs
  go_enter Try.func67, Try.ntmps67
  go_wp2_with fail
  go_quiet (fail)
  go_wp2_with fail
  go_ret
  exact ⟨rfl, ⟨_, rfl⟩⟩

theorem restB_size (s : ByteArray) (k : Nat) (hk : k ≤ s.size) : (restB s k).size = s.size - k := by rw [extract_size]; omega

theorem restB_at (s : ByteArray) (k i : Nat) (hi : i < (restB s k).size) : (restB s k)[i] = s[k + i]'(by rw [extract_size] at hi; omega) := by
  simp [restB, ByteArray.getElem_extract]

theorem restB_take (s : ByteArray) (k n : Nat) (hn : k + n ≤ s.size) : (restB s k).extract 0 n = s.extract k (k + n) := by
  rw [restB, ByteArray.extract_extract]
  congr 1
  · omega

theorem End_any (g : Nat) (s : ByteArray) (k : Nat) (w : World) (h : Cur w g s k) (hk : k ≤ s.size) (hs : s.size ≤ maxLen) :
    Calls Try.prog 70 #[.pointer (some ⟨g, 0, none⟩)] w fun e w' => e = .returned (.bool (decide (k = s.size))) ∧ Drew w w' := by
  have hz := Lib.hid (restB_size s k hk)
  go_enter Try.func70, Try.ntmps70
  go_wp2_with (go_at_call 67; refine (rest_any _ s k _ h hk hs).mono ?_; rintro e w' ⟨rfl, hd⟩)
  go_ret
  refine ⟨ret_bool ?_, hd⟩
  have e1 : ((restB s k).toList.isEmpty) = decide (k = s.size) := by
    rw [Bool.eq_iff_iff, List.isEmpty_iff, decide_eq_true_eq, Lib.toList_data, ← List.length_eq_zero_iff, ← Lib.size_eq, hz.out]; omega
  exact e1

theorem Peek_yes (g : Nat) (s : ByteArray) (k i : Nat) (w : World) (h : Cur w g s k) (hi : k + i < s.size) (hs : s.size ≤ maxLen) :
    Calls Try.prog 68 #[.pointer (some ⟨g, 0, none⟩), .int .i64 i] w fun e w' => e = .returned (.tuple #[.int .u8 (s[k + i].toNat : Int), .bool true]) ∧ Drew w w' := by
  have hz := restB_size s k (by omega)
  have hlt : i < (restB s k).size := by omega
  have hat : (restB s k)[i] = s[k + i] := restB_at s k i hlt
  have hm : (restB s k).size ≤ 9223372036854775807 := by unfold maxLen at hs; omega
  have HC := Lib.hid (rest_any g s k w h (by omega) hs)
  generalize restB s k = t at *
  have HA := Lib.hid hat; clear hat hz
  go_enter Try.func68, Try.ntmps68
  go_wp2_with (go_at_call 67; refine HC.out.mono ?_; rintro e w' ⟨rfl, hd⟩)
  go_ret2
  refine ⟨?_, hd⟩
  rw [← HA.out]
  rfl

theorem Peek_no (g : Nat) (s : ByteArray) (k : Nat) (i : Int) (w : World) (h : Cur w g s k) (hk : k ≤ s.size) (hi : i < 0 ∨ (s.size : Int) - k ≤ i) (hs : s.size ≤ maxLen) :
    Calls Try.prog 68 #[.pointer (some ⟨g, 0, none⟩), .int .i64 i] w fun e w' => e = .returned (.tuple #[.int .u8 0, .bool false]) ∧ Drew w w' := by
  have hz := restB_size s k hk
  have hm : (restB s k).size ≤ 9223372036854775807 := by unfold maxLen at hs; omega
  have HC := Lib.hid (rest_any g s k w h hk hs)
  have hi2 : i < 0 ∨ ((restB s k).size : Int) ≤ i := by omega
  generalize restB s k = t at *
  clear hz hi
  rcases hi2 with hi2 | hi2
  · go_enter Try.func68, Try.ntmps68
    go_wp2_with (go_at_call 67; refine HC.out.mono ?_; rintro e w' ⟨rfl, hd⟩)
    go_ret2
    exact ⟨rfl, hd⟩
  · by_cases h0 : i < 0
    · go_enter Try.func68, Try.ntmps68
      go_wp2_with (go_at_call 67; refine HC.out.mono ?_; rintro e w' ⟨rfl, hd⟩)
      go_ret2
      exact ⟨rfl, hd⟩
    · go_enter Try.func68, Try.ntmps68
      go_wp2_with (go_at_call 67; refine HC.out.mono ?_; rintro e w' ⟨rfl, hd⟩)
      go_ret2
      exact ⟨rfl, hd⟩

/-- The cursor in block g has been moved, and nothing else. -/
def Moved (g : Nat) (s : ByteArray) (k : Nat) (w w' : World) : Prop := Cur w' g s k ∧ But g w w'

theorem Moved.stays {g : Nat} {s : ByteArray} {k : Nat} {w : World} (hg : g < w.heap.size) : Stays w.heap.size (Moved g s k w) :=
  (Cur.stays hg).and (But.stays (Nat.le_refl _))

theorem moved_set {g : Nat} {s : ByteArray} {k : Nat} {w w1 : World} (h : Cur w g s k) (hd : Drew w w1) (n : Nat) : Moved g s n w (w1.setCell ⟨g, 1, none⟩ (.int .i64 n)) := by
  obtain ⟨m, rfl⟩ := hd
  exact ⟨(h.drewN m).set n, ((But.refl _ _).drewN m).setCell (.inl rfl) _⟩

theorem Drew.cur {g : Nat} {s : ByteArray} {k : Nat} {w w1 : World} (hd : Drew w w1) (h : Cur w g s k) : Cur w1 g s k := by
  obtain ⟨m, rfl⟩ := hd
  exact h.drewN m

end Go.Proofs.Ytfdacmccdipohaa

namespace Go.Proofs.Ytfdacmccdipohaa
open Go.RowKit
set_option linter.unusedSimpArgs false
set_option linter.unusedVariables false

theorem Cur.alloc {w : World} {g : Nat} {s : ByteArray} {k : Nat} (h : Cur w g s k) (o : Obj) : Cur (w.alloc o) g s k := (Below.heap_alloc w o g h.lt).trans h

theorem Moved.alloc {g : Nat} {s : ByteArray} {k : Nat} {w w' : World} (h : Moved g s k w w') (o : Obj) : Moved g s k w (w'.alloc o) := ⟨h.1.alloc o, h.2.alloc o⟩

theorem Moved.trans {g : Nat} {s : ByteArray} {k k2 : Nat} {w w1 w2 : World} (h : Moved g s k w w1) (h2 : Moved g s k2 w1 w2) : Moved g s k2 w w2 := ⟨h2.1, h.2.trans h2.2⟩

theorem moved_drew {g : Nat} {s : ByteArray} {k : Nat} {w w1 : World} (h : Cur w g s k) (hd : Drew w w1) : Moved g s k w w1 := by
  obtain ⟨m, rfl⟩ := hd
  exact ⟨h.drewN m, (But.refl _ _).drewN m⟩

theorem extract_at (s : ByteArray) (k j : Nat) (hk : k < s.size) (hj : 0 < (s.extract k j).size) : (s.extract k j)[0] = s[k] := by
  simp [ByteArray.getElem_extract]

theorem run_gives (g : Nat) (s : ByteArray) (k n : Nat) (w : World) (h : Cur w g s k) (hn : k + n ≤ s.size) (hs : s.size ≤ maxLen) :
    Calls Try.prog 74 #[.pointer (some ⟨g, 0, none⟩), .int .i64 n] w fun e w' => e = .returned (.string (s.extract k (k + n))) ∧ Moved g s (k + n) w w' := by
  have hz := restB_size s k (by omega)
  have hm : (restB s k).size ≤ 9223372036854775807 := by unfold maxLen at hs; omega
  have hs2 : s.size ≤ 9223372036854775807 := by unfold maxLen at hs; omega
  have HC := Lib.hid (rest_any g s k w h (by omega) hs)
  have HT := Lib.hid (restB_take s k n hn)
  have hlt : n ≤ (restB s k).size := by omega
  have hnn : ∀ w : World, (binOp .neq 59 (.pointer (some ⟨g, 0, none⟩)) (.pointer none)).run Try.prog w = .ok (.bool true) w := fun _ => by kernel_rfl
  generalize restB s k = t at *
  clear hz
  have H := Lib.hid h
  clear h
  go_enter Try.func74, Try.ntmps74
  go_wp2_with fail
  refine HC.out.mono ?_
  rintro e w1 ⟨rfl, hd⟩
  have c1 := (hd.cur H.out).gone
  have f1 := (hd.cur H.out).free 1
  have HM := Lib.hid (moved_set H.out hd (k + n))
  clear hd
  go_wp2_with fail
  go_ret
  exact ⟨ret_string HT.out, by have := HM.out; simpa using this⟩

theorem While_gives (K : FuncId) (p : UInt8 → Bool) (hK : FnPure K p) (g : Nat) (s : ByteArray) (k : Nat) (w : World) (h : Cur w g s k) (hk : k ≤ s.size) (hs : s.size ≤ maxLen) :
    Calls Try.prog 60 #[.pointer (some ⟨g, 0, none⟩), .func (.func K) #[] #[]] w fun e w' => e = .returned (.string (s.extract k (k + spanN p (restB s k).data.toList))) ∧ Moved g s (k + spanN p (restB s k).data.toList) w w' := by
  have hz := restB_size s k hk
  have hm : (restB s k).size ≤ 9223372036854775807 := by unfold maxLen at hs; omega
  have HC := Lib.hid (rest_any g s k w h hk hs)
  obtain ⟨hcf, hK2⟩ := hK
  have HK := Lib.hid hK2; clear hK2
  have hnn := fun (w : World) => run_neq_func_nil (P := Try.prog) w Try.underlying54 (.func K) #[] #[]
  generalize restB s k = t at *
  have hz1 : k + t.size ≤ s.size := by omega
  clear hz
  have H := Lib.hid h
  clear h
  go_enter Try.func60, Try.ntmps60
  go_wp2_with fail
  refine HC.out.mono ?_
  rintro e w1 ⟨rfl, hd⟩
  have h1 := Lib.hid (hd.cur H.out)
  have HM := Lib.hid (moved_drew H.out hd)
  clear hd
  go_wp2_with fail
  go_loop [5] (fun i => ∃ n : Nat, n ≤ t.size ∧ i = .int .i64 n ∧ AllTo p t n) (fun i => t.size - (intOf i).toNat)
  case atStart => exact ⟨0, Nat.zero_le _, rfl, fun j _ h => by omega⟩
  case round =>
    obtain ⟨n, hn, rfl, hp⟩ := hrel
    have HP := Lib.hid hp; clear hp
    by_cases hlt : n < t.size
    · cases hb : p t[n]
      · have HB := Lib.hid hb; clear hb
        have HS := Lib.hid (spanN_of p t n hn HP.out fun _ => HB.out)
        go_wp2_with fail
        refine (HK.out _ _).mono ?_
        rintro e w' ⟨rfl, rfl⟩
        rw [HB.out]
        go_wp2_with fail
        refine (run_gives g s k n w1 h1.out (by omega) hs).mono ?_
        rintro e w2 ⟨rfl, hm2⟩
        go_wp2_with fail
        go_ret
        rw [HS.out]
        exact ⟨rfl, HM.out.trans hm2⟩
      · have HB := Lib.hid hb; clear hb
        go_wp2_with fail
        refine (HK.out _ _).mono ?_
        rintro e w' ⟨rfl, rfl⟩
        rw [HB.out]
        go_wp2_with fail
        go_round
        case rel => exact ⟨n + 1, by omega, by go_num, allTo_step HP.out hlt HB.out⟩
        case measure => simp [intOf]; omega
    · obtain rfl : n = t.size := by omega
      have HS := Lib.hid (spanN_of p t t.size (Nat.le_refl _) HP.out fun h => absurd h hlt)
      go_wp2_with fail
      refine (run_gives g s k t.size w1 h1.out (by omega) hs).mono ?_
      rintro e w2 ⟨rfl, hm2⟩
      go_wp2_with fail
      go_ret
      rw [HS.out]
      exact ⟨rfl, HM.out.trans hm2⟩

/-- What a byte is that stops nothing. -/
def goesOn (stops : ByteArray) (b : UInt8) : Bool := !stops.data.toList.contains b

theorem indexByte_neg (stops : ByteArray) (b : UInt8) (r : Bool) (h : goesOn stops b = r) : decide (Lib.indexByte stops.data.toList b < 0) = r := by
  have h1 := indexByte_has stops.data.toList b
  subst h
  unfold goesOn
  rw [Bool.eq_iff_iff, decide_eq_true_eq, Bool.not_eq_true', ← Bool.not_eq_true, ← h1]
  omega

end Go.Proofs.Ytfdacmccdipohaa

namespace Go.Proofs.Ytfdacmccdipohaa
open Go.RowKit
set_option linter.unusedSimpArgs false
set_option linter.unusedVariables false

end Go.Proofs.Ytfdacmccdipohaa

namespace Go.Proofs.Ytfdacmccdipohaa
open Go.RowKit
set_option linter.unusedSimpArgs false
set_option linter.unusedVariables false

end Go.Proofs.Ytfdacmccdipohaa

namespace Go.Proofs.Ytfdacmccdipohaa
open Go.RowKit
set_option linter.unusedSimpArgs false
set_option linter.unusedVariables false

theorem one_byte {P : Program} (src dst e : TypeId) (b : UInt8) (hs : P.underlying src = some (.slice e)) (he : P.underlying e = some (.int .u8)) (hd : P.underlying dst = some .string) (w : World) (a : Nat) (ha : a = w.heap.size) :
    (convert src dst (.slice (some ⟨a, 0, none⟩) 1 1)).run P (w.alloc (.cells #[.int .u8 (b.toNat : Int)] e)) = .ok (.string ⟨#[b]⟩) (w.alloc (.cells #[.int .u8 (b.toNat : Int)] e)) := by
  subst ha
  refine run_convert_bytes_back (w.alloc (.cells #[.int .u8 (b.toNat : Int)] e)) src dst e ⟨w.heap.size, 0, none⟩ 1 [b] hs he hd ?_
  intro j hj
  simp at hj
  subst hj
  simp [go_sem, Addr.add]

end Go.Proofs.Ytfdacmccdipohaa

namespace Go.Proofs.Ytfdacmccdipohaa
set_option linter.unusedSimpArgs false
set_option linter.unusedVariables false

theorem or_byte_u32 (a b : Nat) (ha : a < 16777216) (hb : b < 256) : bits .or .u32 ((a : Int) * 256) (b : Int) = (a : Int) * 256 + b := by
  have h0 : (a : Int) * 256 = ((a * 256 : Nat) : Int) := by omega
  rw [h0]
  have h1 : (BitVec.ofInt 32 ((a * 256 : Nat) : Int)).toNat = a * 256 := by
    rw [BitVec.ofInt_natCast, BitVec.toNat_ofNat]; exact Nat.mod_eq_of_lt (by omega)
  have h2 : (BitVec.ofInt 32 (b : Int)).toNat = b := by
    rw [BitVec.ofInt_natCast, BitVec.toNat_ofNat]; exact Nat.mod_eq_of_lt (by omega)
  have h3 : a * 256 ||| b = a * 256 + b := by
    have := Nat.shiftLeft_add_eq_or_of_lt (i := 8) (b := b) (by simpa using hb) a
    rw [Nat.shiftLeft_eq] at this
    simpa using this.symm
  show IntKind.u32.wrap ((BitVec.ofInt 32 ((a * 256 : Nat) : Int) ||| BitVec.ofInt 32 (b : Int)).toNat : Int) = _
  rw [BitVec.toNat_or, h1, h2, h3]
  simp [IntKind.wrap, IntKind.bits, IntKind.signed]
  omega

/-- The number of bytes, the highest first. -/
def bigN (l : List UInt8) : Nat := l.foldl (fun n b => n * 256 + b.toNat) 0

theorem bigN_snoc (l : List UInt8) (b : UInt8) : bigN (l ++ [b]) = bigN l * 256 + b.toNat := by simp [bigN]

theorem bigFold_lt (l : List UInt8) (n : Nat) : l.foldl (fun n b => n * 256 + b.toNat) n < (n + 1) * 256 ^ l.length := by
  induction l generalizing n with
  | nil => simp
  | cons b l ih =>
    simp only [List.foldl_cons, List.length_cons]
    have h1 := ih (n * 256 + b.toNat)
    have h2 := b.toNat_lt
    have h3 : (n * 256 + b.toNat + 1) * 256 ^ l.length ≤ ((n + 1) * 256) * 256 ^ l.length := Nat.mul_le_mul_right _ (by omega)
    rw [Nat.pow_succ, Nat.mul_comm (256 ^ l.length) 256, ← Nat.mul_assoc]
    omega

theorem bigN_lt (l : List UInt8) : bigN l < 256 ^ l.length := by
  have := bigFold_lt l 0
  unfold bigN
  omega

end Go.Proofs.Ytfdacmccdipohaa

namespace Go.Proofs.Ytfdacmccdipohaa
open Go.RowKit
set_option linter.unusedSimpArgs false
set_option linter.unusedVariables false

end Go.Proofs.Ytfdacmccdipohaa

namespace Go.Proofs.Ytfdacmccdipohaa
open Go.RowKit
set_option linter.unusedSimpArgs false
set_option linter.unusedVariables false

end Go.Proofs.Ytfdacmccdipohaa

namespace Go.Proofs.Ytfdacmccdipohaa
open Go.RowKit
set_option linter.unusedSimpArgs false
set_option linter.unusedVariables false

/-- A text begins with another one. -/
def prefB (s p : ByteArray) : Bool := Lib.hasPrefix s.data.toList p.data.toList

theorem prefB_size {s p : ByteArray} (h : prefB s p = true) : p.size ≤ s.size := by
  unfold prefB Lib.hasPrefix at h
  rw [List.isPrefixOf_iff_prefix] at h
  rw [Lib.size_eq, Lib.size_eq]
  exact h.length_le

theorem prefB_eq (s p : ByteArray) (h : p.size ≤ s.size) : ((s.extract 0 p.size).toList == p.toList) = prefB s p := by
  unfold prefB Lib.hasPrefix
  rw [Bool.eq_iff_iff, beq_iff_eq, List.isPrefixOf_iff_prefix, Lib.toList_data, Lib.toList_data, ByteArray.data_extract, Array.toList_extract, List.extract_eq_take_drop, List.drop_zero, Nat.sub_zero, Lib.size_eq, List.prefix_iff_eq_take]
  exact eq_comm

theorem Skip_yes (p : ByteArray) (g : Nat) (s : ByteArray) (k : Nat) (w : World) (h : Cur w g s k) (hk : k ≤ s.size) (hs : s.size ≤ maxLen) (hp : prefB (restB s k) p = true) :
    Calls Try.prog 45 #[.pointer (some ⟨g, 0, none⟩), .string p] w fun e w' => e = .returned (.bool true) ∧ Moved g s (k + p.size) w w' := by
  have hz := prefB_size hp
  rw [restB_size s k hk] at hz
  have hs2 : s.size ≤ 9223372036854775807 := by unfold maxLen at hs; omega
  have hnn : ∀ w : World, (binOp .neq 59 (.pointer (some ⟨g, 0, none⟩)) (.pointer none)).run Try.prog w = .ok (.bool true) w := fun _ => by kernel_rfl
  have HC := Lib.hid (rest_any g s k w h hk hs)
  have HP : Hid (Lib.hasPrefix (restB s k).data.toList p.data.toList = true) := Lib.hid hp
  generalize restB s k = t at *
  have H := Lib.hid h
  clear h hp
  go_enter Try.func45, Try.ntmps45
  go_wp2_with fail
  refine HC.out.mono ?_
  rintro e w1 ⟨rfl, hd⟩
  have c1 := (hd.cur H.out).gone
  have f1 := (hd.cur H.out).free 1
  have HM := Lib.hid (moved_set H.out hd (k + p.size))
  clear hd
  go_wp2_with (go_at_call 66; refine (Try.strings_HasPrefix t p _).mono ?_; rintro e w' ⟨rfl, rfl⟩; rw [HP.out])
  go_ret
  exact ⟨rfl, by have := HM.out; simpa using this⟩

theorem Skip_no (p : ByteArray) (g : Nat) (s : ByteArray) (k : Nat) (w : World) (h : Cur w g s k) (hk : k ≤ s.size) (hs : s.size ≤ maxLen) (hp : prefB (restB s k) p = false) :
    Calls Try.prog 45 #[.pointer (some ⟨g, 0, none⟩), .string p] w fun e w' => e = .returned (.bool false) ∧ Moved g s k w w' := by
  have HC := Lib.hid (rest_any g s k w h hk hs)
  have HP : Hid (Lib.hasPrefix (restB s k).data.toList p.data.toList = false) := Lib.hid hp
  generalize restB s k = t at *
  have H := Lib.hid h
  clear h hp
  go_enter Try.func45, Try.ntmps45
  go_wp2_with fail
  refine HC.out.mono ?_
  rintro e w1 ⟨rfl, hd⟩
  have HM := Lib.hid (moved_drew H.out hd)
  clear hd
  go_wp2_with (go_at_call 66; refine (Try.strings_HasPrefix t p _).mono ?_; rintro e w' ⟨rfl, rfl⟩; rw [HP.out])
  go_ret
  exact ⟨rfl, HM.out⟩

theorem While_nil (g : Nat) (s : ByteArray) (w : World) (h : Cur w g s s.size) (hs : s.size ≤ maxLen) :
    Calls Try.prog 60 #[.pointer (some ⟨g, 0, none⟩), .nilFunc] w fun e w' => e = .returned (.string ⟨#[]⟩) ∧ Moved g s s.size w w' := by
  have HC := Lib.hid (rest_any g s s.size w h (Nat.le_refl _) hs)
  have hnn := fun (w : World) => run_neq_nil_func (P := Try.prog) w Try.underlying54
  have HE : Hid (s.extract s.size (s.size + 0) = ⟨#[]⟩) := Lib.hid (by
    apply ByteArray.ext
    rw [ByteArray.data_extract]
    simp)
  generalize restB s s.size = t at *
  have H := Lib.hid h
  clear h
  go_enter Try.func60, Try.ntmps60
  go_wp2_with fail
  refine HC.out.mono ?_
  rintro e w1 ⟨rfl, hd⟩
  have h1 := Lib.hid (hd.cur H.out)
  have HM := Lib.hid (moved_drew H.out hd)
  clear hd
  go_wp2_with fail
  refine wp_loop_rounds 1 ?_
  rw [rounds_succ]
  go_wp2_with fail
  refine (run_gives g s s.size 0 w1 h1.out (by omega) hs).mono ?_
  rintro e w2 ⟨rfl, hm2⟩
  rw [HE.out]
  go_wp2_with fail
  go_ret
  exact ⟨rfl, HM.out.trans hm2⟩

/-- A small letter. -/
def lowerC (b : UInt8) : Bool := decide (97 ≤ b.toNat) && decide (b.toNat ≤ 122)

end Go.Proofs.Ytfdacmccdipohaa

namespace Go.Proofs.Ytfdacmccdipohaa

def mostN : Nat := 9007199254740991

/-- The number of the digits of a text (whatever else it holds counts as some digit). -/
def valFrom (n : Nat) (l : List UInt8) : Nat := l.foldl (fun n b => 10 * n + (b.toNat - 48)) n
def valL (l : List UInt8) : Nat := valFrom 0 l

theorem valFrom_le (l : List UInt8) : ∀ n, n ≤ valFrom n l := by
  induction l with
  | nil => intro n; exact Nat.le_refl _
  | cons b l ih =>
    intro n
    have := ih (10 * n + (b.toNat - 48))
    unfold valFrom at this ⊢
    rw [List.foldl_cons]
    omega

theorem valL_take_le (l : List UInt8) (k : Nat) : valL (l.take k) ≤ valL l := by
  have h : valL l = valFrom (valL (l.take k)) (l.drop k) := by
    unfold valL valFrom
    rw [← List.foldl_append, List.take_append_drop]
  rw [h]
  exact valFrom_le _ _

theorem valL_at (s : ByteArray) (k : Nat) (hk : k < s.size) : valL (s.data.toList.take (k + 1)) = 10 * valL (s.data.toList.take k) + ((s[k]).toNat - 48) := by
  rw [List.take_succ_eq_append_getElem (by rw [← Lib.size_eq]; exact hk), ← getElem_data s k hk]
  unfold valL valFrom
  rw [List.foldl_append]
  rfl

/-- How many digits a text begins with. -/
def runL (l : List UInt8) : Nat := (l.takeWhile isDigit).length

theorem runL_le (l : List UInt8) : runL l ≤ l.length := (List.takeWhile_sublist _).length_le

theorem runL_leB (s : ByteArray) : runL s.data.toList ≤ s.size := by rw [Lib.size_eq]; exact runL_le _

/-- The first k bytes are digits. -/
def DigTo (s : ByteArray) (k : Nat) : Prop := (s.data.toList.take k).all isDigit = true

theorem digTo_zero (s : ByteArray) : DigTo s 0 := by simp [DigTo]

theorem digTo_step {s : ByteArray} {k : Nat} (h : DigTo s k) (hk : k < s.size) (hd : isDigit s[k] = true) : DigTo s (k + 1) := by
  unfold DigTo at *
  rw [List.take_succ_eq_append_getElem (by rw [← Lib.size_eq]; exact hk), List.all_append, h, ← getElem_data s k hk]
  simp [hd]

theorem runL_split (l : List UInt8) (k : Nat) (h : (l.take k).all isDigit = true) (hk : k ≤ l.length) : runL l = k + runL (l.drop k) := by
  induction k generalizing l with
  | zero => simp
  | succ k ih =>
    cases l with
    | nil => simp at hk
    | cons b l =>
      simp only [List.take_succ_cons, List.all_cons, Bool.and_eq_true] at h
      have := ih l h.2 (by simpa using hk)
      unfold runL at this ⊢
      rw [List.takeWhile_cons_of_pos h.1, List.length_cons, this, List.drop_succ_cons]
      omega

theorem runL_stop {s : ByteArray} {k : Nat} (h : DigTo s k) (hk : k < s.size) (hd : isDigit s[k] = false) : runL s.data.toList = k := by
  have hk' : k < s.data.toList.length := by rw [← Lib.size_eq]; exact hk
  rw [runL_split _ k h (by omega), List.drop_eq_getElem_cons hk', ← getElem_data s k hk]
  unfold runL
  rw [List.takeWhile_cons_of_neg (by simp [hd])]
  rfl

theorem runL_all {s : ByteArray} (h : DigTo s s.size) : runL s.data.toList = s.size := by
  rw [runL_split _ s.size h (by rw [← Lib.size_eq]; omega), drop_endB]
  rfl

theorem all_of_run {l : List UInt8} (h : runL l = l.length) : l.all isDigit = true := by
  induction l with
  | nil => rfl
  | cons b l ih =>
    unfold runL at h ih
    by_cases hb : isDigit b = true
    · rw [List.takeWhile_cons_of_pos hb] at h
      rw [List.all_cons, hb, Bool.true_and]
      exact ih (by simpa using h)
    · rw [List.takeWhile_cons_of_neg hb] at h
      simp at h

theorem run_of_all {l : List UInt8} (h : l.all isDigit = true) : runL l = l.length := by
  have := runL_split l l.length (by rw [List.take_length]; exact h) (Nat.le_refl _)
  rw [List.drop_length] at this
  exact this

theorem digTo_at {s : ByteArray} (h : s.data.toList.all isDigit = true) (k : Nat) (hk : k < s.size) : isDigit s[k] = true := by
  rw [getElem_data s k hk]
  exact List.all_eq_true.1 h _ (List.getElem_mem _)

/-- Which number a text is, and the code. -/
def parseOk (s : ByteArray) : Bool := !s.data.toList.isEmpty && s.data.toList.all isDigit
def parseN (s : ByteArray) : Int := if parseOk s = true ∧ valL s.data.toList ≤ mostN then (valL s.data.toList : Int) else 0
def parseE (s : ByteArray) : Int := if parseOk s = true then (if valL s.data.toList ≤ mostN then 0 else 9) else 2

theorem take_all_digits (l : List UInt8) : (l.take (runL l)).all isDigit = true := by
  induction l with
  | nil => rfl
  | cons b l ih =>
    unfold runL at *
    by_cases hb : isDigit b = true
    · rw [List.takeWhile_cons_of_pos hb, List.length_cons, List.take_succ_cons, List.all_cons, hb, ih]
      rfl
    · rw [List.takeWhile_cons_of_neg hb]
      rfl

/-- A nought ahead of another digit. -/
def strictOff (s : ByteArray) : Bool := decide (1 < s.size) && (s.data.toList.getD 0 0 == 48)
def strictN (s : ByteArray) : Int := if strictOff s then 0 else parseN s
def strictE (s : ByteArray) : Int := if strictOff s then 2 else parseE s

theorem strict_on {s : ByteArray} (h : strictOff s = true) : strictN s = 0 ∧ strictE s = 2 := by simp [strictN, strictE, h]

theorem strict_off {s : ByteArray} (h : strictOff s = false) : strictN s = parseN s ∧ strictE s = parseE s := by simp [strictN, strictE, h]

theorem strictOff_at (s : ByteArray) (h : 1 < s.size) : strictOff s = (((s[0]).toNat : Int) == 48) := by
  have e : s.data.toList.getD 0 0 = s[0] := by
    rw [getElem_data s 0 (by omega)]
    simp [List.getD, List.getElem?_eq_getElem (show 0 < s.data.toList.length by rw [← Lib.size_eq]; omega)]
  unfold strictOff
  rw [e, beq_u8, decide_eq_true h, Bool.true_and, Bool.eq_iff_iff, decide_eq_true_eq, beq_iff_eq]
  exact Iff.rfl

theorem strictOff_short (s : ByteArray) (h : ¬ 1 < s.size) : strictOff s = false := by
  simp [strictOff, h]

/-- Of a text: what stands in its first digits. -/
theorem extract_run (s : ByteArray) : (s.extract 0 (runL s.data.toList)).data.toList = s.data.toList.take (runL s.data.toList) := by
  rw [Lib.extract_data, List.drop_zero, Nat.sub_zero]

theorem extract_digits (s : ByteArray) : (s.extract 0 (runL s.data.toList)).data.toList.all isDigit = true := by
  rw [extract_run]; exact take_all_digits _

theorem parse_empty {s : ByteArray} (h : s.size = 0) : parseN s = 0 ∧ parseE s = 2 ∧ valL s.data.toList = 0 := by
  have : s.data.toList = [] := List.eq_nil_of_length_eq_zero (by rw [← Lib.size_eq]; exact h)
  simp [parseN, parseE, parseOk, this, valL, valFrom]

theorem parse_digits {s : ByteArray} (h0 : 0 < s.size) (hd : s.data.toList.all isDigit = true) :
    parseN s = (if valL s.data.toList ≤ mostN then (valL s.data.toList : Int) else 0) ∧ parseE s = (if valL s.data.toList ≤ mostN then 0 else 9) := by
  have hz : s.data.toList.isEmpty = false := by rw [List.isEmpty_eq_false_iff, ne_eq, ← List.length_eq_zero_iff, ← Lib.size_eq]; omega
  simp [parseN, parseE, parseOk, hz, hd]

theorem parse_bad {s : ByteArray} (hd : ¬ s.data.toList.all isDigit = true) : parseN s = 0 ∧ parseE s = 2 := by
  simp [parseN, parseE, parseOk, hd]

theorem not_all_at {s : ByteArray} {k : Nat} (hk : k < s.size) (hd : isDigit s[k] = false) : ¬ s.data.toList.all isDigit = true := by
  intro h
  rw [digTo_at h k hk] at hd
  exact absurd hd (by simp)

theorem all_of_digTo {s : ByteArray} (h : DigTo s s.size) : s.data.toList.all isDigit = true := by
  unfold DigTo at h
  rwa [take_allB] at h

end Go.Proofs.Ytfdacmccdipohaa

namespace Go.Proofs.Ytfdacmccdipohaa
open Go.RowKit
set_option linter.unusedSimpArgs false
set_option linter.unusedVariables false

set_option maxRecDepth 20000 in
theorem digits_any (s : ByteArray) (w : World) (hs : s.size ≤ maxLen) :
    Calls Try.prog 88 #[.string s] w fun e w' => e = .returned (.int .i64 (runL s.data.toList)) ∧ w = w' := by
  unfold maxLen at hs
  go_enter Try.func88, Try.ntmps88
  go_wp2
  go_loop [3] (fun i => ∃ k : Nat, k ≤ s.size ∧ i = .int .i64 k ∧ DigTo s k) (fun i => s.size - (intOf i).toNat)
  case atStart => exact ⟨0, Nat.zero_le _, rfl, digTo_zero s⟩
  case round =>
    obtain ⟨k, hk, rfl, hp⟩ := hrel
    have HP := Lib.hid hp; clear hp
    by_cases hlt : k < s.size
    · cases hb : isDigit s[k]
      · have HB := Lib.hid hb; clear hb
        go_wp2_with (go_at_call 69; refine (Digit_any _ _).mono ?_; rintro e w' ⟨rfl, rfl⟩; rw [HB.out])
        go_ret
        exact ⟨ret_int (by rw [runL_stop HP.out hlt HB.out]), rfl⟩
      · have HB := Lib.hid hb; clear hb
        go_wp2_with (go_at_call 69; refine (Digit_any _ _).mono ?_; rintro e w' ⟨rfl, rfl⟩; rw [HB.out])
        go_round
        case rel => exact ⟨k + 1, by omega, by go_num, digTo_step HP.out hlt HB.out⟩
        case measure => simp [intOf]; omega
    · obtain rfl : k = s.size := by omega
      go_wp2
      go_ret
      exact ⟨ret_int (by rw [runL_all HP.out]), rfl⟩

set_option maxRecDepth 20000 in
theorem Run_any (s : ByteArray) (w : World) (hs : s.size ≤ maxLen) :
    Calls Try.prog 35 #[.string s] w fun e w' => e = .returned (.int .i64 (runL s.data.toList)) ∧ w = w' := by
  unfold maxLen at hs
  go_enter Try.func35, Try.ntmps35
  go_wp2
  go_loop [3] (fun i => ∃ k : Nat, k ≤ s.size ∧ i = .int .i64 k ∧ DigTo s k) (fun i => s.size - (intOf i).toNat)
  case atStart => exact ⟨0, Nat.zero_le _, rfl, digTo_zero s⟩
  case round =>
    obtain ⟨k, hk, rfl, hp⟩ := hrel
    have HP := Lib.hid hp; clear hp
    by_cases hlt : k < s.size
    · cases hb : isDigit s[k]
      · have HB := Lib.hid hb; clear hb
        go_wp2_with (go_at_call 53; refine (rDigit_any _ _).mono ?_; rintro e w' ⟨rfl, rfl⟩; rw [HB.out])
        go_ret
        exact ⟨ret_int (by rw [runL_stop HP.out hlt HB.out]), rfl⟩
      · have HB := Lib.hid hb; clear hb
        go_wp2_with (go_at_call 53; refine (rDigit_any _ _).mono ?_; rintro e w' ⟨rfl, rfl⟩; rw [HB.out])
        go_round
        case rel => exact ⟨k + 1, by omega, by go_num, digTo_step HP.out hlt HB.out⟩
        case measure => simp [intOf]; omega
    · obtain rfl : k = s.size := by omega
      go_wp2
      go_ret
      exact ⟨ret_int (by rw [runL_all HP.out]), rfl⟩

set_option maxRecDepth 20000 in
theorem value_any (s : ByteArray) (w : World) (hs : s.size ≤ maxLen) (hd : s.data.toList.all isDigit = true) :
    Calls Try.prog 89 #[.string s] w fun e w' => e = .returned (.tuple #[.int .i64 (min (valL s.data.toList) mostN : Nat), .bool (decide (valL s.data.toList ≤ mostN))]) ∧ w = w' := by
  unfold maxLen at hs
  have HD := Lib.hid (digTo_at hd); clear hd
  go_enter Try.func89, Try.ntmps89
  go_wp2
  go_loop [4, 5, 8] (fun n i j => ∃ k : Nat, k ≤ s.size ∧ j = .int .i64 k ∧ n = .int .i64 (valL (s.data.toList.take k)) ∧ valL (s.data.toList.take k) ≤ mostN) (fun _ _ j => s.size - (intOf j).toNat)
  case atStart => exact ⟨0, Nat.zero_le _, rfl, rfl, Nat.zero_le _⟩
  case round =>
    obtain ⟨k, hk, rfl, rfl, hm⟩ := hrel
    unfold mostN at hm
    by_cases hlt : k < s.size
    · have hv := valL_at s k hlt
      have hx0 := HD.out k hlt
      have hle := valL_take_le s.data.toList (k + 1)
      have hidx := index_byte (P := Try.prog) 9 Try.underlying9 s k hlt
      generalize hx : s[k] = x at *
      have HX := Lib.hid hx; clear hx
      rw [isDigit_eq, decide_eq_true_eq] at hx0
      have hx1 : (48 : Int) ≤ x.toNat ∧ (x.toNat : Int) ≤ 57 := by omega
      clear hx0
      generalize hw0 : valL (s.data.toList.take k) = n at *
      have hn : (n : Int) ≤ 9007199254740991 := by omega
      have HV := Lib.hid hv; have HL := Lib.hid hle
      clear hv hle hw0 hm
      go_wp2
      · go_ret2
        exact ⟨ret_ib (by have h1 := HV.out; have h2 := HL.out; unfold mostN; omega) (decide_eq_false (by have h1 := HV.out; have h2 := HL.out; unfold mostN; omega)).symm, rfl⟩
      · go_round
        case rel => exact ⟨k + 1, by omega, by go_num, by rw [HV.out]; exact congrArg _ (by omega), by rw [HV.out]; unfold mostN; omega⟩
        case measure => simp [intOf]; omega
    · obtain rfl : k = s.size := by omega
      rw [take_allB] at *
      have HM : Hid (valL s.data.toList ≤ mostN) := Lib.hid hm
      clear hm
      go_wp2
      go_ret2
      exact ⟨ret_ib (by rw [Nat.min_eq_left HM.out]) (by rw [decide_eq_true HM.out]), rfl⟩

theorem parse_any (s : ByteArray) (w : World) (hs : s.size ≤ maxLen) :
    Calls Try.prog 82 #[.string s] w fun e w' => e = .returned (.tuple #[.int .i64 (parseN s), .int .i64 (parseE s)]) ∧ w = w' := by
  have hs' := hs
  unfold maxLen at hs'
  have hr := runL_leB s
  by_cases h0 : s.size = 0
  · have hz : s.toList.isEmpty = true := by rw [Lib.toList_data, List.isEmpty_iff, ← List.length_eq_zero_iff, ← Lib.size_eq]; exact h0
    have H : Hid (parseN s = 0 ∧ parseE s = 2) := Lib.hid (by
      rw [Lib.toList_data] at hz
      simp [parseN, parseE, parseOk, hz])
    clear h0
    go_enter Try.func82, Try.ntmps82
    go_wp2
    go_ret2
    exact ⟨ret_ii H.out.1.symm H.out.2.symm, rfl⟩
  · have hz : s.toList.isEmpty = false := by rw [Lib.toList_data, List.isEmpty_eq_false_iff, ne_eq, ← List.length_eq_zero_iff, ← Lib.size_eq]; exact h0
    have hz' : s.data.toList.isEmpty = false := by rw [← Lib.toList_data]; exact hz
    by_cases hall : s.data.toList.all isDigit = true
    · have hrun := run_of_all hall
      rw [← Lib.size_eq] at hrun
      have HRUN := Lib.hid hrun
      have hno : ¬ runL s.data.toList < s.size := by omega
      clear hrun
      by_cases hm : valL s.data.toList ≤ mostN
      · have H : Hid (parseN s = (min (valL s.data.toList) mostN : Nat) ∧ parseE s = 0) := Lib.hid (by
          rw [Nat.min_eq_left hm]; simp [parseN, parseE, parseOk, hz', hall, hm])
        have HM := Lib.hid (decide_eq_true hm)
        clear hm hz'
        go_enter Try.func82, Try.ntmps82
        go_wp2_with (first | (go_at_call 88; refine (digits_any _ _ hs).mono ?_; rintro e w' ⟨rfl, rfl⟩) | (go_at_call 89; refine (value_any _ _ hs hall).mono ?_; rintro e w' ⟨rfl, rfl⟩; rw [HM.out]))
        go_ret2
        exact ⟨ret_ii H.out.1.symm H.out.2.symm, rfl⟩
      · have H : Hid (parseN s = 0 ∧ parseE s = 9) := Lib.hid (by
          simp [parseN, parseE, parseOk, hz', hall, hm])
        have HM := Lib.hid (decide_eq_false hm)
        clear hm hz'
        go_enter Try.func82, Try.ntmps82
        go_wp2_with (first | (go_at_call 88; refine (digits_any _ _ hs).mono ?_; rintro e w' ⟨rfl, rfl⟩) | (go_at_call 89; refine (value_any _ _ hs hall).mono ?_; rintro e w' ⟨rfl, rfl⟩; rw [HM.out]))
        go_ret2
        exact ⟨ret_ii H.out.1.symm H.out.2.symm, rfl⟩
    · have H : Hid (parseN s = 0 ∧ parseE s = 2) := Lib.hid (by simp [parseN, parseE, parseOk, hall])
      have hlt : runL s.data.toList < s.size := by
        rcases Nat.lt_or_ge (runL s.data.toList) s.size with h | h
        · exact h
        · exact absurd (all_of_run (l := s.data.toList) (by rw [← Lib.size_eq]; omega)) hall
      clear hz' hall h0
      go_enter Try.func82, Try.ntmps82
      go_wp2_with (go_at_call 88; refine (digits_any _ _ hs).mono ?_; rintro e w' ⟨rfl, rfl⟩)
      go_ret2
      exact ⟨ret_ii H.out.1.symm H.out.2.symm, rfl⟩

theorem Parse_any (s : ByteArray) (w : World) (hs : s.size ≤ maxLen) :
    Calls Try.prog 71 #[.string s] w fun e w' => e = .returned (.tuple #[.int .i64 (parseN s), .int .i64 (parseE s)]) ∧ w = w' := by
  go_enter Try.func71, Try.ntmps71
  go_wp2_with (go_at_call 82; refine (parse_any _ _ hs).mono ?_; rintro e w' ⟨rfl, rfl⟩)
  go_ret2
  exact ⟨rfl, rfl⟩

/-- What a reader of digits holds behind k of them. -/
def ParseRel (s : ByteArray) (n o i : Value) : Prop :=
  ∃ k : Nat, ∃ N : Int, ∃ over : Bool, k ≤ s.size ∧ i = .int .i64 k ∧ n = .int .i64 N ∧ o = .bool over ∧ DigTo s k ∧ 0 ≤ N ∧ N ≤ 100000000000000000 ∧
    (over = false → N = (valL (s.data.toList.take k) : Int) ∧ N ≤ 9007199254740991) ∧ (over = true → 9007199254740991 < N ∧ mostN < valL (s.data.toList.take k))

set_option maxRecDepth 20000 in
theorem rParse_any (s : ByteArray) (w : World) (hs : s.size ≤ maxLen) :
    Calls Try.prog 54 #[.string s] w fun e w' => e = .returned (.tuple #[.int .i64 (parseN s), .int .i64 (parseE s)]) ∧ w = w' := by
  unfold maxLen at hs
  go_enter Try.func54, Try.ntmps54
  go_wp2
  go_loop [4, 5, 6] (fun n o i => ParseRel s n o i) (fun _ _ j => s.size - (intOf j).toNat)
  case atStart => exact ⟨0, 0, false, Nat.zero_le _, rfl, rfl, rfl, digTo_zero s, by omega, by omega, fun _ => ⟨rfl, by omega⟩, fun h => by cases h⟩
  case round =>
    obtain ⟨k, N, over, hk, rfl, rfl, rfl, hp, hN0, hN1, hf, ht⟩ := hrel
    have HP := Lib.hid hp; clear hp
    by_cases hlt : k < s.size
    · have hv := valL_at s k hlt
      have hle := valL_take_le s.data.toList (k + 1)
      have hidx := index_byte (P := Try.prog) 9 Try.underlying9 s k hlt
      have hnd := fun h => not_all_at (s := s) hlt h
      have hds := fun h => digTo_step (s := s) HP.out hlt h
      generalize hx : s[k] = x at *
      have HX := Lib.hid hx; clear hx
      cases hb : isDigit x
      · have H : Hid (parseN s = 0 ∧ parseE s = 2) := Lib.hid (parse_bad (hnd hb))
        have HB := Lib.hid hb
        clear hv hle hnd hds hf ht hb
        go_wp2_with (go_at_call 53; refine (rDigit_any _ _).mono ?_; rintro e w' ⟨rfl, rfl⟩; rw [HB.out])
        go_ret2
        exact ⟨ret_ii H.out.1.symm H.out.2.symm, rfl⟩
      · have HD := Lib.hid (hds hb)
        have hx0 := hb
        rw [isDigit_eq, decide_eq_true_eq] at hx0
        have hx1 : (48 : Int) ≤ x.toNat ∧ (x.toNat : Int) ≤ 57 := by omega
        have HB := Lib.hid hb
        have HV := Lib.hid hv; have HL := Lib.hid hle
        clear hx0 hb hnd hds hv hle
        cases over
        · obtain ⟨hf1, hf2⟩ := hf rfl
          have HF := Lib.hid hf1
          clear hf ht hf1
          go_wp2_with (go_at_call 53; refine (rDigit_any _ _).mono ?_; rintro e w' ⟨rfl, rfl⟩; rw [HB.out])
          go_round
          case rel =>
            have h1 := HV.out
            have h2 := HF.out
            exact ⟨k + 1, _, _, by omega, by go_num, rfl, rfl, HD.out, by omega, by omega, fun h => ⟨by omega, by simpa using h⟩, fun h => ⟨by simpa using h, by have := of_decide_eq_true h; unfold mostN; omega⟩⟩
          case measure => simp [intOf]; omega
        · obtain ⟨ht1, ht2⟩ := ht rfl
          have HT := Lib.hid ht2
          clear hf ht ht2
          go_wp2_with (go_at_call 53; refine (rDigit_any _ _).mono ?_; rintro e w' ⟨rfl, rfl⟩; rw [HB.out])
          go_round
          case rel => exact ⟨k + 1, N, true, by omega, by go_num, rfl, rfl, HD.out, hN0, hN1, (fun h => by cases h), fun _ => ⟨ht1, by have h1 := HV.out; have h2 := HT.out; omega⟩⟩
          case measure => simp [intOf]; omega
    · obtain rfl : k = s.size := by omega
      rw [take_allB] at *
      by_cases h0 : s.size = 0
      · have hz : s.toList.isEmpty = true := by rw [Lib.toList_data, List.isEmpty_iff, ← List.length_eq_zero_iff, ← Lib.size_eq]; exact h0
        obtain ⟨e1, e2, _⟩ := parse_empty h0
        have H := Lib.hid (And.intro e1 e2)
        clear e1 e2 h0 hf ht
        go_wp2
        all_goals go_ret2
        all_goals exact ⟨ret_ii H.out.1.symm H.out.2.symm, rfl⟩
      · have hz : s.toList.isEmpty = false := by rw [Lib.toList_data, List.isEmpty_eq_false_iff, ne_eq, ← List.length_eq_zero_iff, ← Lib.size_eq]; exact h0
        obtain ⟨e1, e2⟩ := parse_digits (s := s) (by omega) (all_of_digTo HP.out)
        cases over
        · obtain ⟨hf1, hf2⟩ := hf rfl
          have hm : valL s.data.toList ≤ mostN := by unfold mostN; omega
          rw [if_pos hm] at e1 e2
          have H : Hid (parseN s = N ∧ parseE s = 0) := Lib.hid ⟨by rw [e1]; exact hf1.symm, e2⟩
          clear e1 e2 h0 hf ht hf1 hm
          go_wp2
          go_ret2
          exact ⟨ret_ii H.out.1.symm H.out.2.symm, rfl⟩
        · obtain ⟨ht1, ht2⟩ := ht rfl
          have hm : ¬ valL s.data.toList ≤ mostN := by omega
          rw [if_neg hm] at e1 e2
          have H := Lib.hid (And.intro e1 e2)
          clear e1 e2 h0 hf ht hm ht2
          go_wp2
          go_ret2
          exact ⟨ret_ii H.out.1.symm H.out.2.symm, rfl⟩

end Go.Proofs.Ytfdacmccdipohaa

namespace Go.Proofs.Ytfdacmccdipohaa
open Go.RowKit
set_option linter.unusedSimpArgs false
set_option linter.unusedVariables false

section
variable {P : Program} {ops : Array Oper} {Q : Exit → Act → World → Prop} {md : Region.Mode} {S : World → Prop} {n : Nat}

/-- Whatever order is picked; S holds behind every operation ahead of number n. -/
def wpAnyN (P : Program) (md : Region.Mode) (ops : Array Oper) (Q : Exit → Act → World → Prop) (S : World → Prop) (n : Nat) : Nat → Array Bool → Act → World → Prop
  | 0, listed, a, w => Region.ready md ops listed = [] ∧ Q .normal a w
  | fuel + 1, listed, a, w => (Region.ready md ops listed = [] → Q .normal a w) ∧
    ∀ i ∈ Region.ready md ops listed, wpOp P ops Q i (fun a' w' => (i < n → S w') ∧ wpAnyN P md ops Q S n fuel (listed.setIfInBounds i true) a' w') a w

theorem wpAny_of_N : ∀ (fuel : Nat) (listed : Array Bool) (a : Act) (w : World), wpAnyN P md ops Q S n fuel listed a w → wpAny P md ops Q fuel listed a w
  | 0, _, _, _, h => h
  | fuel + 1, _, _, _, h => ⟨h.1, fun i hi => wpOp_mono (fun a' w' h' => wpAny_of_N fuel _ a' w' h'.2) (h.2 i hi)⟩

/-- The tail: nothing, or one operation that all others lead to. -/
def tailB (md : Region.Mode) (ops : Array Oper) (n : Nat) : Bool :=
  decide (n = ops.size) || (Region.sinkB md ops n && Region.chainB md ops n && decide (n < ops.size))

theorem tail_later {listed : Array Bool} {i : Nat} (ht : tailB md ops n = true) (inv : HeadInv md ops n listed) (hin : i < n) (hun : listed.getD i true = false) : ∀ j ∈ Region.ready md ops listed, j < n := by
  intro j hj
  unfold tailB at ht
  simp only [Bool.or_eq_true, Bool.and_eq_true, decide_eq_true_eq] at ht
  rcases ht with h | ⟨⟨hs, hc⟩, hn⟩
  · obtain ⟨_, o, ho, _⟩ := mem_ready.1 hj
    rw [h]
    exact (Array.getElem?_eq_some_iff.1 ho).1
  · rcases Nat.lt_or_ge j n with h | h
    · exact h
    · exact absurd hj (tail_waits hs hc hn inv _ i rfl hin hun j h)

theorem wpAnyN_first {i : Nat} {oi : Oper} {v : Value} (ht : tailB md ops n = true) (hin : i < n) (hi : ops[i]? = some oi) (hsel : ∀ (j : Nat) (o : Oper) cs b, ops[j]? = some o → o.op ≠ .select cs b)
    (hQ : ∀ c a w, Q (.panic c) (a.put oi.dst v) w → Q (.panic c) a w) :
    ∀ (fuel : Nat) (listed : Array Bool) (a : Act) (w : World), HeadInv md ops n listed →
      (∀ j oj, ops[j]? = some oj → j ≠ i → listed.getD j true = false → (∀ e ∈ oj.after, Region.binds md e = true → e.on ≠ i) → oi.apart ops oj = true) →
      i ∈ Region.ready md ops listed → YieldsIf P ops S oi v a → S w →
      wpAnyN P md ops Q S n fuel (listed.setIfInBounds i true) (a.put oi.dst v) w → wpAnyN P md ops Q S n (fuel + 1) listed a w := by
  intro fuel
  induction fuel with
  | zero =>
    intro listed a w inv hfree hr hy hS H
    refine ⟨fun h => (by rw [h] at hr; cases hr), fun j hj => ?_⟩
    by_cases hji : j = i
    · subst hji; exact hy.wpOp hi hS ⟨fun _ => hS, H⟩
    · have h1 := ready_mono hj hji
      rw [H.1] at h1
      cases h1
  | succ fuel ih =>
    intro listed a w inv hfree hr hy hS H
    have hun := (mem_ready.1 hr).1
    refine ⟨fun h => (by rw [h] at hr; cases hr), fun j hj => ?_⟩
    have hjn : j < n := tail_later ht inv hin hun j hj
    by_cases hji : j = i
    · subst hji; exact hy.wpOp hi hS ⟨fun _ => hS, H⟩
    · have h1 := H.2 j (ready_mono hj hji)
      obtain ⟨hjun, oj, hoj, hall⟩ := mem_ready.1 hj
      have hnot : ∀ e ∈ oj.after, Region.binds md e = true → e.on ≠ i := fun e he hb heq => by
        have h3 := hall e he hb
        rw [heq, getD_both hun] at h3
        cases h3
      have h2 := wpOp_putIf hoj (hfree j oj hoj hji hjun hnot) (fun cs b => hsel i oi cs b hi) (fun cs b => hsel j oj cs b hoj) hQ hy h1
      have hfree2 : ∀ k ok, ops[k]? = some ok → k ≠ i → (listed.setIfInBounds j true).getD k true = false → (∀ e ∈ ok.after, Region.binds md e = true → e.on ≠ i) → oi.apart ops ok = true := by
        intro k ok hk hki hunk hno
        refine hfree k ok hk hki ?_ hno
        by_cases hjk : j = k
        · subst hjk; exact hjun
        · rw [getD_set_ne true hjk] at hunk; exact hunk
      refine wpOp_mono (fun a' w' h3 => ?_) h2
      have hS2 : S w' := h3.2.1 hjn
      refine ⟨fun _ => hS2, ih (listed.setIfInBounds j true) a' w' (inv.set hj hjn) hfree2 (ready_mono hr (Ne.symm hji)) h3.1 hS2 ?_⟩
      rw [Array.setIfInBounds_comm _ _ hji]
      exact h3.2.2

/-- The walk's judgement. -/
def NJ (P : Program) (md : Region.Mode) (ops : Array Oper) (Q : Exit → Act → World → Prop) (S : World → Prop) (n fuel : Nat) (listed : Array Bool) (a : Act) (w : World) : Prop :=
  HeadInv md ops n listed → S w → wpAnyN P md ops Q S n fuel listed a w

theorem NJ.take {i : Nat} {oi : Oper} {v : Value} {fuel : Nat} {listed : Array Bool} {a : Act} {w : World} (hi : ops[i]? = some oi) (hin : decide (i < n) = true) (ht : tailB md ops n = true)
    (hs : Region.noSelect ops = true) (hf : Region.free md ops listed i = true) (hr : (Region.ready md ops listed).contains i = true)
    (hQ : ∀ c a w, Q (.panic c) (a.put oi.dst v) w → Q (.panic c) a w) (hy : YieldsIf P ops S oi v a)
    (h : NJ P md ops Q S n fuel (listed.setIfInBounds i true) (a.put oi.dst v) w) : NJ P md ops Q S n (fuel + 1) listed a w := by
  intro inv hS
  have hr2 : i ∈ Region.ready md ops listed := by simpa using hr
  have hin2 : i < n := of_decide_eq_true hin
  exact wpAnyN_first ht hin2 hi (Region.noSelect_spec hs) hQ fuel listed a w inv (Region.free_spec hi hf) hr2 hy hS (h (inv.set hr2 hin2) hS)

theorem NJ.step {i : Nat} {o : Oper} {fuel : Nat} {listed : Array Bool} {a : Act} {w : World} (ho : ops[i]? = some o) (hin : decide (i < n) = true) (hr : Region.ready md ops listed = [i])
    (h : S w → ∀ K' : Act → World → Prop, Shut (∀ a w, S w → NJ P md ops Q S n fuel (listed.setIfInBounds i true) a w → K' a w) → if Region.wanted o (yielded ops a.tmps) = true then Oper.wp P o a w K' Q else K' (a.put o.dst undef) w) :
    NJ P md ops Q S n (fuel + 1) listed a w := by
  intro inv hS
  have hin2 : i < n := of_decide_eq_true hin
  refine ⟨fun h0 => (by rw [hr] at h0; cases h0), fun j hj => ?_⟩
  have hj2 : j = i := by rw [hr] at hj; simpa using hj
  subst hj2
  exact wpOp_step ho (fun K' hK => h hS K' (fun a w hS2 hN => hK a w ⟨fun _ => hS2, hN (inv.set hj hin2) hS2⟩))

theorem NJ.last {o : Oper} {fuel : Nat} {listed : Array Bool} {a : Act} {w : World} (ho : ops[n]? = some o) (hr : Region.ready md ops listed = [n]) (hr2 : Region.ready md ops (listed.setIfInBounds n true) = [])
    (h : S w → ∀ K' : Act → World → Prop, Shut (∀ a w, Q .normal a w → K' a w) → if Region.wanted o (yielded ops a.tmps) = true then Oper.wp P o a w K' Q else K' (a.put o.dst undef) w) :
    NJ P md ops Q S n (fuel + 1) listed a w := by
  intro inv hS
  refine ⟨fun h0 => (by rw [hr] at h0; cases h0), fun j hj => ?_⟩
  have hj2 : j = n := by rw [hr] at hj; simpa using hj
  subst hj2
  refine wpOp_step ho (fun K' hK => h hS K' (fun a w hq => hK a w ⟨fun hlt => absurd hlt (Nat.lt_irrefl _), ?_⟩))
  cases fuel with
  | zero => exact ⟨hr2, hq⟩
  | succ f => exact ⟨fun _ => hq, fun i hi => (by rw [hr2] at hi; cases hi)⟩

theorem NJ.done {fuel : Nat} {listed : Array Bool} {a : Act} {w : World} (hr : Region.ready md ops listed = []) (h : S w → Q .normal a w) : NJ P md ops Q S n fuel listed a w := by
  intro inv hS
  cases fuel with
  | zero => exact ⟨hr, h hS⟩
  | succ f => exact ⟨fun _ => h hS, fun i hi => (by rw [hr] at hi; cases hi)⟩

/-- The beginning. -/
theorem wp_region_N (n : Nat) (S : World → Prop) {id : Nat} {a : Act} {w : World} (hm : P.follows .mixedOrders = true) (hn : decide (n ≤ ops.size) = true) (hS : S w.drew)
    (h : NJ P .any ops Q S n ops.size (Array.replicate ops.size false) a w.drew) : (Code.region id ops true).wp P Q a w := by
  refine wp_region_any hm (wpAny_of_N _ _ _ _ (h ⟨by simp, fun j oj _ hl => (by rw [getD_replicate_false] at hl; cases hl), fun t _ ht => ?_⟩ hS))
  exact getD_in (by simpa using ht) (getD_replicate_false _ _)

end

end Go.Proofs.Ytfdacmccdipohaa

namespace Go.Proofs.Ytfdacmccdipohaa
open Go.RowKit
set_option linter.unusedSimpArgs false
set_option linter.unusedVariables false

section
variable {P : Program} {ops : Array Oper} {Q : Exit → Act → World → Prop} {md : Region.Mode} {S : World → Prop} {n : Nat}

/-- The first of the last ones. -/
theorem NJ.over {o : Oper} {fuel : Nat} {listed : Array Bool} {a : Act} {w : World} (ho : ops[n]? = some o) (hr : Region.ready md ops listed = [n])
    (h : S w → ∀ K' : Act → World → Prop, Shut (∀ a w, wpAnyN P md ops Q S n fuel (listed.setIfInBounds n true) a w → K' a w) → if Region.wanted o (yielded ops a.tmps) = true then Oper.wp P o a w K' Q else K' (a.put o.dst undef) w) :
    NJ P md ops Q S n (fuel + 1) listed a w := by
  intro inv hS
  refine ⟨fun h0 => (by rw [hr] at h0; cases h0), fun j hj => ?_⟩
  have hj2 : j = n := by rw [hr] at hj; simpa using hj
  subst hj2
  exact wpOp_step ho (fun K' hK => h hS K' (fun a w hq => hK a w ⟨fun hlt => absurd hlt (Nat.lt_irrefl _), hq⟩))

theorem wpAnyN_tail {i : Nat} {o : Oper} {fuel : Nat} {listed : Array Bool} {a : Act} {w : World} (ho : ops[i]? = some o) (hge : decide (n ≤ i) = true) (hr : Region.ready md ops listed = [i])
    (h : ∀ K' : Act → World → Prop, Shut (∀ a w, wpAnyN P md ops Q S n fuel (listed.setIfInBounds i true) a w → K' a w) → if Region.wanted o (yielded ops a.tmps) = true then Oper.wp P o a w K' Q else K' (a.put o.dst undef) w) :
    wpAnyN P md ops Q S n (fuel + 1) listed a w := by
  have hge2 : n ≤ i := of_decide_eq_true hge
  refine ⟨fun h0 => (by rw [hr] at h0; cases h0), fun j hj => ?_⟩
  have hj2 : j = i := by rw [hr] at hj; simpa using hj
  subst hj2
  exact wpOp_step ho (fun K' hK => h K' (fun a w hq => hK a w ⟨fun hlt => absurd hlt (Nat.not_lt.2 hge2), hq⟩))

theorem wpAnyN_fin {fuel : Nat} {listed : Array Bool} {a : Act} {w : World} (hr : Region.ready md ops listed = []) (h : Q .normal a w) : wpAnyN P md ops Q S n fuel listed a w := by
  cases fuel with
  | zero => exact ⟨hr, h⟩
  | succ f => exact ⟨fun _ => h, fun i hi => (by rw [hr] at hi; cases hi)⟩

end

end Go.Proofs.Ytfdacmccdipohaa

namespace Go.Proofs.Ytfdacmccdipohaa
open Go.RowKit
set_option linter.unusedSimpArgs false
set_option linter.unusedVariables false

theorem take_snocB (s : ByteArray) (k : Nat) (h : k < s.size) : s.data.toList.take (k + 1) = s.data.toList.take k ++ [s[k]] := by
  rw [List.take_succ_eq_append_getElem (by rw [← Lib.size_eq]; exact h)]; rfl

theorem cnt_all (p : UInt8 → Bool) (l : List UInt8) : ((cnt p l : Int) == (l.length : Int)) = l.all p := by
  unfold cnt
  rw [Bool.eq_iff_iff, beq_iff_eq, List.all_eq_true]
  constructor
  · intro h
    exact List.length_filter_eq_length_iff.1 (by omega)
  · intro h
    rw [List.length_filter_eq_length_iff.2 h]

def quoL (l : List UInt8) : Bool := l.all isQuoted

end Go.Proofs.Ytfdacmccdipohaa
