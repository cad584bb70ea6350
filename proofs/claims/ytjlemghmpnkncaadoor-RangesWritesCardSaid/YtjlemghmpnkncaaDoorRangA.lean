/-
  Walks of package ranges: a cursor's deeds, said of what is left; the reader.
-/
import Derived.Test.YtjlemghmpnkncaaDoorCursorG
import Derived.Test.YtjlemghmpnkncaaDoorDecimalA
import Derived.Test.YtjlemghmpnkncaaDoorLastIn2
import Derived.Test.YtjlemghmpnkncaaDoorStatF
namespace Go.Proofs.YtjlemghmpnkncaaDoor
open Go.RowKit
set_option linter.unusedSimpArgs false
set_option linter.unusedVariables false

/-- A text of bytes. -/
def bl (l : List UInt8) : ByteArray := ⟨l.toArray⟩

theorem bl_list (l : List UInt8) : (bl l).data.toList = l := by simp [bl]

theorem bl_size (l : List UInt8) : (bl l).size = l.length := by rw [Lib.size_eq, bl_list]

theorem bl_back (s : ByteArray) : bl s.data.toList = s := bytes_ext (bl_list _)

theorem bl_nil (l : List UInt8) : ((bl l).toList = []) = (l = []) := by rw [Lib.toList_data, bl_list]

/-- What is left behind a place. -/
def lef (s : ByteArray) (k : Nat) : List UInt8 := s.data.toList.drop k

theorem lef_rest (s : ByteArray) (k : Nat) : (restB s k).data.toList = lef s k := by
  unfold lef restB
  rw [Lib.extract_data, List.take_of_length_le]
  rw [List.length_drop, ← Lib.size_eq]
  exact Nat.le_refl _

theorem lef_len (s : ByteArray) (k : Nat) : (lef s k).length = s.size - k := by unfold lef; rw [List.length_drop, Lib.size_eq]

theorem lef_more (s : ByteArray) (k n : Nat) : lef s (k + n) = (lef s k).drop n := by unfold lef; rw [List.drop_drop]

theorem tw_split (p : UInt8 → Bool) (l : List UInt8) : l.take (spanN p l) = l.takeWhile p ∧ l.drop (spanN p l) = l.dropWhile p := by
  unfold spanN
  have e2 := List.takeWhile_append_dropWhile (p := p) (l := l)
  constructor
  · exact (List.prefix_iff_eq_take.1 (List.takeWhile_prefix _)).symm
  · have e3 : l.drop (l.takeWhile p).length = (l.takeWhile p ++ l.dropWhile p).drop (l.takeWhile p).length := by rw [e2]
    rw [e3, List.drop_left]

/-- The cursor g over s stands ahead of l. -/
def Ahead (g : Nat) (s : ByteArray) (l : List UInt8) (w : World) : Prop := ∃ k, k ≤ s.size ∧ lef s k = l ∧ Cur w g s k

/-- The cursor has gone on, and nothing else. -/
def Went (g : Nat) (s : ByteArray) (l : List UInt8) (w w' : World) : Prop := Ahead g s l w' ∧ But g w w'

theorem Ahead.lt {g : Nat} {s : ByteArray} {l : List UInt8} {w : World} (h : Ahead g s l w) : g < w.heap.size := by
  obtain ⟨k, _, _, h⟩ := h
  exact h.lt

theorem Ahead.below {B g : Nat} {s : ByteArray} {l : List UInt8} {w w' : World} (h : Ahead g s l w) (hb : Below B w w') (hg : g < B) : Ahead g s l w' := by
  obtain ⟨k, h1, h2, h3⟩ := h
  exact ⟨k, h1, h2, h3.below hb hg⟩

theorem Ahead.on {g : Nat} {s : ByteArray} {l : List UInt8} {w w' : World} (h : Ahead g s l w) (hb : Below w.heap.size w w') : Ahead g s l w' := h.below hb h.lt

theorem Ahead.drew {g : Nat} {s : ByteArray} {l : List UInt8} {w : World} (h : Ahead g s l w) : Ahead g s l w.drew := h

theorem Went.trans {g : Nat} {s : ByteArray} {l l2 : List UInt8} {w w1 w2 : World} (h : Went g s l w w1) (h2 : Went g s l2 w1 w2) : Went g s l2 w w2 := ⟨h2.1, h.2.trans h2.2⟩

theorem Went.of_below {g : Nat} {s : ByteArray} {l : List UInt8} {w w' : World} (h : Ahead g s l w) (hb : Below w.heap.size w w') : Went g s l w w' := ⟨h.on hb, But.of_below hb⟩

theorem But.start {g : Nat} {w w' : World} {o : Obj} (h : But g (w.alloc o) w') : But g w w' := ((But.refl g w).alloc o).trans h

theorem But.startd {g : Nat} {w w' : World} (h : But g w.drew w') : But g w w' := ((But.refl g w).drew).trans h

theorem while_at (K : FuncId) (p : UInt8 → Bool) (hK : FnPure K p) (g : Nat) (s : ByteArray) (l : List UInt8) (w : World) (h : Ahead g s l w) (hs : s.size ≤ maxLen) :
    Calls Tryd.prog 70 #[.pointer (some ⟨g, 0, none⟩), .func (.func K) #[] #[]] w fun e w' => e = .returned (.string (bl (l.takeWhile p))) ∧ Went g s (l.dropWhile p) w w' := by
  obtain ⟨k, hk, rfl, h⟩ := h
  have hC := While_gives K p hK g s k w h hk hs
  rw [lef_rest] at hC
  have hn := spanN_le p (lef s k)
  rw [lef_len] at hn
  refine hC.mono ?_
  rintro e w2 ⟨rfl, hm⟩
  refine ⟨?_, ⟨k + spanN p (lef s k), by omega, ?_, hm.1⟩, hm.2⟩
  · refine congrArg (fun t => Ending.returned (.string t)) ?_
    apply bytes_ext
    rw [bl_list, Lib.extract_data, show k + spanN p (lef s k) - k = spanN p (lef s k) by omega]
    exact (tw_split p (lef s k)).1
  · rw [lef_more]
    exact (tw_split p (lef s k)).2

theorem pref_at (s : ByteArray) (k : Nat) (b : UInt8) : prefB (restB s k) ⟨#[b]⟩ = ((lef s k).head? == some b) := by
  unfold prefB Lib.hasPrefix
  rw [lef_rest]
  cases lef s k with
  | nil => rfl
  | cons a r =>
    show [b].isPrefixOf (a :: r) = _
    simp only [List.isPrefixOf, Bool.and_true, List.head?_cons]
    exact Bool.eq_iff_iff.2 ⟨fun h => by simp at h ⊢; exact h.symm, fun h => by simp at h ⊢; exact h.symm⟩

theorem skip_at (b : UInt8) (g : Nat) (s : ByteArray) (l : List UInt8) (w : World) (h : Ahead g s (b :: l) w) (hs : s.size ≤ maxLen) :
    Calls Tryd.prog 68 #[.pointer (some ⟨g, 0, none⟩), .string ⟨#[b]⟩] w fun e w' => e = .returned (.bool true) ∧ Went g s l w w' := by
  obtain ⟨k, hk, hl, h⟩ := h
  have hlt : k < s.size := by
    have := lef_len s k
    rw [hl] at this
    simp at this
    omega
  refine (Skip_yes ⟨#[b]⟩ g s k w h hk hs (by rw [pref_at, hl]; simp)).mono ?_
  rintro e w2 ⟨rfl, hm⟩
  exact ⟨rfl, ⟨k + 1, hlt, by rw [lef_more, hl]; rfl, hm.1⟩, hm.2⟩

theorem skip_off (b : UInt8) (g : Nat) (s : ByteArray) (l : List UInt8) (w : World) (h : Ahead g s l w) (hs : s.size ≤ maxLen) (hb : l.head? ≠ some b) :
    Calls Tryd.prog 68 #[.pointer (some ⟨g, 0, none⟩), .string ⟨#[b]⟩] w fun e w' => e = .returned (.bool false) ∧ Went g s l w w' := by
  obtain ⟨k, hk, rfl, h⟩ := h
  refine (Skip_no ⟨#[b]⟩ g s k w h hk hs (by rw [pref_at]; exact beq_eq_false_iff_ne.2 hb)).mono ?_
  rintro e w2 ⟨rfl, hm⟩
  exact ⟨rfl, ⟨k, hk, rfl, hm.1⟩, hm.2⟩

theorem at_at (g : Nat) (s : ByteArray) (l : List UInt8) (w : World) (h : Ahead g s l w) :
    ∃ k : Int, Calls Tryd.prog 93 #[.pointer (some ⟨g, 0, none⟩)] w fun e w' => e = .returned (.int .i64 k) ∧ w = w' := by
  obtain ⟨k, hk, rfl, h⟩ := h
  exact ⟨_, At_any g s k w h⟩

theorem end_at (g : Nat) (s : ByteArray) (l : List UInt8) (w : World) (h : Ahead g s l w) (hs : s.size ≤ maxLen) :
    Calls Tryd.prog 69 #[.pointer (some ⟨g, 0, none⟩)] w fun e w' => e = .returned (.bool (decide (l = []))) ∧ Went g s l w w' := by
  obtain ⟨k, hk, rfl, h⟩ := h
  refine (End_any g s k w h hk hs).mono ?_
  rintro e w2 ⟨rfl, hd⟩
  refine ⟨ret_bool (decide_eq_decide.2 ?_), ⟨k, hk, rfl, hd.cur h⟩, But.of_below (hd.below _)⟩
  rw [← List.length_eq_zero_iff, lef_len]
  omega

theorem peek_at (g : Nat) (s : ByteArray) (b : UInt8) (l : List UInt8) (w : World) (h : Ahead g s (b :: l) w) (hs : s.size ≤ maxLen) :
    Calls Tryd.prog 106 #[.pointer (some ⟨g, 0, none⟩), .int .i64 0] w fun e w' => e = .returned (.tuple #[.int .u8 (b.toNat : Int), .bool true]) ∧ Below w.heap.size w w' := by
  obtain ⟨k, hk, hl, h⟩ := h
  have hlt : k < s.size := by
    have := lef_len s k
    rw [hl] at this
    simp at this
    omega
  have hb : s[k] = b := by
    have e : lef s k = s[k] :: lef s (k + 1) := by
      unfold lef
      rw [List.drop_eq_getElem_cons (by rw [← Lib.size_eq]; exact hlt)]
      rfl
    rw [hl] at e
    injection e with e1 e2
    exact e1.symm
  have hP := Peek_yes g s k 0 w h (by omega) hs
  simp only [Nat.add_zero] at hP
  rw [hb] at hP
  refine hP.mono ?_
  rintro e w2 ⟨rfl, hd⟩
  exact ⟨rfl, hd.below _⟩

theorem peek_off (g : Nat) (s : ByteArray) (w : World) (h : Ahead g s [] w) (hs : s.size ≤ maxLen) :
    Calls Tryd.prog 106 #[.pointer (some ⟨g, 0, none⟩), .int .i64 0] w fun e w' => e = .returned (.tuple #[.int .u8 0, .bool false]) ∧ Below w.heap.size w w' := by
  obtain ⟨k, hk, hl, h⟩ := h
  have hge : s.size ≤ k := by
    have := lef_len s k
    rw [hl] at this
    simp at this
    omega
  refine (Peek_no g s k 0 w h hk (.inr (by omega)) hs).mono ?_
  rintro e w2 ⟨rfl, hd⟩
  exact ⟨rfl, hd.below _⟩

/-- A reader of a cursor. -/
def rdV (g : Nat) : Value := .agg #[.pointer (some ⟨g, 0, none⟩)]

/-- It is thrown that the form is wrong. -/
def Form (g : Nat) (w : World) (e : Ending) (w' : World) : Prop := ∃ a : Int, e = .panicked [{ v := faultV a 2, recovered := false }] ∧ But g w w'

theorem need_yes (g : Nat) (s : ByteArray) (l : List UInt8) (w : World) (h : Ahead g s l w) :
    Calls Tryd.prog 82 #[rdV g, .bool true] w fun e w' => e = .returned (.tuple #[]) ∧ Below w.heap.size w w' := by
  have HA : Hid (∀ w1, Below w.heap.size w w1 → ∃ k : Int, Calls Tryd.prog 93 #[.pointer (some ⟨g, 0, none⟩)] w1 fun e w' => e = .returned (.int .i64 k) ∧ w1 = w') := Lib.hid (fun w1 hb => at_at g s l w1 (h.on hb))
  clear h
  unfold rdV
  go_enter Tryd.func82, Tryd.ntmps82
  go_wp2_with fail
  obtain ⟨k, hk⟩ := HA.out _ (below_box _ _)
  refine hk.mono ?_
  rintro e w2 ⟨rfl, rfl⟩
  go_wp2_with (go_at_call 73; refine (Check_yes _ _ _).mono ?_; rintro e w2 ⟨rfl, rfl⟩)
  go_end0
  exact ⟨rfl, below_box _ _⟩

theorem need_no (g : Nat) (s : ByteArray) (l : List UInt8) (w : World) (h : Ahead g s l w) :
    Calls Tryd.prog 82 #[rdV g, .bool false] w (Form g w) := by
  have HA : Hid (∀ w1, Below w.heap.size w w1 → ∃ k : Int, Calls Tryd.prog 93 #[.pointer (some ⟨g, 0, none⟩)] w1 fun e w' => e = .returned (.int .i64 k) ∧ w1 = w') := Lib.hid (fun w1 hb => at_at g s l w1 (h.on hb))
  clear h
  unfold rdV
  go_enter Tryd.func82, Tryd.ntmps82
  go_wp2_with fail
  obtain ⟨k, hk⟩ := HA.out _ (below_box _ _)
  refine hk.mono ?_
  rintro e w2 ⟨rfl, rfl⟩
  go_wp2_with (go_at_call 73; refine (Check_no _ _ _).mono ?_; rintro e w2 ⟨rfl, rfl⟩)
  exact ⟨rfl, k, rfl, But.of_below (below_box _ _)⟩

theorem fnTabR : FnPure 71 isTab :=
  ⟨fun args w => MuLone.run_callFunc_enter Tryd.func71 (by kernel_rfl) rfl args w, Tab_any⟩

theorem fnLetR : FnPure 104 isLetter :=
  ⟨fun args w => MuLone.run_callFunc_enter Tryd.func104 (by kernel_rfl) rfl args w, Letter_any⟩

theorem blanks_at (g : Nat) (s : ByteArray) (l : List UInt8) (w : World) (h : Ahead g s l w) (hs : s.size ≤ maxLen) :
    Calls Tryd.prog 77 #[rdV g] w fun e w' => e = .returned (.string (bl (l.takeWhile isTab))) ∧ Went g s (l.dropWhile isTab) w w' := by
  have HW : Hid (∀ w1, Below w.heap.size w w1 → Calls Tryd.prog 70 #[.pointer (some ⟨g, 0, none⟩), .func (.func 71) #[] #[]] w1 fun e w' => e = .returned (.string (bl (l.takeWhile isTab))) ∧ Went g s (l.dropWhile isTab) w1 w') := Lib.hid (fun w1 hb => while_at 71 isTab fnTabR g s l w1 (h.on hb) hs)
  clear h
  unfold rdV
  go_enter Tryd.func77, Tryd.ntmps77
  go_wp2_with fail
  refine (HW.out _ (below_box _ _)).mono ?_
  rintro e w2 ⟨rfl, hw⟩
  go_wp2_with fail
  go_ret
  exact ⟨rfl, hw.1, hw.2.start⟩

end Go.Proofs.YtjlemghmpnkncaaDoor
