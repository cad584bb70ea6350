/-
  Walks of package ranges: what is asked for.
-/
import Derived.Test.YtjlemghmpnkncaaDoorRangC
import Derived.Test.YtjlemghmpnkncaaDoorRangV
namespace Go.Proofs.YtjlemghmpnkncaaDoor
open Go.RowKit
set_option linter.unusedSimpArgs false
set_option linter.unusedVariables false

theorem unit_yes (g : Nat) (s : ByteArray) (l : List UInt8) (w : World) (h : Ahead g s l w) (hs : s.size ≤ maxLen) (hu : unitOk l = true) :
    Calls Tryd.prog 78 #[rdV g] w fun e w' => e = .returned (.tuple #[]) ∧ Went g s (l.dropWhile isLetter) w w' :=
  (unit_both true g s l w h hs hu).mono fun e w' h => by rw [if_pos rfl] at h; exact h

theorem unit_no (g : Nat) (s : ByteArray) (l : List UInt8) (w : World) (h : Ahead g s l w) (hs : s.size ≤ maxLen) (hu : unitOk l = false) :
    Calls Tryd.prog 78 #[rdV g] w (Form g w) :=
  (unit_both false g s l w h hs hu).mono fun e w' h => by rw [if_neg (by simp)] at h; exact h

theorem sign_yes (x : UInt8) (g : Nat) (s : ByteArray) (l : List UInt8) (w : World) (h : Ahead g s l w) (hs : s.size ≤ maxLen) (hu : signOk x l = true) :
    Calls Tryd.prog 79 #[rdV g, .string ⟨#[x]⟩] w fun e w' => e = .returned (.tuple #[]) ∧ Went g s l.tail w w' :=
  (sign_both true x g s l w h hs hu).mono fun e w' h => by rw [if_pos rfl] at h; exact h

theorem sign_no (x : UInt8) (g : Nat) (s : ByteArray) (l : List UInt8) (w : World) (h : Ahead g s l w) (hs : s.size ≤ maxLen) (hu : signOk x l = false) :
    Calls Tryd.prog 79 #[rdV g, .string ⟨#[x]⟩] w (Form g w) :=
  (sign_both false x g s l w h hs hu).mono fun e w' h => by rw [if_neg (by simp)] at h; exact h

theorem end_yes (g : Nat) (s : ByteArray) (l : List UInt8) (w : World) (h : Ahead g s l w) (hs : s.size ≤ maxLen) (hu : l = []) :
    Calls Tryd.prog 81 #[rdV g] w fun e w' => e = .returned (.tuple #[]) ∧ Went g s l w w' :=
  (end_both true g s l w h hs (decide_eq_true hu)).mono fun e w' h => by rw [if_pos rfl] at h; exact h

theorem end_no (g : Nat) (s : ByteArray) (l : List UInt8) (w : World) (h : Ahead g s l w) (hs : s.size ≤ maxLen) (hu : ¬ l = []) :
    Calls Tryd.prog 81 #[rdV g] w (Form g w) :=
  (end_both false g s l w h hs (decide_eq_false hu)).mono fun e w' h => by rw [if_neg (by simp)] at h; exact h

/-- Nothing has turned but a cursor; two boxes are as they were. -/
structure AskS (w cur : World) (g : Nat) (s : ByteArray) (l : List UInt8) (b o : Nat) : Prop where
  ahead : Ahead g s l cur
  only : Only (fun i => i = g ∨ i = b ∨ i = o) w cur
  box : cur.cell? ⟨w.heap.size, 0, none⟩ = some (.pointer (some ⟨g, 0, none⟩))
  size : w.heap.size < cur.heap.size
  cb : cur.heap[b]? = w.heap[b]?
  co : cur.heap[o]? = w.heap[o]?

theorem But.block' {g : Nat} {w w' : World} (h : But g w w') {i : Nat} (hi : i < w.heap.size) (hn : i ≠ g) : w'.heap[i]? = w.heap[i]? :=
  h.block i hi (fun e => hn (by injection e))

theorem AskS.went {w cur w' : World} {g : Nat} {s : ByteArray} {l l2 : List UInt8} {b o : Nat} (h : AskS w cur g s l b o) (hw : Went g s l2 cur w') (hgb : b ≠ g) (hgo : o ≠ g) (hb : b < w.heap.size) (ho : o < w.heap.size) (hg : g < w.heap.size := by omega) : AskS w w' g s l2 b o := by
  have hsz := h.only.size
  exact ⟨hw.1, h.only.trans (Only.of_but hw.2 (.inl rfl)), (hw.2.cell h.size (by omega)).trans h.box, Nat.lt_of_lt_of_le h.size hw.2.size, (hw.2.block' (by omega) hgb).trans h.cb, (hw.2.block' (by omega) hgo).trans h.co⟩

theorem AskS.on {w cur w' : World} {g : Nat} {s : ByteArray} {l : List UInt8} {b o : Nat} (h : AskS w cur g s l b o) (hw : Below cur.heap.size cur w') (hb : b < w.heap.size) (ho : o < w.heap.size) : AskS w w' g s l b o := by
  have hsz := h.only.size
  exact ⟨h.ahead.on hw, h.only.trans (Only.of_below hw), (cell_below hw h.size).trans h.box, Nat.lt_of_lt_of_le h.size hw.size, (hw.block _ (by omega)).trans h.cb, (hw.block _ (by omega)).trans h.co⟩

/-- What is so where something is thrown. -/
def LostS (w w' : World) (g b o : Nat) : Prop := Only (fun i => i = g ∨ i = b ∨ i = o) w w' ∧ w'.heap[b]? = w.heap[b]? ∧ w'.heap[o]? = w.heap[o]?

theorem AskS.lost {w cur w' : World} {g : Nat} {s : ByteArray} {l : List UInt8} {b o : Nat} (h : AskS w cur g s l b o) (hw : But g cur w') (hgb : b ≠ g) (hgo : o ≠ g) (hb : b < w.heap.size) (ho : o < w.heap.size) : LostS w w' g b o := by
  have hsz := h.only.size
  exact ⟨h.only.trans (Only.of_but hw (.inl rfl)), (hw.block' (by omega) hgb).trans h.cb, (hw.block' (by omega) hgo).trans h.co⟩

theorem AskS.new {w : World} {g : Nat} {s : ByteArray} {l : List UInt8} {b o : Nat} (h : Ahead g s l w) (hb : b < w.heap.size) (ho : o < w.heap.size) : AskS w (w.alloc (.cells #[.pointer (some ⟨g, 0, none⟩)] 84)) g s l b o :=
  ⟨h.on (below_box _ _), Only.of_below (below_box _ _), by simp [go_sem], by simp, Below.heap_alloc _ _ _ hb, Below.heap_alloc _ _ _ ho⟩

/-- What reading what is asked for does. -/
def AskPost (g : Nat) (l : List UInt8) (b o : Nat) (w : World) (e : Ending) (w' : World) : Prop :=
  match askL l with
  | none => (∃ a : Int, e = .panicked [{ v := faultV a 2, recovered := false }]) ∧ LostS w w' g b o
  | some (f, t) => e = .returned (.tuple #[]) ∧ Only (fun i => i = g ∨ i = b ∨ i = o) w w' ∧ w'.heap[b]? = some (.cells #[.int .i64 (saidE t (saidE f 0))] 31 (0, 0)) ∧ w'.heap[o]? = some (.cells #[.int .i64 (saidN f), .int .i64 (saidN t)] 35 (0, 0))

theorem askPost_none {g : Nat} {l : List UInt8} {b o : Nat} {w w' : World} {e : Ending} (h : askL l = none) (h1 : ∃ a : Int, e = .panicked [{ v := faultV a 2, recovered := false }]) (h2 : LostS w w' g b o) : AskPost g l b o w e w' := by
  unfold AskPost; rw [h]; exact ⟨h1, h2⟩

theorem askPost_some {g : Nat} {l f t : List UInt8} {b o : Nat} {w w' : World} {e : Ending} (h : askL l = some (f, t)) (h2 : e = .returned (.tuple #[]) ∧ Only (fun i => i = g ∨ i = b ∨ i = o) w w' ∧ w'.heap[b]? = some (.cells #[.int .i64 (saidE t (saidE f 0))] 31 (0, 0)) ∧ w'.heap[o]? = some (.cells #[.int .i64 (saidN f), .int .i64 (saidN t)] 35 (0, 0))) : AskPost g l b o w e w' := by
  unfold AskPost; rw [h]; exact h2

theorem tw_le (p : UInt8 → Bool) (l : List UInt8) : (l.takeWhile p).length ≤ l.length ∧ (l.dropWhile p).length ≤ l.length :=
  ⟨(List.takeWhile_sublist p).length_le, (List.dropWhile_sublist p).length_le⟩

theorem tw_all (p : UInt8 → Bool) (l : List UInt8) : (l.takeWhile p).all p = true := by
  induction l with
  | nil => rfl
  | cons a l ih =>
    rw [List.takeWhile_cons]
    split
    · rw [List.all_cons, ih, Bool.and_true]; assumption
    · rfl

theorem dw_le (p : UInt8 → Bool) {l : List UInt8} {n : Nat} (h : l.length ≤ n) : (l.dropWhile p).length ≤ n := Nat.le_trans (tw_le p l).2 h
theorem tk_le (p : UInt8 → Bool) {l : List UInt8} {n : Nat} (h : l.length ≤ n) : (l.takeWhile p).length ≤ n := Nat.le_trans (tw_le p l).1 h
theorem tl_le {l : List UInt8} {n : Nat} (h : l.length ≤ n) : l.tail.length ≤ n := by rw [List.length_tail]; omega
theorem bl_empty {l : List UInt8} (h : l = []) : (bl l).toList = [] := by rw [bl_nil]; exact h
theorem bl_full {l : List UInt8} (h : ¬ l = []) : (bl l).toList.isEmpty = false := by rw [List.isEmpty_eq_false_iff, ne_eq, bl_nil]; exact h

set_option maxRecDepth 20000 in
set_option maxHeartbeats 2000000 in
theorem asked1_any (g : Nat) (s : ByteArray) (l : List UInt8) (b o : Nat) (w : World) (h : Ahead g s l w) (hs : s.size ≤ 1000) (hgb : b ≠ g) (hgo : o ≠ g) (hbo : b ≠ o)
    (hcb : w.heap[b]? = some (.cells #[.int .i64 0] 31 (0, 0))) (hco : w.heap[o]? = some (.cells #[.int .i64 0, .int .i64 0] 35 (0, 0))) :
    Calls Tryd.prog 76 #[rdV g, .pointer (some ⟨b, 0, none⟩), .pointer (some ⟨o, 0, none⟩)] w (AskPost g l b o w) := by
  have hg := h.lt
  have hb : b < w.heap.size := (Array.getElem?_eq_some_iff.1 hcb).1
  have ho : o < w.heap.size := (Array.getElem?_eq_some_iff.1 hco).1
  have hll : l.length ≤ 1000 := by
    obtain ⟨k, hk, hl, _⟩ := h
    have := lef_len s k
    rw [hl] at this
    omega
  replace hs : s.size ≤ maxLen := by unfold maxLen; omega
  have A := Lib.hid (AskS.new (b := b) (o := o) h hb ho)
  have hR : askL l = askL l := rfl
  conv at hR => rhs; unfold askL
  have HCB := Lib.hid hcb
  have HCO := Lib.hid hco
  clear h hcb hco
  unfold rdV
  go_enter Tryd.func76, Tryd.ntmps76
  have c0 := A.out.box
  go_wp2_with fail
  (refine Calls.mono (blanks_at g s _ _ A.out.ahead hs) ?_; rintro e w' ⟨rfl, hw⟩; replace A := Lib.hid (A.out.went hw hgb hgo hb ho); clear hw c0; have c0 := A.out.box; go_wp2_with fail)
  cases hu : unitOk (l.dropWhile isTab)
  · rw [if_neg (by rw [hu]; simp)] at hR
    (have HR := Lib.hid hR; refine Calls.mono (unit_no g s _ _ A.out.ahead hs hu) ?_; rintro e w' ⟨a, rfl, hw⟩; exact ⟨rfl, askPost_none HR.out ⟨a, rfl⟩ (A.out.lost hw hgb hgo hb ho)⟩)
  rw [if_pos hu] at hR
  (refine Calls.mono (unit_yes g s _ _ A.out.ahead hs hu) ?_; rintro e w' ⟨rfl, hw⟩; replace A := Lib.hid (A.out.went hw hgb hgo hb ho); clear hw c0; have c0 := A.out.box; go_wp2_with fail)
  clear hu
  replace hll := dw_le isLetter (dw_le isTab hll)
  generalize (l.dropWhile isTab).dropWhile isLetter = l2 at *
  unfold ask2 at hR
  (refine Calls.mono (blanks_at g s _ _ A.out.ahead hs) ?_; rintro e w' ⟨rfl, hw⟩; replace A := Lib.hid (A.out.went hw hgb hgo hb ho); clear hw c0; have c0 := A.out.box; go_wp2_with fail)
  replace hll := dw_le isTab hll
  generalize l2.dropWhile isTab = l3 at *
  cases hu : signOk 61 l3
  · rw [if_neg (by rw [hu]; simp)] at hR
    (have HR := Lib.hid hR; refine Calls.mono (sign_no 61 g s _ _ A.out.ahead hs hu) ?_; rintro e w' ⟨a, rfl, hw⟩; exact ⟨rfl, askPost_none HR.out ⟨a, rfl⟩ (A.out.lost hw hgb hgo hb ho)⟩)
  rw [if_pos hu] at hR
  (refine Calls.mono (sign_yes 61 g s _ _ A.out.ahead hs hu) ?_; rintro e w' ⟨rfl, hw⟩; replace A := Lib.hid (A.out.went hw hgb hgo hb ho); clear hw c0; have c0 := A.out.box; go_wp2_with fail)
  clear hu
  replace hll := tl_le hll
  generalize l3.tail = l4 at *
  unfold ask3 at hR
  (refine Calls.mono (blanks_at g s _ _ A.out.ahead hs) ?_; rintro e w' ⟨rfl, hw⟩; replace A := Lib.hid (A.out.went hw hgb hgo hb ho); clear hw c0; have c0 := A.out.box; go_wp2_with fail)
  replace hll := dw_le isTab hll
  generalize l4.dropWhile isTab = l5 at *
  (refine Calls.mono (while_at 80 isDigit fnDigit g s _ _ A.out.ahead hs) ?_; rintro e w' ⟨rfl, hw⟩; replace A := Lib.hid (A.out.went hw hgb hgo hb ho); clear hw c0; have c0 := A.out.box; go_wp2_with fail)
  have hfl := tk_le isDigit hll
  have hfa := tw_all isDigit l5
  replace hll := dw_le isDigit hll
  generalize l5.takeWhile isDigit = f at *
  generalize l5.dropWhile isDigit = l6 at *
  unfold ask4 at hR
  (refine Calls.mono (blanks_at g s _ _ A.out.ahead hs) ?_; rintro e w' ⟨rfl, hw⟩; replace A := Lib.hid (A.out.went hw hgb hgo hb ho); clear hw c0; have c0 := A.out.box; go_wp2_with fail)
  replace hll := dw_le isTab hll
  generalize l6.dropWhile isTab = l7 at *
  cases hu : signOk 45 l7
  · rw [if_neg (by rw [hu]; simp)] at hR
    (have HR := Lib.hid hR; refine Calls.mono (sign_no 45 g s _ _ A.out.ahead hs hu) ?_; rintro e w' ⟨a, rfl, hw⟩; exact ⟨rfl, askPost_none HR.out ⟨a, rfl⟩ (A.out.lost hw hgb hgo hb ho)⟩)
  rw [if_pos hu] at hR
  (refine Calls.mono (sign_yes 45 g s _ _ A.out.ahead hs hu) ?_; rintro e w' ⟨rfl, hw⟩; replace A := Lib.hid (A.out.went hw hgb hgo hb ho); clear hw c0; have c0 := A.out.box; go_wp2_with fail)
  clear hu
  replace hll := tl_le hll
  generalize l7.tail = l8 at *
  unfold ask5 at hR
  (refine Calls.mono (blanks_at g s _ _ A.out.ahead hs) ?_; rintro e w' ⟨rfl, hw⟩; replace A := Lib.hid (A.out.went hw hgb hgo hb ho); clear hw c0; have c0 := A.out.box; go_wp2_with fail)
  replace hll := dw_le isTab hll
  generalize l8.dropWhile isTab = l9 at *
  (refine Calls.mono (while_at 80 isDigit fnDigit g s _ _ A.out.ahead hs) ?_; rintro e w' ⟨rfl, hw⟩; replace A := Lib.hid (A.out.went hw hgb hgo hb ho); clear hw c0; have c0 := A.out.box; go_wp2_with fail)
  have htl := tk_le isDigit hll
  have hta := tw_all isDigit l9
  replace hll := dw_le isDigit hll
  generalize l9.takeWhile isDigit = t at *
  generalize l9.dropWhile isDigit = l10 at *
  unfold ask6 at hR
  (refine Calls.mono (blanks_at g s _ _ A.out.ahead hs) ?_; rintro e w' ⟨rfl, hw⟩; replace A := Lib.hid (A.out.went hw hgb hgo hb ho); clear hw c0; have c0 := A.out.box; go_wp2_with fail)
  generalize l10.dropWhile isTab = l11 at *
  by_cases hu : l11 = []
  case neg =>
    rw [if_neg hu] at hR
    (have HR := Lib.hid hR; refine Calls.mono (end_no g s _ _ A.out.ahead hs hu) ?_; rintro e w' ⟨a, rfl, hw⟩; exact ⟨rfl, askPost_none HR.out ⟨a, rfl⟩ (A.out.lost hw hgb hgo hb ho)⟩)
  rw [if_pos hu] at hR
  by_cases hft : f = [] ∧ t = []
  · rw [if_pos hft] at hR
    have h1 := bl_empty hft.1
    have h2 := bl_empty hft.2
    generalize bl f = F at *
    generalize bl t = T at *
    (refine Calls.mono (end_yes g s _ _ A.out.ahead hs hu) ?_; rintro e w' ⟨rfl, hw⟩; replace A := Lib.hid (A.out.went hw hgb hgo hb ho); clear hw c0; have c0 := A.out.box; go_wp2_with fail)
    (have HR := Lib.hid hR; refine Calls.mono (need_no g s _ _ A.out.ahead) ?_; rintro e w' ⟨a, rfl, hw⟩; exact ⟨rfl, askPost_none HR.out ⟨a, rfl⟩ (A.out.lost hw hgb hgo hb ho)⟩)
  rw [if_neg hft] at hR
  by_cases hf : f = []
  · have ht : ¬ t = [] := fun e => hft ⟨hf, e⟩
    subst hf
    have h1 := bl_empty (l := []) rfl
    have h2 := bl_full ht
    (refine Calls.mono (end_yes g s _ _ A.out.ahead hs hu) ?_; rintro e w' ⟨rfl, hw⟩; replace A := Lib.hid (A.out.went hw hgb hgo hb ho); clear hw c0; have c0 := A.out.box; go_wp2_with fail)
    (refine Calls.mono (need_yes g s _ _ A.out.ahead) ?_; rintro e w' ⟨rfl, hw⟩; replace A := Lib.hid (A.out.on hw hb ho); clear hw c0)
    have HSF := Lib.hid (fun w => said_any [] 0 w hfl hfa)
    have HST := Lib.hid (fun w => said_any t (saidE [] 0) w htl hta)
    have hB := A.out.cb.trans HCB.out
    have hO := A.out.co.trans HCO.out
    have b0 := (Lib.cell_of_heap hB (j := 0))
    have o0 := (Lib.cell_of_heap hO (j := 0))
    have o1 := (Lib.cell_of_heap hO (j := 1))
    have bf := fun i => Lib.frozen_of_heap hB i
    have of := fun i => Lib.frozen_of_heap hO i
    simp at b0 o0 o1
    generalize bl [] = F at *
    generalize bl t = T at *
    generalize hef : saidE [] 0 = ef at *
    generalize het : saidE t ef = et at *
    generalize hnf : saidN [] = nf at *
    generalize hnt : saidN t = nt at *
    have HE := Lib.hid (And.intro hef (And.intro het (And.intro hnf hnt)))
    have HR := Lib.hid hR
    clear hef het hnf hnt hR
    go_wp2_with (go_at_call 83; first | (with_reducible refine Calls.mono (HSF.out _) ?_; rintro e w' ⟨rfl, rfl⟩) | (with_reducible refine Calls.mono (HST.out _) ?_; rintro e w' ⟨rfl, rfl⟩))
    go_end0
    obtain ⟨e1, e2, e3, e4⟩ := HE.out
    refine askPost_some HR.out ⟨rfl, (((A.out.only.setCell (.inl (.inr (.inr rfl))) _).setCell (.inl (.inr (.inl rfl))) _).setCell (.inl (.inr (.inr rfl))) _).setCell (.inl (.inr (.inl rfl))) _, ?_, ?_⟩
    · rw [e1, e2]
      simp [World.setCell, Array.getElem?_modify, hB, hO, hbo, Ne.symm hbo]
    · rw [e3, e4]
      simp [World.setCell, Array.getElem?_modify, hB, hO, hbo, Ne.symm hbo]
  · have h1 := bl_full hf
    (refine Calls.mono (end_yes g s _ _ A.out.ahead hs hu) ?_; rintro e w' ⟨rfl, hw⟩; replace A := Lib.hid (A.out.went hw hgb hgo hb ho); clear hw c0; have c0 := A.out.box; go_wp2_with fail)
    (refine Calls.mono (need_yes g s _ _ A.out.ahead) ?_; rintro e w' ⟨rfl, hw⟩; replace A := Lib.hid (A.out.on hw hb ho); clear hw c0)
    have HSF := Lib.hid (fun w => said_any f 0 w hfl hfa)
    have HST := Lib.hid (fun w => said_any t (saidE f 0) w htl hta)
    have hB := A.out.cb.trans HCB.out
    have hO := A.out.co.trans HCO.out
    have b0 := (Lib.cell_of_heap hB (j := 0))
    have o0 := (Lib.cell_of_heap hO (j := 0))
    have o1 := (Lib.cell_of_heap hO (j := 1))
    have bf := fun i => Lib.frozen_of_heap hB i
    have of := fun i => Lib.frozen_of_heap hO i
    simp at b0 o0 o1
    generalize bl f = F at *
    generalize bl t = T at *
    generalize hef : saidE f 0 = ef at *
    generalize het : saidE t ef = et at *
    generalize hnf : saidN f = nf at *
    generalize hnt : saidN t = nt at *
    have HE := Lib.hid (And.intro hef (And.intro het (And.intro hnf hnt)))
    have HR := Lib.hid hR
    clear hef het hnf hnt hR
    go_wp2_with (go_at_call 83; first | (with_reducible refine Calls.mono (HSF.out _) ?_; rintro e w' ⟨rfl, rfl⟩) | (with_reducible refine Calls.mono (HST.out _) ?_; rintro e w' ⟨rfl, rfl⟩))
    go_end0
    obtain ⟨e1, e2, e3, e4⟩ := HE.out
    refine askPost_some HR.out ⟨rfl, (((A.out.only.setCell (.inl (.inr (.inr rfl))) _).setCell (.inl (.inr (.inl rfl))) _).setCell (.inl (.inr (.inr rfl))) _).setCell (.inl (.inr (.inl rfl))) _, ?_, ?_⟩
    · rw [e1, e2]
      simp [World.setCell, Array.getElem?_modify, hB, hO, hbo, Ne.symm hbo]
    · rw [e3, e4]
      simp [World.setCell, Array.getElem?_modify, hB, hO, hbo, Ne.symm hbo]

theorem entersAsked1 : Enters 76 := fun args w => MuLone.run_callFunc_enter Tryd.func76 (by kernel_rfl) rfl args w

/-- The two boxes in which the answer comes. -/
def AskBox (w : World) (c f t : Int) (w' : World) : Prop :=
  Below w.heap.size w w' ∧ w'.heap[w.heap.size + 1]? = some (.cells #[.int .i64 c] 31 (0, 0)) ∧ w'.heap[w.heap.size]? = some (.cells #[.int .i64 f, .int .i64 t] 35 (0, 0))

theorem askBox_stays (w : World) (c f t : Int) {B : Nat} (hB : w.heap.size + 2 ≤ B) : Stays B (AskBox w c f t) := fun w1 w2 hb h =>
  ⟨h.1.trans (hb.mono (by omega)), (hb.block _ (by omega)).trans h.2.1, (hb.block _ (by omega)).trans h.2.2⟩

set_option maxRecDepth 20000 in
set_option maxHeartbeats 1000000 in
theorem asked_any (s : ByteArray) (w : World) (hs : s.size ≤ 1000) :
    Calls Tryd.prog 50 #[.string s] w fun e w' => e = .returned (askedV s.data.toList) ∧ Below w.heap.size w w' := by
  have hmf : ∀ (fn : Fn) (first cap : Array Value) (w : World), (Instr.makeFunc fn first cap).run Tryd.prog w = .ok (.func fn first cap) w := fun _ _ _ _ => rfl
  have hbx : AskBox w 0 0 0 ((w.alloc (.cells #[.int .i64 0, .int .i64 0] 35)).alloc (.cells #[.int .i64 0] 31)) := by
    refine ⟨(below_box w _).alloc (by simp) _, ?_, ?_⟩
    · have := heap_alloc_new (w.alloc (.cells #[.int .i64 0, .int .i64 0] 35)) (.cells #[.int .i64 0] 31)
      simpa using this
    · rw [Below.heap_alloc _ _ _ (by simp)]
      exact heap_alloc_new w _
  have hz : ((w.alloc (.cells #[.int .i64 0, .int .i64 0] 35)).alloc (.cells #[.int .i64 0] 31)).heap.size = w.heap.size + 2 := by simp
  have HV : Hid (askedV s.data.toList = askedV s.data.toList) := Lib.hid rfl
  go_enter Tryd.func50, Tryd.ntmps50
  go_wp2_with fail
  generalize (w.alloc (.cells #[.int .i64 0, .int .i64 0] 35)).alloc (.cells #[.int .i64 0] 31) = W at *
  have HBX := Lib.hid hbx
  have hstep : ∀ g w1, Below W.heap.size W w1 → W.heap.size ≤ g → Ahead g s s.data.toList w1 → Calls Tryd.prog 76 (#[rdV g] ++ #[.pointer (some ⟨w.heap.size + 1, 0, none⟩), .pointer (some ⟨w.heap.size, 0, none⟩)]) w1 (AskPost g s.data.toList (w.heap.size + 1) w.heap.size w1) := fun g w1 hb hg hA =>
    asked1_any g s s.data.toList (w.heap.size + 1) w.heap.size w1 hA hs (by omega) (by omega) (by omega) ((hb.block _ (by omega)).trans hbx.2.1) ((hb.block _ (by omega)).trans hbx.2.2)
  have hbel : ∀ g w1 w' , Below W.heap.size W w1 → W.heap.size ≤ g → Only (fun i => i = g ∨ i = w.heap.size + 1 ∨ i = w.heap.size) w1 w' → Below w.heap.size w w' := fun g w1 w' hb hg ho =>
    (hbx.1.trans (hb.mono (by omega))).trans (ho.below (by intro i hi; omega) (by have := hb.size; omega))
  cases hA : askL s.data.toList with
  | none =>
    have HF := Lib.hid (form_throws 76 #[.pointer (some ⟨w.heap.size + 1, 0, none⟩), .pointer (some ⟨w.heap.size, 0, none⟩)] s (AskBox w 0 0 0) W entersAsked1 (askBox_stays w 0 0 0 (by omega)) (fun g w1 hb hg hAh => (hstep g w1 hb hg hAh).mono fun e w' hp => by
      unfold AskPost at hp
      rw [hA] at hp
      obtain ⟨h1, h2, h3, h4⟩ := hp
      exact ⟨h1, h2.mono (by intro i hi; omega), hbel g w1 w' hb hg h2, h3.trans ((hb.block _ (by omega)).trans hbx.2.1), h4.trans ((hb.block _ (by omega)).trans hbx.2.2)⟩))
    have HV : Hid (askedV s.data.toList = .tuple #[.agg #[.int .i64 0, .int .i64 0], .int .i64 2]) := Lib.hid (by unfold askedV; rw [hA])
    clear hstep hbel hbx HBX
    refine HF.out.mono ?_
    rintro e w2 ⟨rfl, h1, h2, h3⟩
    have HB := Lib.hid h1
    have b0 := (Lib.cell_of_heap h2 (j := 0))
    have o0 := (Lib.cell_of_heap h3 (j := 0))
    have o1 := (Lib.cell_of_heap h3 (j := 1))
    have bf := fun i => Lib.frozen_of_heap h2 i
    have of := fun i => Lib.frozen_of_heap h3 i
    simp at b0 o0 o1
    have hz0 : w.heap.size < w2.heap.size := lt_of_cell o0
    clear h1 h2 h3 HF
    go_wp2_with fail
    refine bodyPost_ret (v := (.tuple #[.agg #[.int .i64 0, .int .i64 0], .int .i64 2])) ?_ rfl ⟨by rw [HV.out], (HB.out.setCell (by simp) _).setCell (by simp) _⟩
    simp [results, Tryd.results50, go_sem, o0, o1, hz0]
  | some q =>
    obtain ⟨f, t⟩ := q
    have HF := Lib.hid (form_gives 76 #[.pointer (some ⟨w.heap.size + 1, 0, none⟩), .pointer (some ⟨w.heap.size, 0, none⟩)] s (AskBox w (saidE t (saidE f 0)) (saidN f) (saidN t)) W entersAsked1 (askBox_stays w _ _ _ (by omega)) (fun g w1 hb hg hAh => (hstep g w1 hb hg hAh).mono fun e w' hp => by
      unfold AskPost at hp
      rw [hA] at hp
      obtain ⟨h1, h2, h3, h4⟩ := hp
      exact ⟨h1, h2.mono (by intro i hi; omega), hbel g w1 w' hb hg h2, h3, h4⟩))
    have HV0 : askedV s.data.toList = if saidE t (saidE f 0) ≠ 0 ∨ (saidN t < saidN f ∧ saidN t ≠ -1) then .tuple #[.agg #[.int .i64 0, .int .i64 0], .int .i64 9] else .tuple #[.agg #[.int .i64 (saidN f), .int .i64 (saidN t)], .int .i64 0] := by unfold askedV; rw [hA]
    clear hstep hbel hbx HBX
    generalize saidE t (saidE f 0) = et at *
    generalize saidN f = nf at *
    generalize saidN t = nt at *
    refine HF.out.mono ?_
    rintro e w2 ⟨rfl, h1, h2, h3⟩
    have HB := Lib.hid h1
    have b0 := (Lib.cell_of_heap h2 (j := 0))
    have o0 := (Lib.cell_of_heap h3 (j := 0))
    have o1 := (Lib.cell_of_heap h3 (j := 1))
    have bf := fun i => Lib.frozen_of_heap h2 i
    have of := fun i => Lib.frozen_of_heap h3 i
    simp at b0 o0 o1
    have hz0 : w.heap.size < w2.heap.size := lt_of_cell o0
    clear h1 h2 h3 HF
    by_cases he : et = 0
    · subst he
      by_cases hlt : nt < nf
      · by_cases hn : nt = -1
        · have HV := Lib.hid (HV0.trans (if_neg (by omega)))
          clear HV0
          subst hn
          go_wp2_with fail
          refine bodyPost_ret (v := (.tuple #[.agg #[.int .i64 nf, .int .i64 (-1)], .int .i64 0])) ?_ rfl ⟨by rw [HV.out], (HB.out.setCell (by simp) _).setCell (by simp) _⟩
          simp [results, Tryd.results50, go_sem, o0, o1, hz0]
        · have HV := Lib.hid (HV0.trans (if_pos (by omega)))
          have hn2 : (nt == -1) = false := beq_eq_false_iff_ne.2 hn
          clear HV0
          go_wp2_with fail
          refine bodyPost_ret (v := (.tuple #[.agg #[.int .i64 0, .int .i64 0], .int .i64 9])) ?_ rfl ⟨by rw [HV.out], (HB.out.setCell (by simp) _).setCell (by simp) _⟩
          simp [results, Tryd.results50, go_sem, o0, o1, hz0]
      · have HV := Lib.hid (HV0.trans (if_neg (by omega)))
        clear HV0
        go_wp2_with fail
        refine bodyPost_ret (v := (.tuple #[.agg #[.int .i64 nf, .int .i64 nt], .int .i64 0])) ?_ rfl ⟨by rw [HV.out], (HB.out.setCell (by simp) _).setCell (by simp) _⟩
        simp [results, Tryd.results50, go_sem, o0, o1, hz0]
    · have HV := Lib.hid (HV0.trans (if_pos (.inl he)))
      have he2 : (et == 0) = false := beq_eq_false_iff_ne.2 he
      clear HV0
      go_wp2_with fail
      refine bodyPost_ret (v := (.tuple #[.agg #[.int .i64 0, .int .i64 0], .int .i64 9])) ?_ rfl ⟨by rw [HV.out], (HB.out.setCell (by simp) _).setCell (by simp) _⟩
      simp [results, Tryd.results50, go_sem, o0, o1, hz0]

theorem Parse_rng (s : ByteArray) (w : World) (hs : s.size ≤ 1000) :
    Calls Tryd.prog 25 #[.string s] w fun e w' => e = .returned (askedV s.data.toList) ∧ Below w.heap.size w w' := by
  have HA := Lib.hid (fun w => asked_any s w hs)
  obtain ⟨a, b, c, hV⟩ : ∃ a b c, askedV s.data.toList = .tuple #[.agg #[.int .i64 a, .int .i64 b], .int .i64 c] := by
    unfold askedV
    split
    · exact ⟨_, _, _, rfl⟩
    · split <;> exact ⟨_, _, _, rfl⟩
  rw [hV] at HA ⊢
  clear hV
  go_enter Tryd.func25, Tryd.ntmps25
  go_wp2_with fail
  have h0 : (w.alloc (.cells #[.int .i64 0, .int .i64 0] 35)).heap[w.heap.size]? = some (.cells #[.int .i64 0, .int .i64 0] 35 (0, 0)) := heap_alloc_new w _
  have hz : w.heap.size < (w.alloc (.cells #[.int .i64 0, .int .i64 0] 35)).heap.size := by simp
  have HB := Lib.hid (below_box w (.cells #[.int .i64 0, .int .i64 0] 35))
  generalize w.alloc (.cells #[.int .i64 0, .int .i64 0] 35) = W at *
  refine (HA.out _).mono ?_
  rintro e w2 ⟨rfl, hb⟩
  have h3 := (hb.block _ hz).trans h0
  have HB2 := Lib.hid (HB.out.trans (hb.mono (by omega)))
  have o0 := (Lib.cell_of_heap h3 (j := 0))
  have o1 := (Lib.cell_of_heap h3 (j := 1))
  have of := fun i => Lib.frozen_of_heap h3 i
  simp at o0 o1
  have hz0 : w.heap.size < w2.heap.size := lt_of_cell o0
  clear h0 h3 hb
  go_wp2_with fail
  refine bodyPost_ret (v := .tuple #[.agg #[.int .i64 a, .int .i64 b], .int .i64 c]) ?_ rfl ⟨rfl, (HB2.out.setCell (by simp) _).setCell (by simp) _⟩
  simp [results, Tryd.results25, go_sem, o0, o1, hz0]

end Go.Proofs.YtjlemghmpnkncaaDoor
