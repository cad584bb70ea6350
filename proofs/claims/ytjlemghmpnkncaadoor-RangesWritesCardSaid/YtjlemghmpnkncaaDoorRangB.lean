/-
  Walks of package ranges: the reader's unit, sign, end, size.
-/
import Derived.Test.YtjlemghmpnkncaaDoorRangA
import Derived.Test.YtjlemghmpnkncaaDoorRangPlain
import Derived.Deep.DeepCutAuto
namespace Go.Proofs.YtjlemghmpnkncaaDoor
open Go.RowKit
set_option linter.unusedSimpArgs false
set_option linter.unusedVariables false

theorem unit_both (b : Bool) (g : Nat) (s : ByteArray) (l : List UInt8) (w : World) (h : Ahead g s l w) (hs : s.size ≤ maxLen) (hu : unitOk l = b) :
    Calls Tryd.prog 78 #[rdV g] w fun e w' => if b = true then e = .returned (.tuple #[]) ∧ Went g s (l.dropWhile isLetter) w w' else Form g w e w' := by
  have hg := h.lt
  have HW := Lib.hid (fun w1 (hb : Ahead g s l w1) => while_at 104 isLetter fnLetR g s l w1 hb hs)
  have hz : (bl (l.takeWhile isLetter)).size ≤ maxLen := by
    obtain ⟨k, hk, hl, _⟩ := h
    rw [bl_size]
    have h1 := (List.takeWhile_sublist (p := isLetter) (l := l)).length_le
    have h2 := lef_len s k
    rw [hl] at h2
    omega
  have HS := Lib.hid (fun w => Same_any (bl (l.takeWhile isLetter)) ⟨#[98, 121, 116, 101, 115]⟩ w hz (by decide))
  have hq : (lowerL (bl (l.takeWhile isLetter)).data.toList == lowerL (⟨#[98, 121, 116, 101, 115]⟩ : ByteArray).data.toList) = b := by rw [bl_list]; exact hu
  rw [hq] at HS
  have HN := Lib.hid (fun w1 (hb : Ahead g s (l.dropWhile isLetter) w1) => need_yes g s (l.dropWhile isLetter) w1 hb)
  have HM := Lib.hid (fun w1 (hb : Ahead g s (l.dropWhile isLetter) w1) => need_no g s (l.dropWhile isLetter) w1 hb)
  have HB := Lib.hid (below_box w (.cells #[.pointer (some ⟨g, 0, none⟩)] 84))
  have HA := Lib.hid (h.on HB.out)
  have d0 : (w.alloc (.cells #[.pointer (some ⟨g, 0, none⟩)] 84)).cell? ⟨w.heap.size, 0, none⟩ = some (.pointer (some ⟨g, 0, none⟩)) := by simp [go_sem]
  have hgw : g ≠ w.heap.size := by omega
  clear hz hq hu h
  unfold rdV at *
  go_enter Tryd.func78, Tryd.ntmps78
  go_upto_region 1 with fail
  have hz2 : w.heap.size < (w.alloc (.cells #[.pointer (some ⟨g, 0, none⟩)] 84)).heap.size := by simp
  generalize w.alloc (.cells #[.pointer (some ⟨g, 0, none⟩)] 84) = W at *
  refine wp_region_N 6 (fun w' => w'.cell? ⟨w.heap.size, 0, none⟩ = some (.pointer (some ⟨g, 0, none⟩))) (by kernel_rfl) (by kernel_rfl) d0 ?_
  (refine NJ.take (i := 0) (v := ?_) rfl rfl (by kernel_rfl) (by kernel_rfl) (by kernel_rfl) (by kernel_rfl) (fun _ _ _ h => h) (Or.inl ⟨by rfl, ?_⟩) ?_; rotate_left; (focus (intro wS hSw; (try dsimp only at hSw); go_simp; first | done | with_reducible rfl)); (try simp only [Act.put, List.getElem_toArray, List.getElem_cons_zero, List.getElem_cons_succ, List.setIfInBounds_toArray, List.set_cons_zero, List.set_cons_succ]))
  (refine NJ.take (i := 1) (v := ?_) rfl rfl (by kernel_rfl) (by kernel_rfl) (by kernel_rfl) (by kernel_rfl) (fun _ _ _ h => h) (Or.inl ⟨by rfl, ?_⟩) ?_; rotate_left; (focus (intro wS hSw; (try dsimp only at hSw); go_simp; first | done | with_reducible rfl)); (try simp only [Act.put, List.getElem_toArray, List.getElem_cons_zero, List.getElem_cons_succ, List.setIfInBounds_toArray, List.set_cons_zero, List.set_cons_succ]))
  (refine NJ.take (i := 2) (v := ?_) rfl rfl (by kernel_rfl) (by kernel_rfl) (by kernel_rfl) (by kernel_rfl) (fun _ _ _ h => h) (Or.inl ⟨by rfl, ?_⟩) ?_; rotate_left; (focus (intro wS hSw; (try dsimp only at hSw); go_simp; first | done | with_reducible rfl)); (try simp only [Act.put, List.getElem_toArray, List.getElem_cons_zero, List.getElem_cons_succ, List.setIfInBounds_toArray, List.set_cons_zero, List.set_cons_succ]))
  refine NJ.step (i := 3) rfl rfl (by kernel_rfl) (fun hSat K hK => ?_)
  go_simp
  refine Calls.mono (HW.out _ HA.out.drew) ?_
  rintro e w2 ⟨rfl, hw⟩
  go_wp2_with fail
  refine hK.out _ _ ((hw.2.cell (by simpa using hz2) (Ne.symm hgw)).trans d0) ?_
  clear hK hSat K
  (try simp only [Act.put, List.getElem_toArray, List.getElem_cons_zero, List.getElem_cons_succ, List.setIfInBounds_toArray, List.set_cons_zero, List.set_cons_succ])
  refine NJ.step (i := 4) rfl rfl (by kernel_rfl) (fun hSat K hK => ?_)
  go_simp
  refine Calls.mono (HS.out _) ?_
  rintro e w3 ⟨rfl, hd⟩
  have hw3 : Went g s (l.dropWhile isLetter) W.drew w3 := hw.trans (Went.of_below hw.1 (hd.below _))
  go_wp2_with fail
  refine hK.out _ _ ((cell_below (hd.below (w.heap.size + 1)) (Nat.lt_succ_self _)).trans hSat) ?_
  clear hK hSat K
  (try simp only [Act.put, List.getElem_toArray, List.getElem_cons_zero, List.getElem_cons_succ, List.setIfInBounds_toArray, List.set_cons_zero, List.set_cons_succ])
  refine NJ.step (i := 5) rfl rfl (by kernel_rfl) (fun hSat K hK => ?_)
  go_simp
  have hbut : But g w W.drew := (But.of_below HB.out).trans ((But.refl g W).drew)
  cases b
  · refine Calls.mono (HM.out _ hw3.1) ?_
    rintro e w4 ⟨a, rfl, hb⟩
    exact ⟨rfl, a, rfl, (hbut.trans hw3.2).trans hb⟩
  · refine Calls.mono (HN.out _ hw3.1) ?_
    rintro e w4 ⟨rfl, hb⟩
    go_wp2_with fail
    refine hK.out _ _ ((cell_below hb (by have := hw3.2.size; simp at this; omega)).trans hSat) ?_
    clear hK hSat K
    (try simp only [Act.put, List.getElem_toArray, List.getElem_cons_zero, List.getElem_cons_succ, List.setIfInBounds_toArray, List.set_cons_zero, List.set_cons_succ])
    refine NJ.done (by kernel_rfl) (fun hSat => ?_)
    clear hSat
    go_wp2_with fail
    go_end0
    exact ⟨rfl, hw3.1.on hb, (hbut.trans hw3.2).trans (But.of_below hb)⟩

theorem skip_both (x : UInt8) (g : Nat) (s : ByteArray) (l : List UInt8) (w : World) (h : Ahead g s l w) (hs : s.size ≤ maxLen) :
    Calls Tryd.prog 68 #[.pointer (some ⟨g, 0, none⟩), .string ⟨#[x]⟩] w fun e w' => e = .returned (.bool (signOk x l)) ∧ Went g s (if signOk x l = true then l.tail else l) w w' := by
  unfold signOk
  by_cases hx : l.head? = some x
  · obtain ⟨r, rfl⟩ : ∃ r, l = x :: r := by
      cases l with
      | nil => simp at hx
      | cons y r => simp at hx; exact ⟨r, by rw [hx]⟩
    rw [if_pos (by simp)]
    refine (skip_at x g s r w h hs).mono ?_
    rintro e w' ⟨rfl, hw⟩
    exact ⟨by simp, hw⟩
  · rw [if_neg (by simpa using hx)]
    refine (skip_off x g s l w h hs hx).mono ?_
    rintro e w' ⟨rfl, hw⟩
    exact ⟨ret_bool (beq_eq_false_iff_ne.2 hx).symm, hw⟩

theorem sign_both (b : Bool) (x : UInt8) (g : Nat) (s : ByteArray) (l : List UInt8) (w : World) (h : Ahead g s l w) (hs : s.size ≤ maxLen) (hu : signOk x l = b) :
    Calls Tryd.prog 79 #[rdV g, .string ⟨#[x]⟩] w fun e w' => if b = true then e = .returned (.tuple #[]) ∧ Went g s l.tail w w' else Form g w e w' := by
  have hg := h.lt
  have HW := Lib.hid (fun w1 (hb : Ahead g s l w1) => skip_both x g s l w1 hb hs)
  rw [hu] at HW
  generalize hl2b : (if b = true then l.tail else l) = l2 at *
  have HN := Lib.hid (fun w1 (hb : Ahead g s l2 w1) => need_yes g s l2 w1 hb)
  have HM := Lib.hid (fun w1 (hb : Ahead g s l2 w1) => need_no g s l2 w1 hb)
  have HB := Lib.hid (below_box w (.cells #[.pointer (some ⟨g, 0, none⟩)] 84))
  have HA := Lib.hid (h.on HB.out)
  have d0 : (w.alloc (.cells #[.pointer (some ⟨g, 0, none⟩)] 84)).cell? ⟨w.heap.size, 0, none⟩ = some (.pointer (some ⟨g, 0, none⟩)) := by simp [go_sem]
  have hgw : g ≠ w.heap.size := by omega
  have hl2 : b = true → l2 = l.tail := fun hb => by subst hb; exact hl2b.symm.trans (if_pos rfl)
  clear hu h hl2b
  unfold rdV at *
  go_enter Tryd.func79, Tryd.ntmps79
  go_upto_region 1 with fail
  have hz2 : w.heap.size < (w.alloc (.cells #[.pointer (some ⟨g, 0, none⟩)] 84)).heap.size := by simp
  generalize w.alloc (.cells #[.pointer (some ⟨g, 0, none⟩)] 84) = W at *
  have hbut : But g w W.drew := (But.of_below HB.out).trans ((But.refl g W).drew)
  refine wp_region_N 6 (fun w' => w'.cell? ⟨w.heap.size, 0, none⟩ = some (.pointer (some ⟨g, 0, none⟩))) (by kernel_rfl) (by kernel_rfl) d0 ?_
  (refine NJ.take (i := 0) (v := ?_) rfl rfl (by kernel_rfl) (by kernel_rfl) (by kernel_rfl) (by kernel_rfl) (fun _ _ _ h => h) (Or.inl ⟨by rfl, ?_⟩) ?_; rotate_left; (focus (intro wS hSw; (try dsimp only at hSw); go_simp; first | done | with_reducible rfl)); (try simp only [Act.put, List.getElem_toArray, List.getElem_cons_zero, List.getElem_cons_succ, List.setIfInBounds_toArray, List.set_cons_zero, List.set_cons_succ]))
  (refine NJ.take (i := 1) (v := ?_) rfl rfl (by kernel_rfl) (by kernel_rfl) (by kernel_rfl) (by kernel_rfl) (fun _ _ _ h => h) (Or.inl ⟨by rfl, ?_⟩) ?_; rotate_left; (focus (intro wS hSw; (try dsimp only at hSw); go_simp; first | done | with_reducible rfl)); (try simp only [Act.put, List.getElem_toArray, List.getElem_cons_zero, List.getElem_cons_succ, List.setIfInBounds_toArray, List.set_cons_zero, List.set_cons_succ]))
  (refine NJ.take (i := 2) (v := ?_) rfl rfl (by kernel_rfl) (by kernel_rfl) (by kernel_rfl) (by kernel_rfl) (fun _ _ _ h => h) (Or.inl ⟨by rfl, ?_⟩) ?_; rotate_left; (focus (intro wS hSw; (try dsimp only at hSw); go_simp; first | done | with_reducible rfl)); (try simp only [Act.put, List.getElem_toArray, List.getElem_cons_zero, List.getElem_cons_succ, List.setIfInBounds_toArray, List.set_cons_zero, List.set_cons_succ]))
  (refine NJ.take (i := 3) (v := ?_) rfl rfl (by kernel_rfl) (by kernel_rfl) (by kernel_rfl) (by kernel_rfl) (fun _ _ _ h => h) (Or.inl ⟨by rfl, ?_⟩) ?_; rotate_left; (focus (intro wS hSw; (try dsimp only at hSw); go_simp; first | done | with_reducible rfl)); (try simp only [Act.put, List.getElem_toArray, List.getElem_cons_zero, List.getElem_cons_succ, List.setIfInBounds_toArray, List.set_cons_zero, List.set_cons_succ]))
  refine NJ.step (i := 4) rfl rfl (by kernel_rfl) (fun hSat K hK => ?_)
  go_simp
  refine Calls.mono (HW.out _ HA.out.drew) ?_
  rintro e w2 ⟨rfl, hw⟩
  go_wp2_with fail
  refine hK.out _ _ ((hw.2.cell (by simpa using hz2) (Ne.symm hgw)).trans d0) ?_
  clear hK hSat K
  (try simp only [Act.put, List.getElem_toArray, List.getElem_cons_zero, List.getElem_cons_succ, List.setIfInBounds_toArray, List.set_cons_zero, List.set_cons_succ])
  refine NJ.step (i := 5) rfl rfl (by kernel_rfl) (fun hSat K hK => ?_)
  go_simp
  cases b
  · refine Calls.mono (HM.out _ hw.1) ?_
    rintro e w4 ⟨a, rfl, hb⟩
    exact ⟨rfl, a, rfl, (hbut.trans hw.2).trans hb⟩
  · refine Calls.mono (HN.out _ hw.1) ?_
    rintro e w4 ⟨rfl, hb⟩
    go_wp2_with fail
    refine hK.out _ _ ((cell_below hb (by have := hw.2.size; simp at this; omega)).trans hSat) ?_
    clear hK hSat K
    (try simp only [Act.put, List.getElem_toArray, List.getElem_cons_zero, List.getElem_cons_succ, List.setIfInBounds_toArray, List.set_cons_zero, List.set_cons_succ])
    refine NJ.done (by kernel_rfl) (fun hSat => ?_)
    clear hSat
    go_wp2_with fail
    go_end0
    rw [← hl2 trivial]
    exact ⟨rfl, hw.1.on hb, (hbut.trans hw.2).trans (But.of_below hb)⟩

theorem end_both (b : Bool) (g : Nat) (s : ByteArray) (l : List UInt8) (w : World) (h : Ahead g s l w) (hs : s.size ≤ maxLen) (hu : decide (l = []) = b) :
    Calls Tryd.prog 81 #[rdV g] w fun e w' => if b = true then e = .returned (.tuple #[]) ∧ Went g s l w w' else Form g w e w' := by
  have hg := h.lt
  have HW := Lib.hid (fun w1 (hb : Ahead g s l w1) => end_at g s l w1 hb hs)
  rw [hu] at HW
  have HN := Lib.hid (fun w1 (hb : Ahead g s l w1) => need_yes g s l w1 hb)
  have HM := Lib.hid (fun w1 (hb : Ahead g s l w1) => need_no g s l w1 hb)
  have HB := Lib.hid (below_box w (.cells #[.pointer (some ⟨g, 0, none⟩)] 84))
  have HA := Lib.hid (h.on HB.out)
  have d0 : (w.alloc (.cells #[.pointer (some ⟨g, 0, none⟩)] 84)).cell? ⟨w.heap.size, 0, none⟩ = some (.pointer (some ⟨g, 0, none⟩)) := by simp [go_sem]
  have hgw : g ≠ w.heap.size := by omega
  clear hu h
  unfold rdV at *
  go_enter Tryd.func81, Tryd.ntmps81
  go_upto_region 1 with fail
  have hz2 : w.heap.size < (w.alloc (.cells #[.pointer (some ⟨g, 0, none⟩)] 84)).heap.size := by simp
  generalize w.alloc (.cells #[.pointer (some ⟨g, 0, none⟩)] 84) = W at *
  have hbut : But g w W.drew := (But.of_below HB.out).trans ((But.refl g W).drew)
  refine wp_region_N 5 (fun w' => w'.cell? ⟨w.heap.size, 0, none⟩ = some (.pointer (some ⟨g, 0, none⟩))) (by kernel_rfl) (by kernel_rfl) d0 ?_
  (refine NJ.take (i := 0) (v := ?_) rfl rfl (by kernel_rfl) (by kernel_rfl) (by kernel_rfl) (by kernel_rfl) (fun _ _ _ h => h) (Or.inl ⟨by rfl, ?_⟩) ?_; rotate_left; (focus (intro wS hSw; (try dsimp only at hSw); go_simp; first | done | with_reducible rfl)); (try simp only [Act.put, List.getElem_toArray, List.getElem_cons_zero, List.getElem_cons_succ, List.setIfInBounds_toArray, List.set_cons_zero, List.set_cons_succ]))
  (refine NJ.take (i := 1) (v := ?_) rfl rfl (by kernel_rfl) (by kernel_rfl) (by kernel_rfl) (by kernel_rfl) (fun _ _ _ h => h) (Or.inl ⟨by rfl, ?_⟩) ?_; rotate_left; (focus (intro wS hSw; (try dsimp only at hSw); go_simp; first | done | with_reducible rfl)); (try simp only [Act.put, List.getElem_toArray, List.getElem_cons_zero, List.getElem_cons_succ, List.setIfInBounds_toArray, List.set_cons_zero, List.set_cons_succ]))
  (refine NJ.take (i := 2) (v := ?_) rfl rfl (by kernel_rfl) (by kernel_rfl) (by kernel_rfl) (by kernel_rfl) (fun _ _ _ h => h) (Or.inl ⟨by rfl, ?_⟩) ?_; rotate_left; (focus (intro wS hSw; (try dsimp only at hSw); go_simp; first | done | with_reducible rfl)); (try simp only [Act.put, List.getElem_toArray, List.getElem_cons_zero, List.getElem_cons_succ, List.setIfInBounds_toArray, List.set_cons_zero, List.set_cons_succ]))
  refine NJ.step (i := 3) rfl rfl (by kernel_rfl) (fun hSat K hK => ?_)
  go_simp
  refine Calls.mono (HW.out _ HA.out.drew) ?_
  rintro e w2 ⟨rfl, hw⟩
  go_wp2_with fail
  refine hK.out _ _ ((hw.2.cell (by simpa using hz2) (Ne.symm hgw)).trans d0) ?_
  clear hK hSat K
  (try simp only [Act.put, List.getElem_toArray, List.getElem_cons_zero, List.getElem_cons_succ, List.setIfInBounds_toArray, List.set_cons_zero, List.set_cons_succ])
  refine NJ.step (i := 4) rfl rfl (by kernel_rfl) (fun hSat K hK => ?_)
  go_simp
  cases b
  · refine Calls.mono (HM.out _ hw.1) ?_
    rintro e w4 ⟨a, rfl, hb⟩
    exact ⟨rfl, a, rfl, (hbut.trans hw.2).trans hb⟩
  · refine Calls.mono (HN.out _ hw.1) ?_
    rintro e w4 ⟨rfl, hb⟩
    go_wp2_with fail
    refine hK.out _ _ ((cell_below hb (by have := hw.2.size; simp at this; omega)).trans hSat) ?_
    clear hK hSat K
    (try simp only [Act.put, List.getElem_toArray, List.getElem_cons_zero, List.getElem_cons_succ, List.setIfInBounds_toArray, List.set_cons_zero, List.set_cons_succ])
    refine NJ.done (by kernel_rfl) (fun hSat => ?_)
    clear hSat
    go_wp2_with fail
    go_end0
    exact ⟨rfl, hw.1.on hb, (hbut.trans hw.2).trans (But.of_below hb)⟩

/-- What size does. -/
def SizePost (g : Nat) (s : ByteArray) (l : List UInt8) (w : World) (e : Ending) (w' : World) : Prop :=
  match sizeL l with
  | some (d, l2) => e = .returned (.string (bl d)) ∧ Went g s l2 w w'
  | none => Form g w e w'

theorem sizePost_some {g : Nat} {s : ByteArray} {l d l2 : List UInt8} {w w' : World} {e : Ending} (h : sizeL l = some (d, l2)) (h2 : e = .returned (.string (bl d)) ∧ Went g s l2 w w') : SizePost g s l w e w' := by
  unfold SizePost; rw [h]; exact h2

theorem sizePost_none {g : Nat} {s : ByteArray} {l : List UInt8} {w w' : World} {e : Ending} (h : sizeL l = none) (h2 : Form g w e w') : SizePost g s l w e w' := by
  unfold SizePost; rw [h]; exact h2

theorem size_any (g : Nat) (s : ByteArray) (l : List UInt8) (w : World) (h : Ahead g s l w) (hs : s.size ≤ maxLen) :
    Calls Tryd.prog 86 #[rdV g] w (SizePost g s l w) := by
  have hg := h.lt
  have HB := Lib.hid (below_box w (.cells #[.pointer (some ⟨g, 0, none⟩)] 84))
  have HA := Lib.hid (h.on HB.out)
  have d0 : (w.alloc (.cells #[.pointer (some ⟨g, 0, none⟩)] 84)).cell? ⟨w.heap.size, 0, none⟩ = some (.pointer (some ⟨g, 0, none⟩)) := by simp [go_sem]
  have hgw : w.heap.size ≠ g := by omega
  clear h
  unfold rdV at *
  go_enter Tryd.func86, Tryd.ntmps86
  go_upto_region 1 with fail
  have hz2 : w.heap.size < (w.alloc (.cells #[.pointer (some ⟨g, 0, none⟩)] 84)).heap.size := by simp
  generalize w.alloc (.cells #[.pointer (some ⟨g, 0, none⟩)] 84) = W at *
  have hbut : But g w W := But.of_below HB.out
  by_cases h42 : l.head? = some 42
  · obtain ⟨r, rfl⟩ : ∃ r, l = 42 :: r := by
      cases l with
      | nil => simp at h42
      | cons y r => simp at h42; exact ⟨r, by rw [h42]⟩
    have HS := Lib.hid (fun w1 (hb : Ahead g s (42 :: r) w1) => skip_at 42 g s r w1 hb hs)
    have HP := Lib.hid (show sizeL (42 :: r) = some ([], r) by simp [sizeL])
    clear h42
    go_wp2_with fail
    refine Calls.mono (HS.out _ HA.out) ?_
    rintro e w2 ⟨rfl, hw⟩
    go_wp2_with fail
    go_ret
    exact sizePost_some HP.out ⟨rfl, hw.1, hbut.trans hw.2⟩
  have HS := Lib.hid (fun w1 (hb : Ahead g s l w1) => skip_off 42 g s l w1 hb hs h42)
  go_wp2_with fail
  refine Calls.mono (HS.out _ HA.out) ?_
  rintro e w2 ⟨rfl, hw⟩
  have e0 := (hw.2.cell (o := 0) hz2 hgw).trans d0
  have he2 : w.heap.size < w2.heap.size := Nat.lt_of_lt_of_le hz2 hw.2.size
  have HW2 := Lib.hid hw.1
  have HT2 := Lib.hid (hbut.trans hw.2)
  clear hw HS HA hbut d0 hz2
  match l, h42 with
  | [], h42 =>
    have HK := Lib.hid (fun w1 (hb : Ahead g s [] w1) => peek_off g s w1 hb hs)
    have HP := Lib.hid (show sizeL [] = none from rfl)
    have HM := Lib.hid (fun w1 (hb : Ahead g s [] w1) => need_no g s [] w1 hb)
    go_wp2_with fail
    refine Calls.mono (HK.out _ HW2.out) ?_
    rintro e w3 ⟨rfl, hb⟩
    have f0 := (cell_below hb he2).trans e0
    have hf3 : w.heap.size < w3.heap.size := Nat.lt_of_lt_of_le he2 hb.size
    have HW3 := Lib.hid (HW2.out.on hb)
    have HT3 := Lib.hid (HT2.out.trans (But.of_below hb))
    clear hb e0 he2 HW2 HT2
    go_upto_region 4 with fail
    refine wp_region_N 7 (fun w' => w'.cell? ⟨w.heap.size, 0, none⟩ = some (.pointer (some ⟨g, 0, none⟩))) (by kernel_rfl) (by kernel_rfl) f0 ?_
    (refine NJ.take (i := 0) (v := ?_) rfl rfl (by kernel_rfl) (by kernel_rfl) (by kernel_rfl) (by kernel_rfl) (fun _ _ _ h => h) (Or.inl ⟨by rfl, ?_⟩) ?_; rotate_left; (focus (intro wS hSw; (try dsimp only at hSw); go_simp; first | done | with_reducible rfl)); (try simp only [Act.put, List.getElem_toArray, List.getElem_cons_zero, List.getElem_cons_succ, List.setIfInBounds_toArray, List.set_cons_zero, List.set_cons_succ]))
    (refine NJ.take (i := 1) (v := ?_) rfl rfl (by kernel_rfl) (by kernel_rfl) (by kernel_rfl) (by kernel_rfl) (fun _ _ _ h => h) (Or.inl ⟨by rfl, ?_⟩) ?_; rotate_left; (focus (intro wS hSw; (try dsimp only at hSw); go_simp; first | done | with_reducible rfl)); (try simp only [Act.put, List.getElem_toArray, List.getElem_cons_zero, List.getElem_cons_succ, List.setIfInBounds_toArray, List.set_cons_zero, List.set_cons_succ]))
    (refine NJ.take (i := 2) (v := ?_) rfl rfl (by kernel_rfl) (by kernel_rfl) (by kernel_rfl) (by kernel_rfl) (fun _ _ _ h => h) (Or.inl ⟨by rfl, ?_⟩) ?_; rotate_left; (focus (intro wS hSw; (try dsimp only at hSw); go_simp; first | done | with_reducible rfl)); (try simp only [Act.put, List.getElem_toArray, List.getElem_cons_zero, List.getElem_cons_succ, List.setIfInBounds_toArray, List.set_cons_zero, List.set_cons_succ]))
    (refine NJ.take (i := 3) (v := undef) rfl rfl (by kernel_rfl) (by kernel_rfl) (by kernel_rfl) (by kernel_rfl) (fun _ _ _ h => h) (Or.inr ⟨by rfl, rfl⟩) ?_; (try simp only [Act.put, List.getElem_toArray, List.getElem_cons_zero, List.getElem_cons_succ, List.setIfInBounds_toArray, List.set_cons_zero, List.set_cons_succ]))
    (refine NJ.take (i := 4) (v := undef) rfl rfl (by kernel_rfl) (by kernel_rfl) (by kernel_rfl) (by kernel_rfl) (fun _ _ _ h => h) (Or.inr ⟨by rfl, rfl⟩) ?_; (try simp only [Act.put, List.getElem_toArray, List.getElem_cons_zero, List.getElem_cons_succ, List.setIfInBounds_toArray, List.set_cons_zero, List.set_cons_succ]))
    (refine NJ.take (i := 5) (v := ?_) rfl rfl (by kernel_rfl) (by kernel_rfl) (by kernel_rfl) (by kernel_rfl) (fun _ _ _ h => h) (Or.inl ⟨by rfl, ?_⟩) ?_; rotate_left; (focus (intro wS hSw; (try dsimp only at hSw); go_simp; first | done | with_reducible rfl)); (try simp only [Act.put, List.getElem_toArray, List.getElem_cons_zero, List.getElem_cons_succ, List.setIfInBounds_toArray, List.set_cons_zero, List.set_cons_succ]))
    refine NJ.step (i := 6) rfl rfl (by kernel_rfl) (fun hSat K hK => ?_)
    go_simp
    unfold rdV at HM
    refine Calls.mono (HM.out _ HW3.out.drew) ?_
    rintro e w4 ⟨a, rfl, hb⟩
    exact ⟨rfl, sizePost_none HP.out ⟨a, rfl, HT3.out.trans hb.startd⟩⟩
  | x :: r, h42 =>
    have HK := Lib.hid (fun w1 (hb : Ahead g s (x :: r) w1) => peek_at g s x r w1 hb hs)
    have HDG := Lib.hid (fun w => Digit_any x w)
    have hx42 : x ≠ 42 := fun e => h42 (by rw [e]; rfl)
    cases hdx : isDigit x
    · have HP := Lib.hid (show sizeL (x :: r) = none by simp [sizeL, hx42, hdx])
      have HM := Lib.hid (fun w1 (hb : Ahead g s (x :: r) w1) => need_no g s (x :: r) w1 hb)
      rw [hdx] at HDG
      clear h42 hx42 hdx
      go_wp2_with fail
      refine Calls.mono (HK.out _ HW2.out) ?_
      rintro e w3 ⟨rfl, hb⟩
      have f0 := (cell_below hb he2).trans e0
      have hf3 : w.heap.size < w3.heap.size := Nat.lt_of_lt_of_le he2 hb.size
      have HW3 := Lib.hid (HW2.out.on hb)
      have HT3 := Lib.hid (HT2.out.trans (But.of_below hb))
      clear hb e0 he2 HW2 HT2
      go_upto_region 4 with fail
      refine wp_region_N 7 (fun w' => w'.cell? ⟨w.heap.size, 0, none⟩ = some (.pointer (some ⟨g, 0, none⟩))) (by kernel_rfl) (by kernel_rfl) f0 ?_
      (refine NJ.take (i := 0) (v := ?_) rfl rfl (by kernel_rfl) (by kernel_rfl) (by kernel_rfl) (by kernel_rfl) (fun _ _ _ h => h) (Or.inl ⟨by rfl, ?_⟩) ?_; rotate_left; (focus (intro wS hSw; (try dsimp only at hSw); go_simp; first | done | with_reducible rfl)); (try simp only [Act.put, List.getElem_toArray, List.getElem_cons_zero, List.getElem_cons_succ, List.setIfInBounds_toArray, List.set_cons_zero, List.set_cons_succ]))
      (refine NJ.take (i := 1) (v := ?_) rfl rfl (by kernel_rfl) (by kernel_rfl) (by kernel_rfl) (by kernel_rfl) (fun _ _ _ h => h) (Or.inl ⟨by rfl, ?_⟩) ?_; rotate_left; (focus (intro wS hSw; (try dsimp only at hSw); go_simp; first | done | with_reducible rfl)); (try simp only [Act.put, List.getElem_toArray, List.getElem_cons_zero, List.getElem_cons_succ, List.setIfInBounds_toArray, List.set_cons_zero, List.set_cons_succ]))
      (refine NJ.take (i := 2) (v := ?_) rfl rfl (by kernel_rfl) (by kernel_rfl) (by kernel_rfl) (by kernel_rfl) (fun _ _ _ h => h) (Or.inl ⟨by rfl, ?_⟩) ?_; rotate_left; (focus (intro wS hSw; (try dsimp only at hSw); go_simp; first | done | with_reducible rfl)); (try simp only [Act.put, List.getElem_toArray, List.getElem_cons_zero, List.getElem_cons_succ, List.setIfInBounds_toArray, List.set_cons_zero, List.set_cons_succ]))
      (refine NJ.take (i := 3) (v := ?_) rfl rfl (by kernel_rfl) (by kernel_rfl) (by kernel_rfl) (by kernel_rfl) (fun _ _ _ h => h) (Or.inl ⟨by rfl, ?_⟩) ?_; rotate_left; (focus (intro wS hSw; (try dsimp only at hSw); go_simp; first | done | with_reducible rfl)); (try simp only [Act.put, List.getElem_toArray, List.getElem_cons_zero, List.getElem_cons_succ, List.setIfInBounds_toArray, List.set_cons_zero, List.set_cons_succ]))
      (refine NJ.step (i := 4) rfl rfl (by kernel_rfl) (fun hSat K hK => ?_); go_simp; (go_at_call 80; (with_reducible refine (HDG.out _).mono ?_); rintro e w' ⟨rfl, rfl⟩); go_wp2_with fail; refine hK.out _ _ ?_ ?_; (focus (exact hSat)); clear hK hSat K; (try simp only [Act.put, List.getElem_toArray, List.getElem_cons_zero, List.getElem_cons_succ, List.setIfInBounds_toArray, List.set_cons_zero, List.set_cons_succ]))
      (refine NJ.take (i := 5) (v := ?_) rfl rfl (by kernel_rfl) (by kernel_rfl) (by kernel_rfl) (by kernel_rfl) (fun _ _ _ h => h) (Or.inl ⟨by rfl, ?_⟩) ?_; rotate_left; (focus (intro wS hSw; (try dsimp only at hSw); go_simp; first | done | with_reducible rfl)); (try simp only [Act.put, List.getElem_toArray, List.getElem_cons_zero, List.getElem_cons_succ, List.setIfInBounds_toArray, List.set_cons_zero, List.set_cons_succ]))
      refine NJ.step (i := 6) rfl rfl (by kernel_rfl) (fun hSat K hK => ?_)
      go_simp
      unfold rdV at HM
      refine Calls.mono (HM.out _ HW3.out.drew) ?_
      rintro e w4 ⟨a, rfl, hb⟩
      exact ⟨rfl, sizePost_none HP.out ⟨a, rfl, HT3.out.trans hb.startd⟩⟩
    · have HP := Lib.hid (show sizeL (x :: r) = some ((x :: r).takeWhile isDigit, (x :: r).dropWhile isDigit) by simp [sizeL, hx42, hdx])
      have HN := Lib.hid (fun w1 (hb : Ahead g s (x :: r) w1) => need_yes g s (x :: r) w1 hb)
      have HWH := Lib.hid (fun w1 (hb : Ahead g s (x :: r) w1) => while_at 80 isDigit fnDigit g s (x :: r) w1 hb hs)
      rw [hdx] at HDG
      clear h42 hx42 hdx
      go_wp2_with fail
      refine Calls.mono (HK.out _ HW2.out) ?_
      rintro e w3 ⟨rfl, hb⟩
      have f0 := (cell_below hb he2).trans e0
      have hf3 : w.heap.size < w3.heap.size := Nat.lt_of_lt_of_le he2 hb.size
      have HW3 := Lib.hid (HW2.out.on hb)
      have HT3 := Lib.hid (HT2.out.trans (But.of_below hb))
      clear hb e0 he2 HW2 HT2
      go_upto_region 4 with fail
      refine wp_region_N 7 (fun w' => w'.cell? ⟨w.heap.size, 0, none⟩ = some (.pointer (some ⟨g, 0, none⟩))) (by kernel_rfl) (by kernel_rfl) f0 ?_
      (refine NJ.take (i := 0) (v := ?_) rfl rfl (by kernel_rfl) (by kernel_rfl) (by kernel_rfl) (by kernel_rfl) (fun _ _ _ h => h) (Or.inl ⟨by rfl, ?_⟩) ?_; rotate_left; (focus (intro wS hSw; (try dsimp only at hSw); go_simp; first | done | with_reducible rfl)); (try simp only [Act.put, List.getElem_toArray, List.getElem_cons_zero, List.getElem_cons_succ, List.setIfInBounds_toArray, List.set_cons_zero, List.set_cons_succ]))
      (refine NJ.take (i := 1) (v := ?_) rfl rfl (by kernel_rfl) (by kernel_rfl) (by kernel_rfl) (by kernel_rfl) (fun _ _ _ h => h) (Or.inl ⟨by rfl, ?_⟩) ?_; rotate_left; (focus (intro wS hSw; (try dsimp only at hSw); go_simp; first | done | with_reducible rfl)); (try simp only [Act.put, List.getElem_toArray, List.getElem_cons_zero, List.getElem_cons_succ, List.setIfInBounds_toArray, List.set_cons_zero, List.set_cons_succ]))
      (refine NJ.take (i := 2) (v := ?_) rfl rfl (by kernel_rfl) (by kernel_rfl) (by kernel_rfl) (by kernel_rfl) (fun _ _ _ h => h) (Or.inl ⟨by rfl, ?_⟩) ?_; rotate_left; (focus (intro wS hSw; (try dsimp only at hSw); go_simp; first | done | with_reducible rfl)); (try simp only [Act.put, List.getElem_toArray, List.getElem_cons_zero, List.getElem_cons_succ, List.setIfInBounds_toArray, List.set_cons_zero, List.set_cons_succ]))
      (refine NJ.take (i := 3) (v := ?_) rfl rfl (by kernel_rfl) (by kernel_rfl) (by kernel_rfl) (by kernel_rfl) (fun _ _ _ h => h) (Or.inl ⟨by rfl, ?_⟩) ?_; rotate_left; (focus (intro wS hSw; (try dsimp only at hSw); go_simp; first | done | with_reducible rfl)); (try simp only [Act.put, List.getElem_toArray, List.getElem_cons_zero, List.getElem_cons_succ, List.setIfInBounds_toArray, List.set_cons_zero, List.set_cons_succ]))
      (refine NJ.step (i := 4) rfl rfl (by kernel_rfl) (fun hSat K hK => ?_); go_simp; (go_at_call 80; (with_reducible refine (HDG.out _).mono ?_); rintro e w' ⟨rfl, rfl⟩); go_wp2_with fail; refine hK.out _ _ ?_ ?_; (focus (exact hSat)); clear hK hSat K; (try simp only [Act.put, List.getElem_toArray, List.getElem_cons_zero, List.getElem_cons_succ, List.setIfInBounds_toArray, List.set_cons_zero, List.set_cons_succ]))
      (refine NJ.take (i := 5) (v := ?_) rfl rfl (by kernel_rfl) (by kernel_rfl) (by kernel_rfl) (by kernel_rfl) (fun _ _ _ h => h) (Or.inl ⟨by rfl, ?_⟩) ?_; rotate_left; (focus (intro wS hSw; (try dsimp only at hSw); go_simp; first | done | with_reducible rfl)); (try simp only [Act.put, List.getElem_toArray, List.getElem_cons_zero, List.getElem_cons_succ, List.setIfInBounds_toArray, List.set_cons_zero, List.set_cons_succ]))
      refine NJ.step (i := 6) rfl rfl (by kernel_rfl) (fun hSat K hK => ?_)
      go_simp
      unfold rdV at HN
      refine Calls.mono (HN.out _ HW3.out.drew) ?_
      rintro e w4 ⟨rfl, hb⟩
      go_wp2_with fail
      refine hK.out _ _ ((cell_below hb (by simpa using hf3)).trans hSat) ?_
      clear hK hSat K
      (try simp only [Act.put, List.getElem_toArray, List.getElem_cons_zero, List.getElem_cons_succ, List.setIfInBounds_toArray, List.set_cons_zero, List.set_cons_succ])
      refine NJ.done (by kernel_rfl) (fun hSat => ?_)
      have HW4 := Lib.hid (HW3.out.drew.on hb)
      have HT4 := Lib.hid (HT3.out.trans (But.of_below hb).startd)
      clear hb f0 HW3 HT3
      go_wp2_with fail
      refine Calls.mono (HWH.out _ HW4.out) ?_
      rintro e w5 ⟨rfl, hw⟩
      go_wp2_with fail
      go_ret
      exact sizePost_some HP.out ⟨rfl, hw.1, HT4.out.trans hw.2⟩

end Go.Proofs.YtjlemghmpnkncaaDoor
