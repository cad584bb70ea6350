/-
  Lemmas of this claim, part 15: the texts RangB, RangC, RangD, RangS, PartA, PartB, one behind the other.
-/
import Derived.Test.YtcbhkcdphbffpaaGreatDoorM14
import Derived.Deep.DeepCutAuto

namespace Go.Proofs.YtcbhkcdphbffpaaGreatDoor
open Go.RowKit
set_option linter.unusedSimpArgs false
set_option linter.unusedVariables false

theorem unit_both (b : Bool) (g : Nat) (s : ByteArray) (l : List UInt8) (w : World) (h : Ahead g s l w) (hs : s.size ≤ maxLen) (hu : unitOk l = b) :
    Calls Tryz.prog 103 #[rdV g] w fun e w' => if b = true then e = .returned (.tuple #[]) ∧ Went g s (l.dropWhile isLetter) w w' else Form g w e w' := by
  have hg := h.lt
  have HW := Lib.hid (fun w1 (hb : Ahead g s l w1) => while_at 145 isLetter fnLetR g s l w1 hb hs)
  have hz : (bl (l.takeWhile isLetter)).size ≤ maxLen := by
    obtain ⟨k, hk, hl, _⟩ := h
    rw [bl_size]
    have h1 := (List.takeWhile_sublist (p := isLetter) (l := l)).length_le
    have h2 := lef_len s k
    rw [hl] at h2
    omega
  have HS := Lib.hid (fun w => Same_any (bl (l.takeWhile isLetter)) ⟨#[98, 121, 116, 101, 115]⟩ w hz (by decide))
  have hq : (lowerL (bl (l.takeWhile isLetter)).data.toList == lowerL (⟨#[98, 121, 116, 101, 115]⟩ : ByteArray).data.toList) = b := by rw [bl_list]; exact hu
  rw [hq] at HS
  have HN := Lib.hid (fun w1 (hb : Ahead g s (l.dropWhile isLetter) w1) => need_yes g s (l.dropWhile isLetter) w1 hb)
  have HM := Lib.hid (fun w1 (hb : Ahead g s (l.dropWhile isLetter) w1) => need_no g s (l.dropWhile isLetter) w1 hb)
  have HB := Lib.hid (below_box w (.cells #[.pointer (some ⟨g, 0, none⟩)] 115))
  have HA := Lib.hid (h.on HB.out)
  have d0 : (w.alloc (.cells #[.pointer (some ⟨g, 0, none⟩)] 115)).cell? ⟨w.heap.size, 0, none⟩ = some (.pointer (some ⟨g, 0, none⟩)) := by simp [go_sem]
  have hgw : g ≠ w.heap.size := by omega
  clear hz hq hu h
  unfold rdV at *
  go_enter Tryz.func103, Tryz.ntmps103
  go_upto_region 1 with fail
  have hz2 : w.heap.size < (w.alloc (.cells #[.pointer (some ⟨g, 0, none⟩)] 115)).heap.size := by simp
  generalize w.alloc (.cells #[.pointer (some ⟨g, 0, none⟩)] 115) = W at *
  refine wp_region_N 6 (fun w' => w'.cell? ⟨w.heap.size, 0, none⟩ = some (.pointer (some ⟨g, 0, none⟩))) (by kernel_rfl) (by kernel_rfl) d0 ?_
  (refine NJ.take (i := 0) (v := ?_) rfl rfl (by kernel_rfl) (by kernel_rfl) (by kernel_rfl) (by kernel_rfl) (fun _ _ _ h => h) (Or.inl ⟨by rfl, ?_⟩) ?_; rotate_left; (focus (intro wS hSw; (try dsimp only at hSw); go_simp; first | done | with_reducible rfl)); (try simp only [Act.put, List.getElem_toArray, List.getElem_cons_zero, List.getElem_cons_succ, List.setIfInBounds_toArray, List.set_cons_zero, List.set_cons_succ]))
  (refine NJ.take (i := 1) (v := ?_) rfl rfl (by kernel_rfl) (by kernel_rfl) (by kernel_rfl) (by kernel_rfl) (fun _ _ _ h => h) (Or.inl ⟨by rfl, ?_⟩) ?_; rotate_left; (focus (intro wS hSw; (try dsimp only at hSw); go_simp; first | done | with_reducible rfl)); (try simp only [Act.put, List.getElem_toArray, List.getElem_cons_zero, List.getElem_cons_succ, List.setIfInBounds_toArray, List.set_cons_zero, List.set_cons_succ]))
  (refine NJ.take (i := 2) (v := ?_) rfl rfl (by kernel_rfl) (by kernel_rfl) (by kernel_rfl) (by kernel_rfl) (fun _ _ _ h => h) (Or.inl ⟨by rfl, ?_⟩) ?_; rotate_left; (focus (intro wS hSw; (try dsimp only at hSw); go_simp; first | done | with_reducible rfl)); (try simp only [Act.put, List.getElem_toArray, List.getElem_cons_zero, List.getElem_cons_succ, List.setIfInBounds_toArray, List.set_cons_zero, List.set_cons_succ]))
  refine NJ.step (i := 3) rfl rfl (by kernel_rfl) (fun hSat K hK => ?_)
  go_simp
  refine Calls.mono (HW.out _ HA.out.drew) ?_
  rintro e w2 ⟨rfl, hw⟩
  go_wp2_with fail
  refine hK.out _ _ ((hw.2.cell (by simpa using hz2) (Ne.symm hgw)).trans d0) ?_
  clear hK hSat K
  (try simp only [Act.put, List.getElem_toArray, List.getElem_cons_zero, List.getElem_cons_succ, List.setIfInBounds_toArray, List.set_cons_zero, List.set_cons_succ])
  refine NJ.step (i := 4) rfl rfl (by kernel_rfl) (fun hSat K hK => ?_)
  go_simp
  refine Calls.mono (HS.out _) ?_
  rintro e w3 ⟨rfl, hd⟩
  have hw3 : Went g s (l.dropWhile isLetter) W.drew w3 := hw.trans (Went.of_below hw.1 (hd.below _))
  go_wp2_with fail
  refine hK.out _ _ ((cell_below (hd.below (w.heap.size + 1)) (Nat.lt_succ_self _)).trans hSat) ?_
  clear hK hSat K
  (try simp only [Act.put, List.getElem_toArray, List.getElem_cons_zero, List.getElem_cons_succ, List.setIfInBounds_toArray, List.set_cons_zero, List.set_cons_succ])
  refine NJ.step (i := 5) rfl rfl (by kernel_rfl) (fun hSat K hK => ?_)
  go_simp
  have hbut : But g w W.drew := (But.of_below HB.out).trans ((But.refl g W).drew)
  cases b
  · refine Calls.mono (HM.out _ hw3.1) ?_
    rintro e w4 ⟨a, rfl, hb⟩
    exact ⟨rfl, a, rfl, (hbut.trans hw3.2).trans hb⟩
  · refine Calls.mono (HN.out _ hw3.1) ?_
    rintro e w4 ⟨rfl, hb⟩
    go_wp2_with fail
    refine hK.out _ _ ((cell_below hb (by have := hw3.2.size; simp at this; omega)).trans hSat) ?_
    clear hK hSat K
    (try simp only [Act.put, List.getElem_toArray, List.getElem_cons_zero, List.getElem_cons_succ, List.setIfInBounds_toArray, List.set_cons_zero, List.set_cons_succ])
    refine NJ.done (by kernel_rfl) (fun hSat => ?_)
    clear hSat
    go_wp2_with fail
    go_end0
    exact ⟨rfl, hw3.1.on hb, (hbut.trans hw3.2).trans (But.of_below hb)⟩

theorem skip_both (x : UInt8) (g : Nat) (s : ByteArray) (l : List UInt8) (w : World) (h : Ahead g s l w) (hs : s.size ≤ maxLen) :
    Calls Tryz.prog 105 #[.pointer (some ⟨g, 0, none⟩), .string ⟨#[x]⟩] w fun e w' => e = .returned (.bool (signOk x l)) ∧ Went g s (if signOk x l = true then l.tail else l) w w' := by
  unfold signOk
  by_cases hx : l.head? = some x
  · obtain ⟨r, rfl⟩ : ∃ r, l = x :: r := by
      cases l with
      | nil => simp at hx
      | cons y r => simp at hx; exact ⟨r, by rw [hx]⟩
    rw [if_pos (by simp)]
    refine (skip_at x g s r w h hs).mono ?_
    rintro e w' ⟨rfl, hw⟩
    exact ⟨by simp, hw⟩
  · rw [if_neg (by simpa using hx)]
    refine (skip_off x g s l w h hs hx).mono ?_
    rintro e w' ⟨rfl, hw⟩
    exact ⟨ret_bool (beq_eq_false_iff_ne.2 hx).symm, hw⟩

theorem sign_both (b : Bool) (x : UInt8) (g : Nat) (s : ByteArray) (l : List UInt8) (w : World) (h : Ahead g s l w) (hs : s.size ≤ maxLen) (hu : signOk x l = b) :
    Calls Tryz.prog 107 #[rdV g, .string ⟨#[x]⟩] w fun e w' => if b = true then e = .returned (.tuple #[]) ∧ Went g s l.tail w w' else Form g w e w' := by
  have hg := h.lt
  have HW := Lib.hid (fun w1 (hb : Ahead g s l w1) => skip_both x g s l w1 hb hs)
  rw [hu] at HW
  generalize hl2b : (if b = true then l.tail else l) = l2 at *
  have HN := Lib.hid (fun w1 (hb : Ahead g s l2 w1) => need_yes g s l2 w1 hb)
  have HM := Lib.hid (fun w1 (hb : Ahead g s l2 w1) => need_no g s l2 w1 hb)
  have HB := Lib.hid (below_box w (.cells #[.pointer (some ⟨g, 0, none⟩)] 115))
  have HA := Lib.hid (h.on HB.out)
  have d0 : (w.alloc (.cells #[.pointer (some ⟨g, 0, none⟩)] 115)).cell? ⟨w.heap.size, 0, none⟩ = some (.pointer (some ⟨g, 0, none⟩)) := by simp [go_sem]
  have hgw : g ≠ w.heap.size := by omega
  have hl2 : b = true → l2 = l.tail := fun hb => by subst hb; exact hl2b.symm.trans (if_pos rfl)
  clear hu h hl2b
  unfold rdV at *
  go_enter Tryz.func107, Tryz.ntmps107
  go_upto_region 1 with fail
  have hz2 : w.heap.size < (w.alloc (.cells #[.pointer (some ⟨g, 0, none⟩)] 115)).heap.size := by simp
  generalize w.alloc (.cells #[.pointer (some ⟨g, 0, none⟩)] 115) = W at *
  have hbut : But g w W.drew := (But.of_below HB.out).trans ((But.refl g W).drew)
  refine wp_region_N 6 (fun w' => w'.cell? ⟨w.heap.size, 0, none⟩ = some (.pointer (some ⟨g, 0, none⟩))) (by kernel_rfl) (by kernel_rfl) d0 ?_
  (refine NJ.take (i := 0) (v := ?_) rfl rfl (by kernel_rfl) (by kernel_rfl) (by kernel_rfl) (by kernel_rfl) (fun _ _ _ h => h) (Or.inl ⟨by rfl, ?_⟩) ?_; rotate_left; (focus (intro wS hSw; (try dsimp only at hSw); go_simp; first | done | with_reducible rfl)); (try simp only [Act.put, List.getElem_toArray, List.getElem_cons_zero, List.getElem_cons_succ, List.setIfInBounds_toArray, List.set_cons_zero, List.set_cons_succ]))
  (refine NJ.take (i := 1) (v := ?_) rfl rfl (by kernel_rfl) (by kernel_rfl) (by kernel_rfl) (by kernel_rfl) (fun _ _ _ h => h) (Or.inl ⟨by rfl, ?_⟩) ?_; rotate_left; (focus (intro wS hSw; (try dsimp only at hSw); go_simp; first | done | with_reducible rfl)); (try simp only [Act.put, List.getElem_toArray, List.getElem_cons_zero, List.getElem_cons_succ, List.setIfInBounds_toArray, List.set_cons_zero, List.set_cons_succ]))
  (refine NJ.take (i := 2) (v := ?_) rfl rfl (by kernel_rfl) (by kernel_rfl) (by kernel_rfl) (by kernel_rfl) (fun _ _ _ h => h) (Or.inl ⟨by rfl, ?_⟩) ?_; rotate_left; (focus (intro wS hSw; (try dsimp only at hSw); go_simp; first | done | with_reducible rfl)); (try simp only [Act.put, List.getElem_toArray, List.getElem_cons_zero, List.getElem_cons_succ, List.setIfInBounds_toArray, List.set_cons_zero, List.set_cons_succ]))
  (refine NJ.take (i := 3) (v := ?_) rfl rfl (by kernel_rfl) (by kernel_rfl) (by kernel_rfl) (by kernel_rfl) (fun _ _ _ h => h) (Or.inl ⟨by rfl, ?_⟩) ?_; rotate_left; (focus (intro wS hSw; (try dsimp only at hSw); go_simp; first | done | with_reducible rfl)); (try simp only [Act.put, List.getElem_toArray, List.getElem_cons_zero, List.getElem_cons_succ, List.setIfInBounds_toArray, List.set_cons_zero, List.set_cons_succ]))
  refine NJ.step (i := 4) rfl rfl (by kernel_rfl) (fun hSat K hK => ?_)
  go_simp
  refine Calls.mono (HW.out _ HA.out.drew) ?_
  rintro e w2 ⟨rfl, hw⟩
  go_wp2_with fail
  refine hK.out _ _ ((hw.2.cell (by simpa using hz2) (Ne.symm hgw)).trans d0) ?_
  clear hK hSat K
  (try simp only [Act.put, List.getElem_toArray, List.getElem_cons_zero, List.getElem_cons_succ, List.setIfInBounds_toArray, List.set_cons_zero, List.set_cons_succ])
  refine NJ.step (i := 5) rfl rfl (by kernel_rfl) (fun hSat K hK => ?_)
  go_simp
  cases b
  · refine Calls.mono (HM.out _ hw.1) ?_
    rintro e w4 ⟨a, rfl, hb⟩
    exact ⟨rfl, a, rfl, (hbut.trans hw.2).trans hb⟩
  · refine Calls.mono (HN.out _ hw.1) ?_
    rintro e w4 ⟨rfl, hb⟩
    go_wp2_with fail
    refine hK.out _ _ ((cell_below hb (by have := hw.2.size; simp at this; omega)).trans hSat) ?_
    clear hK hSat K
    (try simp only [Act.put, List.getElem_toArray, List.getElem_cons_zero, List.getElem_cons_succ, List.setIfInBounds_toArray, List.set_cons_zero, List.set_cons_succ])
    refine NJ.done (by kernel_rfl) (fun hSat => ?_)
    clear hSat
    go_wp2_with fail
    go_end0
    rw [← hl2 trivial]
    exact ⟨rfl, hw.1.on hb, (hbut.trans hw.2).trans (But.of_below hb)⟩

theorem end_both (b : Bool) (g : Nat) (s : ByteArray) (l : List UInt8) (w : World) (h : Ahead g s l w) (hs : s.size ≤ maxLen) (hu : decide (l = []) = b) :
    Calls Tryz.prog 108 #[rdV g] w fun e w' => if b = true then e = .returned (.tuple #[]) ∧ Went g s l w w' else Form g w e w' := by
  have hg := h.lt
  have HW := Lib.hid (fun w1 (hb : Ahead g s l w1) => end_at g s l w1 hb hs)
  rw [hu] at HW
  have HN := Lib.hid (fun w1 (hb : Ahead g s l w1) => need_yes g s l w1 hb)
  have HM := Lib.hid (fun w1 (hb : Ahead g s l w1) => need_no g s l w1 hb)
  have HB := Lib.hid (below_box w (.cells #[.pointer (some ⟨g, 0, none⟩)] 115))
  have HA := Lib.hid (h.on HB.out)
  have d0 : (w.alloc (.cells #[.pointer (some ⟨g, 0, none⟩)] 115)).cell? ⟨w.heap.size, 0, none⟩ = some (.pointer (some ⟨g, 0, none⟩)) := by simp [go_sem]
  have hgw : g ≠ w.heap.size := by omega
  clear hu h
  unfold rdV at *
  go_enter Tryz.func108, Tryz.ntmps108
  go_upto_region 1 with fail
  have hz2 : w.heap.size < (w.alloc (.cells #[.pointer (some ⟨g, 0, none⟩)] 115)).heap.size := by simp
  generalize w.alloc (.cells #[.pointer (some ⟨g, 0, none⟩)] 115) = W at *
  have hbut : But g w W.drew := (But.of_below HB.out).trans ((But.refl g W).drew)
  refine wp_region_N 5 (fun w' => w'.cell? ⟨w.heap.size, 0, none⟩ = some (.pointer (some ⟨g, 0, none⟩))) (by kernel_rfl) (by kernel_rfl) d0 ?_
  (refine NJ.take (i := 0) (v := ?_) rfl rfl (by kernel_rfl) (by kernel_rfl) (by kernel_rfl) (by kernel_rfl) (fun _ _ _ h => h) (Or.inl ⟨by rfl, ?_⟩) ?_; rotate_left; (focus (intro wS hSw; (try dsimp only at hSw); go_simp; first | done | with_reducible rfl)); (try simp only [Act.put, List.getElem_toArray, List.getElem_cons_zero, List.getElem_cons_succ, List.setIfInBounds_toArray, List.set_cons_zero, List.set_cons_succ]))
  (refine NJ.take (i := 1) (v := ?_) rfl rfl (by kernel_rfl) (by kernel_rfl) (by kernel_rfl) (by kernel_rfl) (fun _ _ _ h => h) (Or.inl ⟨by rfl, ?_⟩) ?_; rotate_left; (focus (intro wS hSw; (try dsimp only at hSw); go_simp; first | done | with_reducible rfl)); (try simp only [Act.put, List.getElem_toArray, List.getElem_cons_zero, List.getElem_cons_succ, List.setIfInBounds_toArray, List.set_cons_zero, List.set_cons_succ]))
  (refine NJ.take (i := 2) (v := ?_) rfl rfl (by kernel_rfl) (by kernel_rfl) (by kernel_rfl) (by kernel_rfl) (fun _ _ _ h => h) (Or.inl ⟨by rfl, ?_⟩) ?_; rotate_left; (focus (intro wS hSw; (try dsimp only at hSw); go_simp; first | done | with_reducible rfl)); (try simp only [Act.put, List.getElem_toArray, List.getElem_cons_zero, List.getElem_cons_succ, List.setIfInBounds_toArray, List.set_cons_zero, List.set_cons_succ]))
  refine NJ.step (i := 3) rfl rfl (by kernel_rfl) (fun hSat K hK => ?_)
  go_simp
  refine Calls.mono (HW.out _ HA.out.drew) ?_
  rintro e w2 ⟨rfl, hw⟩
  go_wp2_with fail
  refine hK.out _ _ ((hw.2.cell (by simpa using hz2) (Ne.symm hgw)).trans d0) ?_
  clear hK hSat K
  (try simp only [Act.put, List.getElem_toArray, List.getElem_cons_zero, List.getElem_cons_succ, List.setIfInBounds_toArray, List.set_cons_zero, List.set_cons_succ])
  refine NJ.step (i := 4) rfl rfl (by kernel_rfl) (fun hSat K hK => ?_)
  go_simp
  cases b
  · refine Calls.mono (HM.out _ hw.1) ?_
    rintro e w4 ⟨a, rfl, hb⟩
    exact ⟨rfl, a, rfl, (hbut.trans hw.2).trans hb⟩
  · refine Calls.mono (HN.out _ hw.1) ?_
    rintro e w4 ⟨rfl, hb⟩
    go_wp2_with fail
    refine hK.out _ _ ((cell_below hb (by have := hw.2.size; simp at this; omega)).trans hSat) ?_
    clear hK hSat K
    (try simp only [Act.put, List.getElem_toArray, List.getElem_cons_zero, List.getElem_cons_succ, List.setIfInBounds_toArray, List.set_cons_zero, List.set_cons_succ])
    refine NJ.done (by kernel_rfl) (fun hSat => ?_)
    clear hSat
    go_wp2_with fail
    go_end0
    exact ⟨rfl, hw.1.on hb, (hbut.trans hw.2).trans (But.of_below hb)⟩

/-- What size does. -/
def SizePost (g : Nat) (s : ByteArray) (l : List UInt8) (w : World) (e : Ending) (w' : World) : Prop :=
  match sizeL l with
  | some (d, l2) => e = .returned (.string (bl d)) ∧ Went g s l2 w w'
  | none => Form g w e w'

theorem sizePost_some {g : Nat} {s : ByteArray} {l d l2 : List UInt8} {w w' : World} {e : Ending} (h : sizeL l = some (d, l2)) (h2 : e = .returned (.string (bl d)) ∧ Went g s l2 w w') : SizePost g s l w e w' := by
  unfold SizePost; rw [h]; exact h2

theorem sizePost_none {g : Nat} {s : ByteArray} {l : List UInt8} {w w' : World} {e : Ending} (h : sizeL l = none) (h2 : Form g w e w') : SizePost g s l w e w' := by
  unfold SizePost; rw [h]; exact h2

theorem size_any (g : Nat) (s : ByteArray) (l : List UInt8) (w : World) (h : Ahead g s l w) (hs : s.size ≤ maxLen) :
    Calls Tryz.prog 106 #[rdV g] w (SizePost g s l w) := by
  have hg := h.lt
  have HB := Lib.hid (below_box w (.cells #[.pointer (some ⟨g, 0, none⟩)] 115))
  have HA := Lib.hid (h.on HB.out)
  have d0 : (w.alloc (.cells #[.pointer (some ⟨g, 0, none⟩)] 115)).cell? ⟨w.heap.size, 0, none⟩ = some (.pointer (some ⟨g, 0, none⟩)) := by simp [go_sem]
  have hgw : w.heap.size ≠ g := by omega
  clear h
  unfold rdV at *
  go_enter Tryz.func106, Tryz.ntmps106
  go_upto_region 1 with fail
  have hz2 : w.heap.size < (w.alloc (.cells #[.pointer (some ⟨g, 0, none⟩)] 115)).heap.size := by simp
  generalize w.alloc (.cells #[.pointer (some ⟨g, 0, none⟩)] 115) = W at *
  have hbut : But g w W := But.of_below HB.out
  by_cases h42 : l.head? = some 42
  · obtain ⟨r, rfl⟩ : ∃ r, l = 42 :: r := by
      cases l with
      | nil => simp at h42
      | cons y r => simp at h42; exact ⟨r, by rw [h42]⟩
    have HS := Lib.hid (fun w1 (hb : Ahead g s (42 :: r) w1) => skip_at 42 g s r w1 hb hs)
    have HP := Lib.hid (show sizeL (42 :: r) = some ([], r) by simp [sizeL])
    clear h42
    go_wp2_with fail
    refine Calls.mono (HS.out _ HA.out) ?_
    rintro e w2 ⟨rfl, hw⟩
    go_wp2_with fail
    go_ret
    exact sizePost_some HP.out ⟨rfl, hw.1, hbut.trans hw.2⟩
  have HS := Lib.hid (fun w1 (hb : Ahead g s l w1) => skip_off 42 g s l w1 hb hs h42)
  go_wp2_with fail
  refine Calls.mono (HS.out _ HA.out) ?_
  rintro e w2 ⟨rfl, hw⟩
  have e0 := (hw.2.cell (o := 0) hz2 hgw).trans d0
  have he2 : w.heap.size < w2.heap.size := Nat.lt_of_lt_of_le hz2 hw.2.size
  have HW2 := Lib.hid hw.1
  have HT2 := Lib.hid (hbut.trans hw.2)
  clear hw HS HA hbut d0 hz2
  match l, h42 with
  | [], h42 =>
    have HK := Lib.hid (fun w1 (hb : Ahead g s [] w1) => peek_off g s w1 hb hs)
    have HP := Lib.hid (show sizeL [] = none from rfl)
    have HM := Lib.hid (fun w1 (hb : Ahead g s [] w1) => need_no g s [] w1 hb)
    go_wp2_with fail
    refine Calls.mono (HK.out _ HW2.out) ?_
    rintro e w3 ⟨rfl, hb⟩
    have f0 := (cell_below hb he2).trans e0
    have hf3 : w.heap.size < w3.heap.size := Nat.lt_of_lt_of_le he2 hb.size
    have HW3 := Lib.hid (HW2.out.on hb)
    have HT3 := Lib.hid (HT2.out.trans (But.of_below hb))
    clear hb e0 he2 HW2 HT2
    go_upto_region 4 with fail
    refine wp_region_N 7 (fun w' => w'.cell? ⟨w.heap.size, 0, none⟩ = some (.pointer (some ⟨g, 0, none⟩))) (by kernel_rfl) (by kernel_rfl) f0 ?_
    (refine NJ.take (i := 0) (v := ?_) rfl rfl (by kernel_rfl) (by kernel_rfl) (by kernel_rfl) (by kernel_rfl) (fun _ _ _ h => h) (Or.inl ⟨by rfl, ?_⟩) ?_; rotate_left; (focus (intro wS hSw; (try dsimp only at hSw); go_simp; first | done | with_reducible rfl)); (try simp only [Act.put, List.getElem_toArray, List.getElem_cons_zero, List.getElem_cons_succ, List.setIfInBounds_toArray, List.set_cons_zero, List.set_cons_succ]))
    (refine NJ.take (i := 1) (v := ?_) rfl rfl (by kernel_rfl) (by kernel_rfl) (by kernel_rfl) (by kernel_rfl) (fun _ _ _ h => h) (Or.inl ⟨by rfl, ?_⟩) ?_; rotate_left; (focus (intro wS hSw; (try dsimp only at hSw); go_simp; first | done | with_reducible rfl)); (try simp only [Act.put, List.getElem_toArray, List.getElem_cons_zero, List.getElem_cons_succ, List.setIfInBounds_toArray, List.set_cons_zero, List.set_cons_succ]))
    (refine NJ.take (i := 2) (v := ?_) rfl rfl (by kernel_rfl) (by kernel_rfl) (by kernel_rfl) (by kernel_rfl) (fun _ _ _ h => h) (Or.inl ⟨by rfl, ?_⟩) ?_; rotate_left; (focus (intro wS hSw; (try dsimp only at hSw); go_simp; first | done | with_reducible rfl)); (try simp only [Act.put, List.getElem_toArray, List.getElem_cons_zero, List.getElem_cons_succ, List.setIfInBounds_toArray, List.set_cons_zero, List.set_cons_succ]))
    (refine NJ.take (i := 3) (v := undef) rfl rfl (by kernel_rfl) (by kernel_rfl) (by kernel_rfl) (by kernel_rfl) (fun _ _ _ h => h) (Or.inr ⟨by rfl, rfl⟩) ?_; (try simp only [Act.put, List.getElem_toArray, List.getElem_cons_zero, List.getElem_cons_succ, List.setIfInBounds_toArray, List.set_cons_zero, List.set_cons_succ]))
    (refine NJ.take (i := 4) (v := undef) rfl rfl (by kernel_rfl) (by kernel_rfl) (by kernel_rfl) (by kernel_rfl) (fun _ _ _ h => h) (Or.inr ⟨by rfl, rfl⟩) ?_; (try simp only [Act.put, List.getElem_toArray, List.getElem_cons_zero, List.getElem_cons_succ, List.setIfInBounds_toArray, List.set_cons_zero, List.set_cons_succ]))
    (refine NJ.take (i := 5) (v := ?_) rfl rfl (by kernel_rfl) (by kernel_rfl) (by kernel_rfl) (by kernel_rfl) (fun _ _ _ h => h) (Or.inl ⟨by rfl, ?_⟩) ?_; rotate_left; (focus (intro wS hSw; (try dsimp only at hSw); go_simp; first | done | with_reducible rfl)); (try simp only [Act.put, List.getElem_toArray, List.getElem_cons_zero, List.getElem_cons_succ, List.setIfInBounds_toArray, List.set_cons_zero, List.set_cons_succ]))
    refine NJ.step (i := 6) rfl rfl (by kernel_rfl) (fun hSat K hK => ?_)
    go_simp
    unfold rdV at HM
    refine Calls.mono (HM.out _ HW3.out.drew) ?_
    rintro e w4 ⟨a, rfl, hb⟩
    exact ⟨rfl, sizePost_none HP.out ⟨a, rfl, HT3.out.trans hb.startd⟩⟩
  | x :: r, h42 =>
    have HK := Lib.hid (fun w1 (hb : Ahead g s (x :: r) w1) => peek_at g s x r w1 hb hs)
    have HDG := Lib.hid (fun w => Digit_any x w)
    have hx42 : x ≠ 42 := fun e => h42 (by rw [e]; rfl)
    cases hdx : isDigit x
    · have HP := Lib.hid (show sizeL (x :: r) = none by simp [sizeL, hx42, hdx])
      have HM := Lib.hid (fun w1 (hb : Ahead g s (x :: r) w1) => need_no g s (x :: r) w1 hb)
      rw [hdx] at HDG
      clear h42 hx42 hdx
      go_wp2_with fail
      refine Calls.mono (HK.out _ HW2.out) ?_
      rintro e w3 ⟨rfl, hb⟩
      have f0 := (cell_below hb he2).trans e0
      have hf3 : w.heap.size < w3.heap.size := Nat.lt_of_lt_of_le he2 hb.size
      have HW3 := Lib.hid (HW2.out.on hb)
      have HT3 := Lib.hid (HT2.out.trans (But.of_below hb))
      clear hb e0 he2 HW2 HT2
      go_upto_region 4 with fail
      refine wp_region_N 7 (fun w' => w'.cell? ⟨w.heap.size, 0, none⟩ = some (.pointer (some ⟨g, 0, none⟩))) (by kernel_rfl) (by kernel_rfl) f0 ?_
      (refine NJ.take (i := 0) (v := ?_) rfl rfl (by kernel_rfl) (by kernel_rfl) (by kernel_rfl) (by kernel_rfl) (fun _ _ _ h => h) (Or.inl ⟨by rfl, ?_⟩) ?_; rotate_left; (focus (intro wS hSw; (try dsimp only at hSw); go_simp; first | done | with_reducible rfl)); (try simp only [Act.put, List.getElem_toArray, List.getElem_cons_zero, List.getElem_cons_succ, List.setIfInBounds_toArray, List.set_cons_zero, List.set_cons_succ]))
      (refine NJ.take (i := 1) (v := ?_) rfl rfl (by kernel_rfl) (by kernel_rfl) (by kernel_rfl) (by kernel_rfl) (fun _ _ _ h => h) (Or.inl ⟨by rfl, ?_⟩) ?_; rotate_left; (focus (intro wS hSw; (try dsimp only at hSw); go_simp; first | done | with_reducible rfl)); (try simp only [Act.put, List.getElem_toArray, List.getElem_cons_zero, List.getElem_cons_succ, List.setIfInBounds_toArray, List.set_cons_zero, List.set_cons_succ]))
      (refine NJ.take (i := 2) (v := ?_) rfl rfl (by kernel_rfl) (by kernel_rfl) (by kernel_rfl) (by kernel_rfl) (fun _ _ _ h => h) (Or.inl ⟨by rfl, ?_⟩) ?_; rotate_left; (focus (intro wS hSw; (try dsimp only at hSw); go_simp; first | done | with_reducible rfl)); (try simp only [Act.put, List.getElem_toArray, List.getElem_cons_zero, List.getElem_cons_succ, List.setIfInBounds_toArray, List.set_cons_zero, List.set_cons_succ]))
      (refine NJ.take (i := 3) (v := ?_) rfl rfl (by kernel_rfl) (by kernel_rfl) (by kernel_rfl) (by kernel_rfl) (fun _ _ _ h => h) (Or.inl ⟨by rfl, ?_⟩) ?_; rotate_left; (focus (intro wS hSw; (try dsimp only at hSw); go_simp; first | done | with_reducible rfl)); (try simp only [Act.put, List.getElem_toArray, List.getElem_cons_zero, List.getElem_cons_succ, List.setIfInBounds_toArray, List.set_cons_zero, List.set_cons_succ]))
      (refine NJ.step (i := 4) rfl rfl (by kernel_rfl) (fun hSat K hK => ?_); go_simp; (go_at_call 150; (with_reducible refine (HDG.out _).mono ?_); rintro e w' ⟨rfl, rfl⟩); go_wp2_with fail; refine hK.out _ _ ?_ ?_; (focus (exact hSat)); clear hK hSat K; (try simp only [Act.put, List.getElem_toArray, List.getElem_cons_zero, List.getElem_cons_succ, List.setIfInBounds_toArray, List.set_cons_zero, List.set_cons_succ]))
      (refine NJ.take (i := 5) (v := ?_) rfl rfl (by kernel_rfl) (by kernel_rfl) (by kernel_rfl) (by kernel_rfl) (fun _ _ _ h => h) (Or.inl ⟨by rfl, ?_⟩) ?_; rotate_left; (focus (intro wS hSw; (try dsimp only at hSw); go_simp; first | done | with_reducible rfl)); (try simp only [Act.put, List.getElem_toArray, List.getElem_cons_zero, List.getElem_cons_succ, List.setIfInBounds_toArray, List.set_cons_zero, List.set_cons_succ]))
      refine NJ.step (i := 6) rfl rfl (by kernel_rfl) (fun hSat K hK => ?_)
      go_simp
      unfold rdV at HM
      refine Calls.mono (HM.out _ HW3.out.drew) ?_
      rintro e w4 ⟨a, rfl, hb⟩
      exact ⟨rfl, sizePost_none HP.out ⟨a, rfl, HT3.out.trans hb.startd⟩⟩
    · have HP := Lib.hid (show sizeL (x :: r) = some ((x :: r).takeWhile isDigit, (x :: r).dropWhile isDigit) by simp [sizeL, hx42, hdx])
      have HN := Lib.hid (fun w1 (hb : Ahead g s (x :: r) w1) => need_yes g s (x :: r) w1 hb)
      have HWH := Lib.hid (fun w1 (hb : Ahead g s (x :: r) w1) => while_at 150 isDigit fnDigit g s (x :: r) w1 hb hs)
      rw [hdx] at HDG
      clear h42 hx42 hdx
      go_wp2_with fail
      refine Calls.mono (HK.out _ HW2.out) ?_
      rintro e w3 ⟨rfl, hb⟩
      have f0 := (cell_below hb he2).trans e0
      have hf3 : w.heap.size < w3.heap.size := Nat.lt_of_lt_of_le he2 hb.size
      have HW3 := Lib.hid (HW2.out.on hb)
      have HT3 := Lib.hid (HT2.out.trans (But.of_below hb))
      clear hb e0 he2 HW2 HT2
      go_upto_region 4 with fail
      refine wp_region_N 7 (fun w' => w'.cell? ⟨w.heap.size, 0, none⟩ = some (.pointer (some ⟨g, 0, none⟩))) (by kernel_rfl) (by kernel_rfl) f0 ?_
      (refine NJ.take (i := 0) (v := ?_) rfl rfl (by kernel_rfl) (by kernel_rfl) (by kernel_rfl) (by kernel_rfl) (fun _ _ _ h => h) (Or.inl ⟨by rfl, ?_⟩) ?_; rotate_left; (focus (intro wS hSw; (try dsimp only at hSw); go_simp; first | done | with_reducible rfl)); (try simp only [Act.put, List.getElem_toArray, List.getElem_cons_zero, List.getElem_cons_succ, List.setIfInBounds_toArray, List.set_cons_zero, List.set_cons_succ]))
      (refine NJ.take (i := 1) (v := ?_) rfl rfl (by kernel_rfl) (by kernel_rfl) (by kernel_rfl) (by kernel_rfl) (fun _ _ _ h => h) (Or.inl ⟨by rfl, ?_⟩) ?_; rotate_left; (focus (intro wS hSw; (try dsimp only at hSw); go_simp; first | done | with_reducible rfl)); (try simp only [Act.put, List.getElem_toArray, List.getElem_cons_zero, List.getElem_cons_succ, List.setIfInBounds_toArray, List.set_cons_zero, List.set_cons_succ]))
      (refine NJ.take (i := 2) (v := ?_) rfl rfl (by kernel_rfl) (by kernel_rfl) (by kernel_rfl) (by kernel_rfl) (fun _ _ _ h => h) (Or.inl ⟨by rfl, ?_⟩) ?_; rotate_left; (focus (intro wS hSw; (try dsimp only at hSw); go_simp; first | done | with_reducible rfl)); (try simp only [Act.put, List.getElem_toArray, List.getElem_cons_zero, List.getElem_cons_succ, List.setIfInBounds_toArray, List.set_cons_zero, List.set_cons_succ]))
      (refine NJ.take (i := 3) (v := ?_) rfl rfl (by kernel_rfl) (by kernel_rfl) (by kernel_rfl) (by kernel_rfl) (fun _ _ _ h => h) (Or.inl ⟨by rfl, ?_⟩) ?_; rotate_left; (focus (intro wS hSw; (try dsimp only at hSw); go_simp; first | done | with_reducible rfl)); (try simp only [Act.put, List.getElem_toArray, List.getElem_cons_zero, List.getElem_cons_succ, List.setIfInBounds_toArray, List.set_cons_zero, List.set_cons_succ]))
      (refine NJ.step (i := 4) rfl rfl (by kernel_rfl) (fun hSat K hK => ?_); go_simp; (go_at_call 150; (with_reducible refine (HDG.out _).mono ?_); rintro e w' ⟨rfl, rfl⟩); go_wp2_with fail; refine hK.out _ _ ?_ ?_; (focus (exact hSat)); clear hK hSat K; (try simp only [Act.put, List.getElem_toArray, List.getElem_cons_zero, List.getElem_cons_succ, List.setIfInBounds_toArray, List.set_cons_zero, List.set_cons_succ]))
      (refine NJ.take (i := 5) (v := ?_) rfl rfl (by kernel_rfl) (by kernel_rfl) (by kernel_rfl) (by kernel_rfl) (fun _ _ _ h => h) (Or.inl ⟨by rfl, ?_⟩) ?_; rotate_left; (focus (intro wS hSw; (try dsimp only at hSw); go_simp; first | done | with_reducible rfl)); (try simp only [Act.put, List.getElem_toArray, List.getElem_cons_zero, List.getElem_cons_succ, List.setIfInBounds_toArray, List.set_cons_zero, List.set_cons_succ]))
      refine NJ.step (i := 6) rfl rfl (by kernel_rfl) (fun hSat K hK => ?_)
      go_simp
      unfold rdV at HN
      refine Calls.mono (HN.out _ HW3.out.drew) ?_
      rintro e w4 ⟨rfl, hb⟩
      go_wp2_with fail
      refine hK.out _ _ ((cell_below hb (by simpa using hf3)).trans hSat) ?_
      clear hK hSat K
      (try simp only [Act.put, List.getElem_toArray, List.getElem_cons_zero, List.getElem_cons_succ, List.setIfInBounds_toArray, List.set_cons_zero, List.set_cons_succ])
      refine NJ.done (by kernel_rfl) (fun hSat => ?_)
      have HW4 := Lib.hid (HW3.out.drew.on hb)
      have HT4 := Lib.hid (HT3.out.trans (But.of_below hb).startd)
      clear hb f0 HW3 HT3
      go_wp2_with fail
      refine Calls.mono (HWH.out _ HW4.out) ?_
      rintro e w5 ⟨rfl, hw⟩
      go_wp2_with fail
      go_ret
      exact sizePost_some HP.out ⟨rfl, hw.1, HT4.out.trans hw.2⟩

end Go.Proofs.YtcbhkcdphbffpaaGreatDoor

namespace Go.Proofs.YtcbhkcdphbffpaaGreatDoor
open Go.RowKit
set_option linter.unusedSimpArgs false
set_option linter.unusedVariables false

theorem said_any (l : List UInt8) (c : Int) (w : World) (hl : l.length ≤ 1000) (hd : l.all isDigit = true) :
    Calls Tryz.prog 109 #[.string (bl l), .int .i64 c] w fun e w' => e = .returned (.tuple #[.int .i64 (saidN l), .int .i64 (saidE l c)]) ∧ w = w' := by
  by_cases h0 : l = []
  · have H1 : Hid (saidN l = -1) := Lib.hid (by unfold saidN; rw [if_pos h0])
    have H2 : Hid (saidE l c = c) := Lib.hid (by unfold saidE; rw [if_pos h0])
    have hb : (bl l).toList = [] := by rw [bl_nil]; exact h0
    generalize bl l = s at *
    clear h0
    go_enter Tryz.func109, Tryz.ntmps109
    go_wp2_with fail
    go_ret2
    exact ⟨by rw [H1.out, H2.out]; rfl, rfl⟩
  · have hb : (bl l).toList.isEmpty = false := by rw [List.isEmpty_eq_false_iff, ne_eq, bl_nil]; exact h0
    have hz : 0 < (bl l).size := by rw [bl_size]; exact List.length_pos_iff.2 h0
    have hd2 : (bl l).data.toList.all isDigit = true := by rw [bl_list]; exact hd
    have hp := parse_digits hz hd2
    have HP := Lib.hid (fun w => dec_Parse_any (bl l) w (by rw [bl_size]; unfold maxLen; omega))
    rw [hp.1, hp.2] at HP
    rw [bl_list] at HP
    by_cases hm : dec_valL l ≤ mostN
    · rw [if_pos hm, if_pos hm] at HP
      have H1 : Hid (saidN l = dec_valL l) := Lib.hid (by unfold saidN; rw [if_neg h0, if_pos hm])
      have H2 : Hid (saidE l c = c) := Lib.hid (by unfold saidE; rw [if_neg h0, if_pos hm])
      clear hp hd2 hz h0 hm
      generalize bl l = s at *
      go_enter Tryz.func109, Tryz.ntmps109
      go_wp2_with (go_at_call 152; refine (HP.out _).mono ?_; rintro e w2 ⟨rfl, rfl⟩)
      go_ret2
      exact ⟨by rw [H1.out, H2.out]; rfl, rfl⟩
    · rw [if_neg hm, if_neg hm] at HP
      have H1 : Hid (saidN l = 0) := Lib.hid (by unfold saidN; rw [if_neg h0, if_neg hm])
      have H2 : Hid (saidE l c = 9) := Lib.hid (by unfold saidE; rw [if_neg h0, if_neg hm])
      clear hp hd2 hz h0 hm
      generalize bl l = s at *
      go_enter Tryz.func109, Tryz.ntmps109
      go_wp2_with (go_at_call 152; refine (HP.out _).mono ?_; rintro e w2 ⟨rfl, rfl⟩)
      go_ret2
      exact ⟨by rw [H1.out, H2.out]; rfl, rfl⟩

/-- Nothing but some blocks has turned. -/
structure Only (p : Nat → Prop) (w w' : World) : Prop where
  os : w'.os = w.os
  tape : w'.tape = w.tape
  output : w'.output = w.output
  size : w.heap.size ≤ w'.heap.size
  block : ∀ i, i < w.heap.size → ¬ p i → w'.heap[i]? = w.heap[i]?

theorem Only.refl (p : Nat → Prop) (w : World) : Only p w w := ⟨rfl, rfl, rfl, Nat.le_refl _, fun _ _ _ => rfl⟩

theorem Only.trans {p : Nat → Prop} {a b c : World} (h : Only p a b) (k : Only p b c) : Only p a c :=
  ⟨k.os.trans h.os, k.tape.trans h.tape, k.output.trans h.output, Nat.le_trans h.size k.size, fun i hi hn => (k.block i (Nat.lt_of_lt_of_le hi h.size) hn).trans (h.block i hi hn)⟩

theorem Only.of_but {p : Nat → Prop} {g : Nat} {a b : World} (h : But g a b) (hg : p g) : Only p a b :=
  ⟨h.os, h.tape, h.output, h.size, fun i hi hn => h.block i hi (fun e => hn (by injection e with e; rw [e]; exact hg))⟩

theorem Only.of_below {p : Nat → Prop} {a w : World} (h : Below a.heap.size a w) : Only p a w := ⟨h.os, h.tape, h.output, h.size, fun i hi _ => h.block i hi⟩

theorem Only.setCell {p : Nat → Prop} {a w : World} (h : Only p a w) {q : Addr} (hp : p q.block ∨ a.heap.size ≤ q.block) (u : Value) : Only p a (w.setCell q u) :=
  ⟨h.os, h.tape, h.output, by simpa [World.setCell] using h.size, fun i hi hn => (Below.heap_setCell w q u i (by
    rintro rfl
    rcases hp with hp | hp
    · exact hn hp
    · omega)).trans (h.block i hi hn)⟩

theorem Only.below {p : Nat → Prop} {B : Nat} {a b : World} (h : Only p a b) (hp : ∀ i, p i → B ≤ i) (hs : B ≤ a.heap.size) : Below B a b :=
  ⟨h.os, h.tape, h.output, h.size, fun i hi => h.block i (by omega) (fun e => by have := hp i e; omega)⟩

theorem Only.keeps {p : Nat → Prop} {B : Nat} {a b : World} (h : Only p a b) (hp : ∀ i, p i → i < B) : Keeps B a b :=
  ⟨h.size, fun i h1 h2 => h.block i h2 (fun e => by have := hp i e; omega)⟩

theorem Only.mono {p q : Nat → Prop} {a b : World} (h : Only p a b) (hp : ∀ i, p i → q i) : Only q a b :=
  ⟨h.os, h.tape, h.output, h.size, fun i hi hn => h.block i hi (fun e => hn (hp i e))⟩

theorem Only.startA {p : Nat → Prop} {w w' : World} {o : Obj} (h : Only p (w.alloc o) w') : Only p w w' := (Only.of_below (below_box w o)).trans h

theorem Only.startD {p : Nat → Prop} {w w' : World} (h : Only p w.drew w') : Only p w w' := (Only.of_below ((Below.refl _ w).drew)).trans h

set_option maxRecDepth 20000 in
theorem catch_throwsE (K : FuncId) (first cap : Array Value) (c : Int) (B : Nat) (Post : World → Prop) (w : World) (hcf : Enters K) (hB : B ≤ w.heap.size) (hst : Stays w.heap.size Post)
    (hK : ∀ w1, Below w.heap.size w w1 → Calls Tryz.prog K (first ++ cap) w1 fun e w' => ∃ a : Int, e = .panicked [{ v := faultV a c, recovered := false }] ∧ Keeps B w1 w' ∧ Post w') :
    Calls Tryz.prog 170 #[.func (.func K) first cap] w fun e w' => ∃ a : Int, e = .returned (.tuple #[.agg #[.int .i64 a, .int .i64 c], .bool true]) ∧ Keeps B w w' ∧ Post w' := by
  have HK := Lib.hid hK; clear hK
  have HS := Lib.hid hst; clear hst
  unfold Enters at hcf
  have hnn := fun (w : World) => run_eql_func_nil (P := Tryz.prog) w Tryz.underlying1 (.func K) first cap
  have hmf : ∀ (fn : Fn) (first cap : Array Value) (w : World), (Instr.makeFunc fn first cap).run Tryz.prog w = .ok (.func fn first cap) w := fun _ _ _ _ => rfl
  go_enter_defers Tryz.func170, Tryz.ntmps170
  go_wp2_with fail
  refine (HK.out _ ((below_box _ _).alloc (by simp) _)).mono ?_
  rintro e w2 ⟨a, rfl, hk, hp⟩
  have hz := hk.size
  simp at hz
  have hc : ∀ b o, w.heap.size ≤ b → b < w.heap.size + 2 → w2.cell? ⟨b, o, none⟩ = ((w.alloc (Obj.cells #[.int .i64 0, .int .i64 0] 156)).alloc (Obj.cells #[.bool false] 4)).cell? ⟨b, o, none⟩ :=
    fun b o h1 h2 => hk.cell (Nat.le_trans hB h1) (by simpa using h2)
  have hf : ∀ b o, w.heap.size ≤ b → b < w.heap.size + 2 → w2.frozen? ⟨b, o, none⟩ = ((w.alloc (Obj.cells #[.int .i64 0, .int .i64 0] 156)).alloc (Obj.cells #[.bool false] 4)).frozen? ⟨b, o, none⟩ :=
    fun b o h1 h2 => hk.frozen (Nat.le_trans hB h1) (by simpa using h2)
  refine leaves_cons (f := 192) (args := #[.pointer (some ⟨w.heap.size, 0, none⟩), .pointer (some ⟨w.heap.size + 1, 0, none⟩)]) (by simp) (by simp [go_sem]) ?_
  refine (catch1_panics w.heap.size a c 0 0 false [] w2 (by omega) ?_ ?_ ?_ ?_ ?_ ?_).mono ?_
  · rw [hc _ _ (by omega) (by omega)]; simp [go_sem]
  · rw [hc _ _ (by omega) (by omega)]; simp [go_sem]
  · rw [hc _ _ (by omega) (by omega)]; simp [go_sem]
  · rw [hf _ _ (by omega) (by omega)]; simp [go_sem]
  · rw [hf _ _ (by omega) (by omega)]; simp [go_sem]
  · rw [hf _ _ (by omega) (by omega)]; simp [go_sem]
  rintro e u' w3 ⟨rfl, rfl, g0, g1, g2, hb⟩
  have H := Lib.hid (HS.out _ _ hb hp)
  have H2 : Hid (Keeps B w w3) := Lib.hid ((((Keeps.refl B w).alloc (.cells #[.int .i64 0, .int .i64 0] 156)).alloc (.cells #[.bool false] 4)).trans hk |>.below hb)
  clear hp
  simp [Leaves, settle, results, Tryz.results170, go_sem, g0, g1, g2, H.out, H2.out]

set_option maxRecDepth 20000 in
theorem Catch_throwsE (K : FuncId) (first cap : Array Value) (c : Int) (B : Nat) (Post : World → Prop) (w : World) (hcf : Enters K) (hB : B ≤ w.heap.size) (hst : Stays w.heap.size Post)
    (hK : ∀ w1, Below w.heap.size w w1 → Calls Tryz.prog K (first ++ cap) w1 fun e w' => ∃ a : Int, e = .panicked [{ v := faultV a c, recovered := false }] ∧ Keeps B w1 w' ∧ Post w') :
    Calls Tryz.prog 141 #[.func (.func K) first cap] w fun e w' => ∃ a : Int, e = .returned (.tuple #[.agg #[.int .i64 a, .int .i64 c], .bool true]) ∧ Keeps B w w' ∧ Post w' := by
  have HK := Lib.hid hK; clear hK
  have HS := Lib.hid hst; clear hst
  have HE := Lib.hid hcf; clear hcf
  go_enter Tryz.func141, Tryz.ntmps141
  go_wp2_with fail
  refine (catch_throwsE K first cap c B Post _ HE.out (by simp; omega) (HS.out.mono (by simp)) fun w1 h1 => HK.out w1 ((below_box _ _).trans (h1.mono (by simp)))).mono ?_
  rintro e w2 ⟨a, rfl, hk, hp⟩
  have hz := hk.size
  simp at hz
  have hz2 : w.heap.size < w2.heap.size := by omega
  have c0 : w2.cell? ⟨w.heap.size, 0, none⟩ = some (.int .i64 0) := by rw [hk.cell hB (by simp)]; simp [go_sem]
  have c1 : w2.cell? ⟨w.heap.size, 1, none⟩ = some (.int .i64 0) := by rw [hk.cell hB (by simp)]; simp [go_sem]
  have f0 : w2.frozen? ⟨w.heap.size, 0, none⟩ = false := by rw [hk.frozen hB (by simp)]; simp [go_sem]
  have f1 : w2.frozen? ⟨w.heap.size, 1, none⟩ = false := by rw [hk.frozen hB (by simp)]; simp [go_sem]
  have HP := Lib.hid (HS.out _ _ (((Below.refl w.heap.size w2).setCell (Nat.le_refl _) (.int .i64 a) (p := ⟨w.heap.size, 0, none⟩)).setCell (Nat.le_refl _) (.int .i64 c) (p := ⟨w.heap.size, 1, none⟩)) hp)
  have HK2 := Lib.hid (((((Keeps.refl B w).alloc (.cells #[.int .i64 0, .int .i64 0] 156)).trans hk).setCell (Nat.le_refl _) (.int .i64 a) (p := ⟨w.heap.size, 0, none⟩)).setCell (Nat.le_refl _) (.int .i64 c) (p := ⟨w.heap.size, 1, none⟩))
  clear hp hk hz
  go_wp2_with fail
  refine bodyPost_ret (v := .tuple #[.agg #[.int .i64 a, .int .i64 c], .bool true]) ?_ rfl ⟨a, rfl, HK2.out, HP.out⟩
  simp [results, Tryz.results141, go_sem, c0, c1, hz2]

/-- What the function that reads may come to. -/
def ReadsP (R : Ending → World → Prop) : Prop := ∀ e w', R e w' → e = .returned (.tuple #[]) ∨ ∃ v, e = .panicked v

theorem form1_any (K : FuncId) (cap : Array Value) (s : ByteArray) (bf bs : Nat) (R : Ending → World → Prop) (w : World) (hcf : Enters K) (hR : ReadsP R)
    (c0 : w.cell? ⟨bf, 0, none⟩ = some (.func (.func K) #[] cap)) (c1 : w.cell? ⟨bs, 0, none⟩ = some (.string s))
    (hK : ∀ g w1, Below w.heap.size w w1 → w.heap.size ≤ g → Ahead g s s.data.toList w1 → Calls Tryz.prog K (#[rdV g] ++ cap) w1 R) :
    Calls Tryz.prog 142 #[.pointer (some ⟨bf, 0, none⟩), .pointer (some ⟨bs, 0, none⟩)] w R := by
  have HK := Lib.hid hK; clear hK
  have HR := Lib.hid hR; clear hR
  unfold Enters at hcf
  have hf : bf < w.heap.size := lt_of_cell c0
  have hs : bs < w.heap.size := lt_of_cell c1
  go_enter Tryz.func142, Tryz.ntmps142
  refine wp_region_N 4 (fun w' => w'.cell? ⟨bf, 0, none⟩ = some (.func (.func K) #[] cap) ∧ w'.cell? ⟨bs, 0, none⟩ = some (.string s)) (by kernel_rfl) (by kernel_rfl) ⟨c0, c1⟩ ?_
  (refine NJ.take (i := 0) (v := ?_) rfl rfl (by kernel_rfl) (by kernel_rfl) (by kernel_rfl) (by kernel_rfl) (fun _ _ _ h => h) (Or.inl ⟨by rfl, ?_⟩) ?_; rotate_left; (focus (intro wS hSw; (try dsimp only at hSw); go_simp; first | done | with_reducible rfl)); (try simp only [Act.put, List.getElem_toArray, List.getElem_cons_zero, List.getElem_cons_succ, List.setIfInBounds_toArray, List.set_cons_zero, List.set_cons_succ]))
  (refine NJ.take (i := 1) (v := ?_) rfl rfl (by kernel_rfl) (by kernel_rfl) (by kernel_rfl) (by kernel_rfl) (fun _ _ _ h => h) (Or.inl ⟨by rfl, ?_⟩) ?_; rotate_left; (focus (intro wS hSw; (try dsimp only at hSw); go_simp; first | done | with_reducible rfl)); (try simp only [Act.put, List.getElem_toArray, List.getElem_cons_zero, List.getElem_cons_succ, List.setIfInBounds_toArray, List.set_cons_zero, List.set_cons_succ]))
  refine NJ.step (i := 2) rfl rfl (by kernel_rfl) (fun hSat K' hK => ?_)
  go_simp
  refine Calls.mono (New_any s w.drew) ?_
  rintro e w2 ⟨rfl, rfl⟩
  have HB := Lib.hid (below_box w.drew (.cells #[.string s, .int .i64 0] 163))
  have HC : Hid (Ahead w.heap.size s s.data.toList ((w.alloc (.cells #[.string s, .int .i64 0] 163)).drew)) := Lib.hid ⟨0, Nat.zero_le _, rfl, Cur.new w.drew s⟩
  have HBW : Hid (Below w.heap.size w ((w.alloc (.cells #[.string s, .int .i64 0] 163)).drew)) := Lib.hid (((Below.refl _ w).drew).alloc (Nat.le_refl _) _)
  have HK2 := Lib.hid (HK.out w.heap.size _ HBW.out (Nat.le_refl _) HC.out)
  unfold rdV at HK2
  go_wp2_with fail
  refine hK.out _ _ ⟨(cell_below HB.out hf).trans hSat.1, (cell_below HB.out hs).trans hSat.2⟩ ?_
  clear hK hSat K'
  (try simp only [Act.put, List.getElem_toArray, List.getElem_cons_zero, List.getElem_cons_succ, List.setIfInBounds_toArray, List.set_cons_zero, List.set_cons_succ])
  generalize (w.alloc (.cells #[.string s, .int .i64 0] 163)).drew = w2 at *
  (refine NJ.take (i := 3) (v := ?_) rfl rfl (by kernel_rfl) (by kernel_rfl) (by kernel_rfl) (by kernel_rfl) (fun _ _ _ h => h) (Or.inl ⟨by rfl, ?_⟩) ?_; rotate_left; (focus (intro wS hSw; (try dsimp only at hSw); go_simp; first | done | with_reducible rfl)); (try simp only [Act.put, List.getElem_toArray, List.getElem_cons_zero, List.getElem_cons_succ, List.setIfInBounds_toArray, List.set_cons_zero, List.set_cons_succ]))
  refine NJ.last rfl (by kernel_rfl) (by kernel_rfl) (fun hSat K' hK => ?_)
  go_simp
  refine HK2.out.mono ?_
  rintro e w3 hr
  rcases HR.out _ _ hr with rfl | ⟨v, rfl⟩
  · go_wp2_with fail
    refine hK.out _ _ ?_
    clear hK hSat K'
    (try simp only [Act.put, List.getElem_toArray, List.getElem_cons_zero, List.getElem_cons_succ, List.setIfInBounds_toArray, List.set_cons_zero, List.set_cons_succ])
    go_wp2_with fail
    go_end0
    exact hr
  · exact ⟨rfl, hr⟩

theorem entersForm1 : Enters 142 := fun args w => MuLone.run_callFunc_enter Tryz.func142 (by kernel_rfl) rfl args w

/-- What holds of blocks of its own may be said behind a call. -/
def Goes (K : FuncId) (cap : Array Value) (s : ByteArray) (Post : World → Prop) (w : World) (e0 : Ending → Prop) : Prop :=
  ∀ g w1, Below w.heap.size w w1 → w.heap.size ≤ g → Ahead g s s.data.toList w1 → Calls Tryz.prog K (#[rdV g] ++ cap) w1 fun e w' => e0 e ∧ Only (fun i => i = g ∨ i < w.heap.size) w1 w' ∧ Post w'

theorem keeps_form {w w1 W w' : World} {g : Nat} (h : Only (fun i => i = g ∨ i < w.heap.size) W w') (hg : w1.heap.size ≤ g) (hb : Below w1.heap.size w1 W) (hw : w.heap.size ≤ w1.heap.size) : Keeps w.heap.size w1 w' :=
  ⟨Nat.le_trans hb.size h.size, fun i h1 h2 => (h.block i (Nat.lt_of_lt_of_le h2 hb.size) (by omega)).trans (hb.block i h2)⟩

/-- The world in which form catches. -/
def formW (w : World) (s : ByteArray) (K : FuncId) (cap : Array Value) : World := (w.alloc (.cells #[.string s] 9)).alloc (.cells #[.func (.func K) #[] cap] 121)

theorem form_step {K : FuncId} {cap : Array Value} {s : ByteArray} {Post : World → Prop} {w : World} {e0 : Ending → Prop} (hcf : Enters K) (he0 : ∀ e, e0 e → e = .returned (.tuple #[]) ∨ ∃ v, e = .panicked v) (hK : Goes K cap s Post w e0) :
    ∀ w1, Below (formW w s K cap).heap.size (formW w s K cap) w1 → Calls Tryz.prog 142 (#[] ++ #[.pointer (some ⟨w.heap.size + 1, 0, none⟩), .pointer (some ⟨w.heap.size, 0, none⟩)]) w1 fun e w' => e0 e ∧ Keeps w.heap.size w1 w' ∧ Post w' := by
  intro w1 hb
  have hz : (formW w s K cap).heap.size = w.heap.size + 2 := by simp [formW]
  have hwf : Below w.heap.size w (formW w s K cap) := (below_box w _).alloc (by simp) _
  have hw1 : Below w.heap.size w w1 := hwf.trans (hb.mono (by omega))
  have hsz := hb.size
  rw [Array.empty_append]
  refine form1_any K cap s (w.heap.size + 1) w.heap.size _ w1 hcf (fun e w' h => he0 e h.1) ?_ ?_ ?_
  · rw [cell_below hb (by omega)]
    simp [formW, go_sem]
  · rw [cell_below hb (by omega)]
    simp [formW, go_sem]
  · intro g w2 hb2 hg hA
    refine (hK g w2 (hw1.trans (hb2.mono hw1.size)) (by omega) hA).mono ?_
    rintro e w3 ⟨h1, h2, h3⟩
    exact ⟨h1, keeps_form h2 hg hb2 hw1.size, h3⟩

set_option maxRecDepth 20000 in
theorem form_gives (K : FuncId) (cap : Array Value) (s : ByteArray) (Post : World → Prop) (w : World) (hcf : Enters K) (hst : Stays w.heap.size Post)
    (hK : Goes K cap s Post w (fun e => e = .returned (.tuple #[]))) :
    Calls Tryz.prog 100 #[.string s, .func (.func K) #[] cap] w fun e w' => e = .returned (.int .i64 0) ∧ Post w' := by
  have HC := Lib.hid (Catch_gives 142 #[] #[.pointer (some ⟨w.heap.size + 1, 0, none⟩), .pointer (some ⟨w.heap.size, 0, none⟩)] w.heap.size Post (formW w s K cap) entersForm1 (by simp [formW]; omega) (hst.mono (by simp [formW]; omega)) (fun w1 hb => form_step hcf (fun e h => .inl h) hK w1 hb))
  have HS := Lib.hid hst
  clear hst hK hcf
  unfold formW at HC
  have hmf : ∀ (fn : Fn) (first cap : Array Value) (w : World), (Instr.makeFunc fn first cap).run Tryz.prog w = .ok (.func fn first cap) w := fun _ _ _ _ => rfl
  go_enter Tryz.func100, Tryz.ntmps100
  go_wp2_with fail
  refine HC.out.mono ?_
  rintro e w2 ⟨rfl, hk, hp⟩
  have hz := hk.size
  simp at hz
  have HP := Lib.hid (HS.out _ _ ((Below.refl w.heap.size w2).alloc (by omega) (.cells #[.int .i64 0, .int .i64 0] 156)) hp)
  clear hp hk HC HS
  go_wp2_with fail
  go_ret
  exact ⟨rfl, HP.out⟩

set_option maxRecDepth 20000 in
theorem form_throws (K : FuncId) (cap : Array Value) (s : ByteArray) (Post : World → Prop) (w : World) (hcf : Enters K) (hst : Stays w.heap.size Post)
    (hK : Goes K cap s Post w (fun e => ∃ a : Int, e = .panicked [{ v := faultV a 2, recovered := false }])) :
    Calls Tryz.prog 100 #[.string s, .func (.func K) #[] cap] w fun e w' => e = .returned (.int .i64 2) ∧ Post w' := by
  have HC := Lib.hid (Catch_throwsE 142 #[] #[.pointer (some ⟨w.heap.size + 1, 0, none⟩), .pointer (some ⟨w.heap.size, 0, none⟩)] 2 w.heap.size Post (formW w s K cap) entersForm1 (by simp [formW]; omega) (hst.mono (by simp [formW]; omega)) (fun w1 hb => (form_step hcf (fun e h => .inr (by obtain ⟨a, ha⟩ := h; exact ⟨_, ha⟩)) hK w1 hb).mono fun e w' h => by obtain ⟨⟨a, ha⟩, h2, h3⟩ := h; exact ⟨a, ha, h2, h3⟩))
  have HS := Lib.hid hst
  clear hst hK hcf
  unfold formW at HC
  have hmf : ∀ (fn : Fn) (first cap : Array Value) (w : World), (Instr.makeFunc fn first cap).run Tryz.prog w = .ok (.func fn first cap) w := fun _ _ _ _ => rfl
  go_enter Tryz.func100, Tryz.ntmps100
  go_wp2_with fail
  refine HC.out.mono ?_
  rintro e w2 ⟨a, rfl, hk, hp⟩
  have hz := hk.size
  simp at hz
  have HP := Lib.hid (HS.out _ _ ((Below.refl w.heap.size w2).alloc (by omega) (.cells #[.int .i64 a, .int .i64 2] 156)) hp)
  clear hp hk HC HS
  go_wp2_with fail
  go_ret
  exact ⟨rfl, HP.out⟩

end Go.Proofs.YtcbhkcdphbffpaaGreatDoor

namespace Go.Proofs.YtcbhkcdphbffpaaGreatDoor
open Go.RowKit
set_option linter.unusedSimpArgs false
set_option linter.unusedVariables false

theorem unit_yes (g : Nat) (s : ByteArray) (l : List UInt8) (w : World) (h : Ahead g s l w) (hs : s.size ≤ maxLen) (hu : unitOk l = true) :
    Calls Tryz.prog 103 #[rdV g] w fun e w' => e = .returned (.tuple #[]) ∧ Went g s (l.dropWhile isLetter) w w' :=
  (unit_both true g s l w h hs hu).mono fun e w' h => by rw [if_pos rfl] at h; exact h

theorem unit_no (g : Nat) (s : ByteArray) (l : List UInt8) (w : World) (h : Ahead g s l w) (hs : s.size ≤ maxLen) (hu : unitOk l = false) :
    Calls Tryz.prog 103 #[rdV g] w (Form g w) :=
  (unit_both false g s l w h hs hu).mono fun e w' h => by rw [if_neg (by simp)] at h; exact h

theorem sign_yes (x : UInt8) (g : Nat) (s : ByteArray) (l : List UInt8) (w : World) (h : Ahead g s l w) (hs : s.size ≤ maxLen) (hu : signOk x l = true) :
    Calls Tryz.prog 107 #[rdV g, .string ⟨#[x]⟩] w fun e w' => e = .returned (.tuple #[]) ∧ Went g s l.tail w w' :=
  (sign_both true x g s l w h hs hu).mono fun e w' h => by rw [if_pos rfl] at h; exact h

theorem sign_no (x : UInt8) (g : Nat) (s : ByteArray) (l : List UInt8) (w : World) (h : Ahead g s l w) (hs : s.size ≤ maxLen) (hu : signOk x l = false) :
    Calls Tryz.prog 107 #[rdV g, .string ⟨#[x]⟩] w (Form g w) :=
  (sign_both false x g s l w h hs hu).mono fun e w' h => by rw [if_neg (by simp)] at h; exact h

theorem end_yes (g : Nat) (s : ByteArray) (l : List UInt8) (w : World) (h : Ahead g s l w) (hs : s.size ≤ maxLen) (hu : l = []) :
    Calls Tryz.prog 108 #[rdV g] w fun e w' => e = .returned (.tuple #[]) ∧ Went g s l w w' :=
  (end_both true g s l w h hs (decide_eq_true hu)).mono fun e w' h => by rw [if_pos rfl] at h; exact h

theorem end_no (g : Nat) (s : ByteArray) (l : List UInt8) (w : World) (h : Ahead g s l w) (hs : s.size ≤ maxLen) (hu : ¬ l = []) :
    Calls Tryz.prog 108 #[rdV g] w (Form g w) :=
  (end_both false g s l w h hs (decide_eq_false hu)).mono fun e w' h => by rw [if_neg (by simp)] at h; exact h

/-- Nothing has turned but a cursor; two boxes are as they were. -/
structure AskS (w cur : World) (g : Nat) (s : ByteArray) (l : List UInt8) (b o : Nat) : Prop where
  ahead : Ahead g s l cur
  only : Only (fun i => i = g ∨ i = b ∨ i = o) w cur
  box : cur.cell? ⟨w.heap.size, 0, none⟩ = some (.pointer (some ⟨g, 0, none⟩))
  size : w.heap.size < cur.heap.size
  cb : cur.heap[b]? = w.heap[b]?
  co : cur.heap[o]? = w.heap[o]?

theorem But.block' {g : Nat} {w w' : World} (h : But g w w') {i : Nat} (hi : i < w.heap.size) (hn : i ≠ g) : w'.heap[i]? = w.heap[i]? :=
  h.block i hi (fun e => hn (by injection e))

theorem AskS.went {w cur w' : World} {g : Nat} {s : ByteArray} {l l2 : List UInt8} {b o : Nat} (h : AskS w cur g s l b o) (hw : Went g s l2 cur w') (hgb : b ≠ g) (hgo : o ≠ g) (hb : b < w.heap.size) (ho : o < w.heap.size) (hg : g < w.heap.size := by omega) : AskS w w' g s l2 b o := by
  have hsz := h.only.size
  exact ⟨hw.1, h.only.trans (Only.of_but hw.2 (.inl rfl)), (hw.2.cell h.size (by omega)).trans h.box, Nat.lt_of_lt_of_le h.size hw.2.size, (hw.2.block' (by omega) hgb).trans h.cb, (hw.2.block' (by omega) hgo).trans h.co⟩

theorem AskS.on {w cur w' : World} {g : Nat} {s : ByteArray} {l : List UInt8} {b o : Nat} (h : AskS w cur g s l b o) (hw : Below cur.heap.size cur w') (hb : b < w.heap.size) (ho : o < w.heap.size) : AskS w w' g s l b o := by
  have hsz := h.only.size
  exact ⟨h.ahead.on hw, h.only.trans (Only.of_below hw), (cell_below hw h.size).trans h.box, Nat.lt_of_lt_of_le h.size hw.size, (hw.block _ (by omega)).trans h.cb, (hw.block _ (by omega)).trans h.co⟩

/-- What is so where something is thrown. -/
def LostS (w w' : World) (g b o : Nat) : Prop := Only (fun i => i = g ∨ i = b ∨ i = o) w w' ∧ w'.heap[b]? = w.heap[b]? ∧ w'.heap[o]? = w.heap[o]?

theorem AskS.lost {w cur w' : World} {g : Nat} {s : ByteArray} {l : List UInt8} {b o : Nat} (h : AskS w cur g s l b o) (hw : But g cur w') (hgb : b ≠ g) (hgo : o ≠ g) (hb : b < w.heap.size) (ho : o < w.heap.size) : LostS w w' g b o := by
  have hsz := h.only.size
  exact ⟨h.only.trans (Only.of_but hw (.inl rfl)), (hw.block' (by omega) hgb).trans h.cb, (hw.block' (by omega) hgo).trans h.co⟩

theorem AskS.new {w : World} {g : Nat} {s : ByteArray} {l : List UInt8} {b o : Nat} (h : Ahead g s l w) (hb : b < w.heap.size) (ho : o < w.heap.size) : AskS w (w.alloc (.cells #[.pointer (some ⟨g, 0, none⟩)] 115)) g s l b o :=
  ⟨h.on (below_box _ _), Only.of_below (below_box _ _), by simp [go_sem], by simp, Below.heap_alloc _ _ _ hb, Below.heap_alloc _ _ _ ho⟩

theorem tw_le (p : UInt8 → Bool) (l : List UInt8) : (l.takeWhile p).length ≤ l.length ∧ (l.dropWhile p).length ≤ l.length :=
  ⟨(List.takeWhile_sublist p).length_le, (List.dropWhile_sublist p).length_le⟩

theorem tw_all (p : UInt8 → Bool) (l : List UInt8) : (l.takeWhile p).all p = true := by
  induction l with
  | nil => rfl
  | cons a l ih =>
    rw [List.takeWhile_cons]
    split
    · rw [List.all_cons, ih, Bool.and_true]; assumption
    · rfl

theorem dw_le (p : UInt8 → Bool) {l : List UInt8} {n : Nat} (h : l.length ≤ n) : (l.dropWhile p).length ≤ n := Nat.le_trans (tw_le p l).2 h
theorem tk_le (p : UInt8 → Bool) {l : List UInt8} {n : Nat} (h : l.length ≤ n) : (l.takeWhile p).length ≤ n := Nat.le_trans (tw_le p l).1 h
theorem tl_le {l : List UInt8} {n : Nat} (h : l.length ≤ n) : l.tail.length ≤ n := by rw [List.length_tail]; omega
theorem bl_empty {l : List UInt8} (h : l = []) : (bl l).toList = [] := by rw [bl_nil]; exact h
theorem bl_full {l : List UInt8} (h : ¬ l = []) : (bl l).toList.isEmpty = false := by rw [List.isEmpty_eq_false_iff, ne_eq, bl_nil]; exact h

end Go.Proofs.YtcbhkcdphbffpaaGreatDoor

namespace Go.Proofs.YtcbhkcdphbffpaaGreatDoor
open Go.RowKit
set_option linter.unusedSimpArgs false
set_option linter.unusedVariables false

theorem cut24_bl (q : List UInt8) (w : World) (hq : q.length ≤ 1000) :
    Calls Tryz.prog 88 #[.string (bl q)] w fun e w' => e = .returned (.string (bl (q.dropWhile isTab))) ∧ w = w' := by
  have := cut24_any (bl q) w (by rw [bl_size]; unfold maxLen; omega)
  rwa [bl_list] at this

theorem run24_bl (q : List UInt8) (w : World) (hq : q.length ≤ 1000) :
    Calls Tryz.prog 89 #[.string (bl q)] w fun e w' => e = .returned (.int .i64 ((q.takeWhile isDigit).length : Nat)) ∧ w = w' := by
  have := Run_any (bl q) w (by rw [bl_size]; unfold maxLen; omega)
  rwa [bl_list] at this

theorem bl_run (q : List UInt8) : (bl q).extract 0 (q.takeWhile isDigit).length = bl (q.takeWhile isDigit) ∧ (bl q).extract (q.takeWhile isDigit).length (bl q).size = bl (q.dropWhile isDigit) ∧ (q.takeWhile isDigit).length ≤ (bl q).size := by
  have h := tw_split isDigit q
  unfold spanN at h
  refine ⟨?_, ?_, ?_⟩
  · rw [bl_take, h.1]
  · rw [bl_drop, h.2]
  · rw [bl_size]; exact (List.takeWhile_sublist isDigit).length_le

theorem askedV_none {l : List UInt8} (h : askL l = none) : askedV l = .tuple #[.agg #[.int .i64 0, .int .i64 0], .int .i64 2] := by unfold askedV; rw [h]

theorem numOk_iff (l : List UInt8) : numOk l = true ↔ (l = [] ∨ dec_valL l ≤ mostN) := by unfold numOk; rw [decide_eq_true_eq]

theorem askedV_some {l f t : List UInt8} (h : askL l = some (f, t)) :
    askedV l = if numOk f = false ∨ numOk t = false ∨ (0 ≤ saidN t ∧ saidN t < saidN f) then .tuple #[.agg #[.int .i64 0, .int .i64 0], .int .i64 9] else .tuple #[.agg #[.int .i64 (saidN f), .int .i64 (saidN t)], .int .i64 0] := by
  unfold askedV
  rw [h]
  have h1 := saidE_zero f t
  rw [← numOk_iff, ← numOk_iff] at h1
  have h2 := saidN_least t
  have e : (saidE t (saidE f 0) ≠ 0 ∨ (saidN t < saidN f ∧ saidN t ≠ -1)) ↔ (numOk f = false ∨ numOk t = false ∨ (0 ≤ saidN t ∧ saidN t < saidN f)) := by
    rw [ne_eq, h1]
    cases numOk f <;> cases numOk t <;> simp <;> omega
  simp only [e]

end Go.Proofs.YtcbhkcdphbffpaaGreatDoor

namespace Go.Proofs.YtcbhkcdphbffpaaGreatDoor
open Go.RowKit
set_option linter.unusedSimpArgs false
set_option linter.unusedVariables false

/-- A part, as a value. -/
abbrev partV (f t s : Int) : Value := .agg #[.int .i64 f, .int .i64 t, .int .i64 s]

theorem good_any (f t s : Int) (w : World) :
    Calls Tryz.prog 110 #[.agg #[.int .i64 f, .int .i64 t, .int .i64 s]] w fun e w' => e = .returned (.bool (part_goodP f t s)) ∧ Below w.heap.size w w' := by
  go_enter Tryz.func110, Tryz.ntmps110
  go_wp2
  all_goals go_ret
  all_goals exact ⟨ret_bool (by unfold part_goodP; exact (by (try simp only [Bool.not_eq_true', Bool.not_eq_false', Bool.and_eq_true, Bool.or_eq_true, Bool.and_eq_false_iff, Bool.or_eq_false_iff, beq_iff_eq, beq_eq_false_iff_ne, bne_iff_ne, bne_eq_false_iff_eq, decide_eq_true_eq, decide_eq_false_iff_not, ne_eq, Int.not_le, Int.not_lt] at *); first | done | rfl | exact decide_eq_decide.2 (by omega) | exact (decide_eq_false (by omega)).symm | exact (decide_eq_true (by omega)).symm | exact decide_eq_false (by omega) | exact decide_eq_true (by omega) | (rw [Bool.eq_iff_iff]; simp only [Bool.or_eq_true, Bool.and_eq_true, beq_iff_eq, bne_iff_ne, ne_eq, decide_eq_true_eq, Bool.not_eq_true, Bool.false_eq_true, true_iff, false_iff, iff_true, iff_false] <;> omega))), below_box _ _⟩

end Go.Proofs.YtcbhkcdphbffpaaGreatDoor

namespace Go.Proofs.YtcbhkcdphbffpaaGreatDoor
open Go.RowKit
set_option linter.unusedSimpArgs false
set_option linter.unusedVariables false

theorem in24_any (n : Int) (w : World) :
    Calls Tryz.prog 124 #[.int .i64 n] w fun e w' => e = .returned (.bool (decide (-1 ≤ n ∧ n ≤ 9007199254740991))) ∧ w = w' := by
  go_enter Tryz.func124, Tryz.ntmps124
  go_wp2
  all_goals go_ret
  all_goals exact ⟨ret_bool (by (try simp only [Bool.not_eq_true', Bool.not_eq_false', Bool.and_eq_true, Bool.or_eq_true, Bool.and_eq_false_iff, Bool.or_eq_false_iff, beq_iff_eq, beq_eq_false_iff_ne, bne_iff_ne, bne_eq_false_iff_eq, decide_eq_true_eq, decide_eq_false_iff_not, ne_eq, Int.not_le, Int.not_lt] at *); first | done | rfl | exact decide_eq_decide.2 (by omega) | exact (decide_eq_false (by omega)).symm | exact (decide_eq_true (by omega)).symm | exact decide_eq_false (by omega) | exact decide_eq_true (by omega) | (rw [Bool.eq_iff_iff]; simp only [Bool.or_eq_true, Bool.and_eq_true, beq_iff_eq, bne_iff_ne, ne_eq, decide_eq_true_eq, Bool.not_eq_true, Bool.false_eq_true, true_iff, false_iff, iff_true, iff_false] <;> omega)), rfl⟩

theorem rGood_any (f t s : Int) (w : World) :
    Calls Tryz.prog 91 #[.agg #[.int .i64 f, .int .i64 t, .int .i64 s]] w fun e w' => e = .returned (.bool (part_goodP f t s)) ∧ Below w.heap.size w w' := by
  go_enter Tryz.func91, Tryz.ntmps91
  go_wp2_with (go_at_call 124; refine (in24_any _ _).mono ?_; rintro e w' ⟨rfl, rfl⟩)
  all_goals go_ret
  all_goals exact ⟨ret_bool (by unfold part_goodP; exact (by (try simp only [Bool.not_eq_true', Bool.not_eq_false', Bool.and_eq_true, Bool.or_eq_true, Bool.and_eq_false_iff, Bool.or_eq_false_iff, beq_iff_eq, beq_eq_false_iff_ne, bne_iff_ne, bne_eq_false_iff_eq, decide_eq_true_eq, decide_eq_false_iff_not, ne_eq, Int.not_le, Int.not_lt] at *); first | done | rfl | exact decide_eq_decide.2 (by omega) | exact (decide_eq_false (by omega)).symm | exact (decide_eq_true (by omega)).symm | exact decide_eq_false (by omega) | exact decide_eq_true (by omega) | (rw [Bool.eq_iff_iff]; simp only [Bool.or_eq_true, Bool.and_eq_true, beq_iff_eq, bne_iff_ne, ne_eq, decide_eq_true_eq, Bool.not_eq_true, Bool.false_eq_true, true_iff, false_iff, iff_true, iff_false] <;> omega))), below_box _ _⟩

end Go.Proofs.YtcbhkcdphbffpaaGreatDoor
