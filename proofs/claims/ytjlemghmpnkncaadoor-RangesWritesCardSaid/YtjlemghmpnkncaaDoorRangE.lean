/-
  Walks of package ranges: what comes. (Written by gencon.py.)
-/
import Derived.Test.YtjlemghmpnkncaaDoorRangD
namespace Go.Proofs.YtjlemghmpnkncaaDoor
open Go.RowKit
set_option linter.unusedSimpArgs false
set_option linter.unusedVariables false

/-- What reading what comes does. -/
def ConPost (g : Nat) (l : List UInt8) (b o : Nat) (w : World) (e : Ending) (w' : World) : Prop :=
  match conL l with
  | none => (∃ a : Int, e = .panicked [{ v := faultV a 2, recovered := false }]) ∧ LostS w w' g b o
  | some (f, t, a) => e = .returned (.tuple #[]) ∧ Only (fun i => i = g ∨ i = b ∨ i = o) w w' ∧ w'.heap[b]? = some (.cells #[.int .i64 (saidE a (saidE t (saidE f 0)))] 31 (0, 0)) ∧ w'.heap[o]? = some (.cells #[.int .i64 (saidN f), .int .i64 (saidN t), .int .i64 (saidN a)] 37 (0, 0))

theorem conPost_none {g : Nat} {l : List UInt8} {b o : Nat} {w w' : World} {e : Ending} (h : conL l = none) (h1 : ∃ a : Int, e = .panicked [{ v := faultV a 2, recovered := false }]) (h2 : LostS w w' g b o) : ConPost g l b o w e w' := by
  unfold ConPost; rw [h]; exact ⟨h1, h2⟩

theorem conPost_some {g : Nat} {l f t a : List UInt8} {b o : Nat} {w w' : World} {e : Ending} (h : conL l = some (f, t, a)) (h2 : e = .returned (.tuple #[]) ∧ Only (fun i => i = g ∨ i = b ∨ i = o) w w' ∧ w'.heap[b]? = some (.cells #[.int .i64 (saidE a (saidE t (saidE f 0)))] 31 (0, 0)) ∧ w'.heap[o]? = some (.cells #[.int .i64 (saidN f), .int .i64 (saidN t), .int .i64 (saidN a)] 37 (0, 0))) : ConPost g l b o w e w' := by
  unfold ConPost; rw [h]; exact h2

theorem size_spec {l d r : List UInt8} (h : sizeL l = some (d, r)) : d.all isDigit = true ∧ d.length ≤ l.length ∧ r.length ≤ l.length := by
  cases l with
  | nil => simp [sizeL] at h
  | cons x l =>
    have e : sizeL (x :: l) = if x = 42 then some ([], l) else if isDigit x = true then some ((x :: l).takeWhile isDigit, (x :: l).dropWhile isDigit) else none := rfl
    rw [e] at h
    by_cases hx : x = 42
    · rw [if_pos hx] at h
      injection h with h
      injection h with h1 h2
      subst h1 h2
      exact ⟨rfl, Nat.zero_le _, by simp⟩
    · rw [if_neg hx] at h
      by_cases hd : isDigit x = true
      · rw [if_pos hd] at h
        injection h with h
        injection h with h1 h2
        rw [← h1, ← h2]
        exact ⟨tw_all _ _, (tw_le _ _).1, (tw_le _ _).2⟩
      · rw [if_neg hd] at h
        cases h

theorem con_store {W : World} {b o : Nat} {c x y z : Int} (hB : W.heap[b]? = some (.cells #[.int .i64 c] 31 (0, 0))) (hO : W.heap[o]? = some (.cells #[.int .i64 x, .int .i64 y, .int .i64 z] 37 (0, 0))) (hbo : b ≠ o) :
    (∀ v d : Int, ((W.setCell ⟨o, 0, none⟩ (.int .i64 v)).setCell ⟨b, 0, none⟩ (.int .i64 d)).heap[b]? = some (.cells #[.int .i64 d] 31 (0, 0)) ∧ ((W.setCell ⟨o, 0, none⟩ (.int .i64 v)).setCell ⟨b, 0, none⟩ (.int .i64 d)).heap[o]? = some (.cells #[.int .i64 v, .int .i64 y, .int .i64 z] 37 (0, 0))) ∧
    (∀ v d : Int, ((W.setCell ⟨o, 1, none⟩ (.int .i64 v)).setCell ⟨b, 0, none⟩ (.int .i64 d)).heap[b]? = some (.cells #[.int .i64 d] 31 (0, 0)) ∧ ((W.setCell ⟨o, 1, none⟩ (.int .i64 v)).setCell ⟨b, 0, none⟩ (.int .i64 d)).heap[o]? = some (.cells #[.int .i64 x, .int .i64 v, .int .i64 z] 37 (0, 0))) ∧
    (∀ v d : Int, ((W.setCell ⟨o, 2, none⟩ (.int .i64 v)).setCell ⟨b, 0, none⟩ (.int .i64 d)).heap[b]? = some (.cells #[.int .i64 d] 31 (0, 0)) ∧ ((W.setCell ⟨o, 2, none⟩ (.int .i64 v)).setCell ⟨b, 0, none⟩ (.int .i64 d)).heap[o]? = some (.cells #[.int .i64 x, .int .i64 y, .int .i64 v] 37 (0, 0))) := by
  refine ⟨?_, ?_, ?_⟩ <;> (intro v d; constructor <;> simp [World.setCell, Array.getElem?_modify, hB, hO, hbo, Ne.symm hbo])

set_option maxRecDepth 20000 in
set_option maxHeartbeats 4000000 in
theorem content1_any (g : Nat) (s : ByteArray) (l : List UInt8) (b o : Nat) (w : World) (h : Ahead g s l w) (hs : s.size ≤ 1000) (hgb : b ≠ g) (hgo : o ≠ g) (hbo : b ≠ o)
    (hcb : w.heap[b]? = some (.cells #[.int .i64 0] 31 (0, 0))) (hco : w.heap[o]? = some (.cells #[.int .i64 0, .int .i64 0, .int .i64 0] 37 (0, 0))) :
    Calls Tryd.prog 85 #[rdV g, .pointer (some ⟨b, 0, none⟩), .pointer (some ⟨o, 0, none⟩)] w (ConPost g l b o w) := by
  have hg := h.lt
  have hb : b < w.heap.size := (Array.getElem?_eq_some_iff.1 hcb).1
  have ho : o < w.heap.size := (Array.getElem?_eq_some_iff.1 hco).1
  have hll : l.length ≤ 1000 := by
    obtain ⟨k, hk, hl, _⟩ := h
    have := lef_len s k
    rw [hl] at this
    omega
  replace hs : s.size ≤ maxLen := by unfold maxLen; omega
  have A := Lib.hid (AskS.new (b := b) (o := o) h hb ho)
  have hR : conL l = conL l := rfl
  conv at hR => rhs; unfold conL
  have HCB := Lib.hid hcb
  have HCO := Lib.hid hco
  clear h hcb hco
  unfold rdV
  go_enter Tryd.func85, Tryd.ntmps85
  have c0 := A.out.box
  go_wp2_with fail
  (refine Calls.mono (blanks_at g s _ _ A.out.ahead hs) ?_; rintro e w' ⟨rfl, hw⟩; replace A := Lib.hid (A.out.went hw hgb hgo hb ho); clear hw c0; have c0 := A.out.box; go_wp2_with fail)
  cases hu : unitOk (l.dropWhile isTab)
  · rw [if_neg (by rw [hu]; simp)] at hR
    (have HR := Lib.hid hR; refine Calls.mono (unit_no g s _ _ A.out.ahead hs hu) ?_; rintro e w' ⟨a, rfl, hw⟩; exact ⟨rfl, conPost_none HR.out ⟨a, rfl⟩ (A.out.lost hw hgb hgo hb ho)⟩)
  rw [if_pos hu] at hR
  refine Calls.mono (unit_yes g s _ _ A.out.ahead hs hu) ?_
  rintro e w' ⟨rfl, hw⟩
  replace A := Lib.hid (A.out.went hw hgb hgo hb ho)
  clear hw c0 hu
  have c0 := A.out.box
  replace hll := dw_le isLetter (dw_le isTab hll)
  generalize (l.dropWhile isTab).dropWhile isLetter = l2 at *
  unfold con2 at hR
  go_upto_region 3 with fail
  refine wp_region_N 5 (fun w' => w'.cell? ⟨w.heap.size, 0, none⟩ = some (.pointer (some ⟨g, 0, none⟩))) (by kernel_rfl) (by kernel_rfl) c0 ?_
  have HBL := Lib.hid (fun w1 (hb : Ahead g s l2 w1) => blanks_at g s l2 w1 hb hs)
  have A1 := Lib.hid (A.out.on ((Below.refl _ _).drew) hb ho)
  by_cases ht : l2.takeWhile isTab = []
  · rw [if_pos ht] at hR
    have HR := Lib.hid hR
    rw [ht] at HBL
    have h1 := bl_empty (l := []) rfl
    clear ht hR
    generalize bl [] = E0 at *
    unfold rdV at HBL
    (refine NJ.take (i := 0) (v := ?_) rfl rfl (by kernel_rfl) (by kernel_rfl) (by kernel_rfl) (by kernel_rfl) (fun _ _ _ h => h) (Or.inl ⟨by rfl, ?_⟩) ?_; rotate_left; (focus (intro wS hSw; (try dsimp only at hSw); go_simp; first | done | with_reducible rfl)); (try simp only [Act.put, List.getElem_toArray, List.getElem_cons_zero, List.getElem_cons_succ, List.setIfInBounds_toArray, List.set_cons_zero, List.set_cons_succ]))
    (refine NJ.take (i := 1) (v := ?_) rfl rfl (by kernel_rfl) (by kernel_rfl) (by kernel_rfl) (by kernel_rfl) (fun _ _ _ h => h) (Or.inl ⟨by rfl, ?_⟩) ?_; rotate_left; (focus (intro wS hSw; (try dsimp only at hSw); go_simp; first | done | with_reducible rfl)); (try simp only [Act.put, List.getElem_toArray, List.getElem_cons_zero, List.getElem_cons_succ, List.setIfInBounds_toArray, List.set_cons_zero, List.set_cons_succ]))
    refine NJ.step (i := 2) rfl rfl (by kernel_rfl) (fun hSat K hK => ?_)
    go_simp
    refine Calls.mono (HBL.out _ A1.out.ahead) ?_
    rintro e w' ⟨rfl, hw⟩
    replace A1 := Lib.hid (A1.out.went hw hgb hgo hb ho)
    go_wp2_with fail
    refine hK.out _ _ A1.out.box ?_
    clear hK hSat K hw
    (try simp only [Act.put, List.getElem_toArray, List.getElem_cons_zero, List.getElem_cons_succ, List.setIfInBounds_toArray, List.set_cons_zero, List.set_cons_succ])
    (refine NJ.take (i := 3) (v := ?_) rfl rfl (by kernel_rfl) (by kernel_rfl) (by kernel_rfl) (by kernel_rfl) (fun _ _ _ h => h) (Or.inl ⟨by rfl, ?_⟩) ?_; rotate_left; (focus (intro wS hSw; (try dsimp only at hSw); go_simp; first | done | with_reducible rfl)); (try simp only [Act.put, List.getElem_toArray, List.getElem_cons_zero, List.getElem_cons_succ, List.setIfInBounds_toArray, List.set_cons_zero, List.set_cons_succ]))
    refine NJ.step (i := 4) rfl rfl (by kernel_rfl) (fun hSat K hK => ?_)
    go_simp
    refine Calls.mono (need_no g s _ _ A1.out.ahead) ?_
    rintro e w' ⟨a, rfl, hw⟩
    exact ⟨rfl, conPost_none HR.out ⟨a, rfl⟩ (A1.out.lost hw hgb hgo hb ho)⟩
  rw [if_neg ht] at hR
  have h1 := bl_full ht
  clear ht
  generalize bl (l2.takeWhile isTab) = E0 at *
  unfold rdV at HBL
  (refine NJ.take (i := 0) (v := ?_) rfl rfl (by kernel_rfl) (by kernel_rfl) (by kernel_rfl) (by kernel_rfl) (fun _ _ _ h => h) (Or.inl ⟨by rfl, ?_⟩) ?_; rotate_left; (focus (intro wS hSw; (try dsimp only at hSw); go_simp; first | done | with_reducible rfl)); (try simp only [Act.put, List.getElem_toArray, List.getElem_cons_zero, List.getElem_cons_succ, List.setIfInBounds_toArray, List.set_cons_zero, List.set_cons_succ]))
  (refine NJ.take (i := 1) (v := ?_) rfl rfl (by kernel_rfl) (by kernel_rfl) (by kernel_rfl) (by kernel_rfl) (fun _ _ _ h => h) (Or.inl ⟨by rfl, ?_⟩) ?_; rotate_left; (focus (intro wS hSw; (try dsimp only at hSw); go_simp; first | done | with_reducible rfl)); (try simp only [Act.put, List.getElem_toArray, List.getElem_cons_zero, List.getElem_cons_succ, List.setIfInBounds_toArray, List.set_cons_zero, List.set_cons_succ]))
  refine NJ.step (i := 2) rfl rfl (by kernel_rfl) (fun hSat K hK => ?_)
  go_simp
  refine Calls.mono (HBL.out _ A1.out.ahead) ?_
  rintro e w' ⟨rfl, hw⟩
  replace A1 := Lib.hid (A1.out.went hw hgb hgo hb ho)
  go_wp2_with fail
  refine hK.out _ _ A1.out.box ?_
  clear hK hSat K hw
  (try simp only [Act.put, List.getElem_toArray, List.getElem_cons_zero, List.getElem_cons_succ, List.setIfInBounds_toArray, List.set_cons_zero, List.set_cons_succ])
  (refine NJ.take (i := 3) (v := ?_) rfl rfl (by kernel_rfl) (by kernel_rfl) (by kernel_rfl) (by kernel_rfl) (fun _ _ _ h => h) (Or.inl ⟨by rfl, ?_⟩) ?_; rotate_left; (focus (intro wS hSw; (try dsimp only at hSw); go_simp; first | done | with_reducible rfl)); (try simp only [Act.put, List.getElem_toArray, List.getElem_cons_zero, List.getElem_cons_succ, List.setIfInBounds_toArray, List.set_cons_zero, List.set_cons_succ]))
  refine NJ.step (i := 4) rfl rfl (by kernel_rfl) (fun hSat K hK => ?_)
  go_simp
  refine Calls.mono (need_yes g s _ _ A1.out.ahead) ?_
  rintro e w' ⟨rfl, hw⟩
  replace A1 := Lib.hid (A1.out.on hw hb ho)
  go_wp2_with fail
  refine hK.out _ _ A1.out.box ?_
  clear hK hSat K hw
  (try simp only [Act.put, List.getElem_toArray, List.getElem_cons_zero, List.getElem_cons_succ, List.setIfInBounds_toArray, List.set_cons_zero, List.set_cons_succ])
  refine NJ.done (by kernel_rfl) (fun hSat => ?_)
  clear hSat A c0 HBL
  have A := A1
  clear A1
  have c0 := A.out.box
  replace hll := dw_le isTab hll
  generalize l2.dropWhile isTab = l3 at *
  unfold con3 at hR
  go_wp2_with fail
  cases hu : signOk 42 l3
  case true =>
    rw [if_pos hu] at hR
    have HSK := Lib.hid (skip_both 42 g s l3 _ A.out.ahead hs)
    rw [hu, if_pos rfl] at HSK
    refine Calls.mono HSK.out ?_
    rintro e w' ⟨rfl, hw⟩
    replace A := Lib.hid (A.out.went hw hgb hgo hb ho)
    clear hw c0 hu HSK
    have c0 := A.out.box
    replace hll := tl_le hll
    generalize l3.tail = l4 at *
    unfold con6 at hR
    have hfl : ([] : List UInt8).length ≤ 1000 := by decide
    have htl : ([] : List UInt8).length ≤ 1000 := by decide
    have hfa : ([] : List UInt8).all isDigit = true := rfl
    have hta : ([] : List UInt8).all isDigit = true := rfl
    go_wp2_with fail
    cases hu : signOk 47 l4
    · rw [if_neg (by rw [hu]; simp)] at hR
      (have HR := Lib.hid hR; refine Calls.mono (sign_no 47 g s _ _ A.out.ahead hs hu) ?_; rintro e w' ⟨a, rfl, hw⟩; exact ⟨rfl, conPost_none HR.out ⟨a, rfl⟩ (A.out.lost hw hgb hgo hb ho)⟩)
    rw [if_pos hu] at hR
    (refine Calls.mono (sign_yes 47 g s _ _ A.out.ahead hs hu) ?_; rintro e w' ⟨rfl, hw⟩; replace A := Lib.hid (A.out.went hw hgb hgo hb ho); clear hw c0; have c0 := A.out.box; go_wp2_with fail)
    clear hu
    replace hll := tl_le hll
    generalize l4.tail = l5 at *
    cases hz : sizeL l5 with
    | none =>
      rw [hz] at hR
      (have HR := Lib.hid (hR.trans rfl : _ = none); refine Calls.mono (size_any g s l5 _ A.out.ahead hs) ?_; rintro e w' hp; unfold SizePost at hp; rw [hz] at hp; obtain ⟨a, rfl, hw⟩ := hp; exact ⟨rfl, conPost_none HR.out ⟨a, rfl⟩ (A.out.lost hw hgb hgo hb ho)⟩)
    | some q =>
      obtain ⟨a, l6⟩ := q
      have hza := size_spec hz
      (refine Calls.mono (size_any g s l5 _ A.out.ahead hs) ?_; rintro e w' hp; unfold SizePost at hp; rw [hz] at hp; obtain ⟨rfl, hw⟩ := hp; replace A := Lib.hid (A.out.went hw hgb hgo hb ho); clear hw c0; have c0 := A.out.box)
      rw [hz] at hR
      replace hR : conL l = if a = [] ∧ true = true then none else if l6.dropWhile isTab = [] then some ([], [], a) else none := hR
      have hal := Nat.le_trans hza.2.1 hll
      have haa := hza.1
      clear hz
      by_cases ha : a = []
      · rw [if_pos ⟨ha, rfl⟩] at hR
        subst ha
        have h1 := bl_empty (l := []) rfl
        have h2 := bl_empty (l := []) rfl
        go_wp2_with fail
        (have HR := Lib.hid hR; refine Calls.mono (need_no g s _ _ A.out.ahead) ?_; rintro e w' ⟨a, rfl, hw⟩; exact ⟨rfl, conPost_none HR.out ⟨a, rfl⟩ (A.out.lost hw hgb hgo hb ho)⟩)
      · have h1 := bl_full ha
        rw [if_neg (by simp [ha])] at hR
        go_wp2_with fail
        (refine Calls.mono (need_yes g s _ _ A.out.ahead) ?_; rintro e w' ⟨rfl, hw⟩; replace A := Lib.hid (A.out.on hw hb ho); clear hw c0; have c0 := A.out.box; go_wp2_with fail)
        (refine Calls.mono (blanks_at g s _ _ A.out.ahead hs) ?_; rintro e w' ⟨rfl, hw⟩; replace A := Lib.hid (A.out.went hw hgb hgo hb ho); clear hw c0; have c0 := A.out.box; go_wp2_with fail)
        generalize l6.dropWhile isTab = l7 at *
        by_cases hu : l7 = []
        case neg =>
          rw [if_neg hu] at hR
          (have HR := Lib.hid hR; refine Calls.mono (end_no g s _ _ A.out.ahead hs hu) ?_; rintro e w' ⟨a, rfl, hw⟩; exact ⟨rfl, conPost_none HR.out ⟨a, rfl⟩ (A.out.lost hw hgb hgo hb ho)⟩)
        rw [if_pos hu] at hR
        refine Calls.mono (end_yes g s _ _ A.out.ahead hs hu) ?_
        rintro e w' ⟨rfl, hw⟩
        replace A := Lib.hid (A.out.went hw hgb hgo hb ho)
        clear hw c0 hu
        have HSF := Lib.hid (fun w => said_any [] 0 w hfl hfa)
        have HST := Lib.hid (fun w => said_any [] (saidE [] 0) w htl hta)
        have HSA := Lib.hid (fun w => said_any a (saidE [] (saidE [] 0)) w hal haa)
        rw [show bl [] = ⟨#[]⟩ from rfl] at HSF HST
        have hB := A.out.cb.trans HCB.out
        have hO := A.out.co.trans HCO.out
        have b0 := (Lib.cell_of_heap hB (j := 0))
        have o0 := (Lib.cell_of_heap hO (j := 0))
        have o1 := (Lib.cell_of_heap hO (j := 1))
        have o2 := (Lib.cell_of_heap hO (j := 2))
        have bf := fun i => Lib.frozen_of_heap hB i
        have of := fun i => Lib.frozen_of_heap hO i
        simp at b0 o0 o1 o2
        generalize hef : saidE [] 0 = ef at *
        generalize het : saidE [] ef = et at *
        generalize hea : saidE a et = ea at *
        generalize hnf : saidN [] = nf at *
        generalize hna : saidN a = na at *
        have HE := Lib.hid (And.intro hef (And.intro het (And.intro hea (And.intro hnf hna))))
        have HR := Lib.hid hR
        clear hef het hea hnf  hna hR
        generalize bl a = AT at *
        have hL := A.out.only
        clear A
        go_upto_region 18 with (go_at_call 83; (with_reducible refine Calls.mono (HSF.out _) ?_); rintro e w' ⟨rfl, rfl⟩)
        obtain ⟨hB2, hO2⟩ := (con_store hB hO hbo).1 nf ef
        have hL2 := (hL.setCell (q := ⟨o, 0, none⟩) (.inl (.inr (.inr rfl))) (.int .i64 nf)).setCell (q := ⟨b, 0, none⟩) (.inl (.inr (.inl rfl))) (.int .i64 ef)
        generalize (w'.setCell ⟨o, 0, none⟩ (.int .i64 nf)).setCell ⟨b, 0, none⟩ (.int .i64 ef) = W0 at *
        clear b0 o0 o1 o2 bf of hL hB hO
        have hB := hB2
        have hO := hO2
        have hL := hL2
        clear hB2 hO2 hL2
        have b0 := (Lib.cell_of_heap hB (j := 0))
        have o0 := (Lib.cell_of_heap hO (j := 0))
        have o1 := (Lib.cell_of_heap hO (j := 1))
        have o2 := (Lib.cell_of_heap hO (j := 2))
        have bf := fun i => Lib.frozen_of_heap hB i
        have of := fun i => Lib.frozen_of_heap hO i
        simp at b0 o0 o1 o2
        go_upto_region 19 with (go_at_call 83; (with_reducible refine Calls.mono (HST.out _) ?_); rintro e w' ⟨rfl, rfl⟩)
        obtain ⟨hB2, hO2⟩ := (con_store hB hO hbo).2.1 nf et
        have hL2 := (hL.setCell (q := ⟨o, 1, none⟩) (.inl (.inr (.inr rfl))) (.int .i64 nf)).setCell (q := ⟨b, 0, none⟩) (.inl (.inr (.inl rfl))) (.int .i64 et)
        generalize (W0.setCell ⟨o, 1, none⟩ (.int .i64 nf)).setCell ⟨b, 0, none⟩ (.int .i64 et) = W1 at *
        clear b0 o0 o1 o2 bf of hL hB hO
        have hB := hB2
        have hO := hO2
        have hL := hL2
        clear hB2 hO2 hL2
        have b0 := (Lib.cell_of_heap hB (j := 0))
        have o0 := (Lib.cell_of_heap hO (j := 0))
        have o1 := (Lib.cell_of_heap hO (j := 1))
        have o2 := (Lib.cell_of_heap hO (j := 2))
        have bf := fun i => Lib.frozen_of_heap hB i
        have of := fun i => Lib.frozen_of_heap hO i
        simp at b0 o0 o1 o2
        go_wp2_with (go_at_call 83; (with_reducible refine Calls.mono (HSA.out _) ?_); rintro e w' ⟨rfl, rfl⟩)
        go_end0
        obtain ⟨e1, e2, e3, e4, e6⟩ := HE.out
        obtain ⟨hB2, hO2⟩ := (con_store hB hO hbo).2.2 na ea
        refine conPost_some HR.out ⟨rfl, (hL.setCell (.inl (.inr (.inr rfl))) _).setCell (.inl (.inr (.inl rfl))) _, ?_, ?_⟩
        · rw [e1, e2, e3]
          exact hB2
        · rw [e4, e6]
          exact hO2
  case false =>
    rw [if_neg (by rw [hu]; simp)] at hR
    have HSK := Lib.hid (skip_both 42 g s l3 _ A.out.ahead hs)
    rw [hu, if_neg (by simp)] at HSK
    refine Calls.mono HSK.out ?_
    rintro e w' ⟨rfl, hw⟩
    replace A := Lib.hid (A.out.went hw hgb hgo hb ho)
    clear hw c0 hu HSK
    have c0 := A.out.box
    go_wp2_with fail
    cases hz : sizeL l3 with
    | none =>
      rw [hz] at hR
      (have HR := Lib.hid (hR.trans rfl : _ = none); refine Calls.mono (size_any g s l3 _ A.out.ahead hs) ?_; rintro e w' hp; unfold SizePost at hp; rw [hz] at hp; obtain ⟨a, rfl, hw⟩ := hp; exact ⟨rfl, conPost_none HR.out ⟨a, rfl⟩ (A.out.lost hw hgb hgo hb ho)⟩)
    | some q =>
      obtain ⟨f, l4⟩ := q
      have hza := size_spec hz
      (refine Calls.mono (size_any g s l3 _ A.out.ahead hs) ?_; rintro e w' hp; unfold SizePost at hp; rw [hz] at hp; obtain ⟨rfl, hw⟩ := hp; replace A := Lib.hid (A.out.went hw hgb hgo hb ho); clear hw c0; have c0 := A.out.box)
      rw [hz] at hR
      replace hR : conL l = if f = [] then none else if signOk 45 l4 = true then con5 f (sizeL l4.tail) else none := hR
      have hfl := Nat.le_trans hza.2.1 hll
      have hfa := hza.1
      replace hll := Nat.le_trans hza.2.2 hll
      clear hz hza
      by_cases hf : f = []
      · rw [if_pos hf] at hR
        subst hf
        have h1 := bl_empty (l := []) rfl
        go_wp2_with fail
        (have HR := Lib.hid hR; refine Calls.mono (need_no g s _ _ A.out.ahead) ?_; rintro e w' ⟨a, rfl, hw⟩; exact ⟨rfl, conPost_none HR.out ⟨a, rfl⟩ (A.out.lost hw hgb hgo hb ho)⟩)
      rw [if_neg hf] at hR
      have h1 := bl_full hf
      go_wp2_with fail
      (refine Calls.mono (need_yes g s _ _ A.out.ahead) ?_; rintro e w' ⟨rfl, hw⟩; replace A := Lib.hid (A.out.on hw hb ho); clear hw c0; have c0 := A.out.box; go_wp2_with fail)
      cases hu : signOk 45 l4
      · rw [if_neg (by rw [hu]; simp)] at hR
        (have HR := Lib.hid hR; refine Calls.mono (sign_no 45 g s _ _ A.out.ahead hs hu) ?_; rintro e w' ⟨a, rfl, hw⟩; exact ⟨rfl, conPost_none HR.out ⟨a, rfl⟩ (A.out.lost hw hgb hgo hb ho)⟩)
      rw [if_pos hu] at hR
      (refine Calls.mono (sign_yes 45 g s _ _ A.out.ahead hs hu) ?_; rintro e w' ⟨rfl, hw⟩; replace A := Lib.hid (A.out.went hw hgb hgo hb ho); clear hw c0; have c0 := A.out.box; go_wp2_with fail)
      clear hu
      replace hll := tl_le hll
      generalize l4.tail = l5 at *
      cases hz : sizeL l5 with
      | none =>
        rw [hz] at hR
        (have HR := Lib.hid (hR.trans rfl : _ = none); refine Calls.mono (size_any g s l5 _ A.out.ahead hs) ?_; rintro e w' hp; unfold SizePost at hp; rw [hz] at hp; obtain ⟨a, rfl, hw⟩ := hp; exact ⟨rfl, conPost_none HR.out ⟨a, rfl⟩ (A.out.lost hw hgb hgo hb ho)⟩)
      | some q =>
        obtain ⟨t, l6⟩ := q
        have hza := size_spec hz
        (refine Calls.mono (size_any g s l5 _ A.out.ahead hs) ?_; rintro e w' hp; unfold SizePost at hp; rw [hz] at hp; obtain ⟨rfl, hw⟩ := hp; replace A := Lib.hid (A.out.went hw hgb hgo hb ho); clear hw c0; have c0 := A.out.box)
        rw [hz] at hR
        replace hR : conL l = if t = [] then none else con6 f t false l6 := hR
        have htl := Nat.le_trans hza.2.1 hll
        have hta := hza.1
        replace hll := Nat.le_trans hza.2.2 hll
        clear hz hza
        by_cases ht : t = []
        · rw [if_pos ht] at hR
          subst ht
          have h2 := bl_empty (l := []) rfl
          go_wp2_with fail
          (have HR := Lib.hid hR; refine Calls.mono (need_no g s _ _ A.out.ahead) ?_; rintro e w' ⟨a, rfl, hw⟩; exact ⟨rfl, conPost_none HR.out ⟨a, rfl⟩ (A.out.lost hw hgb hgo hb ho)⟩)
        rw [if_neg ht] at hR
        have h2 := bl_full ht
        go_wp2_with fail
        (refine Calls.mono (need_yes g s _ _ A.out.ahead) ?_; rintro e w' ⟨rfl, hw⟩; replace A := Lib.hid (A.out.on hw hb ho); clear hw c0; have c0 := A.out.box; go_wp2_with fail)
        unfold con6 at hR
        clear hf ht h1 h2
        clear l3 l4 l5
        generalize l6 = l4 at *
        cases hu : signOk 47 l4
        · rw [if_neg (by rw [hu]; simp)] at hR
          (have HR := Lib.hid hR; refine Calls.mono (sign_no 47 g s _ _ A.out.ahead hs hu) ?_; rintro e w' ⟨a, rfl, hw⟩; exact ⟨rfl, conPost_none HR.out ⟨a, rfl⟩ (A.out.lost hw hgb hgo hb ho)⟩)
        rw [if_pos hu] at hR
        (refine Calls.mono (sign_yes 47 g s _ _ A.out.ahead hs hu) ?_; rintro e w' ⟨rfl, hw⟩; replace A := Lib.hid (A.out.went hw hgb hgo hb ho); clear hw c0; have c0 := A.out.box; go_wp2_with fail)
        clear hu
        replace hll := tl_le hll
        generalize l4.tail = l5 at *
        cases hz : sizeL l5 with
        | none =>
          rw [hz] at hR
          (have HR := Lib.hid (hR.trans rfl : _ = none); refine Calls.mono (size_any g s l5 _ A.out.ahead hs) ?_; rintro e w' hp; unfold SizePost at hp; rw [hz] at hp; obtain ⟨a, rfl, hw⟩ := hp; exact ⟨rfl, conPost_none HR.out ⟨a, rfl⟩ (A.out.lost hw hgb hgo hb ho)⟩)
        | some q =>
          obtain ⟨a, l6⟩ := q
          have hza := size_spec hz
          (refine Calls.mono (size_any g s l5 _ A.out.ahead hs) ?_; rintro e w' hp; unfold SizePost at hp; rw [hz] at hp; obtain ⟨rfl, hw⟩ := hp; replace A := Lib.hid (A.out.went hw hgb hgo hb ho); clear hw c0; have c0 := A.out.box)
          rw [hz] at hR
          replace hR : conL l = if a = [] ∧ false = true then none else if l6.dropWhile isTab = [] then some (f, t, a) else none := hR
          have hal := Nat.le_trans hza.2.1 hll
          have haa := hza.1
          clear hz
          by_cases ha : a = []
          · subst ha
            have h1 := bl_empty (l := []) rfl
            rw [if_neg (by simp)] at hR
            go_wp2_with fail
            (refine Calls.mono (need_yes g s _ _ A.out.ahead) ?_; rintro e w' ⟨rfl, hw⟩; replace A := Lib.hid (A.out.on hw hb ho); clear hw c0; have c0 := A.out.box; go_wp2_with fail)
            (refine Calls.mono (blanks_at g s _ _ A.out.ahead hs) ?_; rintro e w' ⟨rfl, hw⟩; replace A := Lib.hid (A.out.went hw hgb hgo hb ho); clear hw c0; have c0 := A.out.box; go_wp2_with fail)
            generalize l6.dropWhile isTab = l7 at *
            by_cases hu : l7 = []
            case neg =>
              rw [if_neg hu] at hR
              (have HR := Lib.hid hR; refine Calls.mono (end_no g s _ _ A.out.ahead hs hu) ?_; rintro e w' ⟨a, rfl, hw⟩; exact ⟨rfl, conPost_none HR.out ⟨a, rfl⟩ (A.out.lost hw hgb hgo hb ho)⟩)
            rw [if_pos hu] at hR
            refine Calls.mono (end_yes g s _ _ A.out.ahead hs hu) ?_
            rintro e w' ⟨rfl, hw⟩
            replace A := Lib.hid (A.out.went hw hgb hgo hb ho)
            clear hw c0 hu
            have HSF := Lib.hid (fun w => said_any f 0 w hfl hfa)
            have HST := Lib.hid (fun w => said_any t (saidE f 0) w htl hta)
            have HSA := Lib.hid (fun w => said_any [] (saidE t (saidE f 0)) w hal haa)
            have hB := A.out.cb.trans HCB.out
            have hO := A.out.co.trans HCO.out
            have b0 := (Lib.cell_of_heap hB (j := 0))
            have o0 := (Lib.cell_of_heap hO (j := 0))
            have o1 := (Lib.cell_of_heap hO (j := 1))
            have o2 := (Lib.cell_of_heap hO (j := 2))
            have bf := fun i => Lib.frozen_of_heap hB i
            have of := fun i => Lib.frozen_of_heap hO i
            simp at b0 o0 o1 o2
            generalize hef : saidE f 0 = ef at *
            generalize het : saidE t ef = et at *
            generalize hea : saidE [] et = ea at *
            generalize hnf : saidN f = nf at *
            generalize hnt : saidN t = nt at *
            generalize hna : saidN [] = na at *
            have HE := Lib.hid (And.intro hef (And.intro het (And.intro hea (And.intro hnf (And.intro hnt hna)))))
            have HR := Lib.hid hR
            clear hef het hea hnf hnt hna hR
            generalize bl f = FT at *
            generalize bl t = TX at *
            generalize bl [] = AT at *
            have hL := A.out.only
            clear A
            go_upto_region 18 with (go_at_call 83; (with_reducible refine Calls.mono (HSF.out _) ?_); rintro e w' ⟨rfl, rfl⟩)
            obtain ⟨hB2, hO2⟩ := (con_store hB hO hbo).1 nf ef
            have hL2 := (hL.setCell (q := ⟨o, 0, none⟩) (.inl (.inr (.inr rfl))) (.int .i64 nf)).setCell (q := ⟨b, 0, none⟩) (.inl (.inr (.inl rfl))) (.int .i64 ef)
            generalize (w'.setCell ⟨o, 0, none⟩ (.int .i64 nf)).setCell ⟨b, 0, none⟩ (.int .i64 ef) = W0 at *
            clear b0 o0 o1 o2 bf of hL hB hO
            have hB := hB2
            have hO := hO2
            have hL := hL2
            clear hB2 hO2 hL2
            have b0 := (Lib.cell_of_heap hB (j := 0))
            have o0 := (Lib.cell_of_heap hO (j := 0))
            have o1 := (Lib.cell_of_heap hO (j := 1))
            have o2 := (Lib.cell_of_heap hO (j := 2))
            have bf := fun i => Lib.frozen_of_heap hB i
            have of := fun i => Lib.frozen_of_heap hO i
            simp at b0 o0 o1 o2
            go_upto_region 19 with (go_at_call 83; (with_reducible refine Calls.mono (HST.out _) ?_); rintro e w' ⟨rfl, rfl⟩)
            obtain ⟨hB2, hO2⟩ := (con_store hB hO hbo).2.1 nt et
            have hL2 := (hL.setCell (q := ⟨o, 1, none⟩) (.inl (.inr (.inr rfl))) (.int .i64 nt)).setCell (q := ⟨b, 0, none⟩) (.inl (.inr (.inl rfl))) (.int .i64 et)
            generalize (W0.setCell ⟨o, 1, none⟩ (.int .i64 nt)).setCell ⟨b, 0, none⟩ (.int .i64 et) = W1 at *
            clear b0 o0 o1 o2 bf of hL hB hO
            have hB := hB2
            have hO := hO2
            have hL := hL2
            clear hB2 hO2 hL2
            have b0 := (Lib.cell_of_heap hB (j := 0))
            have o0 := (Lib.cell_of_heap hO (j := 0))
            have o1 := (Lib.cell_of_heap hO (j := 1))
            have o2 := (Lib.cell_of_heap hO (j := 2))
            have bf := fun i => Lib.frozen_of_heap hB i
            have of := fun i => Lib.frozen_of_heap hO i
            simp at b0 o0 o1 o2
            go_wp2_with (go_at_call 83; (with_reducible refine Calls.mono (HSA.out _) ?_); rintro e w' ⟨rfl, rfl⟩)
            go_end0
            obtain ⟨e1, e2, e3, e4, e5, e6⟩ := HE.out
            obtain ⟨hB2, hO2⟩ := (con_store hB hO hbo).2.2 na ea
            refine conPost_some HR.out ⟨rfl, (hL.setCell (.inl (.inr (.inr rfl))) _).setCell (.inl (.inr (.inl rfl))) _, ?_, ?_⟩
            · rw [e1, e2, e3]
              exact hB2
            · rw [e4, e5, e6]
              exact hO2
          · have h1 := bl_full ha
            rw [if_neg (by simp [ha])] at hR
            go_wp2_with fail
            (refine Calls.mono (need_yes g s _ _ A.out.ahead) ?_; rintro e w' ⟨rfl, hw⟩; replace A := Lib.hid (A.out.on hw hb ho); clear hw c0; have c0 := A.out.box; go_wp2_with fail)
            (refine Calls.mono (blanks_at g s _ _ A.out.ahead hs) ?_; rintro e w' ⟨rfl, hw⟩; replace A := Lib.hid (A.out.went hw hgb hgo hb ho); clear hw c0; have c0 := A.out.box; go_wp2_with fail)
            generalize l6.dropWhile isTab = l7 at *
            by_cases hu : l7 = []
            case neg =>
              rw [if_neg hu] at hR
              (have HR := Lib.hid hR; refine Calls.mono (end_no g s _ _ A.out.ahead hs hu) ?_; rintro e w' ⟨a, rfl, hw⟩; exact ⟨rfl, conPost_none HR.out ⟨a, rfl⟩ (A.out.lost hw hgb hgo hb ho)⟩)
            rw [if_pos hu] at hR
            refine Calls.mono (end_yes g s _ _ A.out.ahead hs hu) ?_
            rintro e w' ⟨rfl, hw⟩
            replace A := Lib.hid (A.out.went hw hgb hgo hb ho)
            clear hw c0 hu
            have HSF := Lib.hid (fun w => said_any f 0 w hfl hfa)
            have HST := Lib.hid (fun w => said_any t (saidE f 0) w htl hta)
            have HSA := Lib.hid (fun w => said_any a (saidE t (saidE f 0)) w hal haa)
            have hB := A.out.cb.trans HCB.out
            have hO := A.out.co.trans HCO.out
            have b0 := (Lib.cell_of_heap hB (j := 0))
            have o0 := (Lib.cell_of_heap hO (j := 0))
            have o1 := (Lib.cell_of_heap hO (j := 1))
            have o2 := (Lib.cell_of_heap hO (j := 2))
            have bf := fun i => Lib.frozen_of_heap hB i
            have of := fun i => Lib.frozen_of_heap hO i
            simp at b0 o0 o1 o2
            generalize hef : saidE f 0 = ef at *
            generalize het : saidE t ef = et at *
            generalize hea : saidE a et = ea at *
            generalize hnf : saidN f = nf at *
            generalize hnt : saidN t = nt at *
            generalize hna : saidN a = na at *
            have HE := Lib.hid (And.intro hef (And.intro het (And.intro hea (And.intro hnf (And.intro hnt hna)))))
            have HR := Lib.hid hR
            clear hef het hea hnf hnt hna hR
            generalize bl f = FT at *
            generalize bl t = TX at *
            generalize bl a = AT at *
            have hL := A.out.only
            clear A
            go_upto_region 18 with (go_at_call 83; (with_reducible refine Calls.mono (HSF.out _) ?_); rintro e w' ⟨rfl, rfl⟩)
            obtain ⟨hB2, hO2⟩ := (con_store hB hO hbo).1 nf ef
            have hL2 := (hL.setCell (q := ⟨o, 0, none⟩) (.inl (.inr (.inr rfl))) (.int .i64 nf)).setCell (q := ⟨b, 0, none⟩) (.inl (.inr (.inl rfl))) (.int .i64 ef)
            generalize (w'.setCell ⟨o, 0, none⟩ (.int .i64 nf)).setCell ⟨b, 0, none⟩ (.int .i64 ef) = W0 at *
            clear b0 o0 o1 o2 bf of hL hB hO
            have hB := hB2
            have hO := hO2
            have hL := hL2
            clear hB2 hO2 hL2
            have b0 := (Lib.cell_of_heap hB (j := 0))
            have o0 := (Lib.cell_of_heap hO (j := 0))
            have o1 := (Lib.cell_of_heap hO (j := 1))
            have o2 := (Lib.cell_of_heap hO (j := 2))
            have bf := fun i => Lib.frozen_of_heap hB i
            have of := fun i => Lib.frozen_of_heap hO i
            simp at b0 o0 o1 o2
            go_upto_region 19 with (go_at_call 83; (with_reducible refine Calls.mono (HST.out _) ?_); rintro e w' ⟨rfl, rfl⟩)
            obtain ⟨hB2, hO2⟩ := (con_store hB hO hbo).2.1 nt et
            have hL2 := (hL.setCell (q := ⟨o, 1, none⟩) (.inl (.inr (.inr rfl))) (.int .i64 nt)).setCell (q := ⟨b, 0, none⟩) (.inl (.inr (.inl rfl))) (.int .i64 et)
            generalize (W0.setCell ⟨o, 1, none⟩ (.int .i64 nt)).setCell ⟨b, 0, none⟩ (.int .i64 et) = W1 at *
            clear b0 o0 o1 o2 bf of hL hB hO
            have hB := hB2
            have hO := hO2
            have hL := hL2
            clear hB2 hO2 hL2
            have b0 := (Lib.cell_of_heap hB (j := 0))
            have o0 := (Lib.cell_of_heap hO (j := 0))
            have o1 := (Lib.cell_of_heap hO (j := 1))
            have o2 := (Lib.cell_of_heap hO (j := 2))
            have bf := fun i => Lib.frozen_of_heap hB i
            have of := fun i => Lib.frozen_of_heap hO i
            simp at b0 o0 o1 o2
            go_wp2_with (go_at_call 83; (with_reducible refine Calls.mono (HSA.out _) ?_); rintro e w' ⟨rfl, rfl⟩)
            go_end0
            obtain ⟨e1, e2, e3, e4, e5, e6⟩ := HE.out
            obtain ⟨hB2, hO2⟩ := (con_store hB hO hbo).2.2 na ea
            refine conPost_some HR.out ⟨rfl, (hL.setCell (.inl (.inr (.inr rfl))) _).setCell (.inl (.inr (.inl rfl))) _, ?_, ?_⟩
            · rw [e1, e2, e3]
              exact hB2
            · rw [e4, e5, e6]
              exact hO2

end Go.Proofs.YtjlemghmpnkncaaDoor
