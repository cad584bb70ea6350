/-
  Lemmas of this claim, part 17: the texts RangE, RangF, RangFit, RangG, RangH, PartC, PartM, GroupF, one behind the other.
-/
import Derived.Test.YtcbhkcdphbffpaaGreatDoorM16
import Derived.Deep.DeepCutAuto
import Derived.LoopN
import Derived.Deep.AppendLies
import Derived.Deep.RegionWith
import Derived.Deep.RegionHeld3
import Derived.Deep.Onto
import Derived.Deep.Slices
import Derived.Lib.SmallJoins

namespace Go.Proofs.YtcbhkcdphbffpaaGreatDoor
open Go.RowKit
set_option linter.unusedSimpArgs false
set_option linter.unusedVariables false

/-- What reading what comes does. -/
def ConPost (g : Nat) (l : List UInt8) (b o : Nat) (w : World) (e : Ending) (w' : World) : Prop :=
  match conL l with
  | none => (∃ a : Int, e = .panicked [{ v := faultV a 2, recovered := false }]) ∧ LostS w w' g b o
  | some (f, t, a) => e = .returned (.tuple #[]) ∧ Only (fun i => i = g ∨ i = b ∨ i = o) w w' ∧ w'.heap[b]? = some (.cells #[.int .i64 (saidE a (saidE t (saidE f 0)))] 55 (0, 0)) ∧ w'.heap[o]? = some (.cells #[.int .i64 (saidN f), .int .i64 (saidN t), .int .i64 (saidN a)] 66 (0, 0))

theorem conPost_none {g : Nat} {l : List UInt8} {b o : Nat} {w w' : World} {e : Ending} (h : conL l = none) (h1 : ∃ a : Int, e = .panicked [{ v := faultV a 2, recovered := false }]) (h2 : LostS w w' g b o) : ConPost g l b o w e w' := by
  unfold ConPost; rw [h]; exact ⟨h1, h2⟩

theorem conPost_some {g : Nat} {l f t a : List UInt8} {b o : Nat} {w w' : World} {e : Ending} (h : conL l = some (f, t, a)) (h2 : e = .returned (.tuple #[]) ∧ Only (fun i => i = g ∨ i = b ∨ i = o) w w' ∧ w'.heap[b]? = some (.cells #[.int .i64 (saidE a (saidE t (saidE f 0)))] 55 (0, 0)) ∧ w'.heap[o]? = some (.cells #[.int .i64 (saidN f), .int .i64 (saidN t), .int .i64 (saidN a)] 66 (0, 0))) : ConPost g l b o w e w' := by
  unfold ConPost; rw [h]; exact h2

theorem size_spec {l d r : List UInt8} (h : sizeL l = some (d, r)) : d.all isDigit = true ∧ d.length ≤ l.length ∧ r.length ≤ l.length := by
  cases l with
  | nil => simp [sizeL] at h
  | cons x l =>
    have e : sizeL (x :: l) = if x = 42 then some ([], l) else if isDigit x = true then some ((x :: l).takeWhile isDigit, (x :: l).dropWhile isDigit) else none := rfl
    rw [e] at h
    by_cases hx : x = 42
    · rw [if_pos hx] at h
      injection h with h
      injection h with h1 h2
      subst h1 h2
      exact ⟨rfl, Nat.zero_le _, by simp⟩
    · rw [if_neg hx] at h
      by_cases hd : isDigit x = true
      · rw [if_pos hd] at h
        injection h with h
        injection h with h1 h2
        rw [← h1, ← h2]
        exact ⟨tw_all _ _, (tw_le _ _).1, (tw_le _ _).2⟩
      · rw [if_neg hd] at h
        cases h

theorem con_store {W : World} {b o : Nat} {c x y z : Int} (hB : W.heap[b]? = some (.cells #[.int .i64 c] 55 (0, 0))) (hO : W.heap[o]? = some (.cells #[.int .i64 x, .int .i64 y, .int .i64 z] 66 (0, 0))) (hbo : b ≠ o) :
    (∀ v d : Int, ((W.setCell ⟨o, 0, none⟩ (.int .i64 v)).setCell ⟨b, 0, none⟩ (.int .i64 d)).heap[b]? = some (.cells #[.int .i64 d] 55 (0, 0)) ∧ ((W.setCell ⟨o, 0, none⟩ (.int .i64 v)).setCell ⟨b, 0, none⟩ (.int .i64 d)).heap[o]? = some (.cells #[.int .i64 v, .int .i64 y, .int .i64 z] 66 (0, 0))) ∧
    (∀ v d : Int, ((W.setCell ⟨o, 1, none⟩ (.int .i64 v)).setCell ⟨b, 0, none⟩ (.int .i64 d)).heap[b]? = some (.cells #[.int .i64 d] 55 (0, 0)) ∧ ((W.setCell ⟨o, 1, none⟩ (.int .i64 v)).setCell ⟨b, 0, none⟩ (.int .i64 d)).heap[o]? = some (.cells #[.int .i64 x, .int .i64 v, .int .i64 z] 66 (0, 0))) ∧
    (∀ v d : Int, ((W.setCell ⟨o, 2, none⟩ (.int .i64 v)).setCell ⟨b, 0, none⟩ (.int .i64 d)).heap[b]? = some (.cells #[.int .i64 d] 55 (0, 0)) ∧ ((W.setCell ⟨o, 2, none⟩ (.int .i64 v)).setCell ⟨b, 0, none⟩ (.int .i64 d)).heap[o]? = some (.cells #[.int .i64 x, .int .i64 y, .int .i64 v] 66 (0, 0))) := by
  refine ⟨?_, ?_, ?_⟩ <;> (intro v d; constructor <;> simp [World.setCell, Array.getElem?_modify, hB, hO, hbo, Ne.symm hbo])

set_option maxRecDepth 20000 in
set_option maxHeartbeats 4000000 in
theorem content1_any (g : Nat) (s : ByteArray) (l : List UInt8) (b o : Nat) (w : World) (h : Ahead g s l w) (hs : s.size ≤ 1000) (hgb : b ≠ g) (hgo : o ≠ g) (hbo : b ≠ o)
    (hcb : w.heap[b]? = some (.cells #[.int .i64 0] 55 (0, 0))) (hco : w.heap[o]? = some (.cells #[.int .i64 0, .int .i64 0, .int .i64 0] 66 (0, 0))) :
    Calls Tryz.prog 101 #[rdV g, .pointer (some ⟨b, 0, none⟩), .pointer (some ⟨o, 0, none⟩)] w (ConPost g l b o w) := by
  have hg := h.lt
  have hb : b < w.heap.size := (Array.getElem?_eq_some_iff.1 hcb).1
  have ho : o < w.heap.size := (Array.getElem?_eq_some_iff.1 hco).1
  have hll : l.length ≤ 1000 := by
    obtain ⟨k, hk, hl, _⟩ := h
    have := lef_len s k
    rw [hl] at this
    omega
  replace hs : s.size ≤ maxLen := by unfold maxLen; omega
  have A := Lib.hid (AskS.new (b := b) (o := o) h hb ho)
  have hR : conL l = conL l := rfl
  conv at hR => rhs; unfold conL
  have HCB := Lib.hid hcb
  have HCO := Lib.hid hco
  clear h hcb hco
  unfold rdV
  go_enter Tryz.func101, Tryz.ntmps101
  have c0 := A.out.box
  go_wp2_with fail
  (refine Calls.mono (blanks_at g s _ _ A.out.ahead hs) ?_; rintro e w' ⟨rfl, hw⟩; replace A := Lib.hid (A.out.went hw hgb hgo hb ho); clear hw c0; have c0 := A.out.box; go_wp2_with fail)
  cases hu : unitOk (l.dropWhile isTab)
  · rw [if_neg (by rw [hu]; simp)] at hR
    (have HR := Lib.hid hR; refine Calls.mono (unit_no g s _ _ A.out.ahead hs hu) ?_; rintro e w' ⟨a, rfl, hw⟩; exact ⟨rfl, conPost_none HR.out ⟨a, rfl⟩ (A.out.lost hw hgb hgo hb ho)⟩)
  rw [if_pos hu] at hR
  refine Calls.mono (unit_yes g s _ _ A.out.ahead hs hu) ?_
  rintro e w' ⟨rfl, hw⟩
  replace A := Lib.hid (A.out.went hw hgb hgo hb ho)
  clear hw c0 hu
  have c0 := A.out.box
  replace hll := dw_le isLetter (dw_le isTab hll)
  generalize (l.dropWhile isTab).dropWhile isLetter = l2 at *
  unfold con2 at hR
  go_upto_region 3 with fail
  refine wp_region_N 5 (fun w' => w'.cell? ⟨w.heap.size, 0, none⟩ = some (.pointer (some ⟨g, 0, none⟩))) (by kernel_rfl) (by kernel_rfl) c0 ?_
  have HBL := Lib.hid (fun w1 (hb : Ahead g s l2 w1) => blanks_at g s l2 w1 hb hs)
  have A1 := Lib.hid (A.out.on ((Below.refl _ _).drew) hb ho)
  by_cases ht : l2.takeWhile isTab = []
  · rw [if_pos ht] at hR
    have HR := Lib.hid hR
    rw [ht] at HBL
    have h1 := bl_empty (l := []) rfl
    clear ht hR
    generalize bl [] = E0 at *
    unfold rdV at HBL
    (refine NJ.take (i := 0) (v := ?_) rfl rfl (by kernel_rfl) (by kernel_rfl) (by kernel_rfl) (by kernel_rfl) (fun _ _ _ h => h) (Or.inl ⟨by rfl, ?_⟩) ?_; rotate_left; (focus (intro wS hSw; (try dsimp only at hSw); go_simp; first | done | with_reducible rfl)); (try simp only [Act.put, List.getElem_toArray, List.getElem_cons_zero, List.getElem_cons_succ, List.setIfInBounds_toArray, List.set_cons_zero, List.set_cons_succ]))
    (refine NJ.take (i := 1) (v := ?_) rfl rfl (by kernel_rfl) (by kernel_rfl) (by kernel_rfl) (by kernel_rfl) (fun _ _ _ h => h) (Or.inl ⟨by rfl, ?_⟩) ?_; rotate_left; (focus (intro wS hSw; (try dsimp only at hSw); go_simp; first | done | with_reducible rfl)); (try simp only [Act.put, List.getElem_toArray, List.getElem_cons_zero, List.getElem_cons_succ, List.setIfInBounds_toArray, List.set_cons_zero, List.set_cons_succ]))
    refine NJ.step (i := 2) rfl rfl (by kernel_rfl) (fun hSat K hK => ?_)
    go_simp
    refine Calls.mono (HBL.out _ A1.out.ahead) ?_
    rintro e w' ⟨rfl, hw⟩
    replace A1 := Lib.hid (A1.out.went hw hgb hgo hb ho)
    go_wp2_with fail
    refine hK.out _ _ A1.out.box ?_
    clear hK hSat K hw
    (try simp only [Act.put, List.getElem_toArray, List.getElem_cons_zero, List.getElem_cons_succ, List.setIfInBounds_toArray, List.set_cons_zero, List.set_cons_succ])
    (refine NJ.take (i := 3) (v := ?_) rfl rfl (by kernel_rfl) (by kernel_rfl) (by kernel_rfl) (by kernel_rfl) (fun _ _ _ h => h) (Or.inl ⟨by rfl, ?_⟩) ?_; rotate_left; (focus (intro wS hSw; (try dsimp only at hSw); go_simp; first | done | with_reducible rfl)); (try simp only [Act.put, List.getElem_toArray, List.getElem_cons_zero, List.getElem_cons_succ, List.setIfInBounds_toArray, List.set_cons_zero, List.set_cons_succ]))
    refine NJ.step (i := 4) rfl rfl (by kernel_rfl) (fun hSat K hK => ?_)
    go_simp
    refine Calls.mono (need_no g s _ _ A1.out.ahead) ?_
    rintro e w' ⟨a, rfl, hw⟩
    exact ⟨rfl, conPost_none HR.out ⟨a, rfl⟩ (A1.out.lost hw hgb hgo hb ho)⟩
  rw [if_neg ht] at hR
  have h1 := bl_full ht
  clear ht
  generalize bl (l2.takeWhile isTab) = E0 at *
  unfold rdV at HBL
  (refine NJ.take (i := 0) (v := ?_) rfl rfl (by kernel_rfl) (by kernel_rfl) (by kernel_rfl) (by kernel_rfl) (fun _ _ _ h => h) (Or.inl ⟨by rfl, ?_⟩) ?_; rotate_left; (focus (intro wS hSw; (try dsimp only at hSw); go_simp; first | done | with_reducible rfl)); (try simp only [Act.put, List.getElem_toArray, List.getElem_cons_zero, List.getElem_cons_succ, List.setIfInBounds_toArray, List.set_cons_zero, List.set_cons_succ]))
  (refine NJ.take (i := 1) (v := ?_) rfl rfl (by kernel_rfl) (by kernel_rfl) (by kernel_rfl) (by kernel_rfl) (fun _ _ _ h => h) (Or.inl ⟨by rfl, ?_⟩) ?_; rotate_left; (focus (intro wS hSw; (try dsimp only at hSw); go_simp; first | done | with_reducible rfl)); (try simp only [Act.put, List.getElem_toArray, List.getElem_cons_zero, List.getElem_cons_succ, List.setIfInBounds_toArray, List.set_cons_zero, List.set_cons_succ]))
  refine NJ.step (i := 2) rfl rfl (by kernel_rfl) (fun hSat K hK => ?_)
  go_simp
  refine Calls.mono (HBL.out _ A1.out.ahead) ?_
  rintro e w' ⟨rfl, hw⟩
  replace A1 := Lib.hid (A1.out.went hw hgb hgo hb ho)
  go_wp2_with fail
  refine hK.out _ _ A1.out.box ?_
  clear hK hSat K hw
  (try simp only [Act.put, List.getElem_toArray, List.getElem_cons_zero, List.getElem_cons_succ, List.setIfInBounds_toArray, List.set_cons_zero, List.set_cons_succ])
  (refine NJ.take (i := 3) (v := ?_) rfl rfl (by kernel_rfl) (by kernel_rfl) (by kernel_rfl) (by kernel_rfl) (fun _ _ _ h => h) (Or.inl ⟨by rfl, ?_⟩) ?_; rotate_left; (focus (intro wS hSw; (try dsimp only at hSw); go_simp; first | done | with_reducible rfl)); (try simp only [Act.put, List.getElem_toArray, List.getElem_cons_zero, List.getElem_cons_succ, List.setIfInBounds_toArray, List.set_cons_zero, List.set_cons_succ]))
  refine NJ.step (i := 4) rfl rfl (by kernel_rfl) (fun hSat K hK => ?_)
  go_simp
  refine Calls.mono (need_yes g s _ _ A1.out.ahead) ?_
  rintro e w' ⟨rfl, hw⟩
  replace A1 := Lib.hid (A1.out.on hw hb ho)
  go_wp2_with fail
  refine hK.out _ _ A1.out.box ?_
  clear hK hSat K hw
  (try simp only [Act.put, List.getElem_toArray, List.getElem_cons_zero, List.getElem_cons_succ, List.setIfInBounds_toArray, List.set_cons_zero, List.set_cons_succ])
  refine NJ.done (by kernel_rfl) (fun hSat => ?_)
  clear hSat A c0 HBL
  have A := A1
  clear A1
  have c0 := A.out.box
  replace hll := dw_le isTab hll
  generalize l2.dropWhile isTab = l3 at *
  unfold con3 at hR
  go_wp2_with fail
  cases hu : signOk 42 l3
  case true =>
    rw [if_pos hu] at hR
    have HSK := Lib.hid (skip_both 42 g s l3 _ A.out.ahead hs)
    rw [hu, if_pos rfl] at HSK
    refine Calls.mono HSK.out ?_
    rintro e w' ⟨rfl, hw⟩
    replace A := Lib.hid (A.out.went hw hgb hgo hb ho)
    clear hw c0 hu HSK
    have c0 := A.out.box
    replace hll := tl_le hll
    generalize l3.tail = l4 at *
    unfold con6 at hR
    have hfl : ([] : List UInt8).length ≤ 1000 := by decide
    have htl : ([] : List UInt8).length ≤ 1000 := by decide
    have hfa : ([] : List UInt8).all isDigit = true := rfl
    have hta : ([] : List UInt8).all isDigit = true := rfl
    go_wp2_with fail
    cases hu : signOk 47 l4
    · rw [if_neg (by rw [hu]; simp)] at hR
      (have HR := Lib.hid hR; refine Calls.mono (sign_no 47 g s _ _ A.out.ahead hs hu) ?_; rintro e w' ⟨a, rfl, hw⟩; exact ⟨rfl, conPost_none HR.out ⟨a, rfl⟩ (A.out.lost hw hgb hgo hb ho)⟩)
    rw [if_pos hu] at hR
    (refine Calls.mono (sign_yes 47 g s _ _ A.out.ahead hs hu) ?_; rintro e w' ⟨rfl, hw⟩; replace A := Lib.hid (A.out.went hw hgb hgo hb ho); clear hw c0; have c0 := A.out.box; go_wp2_with fail)
    clear hu
    replace hll := tl_le hll
    generalize l4.tail = l5 at *
    cases hz : sizeL l5 with
    | none =>
      rw [hz] at hR
      (have HR := Lib.hid (hR.trans rfl : _ = none); refine Calls.mono (size_any g s l5 _ A.out.ahead hs) ?_; rintro e w' hp; unfold SizePost at hp; rw [hz] at hp; obtain ⟨a, rfl, hw⟩ := hp; exact ⟨rfl, conPost_none HR.out ⟨a, rfl⟩ (A.out.lost hw hgb hgo hb ho)⟩)
    | some q =>
      obtain ⟨a, l6⟩ := q
      have hza := size_spec hz
      (refine Calls.mono (size_any g s l5 _ A.out.ahead hs) ?_; rintro e w' hp; unfold SizePost at hp; rw [hz] at hp; obtain ⟨rfl, hw⟩ := hp; replace A := Lib.hid (A.out.went hw hgb hgo hb ho); clear hw c0; have c0 := A.out.box)
      rw [hz] at hR
      replace hR : conL l = if a = [] ∧ true = true then none else if l6.dropWhile isTab = [] then some ([], [], a) else none := hR
      have hal := Nat.le_trans hza.2.1 hll
      have haa := hza.1
      clear hz
      by_cases ha : a = []
      · rw [if_pos ⟨ha, rfl⟩] at hR
        subst ha
        have h1 := bl_empty (l := []) rfl
        have h2 := bl_empty (l := []) rfl
        go_wp2_with fail
        (have HR := Lib.hid hR; refine Calls.mono (need_no g s _ _ A.out.ahead) ?_; rintro e w' ⟨a, rfl, hw⟩; exact ⟨rfl, conPost_none HR.out ⟨a, rfl⟩ (A.out.lost hw hgb hgo hb ho)⟩)
      · have h1 := bl_full ha
        rw [if_neg (by simp [ha])] at hR
        go_wp2_with fail
        (refine Calls.mono (need_yes g s _ _ A.out.ahead) ?_; rintro e w' ⟨rfl, hw⟩; replace A := Lib.hid (A.out.on hw hb ho); clear hw c0; have c0 := A.out.box; go_wp2_with fail)
        (refine Calls.mono (blanks_at g s _ _ A.out.ahead hs) ?_; rintro e w' ⟨rfl, hw⟩; replace A := Lib.hid (A.out.went hw hgb hgo hb ho); clear hw c0; have c0 := A.out.box; go_wp2_with fail)
        generalize l6.dropWhile isTab = l7 at *
        by_cases hu : l7 = []
        case neg =>
          rw [if_neg hu] at hR
          (have HR := Lib.hid hR; refine Calls.mono (end_no g s _ _ A.out.ahead hs hu) ?_; rintro e w' ⟨a, rfl, hw⟩; exact ⟨rfl, conPost_none HR.out ⟨a, rfl⟩ (A.out.lost hw hgb hgo hb ho)⟩)
        rw [if_pos hu] at hR
        refine Calls.mono (end_yes g s _ _ A.out.ahead hs hu) ?_
        rintro e w' ⟨rfl, hw⟩
        replace A := Lib.hid (A.out.went hw hgb hgo hb ho)
        clear hw c0 hu
        have HSF := Lib.hid (fun w => said_any [] 0 w hfl hfa)
        have HST := Lib.hid (fun w => said_any [] (saidE [] 0) w htl hta)
        have HSA := Lib.hid (fun w => said_any a (saidE [] (saidE [] 0)) w hal haa)
        rw [show bl [] = ⟨#[]⟩ from rfl] at HSF HST
        have hB := A.out.cb.trans HCB.out
        have hO := A.out.co.trans HCO.out
        have b0 := (Lib.cell_of_heap hB (j := 0))
        have o0 := (Lib.cell_of_heap hO (j := 0))
        have o1 := (Lib.cell_of_heap hO (j := 1))
        have o2 := (Lib.cell_of_heap hO (j := 2))
        have bf := fun i => Lib.frozen_of_heap hB i
        have of := fun i => Lib.frozen_of_heap hO i
        simp at b0 o0 o1 o2
        generalize hef : saidE [] 0 = ef at *
        generalize het : saidE [] ef = et at *
        generalize hea : saidE a et = ea at *
        generalize hnf : saidN [] = nf at *
        generalize hna : saidN a = na at *
        have HE := Lib.hid (And.intro hef (And.intro het (And.intro hea (And.intro hnf hna))))
        have HR := Lib.hid hR
        clear hef het hea hnf  hna hR
        generalize bl a = AT at *
        have hL := A.out.only
        clear A
        go_upto_region 18 with (go_at_call 109; (with_reducible refine Calls.mono (HSF.out _) ?_); rintro e w' ⟨rfl, rfl⟩)
        obtain ⟨hB2, hO2⟩ := (con_store hB hO hbo).1 nf ef
        have hL2 := (hL.setCell (q := ⟨o, 0, none⟩) (.inl (.inr (.inr rfl))) (.int .i64 nf)).setCell (q := ⟨b, 0, none⟩) (.inl (.inr (.inl rfl))) (.int .i64 ef)
        generalize (w'.setCell ⟨o, 0, none⟩ (.int .i64 nf)).setCell ⟨b, 0, none⟩ (.int .i64 ef) = W0 at *
        clear b0 o0 o1 o2 bf of hL hB hO
        have hB := hB2
        have hO := hO2
        have hL := hL2
        clear hB2 hO2 hL2
        have b0 := (Lib.cell_of_heap hB (j := 0))
        have o0 := (Lib.cell_of_heap hO (j := 0))
        have o1 := (Lib.cell_of_heap hO (j := 1))
        have o2 := (Lib.cell_of_heap hO (j := 2))
        have bf := fun i => Lib.frozen_of_heap hB i
        have of := fun i => Lib.frozen_of_heap hO i
        simp at b0 o0 o1 o2
        go_upto_region 19 with (go_at_call 109; (with_reducible refine Calls.mono (HST.out _) ?_); rintro e w' ⟨rfl, rfl⟩)
        obtain ⟨hB2, hO2⟩ := (con_store hB hO hbo).2.1 nf et
        have hL2 := (hL.setCell (q := ⟨o, 1, none⟩) (.inl (.inr (.inr rfl))) (.int .i64 nf)).setCell (q := ⟨b, 0, none⟩) (.inl (.inr (.inl rfl))) (.int .i64 et)
        generalize (W0.setCell ⟨o, 1, none⟩ (.int .i64 nf)).setCell ⟨b, 0, none⟩ (.int .i64 et) = W1 at *
        clear b0 o0 o1 o2 bf of hL hB hO
        have hB := hB2
        have hO := hO2
        have hL := hL2
        clear hB2 hO2 hL2
        have b0 := (Lib.cell_of_heap hB (j := 0))
        have o0 := (Lib.cell_of_heap hO (j := 0))
        have o1 := (Lib.cell_of_heap hO (j := 1))
        have o2 := (Lib.cell_of_heap hO (j := 2))
        have bf := fun i => Lib.frozen_of_heap hB i
        have of := fun i => Lib.frozen_of_heap hO i
        simp at b0 o0 o1 o2
        go_wp2_with (go_at_call 109; (with_reducible refine Calls.mono (HSA.out _) ?_); rintro e w' ⟨rfl, rfl⟩)
        go_end0
        obtain ⟨e1, e2, e3, e4, e6⟩ := HE.out
        obtain ⟨hB2, hO2⟩ := (con_store hB hO hbo).2.2 na ea
        refine conPost_some HR.out ⟨rfl, (hL.setCell (.inl (.inr (.inr rfl))) _).setCell (.inl (.inr (.inl rfl))) _, ?_, ?_⟩
        · rw [e1, e2, e3]
          exact hB2
        · rw [e4, e6]
          exact hO2
  case false =>
    rw [if_neg (by rw [hu]; simp)] at hR
    have HSK := Lib.hid (skip_both 42 g s l3 _ A.out.ahead hs)
    rw [hu, if_neg (by simp)] at HSK
    refine Calls.mono HSK.out ?_
    rintro e w' ⟨rfl, hw⟩
    replace A := Lib.hid (A.out.went hw hgb hgo hb ho)
    clear hw c0 hu HSK
    have c0 := A.out.box
    go_wp2_with fail
    cases hz : sizeL l3 with
    | none =>
      rw [hz] at hR
      (have HR := Lib.hid (hR.trans rfl : _ = none); refine Calls.mono (size_any g s l3 _ A.out.ahead hs) ?_; rintro e w' hp; unfold SizePost at hp; rw [hz] at hp; obtain ⟨a, rfl, hw⟩ := hp; exact ⟨rfl, conPost_none HR.out ⟨a, rfl⟩ (A.out.lost hw hgb hgo hb ho)⟩)
    | some q =>
      obtain ⟨f, l4⟩ := q
      have hza := size_spec hz
      (refine Calls.mono (size_any g s l3 _ A.out.ahead hs) ?_; rintro e w' hp; unfold SizePost at hp; rw [hz] at hp; obtain ⟨rfl, hw⟩ := hp; replace A := Lib.hid (A.out.went hw hgb hgo hb ho); clear hw c0; have c0 := A.out.box)
      rw [hz] at hR
      replace hR : conL l = if f = [] then none else if signOk 45 l4 = true then con5 f (sizeL l4.tail) else none := hR
      have hfl := Nat.le_trans hza.2.1 hll
      have hfa := hza.1
      replace hll := Nat.le_trans hza.2.2 hll
      clear hz hza
      by_cases hf : f = []
      · rw [if_pos hf] at hR
        subst hf
        have h1 := bl_empty (l := []) rfl
        go_wp2_with fail
        (have HR := Lib.hid hR; refine Calls.mono (need_no g s _ _ A.out.ahead) ?_; rintro e w' ⟨a, rfl, hw⟩; exact ⟨rfl, conPost_none HR.out ⟨a, rfl⟩ (A.out.lost hw hgb hgo hb ho)⟩)
      rw [if_neg hf] at hR
      have h1 := bl_full hf
      go_wp2_with fail
      (refine Calls.mono (need_yes g s _ _ A.out.ahead) ?_; rintro e w' ⟨rfl, hw⟩; replace A := Lib.hid (A.out.on hw hb ho); clear hw c0; have c0 := A.out.box; go_wp2_with fail)
      cases hu : signOk 45 l4
      · rw [if_neg (by rw [hu]; simp)] at hR
        (have HR := Lib.hid hR; refine Calls.mono (sign_no 45 g s _ _ A.out.ahead hs hu) ?_; rintro e w' ⟨a, rfl, hw⟩; exact ⟨rfl, conPost_none HR.out ⟨a, rfl⟩ (A.out.lost hw hgb hgo hb ho)⟩)
      rw [if_pos hu] at hR
      (refine Calls.mono (sign_yes 45 g s _ _ A.out.ahead hs hu) ?_; rintro e w' ⟨rfl, hw⟩; replace A := Lib.hid (A.out.went hw hgb hgo hb ho); clear hw c0; have c0 := A.out.box; go_wp2_with fail)
      clear hu
      replace hll := tl_le hll
      generalize l4.tail = l5 at *
      cases hz : sizeL l5 with
      | none =>
        rw [hz] at hR
        (have HR := Lib.hid (hR.trans rfl : _ = none); refine Calls.mono (size_any g s l5 _ A.out.ahead hs) ?_; rintro e w' hp; unfold SizePost at hp; rw [hz] at hp; obtain ⟨a, rfl, hw⟩ := hp; exact ⟨rfl, conPost_none HR.out ⟨a, rfl⟩ (A.out.lost hw hgb hgo hb ho)⟩)
      | some q =>
        obtain ⟨t, l6⟩ := q
        have hza := size_spec hz
        (refine Calls.mono (size_any g s l5 _ A.out.ahead hs) ?_; rintro e w' hp; unfold SizePost at hp; rw [hz] at hp; obtain ⟨rfl, hw⟩ := hp; replace A := Lib.hid (A.out.went hw hgb hgo hb ho); clear hw c0; have c0 := A.out.box)
        rw [hz] at hR
        replace hR : conL l = if t = [] then none else con6 f t false l6 := hR
        have htl := Nat.le_trans hza.2.1 hll
        have hta := hza.1
        replace hll := Nat.le_trans hza.2.2 hll
        clear hz hza
        by_cases ht : t = []
        · rw [if_pos ht] at hR
          subst ht
          have h2 := bl_empty (l := []) rfl
          go_wp2_with fail
          (have HR := Lib.hid hR; refine Calls.mono (need_no g s _ _ A.out.ahead) ?_; rintro e w' ⟨a, rfl, hw⟩; exact ⟨rfl, conPost_none HR.out ⟨a, rfl⟩ (A.out.lost hw hgb hgo hb ho)⟩)
        rw [if_neg ht] at hR
        have h2 := bl_full ht
        go_wp2_with fail
        (refine Calls.mono (need_yes g s _ _ A.out.ahead) ?_; rintro e w' ⟨rfl, hw⟩; replace A := Lib.hid (A.out.on hw hb ho); clear hw c0; have c0 := A.out.box; go_wp2_with fail)
        unfold con6 at hR
        clear hf ht h1 h2
        clear l3 l4 l5
        generalize l6 = l4 at *
        cases hu : signOk 47 l4
        · rw [if_neg (by rw [hu]; simp)] at hR
          (have HR := Lib.hid hR; refine Calls.mono (sign_no 47 g s _ _ A.out.ahead hs hu) ?_; rintro e w' ⟨a, rfl, hw⟩; exact ⟨rfl, conPost_none HR.out ⟨a, rfl⟩ (A.out.lost hw hgb hgo hb ho)⟩)
        rw [if_pos hu] at hR
        (refine Calls.mono (sign_yes 47 g s _ _ A.out.ahead hs hu) ?_; rintro e w' ⟨rfl, hw⟩; replace A := Lib.hid (A.out.went hw hgb hgo hb ho); clear hw c0; have c0 := A.out.box; go_wp2_with fail)
        clear hu
        replace hll := tl_le hll
        generalize l4.tail = l5 at *
        cases hz : sizeL l5 with
        | none =>
          rw [hz] at hR
          (have HR := Lib.hid (hR.trans rfl : _ = none); refine Calls.mono (size_any g s l5 _ A.out.ahead hs) ?_; rintro e w' hp; unfold SizePost at hp; rw [hz] at hp; obtain ⟨a, rfl, hw⟩ := hp; exact ⟨rfl, conPost_none HR.out ⟨a, rfl⟩ (A.out.lost hw hgb hgo hb ho)⟩)
        | some q =>
          obtain ⟨a, l6⟩ := q
          have hza := size_spec hz
          (refine Calls.mono (size_any g s l5 _ A.out.ahead hs) ?_; rintro e w' hp; unfold SizePost at hp; rw [hz] at hp; obtain ⟨rfl, hw⟩ := hp; replace A := Lib.hid (A.out.went hw hgb hgo hb ho); clear hw c0; have c0 := A.out.box)
          rw [hz] at hR
          replace hR : conL l = if a = [] ∧ false = true then none else if l6.dropWhile isTab = [] then some (f, t, a) else none := hR
          have hal := Nat.le_trans hza.2.1 hll
          have haa := hza.1
          clear hz
          by_cases ha : a = []
          · subst ha
            have h1 := bl_empty (l := []) rfl
            rw [if_neg (by simp)] at hR
            go_wp2_with fail
            (refine Calls.mono (need_yes g s _ _ A.out.ahead) ?_; rintro e w' ⟨rfl, hw⟩; replace A := Lib.hid (A.out.on hw hb ho); clear hw c0; have c0 := A.out.box; go_wp2_with fail)
            (refine Calls.mono (blanks_at g s _ _ A.out.ahead hs) ?_; rintro e w' ⟨rfl, hw⟩; replace A := Lib.hid (A.out.went hw hgb hgo hb ho); clear hw c0; have c0 := A.out.box; go_wp2_with fail)
            generalize l6.dropWhile isTab = l7 at *
            by_cases hu : l7 = []
            case neg =>
              rw [if_neg hu] at hR
              (have HR := Lib.hid hR; refine Calls.mono (end_no g s _ _ A.out.ahead hs hu) ?_; rintro e w' ⟨a, rfl, hw⟩; exact ⟨rfl, conPost_none HR.out ⟨a, rfl⟩ (A.out.lost hw hgb hgo hb ho)⟩)
            rw [if_pos hu] at hR
            refine Calls.mono (end_yes g s _ _ A.out.ahead hs hu) ?_
            rintro e w' ⟨rfl, hw⟩
            replace A := Lib.hid (A.out.went hw hgb hgo hb ho)
            clear hw c0 hu
            have HSF := Lib.hid (fun w => said_any f 0 w hfl hfa)
            have HST := Lib.hid (fun w => said_any t (saidE f 0) w htl hta)
            have HSA := Lib.hid (fun w => said_any [] (saidE t (saidE f 0)) w hal haa)
            have hB := A.out.cb.trans HCB.out
            have hO := A.out.co.trans HCO.out
            have b0 := (Lib.cell_of_heap hB (j := 0))
            have o0 := (Lib.cell_of_heap hO (j := 0))
            have o1 := (Lib.cell_of_heap hO (j := 1))
            have o2 := (Lib.cell_of_heap hO (j := 2))
            have bf := fun i => Lib.frozen_of_heap hB i
            have of := fun i => Lib.frozen_of_heap hO i
            simp at b0 o0 o1 o2
            generalize hef : saidE f 0 = ef at *
            generalize het : saidE t ef = et at *
            generalize hea : saidE [] et = ea at *
            generalize hnf : saidN f = nf at *
            generalize hnt : saidN t = nt at *
            generalize hna : saidN [] = na at *
            have HE := Lib.hid (And.intro hef (And.intro het (And.intro hea (And.intro hnf (And.intro hnt hna)))))
            have HR := Lib.hid hR
            clear hef het hea hnf hnt hna hR
            generalize bl f = FT at *
            generalize bl t = TX at *
            generalize bl [] = AT at *
            have hL := A.out.only
            clear A
            go_upto_region 18 with (go_at_call 109; (with_reducible refine Calls.mono (HSF.out _) ?_); rintro e w' ⟨rfl, rfl⟩)
            obtain ⟨hB2, hO2⟩ := (con_store hB hO hbo).1 nf ef
            have hL2 := (hL.setCell (q := ⟨o, 0, none⟩) (.inl (.inr (.inr rfl))) (.int .i64 nf)).setCell (q := ⟨b, 0, none⟩) (.inl (.inr (.inl rfl))) (.int .i64 ef)
            generalize (w'.setCell ⟨o, 0, none⟩ (.int .i64 nf)).setCell ⟨b, 0, none⟩ (.int .i64 ef) = W0 at *
            clear b0 o0 o1 o2 bf of hL hB hO
            have hB := hB2
            have hO := hO2
            have hL := hL2
            clear hB2 hO2 hL2
            have b0 := (Lib.cell_of_heap hB (j := 0))
            have o0 := (Lib.cell_of_heap hO (j := 0))
            have o1 := (Lib.cell_of_heap hO (j := 1))
            have o2 := (Lib.cell_of_heap hO (j := 2))
            have bf := fun i => Lib.frozen_of_heap hB i
            have of := fun i => Lib.frozen_of_heap hO i
            simp at b0 o0 o1 o2
            go_upto_region 19 with (go_at_call 109; (with_reducible refine Calls.mono (HST.out _) ?_); rintro e w' ⟨rfl, rfl⟩)
            obtain ⟨hB2, hO2⟩ := (con_store hB hO hbo).2.1 nt et
            have hL2 := (hL.setCell (q := ⟨o, 1, none⟩) (.inl (.inr (.inr rfl))) (.int .i64 nt)).setCell (q := ⟨b, 0, none⟩) (.inl (.inr (.inl rfl))) (.int .i64 et)
            generalize (W0.setCell ⟨o, 1, none⟩ (.int .i64 nt)).setCell ⟨b, 0, none⟩ (.int .i64 et) = W1 at *
            clear b0 o0 o1 o2 bf of hL hB hO
            have hB := hB2
            have hO := hO2
            have hL := hL2
            clear hB2 hO2 hL2
            have b0 := (Lib.cell_of_heap hB (j := 0))
            have o0 := (Lib.cell_of_heap hO (j := 0))
            have o1 := (Lib.cell_of_heap hO (j := 1))
            have o2 := (Lib.cell_of_heap hO (j := 2))
            have bf := fun i => Lib.frozen_of_heap hB i
            have of := fun i => Lib.frozen_of_heap hO i
            simp at b0 o0 o1 o2
            go_wp2_with (go_at_call 109; (with_reducible refine Calls.mono (HSA.out _) ?_); rintro e w' ⟨rfl, rfl⟩)
            go_end0
            obtain ⟨e1, e2, e3, e4, e5, e6⟩ := HE.out
            obtain ⟨hB2, hO2⟩ := (con_store hB hO hbo).2.2 na ea
            refine conPost_some HR.out ⟨rfl, (hL.setCell (.inl (.inr (.inr rfl))) _).setCell (.inl (.inr (.inl rfl))) _, ?_, ?_⟩
            · rw [e1, e2, e3]
              exact hB2
            · rw [e4, e5, e6]
              exact hO2
          · have h1 := bl_full ha
            rw [if_neg (by simp [ha])] at hR
            go_wp2_with fail
            (refine Calls.mono (need_yes g s _ _ A.out.ahead) ?_; rintro e w' ⟨rfl, hw⟩; replace A := Lib.hid (A.out.on hw hb ho); clear hw c0; have c0 := A.out.box; go_wp2_with fail)
            (refine Calls.mono (blanks_at g s _ _ A.out.ahead hs) ?_; rintro e w' ⟨rfl, hw⟩; replace A := Lib.hid (A.out.went hw hgb hgo hb ho); clear hw c0; have c0 := A.out.box; go_wp2_with fail)
            generalize l6.dropWhile isTab = l7 at *
            by_cases hu : l7 = []
            case neg =>
              rw [if_neg hu] at hR
              (have HR := Lib.hid hR; refine Calls.mono (end_no g s _ _ A.out.ahead hs hu) ?_; rintro e w' ⟨a, rfl, hw⟩; exact ⟨rfl, conPost_none HR.out ⟨a, rfl⟩ (A.out.lost hw hgb hgo hb ho)⟩)
            rw [if_pos hu] at hR
            refine Calls.mono (end_yes g s _ _ A.out.ahead hs hu) ?_
            rintro e w' ⟨rfl, hw⟩
            replace A := Lib.hid (A.out.went hw hgb hgo hb ho)
            clear hw c0 hu
            have HSF := Lib.hid (fun w => said_any f 0 w hfl hfa)
            have HST := Lib.hid (fun w => said_any t (saidE f 0) w htl hta)
            have HSA := Lib.hid (fun w => said_any a (saidE t (saidE f 0)) w hal haa)
            have hB := A.out.cb.trans HCB.out
            have hO := A.out.co.trans HCO.out
            have b0 := (Lib.cell_of_heap hB (j := 0))
            have o0 := (Lib.cell_of_heap hO (j := 0))
            have o1 := (Lib.cell_of_heap hO (j := 1))
            have o2 := (Lib.cell_of_heap hO (j := 2))
            have bf := fun i => Lib.frozen_of_heap hB i
            have of := fun i => Lib.frozen_of_heap hO i
            simp at b0 o0 o1 o2
            generalize hef : saidE f 0 = ef at *
            generalize het : saidE t ef = et at *
            generalize hea : saidE a et = ea at *
            generalize hnf : saidN f = nf at *
            generalize hnt : saidN t = nt at *
            generalize hna : saidN a = na at *
            have HE := Lib.hid (And.intro hef (And.intro het (And.intro hea (And.intro hnf (And.intro hnt hna)))))
            have HR := Lib.hid hR
            clear hef het hea hnf hnt hna hR
            generalize bl f = FT at *
            generalize bl t = TX at *
            generalize bl a = AT at *
            have hL := A.out.only
            clear A
            go_upto_region 18 with (go_at_call 109; (with_reducible refine Calls.mono (HSF.out _) ?_); rintro e w' ⟨rfl, rfl⟩)
            obtain ⟨hB2, hO2⟩ := (con_store hB hO hbo).1 nf ef
            have hL2 := (hL.setCell (q := ⟨o, 0, none⟩) (.inl (.inr (.inr rfl))) (.int .i64 nf)).setCell (q := ⟨b, 0, none⟩) (.inl (.inr (.inl rfl))) (.int .i64 ef)
            generalize (w'.setCell ⟨o, 0, none⟩ (.int .i64 nf)).setCell ⟨b, 0, none⟩ (.int .i64 ef) = W0 at *
            clear b0 o0 o1 o2 bf of hL hB hO
            have hB := hB2
            have hO := hO2
            have hL := hL2
            clear hB2 hO2 hL2
            have b0 := (Lib.cell_of_heap hB (j := 0))
            have o0 := (Lib.cell_of_heap hO (j := 0))
            have o1 := (Lib.cell_of_heap hO (j := 1))
            have o2 := (Lib.cell_of_heap hO (j := 2))
            have bf := fun i => Lib.frozen_of_heap hB i
            have of := fun i => Lib.frozen_of_heap hO i
            simp at b0 o0 o1 o2
            go_upto_region 19 with (go_at_call 109; (with_reducible refine Calls.mono (HST.out _) ?_); rintro e w' ⟨rfl, rfl⟩)
            obtain ⟨hB2, hO2⟩ := (con_store hB hO hbo).2.1 nt et
            have hL2 := (hL.setCell (q := ⟨o, 1, none⟩) (.inl (.inr (.inr rfl))) (.int .i64 nt)).setCell (q := ⟨b, 0, none⟩) (.inl (.inr (.inl rfl))) (.int .i64 et)
            generalize (W0.setCell ⟨o, 1, none⟩ (.int .i64 nt)).setCell ⟨b, 0, none⟩ (.int .i64 et) = W1 at *
            clear b0 o0 o1 o2 bf of hL hB hO
            have hB := hB2
            have hO := hO2
            have hL := hL2
            clear hB2 hO2 hL2
            have b0 := (Lib.cell_of_heap hB (j := 0))
            have o0 := (Lib.cell_of_heap hO (j := 0))
            have o1 := (Lib.cell_of_heap hO (j := 1))
            have o2 := (Lib.cell_of_heap hO (j := 2))
            have bf := fun i => Lib.frozen_of_heap hB i
            have of := fun i => Lib.frozen_of_heap hO i
            simp at b0 o0 o1 o2
            go_wp2_with (go_at_call 109; (with_reducible refine Calls.mono (HSA.out _) ?_); rintro e w' ⟨rfl, rfl⟩)
            go_end0
            obtain ⟨e1, e2, e3, e4, e5, e6⟩ := HE.out
            obtain ⟨hB2, hO2⟩ := (con_store hB hO hbo).2.2 na ea
            refine conPost_some HR.out ⟨rfl, (hL.setCell (.inl (.inr (.inr rfl))) _).setCell (.inl (.inr (.inl rfl))) _, ?_, ?_⟩
            · rw [e1, e2, e3]
              exact hB2
            · rw [e4, e5, e6]
              exact hO2

end Go.Proofs.YtcbhkcdphbffpaaGreatDoor

namespace Go.Proofs.YtcbhkcdphbffpaaGreatDoor
open Go.RowKit
set_option linter.unusedSimpArgs false
set_option linter.unusedVariables false

theorem entersContent1 : Enters 101 := fun args w => MuLone.run_callFunc_enter Tryz.func101 (by kernel_rfl) rfl args w

/-- The two boxes in which the answer comes. -/
def ConBox (w : World) (c f t a : Int) (w' : World) : Prop :=
  Below w.heap.size w w' ∧ w'.heap[w.heap.size + 1]? = some (.cells #[.int .i64 c] 55 (0, 0)) ∧ w'.heap[w.heap.size]? = some (.cells #[.int .i64 f, .int .i64 t, .int .i64 a] 66 (0, 0))

theorem conBox_stays (w : World) (c f t a : Int) {B : Nat} (hB : w.heap.size + 2 ≤ B) : Stays B (ConBox w c f t a) := fun w1 w2 hb h =>
  ⟨h.1.trans (hb.mono (by omega)), (hb.block _ (by omega)).trans h.2.1, (hb.block _ (by omega)).trans h.2.2⟩

set_option maxRecDepth 20000 in
set_option maxHeartbeats 1000000 in
theorem content_any (s : ByteArray) (w : World) (hs : s.size ≤ 1000) :
    Calls Tryz.prog 77 #[.string s] w fun e w' => e = .returned (conV s.data.toList) ∧ Below w.heap.size w w' := by
  have hmf : ∀ (fn : Fn) (first cap : Array Value) (w : World), (Instr.makeFunc fn first cap).run Tryz.prog w = .ok (.func fn first cap) w := fun _ _ _ _ => rfl
  have hbx : ConBox w 0 0 0 0 ((w.alloc (.cells #[.int .i64 0, .int .i64 0, .int .i64 0] 66)).alloc (.cells #[.int .i64 0] 55)) := by
    refine ⟨(below_box w _).alloc (by simp) _, ?_, ?_⟩
    · have := heap_alloc_new (w.alloc (.cells #[.int .i64 0, .int .i64 0, .int .i64 0] 66)) (.cells #[.int .i64 0] 55)
      simpa using this
    · rw [Below.heap_alloc _ _ _ (by simp)]
      exact heap_alloc_new w _
  have hz : ((w.alloc (.cells #[.int .i64 0, .int .i64 0, .int .i64 0] 66)).alloc (.cells #[.int .i64 0] 55)).heap.size = w.heap.size + 2 := by simp
  go_enter Tryz.func77, Tryz.ntmps77
  go_wp2_with fail
  generalize (w.alloc (.cells #[.int .i64 0, .int .i64 0, .int .i64 0] 66)).alloc (.cells #[.int .i64 0] 55) = W at *
  have hstep : ∀ g w1, Below W.heap.size W w1 → W.heap.size ≤ g → Ahead g s s.data.toList w1 → Calls Tryz.prog 101 (#[rdV g] ++ #[.pointer (some ⟨w.heap.size + 1, 0, none⟩), .pointer (some ⟨w.heap.size, 0, none⟩)]) w1 (ConPost g s.data.toList (w.heap.size + 1) w.heap.size w1) := fun g w1 hb hg hA =>
    content1_any g s s.data.toList (w.heap.size + 1) w.heap.size w1 hA hs (by omega) (by omega) (by omega) ((hb.block _ (by omega)).trans hbx.2.1) ((hb.block _ (by omega)).trans hbx.2.2)
  have hbel : ∀ g w1 w' , Below W.heap.size W w1 → W.heap.size ≤ g → Only (fun i => i = g ∨ i = w.heap.size + 1 ∨ i = w.heap.size) w1 w' → Below w.heap.size w w' := fun g w1 w' hb hg ho =>
    (hbx.1.trans (hb.mono (by omega))).trans (ho.below (by intro i hi; omega) (by have := hb.size; omega))
  cases hA : conL s.data.toList with
  | none =>
    have HF := Lib.hid (form_throws 101 #[.pointer (some ⟨w.heap.size + 1, 0, none⟩), .pointer (some ⟨w.heap.size, 0, none⟩)] s (ConBox w 0 0 0 0) W entersContent1 (conBox_stays w 0 0 0 0 (by omega)) (fun g w1 hb hg hAh => (hstep g w1 hb hg hAh).mono fun e w' hp => by
      unfold ConPost at hp
      rw [hA] at hp
      obtain ⟨h1, h2, h3, h4⟩ := hp
      exact ⟨h1, h2.mono (by intro i hi; omega), hbel g w1 w' hb hg h2, h3.trans ((hb.block _ (by omega)).trans hbx.2.1), h4.trans ((hb.block _ (by omega)).trans hbx.2.2)⟩))
    have HV : Hid (conV s.data.toList = .tuple #[.agg #[.int .i64 0, .int .i64 0, .int .i64 0], .int .i64 2]) := Lib.hid (by unfold conV; rw [hA])
    clear hstep hbel hbx
    refine HF.out.mono ?_
    rintro e w2 ⟨rfl, h1, h2, h3⟩
    have HB := Lib.hid h1
    have b0 := (Lib.cell_of_heap h2 (j := 0))
    have o0 := (Lib.cell_of_heap h3 (j := 0))
    have o1 := (Lib.cell_of_heap h3 (j := 1))
    have o2 := (Lib.cell_of_heap h3 (j := 2))
    have bf := fun i => Lib.frozen_of_heap h2 i
    have of := fun i => Lib.frozen_of_heap h3 i
    simp at b0 o0 o1 o2
    have hz0 : w.heap.size < w2.heap.size := lt_of_cell o0
    clear h1 h2 h3 HF
    go_wp2_with (fail; go_at_call 110; (with_reducible refine (HG.out _).mono ?_); rintro e w' ⟨rfl, hb2⟩; have p0 := (cell_below hb2 hz0).trans o0; have p1 := (cell_below hb2 hz0).trans o1; have p2 := (cell_below hb2 hz0).trans o2; have of' := fun i => (frozen_below hb2 hz0 (o := i)).trans (of i); replace HB := Lib.hid (HB.out.trans (hb2.mono HB.out.size)); have hz1 : w.heap.size < w'.heap.size := Nat.lt_of_lt_of_le hz0 hb2.size)
    refine bodyPost_ret (v := (.tuple #[.agg #[.int .i64 0, .int .i64 0, .int .i64 0], .int .i64 2])) ?_ rfl ⟨by rw [HV.out], ((HB.out.setCell (by simp) _).setCell (by simp) _).setCell (by simp) _⟩
    simp [results, Tryz.results77, go_sem, o0, o1, o2, hz0]
  | some q =>
    obtain ⟨f, t, a⟩ := q
    have HF := Lib.hid (form_gives 101 #[.pointer (some ⟨w.heap.size + 1, 0, none⟩), .pointer (some ⟨w.heap.size, 0, none⟩)] s (ConBox w (saidE a (saidE t (saidE f 0))) (saidN f) (saidN t) (saidN a)) W entersContent1 (conBox_stays w _ _ _ _ (by omega)) (fun g w1 hb hg hAh => (hstep g w1 hb hg hAh).mono fun e w' hp => by
      unfold ConPost at hp
      rw [hA] at hp
      obtain ⟨h1, h2, h3, h4⟩ := hp
      exact ⟨h1, h2.mono (by intro i hi; omega), hbel g w1 w' hb hg h2, h3, h4⟩))
    have HV0 : conV s.data.toList = if saidE a (saidE t (saidE f 0)) ≠ 0 ∨ part_goodP (saidN f) (saidN t) (saidN a) = false then .tuple #[.agg #[.int .i64 0, .int .i64 0, .int .i64 0], .int .i64 9] else .tuple #[.agg #[.int .i64 (saidN f), .int .i64 (saidN t), .int .i64 (saidN a)], .int .i64 0] := by unfold conV; rw [hA]
    clear hstep hbel hbx
    generalize saidE a (saidE t (saidE f 0)) = et at *
    generalize saidN f = nf at *
    generalize saidN t = nt at *
    generalize saidN a = na at *
    refine HF.out.mono ?_
    rintro e w2 ⟨rfl, h1, h2, h3⟩
    have HB := Lib.hid h1
    have b0 := (Lib.cell_of_heap h2 (j := 0))
    have o0 := (Lib.cell_of_heap h3 (j := 0))
    have o1 := (Lib.cell_of_heap h3 (j := 1))
    have o2 := (Lib.cell_of_heap h3 (j := 2))
    have bf := fun i => Lib.frozen_of_heap h2 i
    have of := fun i => Lib.frozen_of_heap h3 i
    simp at b0 o0 o1 o2
    have hz0 : w.heap.size < w2.heap.size := lt_of_cell o0
    clear h1 h2 h3 HF
    by_cases he : et = 0
    · subst he
      have HG := Lib.hid (fun w => good_any nf nt na w)
      cases hg : part_goodP nf nt na
      · have HV := Lib.hid (HV0.trans (if_pos (.inr hg)))
        rw [hg] at HG
        clear HV0 hg
        go_wp2_with (go_at_call 110; (with_reducible refine (HG.out _).mono ?_); rintro e w' ⟨rfl, hb2⟩; have p0 := (cell_below hb2 hz0).trans o0; have p1 := (cell_below hb2 hz0).trans o1; have p2 := (cell_below hb2 hz0).trans o2; have of' := fun i => (frozen_below hb2 hz0 (o := i)).trans (of i); replace HB := Lib.hid (HB.out.trans (hb2.mono HB.out.size)); have hz1 : w.heap.size < w'.heap.size := Nat.lt_of_lt_of_le hz0 hb2.size)
        refine bodyPost_ret (v := (.tuple #[.agg #[.int .i64 0, .int .i64 0, .int .i64 0], .int .i64 9])) ?_ rfl ⟨by rw [HV.out], ((HB.out.setCell (by simp) _).setCell (by simp) _).setCell (by simp) _⟩
        simp [results, Tryz.results77, go_sem, o0, o1, o2, hz0, p0, p1, p2, hz1]
      · have HV := Lib.hid (HV0.trans (if_neg (by simp [hg])))
        rw [hg] at HG
        clear HV0 hg
        go_wp2_with (go_at_call 110; (with_reducible refine (HG.out _).mono ?_); rintro e w' ⟨rfl, hb2⟩; have p0 := (cell_below hb2 hz0).trans o0; have p1 := (cell_below hb2 hz0).trans o1; have p2 := (cell_below hb2 hz0).trans o2; have of' := fun i => (frozen_below hb2 hz0 (o := i)).trans (of i); replace HB := Lib.hid (HB.out.trans (hb2.mono HB.out.size)); have hz1 : w.heap.size < w'.heap.size := Nat.lt_of_lt_of_le hz0 hb2.size)
        refine bodyPost_ret (v := (.tuple #[.agg #[.int .i64 nf, .int .i64 nt, .int .i64 na], .int .i64 0])) ?_ rfl ⟨by rw [HV.out], ((HB.out.setCell (by simp) _).setCell (by simp) _).setCell (by simp) _⟩
        simp [results, Tryz.results77, go_sem, o0, o1, o2, hz0, p0, p1, p2, hz1]
    · have HV := Lib.hid (HV0.trans (if_pos (.inl he)))
      have he2 : (et == 0) = false := beq_eq_false_iff_ne.2 he
      clear HV0
      go_wp2_with (fail; go_at_call 110; (with_reducible refine (HG.out _).mono ?_); rintro e w' ⟨rfl, hb2⟩; have p0 := (cell_below hb2 hz0).trans o0; have p1 := (cell_below hb2 hz0).trans o1; have p2 := (cell_below hb2 hz0).trans o2; have of' := fun i => (frozen_below hb2 hz0 (o := i)).trans (of i); replace HB := Lib.hid (HB.out.trans (hb2.mono HB.out.size)); have hz1 : w.heap.size < w'.heap.size := Nat.lt_of_lt_of_le hz0 hb2.size)
      refine bodyPost_ret (v := (.tuple #[.agg #[.int .i64 0, .int .i64 0, .int .i64 0], .int .i64 9])) ?_ rfl ⟨by rw [HV.out], ((HB.out.setCell (by simp) _).setCell (by simp) _).setCell (by simp) _⟩
      simp [results, Tryz.results77, go_sem, o0, o1, o2, hz0]

end Go.Proofs.YtcbhkcdphbffpaaGreatDoor

namespace Go.Proofs.YtcbhkcdphbffpaaGreatDoor
open Go.RowKit
set_option linter.unusedSimpArgs false
set_option linter.unusedVariables false

/-- A part of a length fits a range. -/
def fitsP (rf rt n f t s : Int) : Bool := decide (¬ (n = 0 ∨ rf < -1 ∨ rt < -1) ∧ ((rf = -1 ∧ s ≠ -1 ∧ t = s - 1 ∧ n ≤ rt) ∨ (rf ≠ -1 ∧ f = rf ∧ (rt = -1 ∨ t ≤ rt))))

theorem lenP_size {f t s : Int} (h : ¬ lenP f t s = 0) : -1 ≤ s ∧ s ≤ 9007199254740991 := by
  have h1 := lenP_range f t s
  have h2 : saysP f t s = true := by unfold saysP; exact decide_eq_true (by omega)
  have h3 := saysP_range h2
  exact ⟨h3.2.2.2.1, h3.2.2.2.2.1⟩

theorem First_rng (f t s : Int) (w : World) :
    Calls Tryz.prog 58 #[.agg #[.int .i64 f, .int .i64 t, .int .i64 s]] w fun e w' => e = .returned (.bool (f == 0)) ∧ Below w.heap.size w w' := by
  go_enter Tryz.func58, Tryz.ntmps58
  go_wp2_with fail
  go_ret
  exact ⟨rfl, below_box _ _⟩

end Go.Proofs.YtcbhkcdphbffpaaGreatDoor

namespace Go.Proofs.YtcbhkcdphbffpaaGreatDoor
open Go.RowKit
set_option linter.unusedSimpArgs false
set_option linter.unusedVariables false

def con0 : ByteArray := ⟨#[98, 121, 116, 101, 115, 32, 48, 45, 52, 47, 49, 48]⟩

theorem con0_says : conV con0.data.toList = .tuple #[.agg #[.int .i64 0, .int .i64 4, .int .i64 10], .int .i64 0] := by kernel_rfl

theorem lenP_five : lenP 0 4 10 = 5 := by decide

end Go.Proofs.YtcbhkcdphbffpaaGreatDoor

namespace Go.Proofs.YtcbhkcdphbffpaaGreatDoor
open Go.RowKit
set_option linter.unusedSimpArgs false
set_option linter.unusedVariables false

def rangeName : ByteArray := ⟨#[67, 111, 110, 116, 101, 110, 116, 45, 82, 97, 110, 103, 101]⟩
def rangeSmall : ByteArray := ⟨#[99, 111, 110, 116, 101, 110, 116, 45, 114, 97, 110, 103, 101]⟩

theorem getL_range (l : Pars) : getL rangeName l = getL rangeSmall l := by
  unfold getL
  have : isName rangeName = isName rangeSmall := by
    funext p
    unfold isName
    rw [show lowerL rangeName.data.toList = lowerL rangeSmall.data.toList by decide]
  rw [this]

/-- What comes, as numbers. -/
def conT (l : List UInt8) : Int × Int × Int × Int :=
  match conL l with
  | none => (0, 0, 0, 2)
  | some (f, t, a) => if saidE a (saidE t (saidE f 0)) ≠ 0 ∨ part_goodP (saidN f) (saidN t) (saidN a) = false then (0, 0, 0, 9) else (saidN f, saidN t, saidN a, 0)

theorem conV_T (l : List UInt8) : conV l = .tuple #[.agg #[.int .i64 (conT l).1, .int .i64 (conT l).2.1, .int .i64 (conT l).2.2.1], .int .i64 (conT l).2.2.2] := by
  unfold conV conT
  cases conL l with
  | none => rfl
  | some q =>
    obtain ⟨f, t, a⟩ := q
    by_cases h : saidE a (saidE t (saidE f 0)) ≠ 0 ∨ part_goodP (saidN f) (saidN t) (saidN a) = false
    · simp only [if_pos h]
    · simp only [if_neg h]

/-- What values say that comes. -/
def ofW : List ByteArray → Value
  | [v] => .tuple #[.agg #[.int .i64 (conT v.data.toList).1, .int .i64 (conT v.data.toList).2.1, .int .i64 (conT v.data.toList).2.2.1], .bool ((conT v.data.toList).2.2.2 == 0)]
  | _ => .tuple #[.agg #[.int .i64 0, .int .i64 0, .int .i64 0], .bool false]

theorem ofW_not {vs : List ByteArray} (h : ¬ vs.length = 1) : ofW vs = .tuple #[.agg #[.int .i64 0, .int .i64 0, .int .i64 0], .bool false] := by
  match vs, h with
  | [], _ => rfl
  | [_], h => exact absurd rfl h
  | _ :: _ :: _, _ => rfl

/-- What headers say that comes. -/
def ofV (l : Pars) : Value := ofW (getL rangeName l)

set_option maxRecDepth 20000 in
theorem Of_any (l : Pars) (A : Option Addr) (c : Nat) (w : World) (hl : l.length ≤ 1000) (hps : ∀ p ∈ l, p.1.length ≤ 1000 ∧ p.2.length ≤ 1000) (hA : ParsIn w w.heap.size A l) :
    Calls Tryz.prog 57 #[.slice A l.length c] w fun e w' => e = .returned (ofV l) ∧ Below w.heap.size w w' := by
  have hbx := below_box w (.cells #[.int .i64 0, .int .i64 0, .int .i64 0] 66)
  have HG := Lib.hid (Get_any rangeName l A c _ hl (fun p hp => (hps p hp).1) (by decide) ((hA.below hbx).more hbx.size))
  have hx : (w.alloc (.cells #[.int .i64 0, .int .i64 0, .int .i64 0] 66)).heap[w.heap.size]? = some (.cells #[.int .i64 0, .int .i64 0, .int .i64 0] 66 (0, 0)) := heap_alloc_new w _
  have hval : ∀ v ∈ getL rangeName l, v.size ≤ 1000 := fun v hv => by
    unfold getL at hv
    rw [List.mem_map] at hv
    obtain ⟨p, hp, rfl⟩ := hv
    rw [bt_size]
    exact (hps p (List.mem_filter.1 hp).1).2
  have hV : ofV l = ofW (getL rangeName l) := rfl
  clear hl hps hA
  generalize getL rangeName l = vs at *
  unfold rangeName at HG
  have HBX := Lib.hid hbx
  have HV := Lib.hid hV
  clear hbx hV
  go_enter Tryz.func57, Tryz.ntmps57
  go_wp2_with fail
  generalize w.alloc (.cells #[.int .i64 0, .int .i64 0, .int .i64 0] 66) = W at *
  refine HG.out.mono ?_
  rintro e w1 ⟨A2, c2, rfl, hS, hb, _⟩
  have hx1 := (hb.block _ (Array.getElem?_eq_some_iff.1 hx).1).trans hx
  have HB := Lib.hid (HBX.out.trans (hb.mono HBX.out.size))
  have o0 := (Lib.cell_of_heap hx1 (j := 0))
  have o1 := (Lib.cell_of_heap hx1 (j := 1))
  have o2 := (Lib.cell_of_heap hx1 (j := 2))
  have of := fun i => Lib.frozen_of_heap hx1 i
  simp at o0 o1 o2
  have hz0 : w.heap.size < w1.heap.size := lt_of_cell o0
  have HS := Lib.hid hS
  have HX1 := Lib.hid hx1
  clear hx hx1 hb hS HG HBX
  by_cases h1 : vs.length = 1
  · obtain ⟨v, rfl⟩ : ∃ v, vs = [v] := List.length_eq_one_iff.1 h1
    have HC := Lib.hid (fun w => content_any v w (hval v (by simp)))
    rw [conV_T] at HC
    have HV2 : Hid (ofV l = .tuple #[.agg #[.int .i64 (conT v.data.toList).1, .int .i64 (conT v.data.toList).2.1, .int .i64 (conT v.data.toList).2.2.1], .bool ((conT v.data.toList).2.2.2 == 0)]) := Lib.hid HV.out
    generalize (conT v.data.toList).1 = a at *
    generalize (conT v.data.toList).2.1 = b at *
    generalize (conT v.data.toList).2.2.1 = d at *
    generalize (conT v.data.toList).2.2.2 = code at *
    rcases HS.out with hnil | ⟨g, off, rfl, hg, hcs⟩
    · simp at hnil
    have d0 : w1.cell? ⟨g, off, none⟩ = some (.string v) := by have := hcs 0 (by simp); simpa using this
    clear hcs hval h1 HS
    simp only [List.length_cons, List.length_nil, Nat.zero_add]
    go_wp2_with fail
    refine (HC.out _).mono ?_
    rintro e w2 ⟨rfl, hb2⟩
    have hx2 := (hb2.block _ hz0).trans HX1.out
    have HB2 := Lib.hid ((HB.out.trans (hb2.mono HB.out.size)).alloc (by have := HB.out.size; have := hb2.size; omega) (.cells #[.int .i64 a, .int .i64 b, .int .i64 d] 66))
    have hx3 : (w2.alloc (.cells #[.int .i64 a, .int .i64 b, .int .i64 d] 66)).heap[w.heap.size]? = some (.cells #[.int .i64 0, .int .i64 0, .int .i64 0] 66 (0, 0)) := (Below.heap_alloc _ _ _ (Nat.lt_of_lt_of_le hz0 hb2.size)).trans hx2
    have hx4 : (w2.alloc (.cells #[.int .i64 a, .int .i64 b, .int .i64 d] 66)).heap[w2.heap.size]? = some (.cells #[.int .i64 a, .int .i64 b, .int .i64 d] 66 (0, 0)) := heap_alloc_new w2 _
    go_upto_region 5 with fail
    generalize w2.heap.size = P at *
    generalize w2.alloc (.cells #[.int .i64 a, .int .i64 b, .int .i64 d] 66) = W2 at *
    clear o0 o1 o2 of hz0 hx2 hb2 d0
    have o0 := (Lib.cell_of_heap hx3 (j := 0))
    have o1 := (Lib.cell_of_heap hx3 (j := 1))
    have o2 := (Lib.cell_of_heap hx3 (j := 2))
    have p0 := (Lib.cell_of_heap hx4 (j := 0))
    have p1 := (Lib.cell_of_heap hx4 (j := 1))
    have p2 := (Lib.cell_of_heap hx4 (j := 2))
    have of := fun i => Lib.frozen_of_heap hx3 i
    simp at o0 o1 o2 p0 p1 p2
    have hz0 : w.heap.size < W2.heap.size := lt_of_cell o0
    clear hx3 hx4
    go_wp2_with fail
    refine bodyPost_ret (v := (.tuple #[.agg #[.int .i64 a, .int .i64 b, .int .i64 d], .bool (code == 0)])) ?_ rfl ⟨by rw [HV2.out], ((HB2.out.setCell (by simp) _).setCell (by simp) _).setCell (by simp) _⟩
    simp [results, Tryz.results57, go_sem, o0, o1, o2, hz0]
  · have HV2 : Hid (ofV l = .tuple #[.agg #[.int .i64 0, .int .i64 0, .int .i64 0], .bool false]) := Lib.hid (by rw [HV.out, ofW_not h1])
    have h1i : ((vs.length : Int) == 1) = false := beq_eq_false_iff_ne.2 (by omega)
    clear hval h1 HS
    generalize vs.length = n at *
    go_wp2_with fail
    refine bodyPost_ret (v := (.tuple #[.agg #[.int .i64 0, .int .i64 0, .int .i64 0], .bool false])) ?_ rfl ⟨by rw [HV2.out], ((HB.out.setCell (by simp) _).setCell (by simp) _).setCell (by simp) _⟩
    simp [results, Tryz.results57, go_sem, o0, o1, o2, hz0]

set_option maxRecDepth 20000 in
theorem rOf24_any (l : Pars) (A : Option Addr) (c : Nat) (w : World) (hl : l.length ≤ 1000) (hps : ∀ p ∈ l, p.1.length ≤ 1000 ∧ p.2.length ≤ 1000) (hA : ParsIn w w.heap.size A l) :
    Calls Tryz.prog 43 #[.slice A l.length c] w fun e w' => e = .returned (ofV l) ∧ Below w.heap.size w w' := by
  have hbx := below_box w (.cells #[.int .i64 0, .int .i64 0, .int .i64 0] 66)
  have HG := Lib.hid (rGet22_any rangeSmall l A c _ hl (fun p hp => (hps p hp).1) (by decide) ((hA.below hbx).more hbx.size))
  have hx : (w.alloc (.cells #[.int .i64 0, .int .i64 0, .int .i64 0] 66)).heap[w.heap.size]? = some (.cells #[.int .i64 0, .int .i64 0, .int .i64 0] 66 (0, 0)) := heap_alloc_new w _
  have hval : ∀ v ∈ getL rangeSmall l, v.size ≤ 1000 := fun v hv => by
    unfold getL at hv
    rw [List.mem_map] at hv
    obtain ⟨p, hp, rfl⟩ := hv
    rw [bt_size]
    exact (hps p (List.mem_filter.1 hp).1).2
  have hV : ofV l = ofW (getL rangeSmall l) := by unfold ofV; rw [getL_range]
  clear hl hps hA
  generalize getL rangeSmall l = vs at *
  unfold rangeSmall at HG
  have HBX := Lib.hid hbx
  have HV := Lib.hid hV
  clear hbx hV
  go_enter Tryz.func43, Tryz.ntmps43
  go_wp2_with fail
  generalize w.alloc (.cells #[.int .i64 0, .int .i64 0, .int .i64 0] 66) = W at *
  refine HG.out.mono ?_
  rintro e w1 ⟨A2, c2, rfl, hS, hb⟩
  have hx1 := (hb.block _ (Array.getElem?_eq_some_iff.1 hx).1).trans hx
  have HB := Lib.hid (HBX.out.trans (hb.mono HBX.out.size))
  have o0 := (Lib.cell_of_heap hx1 (j := 0))
  have o1 := (Lib.cell_of_heap hx1 (j := 1))
  have o2 := (Lib.cell_of_heap hx1 (j := 2))
  have of := fun i => Lib.frozen_of_heap hx1 i
  simp at o0 o1 o2
  have hz0 : w.heap.size < w1.heap.size := lt_of_cell o0
  have HS := Lib.hid hS
  have HX1 := Lib.hid hx1
  clear hx hx1 hb hS HG HBX
  by_cases h1 : vs.length = 1
  · obtain ⟨v, rfl⟩ : ∃ v, vs = [v] := List.length_eq_one_iff.1 h1
    have HC := Lib.hid (fun w => rContent24_any v w (hval v (by simp)))
    rw [conV_T] at HC
    have HV2 : Hid (ofV l = .tuple #[.agg #[.int .i64 (conT v.data.toList).1, .int .i64 (conT v.data.toList).2.1, .int .i64 (conT v.data.toList).2.2.1], .bool ((conT v.data.toList).2.2.2 == 0)]) := Lib.hid HV.out
    generalize (conT v.data.toList).1 = a at *
    generalize (conT v.data.toList).2.1 = b at *
    generalize (conT v.data.toList).2.2.1 = d at *
    generalize (conT v.data.toList).2.2.2 = code at *
    rcases HS.out with hnil | ⟨g, off, rfl, hg, hcs⟩
    · simp at hnil
    have d0 : w1.cell? ⟨g, off, none⟩ = some (.string v) := by have := hcs 0 (by simp); simpa using this
    clear hcs hval h1 HS
    simp only [List.length_cons, List.length_nil, Nat.zero_add]
    go_wp2_with fail
    refine (HC.out _).mono ?_
    rintro e w2 ⟨rfl, hb2⟩
    have hx2 := (hb2.block _ hz0).trans HX1.out
    have HB2 := Lib.hid ((HB.out.trans (hb2.mono HB.out.size)).alloc (by have := HB.out.size; have := hb2.size; omega) (.cells #[.int .i64 a, .int .i64 b, .int .i64 d] 66))
    have hx3 : (w2.alloc (.cells #[.int .i64 a, .int .i64 b, .int .i64 d] 66)).heap[w.heap.size]? = some (.cells #[.int .i64 0, .int .i64 0, .int .i64 0] 66 (0, 0)) := (Below.heap_alloc _ _ _ (Nat.lt_of_lt_of_le hz0 hb2.size)).trans hx2
    have hx4 : (w2.alloc (.cells #[.int .i64 a, .int .i64 b, .int .i64 d] 66)).heap[w2.heap.size]? = some (.cells #[.int .i64 a, .int .i64 b, .int .i64 d] 66 (0, 0)) := heap_alloc_new w2 _
    go_upto_region 5 with fail
    generalize w2.heap.size = P at *
    generalize w2.alloc (.cells #[.int .i64 a, .int .i64 b, .int .i64 d] 66) = W2 at *
    clear o0 o1 o2 of hz0 hx2 hb2 d0
    have o0 := (Lib.cell_of_heap hx3 (j := 0))
    have o1 := (Lib.cell_of_heap hx3 (j := 1))
    have o2 := (Lib.cell_of_heap hx3 (j := 2))
    have p0 := (Lib.cell_of_heap hx4 (j := 0))
    have p1 := (Lib.cell_of_heap hx4 (j := 1))
    have p2 := (Lib.cell_of_heap hx4 (j := 2))
    have of := fun i => Lib.frozen_of_heap hx3 i
    simp at o0 o1 o2 p0 p1 p2
    have hz0 : w.heap.size < W2.heap.size := lt_of_cell o0
    clear hx3 hx4
    go_wp2_with fail
    refine bodyPost_ret (v := (.tuple #[.agg #[.int .i64 a, .int .i64 b, .int .i64 d], .bool (code == 0)])) ?_ rfl ⟨by rw [HV2.out], ((HB2.out.setCell (by simp) _).setCell (by simp) _).setCell (by simp) _⟩
    simp [results, Tryz.results43, go_sem, o0, o1, o2, hz0]
  · have HV2 : Hid (ofV l = .tuple #[.agg #[.int .i64 0, .int .i64 0, .int .i64 0], .bool false]) := Lib.hid (by rw [HV.out, ofW_not h1])
    have h1i : ((vs.length : Int) == 1) = false := beq_eq_false_iff_ne.2 (by omega)
    clear hval h1 HS
    generalize vs.length = n at *
    go_wp2_with fail
    refine bodyPost_ret (v := (.tuple #[.agg #[.int .i64 0, .int .i64 0, .int .i64 0], .bool false])) ?_ rfl ⟨by rw [HV2.out], ((HB.out.setCell (by simp) _).setCell (by simp) _).setCell (by simp) _⟩
    simp [results, Tryz.results43, go_sem, o0, o1, o2, hz0]

end Go.Proofs.YtcbhkcdphbffpaaGreatDoor

namespace Go.Proofs.YtcbhkcdphbffpaaGreatDoor
open Go.RowKit
set_option linter.unusedSimpArgs false
set_option linter.unusedVariables false

end Go.Proofs.YtcbhkcdphbffpaaGreatDoor

namespace Go.Proofs.YtcbhkcdphbffpaaGreatDoor
open Go.RowKit
set_option linter.unusedSimpArgs false
set_option linter.unusedVariables false

/-- A response. -/
def repV (st : Int) (A : Option Addr) (n c : Nat) : Value := .agg #[.int .i64 st, .slice A n c]
def repO (st : Int) (A : Option Addr) (n c : Nat) : Obj := .cells #[.int .i64 st, .slice A n c] 26 (0, 0)

theorem rep_cells {w : World} {g : Nat} {st : Int} {A : Option Addr} {n c : Nat} (h : w.heap[g]? = some (repO st A n c)) :
    w.cell? ⟨g, 0, none⟩ = some (.int .i64 st) ∧ w.cell? ⟨g, 1, none⟩ = some (.slice A n c) ∧ (∀ i, w.frozen? ⟨g, i, none⟩ = false) ∧ g < w.heap.size := by
  refine ⟨?_, ?_, ?_, (Array.getElem?_eq_some_iff.1 h).1⟩
  · rw [Lib.cell_of_heap h]; rfl
  · rw [Lib.cell_of_heap h]; rfl
  · exact fun i => Lib.frozen_of_heap h i

theorem rep_set {w : World} {g : Nat} {st : Int} {A A2 : Option Addr} {n c n2 c2 : Nat} (h : w.heap[g]? = some (repO st A n c)) : (w.setCell ⟨g, 1, none⟩ (.slice A2 n2 c2)).heap[g]? = some (repO st A2 n2 c2) := by
  simp [World.setCell, Array.getElem?_modify, h, repO]

/-- Headers that are few and not long. -/
structure FewR (l : Pars) : Prop where
  n : l.length ≤ 10
  p : ∀ p ∈ l, p.1.length ≤ 1000 ∧ p.2.length ≤ 100

theorem fewHs_fewR (l : Pars) : FewR (fewHs 8 l) := by
  obtain ⟨h1, h2⟩ := fewHs_sizes 8 l
  exact ⟨Nat.le_trans h1 (by omega), fun p hp => ⟨Nat.le_trans (h2 p hp).1 (by omega), (h2 p hp).2⟩⟩

theorem fewR_big {l : Pars} (h : FewR l) : ∀ p ∈ l, (bt p.1).size ≤ maxLen ∧ (bt p.2).size ≤ maxLen := fun p hp => by
  have := h.p p hp
  rw [bt_size, bt_size]
  unfold maxLen
  omega

theorem ParsAt.put1 {w : World} {B : Nat} {A : Option Addr} {l : Pars} (h : ParsAt w B A l) {p : Addr} (hp : ∀ g, A = some ⟨g, 0, none⟩ → p.block ≠ g) (u : Value) : ParsAt (w.setCell p u) B A l := by
  rcases h with h | ⟨g, hA, hg, hcs⟩
  · exact .inl h
  · refine .inr ⟨g, hA, hg, fun i hi => ?_⟩
    obtain ⟨h1, h2⟩ := hcs i hi
    exact ⟨by rw [World.cell?_setCell_far _ _ _ _ (hp g hA)]; exact h1, by rw [World.cell?_setCell_far _ _ _ _ (hp g hA)]; exact h2⟩

set_option maxHeartbeats 1000000 in
set_option maxRecDepth 20000 in
theorem Few30_any (st : Int) (l : Pars) (A : Option Addr) (c : Nat) (w : World) (hlm : l.length ≤ maxLen) (hps : ∀ p ∈ l, (bt p.1).size ≤ maxLen ∧ (bt p.2).size ≤ maxLen) (hA : ParsIn w w.heap.size A l) :
    Calls Tryz.prog 7 #[repV st A l.length c] w fun e w' => ∃ A2 c2, e = .returned (repV st A2 (fewHs 8 l).length c2) ∧ ParsAt w' w'.heap.size A2 (fewHs 8 l) ∧ Below w.heap.size w w' ∧ ∀ g, A2 = some ⟨g, 0, none⟩ → w.heap.size < g := by
  have HF := Lib.hid (fun (w1 : World) (hb : Below w.heap.size w w1) => Few22_own l 8 A c w1 (by decide) hlm hps (hA.on hb))
  generalize fewHs 8 l = L at *
  unfold repV
  clear hlm hps hA
  have hP : ((w.alloc (.cells #[.int .i64 st, .slice A l.length c] 26)).alloc (.cells #[.int .i64 0, .slice none 0 0] 26)).heap[w.heap.size]? = some (repO st A l.length c) := (Below.heap_alloc _ _ _ (by simp)).trans (heap_alloc_new w _)
  have hQ : ((w.alloc (.cells #[.int .i64 st, .slice A l.length c] 26)).alloc (.cells #[.int .i64 0, .slice none 0 0] 26)).heap[w.heap.size + 1]? = some (repO 0 none 0 0) := by
    rw [show w.heap.size + 1 = (w.alloc (.cells #[.int .i64 st, .slice A l.length c] 26)).heap.size by simp]
    exact heap_alloc_new _ _
  have hb : Below w.heap.size w ((w.alloc (.cells #[.int .i64 st, .slice A l.length c] 26)).alloc (.cells #[.int .i64 0, .slice none 0 0] 26)) := (below_box _ _).alloc (by simp) _
  go_enter Tryz.func7, Tryz.ntmps7
  go_upto_region 1 with fail
  generalize (w.alloc (.cells #[.int .i64 st, .slice A l.length c] 26)).alloc (.cells #[.int .i64 0, .slice none 0 0] 26) = W at *
  obtain ⟨p0, p1, pf, pz⟩ := rep_cells hP
  go_wp2_with fail
  refine (HF.out W hb).mono ?_
  rintro e w1 ⟨A2, c2, rfl, hA2, hbn, hf⟩
  have hf : ∀ g, A2 = some ⟨g, 0, none⟩ → w.heap.size + 1 < g := fun g hg => by have h1 := hf g hg; have h2 := (Array.getElem?_eq_some_iff.1 hQ).1; omega
  clear p0 p1 pf
  replace hP := (hbn.block _ pz).trans hP
  replace hQ := (hbn.block _ (Array.getElem?_eq_some_iff.1 hQ).1).trans hQ
  have HB := Lib.hid (hb.trans (hbn.mono hb.size))
  have HA2 := Lib.hid hA2
  have HFR := Lib.hid hf
  clear hbn hA2 hf hb pz HF
  obtain ⟨p0, p1, pf, pz⟩ := rep_cells hP
  obtain ⟨q0, q1, qf, qz⟩ := rep_cells hQ
  clear hP hQ
  go_wp2_with fail
  refine bodyPost_ret (v := .agg #[.int .i64 st, .slice A2 L.length c2]) ?_ rfl ?_
  · simp [results, Tryz.results7, go_sem, p0, p1, q0, q1]
  · have h1 : ∀ g, A2 = some ⟨g, 0, none⟩ → w.heap.size ≠ g := fun g hg => by have := HFR.out g hg; omega
    have h2 : ∀ g, A2 = some ⟨g, 0, none⟩ → w.heap.size + 1 ≠ g := fun g hg => by have := HFR.out g hg; omega
    refine ⟨A2, c2, rfl, ?_, ?_, fun g hg => by have := HFR.out g hg; omega⟩
    · exact (((HA2.out.put1 h1 _).put1 h2 _).put1 h2 _).more (by simp)
    · exact ((HB.out.setCell (show w.heap.size ≤ w.heap.size by omega) _).setCell (show w.heap.size ≤ w.heap.size + 1 by omega) _).setCell (show w.heap.size ≤ w.heap.size + 1 by omega) _

/-- Whether a part begins at 0. -/
def firstW : List ByteArray → Bool
  | [v] => ((conT v.data.toList).2.2.2 == 0) && ((conT v.data.toList).1 == 0)
  | _ => false

def firstL (l : Pars) : Bool := firstW (getL rangeName l)

theorem ofW_form (vs : List ByteArray) : ∃ (f t s : Int) (ok : Bool), ofW vs = .tuple #[.agg #[.int .i64 f, .int .i64 t, .int .i64 s], .bool ok] ∧ firstW vs = (ok && (f == 0)) := by
  match vs with
  | [] => exact ⟨0, 0, 0, false, rfl, rfl⟩
  | [v] => exact ⟨_, _, _, _, rfl, rfl⟩
  | _ :: _ :: _ => exact ⟨0, 0, 0, false, rfl, rfl⟩

theorem ofV_form (l : Pars) : ∃ (f t s : Int) (ok : Bool), ofV l = .tuple #[.agg #[.int .i64 f, .int .i64 t, .int .i64 s], .bool ok] ∧ firstL l = (ok && (f == 0)) := ofW_form _

set_option maxHeartbeats 1000000 in
theorem first30_any (st : Int) (l : Pars) (A : Option Addr) (c : Nat) (w : World) (hl : FewR l) (hA : ParsIn w w.heap.size A l) :
    Calls Tryz.prog 32 #[repV st A l.length c] w fun e w' => e = .returned (.bool (firstL l)) ∧ Below w.heap.size w w' := by
  have HO := Lib.hid (fun (w1 : World) (hb : Below w.heap.size w w1) => Of_any l A c w1 (Nat.le_trans hl.n (by omega)) (fun p hp => ⟨(hl.p p hp).1, Nat.le_trans (hl.p p hp).2 (by omega)⟩) (hA.on hb))
  obtain ⟨f, t, s, ok, e1, e2⟩ := ofV_form l
  rw [e1] at HO
  rw [e2]
  unfold repV
  have hb := below_box w (.cells #[.int .i64 st, .slice A l.length c] 26)
  have hP : (w.alloc (.cells #[.int .i64 st, .slice A l.length c] 26)).heap[w.heap.size]? = some (repO st A l.length c) := heap_alloc_new w _
  clear hl hA e1 e2
  go_enter Tryz.func32, Tryz.ntmps32
  go_upto_region 1 with fail
  generalize w.alloc (.cells #[.int .i64 st, .slice A l.length c] 26) = W at *
  obtain ⟨p0, p1, pf, pz⟩ := rep_cells hP
  go_wp2_with fail
  refine (HO.out W hb).mono ?_
  rintro e w1 ⟨rfl, hbn⟩
  have HB := Lib.hid (hb.trans (hbn.mono hb.size))
  clear hbn hb hP p0 p1 pf pz HO
  cases ok
  · go_wp2_with fail
    go_ret
    exact ⟨rfl, HB.out.alloc HB.out.size _⟩
  · have HBX := Lib.hid (HB.out.alloc HB.out.size (.cells #[.int .i64 f, .int .i64 t, .int .i64 s] 66))
    go_wp2_with fail
    refine (First_rng f t s _).mono ?_
    rintro e w2 ⟨rfl, hb2⟩
    have HBZ := Lib.hid (HBX.out.trans (hb2.mono HBX.out.size))
    clear hb2
    go_wp2_with fail
    go_ret
    exact ⟨by simp, HBZ.out⟩

set_option maxHeartbeats 1000000 in
theorem rFirst30_any (st : Int) (l : Pars) (A : Option Addr) (c : Nat) (w : World) (hl : FewR l) (hA : ParsIn w w.heap.size A l) :
    Calls Tryz.prog 16 #[repV st A l.length c] w fun e w' => e = .returned (.bool (firstL l)) ∧ Below w.heap.size w w' := by
  have HO := Lib.hid (fun (w1 : World) (hb : Below w.heap.size w w1) => rOf24_any l A c w1 (Nat.le_trans hl.n (by omega)) (fun p hp => ⟨(hl.p p hp).1, Nat.le_trans (hl.p p hp).2 (by omega)⟩) (hA.on hb))
  obtain ⟨f, t, s, ok, e1, e2⟩ := ofV_form l
  rw [e1] at HO
  rw [e2]
  unfold repV
  have hb := below_box w (.cells #[.int .i64 st, .slice A l.length c] 26)
  have hP : (w.alloc (.cells #[.int .i64 st, .slice A l.length c] 26)).heap[w.heap.size]? = some (repO st A l.length c) := heap_alloc_new w _
  clear hl hA e1 e2
  go_enter Tryz.func16, Tryz.ntmps16
  go_upto_region 1 with fail
  generalize w.alloc (.cells #[.int .i64 st, .slice A l.length c] 26) = W at *
  obtain ⟨p0, p1, pf, pz⟩ := rep_cells hP
  go_wp2_with fail
  refine (HO.out W hb).mono ?_
  rintro e w1 ⟨rfl, hbn⟩
  have HB := Lib.hid (hb.trans (hbn.mono hb.size))
  clear hbn hb hP p0 p1 pf pz HO
  cases ok
  · go_wp2_with fail
    go_ret
    exact ⟨rfl, HB.out.alloc HB.out.size _⟩
  · go_wp2_with fail
    go_ret
    exact ⟨by simp, HB.out.alloc HB.out.size _⟩

theorem First30_any (st : Int) (l : Pars) (A : Option Addr) (c : Nat) (w : World) (hl : FewR l) (hA : ParsIn w w.heap.size A l) :
    Calls Tryz.prog 15 #[repV st A l.length c] w fun e w' => e = .returned (.bool (firstL l)) ∧ Below w.heap.size w w' := by
  have hb := below_box w (.cells #[.int .i64 st, .slice A l.length c] 26)
  have HO := Lib.hid (first30_any st l A c _ hl (hA.on hb))
  generalize firstL l = q at *
  unfold repV at *
  clear hl hA
  go_enter Tryz.func15, Tryz.ntmps15
  go_wp2_with fail
  refine HO.out.mono ?_
  rintro e w1 ⟨rfl, hbn⟩
  have HB := Lib.hid (hb.trans (hbn.mono hb.size))
  clear hbn hb HO
  go_wp2_with fail
  go_ret
  exact ⟨rfl, HB.out⟩

theorem partialS_any (st : Int) (w : World) : Calls Tryz.prog 52 #[.int .i64 st] w fun e w' => e = .returned (.bool (st == 206)) ∧ w = w' := by
  go_enter Tryz.func52, Tryz.ntmps52
  go_wp2_with fail
  go_ret
  exact ⟨rfl, rfl⟩

theorem partial30_any (st : Int) (A : Option Addr) (n c : Nat) (w : World) : Calls Tryz.prog 29 #[repV st A n c] w fun e w' => e = .returned (.bool (st == 206)) ∧ Below w.heap.size w w' := by
  have hb := below_box w (.cells #[.int .i64 st, .slice A n c] 26)
  have HB := Lib.hid hb
  unfold repV
  go_enter Tryz.func29, Tryz.ntmps29
  go_wp2_with fail
  refine (partialS_any st _).mono ?_
  rintro e w1 ⟨rfl, rfl⟩
  go_wp2_with fail
  go_ret
  exact ⟨rfl, HB.out⟩

theorem Partial30_any (st : Int) (A : Option Addr) (n c : Nat) (w : World) : Calls Tryz.prog 14 #[repV st A n c] w fun e w' => e = .returned (.bool (st == 206)) ∧ Below w.heap.size w w' := by
  have hb := below_box w (.cells #[.int .i64 st, .slice A n c] 26)
  have HO := Lib.hid (partial30_any st A n c (w.alloc (.cells #[.int .i64 st, .slice A n c] 26)))
  unfold repV at *
  go_enter Tryz.func14, Tryz.ntmps14
  go_wp2_with fail
  refine HO.out.mono ?_
  rintro e w1 ⟨rfl, hbn⟩
  have HB := Lib.hid (hb.trans (hbn.mono hb.size))
  clear hbn hb HO
  go_wp2_with fail
  go_ret
  exact ⟨rfl, HB.out⟩

def mayB (st : Int) (known media first : Bool) : Bool := !(st == 206) || known || (media && first)

end Go.Proofs.YtcbhkcdphbffpaaGreatDoor

namespace Go.Proofs.YtcbhkcdphbffpaaGreatDoor
open Go.RowKit
set_option linter.unusedSimpArgs false
set_option linter.unusedVariables false

theorem box_cells {w : World} {B : Nat} {a b c : Value} {t : TypeId} (h : w.heap[B]? = some (.cells #[a, b, c] t (0, 0))) : w.cell? ⟨B, 0, none⟩ = some a ∧ w.cell? ⟨B, 1, none⟩ = some b ∧ w.cell? ⟨B, 2, none⟩ = some c ∧ B < w.heap.size := by
  refine ⟨?_, ?_, ?_, (Array.getElem?_eq_some_iff.1 h).1⟩ <;> (rw [Lib.cell_of_heap h]; rfl)

end Go.Proofs.YtcbhkcdphbffpaaGreatDoor
