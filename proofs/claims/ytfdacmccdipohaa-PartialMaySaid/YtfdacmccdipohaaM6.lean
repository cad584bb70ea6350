/-
  Lemmas of this claim, part 6: the texts RangE, RangF, QuietIn, RangFit, RangG, HeadG, one behind the other.
-/
import Derived.Test.YtfdacmccdipohaaM5
import Derived.Deep.DeepCutAuto
import Derived.Deep.Slices
import Derived.Deep.AppendLies
import Derived.Laws.OwnMore
import Derived.Laws.StructEq
import Derived.Deep.RegionWith
import Derived.Deep.RegionHeld3
import Derived.Deep.Onto
import Derived.Lib.SmallJoins

namespace Go.Proofs.Ytfdacmccdipohaa
open Go.RowKit
set_option linter.unusedSimpArgs false
set_option linter.unusedVariables false

/-- What reading what comes does. -/
def ConPost (g : Nat) (l : List UInt8) (b o : Nat) (w : World) (e : Ending) (w' : World) : Prop :=
  match conL l with
  | none => (∃ a : Int, e = .panicked [{ v := faultV a 2, recovered := false }]) ∧ LostS w w' g b o
  | some (f, t, a) => e = .returned (.tuple #[]) ∧ Only (fun i => i = g ∨ i = b ∨ i = o) w w' ∧ w'.heap[b]? = some (.cells #[.int .i64 (saidE a (saidE t (saidE f 0)))] 46 (0, 0)) ∧ w'.heap[o]? = some (.cells #[.int .i64 (saidN f), .int .i64 (saidN t), .int .i64 (saidN a)] 31 (0, 0))

theorem conPost_none {g : Nat} {l : List UInt8} {b o : Nat} {w w' : World} {e : Ending} (h : conL l = none) (h1 : ∃ a : Int, e = .panicked [{ v := faultV a 2, recovered := false }]) (h2 : LostS w w' g b o) : ConPost g l b o w e w' := by
  unfold ConPost; rw [h]; exact ⟨h1, h2⟩

theorem conPost_some {g : Nat} {l f t a : List UInt8} {b o : Nat} {w w' : World} {e : Ending} (h : conL l = some (f, t, a)) (h2 : e = .returned (.tuple #[]) ∧ Only (fun i => i = g ∨ i = b ∨ i = o) w w' ∧ w'.heap[b]? = some (.cells #[.int .i64 (saidE a (saidE t (saidE f 0)))] 46 (0, 0)) ∧ w'.heap[o]? = some (.cells #[.int .i64 (saidN f), .int .i64 (saidN t), .int .i64 (saidN a)] 31 (0, 0))) : ConPost g l b o w e w' := by
  unfold ConPost; rw [h]; exact h2

theorem size_spec {l d r : List UInt8} (h : sizeL l = some (d, r)) : d.all isDigit = true ∧ d.length ≤ l.length ∧ r.length ≤ l.length := by
  cases l with
  | nil => simp [sizeL] at h
  | cons x l =>
    have e : sizeL (x :: l) = if x = 42 then some ([], l) else if isDigit x = true then some ((x :: l).takeWhile isDigit, (x :: l).dropWhile isDigit) else none := rfl
    rw [e] at h
    by_cases hx : x = 42
    · rw [if_pos hx] at h
      injection h with h
      injection h with h1 h2
      subst h1 h2
      exact ⟨rfl, Nat.zero_le _, by simp⟩
    · rw [if_neg hx] at h
      by_cases hd : isDigit x = true
      · rw [if_pos hd] at h
        injection h with h
        injection h with h1 h2
        rw [← h1, ← h2]
        exact ⟨tw_all _ _, (tw_le _ _).1, (tw_le _ _).2⟩
      · rw [if_neg hd] at h
        cases h

theorem con_store {W : World} {b o : Nat} {c x y z : Int} (hB : W.heap[b]? = some (.cells #[.int .i64 c] 46 (0, 0))) (hO : W.heap[o]? = some (.cells #[.int .i64 x, .int .i64 y, .int .i64 z] 31 (0, 0))) (hbo : b ≠ o) :
    (∀ v d : Int, ((W.setCell ⟨o, 0, none⟩ (.int .i64 v)).setCell ⟨b, 0, none⟩ (.int .i64 d)).heap[b]? = some (.cells #[.int .i64 d] 46 (0, 0)) ∧ ((W.setCell ⟨o, 0, none⟩ (.int .i64 v)).setCell ⟨b, 0, none⟩ (.int .i64 d)).heap[o]? = some (.cells #[.int .i64 v, .int .i64 y, .int .i64 z] 31 (0, 0))) ∧
    (∀ v d : Int, ((W.setCell ⟨o, 1, none⟩ (.int .i64 v)).setCell ⟨b, 0, none⟩ (.int .i64 d)).heap[b]? = some (.cells #[.int .i64 d] 46 (0, 0)) ∧ ((W.setCell ⟨o, 1, none⟩ (.int .i64 v)).setCell ⟨b, 0, none⟩ (.int .i64 d)).heap[o]? = some (.cells #[.int .i64 x, .int .i64 v, .int .i64 z] 31 (0, 0))) ∧
    (∀ v d : Int, ((W.setCell ⟨o, 2, none⟩ (.int .i64 v)).setCell ⟨b, 0, none⟩ (.int .i64 d)).heap[b]? = some (.cells #[.int .i64 d] 46 (0, 0)) ∧ ((W.setCell ⟨o, 2, none⟩ (.int .i64 v)).setCell ⟨b, 0, none⟩ (.int .i64 d)).heap[o]? = some (.cells #[.int .i64 x, .int .i64 y, .int .i64 v] 31 (0, 0))) := by
  refine ⟨?_, ?_, ?_⟩ <;> (intro v d; constructor <;> simp [World.setCell, Array.getElem?_modify, hB, hO, hbo, Ne.symm hbo])

set_option maxRecDepth 20000 in
set_option maxHeartbeats 4000000 in
theorem content1_any (g : Nat) (s : ByteArray) (l : List UInt8) (b o : Nat) (w : World) (h : Ahead g s l w) (hs : s.size ≤ 1000) (hgb : b ≠ g) (hgo : o ≠ g) (hbo : b ≠ o)
    (hcb : w.heap[b]? = some (.cells #[.int .i64 0] 46 (0, 0))) (hco : w.heap[o]? = some (.cells #[.int .i64 0, .int .i64 0, .int .i64 0] 31 (0, 0))) :
    Calls Try.prog 41 #[rdV g, .pointer (some ⟨b, 0, none⟩), .pointer (some ⟨o, 0, none⟩)] w (ConPost g l b o w) := by
  have hg := h.lt
  have hb : b < w.heap.size := (Array.getElem?_eq_some_iff.1 hcb).1
  have ho : o < w.heap.size := (Array.getElem?_eq_some_iff.1 hco).1
  have hll : l.length ≤ 1000 := by
    obtain ⟨k, hk, hl, _⟩ := h
    have := lef_len s k
    rw [hl] at this
    omega
  replace hs : s.size ≤ maxLen := by unfold maxLen; omega
  have A := Lib.hid (AskS.new (b := b) (o := o) h hb ho)
  have hR : conL l = conL l := rfl
  conv at hR => rhs; unfold conL
  have HCB := Lib.hid hcb
  have HCO := Lib.hid hco
  clear h hcb hco
  unfold rdV
  go_enter Try.func41, Try.ntmps41
  have c0 := A.out.box
  go_wp2_with fail
  (refine Calls.mono (blanks_at g s _ _ A.out.ahead hs) ?_; rintro e w' ⟨rfl, hw⟩; replace A := Lib.hid (A.out.went hw hgb hgo hb ho); clear hw c0; have c0 := A.out.box; go_wp2_with fail)
  cases hu : unitOk (l.dropWhile isTab)
  · rw [if_neg (by rw [hu]; simp)] at hR
    (have HR := Lib.hid hR; refine Calls.mono (unit_no g s _ _ A.out.ahead hs hu) ?_; rintro e w' ⟨a, rfl, hw⟩; exact ⟨rfl, conPost_none HR.out ⟨a, rfl⟩ (A.out.lost hw hgb hgo hb ho)⟩)
  rw [if_pos hu] at hR
  refine Calls.mono (unit_yes g s _ _ A.out.ahead hs hu) ?_
  rintro e w' ⟨rfl, hw⟩
  replace A := Lib.hid (A.out.went hw hgb hgo hb ho)
  clear hw c0 hu
  have c0 := A.out.box
  replace hll := dw_le isLetter (dw_le isTab hll)
  generalize (l.dropWhile isTab).dropWhile isLetter = l2 at *
  unfold con2 at hR
  go_upto_region 3 with fail
  refine wp_region_N 5 (fun w' => w'.cell? ⟨w.heap.size, 0, none⟩ = some (.pointer (some ⟨g, 0, none⟩))) (by kernel_rfl) (by kernel_rfl) c0 ?_
  have HBL := Lib.hid (fun w1 (hb : Ahead g s l2 w1) => blanks_at g s l2 w1 hb hs)
  have A1 := Lib.hid (A.out.on ((Below.refl _ _).drew) hb ho)
  by_cases ht : l2.takeWhile isTab = []
  · rw [if_pos ht] at hR
    have HR := Lib.hid hR
    rw [ht] at HBL
    have h1 := bl_empty (l := []) rfl
    clear ht hR
    generalize bl [] = E0 at *
    unfold rdV at HBL
    (refine NJ.take (i := 0) (v := ?_) rfl rfl (by kernel_rfl) (by kernel_rfl) (by kernel_rfl) (by kernel_rfl) (fun _ _ _ h => h) (Or.inl ⟨by rfl, ?_⟩) ?_; rotate_left; (focus (intro wS hSw; (try dsimp only at hSw); go_simp; first | done | with_reducible rfl)); (try simp only [Act.put, List.getElem_toArray, List.getElem_cons_zero, List.getElem_cons_succ, List.setIfInBounds_toArray, List.set_cons_zero, List.set_cons_succ]))
    (refine NJ.take (i := 1) (v := ?_) rfl rfl (by kernel_rfl) (by kernel_rfl) (by kernel_rfl) (by kernel_rfl) (fun _ _ _ h => h) (Or.inl ⟨by rfl, ?_⟩) ?_; rotate_left; (focus (intro wS hSw; (try dsimp only at hSw); go_simp; first | done | with_reducible rfl)); (try simp only [Act.put, List.getElem_toArray, List.getElem_cons_zero, List.getElem_cons_succ, List.setIfInBounds_toArray, List.set_cons_zero, List.set_cons_succ]))
    refine NJ.step (i := 2) rfl rfl (by kernel_rfl) (fun hSat K hK => ?_)
    go_simp
    refine Calls.mono (HBL.out _ A1.out.ahead) ?_
    rintro e w' ⟨rfl, hw⟩
    replace A1 := Lib.hid (A1.out.went hw hgb hgo hb ho)
    go_wp2_with fail
    refine hK.out _ _ A1.out.box ?_
    clear hK hSat K hw
    (try simp only [Act.put, List.getElem_toArray, List.getElem_cons_zero, List.getElem_cons_succ, List.setIfInBounds_toArray, List.set_cons_zero, List.set_cons_succ])
    (refine NJ.take (i := 3) (v := ?_) rfl rfl (by kernel_rfl) (by kernel_rfl) (by kernel_rfl) (by kernel_rfl) (fun _ _ _ h => h) (Or.inl ⟨by rfl, ?_⟩) ?_; rotate_left; (focus (intro wS hSw; (try dsimp only at hSw); go_simp; first | done | with_reducible rfl)); (try simp only [Act.put, List.getElem_toArray, List.getElem_cons_zero, List.getElem_cons_succ, List.setIfInBounds_toArray, List.set_cons_zero, List.set_cons_succ]))
    refine NJ.step (i := 4) rfl rfl (by kernel_rfl) (fun hSat K hK => ?_)
    go_simp
    refine Calls.mono (need_no g s _ _ A1.out.ahead) ?_
    rintro e w' ⟨a, rfl, hw⟩
    exact ⟨rfl, conPost_none HR.out ⟨a, rfl⟩ (A1.out.lost hw hgb hgo hb ho)⟩
  rw [if_neg ht] at hR
  have h1 := bl_full ht
  clear ht
  generalize bl (l2.takeWhile isTab) = E0 at *
  unfold rdV at HBL
  (refine NJ.take (i := 0) (v := ?_) rfl rfl (by kernel_rfl) (by kernel_rfl) (by kernel_rfl) (by kernel_rfl) (fun _ _ _ h => h) (Or.inl ⟨by rfl, ?_⟩) ?_; rotate_left; (focus (intro wS hSw; (try dsimp only at hSw); go_simp; first | done | with_reducible rfl)); (try simp only [Act.put, List.getElem_toArray, List.getElem_cons_zero, List.getElem_cons_succ, List.setIfInBounds_toArray, List.set_cons_zero, List.set_cons_succ]))
  (refine NJ.take (i := 1) (v := ?_) rfl rfl (by kernel_rfl) (by kernel_rfl) (by kernel_rfl) (by kernel_rfl) (fun _ _ _ h => h) (Or.inl ⟨by rfl, ?_⟩) ?_; rotate_left; (focus (intro wS hSw; (try dsimp only at hSw); go_simp; first | done | with_reducible rfl)); (try simp only [Act.put, List.getElem_toArray, List.getElem_cons_zero, List.getElem_cons_succ, List.setIfInBounds_toArray, List.set_cons_zero, List.set_cons_succ]))
  refine NJ.step (i := 2) rfl rfl (by kernel_rfl) (fun hSat K hK => ?_)
  go_simp
  refine Calls.mono (HBL.out _ A1.out.ahead) ?_
  rintro e w' ⟨rfl, hw⟩
  replace A1 := Lib.hid (A1.out.went hw hgb hgo hb ho)
  go_wp2_with fail
  refine hK.out _ _ A1.out.box ?_
  clear hK hSat K hw
  (try simp only [Act.put, List.getElem_toArray, List.getElem_cons_zero, List.getElem_cons_succ, List.setIfInBounds_toArray, List.set_cons_zero, List.set_cons_succ])
  (refine NJ.take (i := 3) (v := ?_) rfl rfl (by kernel_rfl) (by kernel_rfl) (by kernel_rfl) (by kernel_rfl) (fun _ _ _ h => h) (Or.inl ⟨by rfl, ?_⟩) ?_; rotate_left; (focus (intro wS hSw; (try dsimp only at hSw); go_simp; first | done | with_reducible rfl)); (try simp only [Act.put, List.getElem_toArray, List.getElem_cons_zero, List.getElem_cons_succ, List.setIfInBounds_toArray, List.set_cons_zero, List.set_cons_succ]))
  refine NJ.step (i := 4) rfl rfl (by kernel_rfl) (fun hSat K hK => ?_)
  go_simp
  refine Calls.mono (need_yes g s _ _ A1.out.ahead) ?_
  rintro e w' ⟨rfl, hw⟩
  replace A1 := Lib.hid (A1.out.on hw hb ho)
  go_wp2_with fail
  refine hK.out _ _ A1.out.box ?_
  clear hK hSat K hw
  (try simp only [Act.put, List.getElem_toArray, List.getElem_cons_zero, List.getElem_cons_succ, List.setIfInBounds_toArray, List.set_cons_zero, List.set_cons_succ])
  refine NJ.done (by kernel_rfl) (fun hSat => ?_)
  clear hSat A c0 HBL
  have A := A1
  clear A1
  have c0 := A.out.box
  replace hll := dw_le isTab hll
  generalize l2.dropWhile isTab = l3 at *
  unfold con3 at hR
  go_wp2_with fail
  cases hu : signOk 42 l3
  case true =>
    rw [if_pos hu] at hR
    have HSK := Lib.hid (skip_both 42 g s l3 _ A.out.ahead hs)
    rw [hu, if_pos rfl] at HSK
    refine Calls.mono HSK.out ?_
    rintro e w' ⟨rfl, hw⟩
    replace A := Lib.hid (A.out.went hw hgb hgo hb ho)
    clear hw c0 hu HSK
    have c0 := A.out.box
    replace hll := tl_le hll
    generalize l3.tail = l4 at *
    unfold con6 at hR
    have hfl : ([] : List UInt8).length ≤ 1000 := by decide
    have htl : ([] : List UInt8).length ≤ 1000 := by decide
    have hfa : ([] : List UInt8).all isDigit = true := rfl
    have hta : ([] : List UInt8).all isDigit = true := rfl
    go_wp2_with fail
    cases hu : signOk 47 l4
    · rw [if_neg (by rw [hu]; simp)] at hR
      (have HR := Lib.hid hR; refine Calls.mono (sign_no 47 g s _ _ A.out.ahead hs hu) ?_; rintro e w' ⟨a, rfl, hw⟩; exact ⟨rfl, conPost_none HR.out ⟨a, rfl⟩ (A.out.lost hw hgb hgo hb ho)⟩)
    rw [if_pos hu] at hR
    (refine Calls.mono (sign_yes 47 g s _ _ A.out.ahead hs hu) ?_; rintro e w' ⟨rfl, hw⟩; replace A := Lib.hid (A.out.went hw hgb hgo hb ho); clear hw c0; have c0 := A.out.box; go_wp2_with fail)
    clear hu
    replace hll := tl_le hll
    generalize l4.tail = l5 at *
    cases hz : sizeL l5 with
    | none =>
      rw [hz] at hR
      (have HR := Lib.hid (hR.trans rfl : _ = none); refine Calls.mono (size_any g s l5 _ A.out.ahead hs) ?_; rintro e w' hp; unfold SizePost at hp; rw [hz] at hp; obtain ⟨a, rfl, hw⟩ := hp; exact ⟨rfl, conPost_none HR.out ⟨a, rfl⟩ (A.out.lost hw hgb hgo hb ho)⟩)
    | some q =>
      obtain ⟨a, l6⟩ := q
      have hza := size_spec hz
      (refine Calls.mono (size_any g s l5 _ A.out.ahead hs) ?_; rintro e w' hp; unfold SizePost at hp; rw [hz] at hp; obtain ⟨rfl, hw⟩ := hp; replace A := Lib.hid (A.out.went hw hgb hgo hb ho); clear hw c0; have c0 := A.out.box)
      rw [hz] at hR
      replace hR : conL l = if a = [] ∧ true = true then none else if l6.dropWhile isTab = [] then some ([], [], a) else none := hR
      have hal := Nat.le_trans hza.2.1 hll
      have haa := hza.1
      clear hz
      by_cases ha : a = []
      · rw [if_pos ⟨ha, rfl⟩] at hR
        subst ha
        have h1 := bl_empty (l := []) rfl
        have h2 := bl_empty (l := []) rfl
        go_wp2_with fail
        (have HR := Lib.hid hR; refine Calls.mono (need_no g s _ _ A.out.ahead) ?_; rintro e w' ⟨a, rfl, hw⟩; exact ⟨rfl, conPost_none HR.out ⟨a, rfl⟩ (A.out.lost hw hgb hgo hb ho)⟩)
      · have h1 := bl_full ha
        rw [if_neg (by simp [ha])] at hR
        go_wp2_with fail
        (refine Calls.mono (need_yes g s _ _ A.out.ahead) ?_; rintro e w' ⟨rfl, hw⟩; replace A := Lib.hid (A.out.on hw hb ho); clear hw c0; have c0 := A.out.box; go_wp2_with fail)
        (refine Calls.mono (blanks_at g s _ _ A.out.ahead hs) ?_; rintro e w' ⟨rfl, hw⟩; replace A := Lib.hid (A.out.went hw hgb hgo hb ho); clear hw c0; have c0 := A.out.box; go_wp2_with fail)
        generalize l6.dropWhile isTab = l7 at *
        by_cases hu : l7 = []
        case neg =>
          rw [if_neg hu] at hR
          (have HR := Lib.hid hR; refine Calls.mono (end_no g s _ _ A.out.ahead hs hu) ?_; rintro e w' ⟨a, rfl, hw⟩; exact ⟨rfl, conPost_none HR.out ⟨a, rfl⟩ (A.out.lost hw hgb hgo hb ho)⟩)
        rw [if_pos hu] at hR
        refine Calls.mono (end_yes g s _ _ A.out.ahead hs hu) ?_
        rintro e w' ⟨rfl, hw⟩
        replace A := Lib.hid (A.out.went hw hgb hgo hb ho)
        clear hw c0 hu
        have HSF := Lib.hid (fun w => said_any [] 0 w hfl hfa)
        have HST := Lib.hid (fun w => said_any [] (saidE [] 0) w htl hta)
        have HSA := Lib.hid (fun w => said_any a (saidE [] (saidE [] 0)) w hal haa)
        rw [show bl [] = ⟨#[]⟩ from rfl] at HSF HST
        have hB := A.out.cb.trans HCB.out
        have hO := A.out.co.trans HCO.out
        have b0 := (Lib.cell_of_heap hB (j := 0))
        have o0 := (Lib.cell_of_heap hO (j := 0))
        have o1 := (Lib.cell_of_heap hO (j := 1))
        have o2 := (Lib.cell_of_heap hO (j := 2))
        have bf := fun i => Lib.frozen_of_heap hB i
        have of := fun i => Lib.frozen_of_heap hO i
        simp at b0 o0 o1 o2
        generalize hef : saidE [] 0 = ef at *
        generalize het : saidE [] ef = et at *
        generalize hea : saidE a et = ea at *
        generalize hnf : saidN [] = nf at *
        generalize hna : saidN a = na at *
        have HE := Lib.hid (And.intro hef (And.intro het (And.intro hea (And.intro hnf hna))))
        have HR := Lib.hid hR
        clear hef het hea hnf  hna hR
        generalize bl a = AT at *
        have hL := A.out.only
        clear A
        go_upto_region 18 with (go_at_call 49; (with_reducible refine Calls.mono (HSF.out _) ?_); rintro e w' ⟨rfl, rfl⟩)
        obtain ⟨hB2, hO2⟩ := (con_store hB hO hbo).1 nf ef
        have hL2 := (hL.setCell (q := ⟨o, 0, none⟩) (.inl (.inr (.inr rfl))) (.int .i64 nf)).setCell (q := ⟨b, 0, none⟩) (.inl (.inr (.inl rfl))) (.int .i64 ef)
        generalize (w'.setCell ⟨o, 0, none⟩ (.int .i64 nf)).setCell ⟨b, 0, none⟩ (.int .i64 ef) = W0 at *
        clear b0 o0 o1 o2 bf of hL hB hO
        have hB := hB2
        have hO := hO2
        have hL := hL2
        clear hB2 hO2 hL2
        have b0 := (Lib.cell_of_heap hB (j := 0))
        have o0 := (Lib.cell_of_heap hO (j := 0))
        have o1 := (Lib.cell_of_heap hO (j := 1))
        have o2 := (Lib.cell_of_heap hO (j := 2))
        have bf := fun i => Lib.frozen_of_heap hB i
        have of := fun i => Lib.frozen_of_heap hO i
        simp at b0 o0 o1 o2
        go_upto_region 19 with (go_at_call 49; (with_reducible refine Calls.mono (HST.out _) ?_); rintro e w' ⟨rfl, rfl⟩)
        obtain ⟨hB2, hO2⟩ := (con_store hB hO hbo).2.1 nf et
        have hL2 := (hL.setCell (q := ⟨o, 1, none⟩) (.inl (.inr (.inr rfl))) (.int .i64 nf)).setCell (q := ⟨b, 0, none⟩) (.inl (.inr (.inl rfl))) (.int .i64 et)
        generalize (W0.setCell ⟨o, 1, none⟩ (.int .i64 nf)).setCell ⟨b, 0, none⟩ (.int .i64 et) = W1 at *
        clear b0 o0 o1 o2 bf of hL hB hO
        have hB := hB2
        have hO := hO2
        have hL := hL2
        clear hB2 hO2 hL2
        have b0 := (Lib.cell_of_heap hB (j := 0))
        have o0 := (Lib.cell_of_heap hO (j := 0))
        have o1 := (Lib.cell_of_heap hO (j := 1))
        have o2 := (Lib.cell_of_heap hO (j := 2))
        have bf := fun i => Lib.frozen_of_heap hB i
        have of := fun i => Lib.frozen_of_heap hO i
        simp at b0 o0 o1 o2
        go_wp2_with (go_at_call 49; (with_reducible refine Calls.mono (HSA.out _) ?_); rintro e w' ⟨rfl, rfl⟩)
        go_end0
        obtain ⟨e1, e2, e3, e4, e6⟩ := HE.out
        obtain ⟨hB2, hO2⟩ := (con_store hB hO hbo).2.2 na ea
        refine conPost_some HR.out ⟨rfl, (hL.setCell (.inl (.inr (.inr rfl))) _).setCell (.inl (.inr (.inl rfl))) _, ?_, ?_⟩
        · rw [e1, e2, e3]
          exact hB2
        · rw [e4, e6]
          exact hO2
  case false =>
    rw [if_neg (by rw [hu]; simp)] at hR
    have HSK := Lib.hid (skip_both 42 g s l3 _ A.out.ahead hs)
    rw [hu, if_neg (by simp)] at HSK
    refine Calls.mono HSK.out ?_
    rintro e w' ⟨rfl, hw⟩
    replace A := Lib.hid (A.out.went hw hgb hgo hb ho)
    clear hw c0 hu HSK
    have c0 := A.out.box
    go_wp2_with fail
    cases hz : sizeL l3 with
    | none =>
      rw [hz] at hR
      (have HR := Lib.hid (hR.trans rfl : _ = none); refine Calls.mono (size_any g s l3 _ A.out.ahead hs) ?_; rintro e w' hp; unfold SizePost at hp; rw [hz] at hp; obtain ⟨a, rfl, hw⟩ := hp; exact ⟨rfl, conPost_none HR.out ⟨a, rfl⟩ (A.out.lost hw hgb hgo hb ho)⟩)
    | some q =>
      obtain ⟨f, l4⟩ := q
      have hza := size_spec hz
      (refine Calls.mono (size_any g s l3 _ A.out.ahead hs) ?_; rintro e w' hp; unfold SizePost at hp; rw [hz] at hp; obtain ⟨rfl, hw⟩ := hp; replace A := Lib.hid (A.out.went hw hgb hgo hb ho); clear hw c0; have c0 := A.out.box)
      rw [hz] at hR
      replace hR : conL l = if f = [] then none else if signOk 45 l4 = true then con5 f (sizeL l4.tail) else none := hR
      have hfl := Nat.le_trans hza.2.1 hll
      have hfa := hza.1
      replace hll := Nat.le_trans hza.2.2 hll
      clear hz hza
      by_cases hf : f = []
      · rw [if_pos hf] at hR
        subst hf
        have h1 := bl_empty (l := []) rfl
        go_wp2_with fail
        (have HR := Lib.hid hR; refine Calls.mono (need_no g s _ _ A.out.ahead) ?_; rintro e w' ⟨a, rfl, hw⟩; exact ⟨rfl, conPost_none HR.out ⟨a, rfl⟩ (A.out.lost hw hgb hgo hb ho)⟩)
      rw [if_neg hf] at hR
      have h1 := bl_full hf
      go_wp2_with fail
      (refine Calls.mono (need_yes g s _ _ A.out.ahead) ?_; rintro e w' ⟨rfl, hw⟩; replace A := Lib.hid (A.out.on hw hb ho); clear hw c0; have c0 := A.out.box; go_wp2_with fail)
      cases hu : signOk 45 l4
      · rw [if_neg (by rw [hu]; simp)] at hR
        (have HR := Lib.hid hR; refine Calls.mono (sign_no 45 g s _ _ A.out.ahead hs hu) ?_; rintro e w' ⟨a, rfl, hw⟩; exact ⟨rfl, conPost_none HR.out ⟨a, rfl⟩ (A.out.lost hw hgb hgo hb ho)⟩)
      rw [if_pos hu] at hR
      (refine Calls.mono (sign_yes 45 g s _ _ A.out.ahead hs hu) ?_; rintro e w' ⟨rfl, hw⟩; replace A := Lib.hid (A.out.went hw hgb hgo hb ho); clear hw c0; have c0 := A.out.box; go_wp2_with fail)
      clear hu
      replace hll := tl_le hll
      generalize l4.tail = l5 at *
      cases hz : sizeL l5 with
      | none =>
        rw [hz] at hR
        (have HR := Lib.hid (hR.trans rfl : _ = none); refine Calls.mono (size_any g s l5 _ A.out.ahead hs) ?_; rintro e w' hp; unfold SizePost at hp; rw [hz] at hp; obtain ⟨a, rfl, hw⟩ := hp; exact ⟨rfl, conPost_none HR.out ⟨a, rfl⟩ (A.out.lost hw hgb hgo hb ho)⟩)
      | some q =>
        obtain ⟨t, l6⟩ := q
        have hza := size_spec hz
        (refine Calls.mono (size_any g s l5 _ A.out.ahead hs) ?_; rintro e w' hp; unfold SizePost at hp; rw [hz] at hp; obtain ⟨rfl, hw⟩ := hp; replace A := Lib.hid (A.out.went hw hgb hgo hb ho); clear hw c0; have c0 := A.out.box)
        rw [hz] at hR
        replace hR : conL l = if t = [] then none else con6 f t false l6 := hR
        have htl := Nat.le_trans hza.2.1 hll
        have hta := hza.1
        replace hll := Nat.le_trans hza.2.2 hll
        clear hz hza
        by_cases ht : t = []
        · rw [if_pos ht] at hR
          subst ht
          have h2 := bl_empty (l := []) rfl
          go_wp2_with fail
          (have HR := Lib.hid hR; refine Calls.mono (need_no g s _ _ A.out.ahead) ?_; rintro e w' ⟨a, rfl, hw⟩; exact ⟨rfl, conPost_none HR.out ⟨a, rfl⟩ (A.out.lost hw hgb hgo hb ho)⟩)
        rw [if_neg ht] at hR
        have h2 := bl_full ht
        go_wp2_with fail
        (refine Calls.mono (need_yes g s _ _ A.out.ahead) ?_; rintro e w' ⟨rfl, hw⟩; replace A := Lib.hid (A.out.on hw hb ho); clear hw c0; have c0 := A.out.box; go_wp2_with fail)
        unfold con6 at hR
        clear hf ht h1 h2
        clear l3 l4 l5
        generalize l6 = l4 at *
        cases hu : signOk 47 l4
        · rw [if_neg (by rw [hu]; simp)] at hR
          (have HR := Lib.hid hR; refine Calls.mono (sign_no 47 g s _ _ A.out.ahead hs hu) ?_; rintro e w' ⟨a, rfl, hw⟩; exact ⟨rfl, conPost_none HR.out ⟨a, rfl⟩ (A.out.lost hw hgb hgo hb ho)⟩)
        rw [if_pos hu] at hR
        (refine Calls.mono (sign_yes 47 g s _ _ A.out.ahead hs hu) ?_; rintro e w' ⟨rfl, hw⟩; replace A := Lib.hid (A.out.went hw hgb hgo hb ho); clear hw c0; have c0 := A.out.box; go_wp2_with fail)
        clear hu
        replace hll := tl_le hll
        generalize l4.tail = l5 at *
        cases hz : sizeL l5 with
        | none =>
          rw [hz] at hR
          (have HR := Lib.hid (hR.trans rfl : _ = none); refine Calls.mono (size_any g s l5 _ A.out.ahead hs) ?_; rintro e w' hp; unfold SizePost at hp; rw [hz] at hp; obtain ⟨a, rfl, hw⟩ := hp; exact ⟨rfl, conPost_none HR.out ⟨a, rfl⟩ (A.out.lost hw hgb hgo hb ho)⟩)
        | some q =>
          obtain ⟨a, l6⟩ := q
          have hza := size_spec hz
          (refine Calls.mono (size_any g s l5 _ A.out.ahead hs) ?_; rintro e w' hp; unfold SizePost at hp; rw [hz] at hp; obtain ⟨rfl, hw⟩ := hp; replace A := Lib.hid (A.out.went hw hgb hgo hb ho); clear hw c0; have c0 := A.out.box)
          rw [hz] at hR
          replace hR : conL l = if a = [] ∧ false = true then none else if l6.dropWhile isTab = [] then some (f, t, a) else none := hR
          have hal := Nat.le_trans hza.2.1 hll
          have haa := hza.1
          clear hz
          by_cases ha : a = []
          · subst ha
            have h1 := bl_empty (l := []) rfl
            rw [if_neg (by simp)] at hR
            go_wp2_with fail
            (refine Calls.mono (need_yes g s _ _ A.out.ahead) ?_; rintro e w' ⟨rfl, hw⟩; replace A := Lib.hid (A.out.on hw hb ho); clear hw c0; have c0 := A.out.box; go_wp2_with fail)
            (refine Calls.mono (blanks_at g s _ _ A.out.ahead hs) ?_; rintro e w' ⟨rfl, hw⟩; replace A := Lib.hid (A.out.went hw hgb hgo hb ho); clear hw c0; have c0 := A.out.box; go_wp2_with fail)
            generalize l6.dropWhile isTab = l7 at *
            by_cases hu : l7 = []
            case neg =>
              rw [if_neg hu] at hR
              (have HR := Lib.hid hR; refine Calls.mono (end_no g s _ _ A.out.ahead hs hu) ?_; rintro e w' ⟨a, rfl, hw⟩; exact ⟨rfl, conPost_none HR.out ⟨a, rfl⟩ (A.out.lost hw hgb hgo hb ho)⟩)
            rw [if_pos hu] at hR
            refine Calls.mono (end_yes g s _ _ A.out.ahead hs hu) ?_
            rintro e w' ⟨rfl, hw⟩
            replace A := Lib.hid (A.out.went hw hgb hgo hb ho)
            clear hw c0 hu
            have HSF := Lib.hid (fun w => said_any f 0 w hfl hfa)
            have HST := Lib.hid (fun w => said_any t (saidE f 0) w htl hta)
            have HSA := Lib.hid (fun w => said_any [] (saidE t (saidE f 0)) w hal haa)
            have hB := A.out.cb.trans HCB.out
            have hO := A.out.co.trans HCO.out
            have b0 := (Lib.cell_of_heap hB (j := 0))
            have o0 := (Lib.cell_of_heap hO (j := 0))
            have o1 := (Lib.cell_of_heap hO (j := 1))
            have o2 := (Lib.cell_of_heap hO (j := 2))
            have bf := fun i => Lib.frozen_of_heap hB i
            have of := fun i => Lib.frozen_of_heap hO i
            simp at b0 o0 o1 o2
            generalize hef : saidE f 0 = ef at *
            generalize het : saidE t ef = et at *
            generalize hea : saidE [] et = ea at *
            generalize hnf : saidN f = nf at *
            generalize hnt : saidN t = nt at *
            generalize hna : saidN [] = na at *
            have HE := Lib.hid (And.intro hef (And.intro het (And.intro hea (And.intro hnf (And.intro hnt hna)))))
            have HR := Lib.hid hR
            clear hef het hea hnf hnt hna hR
            generalize bl f = FT at *
            generalize bl t = TX at *
            generalize bl [] = AT at *
            have hL := A.out.only
            clear A
            go_upto_region 18 with (go_at_call 49; (with_reducible refine Calls.mono (HSF.out _) ?_); rintro e w' ⟨rfl, rfl⟩)
            obtain ⟨hB2, hO2⟩ := (con_store hB hO hbo).1 nf ef
            have hL2 := (hL.setCell (q := ⟨o, 0, none⟩) (.inl (.inr (.inr rfl))) (.int .i64 nf)).setCell (q := ⟨b, 0, none⟩) (.inl (.inr (.inl rfl))) (.int .i64 ef)
            generalize (w'.setCell ⟨o, 0, none⟩ (.int .i64 nf)).setCell ⟨b, 0, none⟩ (.int .i64 ef) = W0 at *
            clear b0 o0 o1 o2 bf of hL hB hO
            have hB := hB2
            have hO := hO2
            have hL := hL2
            clear hB2 hO2 hL2
            have b0 := (Lib.cell_of_heap hB (j := 0))
            have o0 := (Lib.cell_of_heap hO (j := 0))
            have o1 := (Lib.cell_of_heap hO (j := 1))
            have o2 := (Lib.cell_of_heap hO (j := 2))
            have bf := fun i => Lib.frozen_of_heap hB i
            have of := fun i => Lib.frozen_of_heap hO i
            simp at b0 o0 o1 o2
            go_upto_region 19 with (go_at_call 49; (with_reducible refine Calls.mono (HST.out _) ?_); rintro e w' ⟨rfl, rfl⟩)
            obtain ⟨hB2, hO2⟩ := (con_store hB hO hbo).2.1 nt et
            have hL2 := (hL.setCell (q := ⟨o, 1, none⟩) (.inl (.inr (.inr rfl))) (.int .i64 nt)).setCell (q := ⟨b, 0, none⟩) (.inl (.inr (.inl rfl))) (.int .i64 et)
            generalize (W0.setCell ⟨o, 1, none⟩ (.int .i64 nt)).setCell ⟨b, 0, none⟩ (.int .i64 et) = W1 at *
            clear b0 o0 o1 o2 bf of hL hB hO
            have hB := hB2
            have hO := hO2
            have hL := hL2
            clear hB2 hO2 hL2
            have b0 := (Lib.cell_of_heap hB (j := 0))
            have o0 := (Lib.cell_of_heap hO (j := 0))
            have o1 := (Lib.cell_of_heap hO (j := 1))
            have o2 := (Lib.cell_of_heap hO (j := 2))
            have bf := fun i => Lib.frozen_of_heap hB i
            have of := fun i => Lib.frozen_of_heap hO i
            simp at b0 o0 o1 o2
            go_wp2_with (go_at_call 49; (with_reducible refine Calls.mono (HSA.out _) ?_); rintro e w' ⟨rfl, rfl⟩)
            go_end0
            obtain ⟨e1, e2, e3, e4, e5, e6⟩ := HE.out
            obtain ⟨hB2, hO2⟩ := (con_store hB hO hbo).2.2 na ea
            refine conPost_some HR.out ⟨rfl, (hL.setCell (.inl (.inr (.inr rfl))) _).setCell (.inl (.inr (.inl rfl))) _, ?_, ?_⟩
            · rw [e1, e2, e3]
              exact hB2
            · rw [e4, e5, e6]
              exact hO2
          · have h1 := bl_full ha
            rw [if_neg (by simp [ha])] at hR
            go_wp2_with fail
            (refine Calls.mono (need_yes g s _ _ A.out.ahead) ?_; rintro e w' ⟨rfl, hw⟩; replace A := Lib.hid (A.out.on hw hb ho); clear hw c0; have c0 := A.out.box; go_wp2_with fail)
            (refine Calls.mono (blanks_at g s _ _ A.out.ahead hs) ?_; rintro e w' ⟨rfl, hw⟩; replace A := Lib.hid (A.out.went hw hgb hgo hb ho); clear hw c0; have c0 := A.out.box; go_wp2_with fail)
            generalize l6.dropWhile isTab = l7 at *
            by_cases hu : l7 = []
            case neg =>
              rw [if_neg hu] at hR
              (have HR := Lib.hid hR; refine Calls.mono (end_no g s _ _ A.out.ahead hs hu) ?_; rintro e w' ⟨a, rfl, hw⟩; exact ⟨rfl, conPost_none HR.out ⟨a, rfl⟩ (A.out.lost hw hgb hgo hb ho)⟩)
            rw [if_pos hu] at hR
            refine Calls.mono (end_yes g s _ _ A.out.ahead hs hu) ?_
            rintro e w' ⟨rfl, hw⟩
            replace A := Lib.hid (A.out.went hw hgb hgo hb ho)
            clear hw c0 hu
            have HSF := Lib.hid (fun w => said_any f 0 w hfl hfa)
            have HST := Lib.hid (fun w => said_any t (saidE f 0) w htl hta)
            have HSA := Lib.hid (fun w => said_any a (saidE t (saidE f 0)) w hal haa)
            have hB := A.out.cb.trans HCB.out
            have hO := A.out.co.trans HCO.out
            have b0 := (Lib.cell_of_heap hB (j := 0))
            have o0 := (Lib.cell_of_heap hO (j := 0))
            have o1 := (Lib.cell_of_heap hO (j := 1))
            have o2 := (Lib.cell_of_heap hO (j := 2))
            have bf := fun i => Lib.frozen_of_heap hB i
            have of := fun i => Lib.frozen_of_heap hO i
            simp at b0 o0 o1 o2
            generalize hef : saidE f 0 = ef at *
            generalize het : saidE t ef = et at *
            generalize hea : saidE a et = ea at *
            generalize hnf : saidN f = nf at *
            generalize hnt : saidN t = nt at *
            generalize hna : saidN a = na at *
            have HE := Lib.hid (And.intro hef (And.intro het (And.intro hea (And.intro hnf (And.intro hnt hna)))))
            have HR := Lib.hid hR
            clear hef het hea hnf hnt hna hR
            generalize bl f = FT at *
            generalize bl t = TX at *
            generalize bl a = AT at *
            have hL := A.out.only
            clear A
            go_upto_region 18 with (go_at_call 49; (with_reducible refine Calls.mono (HSF.out _) ?_); rintro e w' ⟨rfl, rfl⟩)
            obtain ⟨hB2, hO2⟩ := (con_store hB hO hbo).1 nf ef
            have hL2 := (hL.setCell (q := ⟨o, 0, none⟩) (.inl (.inr (.inr rfl))) (.int .i64 nf)).setCell (q := ⟨b, 0, none⟩) (.inl (.inr (.inl rfl))) (.int .i64 ef)
            generalize (w'.setCell ⟨o, 0, none⟩ (.int .i64 nf)).setCell ⟨b, 0, none⟩ (.int .i64 ef) = W0 at *
            clear b0 o0 o1 o2 bf of hL hB hO
            have hB := hB2
            have hO := hO2
            have hL := hL2
            clear hB2 hO2 hL2
            have b0 := (Lib.cell_of_heap hB (j := 0))
            have o0 := (Lib.cell_of_heap hO (j := 0))
            have o1 := (Lib.cell_of_heap hO (j := 1))
            have o2 := (Lib.cell_of_heap hO (j := 2))
            have bf := fun i => Lib.frozen_of_heap hB i
            have of := fun i => Lib.frozen_of_heap hO i
            simp at b0 o0 o1 o2
            go_upto_region 19 with (go_at_call 49; (with_reducible refine Calls.mono (HST.out _) ?_); rintro e w' ⟨rfl, rfl⟩)
            obtain ⟨hB2, hO2⟩ := (con_store hB hO hbo).2.1 nt et
            have hL2 := (hL.setCell (q := ⟨o, 1, none⟩) (.inl (.inr (.inr rfl))) (.int .i64 nt)).setCell (q := ⟨b, 0, none⟩) (.inl (.inr (.inl rfl))) (.int .i64 et)
            generalize (W0.setCell ⟨o, 1, none⟩ (.int .i64 nt)).setCell ⟨b, 0, none⟩ (.int .i64 et) = W1 at *
            clear b0 o0 o1 o2 bf of hL hB hO
            have hB := hB2
            have hO := hO2
            have hL := hL2
            clear hB2 hO2 hL2
            have b0 := (Lib.cell_of_heap hB (j := 0))
            have o0 := (Lib.cell_of_heap hO (j := 0))
            have o1 := (Lib.cell_of_heap hO (j := 1))
            have o2 := (Lib.cell_of_heap hO (j := 2))
            have bf := fun i => Lib.frozen_of_heap hB i
            have of := fun i => Lib.frozen_of_heap hO i
            simp at b0 o0 o1 o2
            go_wp2_with (go_at_call 49; (with_reducible refine Calls.mono (HSA.out _) ?_); rintro e w' ⟨rfl, rfl⟩)
            go_end0
            obtain ⟨e1, e2, e3, e4, e5, e6⟩ := HE.out
            obtain ⟨hB2, hO2⟩ := (con_store hB hO hbo).2.2 na ea
            refine conPost_some HR.out ⟨rfl, (hL.setCell (.inl (.inr (.inr rfl))) _).setCell (.inl (.inr (.inl rfl))) _, ?_, ?_⟩
            · rw [e1, e2, e3]
              exact hB2
            · rw [e4, e5, e6]
              exact hO2

end Go.Proofs.Ytfdacmccdipohaa

namespace Go.Proofs.Ytfdacmccdipohaa
open Go.RowKit
set_option linter.unusedSimpArgs false
set_option linter.unusedVariables false

theorem entersContent1 : Enters 41 := fun args w => MuLone.run_callFunc_enter Try.func41 (by kernel_rfl) rfl args w

/-- The two boxes in which the answer comes. -/
def ConBox (w : World) (c f t a : Int) (w' : World) : Prop :=
  Below w.heap.size w w' ∧ w'.heap[w.heap.size + 1]? = some (.cells #[.int .i64 c] 46 (0, 0)) ∧ w'.heap[w.heap.size]? = some (.cells #[.int .i64 f, .int .i64 t, .int .i64 a] 31 (0, 0))

theorem conBox_stays (w : World) (c f t a : Int) {B : Nat} (hB : w.heap.size + 2 ≤ B) : Stays B (ConBox w c f t a) := fun w1 w2 hb h =>
  ⟨h.1.trans (hb.mono (by omega)), (hb.block _ (by omega)).trans h.2.1, (hb.block _ (by omega)).trans h.2.2⟩

set_option maxRecDepth 20000 in
set_option maxHeartbeats 1000000 in
theorem content_any (s : ByteArray) (w : World) (hs : s.size ≤ 1000) :
    Calls Try.prog 29 #[.string s] w fun e w' => e = .returned (conV s.data.toList) ∧ Below w.heap.size w w' := by
  have hmf : ∀ (fn : Fn) (first cap : Array Value) (w : World), (Instr.makeFunc fn first cap).run Try.prog w = .ok (.func fn first cap) w := fun _ _ _ _ => rfl
  have hbx : ConBox w 0 0 0 0 ((w.alloc (.cells #[.int .i64 0, .int .i64 0, .int .i64 0] 31)).alloc (.cells #[.int .i64 0] 46)) := by
    refine ⟨(below_box w _).alloc (by simp) _, ?_, ?_⟩
    · have := heap_alloc_new (w.alloc (.cells #[.int .i64 0, .int .i64 0, .int .i64 0] 31)) (.cells #[.int .i64 0] 46)
      simpa using this
    · rw [Below.heap_alloc _ _ _ (by simp)]
      exact heap_alloc_new w _
  have hz : ((w.alloc (.cells #[.int .i64 0, .int .i64 0, .int .i64 0] 31)).alloc (.cells #[.int .i64 0] 46)).heap.size = w.heap.size + 2 := by simp
  go_enter Try.func29, Try.ntmps29
  go_wp2_with fail
  generalize (w.alloc (.cells #[.int .i64 0, .int .i64 0, .int .i64 0] 31)).alloc (.cells #[.int .i64 0] 46) = W at *
  have hstep : ∀ g w1, Below W.heap.size W w1 → W.heap.size ≤ g → Ahead g s s.data.toList w1 → Calls Try.prog 41 (#[rdV g] ++ #[.pointer (some ⟨w.heap.size + 1, 0, none⟩), .pointer (some ⟨w.heap.size, 0, none⟩)]) w1 (ConPost g s.data.toList (w.heap.size + 1) w.heap.size w1) := fun g w1 hb hg hA =>
    content1_any g s s.data.toList (w.heap.size + 1) w.heap.size w1 hA hs (by omega) (by omega) (by omega) ((hb.block _ (by omega)).trans hbx.2.1) ((hb.block _ (by omega)).trans hbx.2.2)
  have hbel : ∀ g w1 w' , Below W.heap.size W w1 → W.heap.size ≤ g → Only (fun i => i = g ∨ i = w.heap.size + 1 ∨ i = w.heap.size) w1 w' → Below w.heap.size w w' := fun g w1 w' hb hg ho =>
    (hbx.1.trans (hb.mono (by omega))).trans (ho.below (by intro i hi; omega) (by have := hb.size; omega))
  cases hA : conL s.data.toList with
  | none =>
    have HF := Lib.hid (form_throws 41 #[.pointer (some ⟨w.heap.size + 1, 0, none⟩), .pointer (some ⟨w.heap.size, 0, none⟩)] s (ConBox w 0 0 0 0) W entersContent1 (conBox_stays w 0 0 0 0 (by omega)) (fun g w1 hb hg hAh => (hstep g w1 hb hg hAh).mono fun e w' hp => by
      unfold ConPost at hp
      rw [hA] at hp
      obtain ⟨h1, h2, h3, h4⟩ := hp
      exact ⟨h1, h2.mono (by intro i hi; omega), hbel g w1 w' hb hg h2, h3.trans ((hb.block _ (by omega)).trans hbx.2.1), h4.trans ((hb.block _ (by omega)).trans hbx.2.2)⟩))
    have HV : Hid (conV s.data.toList = .tuple #[.agg #[.int .i64 0, .int .i64 0, .int .i64 0], .int .i64 2]) := Lib.hid (by unfold conV; rw [hA])
    clear hstep hbel hbx
    refine HF.out.mono ?_
    rintro e w2 ⟨rfl, h1, h2, h3⟩
    have HB := Lib.hid h1
    have b0 := (Lib.cell_of_heap h2 (j := 0))
    have o0 := (Lib.cell_of_heap h3 (j := 0))
    have o1 := (Lib.cell_of_heap h3 (j := 1))
    have o2 := (Lib.cell_of_heap h3 (j := 2))
    have bf := fun i => Lib.frozen_of_heap h2 i
    have of := fun i => Lib.frozen_of_heap h3 i
    simp at b0 o0 o1 o2
    have hz0 : w.heap.size < w2.heap.size := lt_of_cell o0
    clear h1 h2 h3 HF
    go_wp2_with (fail; go_at_call 27; (with_reducible refine (HG.out _).mono ?_); rintro e w' ⟨rfl, hb2⟩; have p0 := (cell_below hb2 hz0).trans o0; have p1 := (cell_below hb2 hz0).trans o1; have p2 := (cell_below hb2 hz0).trans o2; have of' := fun i => (frozen_below hb2 hz0 (o := i)).trans (of i); replace HB := Lib.hid (HB.out.trans (hb2.mono HB.out.size)); have hz1 : w.heap.size < w'.heap.size := Nat.lt_of_lt_of_le hz0 hb2.size)
    refine bodyPost_ret (v := (.tuple #[.agg #[.int .i64 0, .int .i64 0, .int .i64 0], .int .i64 2])) ?_ rfl ⟨by rw [HV.out], ((HB.out.setCell (by simp) _).setCell (by simp) _).setCell (by simp) _⟩
    simp [results, Try.results29, go_sem, o0, o1, o2, hz0]
  | some q =>
    obtain ⟨f, t, a⟩ := q
    have HF := Lib.hid (form_gives 41 #[.pointer (some ⟨w.heap.size + 1, 0, none⟩), .pointer (some ⟨w.heap.size, 0, none⟩)] s (ConBox w (saidE a (saidE t (saidE f 0))) (saidN f) (saidN t) (saidN a)) W entersContent1 (conBox_stays w _ _ _ _ (by omega)) (fun g w1 hb hg hAh => (hstep g w1 hb hg hAh).mono fun e w' hp => by
      unfold ConPost at hp
      rw [hA] at hp
      obtain ⟨h1, h2, h3, h4⟩ := hp
      exact ⟨h1, h2.mono (by intro i hi; omega), hbel g w1 w' hb hg h2, h3, h4⟩))
    have HV0 : conV s.data.toList = if saidE a (saidE t (saidE f 0)) ≠ 0 ∨ goodP (saidN f) (saidN t) (saidN a) = false then .tuple #[.agg #[.int .i64 0, .int .i64 0, .int .i64 0], .int .i64 9] else .tuple #[.agg #[.int .i64 (saidN f), .int .i64 (saidN t), .int .i64 (saidN a)], .int .i64 0] := by unfold conV; rw [hA]
    clear hstep hbel hbx
    generalize saidE a (saidE t (saidE f 0)) = et at *
    generalize saidN f = nf at *
    generalize saidN t = nt at *
    generalize saidN a = na at *
    refine HF.out.mono ?_
    rintro e w2 ⟨rfl, h1, h2, h3⟩
    have HB := Lib.hid h1
    have b0 := (Lib.cell_of_heap h2 (j := 0))
    have o0 := (Lib.cell_of_heap h3 (j := 0))
    have o1 := (Lib.cell_of_heap h3 (j := 1))
    have o2 := (Lib.cell_of_heap h3 (j := 2))
    have bf := fun i => Lib.frozen_of_heap h2 i
    have of := fun i => Lib.frozen_of_heap h3 i
    simp at b0 o0 o1 o2
    have hz0 : w.heap.size < w2.heap.size := lt_of_cell o0
    clear h1 h2 h3 HF
    by_cases he : et = 0
    · subst he
      have HG := Lib.hid (fun w => good_any nf nt na w)
      cases hg : goodP nf nt na
      · have HV := Lib.hid (HV0.trans (if_pos (.inr hg)))
        rw [hg] at HG
        clear HV0 hg
        go_wp2_with (go_at_call 27; (with_reducible refine (HG.out _).mono ?_); rintro e w' ⟨rfl, hb2⟩; have p0 := (cell_below hb2 hz0).trans o0; have p1 := (cell_below hb2 hz0).trans o1; have p2 := (cell_below hb2 hz0).trans o2; have of' := fun i => (frozen_below hb2 hz0 (o := i)).trans (of i); replace HB := Lib.hid (HB.out.trans (hb2.mono HB.out.size)); have hz1 : w.heap.size < w'.heap.size := Nat.lt_of_lt_of_le hz0 hb2.size)
        refine bodyPost_ret (v := (.tuple #[.agg #[.int .i64 0, .int .i64 0, .int .i64 0], .int .i64 9])) ?_ rfl ⟨by rw [HV.out], ((HB.out.setCell (by simp) _).setCell (by simp) _).setCell (by simp) _⟩
        simp [results, Try.results29, go_sem, o0, o1, o2, hz0, p0, p1, p2, hz1]
      · have HV := Lib.hid (HV0.trans (if_neg (by simp [hg])))
        rw [hg] at HG
        clear HV0 hg
        go_wp2_with (go_at_call 27; (with_reducible refine (HG.out _).mono ?_); rintro e w' ⟨rfl, hb2⟩; have p0 := (cell_below hb2 hz0).trans o0; have p1 := (cell_below hb2 hz0).trans o1; have p2 := (cell_below hb2 hz0).trans o2; have of' := fun i => (frozen_below hb2 hz0 (o := i)).trans (of i); replace HB := Lib.hid (HB.out.trans (hb2.mono HB.out.size)); have hz1 : w.heap.size < w'.heap.size := Nat.lt_of_lt_of_le hz0 hb2.size)
        refine bodyPost_ret (v := (.tuple #[.agg #[.int .i64 nf, .int .i64 nt, .int .i64 na], .int .i64 0])) ?_ rfl ⟨by rw [HV.out], ((HB.out.setCell (by simp) _).setCell (by simp) _).setCell (by simp) _⟩
        simp [results, Try.results29, go_sem, o0, o1, o2, hz0, p0, p1, p2, hz1]
    · have HV := Lib.hid (HV0.trans (if_pos (.inl he)))
      have he2 : (et == 0) = false := beq_eq_false_iff_ne.2 he
      clear HV0
      go_wp2_with (fail; go_at_call 27; (with_reducible refine (HG.out _).mono ?_); rintro e w' ⟨rfl, hb2⟩; have p0 := (cell_below hb2 hz0).trans o0; have p1 := (cell_below hb2 hz0).trans o1; have p2 := (cell_below hb2 hz0).trans o2; have of' := fun i => (frozen_below hb2 hz0 (o := i)).trans (of i); replace HB := Lib.hid (HB.out.trans (hb2.mono HB.out.size)); have hz1 : w.heap.size < w'.heap.size := Nat.lt_of_lt_of_le hz0 hb2.size)
      refine bodyPost_ret (v := (.tuple #[.agg #[.int .i64 0, .int .i64 0, .int .i64 0], .int .i64 9])) ?_ rfl ⟨by rw [HV.out], ((HB.out.setCell (by simp) _).setCell (by simp) _).setCell (by simp) _⟩
      simp [results, Try.results29, go_sem, o0, o1, o2, hz0]

end Go.Proofs.Ytfdacmccdipohaa

namespace Go.Proofs.Ytfdacmccdipohaa
open Go.RowKit

/-- A world in which nothing that W held has turned. -/
def InB (W : World) : Type := { w' : World // Below W.heap.size W w' }

instance (W : World) : Nonempty (InB W) := ⟨⟨W, Below.refl _ _⟩⟩

theorem InB.cells {W : World} (x : InB W) : ∀ b o, b < W.heap.size → x.val.cell? ⟨b, o, none⟩ = W.cell? ⟨b, o, none⟩ := fun b o h => x.property.cell (p := ⟨b, o, none⟩) h

theorem wp_region_inb {P : Program} {id : Nat} {Q : Exit → Act → World → Prop} {a : Act} {w : World} {l : List Oper} (hm : P.follows .mixedOrders = true) (hB : Region.lexB .any l.toArray = true)
    (h : wpQuiet P l.toArray (fun w' => ∃ x : InB w, w' = x.val) (fun a' => ∀ w', (∃ x : InB w, w' = x.val) → Q .normal a' w') l a) : (Code.region id l.toArray true).wp P Q a w :=
  wp_region_quiet (C := fun w' => ∃ x : InB w, w' = x.val) hm hB ⟨⟨w.drew, (Below.refl _ _).drew⟩, rfl⟩ (by simpa using h)

theorem inb_call {P : Program} {f : FuncId} {args : Array Value} {W : World} {v : Value} (x : InB W)
    (h : Calls P f args x.val fun e w' => e = .returned v ∧ Below x.val.heap.size x.val w') : Calls P f args x.val fun e w'' => e = .returned v ∧ ∃ y : InB W, w'' = y.val :=
  h.mono fun _ w' ⟨he, hb⟩ => ⟨he, ⟨w', below_trans x.property hb⟩, rfl⟩

theorem inb_same {P : Program} {f : FuncId} {args : Array Value} {W : World} {v : Value} (x : InB W)
    (h : Calls P f args x.val fun e w' => e = .returned v ∧ x.val = w') : Calls P f args x.val fun e w'' => e = .returned v ∧ ∃ y : InB W, w'' = y.val :=
  h.mono fun _ _ ⟨he, hb⟩ => ⟨he, x, hb.symm⟩

theorem inb_drew {P : Program} {f : FuncId} {args : Array Value} {W : World} {v : Value} (x : InB W)
    (h : Calls P f args x.val fun e w' => e = .returned v ∧ Drew x.val w') : Calls P f args x.val fun e w'' => e = .returned v ∧ ∃ y : InB W, w'' = y.val :=
  h.mono fun _ w' ⟨he, hb⟩ => ⟨he, ⟨w', x.property.trans (hb.below _)⟩, rfl⟩

end Go.Proofs.Ytfdacmccdipohaa

namespace Go.Proofs.Ytfdacmccdipohaa
open Go.RowKit
set_option linter.unusedSimpArgs false
set_option linter.unusedVariables false

/-- A part of a length fits a range. -/
def fitsP (rf rt n f t s : Int) : Bool := decide (¬ (n = 0 ∨ rf < -1 ∨ rt < -1) ∧ ((rf = -1 ∧ s ≠ -1 ∧ t = s - 1 ∧ n ≤ rt) ∨ (rf ≠ -1 ∧ f = rf ∧ (rt = -1 ∨ t ≤ rt))))

theorem lenP_size {f t s : Int} (h : ¬ lenP f t s = 0) : -1 ≤ s ∧ s ≤ 9007199254740991 := by
  have h1 := lenP_range f t s
  have h2 : saysP f t s = true := by unfold saysP; exact decide_eq_true (by omega)
  have h3 := saysP_range h2
  exact ⟨h3.2.2.2.1, h3.2.2.2.2.1⟩

theorem First_rng (f t s : Int) (w : World) :
    Calls Try.prog 23 #[.agg #[.int .i64 f, .int .i64 t, .int .i64 s]] w fun e w' => e = .returned (.bool (f == 0)) ∧ Below w.heap.size w w' := by
  go_enter Try.func23, Try.ntmps23
  go_wp2_with fail
  go_ret
  exact ⟨rfl, below_box _ _⟩

end Go.Proofs.Ytfdacmccdipohaa

namespace Go.Proofs.Ytfdacmccdipohaa
open Go.RowKit
set_option linter.unusedSimpArgs false
set_option linter.unusedVariables false

def con0 : ByteArray := ⟨#[98, 121, 116, 101, 115, 32, 48, 45, 52, 47, 49, 48]⟩

theorem con0_says : conV con0.data.toList = .tuple #[.agg #[.int .i64 0, .int .i64 4, .int .i64 10], .int .i64 0] := by kernel_rfl

theorem lenP_five : lenP 0 4 10 = 5 := by decide

end Go.Proofs.Ytfdacmccdipohaa

namespace Go.Proofs.Ytfdacmccdipohaa
open Go.RowKit
set_option linter.unusedSimpArgs false
set_option linter.unusedVariables false

theorem infoStrT : (Try.prog.info? 9).map (fun i => (i.zero, i.size, i.bytes)) = some (some (.string ByteArray.empty), 1, 16) := by kernel_rfl

/-- Texts as values. -/
def rowS (l : List ByteArray) : List Value := l.map Value.string

theorem rowS_snoc (l : List ByteArray) (x : ByteArray) : rowS (l ++ [x]) = rowS l ++ [.string x] := by simp [rowS]

/-- A row of texts lies from an address on. -/
def StrsIn (w : World) (A : Option Addr) (l : List ByteArray) : Prop :=
  l = [] ∨ ∃ b off, A = some ⟨b, off, none⟩ ∧ b < w.heap.size ∧ ∀ i (h : i < l.length), w.cell? ⟨b, off + i, none⟩ = some (.string l[i])

theorem StrsIn.below {w w' : World} {A : Option Addr} {l : List ByteArray} (h : StrsIn w A l) (hb : Below w.heap.size w w') : StrsIn w' A l := by
  rcases h with h | ⟨b, off, hA, hlt, hc⟩
  · exact .inl h
  · exact .inr ⟨b, off, hA, Nat.lt_of_lt_of_le hlt hb.size, fun i hi => (cell_below hb hlt).trans (hc i hi)⟩

theorem strs_of_own {w : World} {B : Nat} {e : TypeId} {v : Value} {n : Nat} {l : List ByteArray} (h : w.ownsRow B e 1 v n (rowS l)) (hn : n = l.length) : ∃ A c, v = .slice A l.length c ∧ StrsIn w A l := by
  subst hn
  rcases h.2 with ⟨rfl, h0⟩ | ⟨g, cap, cur, rfl, hB, hg, _⟩
  · have : l = [] := List.eq_nil_of_length_eq_zero h0
    subst this
    exact ⟨none, 0, rfl, .inl rfl⟩
  · refine ⟨_, _, rfl, .inr ⟨g, 0, rfl, ?_, fun i hi => ?_⟩⟩
    · rcases Nat.lt_or_ge g w.heap.size with hlt | hge
      · exact hlt
      · rw [Array.getElem?_eq_none hge] at hg; cases hg
    · rw [Nat.zero_add, h.cellAt i (by omega)]
      simp [rowS, hi]

theorem row_stands {w w' : World} {base : Nat} {e : TypeId} {z n : Nat} {r : Value} {xs : List Value} (h : w.ownsRow base e z r n xs) (hk : ∀ k, r.ownBlock = some k → k < w.heap.size → w'.heap[k]? = w.heap[k]?) : w'.ownsRow base e z r n xs := by
  obtain ⟨q1, q2⟩ := h
  refine ⟨q1, ?_⟩
  rcases q2 with q2 | ⟨g', cap', cur, q2, q3, q4, q5⟩
  · exact .inl q2
  · subst q2
    exact .inr ⟨g', cap', cur, rfl, q3, (hk g' rfl (Array.getElem?_eq_some_iff.1 q4).1).trans q4, q5⟩

/-- Bytes as a text. -/
def bt (l : List UInt8) : ByteArray := ⟨l.toArray⟩

theorem list_bt (s : ByteArray) : bt s.data.toList = s := rfl

theorem bt_size (l : List UInt8) : (bt l).size = l.length := rfl

abbrev Pars := List (List UInt8 × List UInt8)

/-- Parameters lie from a block's head on. -/
def ParsAt (w : World) (B : Nat) (A : Option Addr) (l : Pars) : Prop :=
  l = [] ∨ ∃ g, A = some ⟨g, 0, none⟩ ∧ g < B ∧ ∀ i (h : i < l.length), w.cell? ⟨g, i * 2, none⟩ = some (.string (bt l[i].1)) ∧ w.cell? ⟨g, i * 2 + 1, none⟩ = some (.string (bt l[i].2))

theorem ParsAt.below {w w' : World} {B : Nat} {A : Option Addr} {l : Pars} (h : ParsAt w B A l) (hb : Below B w w') : ParsAt w' B A l := by
  rcases h with h | ⟨g, hA, hg, hc⟩
  · exact .inl h
  · refine .inr ⟨g, hA, hg, fun i hi => ?_⟩
    obtain ⟨h1, h2⟩ := hc i hi
    exact ⟨by rw [cell_below hb hg]; exact h1, by rw [cell_below hb hg]; exact h2⟩

theorem ParsAt.more {w : World} {B B' : Nat} {A : Option Addr} {l : Pars} (h : ParsAt w B A l) (hB : B ≤ B') : ParsAt w B' A l := by
  rcases h with h | ⟨g, hA, hg, hc⟩
  · exact .inl h
  · exact .inr ⟨g, hA, by omega, hc⟩

/-- Parameters that are there, whatever has been made since. -/
theorem ParsAt.on {w w' : World} {A : Option Addr} {l : Pars} (h : ParsAt w w.heap.size A l) (hb : Below w.heap.size w w') : ParsAt w' w'.heap.size A l :=
  (h.below hb).more hb.size

def parCells (p : List UInt8 × List UInt8) : List Value := [.string (bt p.1), .string (bt p.2)]

def rowQ (l : Pars) : List Value := l.flatMap parCells

theorem rowQ_snoc (l : Pars) (p : List UInt8 × List UInt8) : rowQ (l ++ [p]) = rowQ l ++ parCells p := by simp [rowQ]

theorem rowQ_at (l : Pars) (i : Nat) (hi : i < l.length) (j : Nat) (hj : j < 2) : (rowQ l)[i * 2 + j]? = (parCells l[i])[j]? := by
  induction l generalizing i with
  | nil => simp at hi
  | cons p r ih =>
    have hl : (parCells p).length = 2 := rfl
    cases i with
    | zero =>
      simp only [rowQ, List.flatMap_cons, Nat.zero_mul, Nat.zero_add, List.getElem_cons_zero]
      rw [List.getElem?_append_left (by omega)]
    | succ i =>
      simp only [rowQ, List.flatMap_cons, List.getElem_cons_succ]
      rw [List.getElem?_append_right (by omega), hl, show (i + 1) * 2 + j - 2 = i * 2 + j by omega]
      exact ih i (by simpa using hi)

theorem pars_of_own {w : World} {base : Nat} {e : TypeId} {v : Value} {l : Pars} {n : Nat} (h : w.ownsRow base e 2 v n (rowQ l)) (hn : n = l.length) : ∃ A c, v = .slice A l.length c ∧ ParsAt w w.heap.size A l := by
  subst hn
  have h' := h.2
  rcases h' with ⟨rfl, h0⟩ | ⟨g, cap, cur, rfl, _, hgb, _⟩
  · have : l = [] := List.eq_nil_of_length_eq_zero h0
    subst this
    exact ⟨none, 0, rfl, .inl rfl⟩
  · refine ⟨_, _, rfl, .inr ⟨g, rfl, (Array.getElem?_eq_some_iff.1 hgb).1, fun i hi => ?_⟩⟩
    have hc : ∀ j, j < 2 → w.cell? ⟨g, i * 2 + j, none⟩ = (parCells l[i])[j]? := fun j hj => by
      rw [h.cellAt (i * 2 + j) (by omega), rowQ_at l i hi j hj]
    exact ⟨by simpa [parCells] using hc 0 (by omega), by simpa [parCells] using hc 1 (by omega)⟩

theorem par_cells_new (W : World) (p : List UInt8 × List UInt8) (e : TypeId) : ∀ j u, (parCells p)[j]? = some u → (W.alloc (.cells #[.string (bt p.1), .string (bt p.2)] e)).cell? ((⟨W.heap.size, 0, none⟩ : Addr).add j) = some u := by
  intro j u hj
  rw [Addr.add_lit, Nat.zero_add, cell_of_row _ _ _ _ _ (0, 0) (heap_alloc_new W _)]
  simpa [parCells] using hj

theorem cut_bt (x : List UInt8) (n : Nat) : cutB (bt x) n = bt (x.take n) := by
  unfold cutB
  split
  · apply bytes_ext
    rw [Lib.extract_data]
    simp [bt]
  · rename_i h
    rw [bt_size] at h
    rw [List.take_of_length_le (by omega)]

/-- Parameters lie somewhere in a block. -/
def ParsIn (w : World) (B : Nat) (A : Option Addr) (l : Pars) : Prop :=
  l = [] ∨ ∃ g off, A = some ⟨g, off, none⟩ ∧ g < B ∧ ∀ i (h : i < l.length), w.cell? ⟨g, off + i * 2, none⟩ = some (.string (bt l[i].1)) ∧ w.cell? ⟨g, off + i * 2 + 1, none⟩ = some (.string (bt l[i].2))

theorem ParsIn.below {w w' : World} {B : Nat} {A : Option Addr} {l : Pars} (h : ParsIn w B A l) (hb : Below B w w') : ParsIn w' B A l := by
  rcases h with h | ⟨g, off, hA, hg, hc⟩
  · exact .inl h
  · refine .inr ⟨g, off, hA, hg, fun i hi => ?_⟩
    obtain ⟨h1, h2⟩ := hc i hi
    exact ⟨by rw [cell_below hb hg]; exact h1, by rw [cell_below hb hg]; exact h2⟩

theorem ParsIn.more {w : World} {B B' : Nat} {A : Option Addr} {l : Pars} (h : ParsIn w B A l) (hB : B ≤ B') : ParsIn w B' A l := by
  rcases h with h | ⟨g, off, hA, hg, hc⟩
  · exact .inl h
  · exact .inr ⟨g, off, hA, by omega, hc⟩

theorem ParsIn.on {w w' : World} {A : Option Addr} {l : Pars} (h : ParsIn w w.heap.size A l) (hb : Below w.heap.size w w') : ParsIn w' w'.heap.size A l :=
  (h.below hb).more hb.size

theorem ParsAt.isIn {w : World} {B : Nat} {A : Option Addr} {l : Pars} (h : ParsAt w B A l) : ParsIn w B A l := by
  rcases h with h | ⟨g, hA, hg, hc⟩
  · exact .inl h
  · exact .inr ⟨g, 0, hA, hg, fun i hi => by simpa using hc i hi⟩

theorem choose_ltP {α : Type} [Inhabited α] {n : Nat} {p : Nat → α → Prop} (h : ∀ i, i < n → ∃ x, p i x) : ∃ f : Nat → α, ∀ i, i < n → p i (f i) := by
  classical
  exact ⟨fun i => if hi : i < n then (h i hi).choose else default, fun i hi => by simp only [hi, dif_pos]; exact (h i hi).choose_spec⟩

open Go.ChangeShapes Go.WideShapes Go.Deep in
/-- A slice of structs of two texts, opened. -/
theorem open_parsV {H : Type} {enc : TypeId × Value → H} {P : Program} {w : World} {base : Nat} {spare : Nat → Bool} {held : Bool} {t e ts : TypeId} {f0 f1 : Field} {v : Value} {n : Nat} {y : DataW H × List MemPlace}
    (ht : P.underlying t = some (.slice e)) (he : P.underlying e = some (.struct #[f0, f1])) (ce : P.cellsOf e = 2) (o0 : f0.offset = 0) (o1 : f1.offset = 1)
    (t0 : f0.type = ts) (t1 : f1.type = ts) (cs : P.cellsOf ts = 1) (hs : P.underlying ts = some .string)
    (h : DataW.trod enc P w base spare held n t [v] = some y) :
    ∃ A c ps, v = .slice A ps.length c ∧ ParsIn w w.heap.size A ps ∧ (∀ p ∈ ps, (bt p.1).size ≤ maxLen ∧ (bt p.2).size ≤ maxLen) ∧ ps.length ≤ maxLen := by
  rcases open_slice ht h with ⟨h0, _⟩ | ⟨a, len, cap, m, n', D, Pl, hc, hb, hl, hm, hmm, _, hx⟩
  · simp at h0
    subst h0
    exact ⟨none, 0, [], rfl, .inl rfl, fun p hp => by simp at hp, Nat.zero_le _⟩
  simp at hc
  subst hc
  have hlm : len ≤ m := by rw [hmm]; split <;> omega
  have each : ∀ i, i < len → ∃ p : List UInt8 × List UInt8, w.cell? (a.add (i * 2)) = some (.string (bt p.1)) ∧ w.cell? (a.add (i * 2 + 1)) = some (.string (bt p.2)) ∧ (bt p.1).size ≤ maxLen ∧ (bt p.2).size ≤ maxLen := by
    intro i hi
    obtain ⟨cs', h1, h2⟩ := hx i (by omega)
    rw [ce] at h1
    obtain ⟨_, hlen, hcell⟩ := World.cells?_some h1
    obtain ⟨xs, k, hk, hxy, _, hxl, hf⟩ := DataW.trod_struct he h2
    match xs, hxl, cs', hlen with
    | [y0, y1], _, [v0, v1], _ =>
      have g0 := hf 0 f0 rfl
      have g1 := hf 1 f1 rfl
      simp [o0, o1, t0, t1, cs] at g0 g1
      have e0 := hcell 0 (by omega)
      have e1 := hcell 1 (by omega)
      rw [add_add] at e0 e1
      obtain ⟨b0, q0, _, s0⟩ := DataW.trod_string hs g0
      obtain ⟨b1, q1, _, s1⟩ := DataW.trod_string hs g1
      simp at q0 q1
      subst q0 q1
      exact ⟨(b0.data.toList, b1.data.toList), by rw [list_bt]; simpa using e0, by rw [list_bt]; simpa using e1, s0, s1⟩
  obtain ⟨f, hfs⟩ := choose_ltP each
  refine ⟨some a, cap, (List.range len).map f, by simp, ?_, ?_, by simp; omega⟩
  · by_cases hz : len = 0
    · subst hz; exact .inl rfl
    right
    have h0 := (hfs 0 (by omega)).1
    rw [Nat.zero_mul, show a.add 0 = a from rfl] at h0
    obtain ⟨b, off, sp⟩ := a
    have hsp : sp = none := by
      cases sp with
      | none => rfl
      | some k =>
        simp only [World.cell?] at h0
        split at h0 <;> simp at h0
    subst hsp
    refine ⟨b, off, rfl, lt_of_cell h0, fun i hi => ?_⟩
    have hi' : i < len := by simpa using hi
    obtain ⟨h1, h2, _⟩ := hfs i hi'
    simp only [List.getElem_map, List.getElem_range]
    have hadd : ∀ k, (⟨b, off, none⟩ : Addr).add k = ⟨b, off + k, none⟩ := fun k => by
      unfold Addr.add
      split
      · rename_i hk; subst hk; rfl
      · rfl
    rw [hadd] at h1 h2
    exact ⟨h1, h2⟩
  · intro p hp
    simp only [List.mem_map, List.mem_range] at hp
    obtain ⟨i, hi, rfl⟩ := hp
    exact (hfs i hi).2.2

theorem fnTab : FnPure 61 isTab :=
  ⟨fun args w => MuLone.run_callFunc_enter Try.func61 (by kernel_rfl) rfl args w, Tab_any⟩

theorem bt_list (l : List UInt8) : (bt l).data.toList = l := rfl

end Go.Proofs.Ytfdacmccdipohaa
