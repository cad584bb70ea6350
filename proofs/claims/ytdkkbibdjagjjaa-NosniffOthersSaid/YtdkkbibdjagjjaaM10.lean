/-
  Lemmas of this claim, part 10: the texts CombD, CombE, one behind the other.
-/
import Derived.Test.YtdkkbibdjagjjaaM9

namespace Go.Proofs.Ytdkkbibdjagjjaa
open Go.RowKit
set_option linter.unusedSimpArgs false
set_option linter.unusedVariables false

/-- A type in a block. -/
def mimO (m : MimeL) (A : Option Addr) (c : Nat) : Obj := .cells #[.string (bt m.t), .string (bt m.s), .slice A m.ps.length c] 33 (0, 0)

theorem mim_cells {w : World} {g : Nat} {m : MimeL} {A : Option Addr} {c : Nat} (h : w.heap[g]? = some (mimO m A c)) :
    w.cell? ⟨g, 0, none⟩ = some (.string (bt m.t)) ∧ w.cell? ⟨g, 1, none⟩ = some (.string (bt m.s)) ∧ w.cell? ⟨g, 2, none⟩ = some (.slice A m.ps.length c) ∧ (∀ i, w.frozen? ⟨g, i, none⟩ = false) ∧ g < w.heap.size := by
  refine ⟨?_, ?_, ?_, ?_, (Array.getElem?_eq_some_iff.1 h).1⟩
  · rw [Lib.cell_of_heap h]; rfl
  · rw [Lib.cell_of_heap h]; rfl
  · rw [Lib.cell_of_heap h]; rfl
  · exact fun i => Lib.frozen_of_heap h i

theorem mim_none : mimO noM none 0 = .cells #[.string ⟨#[]⟩, .string ⟨#[]⟩, .slice none 0 0] 33 (0, 0) := rfl

/-- A type that comes, its parameters in memory of the callee's own. -/
def GivesMim (m : MimeL) (w : World) (e : Ending) (w' : World) : Prop :=
  ∃ A c, e = .returned (mimV m A c) ∧ ParsAt w' w'.heap.size A m.ps ∧ Below w.heap.size w w' ∧ ∀ g, A = some ⟨g, 0, none⟩ → w.heap.size ≤ g

theorem own_fresh {w1 : World} {B : Nat} {A : Option Addr} {c n : Nat} {l : Pars} (h : w1.ownsRow B 52 2 (.slice A n c) n (rowQ l)) : ∀ g, A = some ⟨g, 0, none⟩ → B ≤ g := by
  intro g hg
  subst hg
  exact (World.ownsRow.lt h g rfl).1

set_option maxRecDepth 20000 in
theorem own_any (m : MimeL) (A : Option Addr) (c : Nat) (w : World) (hm : SizesM m) (hA : ParsAt w w.heap.size A m.ps) :
    Calls Try.prog 42 #[mimV m A c] w fun e w' => GivesMim m w e w' := by
  have HCL := Lib.hid (fun (w1 : World) (hb : Below w.heap.size w w1) => ClonePar_any m.ps A c w1 hm.ps.1 (hA.on hb))
  clear hm hA
  unfold mimV
  go_enter Try.func42, Try.ntmps42
  go_upto_region 1 with fail
  have hP : ((w.alloc (.cells #[.string (bt m.t), .string (bt m.s), .slice A m.ps.length c] 33)).alloc (.cells #[.string ⟨#[]⟩, .string ⟨#[]⟩, .slice none 0 0] 33)).heap[w.heap.size]? = some (mimO m A c) := (Below.heap_alloc _ _ _ (by simp)).trans (heap_alloc_new w _)
  have hQ : ((w.alloc (.cells #[.string (bt m.t), .string (bt m.s), .slice A m.ps.length c] 33)).alloc (.cells #[.string ⟨#[]⟩, .string ⟨#[]⟩, .slice none 0 0] 33)).heap[w.heap.size + 1]? = some (mimO noM none 0) := by
    rw [show w.heap.size + 1 = (w.alloc (.cells #[.string (bt m.t), .string (bt m.s), .slice A m.ps.length c] 33)).heap.size by simp]
    exact heap_alloc_new _ _
  have hb0 : Below w.heap.size w ((w.alloc (.cells #[.string (bt m.t), .string (bt m.s), .slice A m.ps.length c] 33)).alloc (.cells #[.string ⟨#[]⟩, .string ⟨#[]⟩, .slice none 0 0] 33)) := (below_box _ _).alloc (by simp) _
  generalize (w.alloc (.cells #[.string (bt m.t), .string (bt m.s), .slice A m.ps.length c] 33)).alloc (.cells #[.string ⟨#[]⟩, .string ⟨#[]⟩, .slice none 0 0] 33) = W at *
  obtain ⟨p0, p1, p2, pz, plt⟩ := mim_cells hP
  have HC := Lib.hid (HCL.out W hb0)
  have hQlt := (Array.getElem?_eq_some_iff.1 hQ).1
  clear HCL
  go_wp2_with fail
  refine HC.out.mono ?_
  rintro e w1 ⟨v, rfl, ho, hb1⟩
  obtain ⟨A2, c2, rfl, hA2⟩ := parsOf ho
  have hP1 := (hb1.block _ plt).trans hP
  have hQ1 := (hb1.block _ hQlt).trans hQ
  have HF := Lib.hid (own_fresh ho)
  have HA2 := Lib.hid hA2
  have HB := Lib.hid (hb0.trans (hb1.mono hb0.size))
  have hWs := hb0.size
  clear p0 p1 p2 pz ho hA2 hb1 HC hb0
  obtain ⟨p0, p1, p2, pz, plt1⟩ := mim_cells hP1
  obtain ⟨q0, q1, q2, qz, qlt1⟩ := mim_cells hQ1
  clear hP1 hQ1 hP hQ
  go_wp2_with fail
  refine bodyPost_ret (v := mimV m A2 c2) ?_ rfl ?_
  · simp [results, Try.results42, go_sem, q0, q1, q2, mimV]
  · have hfP : ∀ g, A2 = some ⟨g, 0, none⟩ → w.heap.size ≠ g := fun g hg => by have := HF.out g hg; omega
    have hfQ : ∀ g, A2 = some ⟨g, 0, none⟩ → w.heap.size + 1 ≠ g := fun g hg => by have := HF.out g hg; omega
    refine ⟨A2, c2, rfl, ?_, ?_, fun g hg => by have := HF.out g hg; omega⟩
    · exact ((((HA2.out.set hfP _).set hfQ _).set hfQ _).set hfQ _).more (by simp)
    · exact (((HB.out.setCell (by simp) _).setCell (by simp) _).setCell (by simp) _).setCell (by simp) _

theorem Param_set (m : MimeL) (A : Option Addr) (c : Nat) (w : World) (hm : SizesM m) (hA : ParsAt w w.heap.size A m.ps) :
    Calls Try.prog 40 #[mimV m A c, .string ⟨#[99, 104, 97, 114, 115, 101, 116]⟩] w fun e w' => e = .returned (.tuple #[.string (bt (setOf m)), .bool (decide (0 ≤ atL m.ps charL))]) ∧ Below w.heap.size w w' := by
  by_cases h : 0 ≤ atL m.ps charL
  · have hlt := (atL_ge m.ps charL).2
    have := Param_yes m A c ⟨#[99, 104, 97, 114, 115, 101, 116]⟩ w hm hA (atL m.ps charL).toNat (by show atL m.ps charL = _; omega) (by omega)
    rw [decide_eq_true h]
    unfold setOf
    rw [dif_pos h]
    exact this
  · have := Param_no m A c ⟨#[99, 104, 97, 114, 115, 101, 116]⟩ w hm hA (by show atL m.ps charL < 0; omega)
    rw [decide_eq_false h]
    unfold setOf
    rw [dif_neg h]
    exact this

/-- What a step gives. -/
def GivesStep (r : MimeL × List UInt8) (w : World) (e : Ending) (w' : World) : Prop :=
  ∃ A c, e = .returned (.tuple #[mimV r.1 A c, .string (bt r.2)]) ∧ ParsAt w' w'.heap.size A r.1.ps ∧ Below w.heap.size w w' ∧ ∀ g, A = some ⟨g, 0, none⟩ → w.heap.size ≤ g

theorem bt_empty (l : List UInt8) : (bt l).toList.isEmpty = l.isEmpty := by rw [Lib.toList_data]; rfl

set_option maxHeartbeats 4000000 in
set_option maxRecDepth 20000 in
theorem step_any (m n : MimeL) (A A2 : Option Addr) (c c2 : Nat) (set : List UInt8) (w : World) (hm : SizesM m) (hn : SizesM n) (hl : n.ps.length ≤ 1099) (hs : set.length ≤ 1100) (hA : ParsAt w w.heap.size A m.ps) (hA2 : ParsAt w w.heap.size A2 n.ps) :
    Calls Try.prog 28 #[mimV m A c, .string (bt set), mimV n A2 c2] w fun e w' => GivesStep (stepL m set n) w e w' := by
  have HPA := Lib.hid (fun (w1 : World) (hb : Below w.heap.size w w1) => Param_set n A2 c2 w1 hn (hA2.on hb))
  have HE1 := Lib.hid (fun (w1 : World) => Essence_par m A c w1 hm)
  have HE2 := Lib.hid (fun (w1 : World) => Essence_par n A2 c2 w1 hn)
  have HOW := Lib.hid (fun (w1 : World) (hb : Below w.heap.size w w1) => own_any n A2 c2 w1 hn (hA2.on hb))
  have HWI := Lib.hid (fun (w1 : World) (hb : Below w.heap.size w w1) => With_own n A2 c2 charL set w1 hn (by decide) hs hl (hA2.on hb))
  have hq := eq_textL (essL m) (essL n)
  have HV : Hid (stepL m set n = if essL m ≠ essL n then (n, setOf n) else if atL n.ps charL < 0 ∧ set ≠ [] ∧ goodL (withM n charL set) = true then (withM n charL set, set) else (n, set)) := Lib.hid rfl
  clear hm hn hl hs hA hA2
  obtain ⟨S, hS⟩ : ∃ S, bt set = S := ⟨_, rfl⟩
  rw [hS] at HWI ⊢
  generalize stepL m set n = R at *
  generalize bt (essL m) = X at *
  generalize bt (essL n) = Y at *
  unfold mimV at HPA HE1 HE2 HOW HWI ⊢
  by_cases he : essL m = essL n
  · have hqe : (X.toList == Y.toList) = true := by rw [hq]; exact beq_iff_eq.2 he
    by_cases hat : 0 ≤ atL n.ps charL
    · have hd : decide (0 ≤ atL n.ps charL) = true := decide_eq_true hat
      rw [hd] at HPA
      have HV : Hid (R = (n, set)) := Lib.hid (by rw [HV.out, if_neg (by simpa using he), if_neg (by omega)])
      clear hq hd
      go_enter Try.func28, Try.ntmps28
      go_upto_region 1 with fail
      have hP : (((w.alloc (.cells #[.string (bt m.t), .string (bt m.s), .slice A m.ps.length c] 33)).alloc (.cells #[.string (bt n.t), .string (bt n.s), .slice A2 n.ps.length c2] 33)).alloc (.cells #[.string ⟨#[]⟩, .string ⟨#[]⟩, .slice none 0 0] 33)).heap[w.heap.size]? = some (mimO m A c) := (Below.heap_alloc _ _ _ (by simp; omega)).trans ((Below.heap_alloc _ _ _ (by simp)).trans (heap_alloc_new w _))
      have hN : (((w.alloc (.cells #[.string (bt m.t), .string (bt m.s), .slice A m.ps.length c] 33)).alloc (.cells #[.string (bt n.t), .string (bt n.s), .slice A2 n.ps.length c2] 33)).alloc (.cells #[.string ⟨#[]⟩, .string ⟨#[]⟩, .slice none 0 0] 33)).heap[w.heap.size + 1]? = some (mimO n A2 c2) := (Below.heap_alloc _ _ _ (by simp)).trans (by
        rw [show w.heap.size + 1 = (w.alloc (.cells #[.string (bt m.t), .string (bt m.s), .slice A m.ps.length c] 33)).heap.size by simp]
        exact heap_alloc_new _ _)
      have hR : (((w.alloc (.cells #[.string (bt m.t), .string (bt m.s), .slice A m.ps.length c] 33)).alloc (.cells #[.string (bt n.t), .string (bt n.s), .slice A2 n.ps.length c2] 33)).alloc (.cells #[.string ⟨#[]⟩, .string ⟨#[]⟩, .slice none 0 0] 33)).heap[w.heap.size + 1 + 1]? = some (mimO noM none 0) := by
        rw [show w.heap.size + 1 + 1 = ((w.alloc (.cells #[.string (bt m.t), .string (bt m.s), .slice A m.ps.length c] 33)).alloc (.cells #[.string (bt n.t), .string (bt n.s), .slice A2 n.ps.length c2] 33)).heap.size by simp]
        exact heap_alloc_new _ _
      have hb : Below w.heap.size w (((w.alloc (.cells #[.string (bt m.t), .string (bt m.s), .slice A m.ps.length c] 33)).alloc (.cells #[.string (bt n.t), .string (bt n.s), .slice A2 n.ps.length c2] 33)).alloc (.cells #[.string ⟨#[]⟩, .string ⟨#[]⟩, .slice none 0 0] 33)) := ((below_box _ _).alloc (by simp) _).alloc (by simp; omega) _
      generalize (((w.alloc (.cells #[.string (bt m.t), .string (bt m.s), .slice A m.ps.length c] 33)).alloc (.cells #[.string (bt n.t), .string (bt n.s), .slice A2 n.ps.length c2] 33)).alloc (.cells #[.string ⟨#[]⟩, .string ⟨#[]⟩, .slice none 0 0] 33)) = W at *
      obtain ⟨p0, p1, p2, pz, plt⟩ := mim_cells hP
      obtain ⟨n0, n1, n2, nz, nlt⟩ := mim_cells hN
      obtain ⟨r0, r1, r2, rz, rlt⟩ := mim_cells hR
      go_wp2_with fail
      refine (HPA.out _ hb).mono ?_
      rintro e w1 ⟨rfl, hbn⟩
      clear p0 p1 p2 pz plt n0 n1 n2 nz nlt r0 r1 r2 rz rlt
      have hP := (hbn.block _ (Array.getElem?_eq_some_iff.1 hP).1).trans hP
      have hN := (hbn.block _ (Array.getElem?_eq_some_iff.1 hN).1).trans hN
      have hR := (hbn.block _ (Array.getElem?_eq_some_iff.1 hR).1).trans hR
      have hb := hb.trans (hbn.mono hb.size)
      clear hbn
      obtain ⟨p0, p1, p2, pz, plt⟩ := mim_cells hP
      obtain ⟨n0, n1, n2, nz, nlt⟩ := mim_cells hN
      obtain ⟨r0, r1, r2, rz, rlt⟩ := mim_cells hR
      go_upto_region 2 with fail
      have hx := @InB.cells w1
      refine wp_region_inb (by kernel_rfl) (by kernel_rfl) ?_; (repeat (first | go_big_quiet_skip | (go_big_quiet_want; go_big_quiet_op; first | go_big_quiet_on | (apply Exists.intro; refine ⟨fun x => ?_, ?_⟩; (· ((first | (go_at_call 41; with_reducible exact inb_call _ (HE1.out _)) | (go_at_call 41; with_reducible exact inb_call _ (HE2.out _))))); go_big_quiet_on)))); refine wpQuiet_nil ?_; intro _ hw'; obtain ⟨⟨wq, hbq⟩, rfl⟩ := hw'
      have hbn := hbq
      clear hx hbq
      clear p0 p1 p2 pz plt n0 n1 n2 nz nlt r0 r1 r2 rz rlt
      have hP := (hbn.block _ (Array.getElem?_eq_some_iff.1 hP).1).trans hP
      have hN := (hbn.block _ (Array.getElem?_eq_some_iff.1 hN).1).trans hN
      have hR := (hbn.block _ (Array.getElem?_eq_some_iff.1 hR).1).trans hR
      have hb := hb.trans (hbn.mono hb.size)
      clear hbn
      obtain ⟨p0, p1, p2, pz, plt⟩ := mim_cells hP
      obtain ⟨n0, n1, n2, nz, nlt⟩ := mim_cells hN
      obtain ⟨r0, r1, r2, rz, rlt⟩ := mim_cells hR
      have HO := Lib.hid (HOW.out _ hb)
      go_wp2_with fail
      refine HO.out.mono ?_
      rintro e w5 ⟨A3, c3, rfl, hA3, hbn, hf⟩
      unfold mimV
      have HF : Hid (∀ g, A3 = some ⟨g, 0, none⟩ → w.heap.size + 1 + 1 < g) := Lib.hid (fun g hg => by have := hf g hg; omega)
      have HA3 := Lib.hid hA3
      clear hA3 hf
      clear p0 p1 p2 pz plt n0 n1 n2 nz nlt r0 r1 r2 rz rlt
      have hP := (hbn.block _ (Array.getElem?_eq_some_iff.1 hP).1).trans hP
      have hN := (hbn.block _ (Array.getElem?_eq_some_iff.1 hN).1).trans hN
      have hR := (hbn.block _ (Array.getElem?_eq_some_iff.1 hR).1).trans hR
      have hb := hb.trans (hbn.mono hb.size)
      clear hbn
      have HB := Lib.hid hb
      obtain ⟨p0, p1, p2, pz, plt⟩ := mim_cells hP
      obtain ⟨n0, n1, n2, nz, nlt⟩ := mim_cells hN
      obtain ⟨r0, r1, r2, rz, rlt⟩ := mim_cells hR
      go_wp2_with fail
      refine bodyPost_ret (v := .tuple #[mimV n A3 c3, .string S]) ?_ rfl ?_
      · simp [results, Try.results28, go_sem, r0, r1, r2, mimV]
      · have hf : ∀ g, A3 = some ⟨g, 0, none⟩ → w.heap.size + 1 + 1 ≠ g := fun g hg => by have := HF.out g hg; omega
        refine ⟨A3, c3, by rw [HV.out, ← hS], ?_, ?_, fun g hg => by have := HF.out g hg; omega⟩
        · rw [HV.out]
          exact (((HA3.out.set hf _).set hf _).set hf _).more (by simp)
        · exact ((HB.out.setCell (show w.heap.size ≤ w.heap.size + 1 + 1 by omega) _).setCell (show w.heap.size ≤ w.heap.size + 1 + 1 by omega) _).setCell (show w.heap.size ≤ w.heap.size + 1 + 1 by omega) _
    · have hd : decide (0 ≤ atL n.ps charL) = false := decide_eq_false hat
      rw [hd] at HPA
      by_cases hse : set = []
      · have HV : Hid (R = (n, set)) := Lib.hid (by rw [HV.out, if_neg (by simpa using he), if_neg (by rintro ⟨_, h, _⟩; exact h hse)])
        have hset : S.toList = [] := by rw [← hS, Lib.toList_data]; exact hse
        have hset2 : S.toList.isEmpty = true := by rw [hset]; rfl
        clear hq hd
        go_enter Try.func28, Try.ntmps28
        go_upto_region 1 with fail
        have hP : (((w.alloc (.cells #[.string (bt m.t), .string (bt m.s), .slice A m.ps.length c] 33)).alloc (.cells #[.string (bt n.t), .string (bt n.s), .slice A2 n.ps.length c2] 33)).alloc (.cells #[.string ⟨#[]⟩, .string ⟨#[]⟩, .slice none 0 0] 33)).heap[w.heap.size]? = some (mimO m A c) := (Below.heap_alloc _ _ _ (by simp; omega)).trans ((Below.heap_alloc _ _ _ (by simp)).trans (heap_alloc_new w _))
        have hN : (((w.alloc (.cells #[.string (bt m.t), .string (bt m.s), .slice A m.ps.length c] 33)).alloc (.cells #[.string (bt n.t), .string (bt n.s), .slice A2 n.ps.length c2] 33)).alloc (.cells #[.string ⟨#[]⟩, .string ⟨#[]⟩, .slice none 0 0] 33)).heap[w.heap.size + 1]? = some (mimO n A2 c2) := (Below.heap_alloc _ _ _ (by simp)).trans (by
          rw [show w.heap.size + 1 = (w.alloc (.cells #[.string (bt m.t), .string (bt m.s), .slice A m.ps.length c] 33)).heap.size by simp]
          exact heap_alloc_new _ _)
        have hR : (((w.alloc (.cells #[.string (bt m.t), .string (bt m.s), .slice A m.ps.length c] 33)).alloc (.cells #[.string (bt n.t), .string (bt n.s), .slice A2 n.ps.length c2] 33)).alloc (.cells #[.string ⟨#[]⟩, .string ⟨#[]⟩, .slice none 0 0] 33)).heap[w.heap.size + 1 + 1]? = some (mimO noM none 0) := by
          rw [show w.heap.size + 1 + 1 = ((w.alloc (.cells #[.string (bt m.t), .string (bt m.s), .slice A m.ps.length c] 33)).alloc (.cells #[.string (bt n.t), .string (bt n.s), .slice A2 n.ps.length c2] 33)).heap.size by simp]
          exact heap_alloc_new _ _
        have hb : Below w.heap.size w (((w.alloc (.cells #[.string (bt m.t), .string (bt m.s), .slice A m.ps.length c] 33)).alloc (.cells #[.string (bt n.t), .string (bt n.s), .slice A2 n.ps.length c2] 33)).alloc (.cells #[.string ⟨#[]⟩, .string ⟨#[]⟩, .slice none 0 0] 33)) := ((below_box _ _).alloc (by simp) _).alloc (by simp; omega) _
        generalize (((w.alloc (.cells #[.string (bt m.t), .string (bt m.s), .slice A m.ps.length c] 33)).alloc (.cells #[.string (bt n.t), .string (bt n.s), .slice A2 n.ps.length c2] 33)).alloc (.cells #[.string ⟨#[]⟩, .string ⟨#[]⟩, .slice none 0 0] 33)) = W at *
        obtain ⟨p0, p1, p2, pz, plt⟩ := mim_cells hP
        obtain ⟨n0, n1, n2, nz, nlt⟩ := mim_cells hN
        obtain ⟨r0, r1, r2, rz, rlt⟩ := mim_cells hR
        go_wp2_with fail
        refine (HPA.out _ hb).mono ?_
        rintro e w1 ⟨rfl, hbn⟩
        clear p0 p1 p2 pz plt n0 n1 n2 nz nlt r0 r1 r2 rz rlt
        have hP := (hbn.block _ (Array.getElem?_eq_some_iff.1 hP).1).trans hP
        have hN := (hbn.block _ (Array.getElem?_eq_some_iff.1 hN).1).trans hN
        have hR := (hbn.block _ (Array.getElem?_eq_some_iff.1 hR).1).trans hR
        have hb := hb.trans (hbn.mono hb.size)
        clear hbn
        obtain ⟨p0, p1, p2, pz, plt⟩ := mim_cells hP
        obtain ⟨n0, n1, n2, nz, nlt⟩ := mim_cells hN
        obtain ⟨r0, r1, r2, rz, rlt⟩ := mim_cells hR
        go_upto_region 2 with fail
        have hx := @InB.cells w1
        refine wp_region_inb (by kernel_rfl) (by kernel_rfl) ?_; (repeat (first | go_big_quiet_skip | (go_big_quiet_want; go_big_quiet_op; first | go_big_quiet_on | (apply Exists.intro; refine ⟨fun x => ?_, ?_⟩; (· ((first | (go_at_call 41; with_reducible exact inb_call _ (HE1.out _)) | (go_at_call 41; with_reducible exact inb_call _ (HE2.out _))))); go_big_quiet_on)))); refine wpQuiet_nil ?_; intro _ hw'; obtain ⟨⟨wq, hbq⟩, rfl⟩ := hw'
        have hbn := hbq
        clear hx hbq
        clear p0 p1 p2 pz plt n0 n1 n2 nz nlt r0 r1 r2 rz rlt
        have hP := (hbn.block _ (Array.getElem?_eq_some_iff.1 hP).1).trans hP
        have hN := (hbn.block _ (Array.getElem?_eq_some_iff.1 hN).1).trans hN
        have hR := (hbn.block _ (Array.getElem?_eq_some_iff.1 hR).1).trans hR
        have hb := hb.trans (hbn.mono hb.size)
        clear hbn
        obtain ⟨p0, p1, p2, pz, plt⟩ := mim_cells hP
        obtain ⟨n0, n1, n2, nz, nlt⟩ := mim_cells hN
        obtain ⟨r0, r1, r2, rz, rlt⟩ := mim_cells hR
        have HO := Lib.hid (HOW.out _ hb)
        go_wp2_with fail
        refine HO.out.mono ?_
        rintro e w5 ⟨A3, c3, rfl, hA3, hbn, hf⟩
        unfold mimV
        have HF : Hid (∀ g, A3 = some ⟨g, 0, none⟩ → w.heap.size + 1 + 1 < g) := Lib.hid (fun g hg => by have := hf g hg; omega)
        have HA3 := Lib.hid hA3
        clear hA3 hf
        clear p0 p1 p2 pz plt n0 n1 n2 nz nlt r0 r1 r2 rz rlt
        have hP := (hbn.block _ (Array.getElem?_eq_some_iff.1 hP).1).trans hP
        have hN := (hbn.block _ (Array.getElem?_eq_some_iff.1 hN).1).trans hN
        have hR := (hbn.block _ (Array.getElem?_eq_some_iff.1 hR).1).trans hR
        have hb := hb.trans (hbn.mono hb.size)
        clear hbn
        have HB := Lib.hid hb
        obtain ⟨p0, p1, p2, pz, plt⟩ := mim_cells hP
        obtain ⟨n0, n1, n2, nz, nlt⟩ := mim_cells hN
        obtain ⟨r0, r1, r2, rz, rlt⟩ := mim_cells hR
        go_wp2_with fail
        refine bodyPost_ret (v := .tuple #[mimV n A3 c3, .string S]) ?_ rfl ?_
        · simp [results, Try.results28, go_sem, r0, r1, r2, mimV]
        · have hf : ∀ g, A3 = some ⟨g, 0, none⟩ → w.heap.size + 1 + 1 ≠ g := fun g hg => by have := HF.out g hg; omega
          refine ⟨A3, c3, by rw [HV.out, ← hS], ?_, ?_, fun g hg => by have := HF.out g hg; omega⟩
          · rw [HV.out]
            exact (((HA3.out.set hf _).set hf _).set hf _).more (by simp)
          · exact ((HB.out.setCell (show w.heap.size ≤ w.heap.size + 1 + 1 by omega) _).setCell (show w.heap.size ≤ w.heap.size + 1 + 1 by omega) _).setCell (show w.heap.size ≤ w.heap.size + 1 + 1 by omega) _
      · have hset : S.toList.isEmpty = false := by rw [← hS, bt_empty, List.isEmpty_eq_false_iff]; exact hse
        cases hg : goodL (withM n charL set)
        · have HV : Hid (R = (n, set)) := Lib.hid (by rw [HV.out, if_neg (by simpa using he), if_neg (by rintro ⟨_, _, h⟩; rw [hg] at h; cases h)])
          obtain ⟨k, hk, hk0⟩ : ∃ k : Int, ((withR n charL set).2 : Int) = k ∧ (k == 0) = false := by
            unfold withR
            rw [hg]
            simp only [Bool.false_eq_true, if_false]
            split
            · exact ⟨7, rfl, rfl⟩
            · exact ⟨2, rfl, rfl⟩
          rw [hk] at HWI
          generalize (withR n charL set).1 = Z at *
          clear hq hd hg hk
          go_enter Try.func28, Try.ntmps28
          go_upto_region 1 with fail
          have hP : (((w.alloc (.cells #[.string (bt m.t), .string (bt m.s), .slice A m.ps.length c] 33)).alloc (.cells #[.string (bt n.t), .string (bt n.s), .slice A2 n.ps.length c2] 33)).alloc (.cells #[.string ⟨#[]⟩, .string ⟨#[]⟩, .slice none 0 0] 33)).heap[w.heap.size]? = some (mimO m A c) := (Below.heap_alloc _ _ _ (by simp; omega)).trans ((Below.heap_alloc _ _ _ (by simp)).trans (heap_alloc_new w _))
          have hN : (((w.alloc (.cells #[.string (bt m.t), .string (bt m.s), .slice A m.ps.length c] 33)).alloc (.cells #[.string (bt n.t), .string (bt n.s), .slice A2 n.ps.length c2] 33)).alloc (.cells #[.string ⟨#[]⟩, .string ⟨#[]⟩, .slice none 0 0] 33)).heap[w.heap.size + 1]? = some (mimO n A2 c2) := (Below.heap_alloc _ _ _ (by simp)).trans (by
            rw [show w.heap.size + 1 = (w.alloc (.cells #[.string (bt m.t), .string (bt m.s), .slice A m.ps.length c] 33)).heap.size by simp]
            exact heap_alloc_new _ _)
          have hR : (((w.alloc (.cells #[.string (bt m.t), .string (bt m.s), .slice A m.ps.length c] 33)).alloc (.cells #[.string (bt n.t), .string (bt n.s), .slice A2 n.ps.length c2] 33)).alloc (.cells #[.string ⟨#[]⟩, .string ⟨#[]⟩, .slice none 0 0] 33)).heap[w.heap.size + 1 + 1]? = some (mimO noM none 0) := by
            rw [show w.heap.size + 1 + 1 = ((w.alloc (.cells #[.string (bt m.t), .string (bt m.s), .slice A m.ps.length c] 33)).alloc (.cells #[.string (bt n.t), .string (bt n.s), .slice A2 n.ps.length c2] 33)).heap.size by simp]
            exact heap_alloc_new _ _
          have hb : Below w.heap.size w (((w.alloc (.cells #[.string (bt m.t), .string (bt m.s), .slice A m.ps.length c] 33)).alloc (.cells #[.string (bt n.t), .string (bt n.s), .slice A2 n.ps.length c2] 33)).alloc (.cells #[.string ⟨#[]⟩, .string ⟨#[]⟩, .slice none 0 0] 33)) := ((below_box _ _).alloc (by simp) _).alloc (by simp; omega) _
          generalize (((w.alloc (.cells #[.string (bt m.t), .string (bt m.s), .slice A m.ps.length c] 33)).alloc (.cells #[.string (bt n.t), .string (bt n.s), .slice A2 n.ps.length c2] 33)).alloc (.cells #[.string ⟨#[]⟩, .string ⟨#[]⟩, .slice none 0 0] 33)) = W at *
          obtain ⟨p0, p1, p2, pz, plt⟩ := mim_cells hP
          obtain ⟨n0, n1, n2, nz, nlt⟩ := mim_cells hN
          obtain ⟨r0, r1, r2, rz, rlt⟩ := mim_cells hR
          go_wp2_with fail
          refine (HPA.out _ hb).mono ?_
          rintro e w1 ⟨rfl, hbn⟩
          clear p0 p1 p2 pz plt n0 n1 n2 nz nlt r0 r1 r2 rz rlt
          have hP := (hbn.block _ (Array.getElem?_eq_some_iff.1 hP).1).trans hP
          have hN := (hbn.block _ (Array.getElem?_eq_some_iff.1 hN).1).trans hN
          have hR := (hbn.block _ (Array.getElem?_eq_some_iff.1 hR).1).trans hR
          have hb := hb.trans (hbn.mono hb.size)
          clear hbn
          obtain ⟨p0, p1, p2, pz, plt⟩ := mim_cells hP
          obtain ⟨n0, n1, n2, nz, nlt⟩ := mim_cells hN
          obtain ⟨r0, r1, r2, rz, rlt⟩ := mim_cells hR
          go_upto_region 2 with fail
          have hx := @InB.cells w1
          refine wp_region_inb (by kernel_rfl) (by kernel_rfl) ?_; (repeat (first | go_big_quiet_skip | (go_big_quiet_want; go_big_quiet_op; first | go_big_quiet_on | (apply Exists.intro; refine ⟨fun x => ?_, ?_⟩; (· ((first | (go_at_call 41; with_reducible exact inb_call _ (HE1.out _)) | (go_at_call 41; with_reducible exact inb_call _ (HE2.out _))))); go_big_quiet_on)))); refine wpQuiet_nil ?_; intro _ hw'; obtain ⟨⟨wq, hbq⟩, rfl⟩ := hw'
          have hbn := hbq
          clear hx hbq
          clear p0 p1 p2 pz plt n0 n1 n2 nz nlt r0 r1 r2 rz rlt
          have hP := (hbn.block _ (Array.getElem?_eq_some_iff.1 hP).1).trans hP
          have hN := (hbn.block _ (Array.getElem?_eq_some_iff.1 hN).1).trans hN
          have hR := (hbn.block _ (Array.getElem?_eq_some_iff.1 hR).1).trans hR
          have hb := hb.trans (hbn.mono hb.size)
          clear hbn
          obtain ⟨p0, p1, p2, pz, plt⟩ := mim_cells hP
          obtain ⟨n0, n1, n2, nz, nlt⟩ := mim_cells hN
          obtain ⟨r0, r1, r2, rz, rlt⟩ := mim_cells hR
          have HRL := Lib.hid rlt
          go_upto_region 5 with fail
          have HW5 := Lib.hid (HWI.out _ hb)
          go_wp2_with fail
          refine HW5.out.mono ?_
          rintro e w4 ⟨A4, c4, rfl, hA4, hbn, hf4⟩
          clear p0 p1 p2 pz plt n0 n1 n2 nz nlt r0 r1 r2 rz rlt
          have hP := (hbn.block _ (Array.getElem?_eq_some_iff.1 hP).1).trans hP
          have hN := (hbn.block _ (Array.getElem?_eq_some_iff.1 hN).1).trans hN
          have hR := (hbn.block _ (Array.getElem?_eq_some_iff.1 hR).1).trans hR
          have hb := hb.trans (hbn.mono hb.size)
          clear hbn
          have hP : (w4.alloc (.cells #[.string (bt Z.t), .string (bt Z.s), .slice A4 Z.ps.length c4] 33)).heap[w.heap.size]? = _ := (Below.heap_alloc _ _ _ (Array.getElem?_eq_some_iff.1 hP).1).trans hP
          have hN : (w4.alloc (.cells #[.string (bt Z.t), .string (bt Z.s), .slice A4 Z.ps.length c4] 33)).heap[w.heap.size + 1]? = _ := (Below.heap_alloc _ _ _ (Array.getElem?_eq_some_iff.1 hN).1).trans hN
          have hR : (w4.alloc (.cells #[.string (bt Z.t), .string (bt Z.s), .slice A4 Z.ps.length c4] 33)).heap[w.heap.size + 1 + 1]? = _ := (Below.heap_alloc _ _ _ (Array.getElem?_eq_some_iff.1 hR).1).trans hR
          have hZ : (w4.alloc (.cells #[.string (bt Z.t), .string (bt Z.s), .slice A4 Z.ps.length c4] 33)).heap[w4.heap.size]? = some (mimO Z A4 c4) := heap_alloc_new w4 _
          have hA5 : ParsAt (w4.alloc (.cells #[.string (bt Z.t), .string (bt Z.s), .slice A4 Z.ps.length c4] 33)) (w4.alloc (.cells #[.string (bt Z.t), .string (bt Z.s), .slice A4 Z.ps.length c4] 33)).heap.size A4 Z.ps := hA4.on (below_box w4 _)
          have hb := hb.alloc hb.size (.cells #[.string (bt Z.t), .string (bt Z.s), .slice A4 Z.ps.length c4] 33)
          go_upto_region 6 with fail
          generalize hz4 : w4.heap.size = gz at *
          generalize w4.alloc (.cells #[.string (bt Z.t), .string (bt Z.s), .slice A4 Z.ps.length c4] 33) = v4 at *
          clear hz4 hA4 HW5
          clear hZ hA5 hf4
          obtain ⟨p0, p1, p2, pz, plt⟩ := mim_cells hP
          obtain ⟨n0, n1, n2, nz, nlt⟩ := mim_cells hN
          obtain ⟨r0, r1, r2, rz, rlt⟩ := mim_cells hR
          have HO := Lib.hid (HOW.out _ hb)
          go_wp2_with fail
          refine HO.out.mono ?_
          rintro e w5 ⟨A3, c3, rfl, hA3, hbn, hf⟩
          unfold mimV
          have HF : Hid (∀ g, A3 = some ⟨g, 0, none⟩ → w.heap.size + 1 + 1 < g) := Lib.hid (fun g hg => by have := hf g hg; omega)
          have HA3 := Lib.hid hA3
          clear hA3 hf
          clear p0 p1 p2 pz plt n0 n1 n2 nz nlt r0 r1 r2 rz rlt
          have hP := (hbn.block _ (Array.getElem?_eq_some_iff.1 hP).1).trans hP
          have hN := (hbn.block _ (Array.getElem?_eq_some_iff.1 hN).1).trans hN
          have hR := (hbn.block _ (Array.getElem?_eq_some_iff.1 hR).1).trans hR
          have hb := hb.trans (hbn.mono hb.size)
          clear hbn
          have HB := Lib.hid hb
          obtain ⟨p0, p1, p2, pz, plt⟩ := mim_cells hP
          obtain ⟨n0, n1, n2, nz, nlt⟩ := mim_cells hN
          obtain ⟨r0, r1, r2, rz, rlt⟩ := mim_cells hR
          go_wp2_with fail
          refine bodyPost_ret (v := .tuple #[mimV n A3 c3, .string S]) ?_ rfl ?_
          · simp [results, Try.results28, go_sem, r0, r1, r2, mimV]
          · have hf : ∀ g, A3 = some ⟨g, 0, none⟩ → w.heap.size + 1 + 1 ≠ g := fun g hg => by have := HF.out g hg; omega
            refine ⟨A3, c3, by rw [HV.out, ← hS], ?_, ?_, fun g hg => by have := HF.out g hg; omega⟩
            · rw [HV.out]
              exact (((HA3.out.set hf _).set hf _).set hf _).more (by simp)
            · exact ((HB.out.setCell (show w.heap.size ≤ w.heap.size + 1 + 1 by omega) _).setCell (show w.heap.size ≤ w.heap.size + 1 + 1 by omega) _).setCell (show w.heap.size ≤ w.heap.size + 1 + 1 by omega) _
        · have HV : Hid (R = (withM n charL set, set)) := Lib.hid (by rw [HV.out, if_neg (by simpa using he), if_pos ⟨by omega, hse, hg⟩])
          have hw : withR n charL set = (withM n charL set, 0) := by unfold withR; rw [hg]; rfl
          rw [show ((withR n charL set).2 : Int) = 0 by rw [hw]; rfl, hw] at HWI
          simp only at HWI
          generalize withM n charL set = Z at *
          clear hq hd hg hw
          go_enter Try.func28, Try.ntmps28
          go_upto_region 1 with fail
          have hP : (((w.alloc (.cells #[.string (bt m.t), .string (bt m.s), .slice A m.ps.length c] 33)).alloc (.cells #[.string (bt n.t), .string (bt n.s), .slice A2 n.ps.length c2] 33)).alloc (.cells #[.string ⟨#[]⟩, .string ⟨#[]⟩, .slice none 0 0] 33)).heap[w.heap.size]? = some (mimO m A c) := (Below.heap_alloc _ _ _ (by simp; omega)).trans ((Below.heap_alloc _ _ _ (by simp)).trans (heap_alloc_new w _))
          have hN : (((w.alloc (.cells #[.string (bt m.t), .string (bt m.s), .slice A m.ps.length c] 33)).alloc (.cells #[.string (bt n.t), .string (bt n.s), .slice A2 n.ps.length c2] 33)).alloc (.cells #[.string ⟨#[]⟩, .string ⟨#[]⟩, .slice none 0 0] 33)).heap[w.heap.size + 1]? = some (mimO n A2 c2) := (Below.heap_alloc _ _ _ (by simp)).trans (by
            rw [show w.heap.size + 1 = (w.alloc (.cells #[.string (bt m.t), .string (bt m.s), .slice A m.ps.length c] 33)).heap.size by simp]
            exact heap_alloc_new _ _)
          have hR : (((w.alloc (.cells #[.string (bt m.t), .string (bt m.s), .slice A m.ps.length c] 33)).alloc (.cells #[.string (bt n.t), .string (bt n.s), .slice A2 n.ps.length c2] 33)).alloc (.cells #[.string ⟨#[]⟩, .string ⟨#[]⟩, .slice none 0 0] 33)).heap[w.heap.size + 1 + 1]? = some (mimO noM none 0) := by
            rw [show w.heap.size + 1 + 1 = ((w.alloc (.cells #[.string (bt m.t), .string (bt m.s), .slice A m.ps.length c] 33)).alloc (.cells #[.string (bt n.t), .string (bt n.s), .slice A2 n.ps.length c2] 33)).heap.size by simp]
            exact heap_alloc_new _ _
          have hb : Below w.heap.size w (((w.alloc (.cells #[.string (bt m.t), .string (bt m.s), .slice A m.ps.length c] 33)).alloc (.cells #[.string (bt n.t), .string (bt n.s), .slice A2 n.ps.length c2] 33)).alloc (.cells #[.string ⟨#[]⟩, .string ⟨#[]⟩, .slice none 0 0] 33)) := ((below_box _ _).alloc (by simp) _).alloc (by simp; omega) _
          generalize (((w.alloc (.cells #[.string (bt m.t), .string (bt m.s), .slice A m.ps.length c] 33)).alloc (.cells #[.string (bt n.t), .string (bt n.s), .slice A2 n.ps.length c2] 33)).alloc (.cells #[.string ⟨#[]⟩, .string ⟨#[]⟩, .slice none 0 0] 33)) = W at *
          obtain ⟨p0, p1, p2, pz, plt⟩ := mim_cells hP
          obtain ⟨n0, n1, n2, nz, nlt⟩ := mim_cells hN
          obtain ⟨r0, r1, r2, rz, rlt⟩ := mim_cells hR
          go_wp2_with fail
          refine (HPA.out _ hb).mono ?_
          rintro e w1 ⟨rfl, hbn⟩
          clear p0 p1 p2 pz plt n0 n1 n2 nz nlt r0 r1 r2 rz rlt
          have hP := (hbn.block _ (Array.getElem?_eq_some_iff.1 hP).1).trans hP
          have hN := (hbn.block _ (Array.getElem?_eq_some_iff.1 hN).1).trans hN
          have hR := (hbn.block _ (Array.getElem?_eq_some_iff.1 hR).1).trans hR
          have hb := hb.trans (hbn.mono hb.size)
          clear hbn
          obtain ⟨p0, p1, p2, pz, plt⟩ := mim_cells hP
          obtain ⟨n0, n1, n2, nz, nlt⟩ := mim_cells hN
          obtain ⟨r0, r1, r2, rz, rlt⟩ := mim_cells hR
          go_upto_region 2 with fail
          have hx := @InB.cells w1
          refine wp_region_inb (by kernel_rfl) (by kernel_rfl) ?_; (repeat (first | go_big_quiet_skip | (go_big_quiet_want; go_big_quiet_op; first | go_big_quiet_on | (apply Exists.intro; refine ⟨fun x => ?_, ?_⟩; (· ((first | (go_at_call 41; with_reducible exact inb_call _ (HE1.out _)) | (go_at_call 41; with_reducible exact inb_call _ (HE2.out _))))); go_big_quiet_on)))); refine wpQuiet_nil ?_; intro _ hw'; obtain ⟨⟨wq, hbq⟩, rfl⟩ := hw'
          have hbn := hbq
          clear hx hbq
          clear p0 p1 p2 pz plt n0 n1 n2 nz nlt r0 r1 r2 rz rlt
          have hP := (hbn.block _ (Array.getElem?_eq_some_iff.1 hP).1).trans hP
          have hN := (hbn.block _ (Array.getElem?_eq_some_iff.1 hN).1).trans hN
          have hR := (hbn.block _ (Array.getElem?_eq_some_iff.1 hR).1).trans hR
          have hb := hb.trans (hbn.mono hb.size)
          clear hbn
          obtain ⟨p0, p1, p2, pz, plt⟩ := mim_cells hP
          obtain ⟨n0, n1, n2, nz, nlt⟩ := mim_cells hN
          obtain ⟨r0, r1, r2, rz, rlt⟩ := mim_cells hR
          have HRL := Lib.hid rlt
          go_upto_region 5 with fail
          have HW5 := Lib.hid (HWI.out _ hb)
          go_wp2_with fail
          refine HW5.out.mono ?_
          rintro e w4 ⟨A4, c4, rfl, hA4, hbn, hf4⟩
          clear p0 p1 p2 pz plt n0 n1 n2 nz nlt r0 r1 r2 rz rlt
          have hP := (hbn.block _ (Array.getElem?_eq_some_iff.1 hP).1).trans hP
          have hN := (hbn.block _ (Array.getElem?_eq_some_iff.1 hN).1).trans hN
          have hR := (hbn.block _ (Array.getElem?_eq_some_iff.1 hR).1).trans hR
          have hb := hb.trans (hbn.mono hb.size)
          clear hbn
          have hP : (w4.alloc (.cells #[.string (bt Z.t), .string (bt Z.s), .slice A4 Z.ps.length c4] 33)).heap[w.heap.size]? = _ := (Below.heap_alloc _ _ _ (Array.getElem?_eq_some_iff.1 hP).1).trans hP
          have hN : (w4.alloc (.cells #[.string (bt Z.t), .string (bt Z.s), .slice A4 Z.ps.length c4] 33)).heap[w.heap.size + 1]? = _ := (Below.heap_alloc _ _ _ (Array.getElem?_eq_some_iff.1 hN).1).trans hN
          have hR : (w4.alloc (.cells #[.string (bt Z.t), .string (bt Z.s), .slice A4 Z.ps.length c4] 33)).heap[w.heap.size + 1 + 1]? = _ := (Below.heap_alloc _ _ _ (Array.getElem?_eq_some_iff.1 hR).1).trans hR
          have hZ : (w4.alloc (.cells #[.string (bt Z.t), .string (bt Z.s), .slice A4 Z.ps.length c4] 33)).heap[w4.heap.size]? = some (mimO Z A4 c4) := heap_alloc_new w4 _
          have hA5 : ParsAt (w4.alloc (.cells #[.string (bt Z.t), .string (bt Z.s), .slice A4 Z.ps.length c4] 33)) (w4.alloc (.cells #[.string (bt Z.t), .string (bt Z.s), .slice A4 Z.ps.length c4] 33)).heap.size A4 Z.ps := hA4.on (below_box w4 _)
          have hb := hb.alloc hb.size (.cells #[.string (bt Z.t), .string (bt Z.s), .slice A4 Z.ps.length c4] 33)
          go_upto_region 6 with fail
          generalize hz4 : w4.heap.size = gz at *
          generalize w4.alloc (.cells #[.string (bt Z.t), .string (bt Z.s), .slice A4 Z.ps.length c4] 33) = v4 at *
          clear hz4 hA4 HW5
          have HF : Hid (∀ g, A4 = some ⟨g, 0, none⟩ → w.heap.size + 1 + 1 < g) := Lib.hid (fun g hg => by have := hf4 g hg; have := HRL.out; omega)
          have HA3 := Lib.hid hA5
          have HB := Lib.hid hb
          obtain ⟨z0, z1, z2, zz, zlt⟩ := mim_cells hZ
          obtain ⟨p0, p1, p2, pz, plt⟩ := mim_cells hP
          obtain ⟨n0, n1, n2, nz, nlt⟩ := mim_cells hN
          obtain ⟨r0, r1, r2, rz, rlt⟩ := mim_cells hR
          clear hA5 hf4
          go_wp2_with fail
          refine bodyPost_ret (v := .tuple #[mimV Z A4 c4, .string S]) ?_ rfl ?_
          · simp [results, Try.results28, go_sem, r0, r1, r2, mimV]
          · have hf : ∀ g, A4 = some ⟨g, 0, none⟩ → w.heap.size + 1 + 1 ≠ g := fun g hg => by have := HF.out g hg; omega
            refine ⟨A4, c4, by rw [HV.out, ← hS], ?_, ?_, fun g hg => by have := HF.out g hg; omega⟩
            · rw [HV.out]
              exact (((HA3.out.set hf _).set hf _).set hf _).more (by simp)
            · exact ((HB.out.setCell (show w.heap.size ≤ w.heap.size + 1 + 1 by omega) _).setCell (show w.heap.size ≤ w.heap.size + 1 + 1 by omega) _).setCell (show w.heap.size ≤ w.heap.size + 1 + 1 by omega) _
  · have hqe : (X.toList == Y.toList) = false := by rw [hq]; exact beq_eq_false_iff_ne.2 he
    have HV : Hid (R = (n, setOf n)) := Lib.hid (by rw [HV.out, if_pos he])
    clear hq
    go_enter Try.func28, Try.ntmps28
    go_upto_region 1 with fail
    have hP : (((w.alloc (.cells #[.string (bt m.t), .string (bt m.s), .slice A m.ps.length c] 33)).alloc (.cells #[.string (bt n.t), .string (bt n.s), .slice A2 n.ps.length c2] 33)).alloc (.cells #[.string ⟨#[]⟩, .string ⟨#[]⟩, .slice none 0 0] 33)).heap[w.heap.size]? = some (mimO m A c) := (Below.heap_alloc _ _ _ (by simp; omega)).trans ((Below.heap_alloc _ _ _ (by simp)).trans (heap_alloc_new w _))
    have hN : (((w.alloc (.cells #[.string (bt m.t), .string (bt m.s), .slice A m.ps.length c] 33)).alloc (.cells #[.string (bt n.t), .string (bt n.s), .slice A2 n.ps.length c2] 33)).alloc (.cells #[.string ⟨#[]⟩, .string ⟨#[]⟩, .slice none 0 0] 33)).heap[w.heap.size + 1]? = some (mimO n A2 c2) := (Below.heap_alloc _ _ _ (by simp)).trans (by
      rw [show w.heap.size + 1 = (w.alloc (.cells #[.string (bt m.t), .string (bt m.s), .slice A m.ps.length c] 33)).heap.size by simp]
      exact heap_alloc_new _ _)
    have hR : (((w.alloc (.cells #[.string (bt m.t), .string (bt m.s), .slice A m.ps.length c] 33)).alloc (.cells #[.string (bt n.t), .string (bt n.s), .slice A2 n.ps.length c2] 33)).alloc (.cells #[.string ⟨#[]⟩, .string ⟨#[]⟩, .slice none 0 0] 33)).heap[w.heap.size + 1 + 1]? = some (mimO noM none 0) := by
      rw [show w.heap.size + 1 + 1 = ((w.alloc (.cells #[.string (bt m.t), .string (bt m.s), .slice A m.ps.length c] 33)).alloc (.cells #[.string (bt n.t), .string (bt n.s), .slice A2 n.ps.length c2] 33)).heap.size by simp]
      exact heap_alloc_new _ _
    have hb : Below w.heap.size w (((w.alloc (.cells #[.string (bt m.t), .string (bt m.s), .slice A m.ps.length c] 33)).alloc (.cells #[.string (bt n.t), .string (bt n.s), .slice A2 n.ps.length c2] 33)).alloc (.cells #[.string ⟨#[]⟩, .string ⟨#[]⟩, .slice none 0 0] 33)) := ((below_box _ _).alloc (by simp) _).alloc (by simp; omega) _
    generalize (((w.alloc (.cells #[.string (bt m.t), .string (bt m.s), .slice A m.ps.length c] 33)).alloc (.cells #[.string (bt n.t), .string (bt n.s), .slice A2 n.ps.length c2] 33)).alloc (.cells #[.string ⟨#[]⟩, .string ⟨#[]⟩, .slice none 0 0] 33)) = W at *
    obtain ⟨p0, p1, p2, pz, plt⟩ := mim_cells hP
    obtain ⟨n0, n1, n2, nz, nlt⟩ := mim_cells hN
    obtain ⟨r0, r1, r2, rz, rlt⟩ := mim_cells hR
    go_wp2_with fail
    refine (HPA.out _ hb).mono ?_
    rintro e w1 ⟨rfl, hbn⟩
    clear p0 p1 p2 pz plt n0 n1 n2 nz nlt r0 r1 r2 rz rlt
    have hP := (hbn.block _ (Array.getElem?_eq_some_iff.1 hP).1).trans hP
    have hN := (hbn.block _ (Array.getElem?_eq_some_iff.1 hN).1).trans hN
    have hR := (hbn.block _ (Array.getElem?_eq_some_iff.1 hR).1).trans hR
    have hb := hb.trans (hbn.mono hb.size)
    clear hbn
    obtain ⟨p0, p1, p2, pz, plt⟩ := mim_cells hP
    obtain ⟨n0, n1, n2, nz, nlt⟩ := mim_cells hN
    obtain ⟨r0, r1, r2, rz, rlt⟩ := mim_cells hR
    go_upto_region 2 with fail
    have hx := @InB.cells w1
    refine wp_region_inb (by kernel_rfl) (by kernel_rfl) ?_; (repeat (first | go_big_quiet_skip | (go_big_quiet_want; go_big_quiet_op; first | go_big_quiet_on | (apply Exists.intro; refine ⟨fun x => ?_, ?_⟩; (· ((first | (go_at_call 41; with_reducible exact inb_call _ (HE1.out _)) | (go_at_call 41; with_reducible exact inb_call _ (HE2.out _))))); go_big_quiet_on)))); refine wpQuiet_nil ?_; intro _ hw'; obtain ⟨⟨wq, hbq⟩, rfl⟩ := hw'
    have hbn := hbq
    clear hx hbq
    clear p0 p1 p2 pz plt n0 n1 n2 nz nlt r0 r1 r2 rz rlt
    have hP := (hbn.block _ (Array.getElem?_eq_some_iff.1 hP).1).trans hP
    have hN := (hbn.block _ (Array.getElem?_eq_some_iff.1 hN).1).trans hN
    have hR := (hbn.block _ (Array.getElem?_eq_some_iff.1 hR).1).trans hR
    have hb := hb.trans (hbn.mono hb.size)
    clear hbn
    obtain ⟨p0, p1, p2, pz, plt⟩ := mim_cells hP
    obtain ⟨n0, n1, n2, nz, nlt⟩ := mim_cells hN
    obtain ⟨r0, r1, r2, rz, rlt⟩ := mim_cells hR
    have HO := Lib.hid (HOW.out _ hb)
    go_wp2_with fail
    refine HO.out.mono ?_
    rintro e w5 ⟨A3, c3, rfl, hA3, hbn, hf⟩
    unfold mimV
    have HF : Hid (∀ g, A3 = some ⟨g, 0, none⟩ → w.heap.size + 1 + 1 < g) := Lib.hid (fun g hg => by have := hf g hg; omega)
    have HA3 := Lib.hid hA3
    clear hA3 hf
    clear p0 p1 p2 pz plt n0 n1 n2 nz nlt r0 r1 r2 rz rlt
    have hP := (hbn.block _ (Array.getElem?_eq_some_iff.1 hP).1).trans hP
    have hN := (hbn.block _ (Array.getElem?_eq_some_iff.1 hN).1).trans hN
    have hR := (hbn.block _ (Array.getElem?_eq_some_iff.1 hR).1).trans hR
    have hb := hb.trans (hbn.mono hb.size)
    clear hbn
    have HB := Lib.hid hb
    obtain ⟨p0, p1, p2, pz, plt⟩ := mim_cells hP
    obtain ⟨n0, n1, n2, nz, nlt⟩ := mim_cells hN
    obtain ⟨r0, r1, r2, rz, rlt⟩ := mim_cells hR
    go_wp2_with fail
    refine bodyPost_ret (v := .tuple #[mimV n A3 c3, .string (bt (setOf n))]) ?_ rfl ?_
    · simp [results, Try.results28, go_sem, r0, r1, r2, mimV]
    · have hf : ∀ g, A3 = some ⟨g, 0, none⟩ → w.heap.size + 1 + 1 ≠ g := fun g hg => by have := HF.out g hg; omega
      refine ⟨A3, c3, by rw [HV.out], ?_, ?_, fun g hg => by have := HF.out g hg; omega⟩
      · rw [HV.out]
        exact (((HA3.out.set hf _).set hf _).set hf _).more (by simp)
      · exact ((HB.out.setCell (show w.heap.size ≤ w.heap.size + 1 + 1 by omega) _).setCell (show w.heap.size ≤ w.heap.size + 1 + 1 by omega) _).setCell (show w.heap.size ≤ w.heap.size + 1 + 1 by omega) _

end Go.Proofs.Ytdkkbibdjagjjaa

namespace Go.Proofs.Ytdkkbibdjagjjaa
open Go.RowKit
set_option linter.unusedSimpArgs false
set_option linter.unusedVariables false

theorem piece_size (s : ByteArray) : (pieceB s).size ≤ s.size := by
  have h1 := endsB_size s
  rw [Lib.size_eq, piece_list]
  have h2 := (List.dropWhile_sublist (l := (endsB s).data.toList) isTab).length_le
  rw [Lib.size_eq] at h1
  omega

theorem splitL_sizes (n : Nat) : ∀ (T l : List UInt8), l.length ≤ n → (∀ p ∈ splitL T l, p.size ≤ T.length + l.length) ∧ (splitL T l).length ≤ l.length + 1 := by
  induction n with
  | zero =>
    intro T l h
    obtain rfl : l = [] := List.eq_nil_of_length_eq_zero (by omega)
    rw [splitL_end]
    refine ⟨fun p hp => ?_, by simp⟩
    simp at hp
    subst hp
    have := piece_size ⟨T.toArray⟩
    rw [Lib.size_eq ⟨T.toArray⟩] at this
    simpa using this
  | succ n ih =>
    intro T l h
    match l, h with
    | [], _ =>
      rw [splitL_end]
      refine ⟨fun p hp => ?_, by simp⟩
      simp at hp
      subst hp
      have := piece_size ⟨T.toArray⟩
      rw [Lib.size_eq ⟨T.toArray⟩] at this
      simpa using this
    | b :: r, h =>
      rw [List.length_cons] at h
      by_cases h34 : b = 34
      · subst h34
        rw [splitL_quote]
        have hr := (readL_le r).1
        have hd : (r.drop (readL r).2).length ≤ n := by rw [List.length_drop]; omega
        obtain ⟨i1, i2⟩ := ih (T ++ 34 :: r.take (readL r).2) (r.drop (readL r).2) hd
        rw [List.length_drop] at i1 i2
        refine ⟨fun p hp => ?_, by rw [List.length_cons]; omega⟩
        have := i1 p hp
        rw [List.length_append, List.length_cons, List.length_take] at this
        rw [List.length_cons]
        omega
      · by_cases h44 : b = 44
        · subst h44
          rw [splitL_comma]
          obtain ⟨i1, i2⟩ := ih [] r (by omega)
          refine ⟨fun p hp => ?_, by rw [List.length_cons, List.length_cons]; omega⟩
          rw [List.length_cons]
          rcases List.mem_cons.1 hp with rfl | hp
          · have := piece_size ⟨T.toArray⟩
            rw [Lib.size_eq ⟨T.toArray⟩] at this
            simp at this
            omega
          · have := i1 p hp
            simp at this
            omega
        · rw [splitL_other _ _ _ h34 h44]
          obtain ⟨i1, i2⟩ := ih (T ++ [b]) r (by omega)
          refine ⟨fun p hp => ?_, by rw [List.length_cons]; omega⟩
          have := i1 p hp
          rw [List.length_append, List.length_singleton] at this
          rw [List.length_cons]
          omega

theorem values_sizes (l : List ByteArray) (N : Nat) (hN : (joinL l).length ≤ N) : (∀ p ∈ valuesL l, p.size ≤ N) ∧ (valuesL l).length ≤ N + 1 := by
  unfold valuesL
  split
  · exact ⟨fun p hp => (by cases hp), by simp⟩
  · obtain ⟨h1, h2⟩ := splitL_sizes (joinL l).length [] (joinL l) (Nat.le_refl _)
    refine ⟨fun p hp => ?_, ?_⟩
    · have := h1 p hp
      simp at this
      omega
    · show (splitL [] (joinL l)).length ≤ _
      omega

/-- Types in a row, each with where its parameters stand. -/
abbrev MRow := List (MimeL × Option Addr × Nat)

def cellsM (t : MimeL × Option Addr × Nat) : List Value := [.string (bt t.1.t), .string (bt t.1.s), .slice t.2.1 t.1.ps.length t.2.2]

def rowM (ts : MRow) : List Value := ts.flatMap cellsM

theorem rowM_snoc (ts : MRow) (t : MimeL × Option Addr × Nat) : rowM (ts ++ [t]) = rowM ts ++ cellsM t := by simp [rowM]

theorem rowM_length (ts : MRow) : (rowM ts).length = ts.length * 3 := by
  induction ts with
  | nil => rfl
  | cons t ts ih =>
    have e : rowM (t :: ts) = cellsM t ++ rowM ts := rfl
    rw [e, List.length_append, ih, List.length_cons]
    simp only [cellsM, List.length_cons, List.length_nil]
    omega

theorem rowM_at (ts : MRow) (i : Nat) (hi : i < ts.length) (j : Nat) (hj : j < 3) : (rowM ts)[i * 3 + j]? = (cellsM ts[i])[j]? := by
  induction ts generalizing i with
  | nil => cases hi
  | cons t ts ih =>
    have e : rowM (t :: ts) = cellsM t ++ rowM ts := rfl
    have hl : (cellsM t).length = 3 := rfl
    rw [e]
    cases i with
    | zero => rw [Nat.zero_mul, Nat.zero_add, List.getElem?_append_left (by omega)]; rfl
    | succ i =>
      rw [List.getElem?_append_right (by rw [hl]; omega), hl, show (i + 1) * 3 + j - 3 = i * 3 + j by omega]
      exact ih i (by simpa using hi)

/-- A row's block is not the texts'. -/
def ApartS (v : Value) (A : Option Addr) (l : List ByteArray) : Prop := l = [] ∨ ∀ b off, A = some ⟨b, off, none⟩ → v.ownBlock ≠ some b

theorem StrsIn.grown {w w' : World} {A : Option Addr} {l : List ByteArray} {v : Value} (h : StrsIn w A l) (hg : w.grownBy w' v.ownBlock) (ha : ApartS v A l) : StrsIn w' A l := by
  rcases h with h | ⟨b, off, hA, hlt, hc⟩
  · exact .inl h
  · rcases ha with ha | ha
    · exact .inl ha
    · have hne := ha b off hA
      exact .inr ⟨b, off, hA, Nat.lt_of_lt_of_le hlt hg.size, fun i hi => hg.cell (hc i hi) (fun e => hne e.symm)⟩

theorem ApartS.next {W : World} {v : Value} {A : Option Addr} {l : List ByteArray} {g3 n c H : Nat} (h : ApartS v A l) (hA : StrsIn W A l) (hat : v.ownBlock = some g3 ∨ g3 = H) (hH : W.heap.size ≤ H) : ApartS (.slice (some ⟨g3, 0, none⟩) n c) A l := by
  rcases h with h | h
  · exact .inl h
  · rcases hA with hA | ⟨b0, off0, hA, hlt, _⟩
    · exact .inl hA
    · refine .inr fun b off hb e => ?_
      rw [hA] at hb
      injection hb with hb
      injection hb with e1 e2 _
      subst e1
      simp [Value.ownBlock] at e
      subst e
      rcases hat with hat | hat
      · exact h g3 off0 hA hat
      · omega

/-- The parameters of each stand below a bound, apart from a block. -/
def StandM (w : World) (B : Nat) (row : Option Nat) (ts : MRow) : Prop :=
  ∀ t ∈ ts, ParsAt w B t.2.1 t.1.ps ∧ (t.1.ps = [] ∨ ∀ g, t.2.1 = some ⟨g, 0, none⟩ → row ≠ some g)

theorem ParsAt.lt_of {w : World} {B : Nat} {A : Option Addr} {l : Pars} (h : ParsAt w B A l) (hl : l ≠ []) {g : Nat} (hg : A = some ⟨g, 0, none⟩) : g < B := by
  rcases h with h | ⟨g2, hA, hlt, _⟩
  · exact absurd h hl
  · rw [hg] at hA
    injection hA with hA
    injection hA with e1 _ _
    omega

theorem ParsAt.grown {w w' : World} {B : Nat} {A : Option Addr} {l : Pars} {row : Option Nat} (h : ParsAt w B A l) (hg : w.grownBy w' row) (hB : B ≤ w.heap.size) (hn : l = [] ∨ ∀ g, A = some ⟨g, 0, none⟩ → row ≠ some g) : ParsAt w' B A l := by
  rcases h with h | ⟨g, hA, hlt, hc⟩
  · exact .inl h
  · rcases hn with hn | hn
    · exact .inl hn
    · refine .inr ⟨g, hA, hlt, fun i hi => ?_⟩
      have hne := hn g hA
      exact ⟨hg.cell (hc i hi).1 (fun e => hne e.symm), hg.cell (hc i hi).2 (fun e => hne e.symm)⟩

/-- Types that stand in a row, above a bound and below one. -/
def MimesIn (w : World) (L B : Nat) (A : Option Addr) (ms : List MimeL) : Prop :=
  ms = [] ∨ ∃ g, A = some ⟨g, 0, none⟩ ∧ L ≤ g ∧ g < B ∧ ∀ i (h : i < ms.length), ∃ A2 c2, w.cell? ⟨g, i * 3, none⟩ = some (.string (bt ms[i].t)) ∧ w.cell? ⟨g, i * 3 + 1, none⟩ = some (.string (bt ms[i].s)) ∧ w.cell? ⟨g, i * 3 + 2, none⟩ = some (.slice A2 ms[i].ps.length c2) ∧ ParsAt w B A2 ms[i].ps ∧ ∀ g2, A2 = some ⟨g2, 0, none⟩ → L ≤ g2

theorem cell_heap {w w' : World} {g : Nat} (h : w'.heap[g]? = w.heap[g]?) (o : Nat) : w'.cell? ⟨g, o, none⟩ = w.cell? ⟨g, o, none⟩ := by
  unfold World.cell?
  simp only [h]

theorem ParsAt.same {w w' : World} {L B : Nat} {A : Option Addr} {l : Pars} (h : ParsAt w B A l) (hs : ∀ b, L ≤ b → b < B → w'.heap[b]? = w.heap[b]?) (hL : ∀ g, A = some ⟨g, 0, none⟩ → L ≤ g) : ParsAt w' B A l := by
  rcases h with h | ⟨g, hA, hlt, hc⟩
  · exact .inl h
  · refine .inr ⟨g, hA, hlt, fun i hi => ?_⟩
    have hh := hs g (hL g hA) hlt
    exact ⟨(cell_heap hh _).trans (hc i hi).1, (cell_heap hh _).trans (hc i hi).2⟩

theorem MimesIn.same {w w' : World} {L B : Nat} {A : Option Addr} {ms : List MimeL} (h : MimesIn w L B A ms) (hs : ∀ b, L ≤ b → b < B → w'.heap[b]? = w.heap[b]?) : MimesIn w' L B A ms := by
  rcases h with h | ⟨g, hA, hL, hlt, hc⟩
  · exact .inl h
  · refine .inr ⟨g, hA, hL, hlt, fun i hi => ?_⟩
    obtain ⟨A2, c2, h0, h1, h2, h3, h4⟩ := hc i hi
    have hh := hs g hL hlt
    exact ⟨A2, c2, (cell_heap hh _).trans h0, (cell_heap hh _).trans h1, (cell_heap hh _).trans h2, h3.same hs h4, h4⟩

theorem MimesIn.below {w w' : World} {L B : Nat} {A : Option Addr} {ms : List MimeL} (h : MimesIn w L B A ms) (hb : Below B w w') : MimesIn w' L B A ms :=
  h.same fun b _ hlt => hb.block b hlt

theorem MimesIn.more {w : World} {L B B' : Nat} {A : Option Addr} {ms : List MimeL} (h : MimesIn w L B A ms) (hB : B ≤ B') : MimesIn w L B' A ms := by
  rcases h with h | ⟨g, hA, hL, hlt, hc⟩
  · exact .inl h
  · refine .inr ⟨g, hA, hL, by omega, fun i hi => ?_⟩
    obtain ⟨A2, c2, h0, h1, h2, h3, h4⟩ := hc i hi
    exact ⟨A2, c2, h0, h1, h2, h3.more hB, h4⟩

theorem MimesIn.on {w w' : World} {L : Nat} {A : Option Addr} {ms : List MimeL} (h : MimesIn w L w.heap.size A ms) (hb : Below w.heap.size w w') : MimesIn w' L w'.heap.size A ms := (h.below hb).more hb.size

/-- The parameters of each stand above a bound. -/
def FreshT (L : Nat) (ts : MRow) : Prop := ∀ t ∈ ts, ∀ g, t.2.1 = some ⟨g, 0, none⟩ → L ≤ g

theorem FreshT.snoc {L : Nat} {ts : MRow} {t : MimeL × Option Addr × Nat} (h : FreshT L ts) (ht : ∀ g, t.2.1 = some ⟨g, 0, none⟩ → L ≤ g) : FreshT L (ts ++ [t]) := by
  intro u hu
  rcases List.mem_append.1 hu with hu | hu
  · exact h u hu
  · simp at hu
    subst hu
    exact ht

theorem mimes_of_own {w : World} {base : Nat} {e : TypeId} {v : Value} {ts : MRow} {row : Option Nat} (h : w.ownsRow base e 3 v ts.length (rowM ts)) (hs : StandM w w.heap.size row ts) (hf : FreshT base ts) :
    ∃ A c, v = .slice A (ts.map (·.1)).length c ∧ MimesIn w base w.heap.size A (ts.map (·.1)) := by
  rcases h.2 with ⟨rfl, h0⟩ | ⟨g, cap, cur, rfl, hB, hg, _⟩
  · have : ts = [] := List.eq_nil_of_length_eq_zero h0
    subst this
    exact ⟨none, 0, rfl, .inl rfl⟩
  · refine ⟨some ⟨g, 0, none⟩, cap, by rw [List.length_map], .inr ⟨g, rfl, hB, (Array.getElem?_eq_some_iff.1 hg).1, fun i hi => ?_⟩⟩
    have hi2 : i < ts.length := by simpa using hi
    have hc : ∀ j, j < 3 → w.cell? ⟨g, i * 3 + j, none⟩ = (cellsM ts[i])[j]? := fun j hj => by
      rw [← rowM_at ts i hi2 j hj]
      have hlt : i * 3 + j < ts.length * 3 := by omega
      exact h.cellAt (i * 3 + j) hlt
    have hp := (hs ts[i] (List.getElem_mem _)).1
    have e : (ts.map (·.1))[i] = ts[i].1 := by simp
    rw [e]
    refine ⟨ts[i].2.1, ts[i].2.2, ?_, ?_, ?_, hp, hf ts[i] (List.getElem_mem _)⟩
    · exact hc 0 (by omega)
    · exact hc 1 (by omega)
    · exact hc 2 (by omega)

/-- What comes is a row of types. -/
def GivesMims (ms : List MimeL) (w : World) (e : Ending) (w' : World) : Prop :=
  ∃ A c, e = .returned (.slice A ms.length c) ∧ MimesIn w' w.heap.size w'.heap.size A ms ∧ Below w.heap.size w w'

theorem infoMime : (Try.prog.info? 33).map (fun i => (i.zero, i.size, i.bytes)) = some (some (.agg #[.string ByteArray.empty, .string ByteArray.empty, .slice none 0 0]), 3, 56) := by kernel_rfl

theorem ParsAt.keep {w w' : World} {B B' : Nat} {A : Option Addr} {l : Pars} (h : ParsAt w B A l) (h2 : ParsAt w' B' A l) : ParsAt w' B A l := by
  rcases h2 with h2 | ⟨g, hA, hlt, hc⟩
  · exact .inl h2
  · rcases h with h | ⟨g2, hA2, hlt2, _⟩
    · exact .inl h
    · rw [hA] at hA2
      injection hA2 with e
      injection e with e1 _ _
      subst e1
      exact .inr ⟨g, hA, hlt2, hc⟩

theorem mim_cells_new (W : World) (t : MimeL × Option Addr × Nat) (e : TypeId) : ∀ j u, (cellsM t)[j]? = some u → (W.alloc (.cells #[.string (bt t.1.t), .string (bt t.1.s), .slice t.2.1 t.1.ps.length t.2.2] e)).cell? ((⟨W.heap.size, 0, none⟩ : Addr).add j) = some u :=
  World.news_of_block (heap_alloc_new W _)

theorem stand_snoc {W : World} {gx : Nat} {row : Option Nat} {ts : MRow} {m : MimeL} {A : Option Addr} {c gr : Nat} {o : Obj} (hst : StandM W gx row ts) (hA : ParsAt W gx A m.ps) (hgx : gr ≤ gx) (hf : ∀ g, A = some ⟨g, 0, none⟩ → gr ≤ g) (hrow : ∀ j, row = some j → j < gr)
    {w9 : World} {g3 n cc : Nat} (hg : (W.alloc o).grownBy w9 row) (hat : row = some g3 ∨ g3 = W.heap.size + 1) (hzz : W.heap.size + 1 ≤ w9.heap.size) (hz : gx ≤ W.heap.size) :
    StandM w9 w9.heap.size (Value.slice (some ⟨g3, 0, none⟩) n cc).ownBlock (ts ++ [(m, A, c)]) := by
  have hnew : ∀ (B : Option Addr) (l : Pars), ParsAt W gx B l → (l = [] ∨ ∀ g, B = some ⟨g, 0, none⟩ → row ≠ some g) → ParsAt w9 w9.heap.size B l ∧ (l = [] ∨ ∀ g, B = some ⟨g, 0, none⟩ → (some g3 : Option Nat) ≠ some g) := by
    intro B l h1 h2
    have h3 := (h1.more hz).below (below_box W o)
    have h4 := h3.grown hg (by simp) h2
    refine ⟨h4.more (by omega), ?_⟩
    rcases h2 with h2 | h2
    · exact .inl h2
    · by_cases hl : l = []
      · exact .inl hl
      · refine .inr fun g hB e => ?_
        injection e with e
        subst e
        have hlt := h1.lt_of hl hB
        rcases hat with hat | hat
        · exact h2 g3 hB hat
        · omega
  intro t ht
  rcases List.mem_append.1 ht with ht | ht
  · exact hnew t.2.1 t.1.ps (hst t ht).1 (hst t ht).2
  · simp at ht
    subst ht
    refine hnew A m.ps hA ?_
    by_cases hl : m.ps = []
    · exact .inl hl
    · refine .inr fun g hB e => ?_
      have h1 := hf g hB
      have h2 := hrow g e
      omega

set_option maxHeartbeats 4000000 in
set_option maxRecDepth 20000 in
theorem all_any (l : List ByteArray) (A : Option Addr) (c : Nat) (w : World) (hA : StrsIn w A l) (hc : l.length ≤ c) (hl : l.length ≤ 90) (hs : ∀ s ∈ l, s.size ≤ 1000) (hN : (joinL l).length ≤ 1099) :
    Calls Try.prog 70 #[.slice A l.length c] w fun e w' => GivesMims (allL l) w e w' := by
  obtain ⟨i0, hi, hz0, hz1, hz2⟩ := info_parts infoMime
  have HI := Lib.hid hi; have HZ0 := Lib.hid hz0; have HZ1 := Lib.hid hz1; have HZ2 := Lib.hid hz2
  clear hi hz0 hz1 hz2
  have HV := Lib.hid (fun (w1 : World) (hb : Below w.heap.size w w1) => values_any l A c w1 (hA.below hb) hc hl hs)
  obtain ⟨hvs, hvn⟩ := values_sizes l 1099 hN
  have HVS := Lib.hid hvs
  have HALL : Hid (allL l = (valuesL l).flatMap addM) := Lib.hid rfl
  generalize allL l = R at *
  generalize valuesL l = vs at *
  clear hA hs hN hvs
  go_enter Try.func70, Try.ntmps70
  go_wp2_with fail
  refine (HV.out _ (Below.refl _ _)).mono ?_
  rintro e W ⟨A1, c1, rfl, hA1, hbW⟩
  have hbw : Below w.heap.size w W := hbW
  have HAV := Lib.hid hA1
  have HBW := Lib.hid hbw
  clear hA1 hbW hbw HV
  go_wp2_with fail
  go_loopw [3, 11] (fun v i wr => ∃ (k : Nat) (ts : MRow), k ≤ vs.length ∧ i = .int .i64 k ∧ wr.ownsRow w.heap.size 33 3 v ts.length (rowM ts) ∧ Below w.heap.size w wr ∧ StrsIn wr A1 vs ∧ ApartS v A1 vs ∧ ts.map (·.1) = (vs.take k).flatMap addM ∧ StandM wr wr.heap.size v.ownBlock ts ∧ ts.length ≤ k ∧ w.heap.size ≤ wr.heap.size ∧ FreshT w.heap.size ts) (fun _ i _ => vs.length - (intOf i).toNat)
  case atStart => exact ⟨0, [], Nat.zero_le _, rfl, World.ownsRow_nil _ _ _ _, HBW.out, HAV.out, .inr (by intro b off _; simp [Value.ownBlock]), rfl, (by intro t ht; cases ht), Nat.le_refl _, HBW.out.size, (by intro t ht; cases ht)⟩
  case round =>
    obtain ⟨k, ts, hk, rfl, hrow, hb, hav, hap, hts, hst, hlen, hwz, hft⟩ := hrel
    have HB := Lib.hid hb
    have HROW := Lib.hid hrow
    have HST := Lib.hid hst
    have HTS := Lib.hid hts
    have HAVR := Lib.hid hav
    have HFT := Lib.hid hft
    have HAP := Lib.hid hap
    have hWz := hb.size
    clear hrow hst hts hav hap hft
    by_cases hlt : k < vs.length
    · rcases HAVR.out with hnil | ⟨g, off, rfl, hg, hcs⟩
      · rw [hnil] at hlt; simp at hlt
      have c0 := hcs k hlt
      have hsz := HVS.out vs[k] (List.getElem_mem _)
      have HPR := Lib.hid (Parse_own vs[k] wr (by omega))
      have hfit := (parseR_fit vs[k].data.toList).more (show vs[k].data.toList.length ≤ 1099 by rw [← Lib.size_eq]; exact hsz)
      have hsn := flat_take vs k hlt
      unfold addM at hsn
      have HADD : Hid ((vs.take (k + 1)).flatMap addM = (vs.take k).flatMap addM ++ if (parseR vs[k].data.toList).2 = 0 ∧ everyM (parseR vs[k].data.toList).1 = false then [(parseR vs[k].data.toList).1] else []) := Lib.hid hsn
      obtain ⟨code, hcode, hc0⟩ : ∃ code : Int, ((parseR vs[k].data.toList).2 : Int) = code ∧ ((parseR vs[k].data.toList).2 = 0 ∧ code = 0 ∨ (parseR vs[k].data.toList).2 ≠ 0 ∧ (code == 0) = false) := by
        unfold parseR
        split
        · exact ⟨0, rfl, .inl ⟨rfl, rfl⟩⟩
        · exact ⟨2, rfl, .inr ⟨(by decide), rfl⟩⟩
      rw [hcode] at HPR
      generalize (parseR vs[k].data.toList).2 = code0 at *
      generalize (parseR vs[k].data.toList).1 = m at *
      generalize vs[k] = x at *
      unfold mimV at HPR
      clear hcs hb hcode hsn
      go_wp2_with fail
      refine HPR.out.mono ?_
      rintro e w2 ⟨A2, c2, rfl, hA2, hb2, hf2⟩
      have HA2 := Lib.hid hA2
      have HF2 := Lib.hid hf2
      have HB2 := Lib.hid (HB.out.trans (hb2.mono hWz))
      have HAV2 := Lib.hid (HAVR.out.below hb2)
      have HROW2 := Lib.hid (row_stands HROW.out (fun j _ hj => hb2.block j hj))
      have hz2 := hb2.size
      have HST2 : Hid (StandM w2 w2.heap.size u3.ownBlock ts) := Lib.hid (fun t ht => ⟨(HST.out t ht).1.on hb2, (HST.out t ht).2⟩)
      have HOWN := Lib.hid (fun j hj => HROW.out.lt j hj)
      clear hA2 hf2 hb2 HPR HB HROW HST
      have hx2 : (w2.alloc (.cells #[.string (bt m.t), .string (bt m.s), .slice A2 m.ps.length c2] 33)).heap[w2.heap.size]? = some (mimO m A2 c2) := heap_alloc_new w2 _
      have HB3 := Lib.hid (HB2.out.alloc (Nat.le_trans hWz hz2) (.cells #[.string (bt m.t), .string (bt m.s), .slice A2 m.ps.length c2] 33))
      have HAV3 := Lib.hid (HAV2.out.below (below_box w2 (.cells #[.string (bt m.t), .string (bt m.s), .slice A2 m.ps.length c2] 33)))
      have HROW3 := Lib.hid (HROW2.out.alloc (.cells #[.string (bt m.t), .string (bt m.s), .slice A2 m.ps.length c2] 33))
      have HA3 : Hid (ParsAt (w2.alloc (.cells #[.string (bt m.t), .string (bt m.s), .slice A2 m.ps.length c2] 33)) w2.heap.size A2 m.ps) := Lib.hid (HA2.out.below (below_box w2 _))
      have HST3 : Hid (StandM (w2.alloc (.cells #[.string (bt m.t), .string (bt m.s), .slice A2 m.ps.length c2] 33)) w2.heap.size u3.ownBlock ts) := Lib.hid (fun t ht => ⟨(HST2.out t ht).1.below (below_box w2 _), (HST2.out t ht).2⟩)
      have hz3 : w2.heap.size < (w2.alloc (.cells #[.string (bt m.t), .string (bt m.s), .slice A2 m.ps.length c2] 33)).heap.size := by simp
      go_upto_region 6 with fail
      generalize hzx : w2.heap.size = gx at *
      generalize w2.alloc (.cells #[.string (bt m.t), .string (bt m.s), .slice A2 m.ps.length c2] 33) = w3 at *
      clear hzx
      obtain ⟨x0, x1, x2, xz, xlt⟩ := mim_cells hx2
      rcases hc0 with ⟨h0, rfl⟩ | ⟨h0, hc0⟩
      · cases hev : everyM m
        · have HADD2 : Hid ((vs.take (k + 1)).flatMap addM = (ts ++ [(m, A2, c2)]).map (·.1)) := Lib.hid (by rw [HADD.out, if_pos ⟨h0, hev⟩, List.map_append, HTS.out]; rfl)
          have HE := Lib.hid (Essence_par m A2 c2 w3 (hfit.sizes))
          have hq : ((bt (essL m)).toList == [42, 47, 42]) = false := by rw [← hev, Lib.toList_data]; rfl
          generalize bt (essL m) = X at *
          unfold mimV at HE
          go_wp2_with fail
          refine HE.out.mono ?_
          rintro e w6 ⟨rfl, hb6⟩
          have HB6 := Lib.hid (HB3.out.trans (hb6.mono HB3.out.size))
          have HAV6 := Lib.hid (HAV3.out.below hb6)
          have HROW6 := Lib.hid (row_stands HROW3.out (fun j _ hj => hb6.block j hj))
          have HST6 : Hid (StandM w6 gx u3.ownBlock ts) := Lib.hid (fun t ht => ⟨((HST3.out t ht).1.more (Nat.le_of_lt hz3)).below hb6 |> fun h => (ParsAt.keep (HST3.out t ht).1 h), (HST3.out t ht).2⟩)
          have HA6 : Hid (ParsAt w6 gx A2 m.ps) := Lib.hid (ParsAt.keep HA3.out ((HA3.out.more (Nat.le_of_lt hz3)).below hb6))
          have hz6 := HB6.out.size
          have hz26 : gx ≤ w6.heap.size := by have := hb6.size; omega
          have hgx6 : wr.heap.size ≤ gx := by omega
          have hx6 := (hb6.block _ xlt).trans hx2
          clear hb6 HE x0 x1 x2 xz
          obtain ⟨x0, x1, x2, xz, xlt6⟩ := mim_cells hx6
          have K0 := Lib.hid (HROW6.out.alloc (.cells #[.string (bt m.t), .string (bt m.s), .slice A2 m.ps.length c2] 33))
          have K1 : Hid (∀ (j : Nat) (u : Value), (cellsM (m, A2, c2))[j]? = some u → (w6.alloc (.cells #[.string (bt m.t), .string (bt m.s), .slice A2 m.ps.length c2] 33)).cell? ((⟨w6.heap.size, 0, none⟩ : Addr).add j) = some u) := Lib.hid (mim_cells_new w6 (m, A2, c2) 33)
          have K2 := Lib.hid (show ∀ u ∈ cellsM (m, A2, c2), u.oneCell' = true from by intro u hu; simp [cellsM] at hu; rcases hu with rfl | rfl | rfl <;> rfl)
          have K3 := Lib.hid (show ts.length + 1 ≤ maxLen from by unfold maxLen; omega)
          have K4 := Lib.hid (show (ts.length + 1) * 56 ≤ 140737488355328 from by omega)
          have K5 : Hid (w.heap.size ≤ (w6.alloc (.cells #[.string (bt m.t), .string (bt m.s), .slice A2 m.ps.length c2] 33)).heap.size) := Lib.hid (by simp; omega)
          have K6 : Hid ((w6.alloc (.cells #[.string (bt m.t), .string (bt m.s), .slice A2 m.ps.length c2] 33)).heap.size = w6.heap.size + 1) := Lib.hid (by simp)
          have KST : Hid (∀ (w9 : World) (g3 cc : Nat), (w6.alloc (.cells #[.string (bt m.t), .string (bt m.s), .slice A2 m.ps.length c2] 33)).grownBy w9 u3.ownBlock → (u3.ownBlock = some g3 ∨ g3 = w6.heap.size + 1) → w6.heap.size + 1 ≤ w9.heap.size → StandM w9 w9.heap.size (Value.slice (some ⟨g3, 0, none⟩) (ts.length + 1) cc).ownBlock (ts ++ [(m, A2, c2)])) := Lib.hid (fun w9 g3 cc hg hat hzz => stand_snoc HST6.out HA6.out hgx6 HF2.out (fun j hj => (HOWN.out j hj).2) hg hat hzz hz26)
          go_wp2_with (at_builtin; go_must (refine wpList_append_lies _ rfl (.tmp 27) (.tmp 29) 92 rfl w.heap.size 33 i0 (.agg #[.string ByteArray.empty, .string ByteArray.empty, .slice none 0 0]) 3 56 Try.underlying92 HI.out HZ0.out HZ1.out HZ2.out rfl (by decide) u3 ts.length (rowM ts) rfl K0.out ⟨w6.heap.size, 0, none⟩ 1 1 (cellsM (m, A2, c2)) rfl rfl K1.out K2.out (by decide) K3.out K4.out K5.out (w6.heap.size + 1) K6.out ?_; intro g3 c3 w9 hown hgrow hat9 hlt9; have HO := Lib.hid hown; have HG := Lib.hid hgrow; have HAT := Lib.hid hat9; have HB9 := Lib.hid ((HB6.out.alloc hz6 (.cells #[.string (bt m.t), .string (bt m.s), .slice A2 m.ps.length c2] 33)).grown hgrow (by simp; omega) (fun j hj => (HOWN.out j hj).1)); have HAV9 := Lib.hid ((HAV6.out.below (below_box _ (.cells #[.string (bt m.t), .string (bt m.s), .slice A2 m.ps.length c2] 33))).grown hgrow HAP.out); have HAP9 := Lib.hid (HAP.out.next (n := ts.length + 1) (c := c3) HAV6.out hat9 (Nat.le_succ _)); clear hown hgrow hat9))
          go_roundw
          case rel => exact ⟨k + 1, ts ++ [(m, A2, c2)], by omega, by go_num, by rw [rowM_snoc, List.length_append]; exact HO.out, HB9.out, HAV9.out, HAP9.out, HADD2.out.symm, KST.out w9 g3 c3 HG.out HAT.out (by have := HG.out.size; simp at this; omega), by rw [List.length_append]; simp; omega, by have := HG.out.size; simp at this; omega, HFT.out.snoc (fun g hg => by have := HF2.out g hg; omega)⟩
          case measure => simp [intOf]; omega
        · have HADD2 : Hid ((vs.take (k + 1)).flatMap addM = ts.map (·.1)) := Lib.hid (by rw [HADD.out, if_neg (by rintro ⟨_, h⟩; rw [hev] at h; cases h), List.append_nil, HTS.out])
          have HE := Lib.hid (Essence_par m A2 c2 w3 (hfit.sizes))
          have hq : ((bt (essL m)).toList == [42, 47, 42]) = true := by rw [← hev, Lib.toList_data]; rfl
          generalize bt (essL m) = X at *
          unfold mimV at HE
          go_wp2_with fail
          refine HE.out.mono ?_
          rintro e w6 ⟨rfl, hb6⟩
          have HB6 := Lib.hid (HB3.out.trans (hb6.mono HB3.out.size))
          have HAV6 := Lib.hid (HAV3.out.below hb6)
          have HROW6 := Lib.hid (row_stands HROW3.out (fun j _ hj => hb6.block j hj))
          have HST6 : Hid (StandM w6 gx u3.ownBlock ts) := Lib.hid (fun t ht => ⟨((HST3.out t ht).1.more (Nat.le_of_lt hz3)).below hb6 |> fun h => (ParsAt.keep (HST3.out t ht).1 h), (HST3.out t ht).2⟩)
          have HA6 : Hid (ParsAt w6 gx A2 m.ps) := Lib.hid (ParsAt.keep HA3.out ((HA3.out.more (Nat.le_of_lt hz3)).below hb6))
          have hz6 := HB6.out.size
          have hz26 : gx ≤ w6.heap.size := by have := hb6.size; omega
          have hgx6 : wr.heap.size ≤ gx := by omega
          have hx6 := (hb6.block _ xlt).trans hx2
          clear hb6 HE x0 x1 x2 xz
          obtain ⟨x0, x1, x2, xz, xlt6⟩ := mim_cells hx6
          go_wp2_with fail
          go_roundw
          case rel => exact ⟨k + 1, ts, by omega, by go_num, HROW6.out, HB6.out, HAV6.out, HAP.out, HADD2.out.symm, fun t ht => ⟨(HST6.out t ht).1.more (by omega), (HST6.out t ht).2⟩, by omega, by omega, HFT.out⟩
          case measure => simp [intOf]; omega
      · have HADD2 : Hid ((vs.take (k + 1)).flatMap addM = ts.map (·.1)) := Lib.hid (by rw [HADD.out, if_neg (fun h => h0 h.1), List.append_nil, HTS.out])
        clear x0 x1 x2 xz
        go_wp2_with fail
        go_roundw
        case rel => exact ⟨k + 1, ts, by omega, by go_num, HROW3.out, HB3.out, HAV3.out, HAP.out, HADD2.out.symm, fun t ht => ⟨(HST3.out t ht).1.more (by omega), (HST3.out t ht).2⟩, by omega, by omega, HFT.out⟩
        case measure => simp [intOf]; omega
    · obtain rfl : k = vs.length := by omega
      rw [List.take_length, ← HALL.out] at HTS
      obtain ⟨A3, c3, hv, hm3⟩ := mimes_of_own HROW.out HST.out HFT.out
      rw [HTS.out] at hv hm3
      have HM3 := Lib.hid hm3
      subst hv
      clear hm3
      go_wp2_with fail
      go_ret
      exact ⟨A3, c3, rfl, HM3.out, HB.out⟩

end Go.Proofs.Ytdkkbibdjagjjaa
