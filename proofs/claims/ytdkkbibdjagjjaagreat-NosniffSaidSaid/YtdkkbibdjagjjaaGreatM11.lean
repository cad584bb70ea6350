/-
  Lemmas of this claim, part 11: the texts CombD, one behind the other.
-/
import Derived.Test.YtdkkbibdjagjjaaGreatM10

namespace Go.Proofs.YtdkkbibdjagjjaaGreat
open Go.RowKit
set_option linter.unusedSimpArgs false
set_option linter.unusedVariables false

/-- A type in a block. -/
def mimO (m : MimeL) (A : Option Addr) (c : Nat) : Obj := .cells #[.string (bt m.t), .string (bt m.s), .slice A m.ps.length c] 35 (0, 0)

theorem mim_cells {w : World} {g : Nat} {m : MimeL} {A : Option Addr} {c : Nat} (h : w.heap[g]? = some (mimO m A c)) :
    w.cell? ⟨g, 0, none⟩ = some (.string (bt m.t)) ∧ w.cell? ⟨g, 1, none⟩ = some (.string (bt m.s)) ∧ w.cell? ⟨g, 2, none⟩ = some (.slice A m.ps.length c) ∧ (∀ i, w.frozen? ⟨g, i, none⟩ = false) ∧ g < w.heap.size := by
  refine ⟨?_, ?_, ?_, ?_, (Array.getElem?_eq_some_iff.1 h).1⟩
  · rw [Lib.cell_of_heap h]; rfl
  · rw [Lib.cell_of_heap h]; rfl
  · rw [Lib.cell_of_heap h]; rfl
  · exact fun i => Lib.frozen_of_heap h i

theorem mim_none : mimO noM none 0 = .cells #[.string ⟨#[]⟩, .string ⟨#[]⟩, .slice none 0 0] 35 (0, 0) := rfl

/-- A type that comes, its parameters in memory of the callee's own. -/
def GivesMim (m : MimeL) (w : World) (e : Ending) (w' : World) : Prop :=
  ∃ A c, e = .returned (mimV m A c) ∧ ParsAt w' w'.heap.size A m.ps ∧ Below w.heap.size w w' ∧ ∀ g, A = some ⟨g, 0, none⟩ → w.heap.size ≤ g

theorem own_fresh {w1 : World} {B : Nat} {A : Option Addr} {c n : Nat} {l : Pars} (h : w1.ownsRow B 46 2 (.slice A n c) n (rowQ l)) : ∀ g, A = some ⟨g, 0, none⟩ → B ≤ g := by
  intro g hg
  subst hg
  exact (World.ownsRow.lt h g rfl).1

set_option maxRecDepth 20000 in
theorem own_any (m : MimeL) (A : Option Addr) (c : Nat) (w : World) (hm : SizesM m) (hA : ParsAt w w.heap.size A m.ps) :
    Calls Tryz.prog 88 #[mimV m A c] w fun e w' => GivesMim m w e w' := by
  have HCL := Lib.hid (fun (w1 : World) (hb : Below w.heap.size w w1) => ClonePar_any m.ps A c w1 hm.ps.1 (hA.on hb))
  clear hm hA
  unfold mimV
  go_enter Tryz.func88, Tryz.ntmps88
  go_upto_region 1 with fail
  have hP : ((w.alloc (.cells #[.string (bt m.t), .string (bt m.s), .slice A m.ps.length c] 35)).alloc (.cells #[.string ⟨#[]⟩, .string ⟨#[]⟩, .slice none 0 0] 35)).heap[w.heap.size]? = some (mimO m A c) := (Below.heap_alloc _ _ _ (by simp)).trans (heap_alloc_new w _)
  have hQ : ((w.alloc (.cells #[.string (bt m.t), .string (bt m.s), .slice A m.ps.length c] 35)).alloc (.cells #[.string ⟨#[]⟩, .string ⟨#[]⟩, .slice none 0 0] 35)).heap[w.heap.size + 1]? = some (mimO noM none 0) := by
    rw [show w.heap.size + 1 = (w.alloc (.cells #[.string (bt m.t), .string (bt m.s), .slice A m.ps.length c] 35)).heap.size by simp]
    exact heap_alloc_new _ _
  have hb0 : Below w.heap.size w ((w.alloc (.cells #[.string (bt m.t), .string (bt m.s), .slice A m.ps.length c] 35)).alloc (.cells #[.string ⟨#[]⟩, .string ⟨#[]⟩, .slice none 0 0] 35)) := (below_box _ _).alloc (by simp) _
  generalize (w.alloc (.cells #[.string (bt m.t), .string (bt m.s), .slice A m.ps.length c] 35)).alloc (.cells #[.string ⟨#[]⟩, .string ⟨#[]⟩, .slice none 0 0] 35) = W at *
  obtain ⟨p0, p1, p2, pz, plt⟩ := mim_cells hP
  have HC := Lib.hid (HCL.out W hb0)
  have hQlt := (Array.getElem?_eq_some_iff.1 hQ).1
  clear HCL
  go_wp2_with fail
  refine HC.out.mono ?_
  rintro e w1 ⟨v, rfl, ho, hb1⟩
  obtain ⟨A2, c2, rfl, hA2⟩ := parsOf ho
  have hP1 := (hb1.block _ plt).trans hP
  have hQ1 := (hb1.block _ hQlt).trans hQ
  have HF := Lib.hid (own_fresh ho)
  have HA2 := Lib.hid hA2
  have HB := Lib.hid (hb0.trans (hb1.mono hb0.size))
  have hWs := hb0.size
  clear p0 p1 p2 pz ho hA2 hb1 HC hb0
  obtain ⟨p0, p1, p2, pz, plt1⟩ := mim_cells hP1
  obtain ⟨q0, q1, q2, qz, qlt1⟩ := mim_cells hQ1
  clear hP1 hQ1 hP hQ
  go_wp2_with fail
  refine bodyPost_ret (v := mimV m A2 c2) ?_ rfl ?_
  · simp [results, Tryz.results88, go_sem, q0, q1, q2, mimV]
  · have hfP : ∀ g, A2 = some ⟨g, 0, none⟩ → w.heap.size ≠ g := fun g hg => by have := HF.out g hg; omega
    have hfQ : ∀ g, A2 = some ⟨g, 0, none⟩ → w.heap.size + 1 ≠ g := fun g hg => by have := HF.out g hg; omega
    refine ⟨A2, c2, rfl, ?_, ?_, fun g hg => by have := HF.out g hg; omega⟩
    · exact ((((HA2.out.set hfP _).set hfQ _).set hfQ _).set hfQ _).more (by simp)
    · exact (((HB.out.setCell (by simp) _).setCell (by simp) _).setCell (by simp) _).setCell (by simp) _

theorem Param_set (m : MimeL) (A : Option Addr) (c : Nat) (w : World) (hm : SizesM m) (hA : ParsAt w w.heap.size A m.ps) :
    Calls Tryz.prog 36 #[mimV m A c, .string ⟨#[99, 104, 97, 114, 115, 101, 116]⟩] w fun e w' => e = .returned (.tuple #[.string (bt (setOf m)), .bool (decide (0 ≤ atL m.ps charL))]) ∧ Below w.heap.size w w' := by
  by_cases h : 0 ≤ atL m.ps charL
  · have hlt := (atL_ge m.ps charL).2
    have := Param_yes m A c ⟨#[99, 104, 97, 114, 115, 101, 116]⟩ w hm hA (atL m.ps charL).toNat (by show atL m.ps charL = _; omega) (by omega)
    rw [decide_eq_true h]
    unfold setOf
    rw [dif_pos h]
    exact this
  · have := Param_no m A c ⟨#[99, 104, 97, 114, 115, 101, 116]⟩ w hm hA (by show atL m.ps charL < 0; omega)
    rw [decide_eq_false h]
    unfold setOf
    rw [dif_neg h]
    exact this

/-- What a step gives. -/
def GivesStep (r : MimeL × List UInt8) (w : World) (e : Ending) (w' : World) : Prop :=
  ∃ A c, e = .returned (.tuple #[mimV r.1 A c, .string (bt r.2)]) ∧ ParsAt w' w'.heap.size A r.1.ps ∧ Below w.heap.size w w' ∧ ∀ g, A = some ⟨g, 0, none⟩ → w.heap.size ≤ g

theorem bt_empty (l : List UInt8) : (bt l).toList.isEmpty = l.isEmpty := by rw [Lib.toList_data]; rfl

set_option maxHeartbeats 4000000 in
set_option maxRecDepth 20000 in
theorem step_any (m n : MimeL) (A A2 : Option Addr) (c c2 : Nat) (set : List UInt8) (w : World) (hm : SizesM m) (hn : SizesM n) (hl : n.ps.length ≤ 1099) (hs : set.length ≤ 1100) (hA : ParsAt w w.heap.size A m.ps) (hA2 : ParsAt w w.heap.size A2 n.ps) :
    Calls Tryz.prog 59 #[mimV m A c, .string (bt set), mimV n A2 c2] w fun e w' => GivesStep (stepL m set n) w e w' := by
  have HPA := Lib.hid (fun (w1 : World) (hb : Below w.heap.size w w1) => Param_set n A2 c2 w1 hn (hA2.on hb))
  have HE1 := Lib.hid (fun (w1 : World) => Essence_par m A c w1 hm)
  have HE2 := Lib.hid (fun (w1 : World) => Essence_par n A2 c2 w1 hn)
  have HOW := Lib.hid (fun (w1 : World) (hb : Below w.heap.size w w1) => own_any n A2 c2 w1 hn (hA2.on hb))
  have HWI := Lib.hid (fun (w1 : World) (hb : Below w.heap.size w w1) => With_own n A2 c2 charL set w1 hn (by decide) hs hl (hA2.on hb))
  have hq := eq_textL (essL m) (essL n)
  have HV : Hid (stepL m set n = if essL m ≠ essL n then (n, setOf n) else if atL n.ps charL < 0 ∧ set ≠ [] ∧ goodL (withM n charL set) = true then (withM n charL set, set) else (n, set)) := Lib.hid rfl
  clear hm hn hl hs hA hA2
  obtain ⟨S, hS⟩ : ∃ S, bt set = S := ⟨_, rfl⟩
  rw [hS] at HWI ⊢
  generalize stepL m set n = R at *
  generalize bt (essL m) = X at *
  generalize bt (essL n) = Y at *
  unfold mimV at HPA HE1 HE2 HOW HWI ⊢
  by_cases he : essL m = essL n
  · have hqe : (X.toList == Y.toList) = true := by rw [hq]; exact beq_iff_eq.2 he
    by_cases hat : 0 ≤ atL n.ps charL
    · have hd : decide (0 ≤ atL n.ps charL) = true := decide_eq_true hat
      rw [hd] at HPA
      have HV : Hid (R = (n, set)) := Lib.hid (by rw [HV.out, if_neg (by simpa using he), if_neg (by omega)])
      clear hq hd
      go_enter Tryz.func59, Tryz.ntmps59
      go_upto_region 1 with fail
      have hP : (((w.alloc (.cells #[.string (bt m.t), .string (bt m.s), .slice A m.ps.length c] 35)).alloc (.cells #[.string (bt n.t), .string (bt n.s), .slice A2 n.ps.length c2] 35)).alloc (.cells #[.string ⟨#[]⟩, .string ⟨#[]⟩, .slice none 0 0] 35)).heap[w.heap.size]? = some (mimO m A c) := (Below.heap_alloc _ _ _ (by simp; omega)).trans ((Below.heap_alloc _ _ _ (by simp)).trans (heap_alloc_new w _))
      have hN : (((w.alloc (.cells #[.string (bt m.t), .string (bt m.s), .slice A m.ps.length c] 35)).alloc (.cells #[.string (bt n.t), .string (bt n.s), .slice A2 n.ps.length c2] 35)).alloc (.cells #[.string ⟨#[]⟩, .string ⟨#[]⟩, .slice none 0 0] 35)).heap[w.heap.size + 1]? = some (mimO n A2 c2) := (Below.heap_alloc _ _ _ (by simp)).trans (by
        rw [show w.heap.size + 1 = (w.alloc (.cells #[.string (bt m.t), .string (bt m.s), .slice A m.ps.length c] 35)).heap.size by simp]
        exact heap_alloc_new _ _)
      have hR : (((w.alloc (.cells #[.string (bt m.t), .string (bt m.s), .slice A m.ps.length c] 35)).alloc (.cells #[.string (bt n.t), .string (bt n.s), .slice A2 n.ps.length c2] 35)).alloc (.cells #[.string ⟨#[]⟩, .string ⟨#[]⟩, .slice none 0 0] 35)).heap[w.heap.size + 1 + 1]? = some (mimO noM none 0) := by
        rw [show w.heap.size + 1 + 1 = ((w.alloc (.cells #[.string (bt m.t), .string (bt m.s), .slice A m.ps.length c] 35)).alloc (.cells #[.string (bt n.t), .string (bt n.s), .slice A2 n.ps.length c2] 35)).heap.size by simp]
        exact heap_alloc_new _ _
      have hb : Below w.heap.size w (((w.alloc (.cells #[.string (bt m.t), .string (bt m.s), .slice A m.ps.length c] 35)).alloc (.cells #[.string (bt n.t), .string (bt n.s), .slice A2 n.ps.length c2] 35)).alloc (.cells #[.string ⟨#[]⟩, .string ⟨#[]⟩, .slice none 0 0] 35)) := ((below_box _ _).alloc (by simp) _).alloc (by simp; omega) _
      generalize (((w.alloc (.cells #[.string (bt m.t), .string (bt m.s), .slice A m.ps.length c] 35)).alloc (.cells #[.string (bt n.t), .string (bt n.s), .slice A2 n.ps.length c2] 35)).alloc (.cells #[.string ⟨#[]⟩, .string ⟨#[]⟩, .slice none 0 0] 35)) = W at *
      obtain ⟨p0, p1, p2, pz, plt⟩ := mim_cells hP
      obtain ⟨n0, n1, n2, nz, nlt⟩ := mim_cells hN
      obtain ⟨r0, r1, r2, rz, rlt⟩ := mim_cells hR
      go_wp2_with fail
      refine (HPA.out _ hb).mono ?_
      rintro e w1 ⟨rfl, hbn⟩
      clear p0 p1 p2 pz plt n0 n1 n2 nz nlt r0 r1 r2 rz rlt
      have hP := (hbn.block _ (Array.getElem?_eq_some_iff.1 hP).1).trans hP
      have hN := (hbn.block _ (Array.getElem?_eq_some_iff.1 hN).1).trans hN
      have hR := (hbn.block _ (Array.getElem?_eq_some_iff.1 hR).1).trans hR
      have hb := hb.trans (hbn.mono hb.size)
      clear hbn
      obtain ⟨p0, p1, p2, pz, plt⟩ := mim_cells hP
      obtain ⟨n0, n1, n2, nz, nlt⟩ := mim_cells hN
      obtain ⟨r0, r1, r2, rz, rlt⟩ := mim_cells hR
      go_upto_region 2 with fail
      have hx := @InB.cells w1
      refine wp_region_inb (by kernel_rfl) (by kernel_rfl) ?_; (repeat (first | go_big_quiet_skip | (go_big_quiet_want; go_big_quiet_op; first | go_big_quiet_on | (apply Exists.intro; refine ⟨fun x => ?_, ?_⟩; (· ((first | (go_at_call 48; with_reducible exact inb_call _ (HE1.out _)) | (go_at_call 48; with_reducible exact inb_call _ (HE2.out _))))); go_big_quiet_on)))); refine wpQuiet_nil ?_; intro _ hw'; obtain ⟨⟨wq, hbq⟩, rfl⟩ := hw'
      have hbn := hbq
      clear hx hbq
      clear p0 p1 p2 pz plt n0 n1 n2 nz nlt r0 r1 r2 rz rlt
      have hP := (hbn.block _ (Array.getElem?_eq_some_iff.1 hP).1).trans hP
      have hN := (hbn.block _ (Array.getElem?_eq_some_iff.1 hN).1).trans hN
      have hR := (hbn.block _ (Array.getElem?_eq_some_iff.1 hR).1).trans hR
      have hb := hb.trans (hbn.mono hb.size)
      clear hbn
      obtain ⟨p0, p1, p2, pz, plt⟩ := mim_cells hP
      obtain ⟨n0, n1, n2, nz, nlt⟩ := mim_cells hN
      obtain ⟨r0, r1, r2, rz, rlt⟩ := mim_cells hR
      have HO := Lib.hid (HOW.out _ hb)
      go_wp2_with fail
      refine HO.out.mono ?_
      rintro e w5 ⟨A3, c3, rfl, hA3, hbn, hf⟩
      unfold mimV
      have HF : Hid (∀ g, A3 = some ⟨g, 0, none⟩ → w.heap.size + 1 + 1 < g) := Lib.hid (fun g hg => by have := hf g hg; omega)
      have HA3 := Lib.hid hA3
      clear hA3 hf
      clear p0 p1 p2 pz plt n0 n1 n2 nz nlt r0 r1 r2 rz rlt
      have hP := (hbn.block _ (Array.getElem?_eq_some_iff.1 hP).1).trans hP
      have hN := (hbn.block _ (Array.getElem?_eq_some_iff.1 hN).1).trans hN
      have hR := (hbn.block _ (Array.getElem?_eq_some_iff.1 hR).1).trans hR
      have hb := hb.trans (hbn.mono hb.size)
      clear hbn
      have HB := Lib.hid hb
      obtain ⟨p0, p1, p2, pz, plt⟩ := mim_cells hP
      obtain ⟨n0, n1, n2, nz, nlt⟩ := mim_cells hN
      obtain ⟨r0, r1, r2, rz, rlt⟩ := mim_cells hR
      go_wp2_with fail
      refine bodyPost_ret (v := .tuple #[mimV n A3 c3, .string S]) ?_ rfl ?_
      · simp [results, Tryz.results59, go_sem, r0, r1, r2, mimV]
      · have hf : ∀ g, A3 = some ⟨g, 0, none⟩ → w.heap.size + 1 + 1 ≠ g := fun g hg => by have := HF.out g hg; omega
        refine ⟨A3, c3, by rw [HV.out, ← hS], ?_, ?_, fun g hg => by have := HF.out g hg; omega⟩
        · rw [HV.out]
          exact (((HA3.out.set hf _).set hf _).set hf _).more (by simp)
        · exact ((HB.out.setCell (show w.heap.size ≤ w.heap.size + 1 + 1 by omega) _).setCell (show w.heap.size ≤ w.heap.size + 1 + 1 by omega) _).setCell (show w.heap.size ≤ w.heap.size + 1 + 1 by omega) _
    · have hd : decide (0 ≤ atL n.ps charL) = false := decide_eq_false hat
      rw [hd] at HPA
      by_cases hse : set = []
      · have HV : Hid (R = (n, set)) := Lib.hid (by rw [HV.out, if_neg (by simpa using he), if_neg (by rintro ⟨_, h, _⟩; exact h hse)])
        have hset : S.toList = [] := by rw [← hS, Lib.toList_data]; exact hse
        have hset2 : S.toList.isEmpty = true := by rw [hset]; rfl
        clear hq hd
        go_enter Tryz.func59, Tryz.ntmps59
        go_upto_region 1 with fail
        have hP : (((w.alloc (.cells #[.string (bt m.t), .string (bt m.s), .slice A m.ps.length c] 35)).alloc (.cells #[.string (bt n.t), .string (bt n.s), .slice A2 n.ps.length c2] 35)).alloc (.cells #[.string ⟨#[]⟩, .string ⟨#[]⟩, .slice none 0 0] 35)).heap[w.heap.size]? = some (mimO m A c) := (Below.heap_alloc _ _ _ (by simp; omega)).trans ((Below.heap_alloc _ _ _ (by simp)).trans (heap_alloc_new w _))
        have hN : (((w.alloc (.cells #[.string (bt m.t), .string (bt m.s), .slice A m.ps.length c] 35)).alloc (.cells #[.string (bt n.t), .string (bt n.s), .slice A2 n.ps.length c2] 35)).alloc (.cells #[.string ⟨#[]⟩, .string ⟨#[]⟩, .slice none 0 0] 35)).heap[w.heap.size + 1]? = some (mimO n A2 c2) := (Below.heap_alloc _ _ _ (by simp)).trans (by
          rw [show w.heap.size + 1 = (w.alloc (.cells #[.string (bt m.t), .string (bt m.s), .slice A m.ps.length c] 35)).heap.size by simp]
          exact heap_alloc_new _ _)
        have hR : (((w.alloc (.cells #[.string (bt m.t), .string (bt m.s), .slice A m.ps.length c] 35)).alloc (.cells #[.string (bt n.t), .string (bt n.s), .slice A2 n.ps.length c2] 35)).alloc (.cells #[.string ⟨#[]⟩, .string ⟨#[]⟩, .slice none 0 0] 35)).heap[w.heap.size + 1 + 1]? = some (mimO noM none 0) := by
          rw [show w.heap.size + 1 + 1 = ((w.alloc (.cells #[.string (bt m.t), .string (bt m.s), .slice A m.ps.length c] 35)).alloc (.cells #[.string (bt n.t), .string (bt n.s), .slice A2 n.ps.length c2] 35)).heap.size by simp]
          exact heap_alloc_new _ _
        have hb : Below w.heap.size w (((w.alloc (.cells #[.string (bt m.t), .string (bt m.s), .slice A m.ps.length c] 35)).alloc (.cells #[.string (bt n.t), .string (bt n.s), .slice A2 n.ps.length c2] 35)).alloc (.cells #[.string ⟨#[]⟩, .string ⟨#[]⟩, .slice none 0 0] 35)) := ((below_box _ _).alloc (by simp) _).alloc (by simp; omega) _
        generalize (((w.alloc (.cells #[.string (bt m.t), .string (bt m.s), .slice A m.ps.length c] 35)).alloc (.cells #[.string (bt n.t), .string (bt n.s), .slice A2 n.ps.length c2] 35)).alloc (.cells #[.string ⟨#[]⟩, .string ⟨#[]⟩, .slice none 0 0] 35)) = W at *
        obtain ⟨p0, p1, p2, pz, plt⟩ := mim_cells hP
        obtain ⟨n0, n1, n2, nz, nlt⟩ := mim_cells hN
        obtain ⟨r0, r1, r2, rz, rlt⟩ := mim_cells hR
        go_wp2_with fail
        refine (HPA.out _ hb).mono ?_
        rintro e w1 ⟨rfl, hbn⟩
        clear p0 p1 p2 pz plt n0 n1 n2 nz nlt r0 r1 r2 rz rlt
        have hP := (hbn.block _ (Array.getElem?_eq_some_iff.1 hP).1).trans hP
        have hN := (hbn.block _ (Array.getElem?_eq_some_iff.1 hN).1).trans hN
        have hR := (hbn.block _ (Array.getElem?_eq_some_iff.1 hR).1).trans hR
        have hb := hb.trans (hbn.mono hb.size)
        clear hbn
        obtain ⟨p0, p1, p2, pz, plt⟩ := mim_cells hP
        obtain ⟨n0, n1, n2, nz, nlt⟩ := mim_cells hN
        obtain ⟨r0, r1, r2, rz, rlt⟩ := mim_cells hR
        go_upto_region 2 with fail
        have hx := @InB.cells w1
        refine wp_region_inb (by kernel_rfl) (by kernel_rfl) ?_; (repeat (first | go_big_quiet_skip | (go_big_quiet_want; go_big_quiet_op; first | go_big_quiet_on | (apply Exists.intro; refine ⟨fun x => ?_, ?_⟩; (· ((first | (go_at_call 48; with_reducible exact inb_call _ (HE1.out _)) | (go_at_call 48; with_reducible exact inb_call _ (HE2.out _))))); go_big_quiet_on)))); refine wpQuiet_nil ?_; intro _ hw'; obtain ⟨⟨wq, hbq⟩, rfl⟩ := hw'
        have hbn := hbq
        clear hx hbq
        clear p0 p1 p2 pz plt n0 n1 n2 nz nlt r0 r1 r2 rz rlt
        have hP := (hbn.block _ (Array.getElem?_eq_some_iff.1 hP).1).trans hP
        have hN := (hbn.block _ (Array.getElem?_eq_some_iff.1 hN).1).trans hN
        have hR := (hbn.block _ (Array.getElem?_eq_some_iff.1 hR).1).trans hR
        have hb := hb.trans (hbn.mono hb.size)
        clear hbn
        obtain ⟨p0, p1, p2, pz, plt⟩ := mim_cells hP
        obtain ⟨n0, n1, n2, nz, nlt⟩ := mim_cells hN
        obtain ⟨r0, r1, r2, rz, rlt⟩ := mim_cells hR
        have HO := Lib.hid (HOW.out _ hb)
        go_wp2_with fail
        refine HO.out.mono ?_
        rintro e w5 ⟨A3, c3, rfl, hA3, hbn, hf⟩
        unfold mimV
        have HF : Hid (∀ g, A3 = some ⟨g, 0, none⟩ → w.heap.size + 1 + 1 < g) := Lib.hid (fun g hg => by have := hf g hg; omega)
        have HA3 := Lib.hid hA3
        clear hA3 hf
        clear p0 p1 p2 pz plt n0 n1 n2 nz nlt r0 r1 r2 rz rlt
        have hP := (hbn.block _ (Array.getElem?_eq_some_iff.1 hP).1).trans hP
        have hN := (hbn.block _ (Array.getElem?_eq_some_iff.1 hN).1).trans hN
        have hR := (hbn.block _ (Array.getElem?_eq_some_iff.1 hR).1).trans hR
        have hb := hb.trans (hbn.mono hb.size)
        clear hbn
        have HB := Lib.hid hb
        obtain ⟨p0, p1, p2, pz, plt⟩ := mim_cells hP
        obtain ⟨n0, n1, n2, nz, nlt⟩ := mim_cells hN
        obtain ⟨r0, r1, r2, rz, rlt⟩ := mim_cells hR
        go_wp2_with fail
        refine bodyPost_ret (v := .tuple #[mimV n A3 c3, .string S]) ?_ rfl ?_
        · simp [results, Tryz.results59, go_sem, r0, r1, r2, mimV]
        · have hf : ∀ g, A3 = some ⟨g, 0, none⟩ → w.heap.size + 1 + 1 ≠ g := fun g hg => by have := HF.out g hg; omega
          refine ⟨A3, c3, by rw [HV.out, ← hS], ?_, ?_, fun g hg => by have := HF.out g hg; omega⟩
          · rw [HV.out]
            exact (((HA3.out.set hf _).set hf _).set hf _).more (by simp)
          · exact ((HB.out.setCell (show w.heap.size ≤ w.heap.size + 1 + 1 by omega) _).setCell (show w.heap.size ≤ w.heap.size + 1 + 1 by omega) _).setCell (show w.heap.size ≤ w.heap.size + 1 + 1 by omega) _
      · have hset : S.toList.isEmpty = false := by rw [← hS, bt_empty, List.isEmpty_eq_false_iff]; exact hse
        cases hg : goodL (withM n charL set)
        · have HV : Hid (R = (n, set)) := Lib.hid (by rw [HV.out, if_neg (by simpa using he), if_neg (by rintro ⟨_, _, h⟩; rw [hg] at h; cases h)])
          obtain ⟨k, hk, hk0⟩ : ∃ k : Int, ((withR n charL set).2 : Int) = k ∧ (k == 0) = false := by
            unfold withR
            rw [hg]
            simp only [Bool.false_eq_true, if_false]
            split
            · exact ⟨7, rfl, rfl⟩
            · exact ⟨2, rfl, rfl⟩
          rw [hk] at HWI
          generalize (withR n charL set).1 = Z at *
          clear hq hd hg hk
          go_enter Tryz.func59, Tryz.ntmps59
          go_upto_region 1 with fail
          have hP : (((w.alloc (.cells #[.string (bt m.t), .string (bt m.s), .slice A m.ps.length c] 35)).alloc (.cells #[.string (bt n.t), .string (bt n.s), .slice A2 n.ps.length c2] 35)).alloc (.cells #[.string ⟨#[]⟩, .string ⟨#[]⟩, .slice none 0 0] 35)).heap[w.heap.size]? = some (mimO m A c) := (Below.heap_alloc _ _ _ (by simp; omega)).trans ((Below.heap_alloc _ _ _ (by simp)).trans (heap_alloc_new w _))
          have hN : (((w.alloc (.cells #[.string (bt m.t), .string (bt m.s), .slice A m.ps.length c] 35)).alloc (.cells #[.string (bt n.t), .string (bt n.s), .slice A2 n.ps.length c2] 35)).alloc (.cells #[.string ⟨#[]⟩, .string ⟨#[]⟩, .slice none 0 0] 35)).heap[w.heap.size + 1]? = some (mimO n A2 c2) := (Below.heap_alloc _ _ _ (by simp)).trans (by
            rw [show w.heap.size + 1 = (w.alloc (.cells #[.string (bt m.t), .string (bt m.s), .slice A m.ps.length c] 35)).heap.size by simp]
            exact heap_alloc_new _ _)
          have hR : (((w.alloc (.cells #[.string (bt m.t), .string (bt m.s), .slice A m.ps.length c] 35)).alloc (.cells #[.string (bt n.t), .string (bt n.s), .slice A2 n.ps.length c2] 35)).alloc (.cells #[.string ⟨#[]⟩, .string ⟨#[]⟩, .slice none 0 0] 35)).heap[w.heap.size + 1 + 1]? = some (mimO noM none 0) := by
            rw [show w.heap.size + 1 + 1 = ((w.alloc (.cells #[.string (bt m.t), .string (bt m.s), .slice A m.ps.length c] 35)).alloc (.cells #[.string (bt n.t), .string (bt n.s), .slice A2 n.ps.length c2] 35)).heap.size by simp]
            exact heap_alloc_new _ _
          have hb : Below w.heap.size w (((w.alloc (.cells #[.string (bt m.t), .string (bt m.s), .slice A m.ps.length c] 35)).alloc (.cells #[.string (bt n.t), .string (bt n.s), .slice A2 n.ps.length c2] 35)).alloc (.cells #[.string ⟨#[]⟩, .string ⟨#[]⟩, .slice none 0 0] 35)) := ((below_box _ _).alloc (by simp) _).alloc (by simp; omega) _
          generalize (((w.alloc (.cells #[.string (bt m.t), .string (bt m.s), .slice A m.ps.length c] 35)).alloc (.cells #[.string (bt n.t), .string (bt n.s), .slice A2 n.ps.length c2] 35)).alloc (.cells #[.string ⟨#[]⟩, .string ⟨#[]⟩, .slice none 0 0] 35)) = W at *
          obtain ⟨p0, p1, p2, pz, plt⟩ := mim_cells hP
          obtain ⟨n0, n1, n2, nz, nlt⟩ := mim_cells hN
          obtain ⟨r0, r1, r2, rz, rlt⟩ := mim_cells hR
          go_wp2_with fail
          refine (HPA.out _ hb).mono ?_
          rintro e w1 ⟨rfl, hbn⟩
          clear p0 p1 p2 pz plt n0 n1 n2 nz nlt r0 r1 r2 rz rlt
          have hP := (hbn.block _ (Array.getElem?_eq_some_iff.1 hP).1).trans hP
          have hN := (hbn.block _ (Array.getElem?_eq_some_iff.1 hN).1).trans hN
          have hR := (hbn.block _ (Array.getElem?_eq_some_iff.1 hR).1).trans hR
          have hb := hb.trans (hbn.mono hb.size)
          clear hbn
          obtain ⟨p0, p1, p2, pz, plt⟩ := mim_cells hP
          obtain ⟨n0, n1, n2, nz, nlt⟩ := mim_cells hN
          obtain ⟨r0, r1, r2, rz, rlt⟩ := mim_cells hR
          go_upto_region 2 with fail
          have hx := @InB.cells w1
          refine wp_region_inb (by kernel_rfl) (by kernel_rfl) ?_; (repeat (first | go_big_quiet_skip | (go_big_quiet_want; go_big_quiet_op; first | go_big_quiet_on | (apply Exists.intro; refine ⟨fun x => ?_, ?_⟩; (· ((first | (go_at_call 48; with_reducible exact inb_call _ (HE1.out _)) | (go_at_call 48; with_reducible exact inb_call _ (HE2.out _))))); go_big_quiet_on)))); refine wpQuiet_nil ?_; intro _ hw'; obtain ⟨⟨wq, hbq⟩, rfl⟩ := hw'
          have hbn := hbq
          clear hx hbq
          clear p0 p1 p2 pz plt n0 n1 n2 nz nlt r0 r1 r2 rz rlt
          have hP := (hbn.block _ (Array.getElem?_eq_some_iff.1 hP).1).trans hP
          have hN := (hbn.block _ (Array.getElem?_eq_some_iff.1 hN).1).trans hN
          have hR := (hbn.block _ (Array.getElem?_eq_some_iff.1 hR).1).trans hR
          have hb := hb.trans (hbn.mono hb.size)
          clear hbn
          obtain ⟨p0, p1, p2, pz, plt⟩ := mim_cells hP
          obtain ⟨n0, n1, n2, nz, nlt⟩ := mim_cells hN
          obtain ⟨r0, r1, r2, rz, rlt⟩ := mim_cells hR
          have HRL := Lib.hid rlt
          go_upto_region 5 with fail
          have HW5 := Lib.hid (HWI.out _ hb)
          go_wp2_with fail
          refine HW5.out.mono ?_
          rintro e w4 ⟨A4, c4, rfl, hA4, hbn, hf4⟩
          clear p0 p1 p2 pz plt n0 n1 n2 nz nlt r0 r1 r2 rz rlt
          have hP := (hbn.block _ (Array.getElem?_eq_some_iff.1 hP).1).trans hP
          have hN := (hbn.block _ (Array.getElem?_eq_some_iff.1 hN).1).trans hN
          have hR := (hbn.block _ (Array.getElem?_eq_some_iff.1 hR).1).trans hR
          have hb := hb.trans (hbn.mono hb.size)
          clear hbn
          have hP : (w4.alloc (.cells #[.string (bt Z.t), .string (bt Z.s), .slice A4 Z.ps.length c4] 35)).heap[w.heap.size]? = _ := (Below.heap_alloc _ _ _ (Array.getElem?_eq_some_iff.1 hP).1).trans hP
          have hN : (w4.alloc (.cells #[.string (bt Z.t), .string (bt Z.s), .slice A4 Z.ps.length c4] 35)).heap[w.heap.size + 1]? = _ := (Below.heap_alloc _ _ _ (Array.getElem?_eq_some_iff.1 hN).1).trans hN
          have hR : (w4.alloc (.cells #[.string (bt Z.t), .string (bt Z.s), .slice A4 Z.ps.length c4] 35)).heap[w.heap.size + 1 + 1]? = _ := (Below.heap_alloc _ _ _ (Array.getElem?_eq_some_iff.1 hR).1).trans hR
          have hZ : (w4.alloc (.cells #[.string (bt Z.t), .string (bt Z.s), .slice A4 Z.ps.length c4] 35)).heap[w4.heap.size]? = some (mimO Z A4 c4) := heap_alloc_new w4 _
          have hA5 : ParsAt (w4.alloc (.cells #[.string (bt Z.t), .string (bt Z.s), .slice A4 Z.ps.length c4] 35)) (w4.alloc (.cells #[.string (bt Z.t), .string (bt Z.s), .slice A4 Z.ps.length c4] 35)).heap.size A4 Z.ps := hA4.on (below_box w4 _)
          have hb := hb.alloc hb.size (.cells #[.string (bt Z.t), .string (bt Z.s), .slice A4 Z.ps.length c4] 35)
          go_upto_region 6 with fail
          generalize hz4 : w4.heap.size = gz at *
          generalize w4.alloc (.cells #[.string (bt Z.t), .string (bt Z.s), .slice A4 Z.ps.length c4] 35) = v4 at *
          clear hz4 hA4 HW5
          clear hZ hA5 hf4
          obtain ⟨p0, p1, p2, pz, plt⟩ := mim_cells hP
          obtain ⟨n0, n1, n2, nz, nlt⟩ := mim_cells hN
          obtain ⟨r0, r1, r2, rz, rlt⟩ := mim_cells hR
          have HO := Lib.hid (HOW.out _ hb)
          go_wp2_with fail
          refine HO.out.mono ?_
          rintro e w5 ⟨A3, c3, rfl, hA3, hbn, hf⟩
          unfold mimV
          have HF : Hid (∀ g, A3 = some ⟨g, 0, none⟩ → w.heap.size + 1 + 1 < g) := Lib.hid (fun g hg => by have := hf g hg; omega)
          have HA3 := Lib.hid hA3
          clear hA3 hf
          clear p0 p1 p2 pz plt n0 n1 n2 nz nlt r0 r1 r2 rz rlt
          have hP := (hbn.block _ (Array.getElem?_eq_some_iff.1 hP).1).trans hP
          have hN := (hbn.block _ (Array.getElem?_eq_some_iff.1 hN).1).trans hN
          have hR := (hbn.block _ (Array.getElem?_eq_some_iff.1 hR).1).trans hR
          have hb := hb.trans (hbn.mono hb.size)
          clear hbn
          have HB := Lib.hid hb
          obtain ⟨p0, p1, p2, pz, plt⟩ := mim_cells hP
          obtain ⟨n0, n1, n2, nz, nlt⟩ := mim_cells hN
          obtain ⟨r0, r1, r2, rz, rlt⟩ := mim_cells hR
          go_wp2_with fail
          refine bodyPost_ret (v := .tuple #[mimV n A3 c3, .string S]) ?_ rfl ?_
          · simp [results, Tryz.results59, go_sem, r0, r1, r2, mimV]
          · have hf : ∀ g, A3 = some ⟨g, 0, none⟩ → w.heap.size + 1 + 1 ≠ g := fun g hg => by have := HF.out g hg; omega
            refine ⟨A3, c3, by rw [HV.out, ← hS], ?_, ?_, fun g hg => by have := HF.out g hg; omega⟩
            · rw [HV.out]
              exact (((HA3.out.set hf _).set hf _).set hf _).more (by simp)
            · exact ((HB.out.setCell (show w.heap.size ≤ w.heap.size + 1 + 1 by omega) _).setCell (show w.heap.size ≤ w.heap.size + 1 + 1 by omega) _).setCell (show w.heap.size ≤ w.heap.size + 1 + 1 by omega) _
        · have HV : Hid (R = (withM n charL set, set)) := Lib.hid (by rw [HV.out, if_neg (by simpa using he), if_pos ⟨by omega, hse, hg⟩])
          have hw : withR n charL set = (withM n charL set, 0) := by unfold withR; rw [hg]; rfl
          rw [show ((withR n charL set).2 : Int) = 0 by rw [hw]; rfl, hw] at HWI
          simp only at HWI
          generalize withM n charL set = Z at *
          clear hq hd hg hw
          go_enter Tryz.func59, Tryz.ntmps59
          go_upto_region 1 with fail
          have hP : (((w.alloc (.cells #[.string (bt m.t), .string (bt m.s), .slice A m.ps.length c] 35)).alloc (.cells #[.string (bt n.t), .string (bt n.s), .slice A2 n.ps.length c2] 35)).alloc (.cells #[.string ⟨#[]⟩, .string ⟨#[]⟩, .slice none 0 0] 35)).heap[w.heap.size]? = some (mimO m A c) := (Below.heap_alloc _ _ _ (by simp; omega)).trans ((Below.heap_alloc _ _ _ (by simp)).trans (heap_alloc_new w _))
          have hN : (((w.alloc (.cells #[.string (bt m.t), .string (bt m.s), .slice A m.ps.length c] 35)).alloc (.cells #[.string (bt n.t), .string (bt n.s), .slice A2 n.ps.length c2] 35)).alloc (.cells #[.string ⟨#[]⟩, .string ⟨#[]⟩, .slice none 0 0] 35)).heap[w.heap.size + 1]? = some (mimO n A2 c2) := (Below.heap_alloc _ _ _ (by simp)).trans (by
            rw [show w.heap.size + 1 = (w.alloc (.cells #[.string (bt m.t), .string (bt m.s), .slice A m.ps.length c] 35)).heap.size by simp]
            exact heap_alloc_new _ _)
          have hR : (((w.alloc (.cells #[.string (bt m.t), .string (bt m.s), .slice A m.ps.length c] 35)).alloc (.cells #[.string (bt n.t), .string (bt n.s), .slice A2 n.ps.length c2] 35)).alloc (.cells #[.string ⟨#[]⟩, .string ⟨#[]⟩, .slice none 0 0] 35)).heap[w.heap.size + 1 + 1]? = some (mimO noM none 0) := by
            rw [show w.heap.size + 1 + 1 = ((w.alloc (.cells #[.string (bt m.t), .string (bt m.s), .slice A m.ps.length c] 35)).alloc (.cells #[.string (bt n.t), .string (bt n.s), .slice A2 n.ps.length c2] 35)).heap.size by simp]
            exact heap_alloc_new _ _
          have hb : Below w.heap.size w (((w.alloc (.cells #[.string (bt m.t), .string (bt m.s), .slice A m.ps.length c] 35)).alloc (.cells #[.string (bt n.t), .string (bt n.s), .slice A2 n.ps.length c2] 35)).alloc (.cells #[.string ⟨#[]⟩, .string ⟨#[]⟩, .slice none 0 0] 35)) := ((below_box _ _).alloc (by simp) _).alloc (by simp; omega) _
          generalize (((w.alloc (.cells #[.string (bt m.t), .string (bt m.s), .slice A m.ps.length c] 35)).alloc (.cells #[.string (bt n.t), .string (bt n.s), .slice A2 n.ps.length c2] 35)).alloc (.cells #[.string ⟨#[]⟩, .string ⟨#[]⟩, .slice none 0 0] 35)) = W at *
          obtain ⟨p0, p1, p2, pz, plt⟩ := mim_cells hP
          obtain ⟨n0, n1, n2, nz, nlt⟩ := mim_cells hN
          obtain ⟨r0, r1, r2, rz, rlt⟩ := mim_cells hR
          go_wp2_with fail
          refine (HPA.out _ hb).mono ?_
          rintro e w1 ⟨rfl, hbn⟩
          clear p0 p1 p2 pz plt n0 n1 n2 nz nlt r0 r1 r2 rz rlt
          have hP := (hbn.block _ (Array.getElem?_eq_some_iff.1 hP).1).trans hP
          have hN := (hbn.block _ (Array.getElem?_eq_some_iff.1 hN).1).trans hN
          have hR := (hbn.block _ (Array.getElem?_eq_some_iff.1 hR).1).trans hR
          have hb := hb.trans (hbn.mono hb.size)
          clear hbn
          obtain ⟨p0, p1, p2, pz, plt⟩ := mim_cells hP
          obtain ⟨n0, n1, n2, nz, nlt⟩ := mim_cells hN
          obtain ⟨r0, r1, r2, rz, rlt⟩ := mim_cells hR
          go_upto_region 2 with fail
          have hx := @InB.cells w1
          refine wp_region_inb (by kernel_rfl) (by kernel_rfl) ?_; (repeat (first | go_big_quiet_skip | (go_big_quiet_want; go_big_quiet_op; first | go_big_quiet_on | (apply Exists.intro; refine ⟨fun x => ?_, ?_⟩; (· ((first | (go_at_call 48; with_reducible exact inb_call _ (HE1.out _)) | (go_at_call 48; with_reducible exact inb_call _ (HE2.out _))))); go_big_quiet_on)))); refine wpQuiet_nil ?_; intro _ hw'; obtain ⟨⟨wq, hbq⟩, rfl⟩ := hw'
          have hbn := hbq
          clear hx hbq
          clear p0 p1 p2 pz plt n0 n1 n2 nz nlt r0 r1 r2 rz rlt
          have hP := (hbn.block _ (Array.getElem?_eq_some_iff.1 hP).1).trans hP
          have hN := (hbn.block _ (Array.getElem?_eq_some_iff.1 hN).1).trans hN
          have hR := (hbn.block _ (Array.getElem?_eq_some_iff.1 hR).1).trans hR
          have hb := hb.trans (hbn.mono hb.size)
          clear hbn
          obtain ⟨p0, p1, p2, pz, plt⟩ := mim_cells hP
          obtain ⟨n0, n1, n2, nz, nlt⟩ := mim_cells hN
          obtain ⟨r0, r1, r2, rz, rlt⟩ := mim_cells hR
          have HRL := Lib.hid rlt
          go_upto_region 5 with fail
          have HW5 := Lib.hid (HWI.out _ hb)
          go_wp2_with fail
          refine HW5.out.mono ?_
          rintro e w4 ⟨A4, c4, rfl, hA4, hbn, hf4⟩
          clear p0 p1 p2 pz plt n0 n1 n2 nz nlt r0 r1 r2 rz rlt
          have hP := (hbn.block _ (Array.getElem?_eq_some_iff.1 hP).1).trans hP
          have hN := (hbn.block _ (Array.getElem?_eq_some_iff.1 hN).1).trans hN
          have hR := (hbn.block _ (Array.getElem?_eq_some_iff.1 hR).1).trans hR
          have hb := hb.trans (hbn.mono hb.size)
          clear hbn
          have hP : (w4.alloc (.cells #[.string (bt Z.t), .string (bt Z.s), .slice A4 Z.ps.length c4] 35)).heap[w.heap.size]? = _ := (Below.heap_alloc _ _ _ (Array.getElem?_eq_some_iff.1 hP).1).trans hP
          have hN : (w4.alloc (.cells #[.string (bt Z.t), .string (bt Z.s), .slice A4 Z.ps.length c4] 35)).heap[w.heap.size + 1]? = _ := (Below.heap_alloc _ _ _ (Array.getElem?_eq_some_iff.1 hN).1).trans hN
          have hR : (w4.alloc (.cells #[.string (bt Z.t), .string (bt Z.s), .slice A4 Z.ps.length c4] 35)).heap[w.heap.size + 1 + 1]? = _ := (Below.heap_alloc _ _ _ (Array.getElem?_eq_some_iff.1 hR).1).trans hR
          have hZ : (w4.alloc (.cells #[.string (bt Z.t), .string (bt Z.s), .slice A4 Z.ps.length c4] 35)).heap[w4.heap.size]? = some (mimO Z A4 c4) := heap_alloc_new w4 _
          have hA5 : ParsAt (w4.alloc (.cells #[.string (bt Z.t), .string (bt Z.s), .slice A4 Z.ps.length c4] 35)) (w4.alloc (.cells #[.string (bt Z.t), .string (bt Z.s), .slice A4 Z.ps.length c4] 35)).heap.size A4 Z.ps := hA4.on (below_box w4 _)
          have hb := hb.alloc hb.size (.cells #[.string (bt Z.t), .string (bt Z.s), .slice A4 Z.ps.length c4] 35)
          go_upto_region 6 with fail
          generalize hz4 : w4.heap.size = gz at *
          generalize w4.alloc (.cells #[.string (bt Z.t), .string (bt Z.s), .slice A4 Z.ps.length c4] 35) = v4 at *
          clear hz4 hA4 HW5
          have HF : Hid (∀ g, A4 = some ⟨g, 0, none⟩ → w.heap.size + 1 + 1 < g) := Lib.hid (fun g hg => by have := hf4 g hg; have := HRL.out; omega)
          have HA3 := Lib.hid hA5
          have HB := Lib.hid hb
          obtain ⟨z0, z1, z2, zz, zlt⟩ := mim_cells hZ
          obtain ⟨p0, p1, p2, pz, plt⟩ := mim_cells hP
          obtain ⟨n0, n1, n2, nz, nlt⟩ := mim_cells hN
          obtain ⟨r0, r1, r2, rz, rlt⟩ := mim_cells hR
          clear hA5 hf4
          go_wp2_with fail
          refine bodyPost_ret (v := .tuple #[mimV Z A4 c4, .string S]) ?_ rfl ?_
          · simp [results, Tryz.results59, go_sem, r0, r1, r2, mimV]
          · have hf : ∀ g, A4 = some ⟨g, 0, none⟩ → w.heap.size + 1 + 1 ≠ g := fun g hg => by have := HF.out g hg; omega
            refine ⟨A4, c4, by rw [HV.out, ← hS], ?_, ?_, fun g hg => by have := HF.out g hg; omega⟩
            · rw [HV.out]
              exact (((HA3.out.set hf _).set hf _).set hf _).more (by simp)
            · exact ((HB.out.setCell (show w.heap.size ≤ w.heap.size + 1 + 1 by omega) _).setCell (show w.heap.size ≤ w.heap.size + 1 + 1 by omega) _).setCell (show w.heap.size ≤ w.heap.size + 1 + 1 by omega) _
  · have hqe : (X.toList == Y.toList) = false := by rw [hq]; exact beq_eq_false_iff_ne.2 he
    have HV : Hid (R = (n, setOf n)) := Lib.hid (by rw [HV.out, if_pos he])
    clear hq
    go_enter Tryz.func59, Tryz.ntmps59
    go_upto_region 1 with fail
    have hP : (((w.alloc (.cells #[.string (bt m.t), .string (bt m.s), .slice A m.ps.length c] 35)).alloc (.cells #[.string (bt n.t), .string (bt n.s), .slice A2 n.ps.length c2] 35)).alloc (.cells #[.string ⟨#[]⟩, .string ⟨#[]⟩, .slice none 0 0] 35)).heap[w.heap.size]? = some (mimO m A c) := (Below.heap_alloc _ _ _ (by simp; omega)).trans ((Below.heap_alloc _ _ _ (by simp)).trans (heap_alloc_new w _))
    have hN : (((w.alloc (.cells #[.string (bt m.t), .string (bt m.s), .slice A m.ps.length c] 35)).alloc (.cells #[.string (bt n.t), .string (bt n.s), .slice A2 n.ps.length c2] 35)).alloc (.cells #[.string ⟨#[]⟩, .string ⟨#[]⟩, .slice none 0 0] 35)).heap[w.heap.size + 1]? = some (mimO n A2 c2) := (Below.heap_alloc _ _ _ (by simp)).trans (by
      rw [show w.heap.size + 1 = (w.alloc (.cells #[.string (bt m.t), .string (bt m.s), .slice A m.ps.length c] 35)).heap.size by simp]
      exact heap_alloc_new _ _)
    have hR : (((w.alloc (.cells #[.string (bt m.t), .string (bt m.s), .slice A m.ps.length c] 35)).alloc (.cells #[.string (bt n.t), .string (bt n.s), .slice A2 n.ps.length c2] 35)).alloc (.cells #[.string ⟨#[]⟩, .string ⟨#[]⟩, .slice none 0 0] 35)).heap[w.heap.size + 1 + 1]? = some (mimO noM none 0) := by
      rw [show w.heap.size + 1 + 1 = ((w.alloc (.cells #[.string (bt m.t), .string (bt m.s), .slice A m.ps.length c] 35)).alloc (.cells #[.string (bt n.t), .string (bt n.s), .slice A2 n.ps.length c2] 35)).heap.size by simp]
      exact heap_alloc_new _ _
    have hb : Below w.heap.size w (((w.alloc (.cells #[.string (bt m.t), .string (bt m.s), .slice A m.ps.length c] 35)).alloc (.cells #[.string (bt n.t), .string (bt n.s), .slice A2 n.ps.length c2] 35)).alloc (.cells #[.string ⟨#[]⟩, .string ⟨#[]⟩, .slice none 0 0] 35)) := ((below_box _ _).alloc (by simp) _).alloc (by simp; omega) _
    generalize (((w.alloc (.cells #[.string (bt m.t), .string (bt m.s), .slice A m.ps.length c] 35)).alloc (.cells #[.string (bt n.t), .string (bt n.s), .slice A2 n.ps.length c2] 35)).alloc (.cells #[.string ⟨#[]⟩, .string ⟨#[]⟩, .slice none 0 0] 35)) = W at *
    obtain ⟨p0, p1, p2, pz, plt⟩ := mim_cells hP
    obtain ⟨n0, n1, n2, nz, nlt⟩ := mim_cells hN
    obtain ⟨r0, r1, r2, rz, rlt⟩ := mim_cells hR
    go_wp2_with fail
    refine (HPA.out _ hb).mono ?_
    rintro e w1 ⟨rfl, hbn⟩
    clear p0 p1 p2 pz plt n0 n1 n2 nz nlt r0 r1 r2 rz rlt
    have hP := (hbn.block _ (Array.getElem?_eq_some_iff.1 hP).1).trans hP
    have hN := (hbn.block _ (Array.getElem?_eq_some_iff.1 hN).1).trans hN
    have hR := (hbn.block _ (Array.getElem?_eq_some_iff.1 hR).1).trans hR
    have hb := hb.trans (hbn.mono hb.size)
    clear hbn
    obtain ⟨p0, p1, p2, pz, plt⟩ := mim_cells hP
    obtain ⟨n0, n1, n2, nz, nlt⟩ := mim_cells hN
    obtain ⟨r0, r1, r2, rz, rlt⟩ := mim_cells hR
    go_upto_region 2 with fail
    have hx := @InB.cells w1
    refine wp_region_inb (by kernel_rfl) (by kernel_rfl) ?_; (repeat (first | go_big_quiet_skip | (go_big_quiet_want; go_big_quiet_op; first | go_big_quiet_on | (apply Exists.intro; refine ⟨fun x => ?_, ?_⟩; (· ((first | (go_at_call 48; with_reducible exact inb_call _ (HE1.out _)) | (go_at_call 48; with_reducible exact inb_call _ (HE2.out _))))); go_big_quiet_on)))); refine wpQuiet_nil ?_; intro _ hw'; obtain ⟨⟨wq, hbq⟩, rfl⟩ := hw'
    have hbn := hbq
    clear hx hbq
    clear p0 p1 p2 pz plt n0 n1 n2 nz nlt r0 r1 r2 rz rlt
    have hP := (hbn.block _ (Array.getElem?_eq_some_iff.1 hP).1).trans hP
    have hN := (hbn.block _ (Array.getElem?_eq_some_iff.1 hN).1).trans hN
    have hR := (hbn.block _ (Array.getElem?_eq_some_iff.1 hR).1).trans hR
    have hb := hb.trans (hbn.mono hb.size)
    clear hbn
    obtain ⟨p0, p1, p2, pz, plt⟩ := mim_cells hP
    obtain ⟨n0, n1, n2, nz, nlt⟩ := mim_cells hN
    obtain ⟨r0, r1, r2, rz, rlt⟩ := mim_cells hR
    have HO := Lib.hid (HOW.out _ hb)
    go_wp2_with fail
    refine HO.out.mono ?_
    rintro e w5 ⟨A3, c3, rfl, hA3, hbn, hf⟩
    unfold mimV
    have HF : Hid (∀ g, A3 = some ⟨g, 0, none⟩ → w.heap.size + 1 + 1 < g) := Lib.hid (fun g hg => by have := hf g hg; omega)
    have HA3 := Lib.hid hA3
    clear hA3 hf
    clear p0 p1 p2 pz plt n0 n1 n2 nz nlt r0 r1 r2 rz rlt
    have hP := (hbn.block _ (Array.getElem?_eq_some_iff.1 hP).1).trans hP
    have hN := (hbn.block _ (Array.getElem?_eq_some_iff.1 hN).1).trans hN
    have hR := (hbn.block _ (Array.getElem?_eq_some_iff.1 hR).1).trans hR
    have hb := hb.trans (hbn.mono hb.size)
    clear hbn
    have HB := Lib.hid hb
    obtain ⟨p0, p1, p2, pz, plt⟩ := mim_cells hP
    obtain ⟨n0, n1, n2, nz, nlt⟩ := mim_cells hN
    obtain ⟨r0, r1, r2, rz, rlt⟩ := mim_cells hR
    go_wp2_with fail
    refine bodyPost_ret (v := .tuple #[mimV n A3 c3, .string (bt (setOf n))]) ?_ rfl ?_
    · simp [results, Tryz.results59, go_sem, r0, r1, r2, mimV]
    · have hf : ∀ g, A3 = some ⟨g, 0, none⟩ → w.heap.size + 1 + 1 ≠ g := fun g hg => by have := HF.out g hg; omega
      refine ⟨A3, c3, by rw [HV.out], ?_, ?_, fun g hg => by have := HF.out g hg; omega⟩
      · rw [HV.out]
        exact (((HA3.out.set hf _).set hf _).set hf _).more (by simp)
      · exact ((HB.out.setCell (show w.heap.size ≤ w.heap.size + 1 + 1 by omega) _).setCell (show w.heap.size ≤ w.heap.size + 1 + 1 by omega) _).setCell (show w.heap.size ≤ w.heap.size + 1 + 1 by omega) _

end Go.Proofs.YtdkkbibdjagjjaaGreat
