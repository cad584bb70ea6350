/-
  The walk of the law MimeWrites.
-/
import Derived.Test.YtigclegknofhmaaLawMimeParses
import Derived.Test.YtigclegknofhmaaLastIn2
namespace Go.Proofs.Ytigclegknofhmaa
open Go.RowKit
set_option linter.unusedSimpArgs false
set_option linter.unusedVariables false

theorem ParsAt.set3 {w : World} {B : Nat} {A : Option Addr} {l : Pars} (h : ParsAt w B A l) {b : Nat} (hp : ∀ g, A = some ⟨g, 0, none⟩ → b ≠ g) (u v z : Value) : ParsAt (((w.setCell ⟨b, 0, none⟩ u).setCell ⟨b, 1, none⟩ v).setCell ⟨b, 2, none⟩ z) B A l :=
  ((h.set hp u).set hp v).set hp z

theorem heap_set3 {w : World} {b : Nat} {x y z u v r : Value} {t : TypeId} (h : w.heap[b]? = some (.cells #[x, y, z] t (0, 0))) : (((w.setCell ⟨b, 0, none⟩ u).setCell ⟨b, 1, none⟩ v).setCell ⟨b, 2, none⟩ r).heap[b]? = some (.cells #[u, v, r] t (0, 0)) := by
  simp [World.setCell, Array.getElem?_modify, h]

theorem heap_far3 {w : World} {b k : Nat} {o : Obj} {u v r : Value} (hn : b ≠ k) (h : w.heap[k]? = some o) : (((w.setCell ⟨b, 0, none⟩ u).setCell ⟨b, 1, none⟩ v).setCell ⟨b, 2, none⟩ r).heap[k]? = some o := by
  simp [World.setCell, Array.getElem?_modify, hn, h]

/-- The two types in their blocks. -/
def TwoM (w : World) (m o : MimeL) (wx : World) : Prop :=
  ∃ A c A2 c2, wx.heap[w.heap.size]? = some (.cells #[.string (bt m.t), .string (bt m.s), .slice A m.ps.length c] 48 (0, 0)) ∧ wx.heap[w.heap.size + 1]? = some (.cells #[.string (bt o.t), .string (bt o.s), .slice A2 o.ps.length c2] 48 (0, 0)) ∧
    ParsAt wx wx.heap.size A m.ps ∧ ParsAt wx wx.heap.size A2 o.ps ∧ Below w.heap.size w wx

set_option maxHeartbeats 4000000 in
set_option maxRecDepth 20000 in
theorem mimeWrites_walk (m o : MimeL) (A A2 : Option Addr) (c c2 : Nat) (w : World) (hm : BigM m) (ho : BigM o) (hA : ParsIn w w.heap.size A m.ps) (hA2 : ParsIn w w.heap.size A2 o.ps) :
    Calls Try.prog 7 #[mimV m A c, mimV o A2 c2] w fun e w' => e = .returned (.bool true) ∧ Below w.heap.size w w' := by
  have HFM := Lib.hid (fun (w1 : World) (hb : Below w.heap.size w w1) => Few10_any m A c w1 hm (hA.on hb))
  have HFO := Lib.hid (fun (w1 : World) (hb : Below w.heap.size w w1) => Few10_any o A2 c2 w1 ho (hA2.on hb))
  have hmz := fewM_sizes m
  have hoz := fewM_sizes o
  have hmb : BigM (fewM m) := by obtain ⟨a, b, c, d⟩ := fewM_big m; exact ⟨a, b, c, d⟩
  have hob : BigM (fewM o) := by obtain ⟨a, b, c, d⟩ := fewM_big o; exact ⟨a, b, c, d⟩
  have hml := few_len m
  have hmi := fewM_idem m
  have hoi := fewM_idem o
  clear hm ho hA hA2
  unfold mimV at HFM HFO ⊢
  generalize fewM m = m2 at *
  generalize fewM o = o2 at *
  go_enter Try.func7, Try.ntmps7
  go_upto_region 1 with fail
  generalize hW : (w.alloc (.cells #[.string (bt m.t), .string (bt m.s), .slice A m.ps.length c] 48)).alloc (.cells #[.string (bt o.t), .string (bt o.s), .slice A2 o.ps.length c2] 48) = W
  have hP : W.heap[w.heap.size]? = some (.cells #[.string (bt m.t), .string (bt m.s), .slice A m.ps.length c] 48 (0, 0)) := by
    rw [← hW]; exact heap_old _ _ (heap_alloc_new w _)
  have hO : W.heap[w.heap.size + 1]? = some (.cells #[.string (bt o.t), .string (bt o.s), .slice A2 o.ps.length c2] 48 (0, 0)) := by
    rw [← hW]; exact heap_new2 _ _ _ (by simp)
  have hWB : Below w.heap.size w W := by rw [← hW]; exact (below_box _ _).alloc (by simp) _
  have hWz : W.heap.size = w.heap.size + 2 := by rw [← hW]; simp
  clear hW
  have HP := Lib.hid hP; have HO := Lib.hid hO; have HWB := Lib.hid hWB; have HWZ := Lib.hid hWz
  clear hP hO hWB hWz
  go_cut [] (fun wx => TwoM w m2 o2 wx)
  case first =>
    obtain ⟨p0, p1, p2, pz⟩ := box_cells HP.out
    obtain ⟨o0, o1, o2', oz⟩ := box_cells HO.out
    refine wp_region_N 4 (fun w' => w'.cell? ⟨w.heap.size, 0, none⟩ = some (.string (bt m.t)) ∧ w'.cell? ⟨w.heap.size, 1, none⟩ = some (.string (bt m.s)) ∧ w'.cell? ⟨w.heap.size, 2, none⟩ = some (.slice A m.ps.length c) ∧ w'.cell? ⟨w.heap.size + 1, 0, none⟩ = some (.string (bt o.t)) ∧ w'.cell? ⟨w.heap.size + 1, 1, none⟩ = some (.string (bt o.s)) ∧ w'.cell? ⟨w.heap.size + 1, 2, none⟩ = some (.slice A2 o.ps.length c2)) (by kernel_rfl) (by kernel_rfl) ⟨p0, p1, p2, o0, o1, o2'⟩ ?_
    (refine NJ.take (i := 0) (v := ?_) rfl rfl (by kernel_rfl) (by kernel_rfl) (by kernel_rfl) (by kernel_rfl) (fun _ _ _ h => h) (Or.inl ⟨by rfl, ?_⟩) ?_; rotate_left; (focus (intro wS hSw; (try dsimp only at hSw); go_simp; first | done | with_reducible rfl)); (try simp only [Act.put, List.getElem_toArray, List.getElem_cons_zero, List.getElem_cons_succ, List.setIfInBounds_toArray, List.set_cons_zero, List.set_cons_succ]))
    (refine NJ.take (i := 2) (v := ?_) rfl rfl (by kernel_rfl) (by kernel_rfl) (by kernel_rfl) (by kernel_rfl) (fun _ _ _ h => h) (Or.inl ⟨by rfl, ?_⟩) ?_; rotate_left; (focus (intro wS hSw; (try dsimp only at hSw); go_simp; first | done | with_reducible rfl)); (try simp only [Act.put, List.getElem_toArray, List.getElem_cons_zero, List.getElem_cons_succ, List.setIfInBounds_toArray, List.set_cons_zero, List.set_cons_succ]))
    refine NJ.step (i := 1) rfl rfl (by kernel_rfl) (fun hSat K hK => ?_)
    go_simp
    refine Calls.mono (HFM.out _ HWB.out.drew) ?_
    rintro e w1 ⟨A3, c3, rfl, hA3, hb3, hg3⟩
    have hbn := below_undrew hb3
    have HA3 := Lib.hid hA3
    have HB1 := Lib.hid hbn
    have HG3 := Lib.hid hg3
    clear hA3 hb3 hg3
    go_wp2_with fail
    refine hK.out _ _ ?_ ?_
    · exact ⟨(cell_below hbn pz).trans p0, (cell_below hbn pz).trans p1, (cell_below hbn pz).trans p2, (cell_below hbn oz).trans o0, (cell_below hbn oz).trans o1, (cell_below hbn oz).trans o2'⟩
    clear hK hSat K
    (try simp only [Act.put, List.getElem_toArray, List.getElem_cons_zero, List.getElem_cons_succ, List.setIfInBounds_toArray, List.set_cons_zero, List.set_cons_succ])
    clear hbn
    refine NJ.step (i := 3) rfl rfl (by kernel_rfl) (fun hSat K hK => ?_)
    go_simp
    refine Calls.mono (HFO.out _ (HWB.out.trans (HB1.out.mono (by have := HWZ.out; omega)))) ?_
    rintro e w2 ⟨A4, c4, rfl, hA4, hb4, hg4⟩
    have hbn := HB1.out.trans (hb4.mono HB1.out.size)
    have HA4 := Lib.hid hA4
    have HB4 := Lib.hid hb4
    have HB2 := Lib.hid hbn
    have HG4 := Lib.hid hg4
    have q0 := (cell_below (o := 0) hbn pz).trans p0
    have q1 := (cell_below (o := 1) hbn pz).trans p1
    have q2 := (cell_below (o := 2) hbn pz).trans p2
    have q3 := (cell_below (o := 0) hbn oz).trans o0
    have q4 := (cell_below (o := 1) hbn oz).trans o1
    have q5 := (cell_below (o := 2) hbn oz).trans o2'
    have hP2 := (hbn.block _ pz).trans HP.out
    have hO2 := (hbn.block _ oz).trans HO.out
    have fq : ∀ i, w2.frozen? ⟨w.heap.size, i, none⟩ = false := fun i => Lib.frozen_of_heap hP2 i
    have fr : ∀ i, w2.frozen? ⟨w.heap.size + 1, i, none⟩ = false := fun i => Lib.frozen_of_heap hO2 i
    have HP2 := Lib.hid hP2
    have HO2 := Lib.hid hO2
    clear hA4 hb4 hg4 hP2 hO2
    go_wp2_with fail
    refine hK.out _ _ ?_ ?_
    · exact ⟨(cell_below hbn pz).trans p0, (cell_below hbn pz).trans p1, (cell_below hbn pz).trans p2, (cell_below hbn oz).trans o0, (cell_below hbn oz).trans o1, (cell_below hbn oz).trans o2'⟩
    clear hK hSat K
    (try simp only [Act.put, List.getElem_toArray, List.getElem_cons_zero, List.getElem_cons_succ, List.setIfInBounds_toArray, List.set_cons_zero, List.set_cons_succ])
    clear hbn p0 p1 p2 o0 o1 o2'
    (refine NJ.over rfl (by kernel_rfl) (fun hSat K hK => ?_); go_simp; refine hK.out _ _ ?_; clear hK hSat K; (try simp only [Act.put, List.getElem_toArray, List.getElem_cons_zero, List.getElem_cons_succ, List.setIfInBounds_toArray, List.set_cons_zero, List.set_cons_succ]))
    (refine wpAnyN_tail (i := 5) rfl rfl (by kernel_rfl) (fun K hK => ?_); go_simp; refine hK.out _ _ ?_; clear hK K; (try simp only [Act.put, List.getElem_toArray, List.getElem_cons_zero, List.getElem_cons_succ, List.setIfInBounds_toArray, List.set_cons_zero, List.set_cons_succ]))
    refine wpAnyN_fin (by kernel_rfl) ?_
    go_wp2_with fail
    go_meet
    have hf3 : ∀ g, A3 = some ⟨g, 0, none⟩ → w.heap.size ≠ g ∧ w.heap.size + 1 ≠ g := fun g hg => by have h1 := HG3.out g hg; have h2 := HWZ.out; simp at h1; omega
    have hf4 : ∀ g, A4 = some ⟨g, 0, none⟩ → w.heap.size ≠ g ∧ w.heap.size + 1 ≠ g := fun g hg => by have h1 := HG4.out g hg; have h2 := HWZ.out; have h3 := HB1.out.size; omega
    refine ⟨A3, c3, A4, c4, heap_far3 (by omega) (heap_set3 HP2.out), heap_set3 (heap_far3 (by omega) HO2.out), ?_, ?_, ?_⟩
    · exact (((HA3.out.on HB4.out).set3 (fun g hg => (hf3 g hg).1) _ _ _).set3 (fun g hg => (hf3 g hg).2) _ _ _).more (by simp)
    · exact ((HA4.out.set3 (fun g hg => (hf4 g hg).1) _ _ _).set3 (fun g hg => (hf4 g hg).2) _ _ _).more (by simp)
    · exact ((((((HWB.out.trans (HB2.out.mono (by have := HWZ.out; omega))).setCell (by simp) _).setCell (by simp) _).setCell (by simp) _).setCell (by simp) _).setCell (by simp) _).setCell (by simp) _
  obtain ⟨A3, c3, A4, c4, hP3, hO3, hA3, hA4, hb3⟩ := hcut
  have HSE := Lib.hid (rSerial_par m2 A3 c3 wc hmz hA3)
  unfold mimV at HSE
  have HP3 := Lib.hid hP3
  have HO3 := Lib.hid hO3
  have HA3 := Lib.hid hA3
  have HA4 := Lib.hid hA4
  have HB3 := Lib.hid hb3
  obtain ⟨p0, p1, p2, pz⟩ := box_cells hP3
  clear hP3 hO3 hA3 hA4 hb3 HFM HFO HP HO HWB HWZ
  go_wp2_with fail
  refine HSE.out.mono ?_
  rintro e V ⟨rfl, hbv⟩
  have HBV := Lib.hid (HB3.out.trans (hbv.mono HB3.out.size))
  have HPV := Lib.hid ((hbv.block _ pz).trans HP3.out)
  have HOV := Lib.hid ((hbv.block _ (box_cells HO3.out).2.2.2).trans HO3.out)
  have HAV := Lib.hid (HA3.out.on hbv)
  have HXV := Lib.hid (HA4.out.on hbv)
  clear hbv p0 p1 p2 pz HSE HP3 HO3 HA3 HA4 HB3
  obtain ⟨p0, p1, p2, pz⟩ := box_cells HPV.out
  obtain ⟨o0, o1, o2', oz⟩ := box_cells HOV.out
  have HF := Lib.hid (fun (w1 : World) (hb : Below V.heap.size V w1) => Few10_any m2 A3 c3 w1 hmb (HAV.out.on hb).isIn)
  have HG := Lib.hid (fun (w1 : World) (hb : Below V.heap.size V w1) => Few10_any o2 A4 c4 w1 hob (HXV.out.on hb).isIn)
  have HGD := Lib.hid (fun (w1 : World) (X : Option Addr) (x : Nat) (h : ParsAt w1 w1.heap.size X m2.ps) => Good_par m2 X x w1 hmz h)
  have HRG := Lib.hid (fun (w1 : World) (hb : Below V.heap.size V w1) => rGood_par m2 A3 c3 w1 hmz (HAV.out.on hb))
  have HSR := Lib.hid (fun (w1 : World) (X : Option Addr) (x : Nat) (h : ParsAt w1 w1.heap.size X m2.ps) => Serial_par m2 X x w1 hmz h)
  have HES := Lib.hid (fun (w1 : World) (X : Option Addr) (x : Nat) => Essence_par m2 X x w1 hmz)
  have HSM := Lib.hid (fun (w1 : World) (X Y : Option Addr) (x y : Nat) (h : ParsAt w1 w1.heap.size X m2.ps) (k : ParsAt w1 w1.heap.size Y o2.ps) => Same_par m2 o2 X Y x y w1 hmz hoz h k)
  have HRS := Lib.hid (fun (w1 : World) (hb : Below V.heap.size V w1) => rSame_par m2 o2 A3 A4 c3 c4 w1 hmz hoz (HAV.out.on hb) (HXV.out.on hb))
  have HRGV := HRG
  rw [hmi] at HF
  rw [hoi] at HG
  have hes := essence_eq m2
  rw [← hes] at HES
  have hez1 : (bt m2.t ++ ⟨#[47]⟩).size ≤ 2000 := by rw [ByteArray.size_append, bt_size]; have := hmz.t; show m2.t.length + 1 ≤ 2000; omega
  have hez2 : (bt m2.t ++ ⟨#[47]⟩ ++ bt m2.s).size ≤ 4000 := by rw [ByteArray.size_append, bt_size]; have := hmz.s; omega
  have hset : (bt m2.t).size ≤ 1000 := hmz.t
  have hses : (bt m2.s).size ≤ 1000 := hmz.s
  have hc1 : (9223372036854775807 < (bt m2.t).size + 1) = False := eq_false (by omega)
  have hc2 : (9223372036854775807 < (bt m2.t).size + 1 + (bt m2.s).size) = False := eq_false (by omega)
  clear hes hez1 hez2
  unfold mimV at HF HG HGD HRG HSR HES HSM HRS
  go_upto_region 3 with fail
  go_cut [49] (fun u wx => u = .bool false ∧ Below V.heap.size V wx)
  case first =>
    have HBC0 := Lib.hid (show Below V.heap.size V V.drew from (Below.refl _ _).drew)
    refine wp_region_N 36 (fun w' => w'.cell? ⟨w.heap.size, 0, none⟩ = some (.string (bt m2.t)) ∧ w'.cell? ⟨w.heap.size, 1, none⟩ = some (.string (bt m2.s)) ∧ w'.cell? ⟨w.heap.size, 2, none⟩ = some (.slice A3 m2.ps.length c3) ∧ w'.cell? ⟨w.heap.size + 1, 0, none⟩ = some (.string (bt o2.t)) ∧ w'.cell? ⟨w.heap.size + 1, 1, none⟩ = some (.string (bt o2.s)) ∧ w'.cell? ⟨w.heap.size + 1, 2, none⟩ = some (.slice A4 o2.ps.length c4)) (by kernel_rfl) (by kernel_rfl) ⟨p0, p1, p2, o0, o1, o2'⟩ ?_
    (refine NJ.take (i := 0) (v := ?_) rfl rfl (by kernel_rfl) (by kernel_rfl) (by kernel_rfl) (by kernel_rfl) (fun _ _ _ h => h) (Or.inl ⟨by rfl, ?_⟩) ?_; rotate_left; (focus (intro wS hSw; (try dsimp only at hSw); go_simp; first | done | with_reducible rfl)); (try simp only [Act.put, List.getElem_toArray, List.getElem_cons_zero, List.getElem_cons_succ, List.setIfInBounds_toArray, List.set_cons_zero, List.set_cons_succ]))
    (refine NJ.take (i := 3) (v := ?_) rfl rfl (by kernel_rfl) (by kernel_rfl) (by kernel_rfl) (by kernel_rfl) (fun _ _ _ h => h) (Or.inl ⟨by rfl, ?_⟩) ?_; rotate_left; (focus (intro wS hSw; (try dsimp only at hSw); go_simp; first | done | with_reducible rfl)); (try simp only [Act.put, List.getElem_toArray, List.getElem_cons_zero, List.getElem_cons_succ, List.setIfInBounds_toArray, List.set_cons_zero, List.set_cons_succ]))
    refine NJ.step (i := 1) rfl rfl (by kernel_rfl) (fun hSat K hK => ?_)
    go_simp
    refine Calls.mono (HF.out _ HBC0.out) ?_
    rintro e w1 ⟨X1, x1, rfl, hx1, hb1, -⟩
    have hbn := HBC0.out.trans (hb1.mono HBC0.out.size)
    have HBC1 := Lib.hid hbn
    have HX1 := Lib.hid hx1
    clear hx1
    clear hb1
    go_wp2_with fail
    refine hK.out _ _ ?_ ?_
    · exact ⟨(cell_below hbn pz).trans p0, (cell_below hbn pz).trans p1, (cell_below hbn pz).trans p2, (cell_below hbn oz).trans o0, (cell_below hbn oz).trans o1, (cell_below hbn oz).trans o2'⟩
    clear hK hSat K
    (try simp only [Act.put, List.getElem_toArray, List.getElem_cons_zero, List.getElem_cons_succ, List.setIfInBounds_toArray, List.set_cons_zero, List.set_cons_succ])
    clear hbn
    refine NJ.step (i := 2) rfl rfl (by kernel_rfl) (fun hSat K hK => ?_)
    go_simp
    refine Calls.mono (HGD.out _ _ _ HX1.out) ?_
    rintro e w2 ⟨rfl, hb2⟩
    have hbn := HBC1.out.trans (hb2.mono HBC1.out.size)
    have HBC2 := Lib.hid hbn
    clear hb2
    go_wp2_with fail
    refine hK.out _ _ ?_ ?_
    · exact ⟨(cell_below hbn pz).trans p0, (cell_below hbn pz).trans p1, (cell_below hbn pz).trans p2, (cell_below hbn oz).trans o0, (cell_below hbn oz).trans o1, (cell_below hbn oz).trans o2'⟩
    clear hK hSat K
    (try simp only [Act.put, List.getElem_toArray, List.getElem_cons_zero, List.getElem_cons_succ, List.setIfInBounds_toArray, List.set_cons_zero, List.set_cons_succ])
    clear hbn
    refine NJ.step (i := 4) rfl rfl (by kernel_rfl) (fun hSat K hK => ?_)
    go_simp
    refine Calls.mono (HRG.out _ HBC2.out) ?_
    rintro e w3 ⟨rfl, hb3⟩
    have hbn := HBC2.out.trans (hb3.mono HBC2.out.size)
    have HBC3 := Lib.hid hbn
    clear hb3
    go_wp2_with fail
    refine hK.out _ _ ?_ ?_
    · exact ⟨(cell_below hbn pz).trans p0, (cell_below hbn pz).trans p1, (cell_below hbn pz).trans p2, (cell_below hbn oz).trans o0, (cell_below hbn oz).trans o1, (cell_below hbn oz).trans o2'⟩
    clear hK hSat K
    (try simp only [Act.put, List.getElem_toArray, List.getElem_cons_zero, List.getElem_cons_succ, List.setIfInBounds_toArray, List.set_cons_zero, List.set_cons_succ])
    clear hbn
    (refine NJ.take (i := 5) (v := ?_) rfl rfl (by kernel_rfl) (by kernel_rfl) (by kernel_rfl) (by kernel_rfl) (fun _ _ _ h => h) (Or.inl ⟨by rfl, ?_⟩) ?_; rotate_left; (focus (intro wS hSw; (try dsimp only at hSw); go_simp; first | done | with_reducible rfl)); (try simp only [Act.put, List.getElem_toArray, List.getElem_cons_zero, List.getElem_cons_succ, List.setIfInBounds_toArray, List.set_cons_zero, List.set_cons_succ]))
    (refine NJ.take (i := 6) (v := ?_) rfl rfl (by kernel_rfl) (by kernel_rfl) (by kernel_rfl) (by kernel_rfl) (fun _ _ _ h => h) (Or.inl ⟨by rfl, ?_⟩) ?_; rotate_left; (focus (intro wS hSw; (try dsimp only at hSw); go_simp; first | done | with_reducible rfl)); (try simp only [Act.put, List.getElem_toArray, List.getElem_cons_zero, List.getElem_cons_succ, List.setIfInBounds_toArray, List.set_cons_zero, List.set_cons_succ]))
    (refine NJ.take (i := 7) (v := ?_) rfl rfl (by kernel_rfl) (by kernel_rfl) (by kernel_rfl) (by kernel_rfl) (fun _ _ _ h => h) (Or.inl ⟨by rfl, ?_⟩) ?_; rotate_left; (focus (intro wS hSw; (try dsimp only at hSw); go_simp; first | done | with_reducible rfl)); (try simp only [Act.put, List.getElem_toArray, List.getElem_cons_zero, List.getElem_cons_succ, List.setIfInBounds_toArray, List.set_cons_zero, List.set_cons_succ]))
    (refine NJ.take (i := 10) (v := ?_) rfl rfl (by kernel_rfl) (by kernel_rfl) (by kernel_rfl) (by kernel_rfl) (fun _ _ _ h => h) (Or.inl ⟨by rfl, ?_⟩) ?_; rotate_left; (focus (intro wS hSw; (try dsimp only at hSw); go_simp; first | done | with_reducible rfl)); (try simp only [Act.put, List.getElem_toArray, List.getElem_cons_zero, List.getElem_cons_succ, List.setIfInBounds_toArray, List.set_cons_zero, List.set_cons_succ]))
    refine NJ.step (i := 8) rfl rfl (by kernel_rfl) (fun hSat K hK => ?_)
    go_simp
    refine Calls.mono (HF.out _ HBC3.out) ?_
    rintro e w4 ⟨X4, x4, rfl, hx4, hb4, -⟩
    have hbn := HBC3.out.trans (hb4.mono HBC3.out.size)
    have HBC4 := Lib.hid hbn
    have HX4 := Lib.hid hx4
    clear hx4
    clear hb4
    go_wp2_with fail
    refine hK.out _ _ ?_ ?_
    · exact ⟨(cell_below hbn pz).trans p0, (cell_below hbn pz).trans p1, (cell_below hbn pz).trans p2, (cell_below hbn oz).trans o0, (cell_below hbn oz).trans o1, (cell_below hbn oz).trans o2'⟩
    clear hK hSat K
    (try simp only [Act.put, List.getElem_toArray, List.getElem_cons_zero, List.getElem_cons_succ, List.setIfInBounds_toArray, List.set_cons_zero, List.set_cons_succ])
    clear hbn
    refine NJ.step (i := 9) rfl rfl (by kernel_rfl) (fun hSat K hK => ?_)
    go_simp
    refine Calls.mono (HSR.out _ _ _ HX4.out) ?_
    rintro e w5 ⟨rfl, hb5⟩
    have hbn := HBC4.out.trans (hb5.mono HBC4.out.size)
    have HBC5 := Lib.hid hbn
    clear hb5
    go_wp2_with fail
    refine hK.out _ _ ?_ ?_
    · exact ⟨(cell_below hbn pz).trans p0, (cell_below hbn pz).trans p1, (cell_below hbn pz).trans p2, (cell_below hbn oz).trans o0, (cell_below hbn oz).trans o1, (cell_below hbn oz).trans o2'⟩
    clear hK hSat K
    (try simp only [Act.put, List.getElem_toArray, List.getElem_cons_zero, List.getElem_cons_succ, List.setIfInBounds_toArray, List.set_cons_zero, List.set_cons_succ])
    clear hbn
    (refine NJ.take (i := 11) (v := ?_) rfl rfl (by kernel_rfl) (by kernel_rfl) (by kernel_rfl) (by kernel_rfl) (fun _ _ _ h => h) (Or.inl ⟨by rfl, ?_⟩) ?_; rotate_left; (focus (intro wS hSw; (try dsimp only at hSw); go_simp; first | done | with_reducible rfl)); (try simp only [Act.put, List.getElem_toArray, List.getElem_cons_zero, List.getElem_cons_succ, List.setIfInBounds_toArray, List.set_cons_zero, List.set_cons_succ]))
    (refine NJ.take (i := 12) (v := ?_) rfl rfl (by kernel_rfl) (by kernel_rfl) (by kernel_rfl) (by kernel_rfl) (fun _ _ _ h => h) (Or.inl ⟨by rfl, ?_⟩) ?_; rotate_left; (focus (intro wS hSw; (try dsimp only at hSw); go_simp; first | done | with_reducible rfl)); (try simp only [Act.put, List.getElem_toArray, List.getElem_cons_zero, List.getElem_cons_succ, List.setIfInBounds_toArray, List.set_cons_zero, List.set_cons_succ]))
    (refine NJ.take (i := 13) (v := ?_) rfl rfl (by kernel_rfl) (by kernel_rfl) (by kernel_rfl) (by kernel_rfl) (fun _ _ _ h => h) (Or.inl ⟨by rfl, ?_⟩) ?_; rotate_left; (focus (intro wS hSw; (try dsimp only at hSw); go_simp; first | done | with_reducible rfl)); (try simp only [Act.put, List.getElem_toArray, List.getElem_cons_zero, List.getElem_cons_succ, List.setIfInBounds_toArray, List.set_cons_zero, List.set_cons_succ]))
    (refine NJ.take (i := 14) (v := ?_) rfl rfl (by kernel_rfl) (by kernel_rfl) (by kernel_rfl) (by kernel_rfl) (fun _ _ _ h => h) (Or.inl ⟨by rfl, ?_⟩) ?_; rotate_left; (focus (intro wS hSw; (try dsimp only at hSw); go_simp; first | done | with_reducible rfl)); (try simp only [Act.put, List.getElem_toArray, List.getElem_cons_zero, List.getElem_cons_succ, List.setIfInBounds_toArray, List.set_cons_zero, List.set_cons_succ]))
    (refine NJ.take (i := 17) (v := ?_) rfl rfl (by kernel_rfl) (by kernel_rfl) (by kernel_rfl) (by kernel_rfl) (fun _ _ _ h => h) (Or.inl ⟨by rfl, ?_⟩) ?_; rotate_left; (focus (intro wS hSw; (try dsimp only at hSw); go_simp; first | done | with_reducible rfl)); (try simp only [Act.put, List.getElem_toArray, List.getElem_cons_zero, List.getElem_cons_succ, List.setIfInBounds_toArray, List.set_cons_zero, List.set_cons_succ]))
    (refine NJ.take (i := 18) (v := ?_) rfl rfl (by kernel_rfl) (by kernel_rfl) (by kernel_rfl) (by kernel_rfl) (fun _ _ _ h => h) (Or.inl ⟨by rfl, ?_⟩) ?_; rotate_left; (focus (intro wS hSw; (try dsimp only at hSw); go_simp; first | done | with_reducible rfl)); (try simp only [Act.put, List.getElem_toArray, List.getElem_cons_zero, List.getElem_cons_succ, List.setIfInBounds_toArray, List.set_cons_zero, List.set_cons_succ]))
    (refine NJ.take (i := 19) (v := ?_) rfl rfl (by kernel_rfl) (by kernel_rfl) (by kernel_rfl) (by kernel_rfl) (fun _ _ _ h => h) (Or.inl ⟨by rfl, ?_⟩) ?_; rotate_left; (focus (intro wS hSw; (try dsimp only at hSw); go_simp; first | done | with_reducible rfl)); (try simp only [Act.put, List.getElem_toArray, List.getElem_cons_zero, List.getElem_cons_succ, List.setIfInBounds_toArray, List.set_cons_zero, List.set_cons_succ]))
    (refine NJ.take (i := 20) (v := ?_) rfl rfl (by kernel_rfl) (by kernel_rfl) (by kernel_rfl) (by kernel_rfl) (fun _ _ _ h => h) (Or.inl ⟨by rfl, ?_⟩) ?_; rotate_left; (focus (intro wS hSw; (try dsimp only at hSw); go_simp; first | done | with_reducible rfl)); (try simp only [Act.put, List.getElem_toArray, List.getElem_cons_zero, List.getElem_cons_succ, List.setIfInBounds_toArray, List.set_cons_zero, List.set_cons_succ]))
    (refine NJ.take (i := 21) (v := ?_) rfl rfl (by kernel_rfl) (by kernel_rfl) (by kernel_rfl) (by kernel_rfl) (fun _ _ _ h => h) (Or.inl ⟨by rfl, ?_⟩) ?_; rotate_left; (focus (intro wS hSw; (try dsimp only at hSw); go_simp; first | done | with_reducible rfl)); (try simp only [Act.put, List.getElem_toArray, List.getElem_cons_zero, List.getElem_cons_succ, List.setIfInBounds_toArray, List.set_cons_zero, List.set_cons_succ]))
    (refine NJ.take (i := 22) (v := ?_) rfl rfl (by kernel_rfl) (by kernel_rfl) (by kernel_rfl) (by kernel_rfl) (fun _ _ _ h => h) (Or.inl ⟨by rfl, ?_⟩) ?_; rotate_left; (focus (intro wS hSw; (try dsimp only at hSw); go_simp; first | done | with_reducible rfl)); (try simp only [Act.put, List.getElem_toArray, List.getElem_cons_zero, List.getElem_cons_succ, List.setIfInBounds_toArray, List.set_cons_zero, List.set_cons_succ]))
    refine NJ.step (i := 15) rfl rfl (by kernel_rfl) (fun hSat K hK => ?_)
    go_simp
    refine Calls.mono (HF.out _ HBC5.out) ?_
    rintro e w6 ⟨X6, x6, rfl, hx6, hb6, -⟩
    have hbn := HBC5.out.trans (hb6.mono HBC5.out.size)
    have HBC6 := Lib.hid hbn
    clear hx6
    clear hb6
    go_wp2_with fail
    refine hK.out _ _ ?_ ?_
    · exact ⟨(cell_below hbn pz).trans p0, (cell_below hbn pz).trans p1, (cell_below hbn pz).trans p2, (cell_below hbn oz).trans o0, (cell_below hbn oz).trans o1, (cell_below hbn oz).trans o2'⟩
    clear hK hSat K
    (try simp only [Act.put, List.getElem_toArray, List.getElem_cons_zero, List.getElem_cons_succ, List.setIfInBounds_toArray, List.set_cons_zero, List.set_cons_succ])
    clear hbn
    refine NJ.step (i := 16) rfl rfl (by kernel_rfl) (fun hSat K hK => ?_)
    go_simp
    refine Calls.mono (HES.out _ _ _) ?_
    rintro e w7 ⟨rfl, hb7⟩
    have hbn := HBC6.out.trans (hb7.mono HBC6.out.size)
    have HBC7 := Lib.hid hbn
    clear hb7
    go_wp2_with fail
    refine hK.out _ _ ?_ ?_
    · exact ⟨(cell_below hbn pz).trans p0, (cell_below hbn pz).trans p1, (cell_below hbn pz).trans p2, (cell_below hbn oz).trans o0, (cell_below hbn oz).trans o1, (cell_below hbn oz).trans o2'⟩
    clear hK hSat K
    (try simp only [Act.put, List.getElem_toArray, List.getElem_cons_zero, List.getElem_cons_succ, List.setIfInBounds_toArray, List.set_cons_zero, List.set_cons_succ])
    clear hbn
    (refine NJ.take (i := 23) (v := ?_) rfl rfl (by kernel_rfl) (by kernel_rfl) (by kernel_rfl) (by kernel_rfl) (fun _ _ _ h => h) (Or.inl ⟨by rfl, ?_⟩) ?_; rotate_left; (focus (intro wS hSw; (try dsimp only at hSw); go_simp; first | done | with_reducible rfl)); (try simp only [Act.put, List.getElem_toArray, List.getElem_cons_zero, List.getElem_cons_succ, List.setIfInBounds_toArray, List.set_cons_zero, List.set_cons_succ]))
    (refine NJ.take (i := 24) (v := ?_) rfl rfl (by kernel_rfl) (by kernel_rfl) (by kernel_rfl) (by kernel_rfl) (fun _ _ _ h => h) (Or.inl ⟨by rfl, ?_⟩) ?_; rotate_left; (focus (intro wS hSw; (try dsimp only at hSw); go_simp; first | done | with_reducible rfl)); (try simp only [Act.put, List.getElem_toArray, List.getElem_cons_zero, List.getElem_cons_succ, List.setIfInBounds_toArray, List.set_cons_zero, List.set_cons_succ]))
    (refine NJ.take (i := 25) (v := ?_) rfl rfl (by kernel_rfl) (by kernel_rfl) (by kernel_rfl) (by kernel_rfl) (fun _ _ _ h => h) (Or.inl ⟨by rfl, ?_⟩) ?_; rotate_left; (focus (intro wS hSw; (try dsimp only at hSw); go_simp; first | done | with_reducible rfl)); (try simp only [Act.put, List.getElem_toArray, List.getElem_cons_zero, List.getElem_cons_succ, List.setIfInBounds_toArray, List.set_cons_zero, List.set_cons_succ]))
    (refine NJ.take (i := 26) (v := ?_) rfl rfl (by kernel_rfl) (by kernel_rfl) (by kernel_rfl) (by kernel_rfl) (fun _ _ _ h => h) (Or.inl ⟨by rfl, ?_⟩) ?_; rotate_left; (focus (intro wS hSw; (try dsimp only at hSw); go_simp; first | done | with_reducible rfl)); (try simp only [Act.put, List.getElem_toArray, List.getElem_cons_zero, List.getElem_cons_succ, List.setIfInBounds_toArray, List.set_cons_zero, List.set_cons_succ]))
    (refine NJ.take (i := 28) (v := ?_) rfl rfl (by kernel_rfl) (by kernel_rfl) (by kernel_rfl) (by kernel_rfl) (fun _ _ _ h => h) (Or.inl ⟨by rfl, ?_⟩) ?_; rotate_left; (focus (intro wS hSw; (try dsimp only at hSw); go_simp; first | done | with_reducible rfl)); (try simp only [Act.put, List.getElem_toArray, List.getElem_cons_zero, List.getElem_cons_succ, List.setIfInBounds_toArray, List.set_cons_zero, List.set_cons_succ]))
    (refine NJ.take (i := 31) (v := ?_) rfl rfl (by kernel_rfl) (by kernel_rfl) (by kernel_rfl) (by kernel_rfl) (fun _ _ _ h => h) (Or.inl ⟨by rfl, ?_⟩) ?_; rotate_left; (focus (intro wS hSw; (try dsimp only at hSw); go_simp; first | done | with_reducible rfl)); (try simp only [Act.put, List.getElem_toArray, List.getElem_cons_zero, List.getElem_cons_succ, List.setIfInBounds_toArray, List.set_cons_zero, List.set_cons_succ]))
    (refine NJ.take (i := 32) (v := ?_) rfl rfl (by kernel_rfl) (by kernel_rfl) (by kernel_rfl) (by kernel_rfl) (fun _ _ _ h => h) (Or.inl ⟨by rfl, ?_⟩) ?_; rotate_left; (focus (intro wS hSw; (try dsimp only at hSw); go_simp; first | done | with_reducible rfl)); (try simp only [Act.put, List.getElem_toArray, List.getElem_cons_zero, List.getElem_cons_succ, List.setIfInBounds_toArray, List.set_cons_zero, List.set_cons_succ]))
    refine NJ.step (i := 27) rfl rfl (by kernel_rfl) (fun hSat K hK => ?_)
    go_simp
    refine Calls.mono (HF.out _ HBC7.out) ?_
    rintro e w8 ⟨X8, x8, rfl, hx8, hb8, -⟩
    have hbn := HBC7.out.trans (hb8.mono HBC7.out.size)
    have HBC8 := Lib.hid hbn
    have HX8 := Lib.hid hx8
    clear hx8
    clear hb8
    go_wp2_with fail
    refine hK.out _ _ ?_ ?_
    · exact ⟨(cell_below hbn pz).trans p0, (cell_below hbn pz).trans p1, (cell_below hbn pz).trans p2, (cell_below hbn oz).trans o0, (cell_below hbn oz).trans o1, (cell_below hbn oz).trans o2'⟩
    clear hK hSat K
    (try simp only [Act.put, List.getElem_toArray, List.getElem_cons_zero, List.getElem_cons_succ, List.setIfInBounds_toArray, List.set_cons_zero, List.set_cons_succ])
    clear hbn
    refine NJ.step (i := 29) rfl rfl (by kernel_rfl) (fun hSat K hK => ?_)
    go_simp
    refine Calls.mono (HG.out _ HBC8.out) ?_
    rintro e w9 ⟨X9, x9, rfl, hx9, hb9, -⟩
    have hbn := HBC8.out.trans (hb9.mono HBC8.out.size)
    have HBC9 := Lib.hid hbn
    have HX9 := Lib.hid hx9
    have HX8b := Lib.hid (HX8.out.on hb9)
    clear hx9
    clear hb9
    go_wp2_with fail
    refine hK.out _ _ ?_ ?_
    · exact ⟨(cell_below hbn pz).trans p0, (cell_below hbn pz).trans p1, (cell_below hbn pz).trans p2, (cell_below hbn oz).trans o0, (cell_below hbn oz).trans o1, (cell_below hbn oz).trans o2'⟩
    clear hK hSat K
    (try simp only [Act.put, List.getElem_toArray, List.getElem_cons_zero, List.getElem_cons_succ, List.setIfInBounds_toArray, List.set_cons_zero, List.set_cons_succ])
    clear hbn
    refine NJ.step (i := 30) rfl rfl (by kernel_rfl) (fun hSat K hK => ?_)
    go_simp
    refine Calls.mono (HSM.out _ _ _ _ _ HX8b.out HX9.out) ?_
    rintro e w10 ⟨rfl, hb10⟩
    have hbn := HBC9.out.trans (hb10.mono HBC9.out.size)
    have HBC10 := Lib.hid hbn
    clear hb10
    go_wp2_with fail
    refine hK.out _ _ ?_ ?_
    · exact ⟨(cell_below hbn pz).trans p0, (cell_below hbn pz).trans p1, (cell_below hbn pz).trans p2, (cell_below hbn oz).trans o0, (cell_below hbn oz).trans o1, (cell_below hbn oz).trans o2'⟩
    clear hK hSat K
    (try simp only [Act.put, List.getElem_toArray, List.getElem_cons_zero, List.getElem_cons_succ, List.setIfInBounds_toArray, List.set_cons_zero, List.set_cons_succ])
    clear hbn
    refine NJ.step (i := 33) rfl rfl (by kernel_rfl) (fun hSat K hK => ?_)
    go_simp
    refine Calls.mono (HRS.out _ HBC10.out) ?_
    rintro e w11 ⟨rfl, hb11⟩
    have hbn := HBC10.out.trans (hb11.mono HBC10.out.size)
    have HBC11 := Lib.hid hbn
    clear hb11
    go_wp2_with fail
    refine hK.out _ _ ?_ ?_
    · exact ⟨(cell_below hbn pz).trans p0, (cell_below hbn pz).trans p1, (cell_below hbn pz).trans p2, (cell_below hbn oz).trans o0, (cell_below hbn oz).trans o1, (cell_below hbn oz).trans o2'⟩
    clear hK hSat K
    (try simp only [Act.put, List.getElem_toArray, List.getElem_cons_zero, List.getElem_cons_succ, List.setIfInBounds_toArray, List.set_cons_zero, List.set_cons_succ])
    clear hbn
    (refine NJ.take (i := 34) (v := ?_) rfl rfl (by kernel_rfl) (by kernel_rfl) (by kernel_rfl) (by kernel_rfl) (fun _ _ _ h => h) (Or.inl ⟨by rfl, ?_⟩) ?_; rotate_left; (focus (intro wS hSw; (try dsimp only at hSw); go_simp; first | done | with_reducible rfl)); (try simp only [Act.put, List.getElem_toArray, List.getElem_cons_zero, List.getElem_cons_succ, List.setIfInBounds_toArray, List.set_cons_zero, List.set_cons_succ]))
    (refine NJ.take (i := 35) (v := ?_) rfl rfl (by kernel_rfl) (by kernel_rfl) (by kernel_rfl) (by kernel_rfl) (fun _ _ _ h => h) (Or.inl ⟨by rfl, ?_⟩) ?_; rotate_left; (focus (intro wS hSw; (try dsimp only at hSw); go_simp; first | done | with_reducible rfl)); (try simp only [Act.put, List.getElem_toArray, List.getElem_cons_zero, List.getElem_cons_succ, List.setIfInBounds_toArray, List.set_cons_zero, List.set_cons_succ]))
    refine NJ.done (by kernel_rfl) (fun hSat => ?_)
    clear hSat
    go_wp2_with fail
    go_meet
    exact ⟨rfl, HBC11.out⟩
  obtain ⟨rfl, hb4⟩ := hcut
  clear hc1 hc2 hset hses HF HG HGD HSR HES HSM HRS
  have HB4 := Lib.hid (HBV.out.trans (hb4.mono HBV.out.size))
  have HP4 := Lib.hid ((hb4.block _ pz).trans HPV.out)
  have HA4 := Lib.hid (HAV.out.on hb4)
  have HRG4 := Lib.hid (HRG.out _ hb4)
  clear hb4 p0 p1 p2 pz o0 o1 o2' oz HPV HOV HAV HXV HBV HRG HRGV
  obtain ⟨p0, p1, p2, pz⟩ := box_cells HP4.out
  go_wp2_with fail
  refine HRG4.out.mono ?_
  rintro e w5 ⟨rfl, hb5⟩
  have HB5 := Lib.hid (HB4.out.trans (hb5.mono HB4.out.size))
  have HP5 := Lib.hid ((hb5.block _ pz).trans HP4.out)
  have HA5 := Lib.hid (HA4.out.on hb5)
  clear hb5 p0 p1 p2 pz HP4 HA4 HRG4 HB4
  cases hg : goodL m2
  · go_wp2_with fail
    refine (lives10_any _).mono ?_
    rintro e w6 ⟨rfl, hb6⟩
    have HB6 := Lib.hid (HB5.out.trans (hb6.mono HB5.out.size))
    clear hb6
    go_wp2_with fail
    go_ret
    exact ⟨rfl, HB6.out⟩
  · have HP6 := Lib.hid (Parse_any (bt (serQ m2)) w5 (by rw [serQ_yes hg, bt_size]; exact hml))
    rw [bt_list] at HP6
    have hpb := parseR_some (parse_back m2 hg)
    rw [← serQ_yes hg] at hpb
    rw [hpb] at HP6
    dsimp only at HP6
    clear hpb hg
    go_wp2_with fail
    refine HP6.out.mono ?_
    rintro e w7 ⟨A7, c7, rfl, hA7, hb7⟩
    have hbx := below_box w7 (.cells #[.string (bt m2.t), .string (bt m2.s), .slice A7 m2.ps.length c7] 48)
    have hb8 := hb7.trans (hbx.mono hb7.size)
    have HB8 := Lib.hid (HB5.out.trans (hb8.mono HB5.out.size))
    have HA8 := Lib.hid (HA5.out.on hb8)
    have HY8 := Lib.hid (hA7.on hbx)
    have HP8 := Lib.hid ((hb8.block _ (box_cells HP5.out).2.2.2).trans HP5.out)
    have HE8 : Hid ((w7.alloc (.cells #[.string (bt m2.t), .string (bt m2.s), .slice A7 m2.ps.length c7] 48)).heap[w7.heap.size]? = some (.cells #[.string (bt m2.t), .string (bt m2.s), .slice A7 m2.ps.length c7] 48 (0, 0))) := Lib.hid (heap_alloc_new w7 _)
    clear hA7 hb7 hbx hb8 HP6 HA5 HP5 HB5
    unfold mimV
    go_upto_region 8 with fail
    generalize hB : w7.heap.size = E at *
    generalize w7.alloc (.cells #[.string (bt m2.t), .string (bt m2.s), .slice A7 m2.ps.length c7] 48) = w8 at *
    clear hB
    obtain ⟨p0, p1, p2, pz⟩ := box_cells HP8.out
    obtain ⟨e0, e1, e2', ez⟩ := box_cells HE8.out
    have HSA := Lib.hid (rSame_par m2 m2 A7 A3 c7 c3 w8 hmz hmz HY8.out HA8.out)
    rw [sameM_self] at HSA
    unfold mimV at HSA
    go_wp2_with fail
    refine HSA.out.mono ?_
    rintro e w9 ⟨rfl, hb9⟩
    have HB9 := Lib.hid (HB8.out.trans (hb9.mono HB8.out.size))
    clear hb9 p0 p1 p2 pz e0 e1 e2' ez HSA
    go_wp2_with fail
    refine (lives10_any _).mono ?_
    rintro e w10 ⟨rfl, hb10⟩
    have HB10 := Lib.hid (HB9.out.trans (hb10.mono HB9.out.size))
    clear hb10
    go_wp2_with fail
    go_ret
    exact ⟨rfl, HB10.out⟩

end Go.Proofs.Ytigclegknofhmaa
