/-
  The walks of the laws GroupKinds and GroupMedia.
-/
import Derived.Test.YtigclegknofhmaaDoorGroupP
namespace Go.Proofs.YtigclegknofhmaaDoor
open Go.RowKit
set_option linter.unusedSimpArgs false
set_option linter.unusedVariables false

theorem heap_set3g {w : World} {b : Nat} {x y z u v r : Value} {t : TypeId} (h : w.heap[b]? = some (.cells #[x, y, z] t (0, 0))) : (((w.setCell ⟨b, 0, none⟩ u).setCell ⟨b, 1, none⟩ v).setCell ⟨b, 2, none⟩ r).heap[b]? = some (.cells #[u, v, r] t (0, 0)) := by
  simp [World.setCell, Array.getElem?_modify, h]

theorem InB.prop {W : World} (x : InB W) : Below W.heap.size W x.val := x.property

set_option maxHeartbeats 1000000 in
theorem lives12_any (w : World) (hT : Tab w) :
    Calls Tryd.prog 18 #[] w fun e w' => e = .returned (.bool true) ∧ Below w.heap.size w w' := by
  have hb0 : Below w.heap.size w (w.alloc (.cells #[.string lifeT, .string lifeU, .slice none 0 0] 24)) := below_box _ _
  have H0 := Lib.hid (Safe_says.at (t := lifeT) (u := lifeU) hT (by decide) (by decide) none 0 0 hb0)
  have H1 := Lib.hid (Xml_says.at (t := lifeT) (u := lifeU) hT (by decide) (by decide) none 0 0 hb0)
  have H2 := Lib.hid (Listed_says.at (t := lifeT) (u := lifeU) hT (by decide) (by decide) none 0 0 hb0)
  rw [life_says.1] at H0
  rw [life_says.2.1] at H1
  rw [life_says.2.2] at H2
  unfold lifeT lifeU at *
  go_enter Tryd.func18, Tryd.ntmps18
  go_upto_region 2 with fail
  have hb := Below.refl (w.alloc (.cells #[.string ⟨#[105, 109, 97, 103, 101]⟩, .string ⟨#[115, 118, 103, 43, 120, 109, 108]⟩, .slice none 0 0] 24)).heap.size (w.alloc (.cells #[.string ⟨#[105, 109, 97, 103, 101]⟩, .string ⟨#[115, 118, 103, 43, 120, 109, 108]⟩, .slice none 0 0] 24))
  go_wp2_with (first | (go_at_call 32; (with_reducible refine Calls.mono (H0.out _ hb) ?_); rintro e w' ⟨rfl, hb2⟩; replace hb := below_trans hb hb2; clear hb2; obtain ⟨d0, d1, d2⟩ := box_on hb) | (go_at_call 10; (with_reducible refine Calls.mono (H1.out _ hb) ?_); rintro e w' ⟨rfl, hb2⟩; replace hb := below_trans hb hb2; clear hb2; obtain ⟨d0, d1, d2⟩ := box_on hb) | (go_at_call 33; (with_reducible refine Calls.mono (H2.out _ hb) ?_); rintro e w' ⟨rfl, hb2⟩; replace hb := below_trans hb hb2; clear hb2; obtain ⟨d0, d1, d2⟩ := box_on hb))
  go_ret
  exact ⟨rfl, hb0.trans (hb.mono hb0.size)⟩

set_option maxHeartbeats 4000000 in
set_option maxRecDepth 20000 in
theorem groupKinds_walk (m : MimeL) (A : Option Addr) (c : Nat) (w : World) (hT : Tab w) (hm : BigM m) (hA : ParsIn w w.heap.size A m.ps) :
    Calls Tryd.prog 3 #[mimV m A c] w fun e w' => e = .returned (.bool true) ∧ Below w.heap.size w w' := by
  have HFM := Lib.hid (fun (w1 : World) (hb : Below w.heap.size w w1) => Few10_any m A c w1 hm (hA.on hb))
  have HT := Lib.hid hT
  have hmz := fewM_sizes m
  have hst : (bt (fewM m).t).size ≤ 1000 := by rw [bt_size]; exact hmz.t
  have hsu : (bt (fewM m).s).size ≤ 1000 := by rw [bt_size]; exact hmz.s
  clear hm hA hT hmz
  unfold mimV at HFM ⊢
  generalize fewM m = m2 at *
  have hb0 : Below w.heap.size w (w.alloc (.cells #[.string (bt m.t), .string (bt m.s), .slice A m.ps.length c] 24)) := below_box w _
  have HP0 : Hid ((w.alloc (.cells #[.string (bt m.t), .string (bt m.s), .slice A m.ps.length c] 24)).heap[w.heap.size]? = some (.cells #[.string (bt m.t), .string (bt m.s), .slice A m.ps.length c] 24 (0, 0))) := Lib.hid (heap_alloc_new w _)
  go_enter Tryd.func3, Tryd.ntmps3
  go_upto_region 1 with fail
  generalize w.alloc (.cells #[.string (bt m.t), .string (bt m.s), .slice A m.ps.length c] 24) = W at *
  obtain ⟨p0, p1, p2, pz⟩ := box_cells HP0.out
  have HB0 := Lib.hid hb0
  clear hb0
  go_wp2_with fail
  refine Calls.mono (HFM.out _ HB0.out) ?_
  rintro e w1 ⟨A1, c1, rfl, hA1, hb1, hg1⟩
  have HB1 := Lib.hid (HB0.out.trans (hb1.mono HB0.out.size))
  have HP1 := Lib.hid ((hb1.block _ pz).trans HP0.out)
  clear hA1 hb1 hg1 p0 p1 p2
  obtain ⟨p0, p1, p2, pz1⟩ := box_cells HP1.out
  have fz : ∀ i, w1.frozen? ⟨w.heap.size, i, none⟩ = false := fun i => Lib.frozen_of_heap HP1.out i
  go_upto_region 2 with fail
  have HPV : Hid ((((w1.setCell ⟨w.heap.size, 0, none⟩ (.string (bt m2.t))).setCell ⟨w.heap.size, 1, none⟩ (.string (bt m2.s))).setCell ⟨w.heap.size, 2, none⟩ (.slice A1 m2.ps.length c1)).heap[w.heap.size]? = some (.cells #[.string (bt m2.t), .string (bt m2.s), .slice A1 m2.ps.length c1] 24 (0, 0))) := Lib.hid (heap_set3g HP1.out)
  have HBV : Hid (Below w.heap.size w (((w1.setCell ⟨w.heap.size, 0, none⟩ (.string (bt m2.t))).setCell ⟨w.heap.size, 1, none⟩ (.string (bt m2.s))).setCell ⟨w.heap.size, 2, none⟩ (.slice A1 m2.ps.length c1))) := Lib.hid (((HB1.out.setCell (by simp) _).setCell (by simp) _).setCell (by simp) _)
  clear p0 p1 p2 pz fz HFM HP0 HP1 HB0 HB1 pz1
  generalize ((w1.setCell ⟨w.heap.size, 0, none⟩ (.string (bt m2.t))).setCell ⟨w.heap.size, 1, none⟩ (.string (bt m2.s))).setCell ⟨w.heap.size, 2, none⟩ (.slice A1 m2.ps.length c1) = V at *
  obtain ⟨p0, p1, p2, pz⟩ := box_cells HPV.out
  have J1 := Lib.hid (Json_says.at (t := bt m2.t) (u := bt m2.s) HT.out hst hsu A1 m2.ps.length c1 HBV.out)
  have J2 := Lib.hid (rJson_says.at (t := bt m2.t) (u := bt m2.s) HT.out hst hsu A1 m2.ps.length c1 HBV.out)
  have X1 := Lib.hid (Xml_says.at (t := bt m2.t) (u := bt m2.s) HT.out hst hsu A1 m2.ps.length c1 HBV.out)
  have X2 := Lib.hid (rXml_says.at (t := bt m2.t) (u := bt m2.s) HT.out hst hsu A1 m2.ps.length c1 HBV.out)
  have K1 := Lib.hid (Html_says.at (t := bt m2.t) (u := bt m2.s) HT.out hst hsu A1 m2.ps.length c1 HBV.out)
  have K2 := Lib.hid (rHtml_says.at (t := bt m2.t) (u := bt m2.s) HT.out hst hsu A1 m2.ps.length c1 HBV.out)
  have S1 := Lib.hid (Script_says.at (t := bt m2.t) (u := bt m2.s) HT.out hst hsu A1 m2.ps.length c1 HBV.out)
  have S2 := Lib.hid (rScript_says.at (t := bt m2.t) (u := bt m2.s) HT.out hst hsu A1 m2.ps.length c1 HBV.out)
  have C1 := Lib.hid (Scriptable_says.at (t := bt m2.t) (u := bt m2.s) HT.out hst hsu A1 m2.ps.length c1 HBV.out)
  have C2 := Lib.hid (rScriptable_says.at (t := bt m2.t) (u := bt m2.s) HT.out hst hsu A1 m2.ps.length c1 HBV.out)
  have LV := Lib.hid (fun (w1 : World) (hb : Below V.heap.size V w1) => lives12_any w1 (HT.out.on (HBV.out.trans (hb.mono HBV.out.size))))
  rw [json_eq] at J1
  rw [xml_eq] at X1
  rw [html_eq] at K1
  rw [script_eq] at S1
  rw [scriptable_eq] at C1
  generalize rJsonB (bt m2.t) (bt m2.s) = bj at *
  generalize rXmlB (bt m2.t) (bt m2.s) = bx at *
  generalize rHtmlB (bt m2.t) (bt m2.s) = bk at *
  generalize rScriptB (bt m2.t) (bt m2.s) = bs at *
  generalize rScriptableB (bt m2.t) (bt m2.s) = bc at *
  generalize bt m2.t = t at *
  generalize bt m2.s = u at *
  have hx := @InB.cells V
  refine wp_region_inb (by kernel_rfl) (by kernel_rfl) ?_; (repeat (first | go_big_quiet_skip | (go_big_quiet_want; go_big_quiet_op; first | go_big_quiet_on | (apply Exists.intro; refine ⟨fun x => ?_, ?_⟩; (· ((first | (go_at_call 8; exact inb_call _ (J1.out _ (InB.prop _))) | (go_at_call 9; exact inb_call _ (J2.out _ (InB.prop _))) | (go_at_call 10; exact inb_call _ (X1.out _ (InB.prop _))) | (go_at_call 11; exact inb_call _ (X2.out _ (InB.prop _))) | (go_at_call 12; exact inb_call _ (K1.out _ (InB.prop _))) | (go_at_call 13; exact inb_call _ (K2.out _ (InB.prop _))) | (go_at_call 14; exact inb_call _ (S1.out _ (InB.prop _))) | (go_at_call 15; exact inb_call _ (S2.out _ (InB.prop _))) | (go_at_call 16; exact inb_call _ (C1.out _ (InB.prop _))) | (go_at_call 17; exact inb_call _ (C2.out _ (InB.prop _))) | (go_at_call 18; exact inb_call _ (LV.out _ (InB.prop _)))))); go_big_quiet_on)))); refine wpQuiet_nil ?_; intro _ hw'; obtain ⟨⟨wq, hbq⟩, rfl⟩ := hw'
  go_wp2_with fail
  go_ret
  exact ⟨by simp, HBV.out.trans (hbq.mono HBV.out.size)⟩

set_option maxHeartbeats 4000000 in
set_option maxRecDepth 20000 in
theorem groupMedia_walk (m : MimeL) (A : Option Addr) (c : Nat) (w : World) (hT : Tab w) (hm : BigM m) (hA : ParsIn w w.heap.size A m.ps) :
    Calls Tryd.prog 4 #[mimV m A c] w fun e w' => e = .returned (.bool true) ∧ Below w.heap.size w w' := by
  have HFM := Lib.hid (fun (w1 : World) (hb : Below w.heap.size w w1) => Few10_any m A c w1 hm (hA.on hb))
  have HT := Lib.hid hT
  have hmz := fewM_sizes m
  have hst : (bt (fewM m).t).size ≤ 1000 := by rw [bt_size]; exact hmz.t
  have hsu : (bt (fewM m).s).size ≤ 1000 := by rw [bt_size]; exact hmz.s
  clear hm hA hT hmz
  unfold mimV at HFM ⊢
  generalize fewM m = m2 at *
  have hb0 : Below w.heap.size w (w.alloc (.cells #[.string (bt m.t), .string (bt m.s), .slice A m.ps.length c] 24)) := below_box w _
  have HP0 : Hid ((w.alloc (.cells #[.string (bt m.t), .string (bt m.s), .slice A m.ps.length c] 24)).heap[w.heap.size]? = some (.cells #[.string (bt m.t), .string (bt m.s), .slice A m.ps.length c] 24 (0, 0))) := Lib.hid (heap_alloc_new w _)
  go_enter Tryd.func4, Tryd.ntmps4
  go_upto_region 1 with fail
  generalize w.alloc (.cells #[.string (bt m.t), .string (bt m.s), .slice A m.ps.length c] 24) = W at *
  obtain ⟨p0, p1, p2, pz⟩ := box_cells HP0.out
  have HB0 := Lib.hid hb0
  clear hb0
  go_wp2_with fail
  refine Calls.mono (HFM.out _ HB0.out) ?_
  rintro e w1 ⟨A1, c1, rfl, hA1, hb1, hg1⟩
  have HB1 := Lib.hid (HB0.out.trans (hb1.mono HB0.out.size))
  have HP1 := Lib.hid ((hb1.block _ pz).trans HP0.out)
  clear hA1 hb1 hg1 p0 p1 p2
  obtain ⟨p0, p1, p2, pz1⟩ := box_cells HP1.out
  have fz : ∀ i, w1.frozen? ⟨w.heap.size, i, none⟩ = false := fun i => Lib.frozen_of_heap HP1.out i
  go_upto_region 2 with fail
  have HPV : Hid ((((w1.setCell ⟨w.heap.size, 0, none⟩ (.string (bt m2.t))).setCell ⟨w.heap.size, 1, none⟩ (.string (bt m2.s))).setCell ⟨w.heap.size, 2, none⟩ (.slice A1 m2.ps.length c1)).heap[w.heap.size]? = some (.cells #[.string (bt m2.t), .string (bt m2.s), .slice A1 m2.ps.length c1] 24 (0, 0))) := Lib.hid (heap_set3g HP1.out)
  have HBV : Hid (Below w.heap.size w (((w1.setCell ⟨w.heap.size, 0, none⟩ (.string (bt m2.t))).setCell ⟨w.heap.size, 1, none⟩ (.string (bt m2.s))).setCell ⟨w.heap.size, 2, none⟩ (.slice A1 m2.ps.length c1))) := Lib.hid (((HB1.out.setCell (by simp) _).setCell (by simp) _).setCell (by simp) _)
  clear p0 p1 p2 pz fz HFM HP0 HP1 HB0 HB1 pz1
  generalize ((w1.setCell ⟨w.heap.size, 0, none⟩ (.string (bt m2.t))).setCell ⟨w.heap.size, 1, none⟩ (.string (bt m2.s))).setCell ⟨w.heap.size, 2, none⟩ (.slice A1 m2.ps.length c1) = V at *
  obtain ⟨p0, p1, p2, pz⟩ := box_cells HPV.out
  have I1 := Lib.hid (Image_says.at (t := bt m2.t) (u := bt m2.s) HT.out hst hsu A1 m2.ps.length c1 HBV.out)
  have M1 := Lib.hid (Media_says.at (t := bt m2.t) (u := bt m2.s) HT.out hst hsu A1 m2.ps.length c1 HBV.out)
  have M2 := Lib.hid (rMedia_says.at (t := bt m2.t) (u := bt m2.s) HT.out hst hsu A1 m2.ps.length c1 HBV.out)
  have F1 := Lib.hid (Font_says.at (t := bt m2.t) (u := bt m2.s) HT.out hst hsu A1 m2.ps.length c1 HBV.out)
  have F2 := Lib.hid (rFont_says.at (t := bt m2.t) (u := bt m2.s) HT.out hst hsu A1 m2.ps.length c1 HBV.out)
  have Z1 := Lib.hid (Zip_says.at (t := bt m2.t) (u := bt m2.s) HT.out hst hsu A1 m2.ps.length c1 HBV.out)
  have Z2 := Lib.hid (rZip_says.at (t := bt m2.t) (u := bt m2.s) HT.out hst hsu A1 m2.ps.length c1 HBV.out)
  have R1 := Lib.hid (Archive_says.at (t := bt m2.t) (u := bt m2.s) HT.out hst hsu A1 m2.ps.length c1 HBV.out)
  have R2 := Lib.hid (rArchive_says.at (t := bt m2.t) (u := bt m2.s) HT.out hst hsu A1 m2.ps.length c1 HBV.out)
  have LV := Lib.hid (fun (w1 : World) (hb : Below V.heap.size V w1) => lives12_any w1 (HT.out.on (HBV.out.trans (hb.mono HBV.out.size))))
  rw [media_eq] at M1
  rw [font_eq] at F1
  rw [zip_eq] at Z1
  rw [archive_eq] at R1
  unfold imageB at I1
  have q0 : ((bt m2.t).toList == [105, 109, 97, 103, 101]) = isB (bt m2.t) ⟨#[105, 109, 97, 103, 101]⟩ := by rw [isB_eq, Lib.toList_data (⟨#[105, 109, 97, 103, 101]⟩ : ByteArray)]
  generalize isB (bt m2.t) ⟨#[105, 109, 97, 103, 101]⟩ = bi at *
  generalize rMediaB (bt m2.t) (bt m2.s) = bm at *
  generalize rFontB (bt m2.t) (bt m2.s) = bf at *
  generalize rZipB (bt m2.t) (bt m2.s) = bz at *
  generalize rArchiveB (bt m2.t) (bt m2.s) = br at *
  generalize bt m2.t = t at *
  generalize bt m2.s = u at *
  have hx := @InB.cells V
  cases bi
  · have n0 := q0
    rw [beq_eq_false_iff_ne, ne_eq] at n0
    refine wp_region_inb (by kernel_rfl) (by kernel_rfl) ?_; (repeat (first | go_big_quiet_skip | (go_big_quiet_want; go_big_quiet_op; first | go_big_quiet_on | (apply Exists.intro; refine ⟨fun x => ?_, ?_⟩; (· ((first | (go_at_call 19; exact inb_call _ (I1.out _ (InB.prop _))) | (go_at_call 20; exact inb_call _ (M1.out _ (InB.prop _))) | (go_at_call 21; exact inb_call _ (M2.out _ (InB.prop _))) | (go_at_call 22; exact inb_call _ (F1.out _ (InB.prop _))) | (go_at_call 23; exact inb_call _ (F2.out _ (InB.prop _))) | (go_at_call 24; exact inb_call _ (Z1.out _ (InB.prop _))) | (go_at_call 25; exact inb_call _ (Z2.out _ (InB.prop _))) | (go_at_call 26; exact inb_call _ (R1.out _ (InB.prop _))) | (go_at_call 27; exact inb_call _ (R2.out _ (InB.prop _))) | (go_at_call 18; exact inb_call _ (LV.out _ (InB.prop _)))))); go_big_quiet_on)))); refine wpQuiet_nil ?_; intro _ hw'; obtain ⟨⟨wq, hbq⟩, rfl⟩ := hw'
    go_wp2_with fail
    go_ret
    exact ⟨by simp, HBV.out.trans (hbq.mono HBV.out.size)⟩
  · have n0 := q0
    rw [beq_iff_eq] at n0
    refine wp_region_inb (by kernel_rfl) (by kernel_rfl) ?_; (repeat (first | go_big_quiet_skip | (go_big_quiet_want; go_big_quiet_op; first | go_big_quiet_on | (apply Exists.intro; refine ⟨fun x => ?_, ?_⟩; (· ((first | (go_at_call 19; exact inb_call _ (I1.out _ (InB.prop _))) | (go_at_call 20; exact inb_call _ (M1.out _ (InB.prop _))) | (go_at_call 21; exact inb_call _ (M2.out _ (InB.prop _))) | (go_at_call 22; exact inb_call _ (F1.out _ (InB.prop _))) | (go_at_call 23; exact inb_call _ (F2.out _ (InB.prop _))) | (go_at_call 24; exact inb_call _ (Z1.out _ (InB.prop _))) | (go_at_call 25; exact inb_call _ (Z2.out _ (InB.prop _))) | (go_at_call 26; exact inb_call _ (R1.out _ (InB.prop _))) | (go_at_call 27; exact inb_call _ (R2.out _ (InB.prop _))) | (go_at_call 18; exact inb_call _ (LV.out _ (InB.prop _)))))); go_big_quiet_on)))); refine wpQuiet_nil ?_; intro _ hw'; obtain ⟨⟨wq, hbq⟩, rfl⟩ := hw'
    go_wp2_with fail
    go_ret
    exact ⟨by simp, HBV.out.trans (hbq.mono HBV.out.size)⟩

end Go.Proofs.YtigclegknofhmaaDoor
