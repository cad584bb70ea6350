/-
  The walk of the law GroupLists. (Printed by wip/tools/gengl.py.)
-/
import Derived.Test.YtigclegknofhmaaDoorLawGroupKinds
import Derived.Test.YtigclegknofhmaaDoorGroupNR
import Derived.Deep.RegionWith
namespace Go.Proofs.YtigclegknofhmaaDoor
open Go.RowKit
set_option linter.unusedSimpArgs false
set_option linter.unusedVariables false

set_option maxHeartbeats 20000000 in
set_option maxRecDepth 20000 in
theorem groupLists_walk (m : MimeL) (A : Option Addr) (c : Nat) (w : World) (hT : Tab w) (hm : BigM m) (hA : ParsIn w w.heap.size A m.ps) :
    Calls Tryd.prog 6 #[mimV m A c] w fun e w' => e = .returned (.bool true) ∧ Below w.heap.size w w' := by
  have HFM := Lib.hid (fun (w1 : World) (hb : Below w.heap.size w w1) => Few10_any m A c w1 hm (hA.on hb))
  have HT := Lib.hid hT
  have hmz := fewM_sizes m
  have hst : (bt (fewM m).t).size ≤ 1000 := by rw [bt_size]; exact hmz.t
  have hsu : (bt (fewM m).s).size ≤ 1000 := by rw [bt_size]; exact hmz.s
  clear hm hA hT hmz
  unfold mimV at HFM ⊢
  generalize fewM m = m2 at *
  have hb0 : Below w.heap.size w (w.alloc (.cells #[.string (bt m.t), .string (bt m.s), .slice A m.ps.length c] 24)) := below_box w _
  have HP0 : Hid ((w.alloc (.cells #[.string (bt m.t), .string (bt m.s), .slice A m.ps.length c] 24)).heap[w.heap.size]? = some (.cells #[.string (bt m.t), .string (bt m.s), .slice A m.ps.length c] 24 (0, 0))) := Lib.hid (heap_alloc_new w _)
  go_enter Tryd.func6, Tryd.ntmps6
  go_upto_region 1 with fail
  generalize w.alloc (.cells #[.string (bt m.t), .string (bt m.s), .slice A m.ps.length c] 24) = W at *
  obtain ⟨p0, p1, p2, pz⟩ := box_cells HP0.out
  have HB0 := Lib.hid hb0
  clear hb0
  go_wp2_with fail
  refine Calls.mono (HFM.out _ HB0.out) ?_
  rintro e w1 ⟨A1, c1, rfl, hA1, hb1, hg1⟩
  have HB1 := Lib.hid (HB0.out.trans (hb1.mono HB0.out.size))
  have HP1 := Lib.hid ((hb1.block _ pz).trans HP0.out)
  clear hA1 hb1 hg1 p0 p1 p2
  obtain ⟨p0, p1, p2, pz1⟩ := box_cells HP1.out
  have fz : ∀ i, w1.frozen? ⟨w.heap.size, i, none⟩ = false := fun i => Lib.frozen_of_heap HP1.out i
  go_upto_region 2 with fail
  have HPV : Hid ((((w1.setCell ⟨w.heap.size, 0, none⟩ (.string (bt m2.t))).setCell ⟨w.heap.size, 1, none⟩ (.string (bt m2.s))).setCell ⟨w.heap.size, 2, none⟩ (.slice A1 m2.ps.length c1)).heap[w.heap.size]? = some (.cells #[.string (bt m2.t), .string (bt m2.s), .slice A1 m2.ps.length c1] 24 (0, 0))) := Lib.hid (heap_set3g HP1.out)
  have HBV : Hid (Below w.heap.size w (((w1.setCell ⟨w.heap.size, 0, none⟩ (.string (bt m2.t))).setCell ⟨w.heap.size, 1, none⟩ (.string (bt m2.s))).setCell ⟨w.heap.size, 2, none⟩ (.slice A1 m2.ps.length c1))) := Lib.hid (((HB1.out.setCell (by simp) _).setCell (by simp) _).setCell (by simp) _)
  clear p0 p1 p2 pz fz HFM HP0 HP1 HB0 HB1 pz1
  generalize ((w1.setCell ⟨w.heap.size, 0, none⟩ (.string (bt m2.t))).setCell ⟨w.heap.size, 1, none⟩ (.string (bt m2.s))).setCell ⟨w.heap.size, 2, none⟩ (.slice A1 m2.ps.length c1) = V at *
  obtain ⟨p0, p1, p2, pz⟩ := box_cells HPV.out
  have S1 := Lib.hid (Safe_says.at (t := bt m2.t) (u := bt m2.s) HT.out hst hsu A1 m2.ps.length c1 HBV.out)
  have S2 := Lib.hid (rSafe_says.at (t := bt m2.t) (u := bt m2.s) HT.out hst hsu A1 m2.ps.length c1 HBV.out)
  have N1 := Lib.hid (Never_says.at (t := bt m2.t) (u := bt m2.s) HT.out hst hsu A1 m2.ps.length c1 HBV.out)
  have N2 := Lib.hid (rNever_says.at (t := bt m2.t) (u := bt m2.s) HT.out hst hsu A1 m2.ps.length c1 HBV.out)
  have L1 := Lib.hid (Listed_says.at (t := bt m2.t) (u := bt m2.s) HT.out hst hsu A1 m2.ps.length c1 HBV.out)
  have L2 := Lib.hid (rListed_says.at (t := bt m2.t) (u := bt m2.s) HT.out hst hsu A1 m2.ps.length c1 HBV.out)
  have H1 := Lib.hid (Html_says.at (t := bt m2.t) (u := bt m2.s) HT.out hst hsu A1 m2.ps.length c1 HBV.out)
  have C1 := Lib.hid (Scriptable_says.at (t := bt m2.t) (u := bt m2.s) HT.out hst hsu A1 m2.ps.length c1 HBV.out)
  have LV := Lib.hid (fun (w1 : World) (hb : Below V.heap.size V w1) => lives12_any w1 (HT.out.on (HBV.out.trans (hb.mono HBV.out.size))))
  have O1 := Lib.hid (fun (w1 : World) (hb : Below V.heap.size V w1) => Names_any (bt m2.t) (bt m2.s) A1 m2.ps.length c1 w1 (HT.out.on (HBV.out.trans (hb.mono HBV.out.size))) hst hsu)
  have O2 := Lib.hid (fun (w1 : World) (hb : Below V.heap.size V w1) => rNames_any (bt m2.t) (bt m2.s) A1 m2.ps.length c1 w1 (HT.out.on (HBV.out.trans (hb.mono HBV.out.size))) hst hsu)
  rw [names_eq] at O1
  have hsl := safe_listed (bt m2.t) (bt m2.s)
  have hhb := html_both (bt m2.t) (bt m2.s)
  have hnl : (rNamesB (bt m2.t) (bt m2.s)).length ≤ maxLen := by
    rw [show rNamesB (bt m2.t) (bt m2.s) = pickTo wordsL [rJsonB (bt m2.t) (bt m2.s), rXmlB (bt m2.t) (bt m2.s), rHtmlB (bt m2.t) (bt m2.s), rScriptB (bt m2.t) (bt m2.s), imageB (bt m2.t) (bt m2.s), rMediaB (bt m2.t) (bt m2.s), rFontB (bt m2.t) (bt m2.s), rZipB (bt m2.t) (bt m2.s), rArchiveB (bt m2.t) (bt m2.s), rScriptableB (bt m2.t) (bt m2.s), rSafeB (bt m2.t) (bt m2.s), rNeverB (bt m2.t) (bt m2.s), rListedB (bt m2.t) (bt m2.s)] 13 from rfl]
    refine Nat.le_trans (pickTo_len _ _ _) ?_
    unfold maxLen
    omega
  rw [← safe_eq] at S2
  rw [← never_eq] at N2
  rw [← listed_eq] at L2
  generalize safeB (bt m2.t) (bt m2.s) = bs at *
  generalize neverB (bt m2.t) (bt m2.s) = bn at *
  generalize listedB (bt m2.t) (bt m2.s) = bl at *
  generalize htmlB (bt m2.t) (bt m2.s) = bh at *
  generalize scriptableB (bt m2.t) (bt m2.s) = bc at *
  generalize rNamesB (bt m2.t) (bt m2.s) = ns at *
  generalize bt m2.t = t at *
  generalize bt m2.s = u at *
  have HSL := Lib.hid hsl
  have HHB := Lib.hid hhb
  have HNL := Lib.hid hnl
  clear hsl hhb hnl hst hsu
  have hx := @InB.cells V
  refine wp_region_inb (by kernel_rfl) (by kernel_rfl) ?_; (repeat (first | go_big_quiet_skip | (go_big_quiet_want; go_big_quiet_op; first | go_big_quiet_on | (apply Exists.intro; refine ⟨fun x => ?_, ?_⟩; (· ((first | (go_at_call 32; exact inb_call _ (S1.out _ (InB.prop _))) | (go_at_call 33; exact inb_call _ (L1.out _ (InB.prop _)))))); go_big_quiet_on)))); refine wpQuiet_nil ?_; intro _ hw'; obtain ⟨⟨wq, hbq⟩, rfl⟩ := hw'
  obtain ⟨X, hX, hbX⟩ : ∃ X : World, X = _ ∧ Below V.heap.size V X := ⟨_, rfl, hbq⟩
  rw [← hX]
  clear hX hbq hx
  have HX := Lib.hid hbX
  have x0 := (cell_below hbX pz).trans p0
  have x1 := (cell_below hbX pz).trans p1
  have x2 := (cell_below hbX pz).trans p2
  have pz2 : w.heap.size < X.heap.size := Nat.lt_of_lt_of_le pz hbX.size
  clear hbX p0 p1 p2
  go_upto_region 3 with fail
  go_cut [45] (fun s wx => s = .bool false ∧ Below X.heap.size X wx)
  case first =>
    have hx := @InB.cells X
    have e1 : (bs != bs) = false := by simp
    have e2 : (bn != bn) = false := by simp
    have e3 : (bl != bl) = false := by simp
    rcases Bool.eq_false_or_eq_true bh with h | h
    · obtain ⟨h2, h3⟩ := HHB.out h
      have h4 := HSL.out
      rw [h2, Bool.and_true] at h4
      subst h h2 h3 h4
      refine wp_region_inb (by kernel_rfl) (by kernel_rfl) ?_; (repeat (first | go_big_quiet_skip | (go_big_quiet_want; go_big_quiet_op; first | go_big_quiet_on | (apply Exists.intro; refine ⟨fun x => ?_, ?_⟩; (· ((first | (go_at_call 34; exact inb_call _ (S2.out _ (below_trans HX.out (InB.prop _)))) | (go_at_call 35; exact inb_call _ (N1.out _ (below_trans HX.out (InB.prop _)))) | (go_at_call 36; exact inb_call _ (N2.out _ (below_trans HX.out (InB.prop _)))) | (go_at_call 37; exact inb_call _ (L2.out _ (below_trans HX.out (InB.prop _)))) | (go_at_call 12; exact inb_call _ (H1.out _ (below_trans HX.out (InB.prop _)))) | (go_at_call 16; exact inb_call _ (C1.out _ (below_trans HX.out (InB.prop _))))))); go_big_quiet_on)))); refine wpQuiet_nil ?_; intro _ hw'; obtain ⟨⟨wq, hbq⟩, rfl⟩ := hw'
      go_wp2_with fail
      go_meet
      exact ⟨by simp, hbq⟩
    · subst h
      rcases Bool.eq_false_or_eq_true bs with h | h
      · have h4 := HSL.out
        rw [h, Bool.true_and] at h4
        subst h h4
        refine wp_region_inb (by kernel_rfl) (by kernel_rfl) ?_; (repeat (first | go_big_quiet_skip | (go_big_quiet_want; go_big_quiet_op; first | go_big_quiet_on | (apply Exists.intro; refine ⟨fun x => ?_, ?_⟩; (· ((first | (go_at_call 34; exact inb_call _ (S2.out _ (below_trans HX.out (InB.prop _)))) | (go_at_call 35; exact inb_call _ (N1.out _ (below_trans HX.out (InB.prop _)))) | (go_at_call 36; exact inb_call _ (N2.out _ (below_trans HX.out (InB.prop _)))) | (go_at_call 37; exact inb_call _ (L2.out _ (below_trans HX.out (InB.prop _)))) | (go_at_call 12; exact inb_call _ (H1.out _ (below_trans HX.out (InB.prop _)))) | (go_at_call 16; exact inb_call _ (C1.out _ (below_trans HX.out (InB.prop _))))))); go_big_quiet_on)))); refine wpQuiet_nil ?_; intro _ hw'; obtain ⟨⟨wq, hbq⟩, rfl⟩ := hw'
        go_wp2_with fail
        go_meet
        exact ⟨by simp, hbq⟩
      · subst h
        refine wp_region_inb (by kernel_rfl) (by kernel_rfl) ?_; (repeat (first | go_big_quiet_skip | (go_big_quiet_want; go_big_quiet_op; first | go_big_quiet_on | (apply Exists.intro; refine ⟨fun x => ?_, ?_⟩; (· ((first | (go_at_call 34; exact inb_call _ (S2.out _ (below_trans HX.out (InB.prop _)))) | (go_at_call 35; exact inb_call _ (N1.out _ (below_trans HX.out (InB.prop _)))) | (go_at_call 36; exact inb_call _ (N2.out _ (below_trans HX.out (InB.prop _)))) | (go_at_call 37; exact inb_call _ (L2.out _ (below_trans HX.out (InB.prop _)))) | (go_at_call 12; exact inb_call _ (H1.out _ (below_trans HX.out (InB.prop _)))) | (go_at_call 16; exact inb_call _ (C1.out _ (below_trans HX.out (InB.prop _))))))); go_big_quiet_on)))); refine wpQuiet_nil ?_; intro _ hw'; obtain ⟨⟨wq, hbq⟩, rfl⟩ := hw'
        go_wp2_with fail
        go_meet
        exact ⟨by simp, hbq⟩
  obtain ⟨rfl, hbY⟩ := hcut
  obtain ⟨Y, rfl⟩ : ∃ Y : World, Y = wc := ⟨_, rfl⟩
  have HY := Lib.hid (below_trans HX.out hbY)
  have y0 := (cell_below hbY pz2).trans x0
  have y1 := (cell_below hbY pz2).trans x1
  have y2 := (cell_below hbY pz2).trans x2
  have pz3 : w.heap.size < Y.heap.size := Nat.lt_of_lt_of_le pz2 hbY.size
  clear hbY x0 x1 x2 S1 S2 N1 N2 L1 L2 H1 C1 HSL HHB
  go_upto_region 5 with fail
  have hb : Below Y.heap.size Y Y.drew := (Below.refl _ _).drew
  have r0 := (cell_below hb pz3).trans y0
  have r1 := (cell_below hb pz3).trans y1
  have r2 := (cell_below hb pz3).trans y2
  go_region_with (first | (go_at_call 39; (refine Calls.mono (O1.out _ (below_trans HY.out hb)) ?_); rintro e v1 ⟨ga, ca, rfl, hpa, hba⟩; (try (have hpb2 := StrsIn.below hpb hba; clear hpb; have hpb := hpb2; clear hpb2)); replace hb := below_trans hb hba; clear hba; have r0 := (cell_below hb pz3).trans y0; have r1 := (cell_below hb pz3).trans y1; have r2 := (cell_below hb pz3).trans y2) | (go_at_call 40; (refine Calls.mono (O2.out _ (below_trans HY.out hb)) ?_); rintro e v2 ⟨gb, cb, rfl, hpb, hbb⟩; (try (have hpa2 := StrsIn.below hpa hbb; clear hpa; have hpa := hpa2; clear hpa2)); replace hb := below_trans hb hbb; clear hbb; have r0 := (cell_below hb pz3).trans y0; have r1 := (cell_below hb pz3).trans y1; have r2 := (cell_below hb pz3).trans y2) | (go_at_call 38; (refine Calls.mono (rSame_strs ns _ _ _ _ _ HNL.out hpa hpb) ?_); rintro e w' ⟨rfl, hb2⟩; replace hb := below_trans hb hb2; clear hb2) | (go_at_call 18; (refine Calls.mono (LV.out _ (below_trans HY.out hb)) ?_); rintro e w' ⟨rfl, hb2⟩; replace hb := below_trans hb hb2; clear hb2))
  all_goals
    go_wp2_with fail
    go_ret
    exact ⟨rfl, HBV.out.trans ((below_trans HY.out hb).mono HBV.out.size)⟩

end Go.Proofs.YtigclegknofhmaaDoor
