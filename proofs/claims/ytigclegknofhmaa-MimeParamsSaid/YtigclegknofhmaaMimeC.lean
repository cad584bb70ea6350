/-
  Walks of package mime: whether a type is good.
-/
import Derived.Test.YtigclegknofhmaaMimeB
namespace Go.Proofs.Ytigclegknofhmaa
open Go.RowKit
set_option linter.unusedSimpArgs false
set_option linter.unusedVariables false

def OkTo (l : Pars) (n : Nat) : Prop := ∀ j, j < n → okP l j = true

theorem goodP_of {l : Pars} (h : OkTo l l.length) : goodP l = true := by
  unfold goodP
  rw [List.all_eq_true]
  intro j hj
  exact h j (List.mem_range.1 hj)

theorem goodP_bad {l : Pars} {n : Nat} (hn : n < l.length) (h : okP l n = false) : goodP l = false := by
  unfold goodP
  rw [List.all_eq_false]
  exact ⟨n, List.mem_range.2 hn, by rw [h]; simp⟩

theorem okTo_step {l : Pars} {n : Nat} (h : OkTo l n) (hn : okP l n = true) : OkTo l (n + 1) := by
  intro j hj
  by_cases e : j = n
  · subst e; exact hn
  · exact h j (by omega)

theorem okP_at (l : Pars) (n : Nat) (hn : n < l.length) : okP l n = (smallL l[n].1 && quoL l[n].2 && atL l l[n].1 == (n : Int)) := by
  unfold okP
  rw [List.getElem?_eq_getElem hn]

theorem ret_bool_false {m : MimeL} (h : goodP m.ps = false) : goodL m = false := by unfold goodL; rw [h]; rfl

set_option maxHeartbeats 2000000 in
set_option maxRecDepth 20000 in
theorem good_par (m : MimeL) (A : Option Addr) (c : Nat) (w : World) (hm : SizesM m) (hA : ParsAt w w.heap.size A m.ps) :
    Calls Try.prog 52 #[mimV m A c] w fun e w' => e = .returned (.bool (goodL m)) ∧ Below w.heap.size w w' := by
  have HF := Lib.hid (fun (w1 : World) (s : ByteArray) (hb : Below w.heap.size w w1) => find_par m A c s w1 hm (hA.on hb))
  have HPT := Lib.hid (fun w => plain_any (bt m.t) w (bt_max hm.t))
  have HPS := Lib.hid (fun w => plain_any (bt m.s) w (bt_max hm.s))
  have HZ := Lib.hid hm.ps.2
  have hl := hm.ps.1
  have HGL : Hid (goodL m = (goodP m.ps && smallL m.t && smallL m.s)) := Lib.hid rfl
  have HBAD := Lib.hid (fun h => ret_bool_false (m := m) h)
  have HA := Lib.hid hA
  rw [bt_list] at HPT HPS
  clear hm hA
  unfold mimV at HF ⊢
  generalize smallL m.t = rt at *
  generalize smallL m.s = rs at *
  generalize goodL m = G at *
  generalize bt m.t = T at *
  generalize bt m.s = U at *
  generalize m.ps = l at *
  clear m
  go_enter Try.func52, Try.ntmps52
  go_wp2_with fail
  go_loopw [8] (fun i wr => ∃ n : Nat, n ≤ l.length ∧ i = .int .i64 n ∧ OkTo l n ∧ Below w.heap.size w wr ∧ w.heap.size < wr.heap.size ∧ wr.cell? ⟨w.heap.size, 0, none⟩ = some (.string T) ∧ wr.cell? ⟨w.heap.size, 1, none⟩ = some (.string U) ∧ wr.cell? ⟨w.heap.size, 2, none⟩ = some (.slice A l.length c)) (fun i _ => l.length - (intOf i).toNat)
  case atStart => exact ⟨0, Nat.zero_le _, rfl, fun i h => by omega, below_box _ _, by simp, by simp [go_sem], by simp [go_sem], by simp [go_sem]⟩
  case round =>
    obtain ⟨n, hn, rfl, h0, hb, hz1, d0, d1, d2⟩ := hrel
    have H0 := Lib.hid h0; clear h0
    have HB := Lib.hid hb
    have HD0 := Lib.hid d0
    have HD1 := Lib.hid d1
    have HD2 := Lib.hid d2
    have hz := hb.size
    by_cases hlt : n < l.length
    · have hA2 := HA.out.below hb
      rcases hA2 with hnil | ⟨g, rfl, hg, hcs⟩
      · rw [hnil] at hlt; simp at hlt
      obtain ⟨c0, c1⟩ := hcs n hlt
      have hsz := HZ.out l[n] (List.getElem_mem _)
      have HO := Lib.hid (okP_at l n hlt)
      have HPN := Lib.hid (fun w => plain_any (bt l[n].1) w (bt_max hsz.1))
      have HPQ := Lib.hid (fun w => All_list 53 isQuoted fnQuoted (bt l[n].2) w (bt_max hsz.2))
      have HQE : Hid (quoL l[n].2 = (bt l[n].2).data.toList.all isQuoted) := Lib.hid rfl
      have HFN := Lib.hid (fun (w1 : World) (hb : Below w.heap.size w w1) => HF.out w1 (bt l[n].1) hb)
      have HBD := Lib.hid (fun h => HBAD.out (goodP_bad hlt h))
      rw [bt_list] at HPN HFN
      rw [← HQE.out] at HPQ
      clear HQE hcs hb hsz HPT HPS HGL HF HBAD
      generalize l[n] = p at *
      generalize smallL p.1 = r1 at *
      generalize quoL p.2 = r2 at *
      generalize atL l p.1 = r3 at *
      generalize bt p.1 = N at *
      generalize bt p.2 = V at *
      clear p
      go_upto_region 4 with fail
      obtain ⟨B1, hB1⟩ : ∃ B1, wr.heap.size = B1 := ⟨_, rfl⟩
      generalize hW : wr.alloc (.cells #[.string N, .string V] 54) = W at *
      have e0 : W.cell? ⟨B1, 0, none⟩ = some (.string N) := by rw [← hW, ← hB1]; simp [go_sem]
      have e1 : W.cell? ⟨B1, 1, none⟩ = some (.string V) := by rw [← hW, ← hB1]; simp [go_sem]
      have hWb : Below wr.heap.size wr W := by rw [← hW]; exact below_box _ _
      have hWz : B1 < W.heap.size := by rw [← hW, ← hB1]; simp
      rw [hB1] at hz1 ⊢
      have HWB := Lib.hid (HB.out.trans (hWb.mono hz))
      rw [← cell_below hWb (by omega)] at d0 d1 d2
      clear hW hWb c0 c1
      have hzW : w.heap.size ≤ W.heap.size := HWB.out.size
      cases r1
      · go_wp2_with fail
        refine (HPN.out _).mono ?_
        rintro e w1 ⟨rfl, hb1⟩
        have HB1 := Lib.hid (HWB.out.trans (hb1.mono hzW))
        clear hb1
        go_wp2_with fail
        go_ret
        exact ⟨ret_bool (HBD.out (by rw [HO.out]; rfl)).symm, HB1.out⟩
      · go_wp2_with fail
        refine (HPN.out _).mono ?_
        rintro e w1 ⟨rfl, hb1⟩
        have HB1 := Lib.hid (HWB.out.trans (hb1.mono hzW))
        have hz2 := hb1.size
        rw [← cell_below hb1 (by omega)] at d0 d1 d2 e0 e1
        clear hb1
        cases r2
        · go_wp2_with (go_at_call 48; refine (HPQ.out _).mono ?_; rintro e w' ⟨rfl, rfl⟩)
          go_ret
          exact ⟨ret_bool (HBD.out (by rw [HO.out]; rfl)).symm, HB1.out⟩
        · have HD0 := Lib.hid d0
          have HD1 := Lib.hid d1
          have HD2 := Lib.hid d2
          by_cases h3 : r3 = (n : Int)
          · have HS := Lib.hid (okTo_step H0.out (by rw [HO.out, h3]; simp))
            rw [h3] at HFN
            clear h3 HO HBD
            go_wp2_with (go_at_call 48; refine (HPQ.out _).mono ?_; rintro e w' ⟨rfl, rfl⟩)
            refine (HFN.out _ HB1.out).mono ?_
            rintro e w2 ⟨rfl, hb2⟩
            have HB2 := Lib.hid (HB1.out.trans (hb2.mono HB1.out.size))
            have hz3 := hb2.size
            rw [← cell_below hb2 (by omega)] at d0 d1 d2
            have HD0 := Lib.hid d0
            have HD1 := Lib.hid d1
            have HD2 := Lib.hid d2
            clear hb2
            go_wp2_with fail
            go_roundw
            case rel => exact ⟨n + 1, by omega, by go_num, HS.out, HB2.out, by omega, HD0.out, HD1.out, HD2.out⟩
            case measure => simp [intOf]; omega
          · have hne : (r3 == (n : Int)) = false := beq_eq_false_iff_ne.2 h3
            have HNE := Lib.hid hne
            clear h3
            go_wp2_with (go_at_call 48; refine (HPQ.out _).mono ?_; rintro e w' ⟨rfl, rfl⟩)
            refine (HFN.out _ HB1.out).mono ?_
            rintro e w2 ⟨rfl, hb2⟩
            have HB2 := Lib.hid (HB1.out.trans (hb2.mono HB1.out.size))
            clear hb2
            go_wp2_with fail
            go_ret
            exact ⟨ret_bool (HBD.out (by rw [HO.out, HNE.out]; rfl)).symm, HB2.out⟩
    · obtain rfl : n = l.length := by omega
      have hGE : G = (rt && rs) := by rw [HGL.out, goodP_of H0.out]; rfl
      have HGE := Lib.hid hGE
      clear hGE hb HGL HBAD HF
      cases rt
      · go_wp2_with fail
        refine (HPT.out _).mono ?_
        rintro e w1 ⟨rfl, hb1⟩
        have HB1 := Lib.hid (HB.out.trans (hb1.mono hz))
        clear hb1
        go_wp2_with fail
        go_ret
        exact ⟨ret_bool HGE.out.symm, HB1.out⟩
      · go_wp2_with fail
        refine (HPT.out _).mono ?_
        rintro e w1 ⟨rfl, hb1⟩
        have HB1 := Lib.hid (HB.out.trans (hb1.mono hz))
        have hz2 := hb1.size
        rw [← cell_below hb1 (by omega)] at d0 d1 d2
        clear hb1
        go_wp2_with fail
        refine (HPS.out _).mono ?_
        rintro e w2 ⟨rfl, hb2⟩
        have HB2 := Lib.hid (HB1.out.trans (hb2.mono HB1.out.size))
        clear hb2
        go_wp2_with fail
        go_ret
        exact ⟨ret_bool (by rw [HGE.out]; rfl), HB2.out⟩

theorem Good_par (m : MimeL) (A : Option Addr) (c : Nat) (w : World) (hm : SizesM m) (hA : ParsAt w w.heap.size A m.ps) :
    Calls Try.prog 32 #[mimV m A c] w fun e w' => e = .returned (.bool (goodL m)) ∧ Below w.heap.size w w' := by
  have HG := Lib.hid (fun (w1 : World) (hb : Below w.heap.size w w1) => good_par m A c w1 hm (hA.on hb))
  clear hm hA
  unfold mimV at HG ⊢
  generalize goodL m = G at *
  go_enter Try.func32, Try.ntmps32
  go_wp2_with fail
  refine (HG.out _ (below_box _ _)).mono ?_
  rintro e w1 ⟨rfl, hb1⟩
  have HB1 := Lib.hid (below_after hb1)
  clear hb1
  go_wp2_with fail
  go_ret
  exact ⟨rfl, HB1.out⟩

set_option maxHeartbeats 4000000 in
set_option maxRecDepth 20000 in
theorem rGood_par (m : MimeL) (A : Option Addr) (c : Nat) (w : World) (hm : SizesM m) (hA : ParsAt w w.heap.size A m.ps) :
    Calls Try.prog 25 #[mimV m A c] w fun e w' => e = .returned (.bool (goodL m)) ∧ Below w.heap.size w w' := by
  have HF := Lib.hid (fun (w1 : World) (s : ByteArray) (hb : Below w.heap.size w w1) => rAt_par m A c s w1 hm (hA.on hb))
  have HPT := Lib.hid (fun w => rsmall_any (bt m.t) w (bt_max hm.t) (by rw [bt_size]; have := hm.t; omega))
  have HPS := Lib.hid (fun w => rsmall_any (bt m.s) w (bt_max hm.s) (by rw [bt_size]; have := hm.s; omega))
  have HZ := Lib.hid hm.ps.2
  have hl := hm.ps.1
  have HGL : Hid (goodL m = (goodP m.ps && smallL m.t && smallL m.s)) := Lib.hid rfl
  have HBAD := Lib.hid (fun h => ret_bool_false (m := m) h)
  have HA := Lib.hid hA
  rw [bt_list] at HPT HPS
  clear hm hA
  unfold mimV at HF ⊢
  generalize smallL m.t = rt at *
  generalize smallL m.s = rs at *
  generalize goodL m = G at *
  generalize bt m.t = T at *
  generalize bt m.s = U at *
  generalize m.ps = l at *
  clear m
  go_enter Try.func25, Try.ntmps25
  go_wp2_with fail
  go_loopw [3] (fun i wr => ∃ n : Nat, n ≤ l.length ∧ i = .int .i64 n ∧ OkTo l n ∧ Below w.heap.size w wr ∧ w.heap.size < wr.heap.size ∧ wr.cell? ⟨w.heap.size, 0, none⟩ = some (.string T) ∧ wr.cell? ⟨w.heap.size, 1, none⟩ = some (.string U) ∧ wr.cell? ⟨w.heap.size, 2, none⟩ = some (.slice A l.length c)) (fun i _ => l.length - (intOf i).toNat)
  case atStart => exact ⟨0, Nat.zero_le _, rfl, fun i h => by omega, below_box _ _, by simp, by simp [go_sem], by simp [go_sem], by simp [go_sem]⟩
  case round =>
    obtain ⟨n, hn, rfl, h0, hb, hz1, d0, d1, d2⟩ := hrel
    have H0 := Lib.hid h0; clear h0
    have HB := Lib.hid hb
    have HD0 := Lib.hid d0
    have HD1 := Lib.hid d1
    have HD2 := Lib.hid d2
    have hz := hb.size
    by_cases hlt : n < l.length
    · have hA2 := HA.out.below hb
      rcases hA2 with hnil | ⟨g, rfl, hg, hcs⟩
      · rw [hnil] at hlt; simp at hlt
      obtain ⟨c0, c1⟩ := hcs n hlt
      have hsz := HZ.out l[n] (List.getElem_mem _)
      have HO := Lib.hid (okP_at l n hlt)
      have HPN := Lib.hid (fun w => rsmall_any (bt l[n].1) w (bt_max hsz.1) (by rw [bt_size]; have := hsz.1; omega))
      have HPQ := Lib.hid (fun w => r10Quoted_any (bt l[n].2) w (bt_max hsz.2))
      have HFN := Lib.hid (fun (w1 : World) (hb : Below w.heap.size w w1) => HF.out w1 (bt l[n].1) hb)
      have HBD := Lib.hid (fun h => HBAD.out (goodP_bad hlt h))
      rw [bt_list] at HPN HFN HPQ
      clear hcs hb hsz HPT HPS HGL HF HBAD
      generalize l[n] = p at *
      generalize smallL p.1 = r1 at *
      generalize quoL p.2 = r2 at *
      generalize atL l p.1 = r3 at *
      generalize bt p.1 = N at *
      generalize bt p.2 = V at *
      clear p
      have hgw : g < wr.heap.size := by omega
      have hx := @InB.cells wr
      go_upto_region 4 with fail
      cases r1
      · refine wp_region_inb (by kernel_rfl) (by kernel_rfl) ?_; (repeat (first | go_big_quiet_skip | (go_big_quiet_want; go_big_quiet_op; first | go_big_quiet_on | (apply Exists.intro; refine ⟨fun x => ?_, ?_⟩; (· ((first | (go_at_call 54; exact inb_call _ (HPN.out _)) | (go_at_call 28; exact inb_same _ (HPQ.out _)) | (go_at_call 23; exact inb_call _ (HFN.out _ (HB.out.trans (x.property.mono hz))))))); go_big_quiet_on)))); refine wpQuiet_nil ?_; intro _ hw'; obtain ⟨⟨wq, hbq⟩, rfl⟩ := hw'
        go_wp2_with fail
        go_ret
        exact ⟨ret_bool (HBD.out (by rw [HO.out]; rfl)).symm, HB.out.trans (hbq.mono hz)⟩
      · cases r2
        · refine wp_region_inb (by kernel_rfl) (by kernel_rfl) ?_; (repeat (first | go_big_quiet_skip | (go_big_quiet_want; go_big_quiet_op; first | go_big_quiet_on | (apply Exists.intro; refine ⟨fun x => ?_, ?_⟩; (· ((first | (go_at_call 54; exact inb_call _ (HPN.out _)) | (go_at_call 28; exact inb_same _ (HPQ.out _)) | (go_at_call 23; exact inb_call _ (HFN.out _ (HB.out.trans (x.property.mono hz))))))); go_big_quiet_on)))); refine wpQuiet_nil ?_; intro _ hw'; obtain ⟨⟨wq, hbq⟩, rfl⟩ := hw'
          go_wp2_with fail
          go_ret
          exact ⟨ret_bool (HBD.out (by rw [HO.out]; rfl)).symm, HB.out.trans (hbq.mono hz)⟩
        · by_cases h3 : r3 = (n : Int)
          · have HS := Lib.hid (okTo_step H0.out (by rw [HO.out, h3]; simp))
            rw [h3] at HFN
            clear h3 HO HBD
            refine wp_region_inb (by kernel_rfl) (by kernel_rfl) ?_; (repeat (first | go_big_quiet_skip | (go_big_quiet_want; go_big_quiet_op; first | go_big_quiet_on | (apply Exists.intro; refine ⟨fun x => ?_, ?_⟩; (· ((first | (go_at_call 54; exact inb_call _ (HPN.out _)) | (go_at_call 28; exact inb_same _ (HPQ.out _)) | (go_at_call 23; exact inb_call _ (HFN.out _ (HB.out.trans (x.property.mono hz))))))); go_big_quiet_on)))); refine wpQuiet_nil ?_; intro _ hw'; obtain ⟨⟨wq, hbq⟩, rfl⟩ := hw'
            have HBQ := Lib.hid hbq
            have hz3 := hbq.size
            clear hbq
            go_wp2_with fail
            go_roundw
            case rel => exact ⟨n + 1, by omega, by go_num, HS.out, HB.out.trans (HBQ.out.mono hz), by omega, by rw [cell_below HBQ.out hz1]; exact HD0.out, by rw [cell_below HBQ.out hz1]; exact HD1.out, by rw [cell_below HBQ.out hz1]; exact HD2.out⟩
            case measure => simp [intOf]; omega
          · have hne : (r3 == (n : Int)) = false := beq_eq_false_iff_ne.2 h3
            have HNE := Lib.hid hne
            clear h3
            refine wp_region_inb (by kernel_rfl) (by kernel_rfl) ?_; (repeat (first | go_big_quiet_skip | (go_big_quiet_want; go_big_quiet_op; first | go_big_quiet_on | (apply Exists.intro; refine ⟨fun x => ?_, ?_⟩; (· ((first | (go_at_call 54; exact inb_call _ (HPN.out _)) | (go_at_call 28; exact inb_same _ (HPQ.out _)) | (go_at_call 23; exact inb_call _ (HFN.out _ (HB.out.trans (x.property.mono hz))))))); go_big_quiet_on)))); refine wpQuiet_nil ?_; intro _ hw'; obtain ⟨⟨wq, hbq⟩, rfl⟩ := hw'
            have HBQ := Lib.hid hbq
            clear hbq
            go_wp2_with fail
            go_ret
            exact ⟨ret_bool (HBD.out (by rw [HO.out, HNE.out]; rfl)).symm, HB.out.trans (HBQ.out.mono hz)⟩
    · obtain rfl : n = l.length := by omega
      have hGE : G = (rt && rs) := by rw [HGL.out, goodP_of H0.out]; rfl
      have HGE := Lib.hid hGE
      clear hGE hb HGL HBAD HF
      cases rt
      · go_wp2_with fail
        refine (HPT.out _).mono ?_
        rintro e w1 ⟨rfl, hb1⟩
        have HB1 := Lib.hid (HB.out.trans (hb1.mono hz))
        clear hb1
        go_wp2_with fail
        go_ret
        exact ⟨ret_bool HGE.out.symm, HB1.out⟩
      · go_wp2_with fail
        refine (HPT.out _).mono ?_
        rintro e w1 ⟨rfl, hb1⟩
        have HB1 := Lib.hid (HB.out.trans (hb1.mono hz))
        have hz2 := hb1.size
        rw [← cell_below hb1 (by omega)] at d0 d1 d2
        clear hb1
        go_wp2_with fail
        refine (HPS.out _).mono ?_
        rintro e w2 ⟨rfl, hb2⟩
        have HB2 := Lib.hid (HB1.out.trans (hb2.mono HB1.out.size))
        clear hb2
        go_wp2_with fail
        go_ret
        exact ⟨ret_bool (by rw [HGE.out]; rfl), HB2.out⟩

end Go.Proofs.Ytigclegknofhmaa
