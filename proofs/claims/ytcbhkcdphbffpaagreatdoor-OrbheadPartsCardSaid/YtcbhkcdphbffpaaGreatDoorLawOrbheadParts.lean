/-
  The walk of the law OrbheadParts. (Printed by genorb.py.)
-/
import Derived.Test.YtcbhkcdphbffpaaGreatDoorM22
namespace Go.Proofs.YtcbhkcdphbffpaaGreatDoor
open Go.RowKit
set_option linter.unusedSimpArgs false
set_option linter.unusedVariables false

theorem strs_new (W : World) (l : List ByteArray) : StrsIn (W.alloc (.cells (rowS l).toArray 9)) (some ⟨W.heap.size, 0, none⟩) l :=
  .inr ⟨W.heap.size, 0, rfl, by simp, fun i hi => by
    rw [cell_of_row _ _ _ _ _ (0, 0) (heap_alloc_new W _)]
    simp [rowS, hi]⟩

set_option maxHeartbeats 8000000 in
set_option maxRecDepth 20000 in
theorem orbheadParts_walk (url : ByteArray) (cr nc : Bool) (md st : Int) (l : Pars) (A : Option Addr) (c : Nat) (w : World) (hT : Tab w) (hu : url.size ≤ maxLen) (hlm : l.length ≤ maxLen) (hps : ∀ p ∈ l, (bt p.1).size ≤ maxLen ∧ (bt p.2).size ≤ maxLen) (hA : ParsIn w w.heap.size A l) :
    Calls Tryz.prog 5 #[askV url cr nc md, repV st A l.length c] w fun e w' => e = .returned (.bool true) ∧ Below w.heap.size w w' := by
  have HT := Lib.hid (fun (w1 : World) (hb : Below w.heap.size w w1) => hT.on hb)
  have HF := Lib.hid (fun (w1 : World) (hb : Below w.heap.size w w1) => Few30_any st l A c w1 hlm hps (hA.on hb))
  have HG0 := Lib.hid (fun (w1 : World) => Guarded30_any url cr nc md w1)
  have hf := fewHs_fewP l
  have hid := fewHs_idem 8 l
  generalize l.length = nl at *
  generalize fewHs 8 l = L at *
  have hfn := hf.n
  have hfb := fewR_big (fewP_fewR hf)
  clear hT hu hlm hps hA
  have K0 := Kp.box2 w (askO url cr nc md) (repO st A nl c)
  unfold askO repO at K0
  unfold askV at HG0
  unfold repV at HF
  unfold askV repV
  go_enter Tryz.func5, Tryz.ntmps5
  go_upto_region 1 with fail
  generalize (w.alloc (.cells #[.string url, .bool cr, .bool nc, .int .i64 md] 23)).alloc (.cells #[.int .i64 st, .slice A nl c] 26) = W at *
  obtain ⟨r0, r1, -, rz⟩ := rep_cells K0.h0
  go_wp2_with fail
  refine (HF.out W K0.b).mono ?_
  rintro e w1 ⟨A3, c3, rfl, hA2, hbn, hfr⟩
  have HFR := Lib.hid (show ∀ g, A3 = some ⟨g, 0, none⟩ → w.heap.size + 1 < g from fun g hg => by have h1 := hfr g hg; omega)
  have K := K0.on hbn
  clear r0 r1 rz K0 hbn hfr HF
  obtain ⟨r0, r1, rf, rz⟩ := rep_cells K.h0
  go_upto_region 2 with fail
  have e2 : ∀ g, A3 = some ⟨g, 0, none⟩ → w.heap.size + 1 ≠ g := fun g hg => by have := HFR.out g hg; omega
  have hA3 : ParsAt ((w1.setCell ⟨w.heap.size + 1, 0, none⟩ (.int .i64 st)).setCell ⟨w.heap.size + 1, 1, none⟩ (.slice A3 L.length c3)) ((w1.setCell ⟨w.heap.size + 1, 0, none⟩ (.int .i64 st)).setCell ⟨w.heap.size + 1, 1, none⟩ (.slice A3 L.length c3)).heap.size A3 L := ((hA2.put1 e2 _).put1 e2 _).more (by simp)
  have hK3 : Kp w ((w1.setCell ⟨w.heap.size + 1, 0, none⟩ (.int .i64 st)).setCell ⟨w.heap.size + 1, 1, none⟩ (.slice A3 L.length c3)) [(w.heap.size + 1, repO st A3 L.length c3), (w.heap.size, askO url cr nc md)] :=
    ⟨(K.b.setCell (by simp) _).setCell (by simp) _, fun p hp => by
      rcases List.mem_cons.1 hp with rfl | hp
      · exact rep_put K.h0
      · rcases List.mem_cons.1 hp with rfl | hp
        · exact heap_off1 (by simp) (heap_off1 (by simp) K.tl.h0)
        · cases hp⟩
  generalize (w1.setCell ⟨w.heap.size + 1, 0, none⟩ (.int .i64 st)).setCell ⟨w.heap.size + 1, 1, none⟩ (.slice A3 L.length c3) = V at *
  clear r0 r1 rf rz K hA2 e2 HFR
  have HA3 := Lib.hid hA3
  have HF2 := Lib.hid (fun (w1 : World) (hb : Below V.heap.size V w1) => Few30_any st L A3 c3 w1 (by unfold maxLen; omega) hfb (HA3.out.on hb).isIn)
  rw [hid] at HF2
  have HK3 := Lib.hid hK3
  have HI1 := Lib.hid (fun (A1 : Option Addr) (c1 : Nat) (w1 : World) (h1 : ParsAt w1 w1.heap.size A1 L) => First30_any st L A1 c1 w1 (fewP_fewR hf) h1.isIn)
  have HI2 := Lib.hid (fun (w1 : World) (hb : Below V.heap.size V w1) => rFirst30_any st L A3 c3 w1 (fewP_fewR hf) (HA3.out.on hb).isIn)
  have HP1 := Lib.hid (fun (A1 : Option Addr) (c1 : Nat) (w1 : World) (h1 : ParsAt w1 w1.heap.size A1 L) => Plain30_any st L A1 c1 w1 hf h1.isIn)
  have HP2 := Lib.hid (fun (w1 : World) (hb : Below V.heap.size V w1) => rPlain30_any st L A3 c3 w1 hf (HA3.out.on hb).isIn)
  have HRE := Lib.hid (fun (w1 : World) (hb : Below V.heap.size V w1) => Reasons_any w1 (HT.out w1 (HK3.out.on hb).b))
  unfold GivesStrs at HRE
  generalize firstL L = fb at *
  generalize plainL L = pb at *
  unfold repV at HF2 HI1 HI2 HP1 HP2
  obtain ⟨r0, r1, -, rz⟩ := rep_cells HK3.out.h0
  obtain ⟨a0, a1, a2, a3, -, az⟩ := ask_cells HK3.out.tl.h0
  have HB_0 := Lib.hid (show Below V.heap.size V V.drew from (Below.refl _ _).drew)
  clear hA3 hK3 hf hid hfn hfb
  cases cr
  · have HG : Hid (∀ w1 : World, Calls Tryz.prog 13 #[.agg #[.string url, .bool false, .bool nc, .int .i64 md]] w1 fun e w' => e = .returned (.bool false) ∧ Below w1.heap.size w1 w') := Lib.hid HG0.out
    clear HG0
    refine wp_region_N 43 (fun w' => w'.cell? ⟨w.heap.size, 0, none⟩ = some (.string url) ∧ w'.cell? ⟨w.heap.size, 1, none⟩ = some (.bool false) ∧ w'.cell? ⟨w.heap.size, 2, none⟩ = some (.bool nc) ∧ w'.cell? ⟨w.heap.size, 3, none⟩ = some (.int .i64 md) ∧ w'.cell? ⟨w.heap.size + 1, 0, none⟩ = some (.int .i64 st) ∧ w'.cell? ⟨w.heap.size + 1, 1, none⟩ = some (.slice A3 L.length c3)) (by kernel_rfl) (by kernel_rfl) ⟨a0, a1, a2, a3, r0, r1⟩ ?_
    (refine NJ.take (i := 0) (v := ?_) rfl rfl (by kernel_rfl) (by kernel_rfl) (by kernel_rfl) (by kernel_rfl) (fun _ _ _ h => h) (Or.inl ⟨by rfl, ?_⟩) ?_; rotate_left; (focus (intro wS hSw; (try dsimp only at hSw); go_simp; first | done | with_reducible rfl)); (try simp only [Act.put, List.getElem_toArray, List.getElem_cons_zero, List.getElem_cons_succ, List.setIfInBounds_toArray, List.set_cons_zero, List.set_cons_succ]))
    (refine NJ.take (i := 2) (v := ?_) rfl rfl (by kernel_rfl) (by kernel_rfl) (by kernel_rfl) (by kernel_rfl) (fun _ _ _ h => h) (Or.inl ⟨by rfl, ?_⟩) ?_; rotate_left; (focus (intro wS hSw; (try dsimp only at hSw); go_simp; first | done | with_reducible rfl)); (try simp only [Act.put, List.getElem_toArray, List.getElem_cons_zero, List.getElem_cons_succ, List.setIfInBounds_toArray, List.set_cons_zero, List.set_cons_succ]))
    (refine NJ.take (i := 3) (v := ?_) rfl rfl (by kernel_rfl) (by kernel_rfl) (by kernel_rfl) (by kernel_rfl) (fun _ _ _ h => h) (Or.inl ⟨by rfl, ?_⟩) ?_; rotate_left; (focus (intro wS hSw; (try dsimp only at hSw); go_simp; first | done | with_reducible rfl)); (try simp only [Act.put, List.getElem_toArray, List.getElem_cons_zero, List.getElem_cons_succ, List.setIfInBounds_toArray, List.set_cons_zero, List.set_cons_succ]))
    refine NJ.step (i := 1) rfl rfl (by kernel_rfl) (fun hSat K hK => ?_)
    go_simp
    refine Calls.mono (HG.out _) ?_
    rintro e w1 ⟨rfl, hb⟩
    have hbn := HB_0.out.trans (hb.mono HB_0.out.size)
    have HB_w1 := Lib.hid hbn
    clear hb
    go_wp2_with fail
    refine hK.out _ _ ?_ ?_
    · exact ⟨(cell_below hbn az).trans a0, (cell_below hbn az).trans a1, (cell_below hbn az).trans a2, (cell_below hbn az).trans a3, (cell_below hbn rz).trans r0, (cell_below hbn rz).trans r1⟩
    clear hK hSat K
    (try simp only [Act.put, List.getElem_toArray, List.getElem_cons_zero, List.getElem_cons_succ, List.setIfInBounds_toArray, List.set_cons_zero, List.set_cons_succ])
    clear hbn
    (refine NJ.take (i := 4) (v := ?_) rfl rfl (by kernel_rfl) (by kernel_rfl) (by kernel_rfl) (by kernel_rfl) (fun _ _ _ h => h) (Or.inl ⟨by rfl, ?_⟩) ?_; rotate_left; (focus (intro wS hSw; (try dsimp only at hSw); go_simp; first | done | with_reducible rfl)); (try simp only [Act.put, List.getElem_toArray, List.getElem_cons_zero, List.getElem_cons_succ, List.setIfInBounds_toArray, List.set_cons_zero, List.set_cons_succ]))
    (refine NJ.take (i := 5) (v := undef) rfl rfl (by kernel_rfl) (by kernel_rfl) (by kernel_rfl) (by kernel_rfl) (fun _ _ _ h => h) (Or.inr ⟨by rfl, rfl⟩) ?_; (try simp only [Act.put, List.getElem_toArray, List.getElem_cons_zero, List.getElem_cons_succ, List.setIfInBounds_toArray, List.set_cons_zero, List.set_cons_succ]))
    (refine NJ.take (i := 6) (v := undef) rfl rfl (by kernel_rfl) (by kernel_rfl) (by kernel_rfl) (by kernel_rfl) (fun _ _ _ h => h) (Or.inr ⟨by rfl, rfl⟩) ?_; (try simp only [Act.put, List.getElem_toArray, List.getElem_cons_zero, List.getElem_cons_succ, List.setIfInBounds_toArray, List.set_cons_zero, List.set_cons_succ]))
    (refine NJ.take (i := 7) (v := ?_) rfl rfl (by kernel_rfl) (by kernel_rfl) (by kernel_rfl) (by kernel_rfl) (fun _ _ _ h => h) (Or.inl ⟨by rfl, ?_⟩) ?_; rotate_left; (focus (intro wS hSw; (try dsimp only at hSw); go_simp; first | done | with_reducible rfl)); (try simp only [Act.put, List.getElem_toArray, List.getElem_cons_zero, List.getElem_cons_succ, List.setIfInBounds_toArray, List.set_cons_zero, List.set_cons_succ]))
    (refine NJ.take (i := 8) (v := ?_) rfl rfl (by kernel_rfl) (by kernel_rfl) (by kernel_rfl) (by kernel_rfl) (fun _ _ _ h => h) (Or.inl ⟨by rfl, ?_⟩) ?_; rotate_left; (focus (intro wS hSw; (try dsimp only at hSw); go_simp; first | done | with_reducible rfl)); (try simp only [Act.put, List.getElem_toArray, List.getElem_cons_zero, List.getElem_cons_succ, List.setIfInBounds_toArray, List.set_cons_zero, List.set_cons_succ]))
    (refine NJ.take (i := 9) (v := ?_) rfl rfl (by kernel_rfl) (by kernel_rfl) (by kernel_rfl) (by kernel_rfl) (fun _ _ _ h => h) (Or.inl ⟨by rfl, ?_⟩) ?_; rotate_left; (focus (intro wS hSw; (try dsimp only at hSw); go_simp; first | done | with_reducible rfl)); (try simp only [Act.put, List.getElem_toArray, List.getElem_cons_zero, List.getElem_cons_succ, List.setIfInBounds_toArray, List.set_cons_zero, List.set_cons_succ]))
    (refine NJ.take (i := 10) (v := ?_) rfl rfl (by kernel_rfl) (by kernel_rfl) (by kernel_rfl) (by kernel_rfl) (fun _ _ _ h => h) (Or.inl ⟨by rfl, ?_⟩) ?_; rotate_left; (focus (intro wS hSw; (try dsimp only at hSw); go_simp; first | done | with_reducible rfl)); (try simp only [Act.put, List.getElem_toArray, List.getElem_cons_zero, List.getElem_cons_succ, List.setIfInBounds_toArray, List.set_cons_zero, List.set_cons_succ]))
    (refine NJ.take (i := 13) (v := ?_) rfl rfl (by kernel_rfl) (by kernel_rfl) (by kernel_rfl) (by kernel_rfl) (fun _ _ _ h => h) (Or.inl ⟨by rfl, ?_⟩) ?_; rotate_left; (focus (intro wS hSw; (try dsimp only at hSw); go_simp; first | done | with_reducible rfl)); (try simp only [Act.put, List.getElem_toArray, List.getElem_cons_zero, List.getElem_cons_succ, List.setIfInBounds_toArray, List.set_cons_zero, List.set_cons_succ]))
    (refine NJ.take (i := 14) (v := ?_) rfl rfl (by kernel_rfl) (by kernel_rfl) (by kernel_rfl) (by kernel_rfl) (fun _ _ _ h => h) (Or.inl ⟨by rfl, ?_⟩) ?_; rotate_left; (focus (intro wS hSw; (try dsimp only at hSw); go_simp; first | done | with_reducible rfl)); (try simp only [Act.put, List.getElem_toArray, List.getElem_cons_zero, List.getElem_cons_succ, List.setIfInBounds_toArray, List.set_cons_zero, List.set_cons_succ]))
    (refine NJ.take (i := 15) (v := ?_) rfl rfl (by kernel_rfl) (by kernel_rfl) (by kernel_rfl) (by kernel_rfl) (fun _ _ _ h => h) (Or.inl ⟨by rfl, ?_⟩) ?_; rotate_left; (focus (intro wS hSw; (try dsimp only at hSw); go_simp; first | done | with_reducible rfl)); (try simp only [Act.put, List.getElem_toArray, List.getElem_cons_zero, List.getElem_cons_succ, List.setIfInBounds_toArray, List.set_cons_zero, List.set_cons_succ]))
    refine NJ.step (i := 11) rfl rfl (by kernel_rfl) (fun hSat K hK => ?_)
    go_simp
    refine Calls.mono (HF2.out _ HB_w1.out) ?_
    rintro e w2 ⟨X1, x1, rfl, hx1, hb, -⟩
    have hbn := HB_w1.out.trans (hb.mono HB_w1.out.size)
    have HB_w2 := Lib.hid hbn
    have HX1 := Lib.hid hx1
    clear hx1
    clear hb
    go_wp2_with fail
    refine hK.out _ _ ?_ ?_
    · exact ⟨(cell_below hbn az).trans a0, (cell_below hbn az).trans a1, (cell_below hbn az).trans a2, (cell_below hbn az).trans a3, (cell_below hbn rz).trans r0, (cell_below hbn rz).trans r1⟩
    clear hK hSat K
    (try simp only [Act.put, List.getElem_toArray, List.getElem_cons_zero, List.getElem_cons_succ, List.setIfInBounds_toArray, List.set_cons_zero, List.set_cons_succ])
    clear hbn
    refine NJ.step (i := 12) rfl rfl (by kernel_rfl) (fun hSat K hK => ?_)
    go_simp
    refine Calls.mono (Partial30_any st X1 _ x1 _) ?_
    rintro e w3 ⟨rfl, hb⟩
    have hbn := HB_w2.out.trans (hb.mono HB_w2.out.size)
    have HB_w3 := Lib.hid hbn
    clear hb
    go_wp2_with fail
    refine hK.out _ _ ?_ ?_
    · exact ⟨(cell_below hbn az).trans a0, (cell_below hbn az).trans a1, (cell_below hbn az).trans a2, (cell_below hbn az).trans a3, (cell_below hbn rz).trans r0, (cell_below hbn rz).trans r1⟩
    clear hK hSat K
    (try simp only [Act.put, List.getElem_toArray, List.getElem_cons_zero, List.getElem_cons_succ, List.setIfInBounds_toArray, List.set_cons_zero, List.set_cons_succ])
    clear hbn
    (refine NJ.take (i := 16) (v := ?_) rfl rfl (by kernel_rfl) (by kernel_rfl) (by kernel_rfl) (by kernel_rfl) (fun _ _ _ h => h) (Or.inl ⟨by rfl, ?_⟩) ?_; rotate_left; (focus (intro wS hSw; (try dsimp only at hSw); go_simp; first | done | with_reducible rfl)); (try simp only [Act.put, List.getElem_toArray, List.getElem_cons_zero, List.getElem_cons_succ, List.setIfInBounds_toArray, List.set_cons_zero, List.set_cons_succ]))
    (refine NJ.take (i := 17) (v := ?_) rfl rfl (by kernel_rfl) (by kernel_rfl) (by kernel_rfl) (by kernel_rfl) (fun _ _ _ h => h) (Or.inl ⟨by rfl, ?_⟩) ?_; rotate_left; (focus (intro wS hSw; (try dsimp only at hSw); go_simp; first | done | with_reducible rfl)); (try simp only [Act.put, List.getElem_toArray, List.getElem_cons_zero, List.getElem_cons_succ, List.setIfInBounds_toArray, List.set_cons_zero, List.set_cons_succ]))
    (refine NJ.take (i := 18) (v := ?_) rfl rfl (by kernel_rfl) (by kernel_rfl) (by kernel_rfl) (by kernel_rfl) (fun _ _ _ h => h) (Or.inl ⟨by rfl, ?_⟩) ?_; rotate_left; (focus (intro wS hSw; (try dsimp only at hSw); go_simp; first | done | with_reducible rfl)); (try simp only [Act.put, List.getElem_toArray, List.getElem_cons_zero, List.getElem_cons_succ, List.setIfInBounds_toArray, List.set_cons_zero, List.set_cons_succ]))
    (refine NJ.take (i := 19) (v := ?_) rfl rfl (by kernel_rfl) (by kernel_rfl) (by kernel_rfl) (by kernel_rfl) (fun _ _ _ h => h) (Or.inl ⟨by rfl, ?_⟩) ?_; rotate_left; (focus (intro wS hSw; (try dsimp only at hSw); go_simp; first | done | with_reducible rfl)); (try simp only [Act.put, List.getElem_toArray, List.getElem_cons_zero, List.getElem_cons_succ, List.setIfInBounds_toArray, List.set_cons_zero, List.set_cons_succ]))
    (refine NJ.take (i := 22) (v := ?_) rfl rfl (by kernel_rfl) (by kernel_rfl) (by kernel_rfl) (by kernel_rfl) (fun _ _ _ h => h) (Or.inl ⟨by rfl, ?_⟩) ?_; rotate_left; (focus (intro wS hSw; (try dsimp only at hSw); go_simp; first | done | with_reducible rfl)); (try simp only [Act.put, List.getElem_toArray, List.getElem_cons_zero, List.getElem_cons_succ, List.setIfInBounds_toArray, List.set_cons_zero, List.set_cons_succ]))
    refine NJ.step (i := 20) rfl rfl (by kernel_rfl) (fun hSat K hK => ?_)
    go_simp
    refine Calls.mono (HF2.out _ HB_w3.out) ?_
    rintro e w4 ⟨X2, x2, rfl, hx2, hb, -⟩
    have hbn := HB_w3.out.trans (hb.mono HB_w3.out.size)
    have HB_w4 := Lib.hid hbn
    have HX2 := Lib.hid hx2
    clear hx2
    clear hb
    go_wp2_with fail
    refine hK.out _ _ ?_ ?_
    · exact ⟨(cell_below hbn az).trans a0, (cell_below hbn az).trans a1, (cell_below hbn az).trans a2, (cell_below hbn az).trans a3, (cell_below hbn rz).trans r0, (cell_below hbn rz).trans r1⟩
    clear hK hSat K
    (try simp only [Act.put, List.getElem_toArray, List.getElem_cons_zero, List.getElem_cons_succ, List.setIfInBounds_toArray, List.set_cons_zero, List.set_cons_succ])
    clear hbn
    refine NJ.step (i := 21) rfl rfl (by kernel_rfl) (fun hSat K hK => ?_)
    go_simp
    refine Calls.mono (HI1.out _ _ _ HX2.out) ?_
    rintro e w5 ⟨rfl, hb⟩
    have hbn := HB_w4.out.trans (hb.mono HB_w4.out.size)
    have HB_w5 := Lib.hid hbn
    clear hb
    go_wp2_with fail
    refine hK.out _ _ ?_ ?_
    · exact ⟨(cell_below hbn az).trans a0, (cell_below hbn az).trans a1, (cell_below hbn az).trans a2, (cell_below hbn az).trans a3, (cell_below hbn rz).trans r0, (cell_below hbn rz).trans r1⟩
    clear hK hSat K
    (try simp only [Act.put, List.getElem_toArray, List.getElem_cons_zero, List.getElem_cons_succ, List.setIfInBounds_toArray, List.set_cons_zero, List.set_cons_succ])
    clear hbn
    refine NJ.step (i := 23) rfl rfl (by kernel_rfl) (fun hSat K hK => ?_)
    go_simp
    refine Calls.mono (HI2.out _ HB_w5.out) ?_
    rintro e w6 ⟨rfl, hb⟩
    have hbn := HB_w5.out.trans (hb.mono HB_w5.out.size)
    have HB_w6 := Lib.hid hbn
    clear hb
    go_wp2_with fail
    refine hK.out _ _ ?_ ?_
    · exact ⟨(cell_below hbn az).trans a0, (cell_below hbn az).trans a1, (cell_below hbn az).trans a2, (cell_below hbn az).trans a3, (cell_below hbn rz).trans r0, (cell_below hbn rz).trans r1⟩
    clear hK hSat K
    (try simp only [Act.put, List.getElem_toArray, List.getElem_cons_zero, List.getElem_cons_succ, List.setIfInBounds_toArray, List.set_cons_zero, List.set_cons_succ])
    clear hbn
    (refine NJ.take (i := 24) (v := ?_) rfl rfl (by kernel_rfl) (by kernel_rfl) (by kernel_rfl) (by kernel_rfl) (fun _ _ _ h => h) (Or.inl ⟨by rfl, ?_⟩) ?_; rotate_left; (focus (intro wS hSw; (try dsimp only at hSw); go_simp; first | done | with_reducible rfl)); (try simp only [Act.put, List.getElem_toArray, List.getElem_cons_zero, List.getElem_cons_succ, List.setIfInBounds_toArray, List.set_cons_zero, List.set_cons_succ]))
    (refine NJ.take (i := 25) (v := ?_) rfl rfl (by kernel_rfl) (by kernel_rfl) (by kernel_rfl) (by kernel_rfl) (fun _ _ _ h => h) (Or.inl ⟨by rfl, ?_⟩) ?_; rotate_left; (focus (intro wS hSw; (try dsimp only at hSw); go_simp; first | done | with_reducible rfl)); (try simp only [Act.put, List.getElem_toArray, List.getElem_cons_zero, List.getElem_cons_succ, List.setIfInBounds_toArray, List.set_cons_zero, List.set_cons_succ]))
    (refine NJ.take (i := 26) (v := ?_) rfl rfl (by kernel_rfl) (by kernel_rfl) (by kernel_rfl) (by kernel_rfl) (fun _ _ _ h => h) (Or.inl ⟨by rfl, ?_⟩) ?_; rotate_left; (focus (intro wS hSw; (try dsimp only at hSw); go_simp; first | done | with_reducible rfl)); (try simp only [Act.put, List.getElem_toArray, List.getElem_cons_zero, List.getElem_cons_succ, List.setIfInBounds_toArray, List.set_cons_zero, List.set_cons_succ]))
    (refine NJ.take (i := 27) (v := ?_) rfl rfl (by kernel_rfl) (by kernel_rfl) (by kernel_rfl) (by kernel_rfl) (fun _ _ _ h => h) (Or.inl ⟨by rfl, ?_⟩) ?_; rotate_left; (focus (intro wS hSw; (try dsimp only at hSw); go_simp; first | done | with_reducible rfl)); (try simp only [Act.put, List.getElem_toArray, List.getElem_cons_zero, List.getElem_cons_succ, List.setIfInBounds_toArray, List.set_cons_zero, List.set_cons_succ]))
    (refine NJ.take (i := 30) (v := ?_) rfl rfl (by kernel_rfl) (by kernel_rfl) (by kernel_rfl) (by kernel_rfl) (fun _ _ _ h => h) (Or.inl ⟨by rfl, ?_⟩) ?_; rotate_left; (focus (intro wS hSw; (try dsimp only at hSw); go_simp; first | done | with_reducible rfl)); (try simp only [Act.put, List.getElem_toArray, List.getElem_cons_zero, List.getElem_cons_succ, List.setIfInBounds_toArray, List.set_cons_zero, List.set_cons_succ]))
    refine NJ.step (i := 28) rfl rfl (by kernel_rfl) (fun hSat K hK => ?_)
    go_simp
    refine Calls.mono (HF2.out _ HB_w6.out) ?_
    rintro e w7 ⟨X3, x3, rfl, hx3, hb, -⟩
    have hbn := HB_w6.out.trans (hb.mono HB_w6.out.size)
    have HB_w7 := Lib.hid hbn
    have HX3 := Lib.hid hx3
    clear hx3
    clear hb
    go_wp2_with fail
    refine hK.out _ _ ?_ ?_
    · exact ⟨(cell_below hbn az).trans a0, (cell_below hbn az).trans a1, (cell_below hbn az).trans a2, (cell_below hbn az).trans a3, (cell_below hbn rz).trans r0, (cell_below hbn rz).trans r1⟩
    clear hK hSat K
    (try simp only [Act.put, List.getElem_toArray, List.getElem_cons_zero, List.getElem_cons_succ, List.setIfInBounds_toArray, List.set_cons_zero, List.set_cons_succ])
    clear hbn
    refine NJ.step (i := 29) rfl rfl (by kernel_rfl) (fun hSat K hK => ?_)
    go_simp
    refine Calls.mono (HP1.out _ _ _ HX3.out) ?_
    rintro e w8 ⟨rfl, hb⟩
    have hbn := HB_w7.out.trans (hb.mono HB_w7.out.size)
    have HB_w8 := Lib.hid hbn
    clear hb
    go_wp2_with fail
    refine hK.out _ _ ?_ ?_
    · exact ⟨(cell_below hbn az).trans a0, (cell_below hbn az).trans a1, (cell_below hbn az).trans a2, (cell_below hbn az).trans a3, (cell_below hbn rz).trans r0, (cell_below hbn rz).trans r1⟩
    clear hK hSat K
    (try simp only [Act.put, List.getElem_toArray, List.getElem_cons_zero, List.getElem_cons_succ, List.setIfInBounds_toArray, List.set_cons_zero, List.set_cons_succ])
    clear hbn
    refine NJ.step (i := 31) rfl rfl (by kernel_rfl) (fun hSat K hK => ?_)
    go_simp
    refine Calls.mono (HP2.out _ HB_w8.out) ?_
    rintro e w9 ⟨rfl, hb⟩
    have hbn := HB_w8.out.trans (hb.mono HB_w8.out.size)
    have HB_w9 := Lib.hid hbn
    clear hb
    go_wp2_with fail
    refine hK.out _ _ ?_ ?_
    · exact ⟨(cell_below hbn az).trans a0, (cell_below hbn az).trans a1, (cell_below hbn az).trans a2, (cell_below hbn az).trans a3, (cell_below hbn rz).trans r0, (cell_below hbn rz).trans r1⟩
    clear hK hSat K
    (try simp only [Act.put, List.getElem_toArray, List.getElem_cons_zero, List.getElem_cons_succ, List.setIfInBounds_toArray, List.set_cons_zero, List.set_cons_succ])
    clear hbn
    (refine NJ.take (i := 32) (v := ?_) rfl rfl (by kernel_rfl) (by kernel_rfl) (by kernel_rfl) (by kernel_rfl) (fun _ _ _ h => h) (Or.inl ⟨by rfl, ?_⟩) ?_; rotate_left; (focus (intro wS hSw; (try dsimp only at hSw); go_simp; first | done | with_reducible rfl)); (try simp only [Act.put, List.getElem_toArray, List.getElem_cons_zero, List.getElem_cons_succ, List.setIfInBounds_toArray, List.set_cons_zero, List.set_cons_succ]))
    (refine NJ.take (i := 33) (v := ?_) rfl rfl (by kernel_rfl) (by kernel_rfl) (by kernel_rfl) (by kernel_rfl) (fun _ _ _ h => h) (Or.inl ⟨by rfl, ?_⟩) ?_; rotate_left; (focus (intro wS hSw; (try dsimp only at hSw); go_simp; first | done | with_reducible rfl)); (try simp only [Act.put, List.getElem_toArray, List.getElem_cons_zero, List.getElem_cons_succ, List.setIfInBounds_toArray, List.set_cons_zero, List.set_cons_succ]))
    (refine NJ.take (i := 34) (v := ?_) rfl rfl (by kernel_rfl) (by kernel_rfl) (by kernel_rfl) (by kernel_rfl) (fun _ _ _ h => h) (Or.inl ⟨by rfl, ?_⟩) ?_; rotate_left; (focus (intro wS hSw; (try dsimp only at hSw); go_simp; first | done | with_reducible rfl)); (try simp only [Act.put, List.getElem_toArray, List.getElem_cons_zero, List.getElem_cons_succ, List.setIfInBounds_toArray, List.set_cons_zero, List.set_cons_succ]))
    refine NJ.two (i := 35) (j := 36) (by kernel_rfl) ⟨_, rfl, rfl, fun hSat K hK => ?_⟩ ⟨_, rfl, rfl, fun hSat K hK => ?_⟩
    · go_simp
      refine Calls.mono (HRE.out _ HB_w9.out) ?_
      rintro e wR ⟨R1, q1, rfl, hr1, hb⟩
      have hbn := HB_w9.out.trans (hb.mono HB_w9.out.size)
      have HB_wR := Lib.hid hbn
      have HR1 := Lib.hid hr1
      clear hb hr1
      go_wp2_with fail
      refine hK.out _ _ ?_ ?_
      · exact ⟨(cell_below hbn az).trans a0, (cell_below hbn az).trans a1, (cell_below hbn az).trans a2, (cell_below hbn az).trans a3, (cell_below hbn rz).trans r0, (cell_below hbn rz).trans r1⟩
      clear hK hSat K
      (try simp only [Act.put, List.getElem_toArray, List.getElem_cons_zero, List.getElem_cons_succ, List.setIfInBounds_toArray, List.set_cons_zero, List.set_cons_succ])
      clear hbn
      refine NJ.step (i := 36) rfl rfl (by kernel_rfl) (fun hSat K hK => ?_)
      go_simp
      have hb := below_box wR (.cells (rowS reasonsL).toArray 9)
      have hbn := HB_wR.out.trans (hb.mono HB_wR.out.size)
      have HB_wB := Lib.hid hbn
      have HR2 := Lib.hid (strs_new wR reasonsL)
      replace HR1 := Lib.hid (HR1.out.below hb)
      clear hb
      refine hK.out _ _ ?_ ?_
      · exact ⟨(cell_below hbn az).trans a0, (cell_below hbn az).trans a1, (cell_below hbn az).trans a2, (cell_below hbn az).trans a3, (cell_below hbn rz).trans r0, (cell_below hbn rz).trans r1⟩
      clear hK hSat K
      (try simp only [Act.put, List.getElem_toArray, List.getElem_cons_zero, List.getElem_cons_succ, List.setIfInBounds_toArray, List.set_cons_zero, List.set_cons_succ])
      clear hbn
      refine NJ.step (i := 37) rfl rfl (by kernel_rfl) (fun hSat K hK => ?_)
      go_simp
      refine Calls.mono (rSame_strs reasonsL _ _ _ _ _ (by unfold maxLen; decide) HR1.out HR2.out) ?_
      rintro e wS ⟨rfl, hb⟩
      have hbn := HB_wB.out.trans (hb.mono HB_wB.out.size)
      have HB_wS := Lib.hid hbn
      clear hb
      go_wp2_with fail
      refine hK.out _ _ ?_ ?_
      · exact ⟨(cell_below hbn az).trans a0, (cell_below hbn az).trans a1, (cell_below hbn az).trans a2, (cell_below hbn az).trans a3, (cell_below hbn rz).trans r0, (cell_below hbn rz).trans r1⟩
      clear hK hSat K
      (try simp only [Act.put, List.getElem_toArray, List.getElem_cons_zero, List.getElem_cons_succ, List.setIfInBounds_toArray, List.set_cons_zero, List.set_cons_succ])
      clear hbn
      (refine NJ.take (i := 38) (v := ?_) rfl rfl (by kernel_rfl) (by kernel_rfl) (by kernel_rfl) (by kernel_rfl) (fun _ _ _ h => h) (Or.inl ⟨by rfl, ?_⟩) ?_; rotate_left; (focus (intro wS hSw; (try dsimp only at hSw); go_simp; first | done | with_reducible rfl)); (try simp only [Act.put, List.getElem_toArray, List.getElem_cons_zero, List.getElem_cons_succ, List.setIfInBounds_toArray, List.set_cons_zero, List.set_cons_succ]))
      (refine NJ.take (i := 39) (v := ?_) rfl rfl (by kernel_rfl) (by kernel_rfl) (by kernel_rfl) (by kernel_rfl) (fun _ _ _ h => h) (Or.inl ⟨by rfl, ?_⟩) ?_; rotate_left; (focus (intro wS hSw; (try dsimp only at hSw); go_simp; first | done | with_reducible rfl)); (try simp only [Act.put, List.getElem_toArray, List.getElem_cons_zero, List.getElem_cons_succ, List.setIfInBounds_toArray, List.set_cons_zero, List.set_cons_succ]))
      refine NJ.step (i := 40) rfl rfl (by kernel_rfl) (fun hSat K hK => ?_)
      go_simp
      refine Calls.mono (lives30_any _ (HT.out _ (HK3.out.on HB_wS.out).b)) ?_
      rintro e wZ ⟨rfl, hb⟩
      have hbn := HB_wS.out.trans (hb.mono HB_wS.out.size)
      have HB_wZ := Lib.hid hbn
      clear hb
      go_wp2_with fail
      refine hK.out _ _ ?_ ?_
      · exact ⟨(cell_below hbn az).trans a0, (cell_below hbn az).trans a1, (cell_below hbn az).trans a2, (cell_below hbn az).trans a3, (cell_below hbn rz).trans r0, (cell_below hbn rz).trans r1⟩
      clear hK hSat K
      (try simp only [Act.put, List.getElem_toArray, List.getElem_cons_zero, List.getElem_cons_succ, List.setIfInBounds_toArray, List.set_cons_zero, List.set_cons_succ])
      clear hbn
      (refine NJ.take (i := 41) (v := ?_) rfl rfl (by kernel_rfl) (by kernel_rfl) (by kernel_rfl) (by kernel_rfl) (fun _ _ _ h => h) (Or.inl ⟨by rfl, ?_⟩) ?_; rotate_left; (focus (intro wS hSw; (try dsimp only at hSw); go_simp; first | done | with_reducible rfl)); (try simp only [Act.put, List.getElem_toArray, List.getElem_cons_zero, List.getElem_cons_succ, List.setIfInBounds_toArray, List.set_cons_zero, List.set_cons_succ]))
      (refine NJ.take (i := 42) (v := ?_) rfl rfl (by kernel_rfl) (by kernel_rfl) (by kernel_rfl) (by kernel_rfl) (fun _ _ _ h => h) (Or.inl ⟨by rfl, ?_⟩) ?_; rotate_left; (focus (intro wS hSw; (try dsimp only at hSw); go_simp; first | done | with_reducible rfl)); (try simp only [Act.put, List.getElem_toArray, List.getElem_cons_zero, List.getElem_cons_succ, List.setIfInBounds_toArray, List.set_cons_zero, List.set_cons_succ]))
      refine NJ.done (by kernel_rfl) (fun hSat => ?_)
      clear hSat
      go_wp2_with fail
      go_ret
      exact ⟨by simp, (HK3.out.on HB_wZ.out).b⟩
    · go_simp
      have hb := below_box w9 (.cells (rowS reasonsL).toArray 9)
      have hbn := HB_w9.out.trans (hb.mono HB_w9.out.size)
      have HB_wB := Lib.hid hbn
      have HR2 := Lib.hid (strs_new w9 reasonsL)
      clear hb
      refine hK.out _ _ ?_ ?_
      · exact ⟨(cell_below hbn az).trans a0, (cell_below hbn az).trans a1, (cell_below hbn az).trans a2, (cell_below hbn az).trans a3, (cell_below hbn rz).trans r0, (cell_below hbn rz).trans r1⟩
      clear hK hSat K
      (try simp only [Act.put, List.getElem_toArray, List.getElem_cons_zero, List.getElem_cons_succ, List.setIfInBounds_toArray, List.set_cons_zero, List.set_cons_succ])
      clear hbn
      refine NJ.step (i := 35) rfl rfl (by kernel_rfl) (fun hSat K hK => ?_)
      go_simp
      refine Calls.mono (HRE.out _ HB_wB.out) ?_
      rintro e wR ⟨R1, q1, rfl, hr1, hb⟩
      have hbn := HB_wB.out.trans (hb.mono HB_wB.out.size)
      have HB_wR := Lib.hid hbn
      have HR1 := Lib.hid hr1
      replace HR2 := Lib.hid (HR2.out.below hb)
      clear hb hr1
      go_wp2_with fail
      refine hK.out _ _ ?_ ?_
      · exact ⟨(cell_below hbn az).trans a0, (cell_below hbn az).trans a1, (cell_below hbn az).trans a2, (cell_below hbn az).trans a3, (cell_below hbn rz).trans r0, (cell_below hbn rz).trans r1⟩
      clear hK hSat K
      (try simp only [Act.put, List.getElem_toArray, List.getElem_cons_zero, List.getElem_cons_succ, List.setIfInBounds_toArray, List.set_cons_zero, List.set_cons_succ])
      clear hbn
      refine NJ.step (i := 37) rfl rfl (by kernel_rfl) (fun hSat K hK => ?_)
      go_simp
      refine Calls.mono (rSame_strs reasonsL _ _ _ _ _ (by unfold maxLen; decide) HR1.out HR2.out) ?_
      rintro e wS ⟨rfl, hb⟩
      have hbn := HB_wR.out.trans (hb.mono HB_wR.out.size)
      have HB_wS := Lib.hid hbn
      clear hb
      go_wp2_with fail
      refine hK.out _ _ ?_ ?_
      · exact ⟨(cell_below hbn az).trans a0, (cell_below hbn az).trans a1, (cell_below hbn az).trans a2, (cell_below hbn az).trans a3, (cell_below hbn rz).trans r0, (cell_below hbn rz).trans r1⟩
      clear hK hSat K
      (try simp only [Act.put, List.getElem_toArray, List.getElem_cons_zero, List.getElem_cons_succ, List.setIfInBounds_toArray, List.set_cons_zero, List.set_cons_succ])
      clear hbn
      (refine NJ.take (i := 38) (v := ?_) rfl rfl (by kernel_rfl) (by kernel_rfl) (by kernel_rfl) (by kernel_rfl) (fun _ _ _ h => h) (Or.inl ⟨by rfl, ?_⟩) ?_; rotate_left; (focus (intro wS hSw; (try dsimp only at hSw); go_simp; first | done | with_reducible rfl)); (try simp only [Act.put, List.getElem_toArray, List.getElem_cons_zero, List.getElem_cons_succ, List.setIfInBounds_toArray, List.set_cons_zero, List.set_cons_succ]))
      (refine NJ.take (i := 39) (v := ?_) rfl rfl (by kernel_rfl) (by kernel_rfl) (by kernel_rfl) (by kernel_rfl) (fun _ _ _ h => h) (Or.inl ⟨by rfl, ?_⟩) ?_; rotate_left; (focus (intro wS hSw; (try dsimp only at hSw); go_simp; first | done | with_reducible rfl)); (try simp only [Act.put, List.getElem_toArray, List.getElem_cons_zero, List.getElem_cons_succ, List.setIfInBounds_toArray, List.set_cons_zero, List.set_cons_succ]))
      refine NJ.step (i := 40) rfl rfl (by kernel_rfl) (fun hSat K hK => ?_)
      go_simp
      refine Calls.mono (lives30_any _ (HT.out _ (HK3.out.on HB_wS.out).b)) ?_
      rintro e wZ ⟨rfl, hb⟩
      have hbn := HB_wS.out.trans (hb.mono HB_wS.out.size)
      have HB_wZ := Lib.hid hbn
      clear hb
      go_wp2_with fail
      refine hK.out _ _ ?_ ?_
      · exact ⟨(cell_below hbn az).trans a0, (cell_below hbn az).trans a1, (cell_below hbn az).trans a2, (cell_below hbn az).trans a3, (cell_below hbn rz).trans r0, (cell_below hbn rz).trans r1⟩
      clear hK hSat K
      (try simp only [Act.put, List.getElem_toArray, List.getElem_cons_zero, List.getElem_cons_succ, List.setIfInBounds_toArray, List.set_cons_zero, List.set_cons_succ])
      clear hbn
      (refine NJ.take (i := 41) (v := ?_) rfl rfl (by kernel_rfl) (by kernel_rfl) (by kernel_rfl) (by kernel_rfl) (fun _ _ _ h => h) (Or.inl ⟨by rfl, ?_⟩) ?_; rotate_left; (focus (intro wS hSw; (try dsimp only at hSw); go_simp; first | done | with_reducible rfl)); (try simp only [Act.put, List.getElem_toArray, List.getElem_cons_zero, List.getElem_cons_succ, List.setIfInBounds_toArray, List.set_cons_zero, List.set_cons_succ]))
      (refine NJ.take (i := 42) (v := ?_) rfl rfl (by kernel_rfl) (by kernel_rfl) (by kernel_rfl) (by kernel_rfl) (fun _ _ _ h => h) (Or.inl ⟨by rfl, ?_⟩) ?_; rotate_left; (focus (intro wS hSw; (try dsimp only at hSw); go_simp; first | done | with_reducible rfl)); (try simp only [Act.put, List.getElem_toArray, List.getElem_cons_zero, List.getElem_cons_succ, List.setIfInBounds_toArray, List.set_cons_zero, List.set_cons_succ]))
      refine NJ.done (by kernel_rfl) (fun hSat => ?_)
      clear hSat
      go_wp2_with fail
      go_ret
      exact ⟨by simp, (HK3.out.on HB_wZ.out).b⟩
  · have HG : Hid (∀ w1 : World, Calls Tryz.prog 13 #[.agg #[.string url, .bool true, .bool nc, .int .i64 md]] w1 fun e w' => e = .returned (.bool nc) ∧ Below w1.heap.size w1 w') := Lib.hid HG0.out
    clear HG0
    refine wp_region_N 43 (fun w' => w'.cell? ⟨w.heap.size, 0, none⟩ = some (.string url) ∧ w'.cell? ⟨w.heap.size, 1, none⟩ = some (.bool true) ∧ w'.cell? ⟨w.heap.size, 2, none⟩ = some (.bool nc) ∧ w'.cell? ⟨w.heap.size, 3, none⟩ = some (.int .i64 md) ∧ w'.cell? ⟨w.heap.size + 1, 0, none⟩ = some (.int .i64 st) ∧ w'.cell? ⟨w.heap.size + 1, 1, none⟩ = some (.slice A3 L.length c3)) (by kernel_rfl) (by kernel_rfl) ⟨a0, a1, a2, a3, r0, r1⟩ ?_
    (refine NJ.take (i := 0) (v := ?_) rfl rfl (by kernel_rfl) (by kernel_rfl) (by kernel_rfl) (by kernel_rfl) (fun _ _ _ h => h) (Or.inl ⟨by rfl, ?_⟩) ?_; rotate_left; (focus (intro wS hSw; (try dsimp only at hSw); go_simp; first | done | with_reducible rfl)); (try simp only [Act.put, List.getElem_toArray, List.getElem_cons_zero, List.getElem_cons_succ, List.setIfInBounds_toArray, List.set_cons_zero, List.set_cons_succ]))
    (refine NJ.take (i := 2) (v := ?_) rfl rfl (by kernel_rfl) (by kernel_rfl) (by kernel_rfl) (by kernel_rfl) (fun _ _ _ h => h) (Or.inl ⟨by rfl, ?_⟩) ?_; rotate_left; (focus (intro wS hSw; (try dsimp only at hSw); go_simp; first | done | with_reducible rfl)); (try simp only [Act.put, List.getElem_toArray, List.getElem_cons_zero, List.getElem_cons_succ, List.setIfInBounds_toArray, List.set_cons_zero, List.set_cons_succ]))
    (refine NJ.take (i := 3) (v := ?_) rfl rfl (by kernel_rfl) (by kernel_rfl) (by kernel_rfl) (by kernel_rfl) (fun _ _ _ h => h) (Or.inl ⟨by rfl, ?_⟩) ?_; rotate_left; (focus (intro wS hSw; (try dsimp only at hSw); go_simp; first | done | with_reducible rfl)); (try simp only [Act.put, List.getElem_toArray, List.getElem_cons_zero, List.getElem_cons_succ, List.setIfInBounds_toArray, List.set_cons_zero, List.set_cons_succ]))
    refine NJ.step (i := 1) rfl rfl (by kernel_rfl) (fun hSat K hK => ?_)
    go_simp
    refine Calls.mono (HG.out _) ?_
    rintro e w1 ⟨rfl, hb⟩
    have hbn := HB_0.out.trans (hb.mono HB_0.out.size)
    have HB_w1 := Lib.hid hbn
    clear hb
    go_wp2_with fail
    refine hK.out _ _ ?_ ?_
    · exact ⟨(cell_below hbn az).trans a0, (cell_below hbn az).trans a1, (cell_below hbn az).trans a2, (cell_below hbn az).trans a3, (cell_below hbn rz).trans r0, (cell_below hbn rz).trans r1⟩
    clear hK hSat K
    (try simp only [Act.put, List.getElem_toArray, List.getElem_cons_zero, List.getElem_cons_succ, List.setIfInBounds_toArray, List.set_cons_zero, List.set_cons_succ])
    clear hbn
    (refine NJ.take (i := 4) (v := ?_) rfl rfl (by kernel_rfl) (by kernel_rfl) (by kernel_rfl) (by kernel_rfl) (fun _ _ _ h => h) (Or.inl ⟨by rfl, ?_⟩) ?_; rotate_left; (focus (intro wS hSw; (try dsimp only at hSw); go_simp; first | done | with_reducible rfl)); (try simp only [Act.put, List.getElem_toArray, List.getElem_cons_zero, List.getElem_cons_succ, List.setIfInBounds_toArray, List.set_cons_zero, List.set_cons_succ]))
    (refine NJ.take (i := 5) (v := ?_) rfl rfl (by kernel_rfl) (by kernel_rfl) (by kernel_rfl) (by kernel_rfl) (fun _ _ _ h => h) (Or.inl ⟨by rfl, ?_⟩) ?_; rotate_left; (focus (intro wS hSw; (try dsimp only at hSw); go_simp; first | done | with_reducible rfl)); (try simp only [Act.put, List.getElem_toArray, List.getElem_cons_zero, List.getElem_cons_succ, List.setIfInBounds_toArray, List.set_cons_zero, List.set_cons_succ]))
    (refine NJ.take (i := 6) (v := ?_) rfl rfl (by kernel_rfl) (by kernel_rfl) (by kernel_rfl) (by kernel_rfl) (fun _ _ _ h => h) (Or.inl ⟨by rfl, ?_⟩) ?_; rotate_left; (focus (intro wS hSw; (try dsimp only at hSw); go_simp; first | done | with_reducible rfl)); (try simp only [Act.put, List.getElem_toArray, List.getElem_cons_zero, List.getElem_cons_succ, List.setIfInBounds_toArray, List.set_cons_zero, List.set_cons_succ]))
    (refine NJ.take (i := 7) (v := ?_) rfl rfl (by kernel_rfl) (by kernel_rfl) (by kernel_rfl) (by kernel_rfl) (fun _ _ _ h => h) (Or.inl ⟨by rfl, ?_⟩) ?_; rotate_left; (focus (intro wS hSw; (try dsimp only at hSw); go_simp; first | done | with_reducible rfl)); (try simp only [Act.put, List.getElem_toArray, List.getElem_cons_zero, List.getElem_cons_succ, List.setIfInBounds_toArray, List.set_cons_zero, List.set_cons_succ]))
    (refine NJ.take (i := 8) (v := ?_) rfl rfl (by kernel_rfl) (by kernel_rfl) (by kernel_rfl) (by kernel_rfl) (fun _ _ _ h => h) (Or.inl ⟨by rfl, ?_⟩) ?_; rotate_left; (focus (intro wS hSw; (try dsimp only at hSw); go_simp; first | done | with_reducible rfl)); (try simp only [Act.put, List.getElem_toArray, List.getElem_cons_zero, List.getElem_cons_succ, List.setIfInBounds_toArray, List.set_cons_zero, List.set_cons_succ]))
    (refine NJ.take (i := 9) (v := ?_) rfl rfl (by kernel_rfl) (by kernel_rfl) (by kernel_rfl) (by kernel_rfl) (fun _ _ _ h => h) (Or.inl ⟨by rfl, ?_⟩) ?_; rotate_left; (focus (intro wS hSw; (try dsimp only at hSw); go_simp; first | done | with_reducible rfl)); (try simp only [Act.put, List.getElem_toArray, List.getElem_cons_zero, List.getElem_cons_succ, List.setIfInBounds_toArray, List.set_cons_zero, List.set_cons_succ]))
    (refine NJ.take (i := 10) (v := ?_) rfl rfl (by kernel_rfl) (by kernel_rfl) (by kernel_rfl) (by kernel_rfl) (fun _ _ _ h => h) (Or.inl ⟨by rfl, ?_⟩) ?_; rotate_left; (focus (intro wS hSw; (try dsimp only at hSw); go_simp; first | done | with_reducible rfl)); (try simp only [Act.put, List.getElem_toArray, List.getElem_cons_zero, List.getElem_cons_succ, List.setIfInBounds_toArray, List.set_cons_zero, List.set_cons_succ]))
    (refine NJ.take (i := 13) (v := ?_) rfl rfl (by kernel_rfl) (by kernel_rfl) (by kernel_rfl) (by kernel_rfl) (fun _ _ _ h => h) (Or.inl ⟨by rfl, ?_⟩) ?_; rotate_left; (focus (intro wS hSw; (try dsimp only at hSw); go_simp; first | done | with_reducible rfl)); (try simp only [Act.put, List.getElem_toArray, List.getElem_cons_zero, List.getElem_cons_succ, List.setIfInBounds_toArray, List.set_cons_zero, List.set_cons_succ]))
    (refine NJ.take (i := 14) (v := ?_) rfl rfl (by kernel_rfl) (by kernel_rfl) (by kernel_rfl) (by kernel_rfl) (fun _ _ _ h => h) (Or.inl ⟨by rfl, ?_⟩) ?_; rotate_left; (focus (intro wS hSw; (try dsimp only at hSw); go_simp; first | done | with_reducible rfl)); (try simp only [Act.put, List.getElem_toArray, List.getElem_cons_zero, List.getElem_cons_succ, List.setIfInBounds_toArray, List.set_cons_zero, List.set_cons_succ]))
    (refine NJ.take (i := 15) (v := ?_) rfl rfl (by kernel_rfl) (by kernel_rfl) (by kernel_rfl) (by kernel_rfl) (fun _ _ _ h => h) (Or.inl ⟨by rfl, ?_⟩) ?_; rotate_left; (focus (intro wS hSw; (try dsimp only at hSw); go_simp; first | done | with_reducible rfl)); (try simp only [Act.put, List.getElem_toArray, List.getElem_cons_zero, List.getElem_cons_succ, List.setIfInBounds_toArray, List.set_cons_zero, List.set_cons_succ]))
    refine NJ.step (i := 11) rfl rfl (by kernel_rfl) (fun hSat K hK => ?_)
    go_simp
    refine Calls.mono (HF2.out _ HB_w1.out) ?_
    rintro e w2 ⟨X1, x1, rfl, hx1, hb, -⟩
    have hbn := HB_w1.out.trans (hb.mono HB_w1.out.size)
    have HB_w2 := Lib.hid hbn
    have HX1 := Lib.hid hx1
    clear hx1
    clear hb
    go_wp2_with fail
    refine hK.out _ _ ?_ ?_
    · exact ⟨(cell_below hbn az).trans a0, (cell_below hbn az).trans a1, (cell_below hbn az).trans a2, (cell_below hbn az).trans a3, (cell_below hbn rz).trans r0, (cell_below hbn rz).trans r1⟩
    clear hK hSat K
    (try simp only [Act.put, List.getElem_toArray, List.getElem_cons_zero, List.getElem_cons_succ, List.setIfInBounds_toArray, List.set_cons_zero, List.set_cons_succ])
    clear hbn
    refine NJ.step (i := 12) rfl rfl (by kernel_rfl) (fun hSat K hK => ?_)
    go_simp
    refine Calls.mono (Partial30_any st X1 _ x1 _) ?_
    rintro e w3 ⟨rfl, hb⟩
    have hbn := HB_w2.out.trans (hb.mono HB_w2.out.size)
    have HB_w3 := Lib.hid hbn
    clear hb
    go_wp2_with fail
    refine hK.out _ _ ?_ ?_
    · exact ⟨(cell_below hbn az).trans a0, (cell_below hbn az).trans a1, (cell_below hbn az).trans a2, (cell_below hbn az).trans a3, (cell_below hbn rz).trans r0, (cell_below hbn rz).trans r1⟩
    clear hK hSat K
    (try simp only [Act.put, List.getElem_toArray, List.getElem_cons_zero, List.getElem_cons_succ, List.setIfInBounds_toArray, List.set_cons_zero, List.set_cons_succ])
    clear hbn
    (refine NJ.take (i := 16) (v := ?_) rfl rfl (by kernel_rfl) (by kernel_rfl) (by kernel_rfl) (by kernel_rfl) (fun _ _ _ h => h) (Or.inl ⟨by rfl, ?_⟩) ?_; rotate_left; (focus (intro wS hSw; (try dsimp only at hSw); go_simp; first | done | with_reducible rfl)); (try simp only [Act.put, List.getElem_toArray, List.getElem_cons_zero, List.getElem_cons_succ, List.setIfInBounds_toArray, List.set_cons_zero, List.set_cons_succ]))
    (refine NJ.take (i := 17) (v := ?_) rfl rfl (by kernel_rfl) (by kernel_rfl) (by kernel_rfl) (by kernel_rfl) (fun _ _ _ h => h) (Or.inl ⟨by rfl, ?_⟩) ?_; rotate_left; (focus (intro wS hSw; (try dsimp only at hSw); go_simp; first | done | with_reducible rfl)); (try simp only [Act.put, List.getElem_toArray, List.getElem_cons_zero, List.getElem_cons_succ, List.setIfInBounds_toArray, List.set_cons_zero, List.set_cons_succ]))
    (refine NJ.take (i := 18) (v := ?_) rfl rfl (by kernel_rfl) (by kernel_rfl) (by kernel_rfl) (by kernel_rfl) (fun _ _ _ h => h) (Or.inl ⟨by rfl, ?_⟩) ?_; rotate_left; (focus (intro wS hSw; (try dsimp only at hSw); go_simp; first | done | with_reducible rfl)); (try simp only [Act.put, List.getElem_toArray, List.getElem_cons_zero, List.getElem_cons_succ, List.setIfInBounds_toArray, List.set_cons_zero, List.set_cons_succ]))
    (refine NJ.take (i := 19) (v := ?_) rfl rfl (by kernel_rfl) (by kernel_rfl) (by kernel_rfl) (by kernel_rfl) (fun _ _ _ h => h) (Or.inl ⟨by rfl, ?_⟩) ?_; rotate_left; (focus (intro wS hSw; (try dsimp only at hSw); go_simp; first | done | with_reducible rfl)); (try simp only [Act.put, List.getElem_toArray, List.getElem_cons_zero, List.getElem_cons_succ, List.setIfInBounds_toArray, List.set_cons_zero, List.set_cons_succ]))
    (refine NJ.take (i := 22) (v := ?_) rfl rfl (by kernel_rfl) (by kernel_rfl) (by kernel_rfl) (by kernel_rfl) (fun _ _ _ h => h) (Or.inl ⟨by rfl, ?_⟩) ?_; rotate_left; (focus (intro wS hSw; (try dsimp only at hSw); go_simp; first | done | with_reducible rfl)); (try simp only [Act.put, List.getElem_toArray, List.getElem_cons_zero, List.getElem_cons_succ, List.setIfInBounds_toArray, List.set_cons_zero, List.set_cons_succ]))
    refine NJ.step (i := 20) rfl rfl (by kernel_rfl) (fun hSat K hK => ?_)
    go_simp
    refine Calls.mono (HF2.out _ HB_w3.out) ?_
    rintro e w4 ⟨X2, x2, rfl, hx2, hb, -⟩
    have hbn := HB_w3.out.trans (hb.mono HB_w3.out.size)
    have HB_w4 := Lib.hid hbn
    have HX2 := Lib.hid hx2
    clear hx2
    clear hb
    go_wp2_with fail
    refine hK.out _ _ ?_ ?_
    · exact ⟨(cell_below hbn az).trans a0, (cell_below hbn az).trans a1, (cell_below hbn az).trans a2, (cell_below hbn az).trans a3, (cell_below hbn rz).trans r0, (cell_below hbn rz).trans r1⟩
    clear hK hSat K
    (try simp only [Act.put, List.getElem_toArray, List.getElem_cons_zero, List.getElem_cons_succ, List.setIfInBounds_toArray, List.set_cons_zero, List.set_cons_succ])
    clear hbn
    refine NJ.step (i := 21) rfl rfl (by kernel_rfl) (fun hSat K hK => ?_)
    go_simp
    refine Calls.mono (HI1.out _ _ _ HX2.out) ?_
    rintro e w5 ⟨rfl, hb⟩
    have hbn := HB_w4.out.trans (hb.mono HB_w4.out.size)
    have HB_w5 := Lib.hid hbn
    clear hb
    go_wp2_with fail
    refine hK.out _ _ ?_ ?_
    · exact ⟨(cell_below hbn az).trans a0, (cell_below hbn az).trans a1, (cell_below hbn az).trans a2, (cell_below hbn az).trans a3, (cell_below hbn rz).trans r0, (cell_below hbn rz).trans r1⟩
    clear hK hSat K
    (try simp only [Act.put, List.getElem_toArray, List.getElem_cons_zero, List.getElem_cons_succ, List.setIfInBounds_toArray, List.set_cons_zero, List.set_cons_succ])
    clear hbn
    refine NJ.step (i := 23) rfl rfl (by kernel_rfl) (fun hSat K hK => ?_)
    go_simp
    refine Calls.mono (HI2.out _ HB_w5.out) ?_
    rintro e w6 ⟨rfl, hb⟩
    have hbn := HB_w5.out.trans (hb.mono HB_w5.out.size)
    have HB_w6 := Lib.hid hbn
    clear hb
    go_wp2_with fail
    refine hK.out _ _ ?_ ?_
    · exact ⟨(cell_below hbn az).trans a0, (cell_below hbn az).trans a1, (cell_below hbn az).trans a2, (cell_below hbn az).trans a3, (cell_below hbn rz).trans r0, (cell_below hbn rz).trans r1⟩
    clear hK hSat K
    (try simp only [Act.put, List.getElem_toArray, List.getElem_cons_zero, List.getElem_cons_succ, List.setIfInBounds_toArray, List.set_cons_zero, List.set_cons_succ])
    clear hbn
    (refine NJ.take (i := 24) (v := ?_) rfl rfl (by kernel_rfl) (by kernel_rfl) (by kernel_rfl) (by kernel_rfl) (fun _ _ _ h => h) (Or.inl ⟨by rfl, ?_⟩) ?_; rotate_left; (focus (intro wS hSw; (try dsimp only at hSw); go_simp; first | done | with_reducible rfl)); (try simp only [Act.put, List.getElem_toArray, List.getElem_cons_zero, List.getElem_cons_succ, List.setIfInBounds_toArray, List.set_cons_zero, List.set_cons_succ]))
    (refine NJ.take (i := 25) (v := ?_) rfl rfl (by kernel_rfl) (by kernel_rfl) (by kernel_rfl) (by kernel_rfl) (fun _ _ _ h => h) (Or.inl ⟨by rfl, ?_⟩) ?_; rotate_left; (focus (intro wS hSw; (try dsimp only at hSw); go_simp; first | done | with_reducible rfl)); (try simp only [Act.put, List.getElem_toArray, List.getElem_cons_zero, List.getElem_cons_succ, List.setIfInBounds_toArray, List.set_cons_zero, List.set_cons_succ]))
    (refine NJ.take (i := 26) (v := ?_) rfl rfl (by kernel_rfl) (by kernel_rfl) (by kernel_rfl) (by kernel_rfl) (fun _ _ _ h => h) (Or.inl ⟨by rfl, ?_⟩) ?_; rotate_left; (focus (intro wS hSw; (try dsimp only at hSw); go_simp; first | done | with_reducible rfl)); (try simp only [Act.put, List.getElem_toArray, List.getElem_cons_zero, List.getElem_cons_succ, List.setIfInBounds_toArray, List.set_cons_zero, List.set_cons_succ]))
    (refine NJ.take (i := 27) (v := ?_) rfl rfl (by kernel_rfl) (by kernel_rfl) (by kernel_rfl) (by kernel_rfl) (fun _ _ _ h => h) (Or.inl ⟨by rfl, ?_⟩) ?_; rotate_left; (focus (intro wS hSw; (try dsimp only at hSw); go_simp; first | done | with_reducible rfl)); (try simp only [Act.put, List.getElem_toArray, List.getElem_cons_zero, List.getElem_cons_succ, List.setIfInBounds_toArray, List.set_cons_zero, List.set_cons_succ]))
    (refine NJ.take (i := 30) (v := ?_) rfl rfl (by kernel_rfl) (by kernel_rfl) (by kernel_rfl) (by kernel_rfl) (fun _ _ _ h => h) (Or.inl ⟨by rfl, ?_⟩) ?_; rotate_left; (focus (intro wS hSw; (try dsimp only at hSw); go_simp; first | done | with_reducible rfl)); (try simp only [Act.put, List.getElem_toArray, List.getElem_cons_zero, List.getElem_cons_succ, List.setIfInBounds_toArray, List.set_cons_zero, List.set_cons_succ]))
    refine NJ.step (i := 28) rfl rfl (by kernel_rfl) (fun hSat K hK => ?_)
    go_simp
    refine Calls.mono (HF2.out _ HB_w6.out) ?_
    rintro e w7 ⟨X3, x3, rfl, hx3, hb, -⟩
    have hbn := HB_w6.out.trans (hb.mono HB_w6.out.size)
    have HB_w7 := Lib.hid hbn
    have HX3 := Lib.hid hx3
    clear hx3
    clear hb
    go_wp2_with fail
    refine hK.out _ _ ?_ ?_
    · exact ⟨(cell_below hbn az).trans a0, (cell_below hbn az).trans a1, (cell_below hbn az).trans a2, (cell_below hbn az).trans a3, (cell_below hbn rz).trans r0, (cell_below hbn rz).trans r1⟩
    clear hK hSat K
    (try simp only [Act.put, List.getElem_toArray, List.getElem_cons_zero, List.getElem_cons_succ, List.setIfInBounds_toArray, List.set_cons_zero, List.set_cons_succ])
    clear hbn
    refine NJ.step (i := 29) rfl rfl (by kernel_rfl) (fun hSat K hK => ?_)
    go_simp
    refine Calls.mono (HP1.out _ _ _ HX3.out) ?_
    rintro e w8 ⟨rfl, hb⟩
    have hbn := HB_w7.out.trans (hb.mono HB_w7.out.size)
    have HB_w8 := Lib.hid hbn
    clear hb
    go_wp2_with fail
    refine hK.out _ _ ?_ ?_
    · exact ⟨(cell_below hbn az).trans a0, (cell_below hbn az).trans a1, (cell_below hbn az).trans a2, (cell_below hbn az).trans a3, (cell_below hbn rz).trans r0, (cell_below hbn rz).trans r1⟩
    clear hK hSat K
    (try simp only [Act.put, List.getElem_toArray, List.getElem_cons_zero, List.getElem_cons_succ, List.setIfInBounds_toArray, List.set_cons_zero, List.set_cons_succ])
    clear hbn
    refine NJ.step (i := 31) rfl rfl (by kernel_rfl) (fun hSat K hK => ?_)
    go_simp
    refine Calls.mono (HP2.out _ HB_w8.out) ?_
    rintro e w9 ⟨rfl, hb⟩
    have hbn := HB_w8.out.trans (hb.mono HB_w8.out.size)
    have HB_w9 := Lib.hid hbn
    clear hb
    go_wp2_with fail
    refine hK.out _ _ ?_ ?_
    · exact ⟨(cell_below hbn az).trans a0, (cell_below hbn az).trans a1, (cell_below hbn az).trans a2, (cell_below hbn az).trans a3, (cell_below hbn rz).trans r0, (cell_below hbn rz).trans r1⟩
    clear hK hSat K
    (try simp only [Act.put, List.getElem_toArray, List.getElem_cons_zero, List.getElem_cons_succ, List.setIfInBounds_toArray, List.set_cons_zero, List.set_cons_succ])
    clear hbn
    (refine NJ.take (i := 32) (v := ?_) rfl rfl (by kernel_rfl) (by kernel_rfl) (by kernel_rfl) (by kernel_rfl) (fun _ _ _ h => h) (Or.inl ⟨by rfl, ?_⟩) ?_; rotate_left; (focus (intro wS hSw; (try dsimp only at hSw); go_simp; first | done | with_reducible rfl)); (try simp only [Act.put, List.getElem_toArray, List.getElem_cons_zero, List.getElem_cons_succ, List.setIfInBounds_toArray, List.set_cons_zero, List.set_cons_succ]))
    (refine NJ.take (i := 33) (v := ?_) rfl rfl (by kernel_rfl) (by kernel_rfl) (by kernel_rfl) (by kernel_rfl) (fun _ _ _ h => h) (Or.inl ⟨by rfl, ?_⟩) ?_; rotate_left; (focus (intro wS hSw; (try dsimp only at hSw); go_simp; first | done | with_reducible rfl)); (try simp only [Act.put, List.getElem_toArray, List.getElem_cons_zero, List.getElem_cons_succ, List.setIfInBounds_toArray, List.set_cons_zero, List.set_cons_succ]))
    (refine NJ.take (i := 34) (v := ?_) rfl rfl (by kernel_rfl) (by kernel_rfl) (by kernel_rfl) (by kernel_rfl) (fun _ _ _ h => h) (Or.inl ⟨by rfl, ?_⟩) ?_; rotate_left; (focus (intro wS hSw; (try dsimp only at hSw); go_simp; first | done | with_reducible rfl)); (try simp only [Act.put, List.getElem_toArray, List.getElem_cons_zero, List.getElem_cons_succ, List.setIfInBounds_toArray, List.set_cons_zero, List.set_cons_succ]))
    refine NJ.two (i := 35) (j := 36) (by kernel_rfl) ⟨_, rfl, rfl, fun hSat K hK => ?_⟩ ⟨_, rfl, rfl, fun hSat K hK => ?_⟩
    · go_simp
      refine Calls.mono (HRE.out _ HB_w9.out) ?_
      rintro e wR ⟨R1, q1, rfl, hr1, hb⟩
      have hbn := HB_w9.out.trans (hb.mono HB_w9.out.size)
      have HB_wR := Lib.hid hbn
      have HR1 := Lib.hid hr1
      clear hb hr1
      go_wp2_with fail
      refine hK.out _ _ ?_ ?_
      · exact ⟨(cell_below hbn az).trans a0, (cell_below hbn az).trans a1, (cell_below hbn az).trans a2, (cell_below hbn az).trans a3, (cell_below hbn rz).trans r0, (cell_below hbn rz).trans r1⟩
      clear hK hSat K
      (try simp only [Act.put, List.getElem_toArray, List.getElem_cons_zero, List.getElem_cons_succ, List.setIfInBounds_toArray, List.set_cons_zero, List.set_cons_succ])
      clear hbn
      refine NJ.step (i := 36) rfl rfl (by kernel_rfl) (fun hSat K hK => ?_)
      go_simp
      have hb := below_box wR (.cells (rowS reasonsL).toArray 9)
      have hbn := HB_wR.out.trans (hb.mono HB_wR.out.size)
      have HB_wB := Lib.hid hbn
      have HR2 := Lib.hid (strs_new wR reasonsL)
      replace HR1 := Lib.hid (HR1.out.below hb)
      clear hb
      refine hK.out _ _ ?_ ?_
      · exact ⟨(cell_below hbn az).trans a0, (cell_below hbn az).trans a1, (cell_below hbn az).trans a2, (cell_below hbn az).trans a3, (cell_below hbn rz).trans r0, (cell_below hbn rz).trans r1⟩
      clear hK hSat K
      (try simp only [Act.put, List.getElem_toArray, List.getElem_cons_zero, List.getElem_cons_succ, List.setIfInBounds_toArray, List.set_cons_zero, List.set_cons_succ])
      clear hbn
      refine NJ.step (i := 37) rfl rfl (by kernel_rfl) (fun hSat K hK => ?_)
      go_simp
      refine Calls.mono (rSame_strs reasonsL _ _ _ _ _ (by unfold maxLen; decide) HR1.out HR2.out) ?_
      rintro e wS ⟨rfl, hb⟩
      have hbn := HB_wB.out.trans (hb.mono HB_wB.out.size)
      have HB_wS := Lib.hid hbn
      clear hb
      go_wp2_with fail
      refine hK.out _ _ ?_ ?_
      · exact ⟨(cell_below hbn az).trans a0, (cell_below hbn az).trans a1, (cell_below hbn az).trans a2, (cell_below hbn az).trans a3, (cell_below hbn rz).trans r0, (cell_below hbn rz).trans r1⟩
      clear hK hSat K
      (try simp only [Act.put, List.getElem_toArray, List.getElem_cons_zero, List.getElem_cons_succ, List.setIfInBounds_toArray, List.set_cons_zero, List.set_cons_succ])
      clear hbn
      (refine NJ.take (i := 38) (v := ?_) rfl rfl (by kernel_rfl) (by kernel_rfl) (by kernel_rfl) (by kernel_rfl) (fun _ _ _ h => h) (Or.inl ⟨by rfl, ?_⟩) ?_; rotate_left; (focus (intro wS hSw; (try dsimp only at hSw); go_simp; first | done | with_reducible rfl)); (try simp only [Act.put, List.getElem_toArray, List.getElem_cons_zero, List.getElem_cons_succ, List.setIfInBounds_toArray, List.set_cons_zero, List.set_cons_succ]))
      (refine NJ.take (i := 39) (v := ?_) rfl rfl (by kernel_rfl) (by kernel_rfl) (by kernel_rfl) (by kernel_rfl) (fun _ _ _ h => h) (Or.inl ⟨by rfl, ?_⟩) ?_; rotate_left; (focus (intro wS hSw; (try dsimp only at hSw); go_simp; first | done | with_reducible rfl)); (try simp only [Act.put, List.getElem_toArray, List.getElem_cons_zero, List.getElem_cons_succ, List.setIfInBounds_toArray, List.set_cons_zero, List.set_cons_succ]))
      refine NJ.step (i := 40) rfl rfl (by kernel_rfl) (fun hSat K hK => ?_)
      go_simp
      refine Calls.mono (lives30_any _ (HT.out _ (HK3.out.on HB_wS.out).b)) ?_
      rintro e wZ ⟨rfl, hb⟩
      have hbn := HB_wS.out.trans (hb.mono HB_wS.out.size)
      have HB_wZ := Lib.hid hbn
      clear hb
      go_wp2_with fail
      refine hK.out _ _ ?_ ?_
      · exact ⟨(cell_below hbn az).trans a0, (cell_below hbn az).trans a1, (cell_below hbn az).trans a2, (cell_below hbn az).trans a3, (cell_below hbn rz).trans r0, (cell_below hbn rz).trans r1⟩
      clear hK hSat K
      (try simp only [Act.put, List.getElem_toArray, List.getElem_cons_zero, List.getElem_cons_succ, List.setIfInBounds_toArray, List.set_cons_zero, List.set_cons_succ])
      clear hbn
      (refine NJ.take (i := 41) (v := ?_) rfl rfl (by kernel_rfl) (by kernel_rfl) (by kernel_rfl) (by kernel_rfl) (fun _ _ _ h => h) (Or.inl ⟨by rfl, ?_⟩) ?_; rotate_left; (focus (intro wS hSw; (try dsimp only at hSw); go_simp; first | done | with_reducible rfl)); (try simp only [Act.put, List.getElem_toArray, List.getElem_cons_zero, List.getElem_cons_succ, List.setIfInBounds_toArray, List.set_cons_zero, List.set_cons_succ]))
      (refine NJ.take (i := 42) (v := ?_) rfl rfl (by kernel_rfl) (by kernel_rfl) (by kernel_rfl) (by kernel_rfl) (fun _ _ _ h => h) (Or.inl ⟨by rfl, ?_⟩) ?_; rotate_left; (focus (intro wS hSw; (try dsimp only at hSw); go_simp; first | done | with_reducible rfl)); (try simp only [Act.put, List.getElem_toArray, List.getElem_cons_zero, List.getElem_cons_succ, List.setIfInBounds_toArray, List.set_cons_zero, List.set_cons_succ]))
      refine NJ.done (by kernel_rfl) (fun hSat => ?_)
      clear hSat
      go_wp2_with fail
      go_ret
      exact ⟨by simp, (HK3.out.on HB_wZ.out).b⟩
    · go_simp
      have hb := below_box w9 (.cells (rowS reasonsL).toArray 9)
      have hbn := HB_w9.out.trans (hb.mono HB_w9.out.size)
      have HB_wB := Lib.hid hbn
      have HR2 := Lib.hid (strs_new w9 reasonsL)
      clear hb
      refine hK.out _ _ ?_ ?_
      · exact ⟨(cell_below hbn az).trans a0, (cell_below hbn az).trans a1, (cell_below hbn az).trans a2, (cell_below hbn az).trans a3, (cell_below hbn rz).trans r0, (cell_below hbn rz).trans r1⟩
      clear hK hSat K
      (try simp only [Act.put, List.getElem_toArray, List.getElem_cons_zero, List.getElem_cons_succ, List.setIfInBounds_toArray, List.set_cons_zero, List.set_cons_succ])
      clear hbn
      refine NJ.step (i := 35) rfl rfl (by kernel_rfl) (fun hSat K hK => ?_)
      go_simp
      refine Calls.mono (HRE.out _ HB_wB.out) ?_
      rintro e wR ⟨R1, q1, rfl, hr1, hb⟩
      have hbn := HB_wB.out.trans (hb.mono HB_wB.out.size)
      have HB_wR := Lib.hid hbn
      have HR1 := Lib.hid hr1
      replace HR2 := Lib.hid (HR2.out.below hb)
      clear hb hr1
      go_wp2_with fail
      refine hK.out _ _ ?_ ?_
      · exact ⟨(cell_below hbn az).trans a0, (cell_below hbn az).trans a1, (cell_below hbn az).trans a2, (cell_below hbn az).trans a3, (cell_below hbn rz).trans r0, (cell_below hbn rz).trans r1⟩
      clear hK hSat K
      (try simp only [Act.put, List.getElem_toArray, List.getElem_cons_zero, List.getElem_cons_succ, List.setIfInBounds_toArray, List.set_cons_zero, List.set_cons_succ])
      clear hbn
      refine NJ.step (i := 37) rfl rfl (by kernel_rfl) (fun hSat K hK => ?_)
      go_simp
      refine Calls.mono (rSame_strs reasonsL _ _ _ _ _ (by unfold maxLen; decide) HR1.out HR2.out) ?_
      rintro e wS ⟨rfl, hb⟩
      have hbn := HB_wR.out.trans (hb.mono HB_wR.out.size)
      have HB_wS := Lib.hid hbn
      clear hb
      go_wp2_with fail
      refine hK.out _ _ ?_ ?_
      · exact ⟨(cell_below hbn az).trans a0, (cell_below hbn az).trans a1, (cell_below hbn az).trans a2, (cell_below hbn az).trans a3, (cell_below hbn rz).trans r0, (cell_below hbn rz).trans r1⟩
      clear hK hSat K
      (try simp only [Act.put, List.getElem_toArray, List.getElem_cons_zero, List.getElem_cons_succ, List.setIfInBounds_toArray, List.set_cons_zero, List.set_cons_succ])
      clear hbn
      (refine NJ.take (i := 38) (v := ?_) rfl rfl (by kernel_rfl) (by kernel_rfl) (by kernel_rfl) (by kernel_rfl) (fun _ _ _ h => h) (Or.inl ⟨by rfl, ?_⟩) ?_; rotate_left; (focus (intro wS hSw; (try dsimp only at hSw); go_simp; first | done | with_reducible rfl)); (try simp only [Act.put, List.getElem_toArray, List.getElem_cons_zero, List.getElem_cons_succ, List.setIfInBounds_toArray, List.set_cons_zero, List.set_cons_succ]))
      (refine NJ.take (i := 39) (v := ?_) rfl rfl (by kernel_rfl) (by kernel_rfl) (by kernel_rfl) (by kernel_rfl) (fun _ _ _ h => h) (Or.inl ⟨by rfl, ?_⟩) ?_; rotate_left; (focus (intro wS hSw; (try dsimp only at hSw); go_simp; first | done | with_reducible rfl)); (try simp only [Act.put, List.getElem_toArray, List.getElem_cons_zero, List.getElem_cons_succ, List.setIfInBounds_toArray, List.set_cons_zero, List.set_cons_succ]))
      refine NJ.step (i := 40) rfl rfl (by kernel_rfl) (fun hSat K hK => ?_)
      go_simp
      refine Calls.mono (lives30_any _ (HT.out _ (HK3.out.on HB_wS.out).b)) ?_
      rintro e wZ ⟨rfl, hb⟩
      have hbn := HB_wS.out.trans (hb.mono HB_wS.out.size)
      have HB_wZ := Lib.hid hbn
      clear hb
      go_wp2_with fail
      refine hK.out _ _ ?_ ?_
      · exact ⟨(cell_below hbn az).trans a0, (cell_below hbn az).trans a1, (cell_below hbn az).trans a2, (cell_below hbn az).trans a3, (cell_below hbn rz).trans r0, (cell_below hbn rz).trans r1⟩
      clear hK hSat K
      (try simp only [Act.put, List.getElem_toArray, List.getElem_cons_zero, List.getElem_cons_succ, List.setIfInBounds_toArray, List.set_cons_zero, List.set_cons_succ])
      clear hbn
      (refine NJ.take (i := 41) (v := ?_) rfl rfl (by kernel_rfl) (by kernel_rfl) (by kernel_rfl) (by kernel_rfl) (fun _ _ _ h => h) (Or.inl ⟨by rfl, ?_⟩) ?_; rotate_left; (focus (intro wS hSw; (try dsimp only at hSw); go_simp; first | done | with_reducible rfl)); (try simp only [Act.put, List.getElem_toArray, List.getElem_cons_zero, List.getElem_cons_succ, List.setIfInBounds_toArray, List.set_cons_zero, List.set_cons_succ]))
      (refine NJ.take (i := 42) (v := ?_) rfl rfl (by kernel_rfl) (by kernel_rfl) (by kernel_rfl) (by kernel_rfl) (fun _ _ _ h => h) (Or.inl ⟨by rfl, ?_⟩) ?_; rotate_left; (focus (intro wS hSw; (try dsimp only at hSw); go_simp; first | done | with_reducible rfl)); (try simp only [Act.put, List.getElem_toArray, List.getElem_cons_zero, List.getElem_cons_succ, List.setIfInBounds_toArray, List.set_cons_zero, List.set_cons_succ]))
      refine NJ.done (by kernel_rfl) (fun hSat => ?_)
      clear hSat
      go_wp2_with fail
      go_ret
      exact ⟨by simp, (HK3.out.on HB_wZ.out).b⟩

end Go.Proofs.YtcbhkcdphbffpaaGreatDoor
