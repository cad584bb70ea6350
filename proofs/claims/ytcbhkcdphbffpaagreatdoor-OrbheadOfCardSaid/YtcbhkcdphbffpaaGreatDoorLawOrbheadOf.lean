/-
  The walk of the law OrbheadOf. (Printed by genorb.py.)
-/
import Derived.Test.YtcbhkcdphbffpaaGreatDoorM22
namespace Go.Proofs.YtcbhkcdphbffpaaGreatDoor
open Go.RowKit
set_option linter.unusedSimpArgs false
set_option linter.unusedVariables false

set_option maxHeartbeats 8000000 in
set_option maxRecDepth 20000 in
theorem orbheadOf_walk (url : ByteArray) (cr nc : Bool) (md st : Int) (l : Pars) (A : Option Addr) (c : Nat) (k : Bool) (w : World) (hT : Tab w) (hu : url.size ≤ maxLen) (hlm : l.length ≤ maxLen) (hps : ∀ p ∈ l, (bt p.1).size ≤ maxLen ∧ (bt p.2).size ≤ maxLen) (hA : ParsIn w w.heap.size A l) :
    Calls Tryz.prog 3 #[askV url cr nc md, repV st A l.length c, .bool k] w fun e w' => e = .returned (.bool true) ∧ Below w.heap.size w w' := by
  have HT := Lib.hid (fun (w1 : World) (hb : Below w.heap.size w w1) => hT.on hb)
  have HAS := Lib.hid (fun (w1 : World) => Ask30_any url cr nc md w1 hu)
  have HF := Lib.hid (fun (w1 : World) (hb : Below w.heap.size w w1) => Few30_any st l A c w1 hlm hps (hA.on hb))
  have hf := fewHs_fewP l
  have hid := fewHs_idem 8 l
  generalize cutB url 80 = u2 at *
  generalize l.length = nl at *
  generalize fewHs 8 l = L at *
  have hfn := hf.n
  have hfb := fewR_big (fewP_fewR hf)
  clear hT hu hlm hps hA
  have K0 := Kp.box2 w (askO url cr nc md) (repO st A nl c)
  unfold askO repO at K0
  unfold askV at HAS ⊢
  unfold repV at HF ⊢
  go_enter Tryz.func3, Tryz.ntmps3
  go_upto_region 1 with fail
  generalize (w.alloc (.cells #[.string url, .bool cr, .bool nc, .int .i64 md] 23)).alloc (.cells #[.int .i64 st, .slice A nl c] 26) = W at *
  go_cut [] (fun wx => TwoO w u2 cr nc md st L wx)
  case first =>
    obtain ⟨r0, r1, -, rz⟩ := rep_cells K0.h0
    obtain ⟨a0, a1, a2, a3, -, az⟩ := ask_cells K0.tl.h0
    have HK := Lib.hid K0
    clear K0 hid hfn hfb hf
    refine wp_region_N 4 (fun w' => w'.cell? ⟨w.heap.size, 0, none⟩ = some (.string url) ∧ w'.cell? ⟨w.heap.size, 1, none⟩ = some (.bool cr) ∧ w'.cell? ⟨w.heap.size, 2, none⟩ = some (.bool nc) ∧ w'.cell? ⟨w.heap.size, 3, none⟩ = some (.int .i64 md) ∧ w'.cell? ⟨w.heap.size + 1, 0, none⟩ = some (.int .i64 st) ∧ w'.cell? ⟨w.heap.size + 1, 1, none⟩ = some (.slice A nl c)) (by kernel_rfl) (by kernel_rfl) ⟨a0, a1, a2, a3, r0, r1⟩ ?_
    (refine NJ.take (i := 0) (v := ?_) rfl rfl (by kernel_rfl) (by kernel_rfl) (by kernel_rfl) (by kernel_rfl) (fun _ _ _ h => h) (Or.inl ⟨by rfl, ?_⟩) ?_; rotate_left; (focus (intro wS hSw; (try dsimp only at hSw); go_simp; first | done | with_reducible rfl)); (try simp only [Act.put, List.getElem_toArray, List.getElem_cons_zero, List.getElem_cons_succ, List.setIfInBounds_toArray, List.set_cons_zero, List.set_cons_succ]))
    (refine NJ.take (i := 2) (v := ?_) rfl rfl (by kernel_rfl) (by kernel_rfl) (by kernel_rfl) (by kernel_rfl) (fun _ _ _ h => h) (Or.inl ⟨by rfl, ?_⟩) ?_; rotate_left; (focus (intro wS hSw; (try dsimp only at hSw); go_simp; first | done | with_reducible rfl)); (try simp only [Act.put, List.getElem_toArray, List.getElem_cons_zero, List.getElem_cons_succ, List.setIfInBounds_toArray, List.set_cons_zero, List.set_cons_succ]))
    refine NJ.step (i := 1) rfl rfl (by kernel_rfl) (fun hSat K hK => ?_)
    go_simp
    refine Calls.mono (HAS.out _) ?_
    rintro e w1 ⟨rfl, hb⟩
    have hbn := below_undrew hb
    have HB1 := Lib.hid hbn
    have HK1 := Lib.hid (HK.out.on hbn)
    clear hb
    go_wp2_with fail
    refine hK.out _ _ ?_ ?_
    · exact ⟨(cell_below hbn az).trans a0, (cell_below hbn az).trans a1, (cell_below hbn az).trans a2, (cell_below hbn az).trans a3, (cell_below hbn rz).trans r0, (cell_below hbn rz).trans r1⟩
    clear hK hSat K
    (try simp only [Act.put, List.getElem_toArray, List.getElem_cons_zero, List.getElem_cons_succ, List.setIfInBounds_toArray, List.set_cons_zero, List.set_cons_succ])
    clear hbn
    refine NJ.step (i := 3) rfl rfl (by kernel_rfl) (fun hSat K hK => ?_)
    go_simp
    refine Calls.mono (HF.out _ HK1.out.b) ?_
    rintro e w2 ⟨A3, c3, rfl, hA3, hb, hfr⟩
    have hbn := HB1.out.trans (hb.mono HB1.out.size)
    have HK2 := Lib.hid (HK1.out.on hb)
    have HA3 := Lib.hid hA3
    have HFR := Lib.hid (show ∀ g, A3 = some ⟨g, 0, none⟩ → w.heap.size + 1 < g from fun g hg => by have h1 := hfr g hg; have h2 := HB1.out.size; omega)
    have q0 := (cell_below (o := 0) hbn az).trans a0
    have q1 := (cell_below (o := 1) hbn az).trans a1
    have q2 := (cell_below (o := 2) hbn az).trans a2
    have q3 := (cell_below (o := 3) hbn az).trans a3
    have q4 := (cell_below (o := 0) hbn rz).trans r0
    have q5 := (cell_below (o := 1) hbn rz).trans r1
    have fq : ∀ i, w2.frozen? ⟨w.heap.size, i, none⟩ = false := fun i => Lib.frozen_of_heap HK2.out.tl.h0 i
    have fr : ∀ i, w2.frozen? ⟨w.heap.size + 1, i, none⟩ = false := fun i => Lib.frozen_of_heap HK2.out.h0 i
    clear hA3 hb hfr
    go_wp2_with fail
    refine hK.out _ _ ?_ ?_
    · exact ⟨(cell_below hbn az).trans a0, (cell_below hbn az).trans a1, (cell_below hbn az).trans a2, (cell_below hbn az).trans a3, (cell_below hbn rz).trans r0, (cell_below hbn rz).trans r1⟩
    clear hK hSat K
    (try simp only [Act.put, List.getElem_toArray, List.getElem_cons_zero, List.getElem_cons_succ, List.setIfInBounds_toArray, List.set_cons_zero, List.set_cons_succ])
    clear hbn a0 a1 a2 a3 r0 r1
    (refine NJ.over rfl (by kernel_rfl) (fun hSat K hK => ?_); go_simp; refine hK.out _ _ ?_; clear hK hSat K; (try simp only [Act.put, List.getElem_toArray, List.getElem_cons_zero, List.getElem_cons_succ, List.setIfInBounds_toArray, List.set_cons_zero, List.set_cons_succ]))
    (refine wpAnyN_tail (i := 5) rfl rfl (by kernel_rfl) (fun K hK => ?_); go_simp; refine hK.out _ _ ?_; clear hK K; (try simp only [Act.put, List.getElem_toArray, List.getElem_cons_zero, List.getElem_cons_succ, List.setIfInBounds_toArray, List.set_cons_zero, List.set_cons_succ]))
    refine wpAnyN_fin (by kernel_rfl) ?_
    go_wp2_with fail
    go_meet
    have e1 : ∀ g, A3 = some ⟨g, 0, none⟩ → w.heap.size ≠ g := fun g hg => by have := HFR.out g hg; omega
    have e2 : ∀ g, A3 = some ⟨g, 0, none⟩ → w.heap.size + 1 ≠ g := fun g hg => by have := HFR.out g hg; omega
    refine ⟨A3, c3, ⟨?_, fun p hp => ?_⟩, ?_⟩
    · exact (((((HK2.out.b.setCell (by simp) _).setCell (by simp) _).setCell (by simp) _).setCell (by simp) _).setCell (by simp) _).setCell (by simp) _
    · rcases List.mem_cons.1 hp with rfl | hp
      · exact rep_put (heap_off1 (by simp) (heap_off1 (by simp) (heap_off1 (by simp) (heap_off1 (by simp) HK2.out.h0))))
      · rcases List.mem_cons.1 hp with rfl | hp
        · exact heap_off1 (by simp) (heap_off1 (by simp) (ask_put HK2.out.tl.h0))
        · cases hp
    · exact ((((((HA3.out.put1 e1 _).put1 e1 _).put1 e1 _).put1 e1 _).put1 e2 _).put1 e2 _).more (by simp)
  obtain ⟨A3, c3, hK3, hA3⟩ := hcut
  obtain ⟨V, hV⟩ : ∃ V, V = wc := ⟨_, rfl⟩
  subst hV
  have HA3 := Lib.hid hA3
  have HF2 := Lib.hid (fun (w1 : World) (hb : Below V.heap.size V w1) => Few30_any st L A3 c3 w1 (by unfold maxLen; omega) hfb (HA3.out.on hb).isIn)
  rw [hid] at HF2
  clear hA3 K0 HF HAS hid hfn hfb
  have HO1 := Lib.hid (fun (A1 : Option Addr) (c1 : Nat) (w1 : World) (hw : Below w.heap.size w w1) (h1 : ParsAt w1 w1.heap.size A1 L) => Of30_any u2 cr nc md st L A1 c1 k w1 (HT.out w1 hw) hf h1.isIn)
  have HO2 := Lib.hid (fun (w1 : World) (hb : Below V.heap.size V w1) (hw : Below w.heap.size w w1) => rOf30_any u2 cr nc md st L A3 c3 k w1 (HT.out w1 hw) hf (HA3.out.on hb).isIn)
  generalize ofL cr nc md st L k = y at *
  obtain ⟨v, s⟩ := y
  dsimp only at HO1 HO2
  unfold askV repV judV at HO1 HO2
  unfold repV at HF2
  have HK3 := Lib.hid hK3
  obtain ⟨r0, r1, -, rz⟩ := rep_cells HK3.out.h0
  obtain ⟨a0, a1, a2, a3, -, az⟩ := ask_cells HK3.out.tl.h0
  have HB_0 := Lib.hid (show Below V.heap.size V V.drew from (Below.refl _ _).drew)
  clear hK3 hf
  go_upto_region 2 with fail
  refine wp_region_N 14 (fun w' => w'.cell? ⟨w.heap.size, 0, none⟩ = some (.string u2) ∧ w'.cell? ⟨w.heap.size, 1, none⟩ = some (.bool cr) ∧ w'.cell? ⟨w.heap.size, 2, none⟩ = some (.bool nc) ∧ w'.cell? ⟨w.heap.size, 3, none⟩ = some (.int .i64 md) ∧ w'.cell? ⟨w.heap.size + 1, 0, none⟩ = some (.int .i64 st) ∧ w'.cell? ⟨w.heap.size + 1, 1, none⟩ = some (.slice A3 L.length c3)) (by kernel_rfl) (by kernel_rfl) ⟨a0, a1, a2, a3, r0, r1⟩ ?_
  (refine NJ.take (i := 0) (v := ?_) rfl rfl (by kernel_rfl) (by kernel_rfl) (by kernel_rfl) (by kernel_rfl) (fun _ _ _ h => h) (Or.inl ⟨by rfl, ?_⟩) ?_; rotate_left; (focus (intro wS hSw; (try dsimp only at hSw); go_simp; first | done | with_reducible rfl)); (try simp only [Act.put, List.getElem_toArray, List.getElem_cons_zero, List.getElem_cons_succ, List.setIfInBounds_toArray, List.set_cons_zero, List.set_cons_succ]))
  (refine NJ.take (i := 1) (v := ?_) rfl rfl (by kernel_rfl) (by kernel_rfl) (by kernel_rfl) (by kernel_rfl) (fun _ _ _ h => h) (Or.inl ⟨by rfl, ?_⟩) ?_; rotate_left; (focus (intro wS hSw; (try dsimp only at hSw); go_simp; first | done | with_reducible rfl)); (try simp only [Act.put, List.getElem_toArray, List.getElem_cons_zero, List.getElem_cons_succ, List.setIfInBounds_toArray, List.set_cons_zero, List.set_cons_succ]))
  (refine NJ.take (i := 3) (v := ?_) rfl rfl (by kernel_rfl) (by kernel_rfl) (by kernel_rfl) (by kernel_rfl) (fun _ _ _ h => h) (Or.inl ⟨by rfl, ?_⟩) ?_; rotate_left; (focus (intro wS hSw; (try dsimp only at hSw); go_simp; first | done | with_reducible rfl)); (try simp only [Act.put, List.getElem_toArray, List.getElem_cons_zero, List.getElem_cons_succ, List.setIfInBounds_toArray, List.set_cons_zero, List.set_cons_succ]))
  (refine NJ.take (i := 5) (v := ?_) rfl rfl (by kernel_rfl) (by kernel_rfl) (by kernel_rfl) (by kernel_rfl) (fun _ _ _ h => h) (Or.inl ⟨by rfl, ?_⟩) ?_; rotate_left; (focus (intro wS hSw; (try dsimp only at hSw); go_simp; first | done | with_reducible rfl)); (try simp only [Act.put, List.getElem_toArray, List.getElem_cons_zero, List.getElem_cons_succ, List.setIfInBounds_toArray, List.set_cons_zero, List.set_cons_succ]))
  (refine NJ.take (i := 6) (v := ?_) rfl rfl (by kernel_rfl) (by kernel_rfl) (by kernel_rfl) (by kernel_rfl) (fun _ _ _ h => h) (Or.inl ⟨by rfl, ?_⟩) ?_; rotate_left; (focus (intro wS hSw; (try dsimp only at hSw); go_simp; first | done | with_reducible rfl)); (try simp only [Act.put, List.getElem_toArray, List.getElem_cons_zero, List.getElem_cons_succ, List.setIfInBounds_toArray, List.set_cons_zero, List.set_cons_succ]))
  (refine NJ.take (i := 7) (v := ?_) rfl rfl (by kernel_rfl) (by kernel_rfl) (by kernel_rfl) (by kernel_rfl) (fun _ _ _ h => h) (Or.inl ⟨by rfl, ?_⟩) ?_; rotate_left; (focus (intro wS hSw; (try dsimp only at hSw); go_simp; first | done | with_reducible rfl)); (try simp only [Act.put, List.getElem_toArray, List.getElem_cons_zero, List.getElem_cons_succ, List.setIfInBounds_toArray, List.set_cons_zero, List.set_cons_succ]))
  refine NJ.step (i := 2) rfl rfl (by kernel_rfl) (fun hSat K hK => ?_)
  go_simp
  refine Calls.mono (HF2.out _ HB_0.out) ?_
  rintro e w1 ⟨X1, x1, rfl, hx1, hb, -⟩
  have hbn := HB_0.out.trans (hb.mono HB_0.out.size)
  have HB_w1 := Lib.hid hbn
  have HX1 := Lib.hid hx1
  clear hx1
  clear hb
  go_wp2_with fail
  refine hK.out _ _ ?_ ?_
  · exact ⟨(cell_below hbn az).trans a0, (cell_below hbn az).trans a1, (cell_below hbn az).trans a2, (cell_below hbn az).trans a3, (cell_below hbn rz).trans r0, (cell_below hbn rz).trans r1⟩
  clear hK hSat K
  (try simp only [Act.put, List.getElem_toArray, List.getElem_cons_zero, List.getElem_cons_succ, List.setIfInBounds_toArray, List.set_cons_zero, List.set_cons_succ])
  clear hbn
  refine NJ.step (i := 4) rfl rfl (by kernel_rfl) (fun hSat K hK => ?_)
  go_simp
  refine Calls.mono (HO1.out _ _ _ (HK3.out.on HB_w1.out).b HX1.out) ?_
  rintro e w2 ⟨rfl, hb⟩
  have hbn := HB_w1.out.trans (hb.mono HB_w1.out.size)
  have HB_w2 := Lib.hid hbn
  clear hb
  go_wp2_with fail
  refine hK.out _ _ ?_ ?_
  · exact ⟨(cell_below hbn az).trans a0, (cell_below hbn az).trans a1, (cell_below hbn az).trans a2, (cell_below hbn az).trans a3, (cell_below hbn rz).trans r0, (cell_below hbn rz).trans r1⟩
  clear hK hSat K
  (try simp only [Act.put, List.getElem_toArray, List.getElem_cons_zero, List.getElem_cons_succ, List.setIfInBounds_toArray, List.set_cons_zero, List.set_cons_succ])
  clear hbn
  refine NJ.step (i := 8) rfl rfl (by kernel_rfl) (fun hSat K hK => ?_)
  go_simp
  refine Calls.mono (HO2.out _ HB_w2.out (HK3.out.on HB_w2.out).b) ?_
  rintro e w3 ⟨rfl, hb⟩
  have hbn := HB_w2.out.trans (hb.mono HB_w2.out.size)
  have HB_w3 := Lib.hid hbn
  clear hb
  go_wp2_with fail
  refine hK.out _ _ ?_ ?_
  · exact ⟨(cell_below hbn az).trans a0, (cell_below hbn az).trans a1, (cell_below hbn az).trans a2, (cell_below hbn az).trans a3, (cell_below hbn rz).trans r0, (cell_below hbn rz).trans r1⟩
  clear hK hSat K
  (try simp only [Act.put, List.getElem_toArray, List.getElem_cons_zero, List.getElem_cons_succ, List.setIfInBounds_toArray, List.set_cons_zero, List.set_cons_succ])
  clear hbn
  (refine NJ.take (i := 9) (v := ?_) rfl rfl (by kernel_rfl) (by kernel_rfl) (by kernel_rfl) (by kernel_rfl) (fun _ _ _ h => h) (Or.inl ⟨by rfl, ?_⟩) ?_; rotate_left; (focus (intro wS hSw; (try dsimp only at hSw); go_simp; first | done | with_reducible rfl)); (try simp only [Act.put, List.getElem_toArray, List.getElem_cons_zero, List.getElem_cons_succ, List.setIfInBounds_toArray, List.set_cons_zero, List.set_cons_succ]))
  (refine NJ.take (i := 10) (v := ?_) rfl rfl (by kernel_rfl) (by kernel_rfl) (by kernel_rfl) (by kernel_rfl) (fun _ _ _ h => h) (Or.inl ⟨by rfl, ?_⟩) ?_; rotate_left; (focus (intro wS hSw; (try dsimp only at hSw); go_simp; first | done | with_reducible rfl)); (try simp only [Act.put, List.getElem_toArray, List.getElem_cons_zero, List.getElem_cons_succ, List.setIfInBounds_toArray, List.set_cons_zero, List.set_cons_succ]))
  refine NJ.step (i := 11) rfl rfl (by kernel_rfl) (fun hSat K hK => ?_)
  go_simp
  refine Calls.mono (lives30_any _ (HT.out _ (HK3.out.on HB_w3.out).b)) ?_
  rintro e w4 ⟨rfl, hb⟩
  have hbn := HB_w3.out.trans (hb.mono HB_w3.out.size)
  have HB_w4 := Lib.hid hbn
  clear hb
  go_wp2_with fail
  refine hK.out _ _ ?_ ?_
  · exact ⟨(cell_below hbn az).trans a0, (cell_below hbn az).trans a1, (cell_below hbn az).trans a2, (cell_below hbn az).trans a3, (cell_below hbn rz).trans r0, (cell_below hbn rz).trans r1⟩
  clear hK hSat K
  (try simp only [Act.put, List.getElem_toArray, List.getElem_cons_zero, List.getElem_cons_succ, List.setIfInBounds_toArray, List.set_cons_zero, List.set_cons_succ])
  clear hbn
  (refine NJ.take (i := 12) (v := ?_) rfl rfl (by kernel_rfl) (by kernel_rfl) (by kernel_rfl) (by kernel_rfl) (fun _ _ _ h => h) (Or.inl ⟨by rfl, ?_⟩) ?_; rotate_left; (focus (intro wS hSw; (try dsimp only at hSw); go_simp; first | done | with_reducible rfl)); (try simp only [Act.put, List.getElem_toArray, List.getElem_cons_zero, List.getElem_cons_succ, List.setIfInBounds_toArray, List.set_cons_zero, List.set_cons_succ]))
  (refine NJ.take (i := 13) (v := ?_) rfl rfl (by kernel_rfl) (by kernel_rfl) (by kernel_rfl) (by kernel_rfl) (fun _ _ _ h => h) (Or.inl ⟨by rfl, ?_⟩) ?_; rotate_left; (focus (intro wS hSw; (try dsimp only at hSw); go_simp; first | done | with_reducible rfl)); (try simp only [Act.put, List.getElem_toArray, List.getElem_cons_zero, List.getElem_cons_succ, List.setIfInBounds_toArray, List.set_cons_zero, List.set_cons_succ]))
  refine NJ.done (by kernel_rfl) (fun hSat => ?_)
  clear hSat
  go_wp2_with fail
  go_ret
  exact ⟨by simp, (HK3.out.on HB_w4.out).b⟩

end Go.Proofs.YtcbhkcdphbffpaaGreatDoor
