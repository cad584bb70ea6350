/-
  Lemmas of this claim, part 8: the texts LawPartialMay, one behind the other.
-/
import Derived.Test.YtfdacmccdipohaaM7

namespace Go.Proofs.Ytfdacmccdipohaa
open Go.RowKit
set_option linter.unusedSimpArgs false
set_option linter.unusedVariables false

theorem rep_put2 {w : World} {g : Nat} {st st2 : Int} {A A2 : Option Addr} {n c n2 c2 : Nat} (h : w.heap[g]? = some (repO st A n c)) : ((w.setCell ⟨g, 0, none⟩ (.int .i64 st2)).setCell ⟨g, 1, none⟩ (.slice A2 n2 c2)).heap[g]? = some (repO st2 A2 n2 c2) := by
  simp [World.setCell, Array.getElem?_modify, h, repO]

set_option maxHeartbeats 2000000 in
set_option maxRecDepth 20000 in
theorem partialMay_walk (st : Int) (l : Pars) (A : Option Addr) (c : Nat) (k m : Bool) (w : World) (hlm : l.length ≤ maxLen) (hps : ∀ p ∈ l, (bt p.1).size ≤ maxLen ∧ (bt p.2).size ≤ maxLen) (hA : ParsIn w w.heap.size A l) :
    Calls Try.prog 3 #[repV st A l.length c, .bool k, .bool m] w fun e w' => e = .returned (.bool true) ∧ Below w.heap.size w w' := by
  have HF := Lib.hid (fun (w1 : World) (hb : Below w.heap.size w w1) => Few30_any st l A c w1 hlm hps (hA.on hb))
  have hf := fewHs_fewR l
  have hid := fewHs_idem 8 l
  generalize fewHs 8 l = L at *
  have hfn := hf.n
  clear hlm hps hA
  have hb := below_box w (.cells #[.int .i64 st, .slice A l.length c] 24)
  have hP : (w.alloc (.cells #[.int .i64 st, .slice A l.length c] 24)).heap[w.heap.size]? = some (repO st A l.length c) := heap_alloc_new w _
  unfold repV at HF ⊢
  go_enter Try.func3, Try.ntmps3
  go_upto_region 1 with fail
  generalize w.alloc (.cells #[.int .i64 st, .slice A l.length c] 24) = W at *
  obtain ⟨p0, p1, pf, pz⟩ := rep_cells hP
  go_wp2_with fail
  refine (HF.out W hb).mono ?_
  rintro e w1 ⟨A2, c2, rfl, hA2, hbn, hfr⟩
  clear p0 p1 pf
  replace hP := (hbn.block _ pz).trans hP
  obtain ⟨p0, p1, pf, -⟩ := rep_cells hP
  have hne : ∀ g, A2 = some ⟨g, 0, none⟩ → w.heap.size ≠ g := fun g hg => by have := hfr g hg; omega
  have hP2 := rep_put2 (st2 := st) (A2 := A2) (n2 := L.length) (c2 := c2) hP
  have hA3 := ((hA2.put1 (p := ⟨w.heap.size, 0, none⟩) hne (.int .i64 st)).put1 (p := ⟨w.heap.size, 1, none⟩) hne (.slice A2 L.length c2)).more (B' := ((w1.setCell ⟨w.heap.size, 0, none⟩ (.int .i64 st)).setCell ⟨w.heap.size, 1, none⟩ (.slice A2 L.length c2)).heap.size) (by simp)
  have hB3 : Below w.heap.size w ((w1.setCell ⟨w.heap.size, 0, none⟩ (.int .i64 st)).setCell ⟨w.heap.size, 1, none⟩ (.slice A2 L.length c2)) := ((hb.trans (hbn.mono hb.size)).setCell (Nat.le_refl _) _).setCell (Nat.le_refl _) _
  clear hP hA2 hbn hfr hne hb HF
  go_upto_region 2 with fail
  generalize (w1.setCell ⟨w.heap.size, 0, none⟩ (.int .i64 st)).setCell ⟨w.heap.size, 1, none⟩ (.slice A2 L.length c2) = V at *
  clear p0 p1 pf pz
  have HA3 := Lib.hid hA3
  have HB3 := Lib.hid hB3
  have HF2 := Lib.hid (fun (w1 : World) (hb : Below V.heap.size V w1) => Few30_any st L A2 c2 w1 (by unfold maxLen; omega) (fewR_big hf) (HA3.out.on hb).isIn)
  rw [hid] at HF2
  have HM1 := Lib.hid (fun (A1 : Option Addr) (c1 : Nat) (w1 : World) (h1 : ParsAt w1 w1.heap.size A1 L) => May_any st L A1 c1 k m w1 hf h1.isIn)
  have HM2 := Lib.hid (fun (w1 : World) (hb : Below V.heap.size V w1) => rMay_any st L A2 c2 k m w1 hf (HA3.out.on hb).isIn)
  generalize mayB st k m (firstL L) = q at *
  unfold repV at HF2 HM1 HM2
  obtain ⟨p0, p1, -, pz⟩ := rep_cells hP2
  have HBC0 := Lib.hid (show Below V.heap.size V V.drew from (Below.refl _ _).drew)
  clear hP2 hA3 hB3 hf hid hfn
  refine wp_region_N 14 (fun w' => w'.cell? ⟨w.heap.size, 0, none⟩ = some (.int .i64 st) ∧ w'.cell? ⟨w.heap.size, 1, none⟩ = some (.slice A2 L.length c2)) (by kernel_rfl) (by kernel_rfl) ⟨p0, p1⟩ ?_
  (refine NJ.take (i := 0) (v := ?_) rfl rfl (by kernel_rfl) (by kernel_rfl) (by kernel_rfl) (by kernel_rfl) (fun _ _ _ h => h) (Or.inl ⟨by rfl, ?_⟩) ?_; rotate_left; (focus (intro wS hSw; (try dsimp only at hSw); go_simp; first | done | with_reducible rfl)); (try simp only [Act.put, List.getElem_toArray, List.getElem_cons_zero, List.getElem_cons_succ, List.setIfInBounds_toArray, List.set_cons_zero, List.set_cons_succ]))
  (refine NJ.take (i := 2) (v := ?_) rfl rfl (by kernel_rfl) (by kernel_rfl) (by kernel_rfl) (by kernel_rfl) (fun _ _ _ h => h) (Or.inl ⟨by rfl, ?_⟩) ?_; rotate_left; (focus (intro wS hSw; (try dsimp only at hSw); go_simp; first | done | with_reducible rfl)); (try simp only [Act.put, List.getElem_toArray, List.getElem_cons_zero, List.getElem_cons_succ, List.setIfInBounds_toArray, List.set_cons_zero, List.set_cons_succ]))
  (refine NJ.take (i := 3) (v := ?_) rfl rfl (by kernel_rfl) (by kernel_rfl) (by kernel_rfl) (by kernel_rfl) (fun _ _ _ h => h) (Or.inl ⟨by rfl, ?_⟩) ?_; rotate_left; (focus (intro wS hSw; (try dsimp only at hSw); go_simp; first | done | with_reducible rfl)); (try simp only [Act.put, List.getElem_toArray, List.getElem_cons_zero, List.getElem_cons_succ, List.setIfInBounds_toArray, List.set_cons_zero, List.set_cons_succ]))
  (refine NJ.take (i := 5) (v := ?_) rfl rfl (by kernel_rfl) (by kernel_rfl) (by kernel_rfl) (by kernel_rfl) (fun _ _ _ h => h) (Or.inl ⟨by rfl, ?_⟩) ?_; rotate_left; (focus (intro wS hSw; (try dsimp only at hSw); go_simp; first | done | with_reducible rfl)); (try simp only [Act.put, List.getElem_toArray, List.getElem_cons_zero, List.getElem_cons_succ, List.setIfInBounds_toArray, List.set_cons_zero, List.set_cons_succ]))
  (refine NJ.take (i := 6) (v := ?_) rfl rfl (by kernel_rfl) (by kernel_rfl) (by kernel_rfl) (by kernel_rfl) (fun _ _ _ h => h) (Or.inl ⟨by rfl, ?_⟩) ?_; rotate_left; (focus (intro wS hSw; (try dsimp only at hSw); go_simp; first | done | with_reducible rfl)); (try simp only [Act.put, List.getElem_toArray, List.getElem_cons_zero, List.getElem_cons_succ, List.setIfInBounds_toArray, List.set_cons_zero, List.set_cons_succ]))
  (refine NJ.take (i := 7) (v := ?_) rfl rfl (by kernel_rfl) (by kernel_rfl) (by kernel_rfl) (by kernel_rfl) (fun _ _ _ h => h) (Or.inl ⟨by rfl, ?_⟩) ?_; rotate_left; (focus (intro wS hSw; (try dsimp only at hSw); go_simp; first | done | with_reducible rfl)); (try simp only [Act.put, List.getElem_toArray, List.getElem_cons_zero, List.getElem_cons_succ, List.setIfInBounds_toArray, List.set_cons_zero, List.set_cons_succ]))
  refine NJ.step (i := 1) rfl rfl (by kernel_rfl) (fun hSat K hK => ?_)
  go_simp
  refine Calls.mono (HF2.out _ HBC0.out) ?_
  rintro e w1 ⟨X1, x1, rfl, hx1, hb1, -⟩
  have hbn := HBC0.out.trans (hb1.mono HBC0.out.size)
  have HBC1 := Lib.hid hbn
  have HX1 := Lib.hid hx1
  clear hx1 hb1
  go_wp2_with fail
  refine hK.out _ _ ?_ ?_
  · exact ⟨(cell_below hbn pz).trans p0, (cell_below hbn pz).trans p1⟩
  clear hK hSat K
  (try simp only [Act.put, List.getElem_toArray, List.getElem_cons_zero, List.getElem_cons_succ, List.setIfInBounds_toArray, List.set_cons_zero, List.set_cons_succ])
  clear hbn
  refine NJ.step (i := 4) rfl rfl (by kernel_rfl) (fun hSat K hK => ?_)
  go_simp
  refine Calls.mono (HM1.out _ _ _ HX1.out) ?_
  rintro e w2 ⟨rfl, hb2⟩
  have hbn := HBC1.out.trans (hb2.mono HBC1.out.size)
  have HBC2 := Lib.hid hbn
  clear hb2
  go_wp2_with fail
  refine hK.out _ _ ?_ ?_
  · exact ⟨(cell_below hbn pz).trans p0, (cell_below hbn pz).trans p1⟩
  clear hK hSat K
  (try simp only [Act.put, List.getElem_toArray, List.getElem_cons_zero, List.getElem_cons_succ, List.setIfInBounds_toArray, List.set_cons_zero, List.set_cons_succ])
  clear hbn
  refine NJ.step (i := 8) rfl rfl (by kernel_rfl) (fun hSat K hK => ?_)
  go_simp
  refine Calls.mono (HM2.out _ HBC2.out) ?_
  rintro e w3 ⟨rfl, hb3⟩
  have hbn := HBC2.out.trans (hb3.mono HBC2.out.size)
  have HBC3 := Lib.hid hbn
  clear hb3
  go_wp2_with fail
  refine hK.out _ _ ?_ ?_
  · exact ⟨(cell_below hbn pz).trans p0, (cell_below hbn pz).trans p1⟩
  clear hK hSat K
  (try simp only [Act.put, List.getElem_toArray, List.getElem_cons_zero, List.getElem_cons_succ, List.setIfInBounds_toArray, List.set_cons_zero, List.set_cons_succ])
  clear hbn
  (refine NJ.take (i := 9) (v := ?_) rfl rfl (by kernel_rfl) (by kernel_rfl) (by kernel_rfl) (by kernel_rfl) (fun _ _ _ h => h) (Or.inl ⟨by rfl, ?_⟩) ?_; rotate_left; (focus (intro wS hSw; (try dsimp only at hSw); go_simp; first | done | with_reducible rfl)); (try simp only [Act.put, List.getElem_toArray, List.getElem_cons_zero, List.getElem_cons_succ, List.setIfInBounds_toArray, List.set_cons_zero, List.set_cons_succ]))
  (refine NJ.take (i := 10) (v := ?_) rfl rfl (by kernel_rfl) (by kernel_rfl) (by kernel_rfl) (by kernel_rfl) (fun _ _ _ h => h) (Or.inl ⟨by rfl, ?_⟩) ?_; rotate_left; (focus (intro wS hSw; (try dsimp only at hSw); go_simp; first | done | with_reducible rfl)); (try simp only [Act.put, List.getElem_toArray, List.getElem_cons_zero, List.getElem_cons_succ, List.setIfInBounds_toArray, List.set_cons_zero, List.set_cons_succ]))
  refine NJ.step (i := 11) rfl rfl (by kernel_rfl) (fun hSat K hK => ?_)
  go_simp
  refine Calls.mono (lives35_any _) ?_
  rintro e w4 ⟨rfl, hb4⟩
  have hbn := HBC3.out.trans (hb4.mono HBC3.out.size)
  have HBC4 := Lib.hid hbn
  clear hb4
  go_wp2_with fail
  refine hK.out _ _ ?_ ?_
  · exact ⟨(cell_below hbn pz).trans p0, (cell_below hbn pz).trans p1⟩
  clear hK hSat K
  (try simp only [Act.put, List.getElem_toArray, List.getElem_cons_zero, List.getElem_cons_succ, List.setIfInBounds_toArray, List.set_cons_zero, List.set_cons_succ])
  clear hbn
  (refine NJ.take (i := 12) (v := ?_) rfl rfl (by kernel_rfl) (by kernel_rfl) (by kernel_rfl) (by kernel_rfl) (fun _ _ _ h => h) (Or.inl ⟨by rfl, ?_⟩) ?_; rotate_left; (focus (intro wS hSw; (try dsimp only at hSw); go_simp; first | done | with_reducible rfl)); (try simp only [Act.put, List.getElem_toArray, List.getElem_cons_zero, List.getElem_cons_succ, List.setIfInBounds_toArray, List.set_cons_zero, List.set_cons_succ]))
  (refine NJ.take (i := 13) (v := ?_) rfl rfl (by kernel_rfl) (by kernel_rfl) (by kernel_rfl) (by kernel_rfl) (fun _ _ _ h => h) (Or.inl ⟨by rfl, ?_⟩) ?_; rotate_left; (focus (intro wS hSw; (try dsimp only at hSw); go_simp; first | done | with_reducible rfl)); (try simp only [Act.put, List.getElem_toArray, List.getElem_cons_zero, List.getElem_cons_succ, List.setIfInBounds_toArray, List.set_cons_zero, List.set_cons_succ]))
  refine NJ.done (by kernel_rfl) (fun hSat => ?_)
  clear hSat
  go_wp2_with fail
  go_ret
  exact ⟨by simp, HB3.out.trans (HBC4.out.mono HB3.out.size)⟩

end Go.Proofs.Ytfdacmccdipohaa
