/-
  The walk of the law MimeParams.
-/
import Derived.Test.YtigclegknofhmaaLawMimeWrites
namespace Go.Proofs.Ytigclegknofhmaa
open Go.RowKit
set_option linter.unusedSimpArgs false
set_option linter.unusedVariables false

theorem cut_list (s : ByteArray) (k : Nat) : ∃ l : List UInt8, cutB s k = bt l ∧ l.length ≤ k := by
  refine ⟨(cutB s k).data.toList, rfl, ?_⟩
  rw [← Lib.size_eq, cutB_size]
  omega

/-- What Param answers. -/
theorem param_says (m : MimeL) (n : List UInt8) (hm : SizesM m) : ∃ (pv : List UInt8) (ok : Bool), ((atL m.ps n < 0 ∧ ok = false ∧ pv = []) ∨ (∃ k, ∃ (h : k < m.ps.length), atL m.ps n = (k : Int) ∧ ok = true ∧ pv = m.ps[k].2)) ∧
    ∀ (A : Option Addr) (c : Nat) (w : World), ParsAt w w.heap.size A m.ps → Calls Try.prog 22 #[mimV m A c, .string (bt n)] w fun e w' => e = .returned (.tuple #[.string (bt pv), .bool ok]) ∧ Below w.heap.size w w' := by
  by_cases h : atL m.ps n < 0
  · exact ⟨[], false, .inl ⟨h, rfl, rfl⟩, fun A c w hA => Param_no m A c (bt n) w hm hA h⟩
  · have hlt := (atL_ge m.ps n).2
    obtain ⟨k, hk⟩ : ∃ k : Nat, atL m.ps n = (k : Int) := ⟨(atL m.ps n).toNat, by omega⟩
    have hk2 : k < m.ps.length := by omega
    exact ⟨m.ps[k].2, true, .inr ⟨k, hk2, hk, rfl, rfl⟩, fun A c w hA => Param_yes m A c (bt n) w hm hA k hk hk2⟩

set_option maxHeartbeats 4000000 in
set_option maxRecDepth 20000 in
theorem mimeParams_walk (m : MimeL) (A : Option Addr) (c : Nat) (nm vl : ByteArray) (w : World) (hm : BigM m) (hn : nm.size ≤ maxLen) (hv : vl.size ≤ maxLen) (hA : ParsIn w w.heap.size A m.ps) :
    Calls Try.prog 5 #[mimV m A c, .string nm, .string vl] w fun e w' => e = .returned (.bool true) ∧ Below w.heap.size w w' := by
  obtain ⟨i0, hi, hz0, hz1, hz2⟩ := info_parts infoPar
  have HI := Lib.hid hi; have HZ0 := Lib.hid hz0; have HZ1 := Lib.hid hz1; have HZ2 := Lib.hid hz2
  clear hi hz0 hz1 hz2
  obtain ⟨n, hcn, hnl⟩ := cut_list nm 20
  obtain ⟨v, hcv, hvl⟩ := cut_list vl 30
  have HCN : Hid (∀ w, Calls Try.prog 8 #[.string nm, .int .i64 20] w fun e w' => e = .returned (.string (bt n)) ∧ w = w') := Lib.hid (fun w => by rw [← hcn]; exact Cut_any nm 20 w hn (by decide))
  have HCV : Hid (∀ w, Calls Try.prog 8 #[.string vl, .int .i64 30] w fun e w' => e = .returned (.string (bt v)) ∧ w = w') := Lib.hid (fun w => by rw [← hcv]; exact Cut_any vl 30 w hv (by decide))
  have HFM := Lib.hid (fun (w1 : World) (hb : Below w.heap.size w w1) => Few10_any m A c w1 hm (hA.on hb))
  have hmz := fewM_sizes m
  have hmb : BigM (fewM m) := by obtain ⟨a, b, c, d⟩ := fewM_big m; exact ⟨a, b, c, d⟩
  have hmi := fewM_idem m
  have hm6 : (fewM m).ps.length ≤ 6 := by simp [fewM]; omega
  clear hm hn hv hA hcn hcv
  unfold mimV at HFM ⊢
  generalize fewM m = m2 at *
  have hb0 : Below w.heap.size w (w.alloc (.cells #[.string (bt m.t), .string (bt m.s), .slice A m.ps.length c] 48)) := below_box w _
  have HP0 : Hid ((w.alloc (.cells #[.string (bt m.t), .string (bt m.s), .slice A m.ps.length c] 48)).heap[w.heap.size]? = some (.cells #[.string (bt m.t), .string (bt m.s), .slice A m.ps.length c] 48 (0, 0))) := Lib.hid (heap_alloc_new w _)
  go_enter Try.func5, Try.ntmps5
  go_upto_region 1 with fail
  generalize w.alloc (.cells #[.string (bt m.t), .string (bt m.s), .slice A m.ps.length c] 48) = W at *
  obtain ⟨p0, p1, p2, pz⟩ := box_cells HP0.out
  have HB0 := Lib.hid hb0
  clear hb0
  go_wp2_with fail
  refine Calls.mono (HFM.out _ HB0.out) ?_
  rintro e w1 ⟨A1, c1, rfl, hA1, hb1, hg1⟩
  have HB1 := Lib.hid (HB0.out.trans (hb1.mono HB0.out.size))
  have HP1 := Lib.hid ((hb1.block _ pz).trans HP0.out)
  have HA1 := Lib.hid hA1
  have hfar : ∀ g, A1 = some ⟨g, 0, none⟩ → w.heap.size ≠ g := fun g hg => by have := hg1 g hg; omega
  have HFR := Lib.hid hfar
  clear hA1 hb1 hg1 p0 p1 p2 hfar
  obtain ⟨p0, p1, p2, pz1⟩ := box_cells HP1.out
  have fz : ∀ i, w1.frozen? ⟨w.heap.size, i, none⟩ = false := fun i => Lib.frozen_of_heap HP1.out i
  go_upto_region 2 with (first | (go_at_call 8; (with_reducible refine (HCN.out _).mono ?_); rintro e w' ⟨rfl, rfl⟩) | (go_at_call 8; (with_reducible refine (HCV.out _).mono ?_); rintro e w' ⟨rfl, rfl⟩))
  have HPV : Hid ((((w1.setCell ⟨w.heap.size, 0, none⟩ (.string (bt m2.t))).setCell ⟨w.heap.size, 1, none⟩ (.string (bt m2.s))).setCell ⟨w.heap.size, 2, none⟩ (.slice A1 m2.ps.length c1)).heap[w.heap.size]? = some (.cells #[.string (bt m2.t), .string (bt m2.s), .slice A1 m2.ps.length c1] 48 (0, 0))) := Lib.hid (heap_set3 HP1.out)
  have HAV : Hid (ParsAt (((w1.setCell ⟨w.heap.size, 0, none⟩ (.string (bt m2.t))).setCell ⟨w.heap.size, 1, none⟩ (.string (bt m2.s))).setCell ⟨w.heap.size, 2, none⟩ (.slice A1 m2.ps.length c1)) _ A1 m2.ps) := Lib.hid ((HA1.out.set3 HFR.out _ _ _).more (B' := (((w1.setCell ⟨w.heap.size, 0, none⟩ (.string (bt m2.t))).setCell ⟨w.heap.size, 1, none⟩ (.string (bt m2.s))).setCell ⟨w.heap.size, 2, none⟩ (.slice A1 m2.ps.length c1)).heap.size) (by simp))
  have HBV : Hid (Below w.heap.size w (((w1.setCell ⟨w.heap.size, 0, none⟩ (.string (bt m2.t))).setCell ⟨w.heap.size, 1, none⟩ (.string (bt m2.s))).setCell ⟨w.heap.size, 2, none⟩ (.slice A1 m2.ps.length c1))) := Lib.hid (((HB1.out.setCell (by simp) _).setCell (by simp) _).setCell (by simp) _)
  clear p0 p1 p2 pz fz HCN HCV HFM HP0 HP1 HB0 HB1 HA1 HFR pz1
  generalize ((w1.setCell ⟨w.heap.size, 0, none⟩ (.string (bt m2.t))).setCell ⟨w.heap.size, 1, none⟩ (.string (bt m2.s))).setCell ⟨w.heap.size, 2, none⟩ (.slice A1 m2.ps.length c1) = V at *
  obtain ⟨pv, ok, hcase, hpr⟩ := param_says m2 n hmz
  have HPR := Lib.hid hpr
  clear hpr
  have HF := Lib.hid (fun (w1 : World) (hb : Below V.heap.size V w1) => Few10_any m2 A1 c1 w1 hmb (HAV.out.on hb).isIn)
  have HFO := Lib.hid (fun (w1 : World) (hb : Below V.heap.size V w1) => Few10_own m2 A1 c1 w1 hmb (HAV.out.on hb).isIn)
  rw [hmi] at HF HFO
  unfold mimV at HF HFO HPR
  have HAT := Lib.hid (fun (w1 : World) (hb : Below V.heap.size V w1) => rAt_par m2 A1 c1 (bt n) w1 hmz (HAV.out.on hb))
  rw [bt_list] at HAT
  unfold mimV at HAT
  obtain ⟨p0, p1, p2, pz⟩ := box_cells HPV.out
  go_wp2_with fail
  refine Calls.mono (HF.out _ (Below.refl _ _)) ?_
  rintro e w2 ⟨X2, x2, rfl, hx2, hb2, -⟩
  have HX2 := Lib.hid hx2
  have HB2 := Lib.hid hb2
  clear hx2 hb2
  go_wp2_with fail
  refine Calls.mono (HPR.out _ _ _ HX2.out) ?_
  rintro e w3 ⟨rfl, hb3⟩
  have hb3v := HB2.out.trans (hb3.mono HB2.out.size)
  have HB3 := Lib.hid hb3v
  rw [← cell_below hb3v pz] at p0 p1 p2
  clear hb3 hb3v HX2
  go_wp2_with fail
  refine Calls.mono (HAT.out _ HB3.out) ?_
  rintro e w4 ⟨rfl, hb4⟩
  have hb4v := HB3.out.trans (hb4.mono HB3.out.size)
  have HB4 := Lib.hid hb4v
  have HP4 := Lib.hid ((hb4v.block _ pz).trans HPV.out)
  have hA4 := HAV.out.on hb4v
  have HA4 := Lib.hid hA4
  clear hb4 hb4v p0 p1 p2
  obtain ⟨p0, p1, p2, pz4⟩ := box_cells HP4.out
  go_upto_region 4 with fail
  generalize hal : atL m2.ps n = al at *
  have HAL := Lib.hid hal
  clear hal
  go_cut [54] (fun u wx => u = .bool false ∧ w4 = wx)
  case first =>
    rcases hcase with ⟨hlt, rfl, rfl⟩ | ⟨k, hk, hke, rfl, rfl⟩
    · have hge : ¬ (0 ≤ al) := by omega
      have hb0 : bt [] = (⟨#[]⟩ : ByteArray) := rfl
      rw [hb0]
      clear hb0
      go_wp2_with fail
      go_meet
      exact ⟨by first | rfl | simp, rfl⟩
    · have hge : 0 ≤ al := by omega
      rcases hA4 with hnil | ⟨g, rfl, hg, hcs⟩
      · rw [hnil] at hk; simp at hk
      obtain ⟨k0, k1⟩ := hcs k hk
      have hk2 : al < (m2.ps.length : Int) := by omega
      subst hke
      have HKK := Lib.hid hk
      clear hcs
      generalize m2.ps[k].2 = z at *
      go_wp2_with fail
      go_meet
      exact ⟨by first | rfl | simp, rfl⟩
  obtain ⟨rfl, rfl⟩ := hcut
  clear hcase hA4 p0 p1 p2
  obtain ⟨p0, p1, p2, pz4⟩ := box_cells HP4.out
  have HWI := Lib.hid (fun (w1 : World) (X : Option Addr) (x : Nat) (h : ParsAt w1 w1.heap.size X m2.ps) => With_par m2 X x n v w1 hmz (by omega) (by omega) (by omega) h)
  have hwz := withM_sizes (n := n) (v := v) hmz (by omega) (by omega) (by omega)
  have hrz : SizesM (withR m2 n v).1 := by
    unfold withR
    split
    · exact hwz
    · split
      · exact noM_sizes
      · exact noM_sizes
  obtain ⟨R, hR⟩ : ∃ R, withR m2 n v = R := ⟨_, rfl⟩
  have HR := Lib.hid hR
  rw [hR] at HWI hrz
  clear hR
  obtain ⟨RM, code⟩ := R
  dsimp only at HWI hrz
  unfold mimV at HWI
  go_wp2_with fail
  refine Calls.mono (HF.out _ HB4.out) ?_
  rintro e w5 ⟨X5, x5, rfl, hx5, hb5, -⟩
  have HX5 := Lib.hid hx5
  have HB5 := Lib.hid (HB4.out.trans (hb5.mono HB4.out.size))
  clear hx5 hb5 p0 p1 p2 pz4
  go_wp2_with fail
  refine Calls.mono (HWI.out _ _ _ HX5.out) ?_
  rintro e w6 ⟨A6, c6, rfl, hA6, hb6⟩
  have hbx := below_box w6 (.cells #[.string (bt RM.t), .string (bt RM.s), .slice A6 RM.ps.length c6] 48)
  have hb7 := (HB5.out.trans (hb6.mono HB5.out.size)).trans (hbx.mono (Nat.le_trans HB5.out.size hb6.size))
  have HB7 := Lib.hid hb7
  have HA7 := Lib.hid (hA6.on hbx)
  have HE7 : Hid ((w6.alloc (.cells #[.string (bt RM.t), .string (bt RM.s), .slice A6 RM.ps.length c6] 48)).heap[w6.heap.size]? = some (.cells #[.string (bt RM.t), .string (bt RM.s), .slice A6 RM.ps.length c6] 48 (0, 0))) := Lib.hid (heap_alloc_new w6 _)
  have HP7 := Lib.hid ((hb7.block _ pz).trans HPV.out)
  clear hA6 hb6 hbx hb7 HX5 HB5 HWI HP4 HA4
  go_upto_region 7 with fail
  generalize hB : w6.heap.size = E at *
  generalize w6.alloc (.cells #[.string (bt RM.t), .string (bt RM.s), .slice A6 RM.ps.length c6] 48) = w7 at *
  clear hB
  obtain ⟨p0, p1, p2, pz7⟩ := box_cells HP7.out
  go_wp2_with fail
  refine Calls.mono (HFO.out _ HB7.out) ?_
  rintro e w8 ⟨X8, x8, rfl, hx8, hb8, -, ho8⟩
  have hbx := below_box w8 (.cells #[.string (bt m2.t), .string (bt m2.s), .slice X8 m2.ps.length x8] 48)
  have hb9 := hb8.trans (hbx.mono hb8.size)
  have hbv := HB7.out.trans (hb9.mono HB7.out.size)
  have HB9 := Lib.hid hbv
  have HB79 := Lib.hid hb9
  have HE9 := Lib.hid ((hb9.block _ (box_cells HE7.out).2.2.2).trans HE7.out)
  have HA9 := Lib.hid (HA7.out.on hb9)
  have HP9 := Lib.hid ((hbv.block _ pz).trans HPV.out)
  have HD9 : Hid ((w8.alloc (.cells #[.string (bt m2.t), .string (bt m2.s), .slice X8 m2.ps.length x8] 48)).heap[w8.heap.size]? = some (.cells #[.string (bt m2.t), .string (bt m2.s), .slice X8 m2.ps.length x8] 48 (0, 0))) := Lib.hid (heap_alloc_new w8 _)
  have HO9 := Lib.hid (World.ownsRow.alloc ho8 (.cells #[.string (bt m2.t), .string (bt m2.s), .slice X8 m2.ps.length x8] 48))
  have HSZ9 : Hid (w7.heap.size ≤ w8.heap.size) := Lib.hid hb8.size
  have HDE : Hid (E < w8.heap.size) := Lib.hid (Nat.lt_of_lt_of_le (box_cells HE7.out).2.2.2 hb8.size)
  have HE7W : Hid (E < w7.heap.size) := Lib.hid (box_cells HE7.out).2.2.2
  have HDO : Hid (∀ q, (Value.slice X8 m2.ps.length x8).ownBlock = some q → q < w8.heap.size) := Lib.hid (fun q hq => (World.ownsRow.lt ho8 q hq).2)
  clear hx8 hb8 hbx hb9 hbv ho8 p0 p1 p2 pz7 HFO
  go_upto_region 8 with fail
  generalize hB : w8.heap.size = D at *
  generalize w8.alloc (.cells #[.string (bt m2.t), .string (bt m2.s), .slice X8 m2.ps.length x8] 48) = w9 at *
  clear hB
  obtain ⟨d0, d1, d2, dz⟩ := box_cells HD9.out
  have hbn := below_box w9 (.cells #[.string (bt n), .string (bt v)] 54)
  have K0 := Lib.hid (World.ownsRow.alloc HO9.out (.cells #[.string (bt n), .string (bt v)] 54))
  have K1 := Lib.hid (par_cells_new w9 (n, v) 54)
  have K2 := Lib.hid (show ∀ u ∈ parCells (n, v), u.oneCell' = true from by intro u hu; simp [parCells] at hu; rcases hu with rfl | rfl <;> rfl)
  have K3 := Lib.hid (show m2.ps.length + 1 ≤ maxLen from by unfold maxLen; omega)
  have K4 := Lib.hid (show (m2.ps.length + 1) * 32 ≤ 140737488355328 from by omega)
  have K5 : Hid (w7.heap.size ≤ (w9.alloc (.cells #[.string (bt n), .string (bt v)] 54)).heap.size) := Lib.hid (by have h1 := HSZ9.out; simp; omega)
  have K6 : Hid (∀ w10 q ob, (w9.alloc (.cells #[.string (bt n), .string (bt v)] 54)).grownBy w10 (Value.slice X8 m2.ps.length x8).ownBlock → q < w9.heap.size → (q < w7.heap.size ∨ q = D) → w9.heap[q]? = some ob → w10.heap[q]? = some ob) :=
    Lib.hid (fun w10 q ob hg hq hw hqb => (hg.block q (by simp; omega) (fun e => by
      have h1 := (HO9.out.lt q e.symm).1
      have h2 := HDO.out q e.symm
      omega)).trans (heap_old _ _ hqb))
  have K7 := Lib.hid (HB9.out.trans (hbn.mono HB9.out.size))
  clear hbn
  go_upto_region 9 with (at_builtin; go_must (refine wpList_append_lies _ rfl (.tmp 66) (.tmp 70) 46 rfl w7.heap.size 54 i0 (.agg #[.string ByteArray.empty, .string ByteArray.empty]) 2 32 Try.underlying46 HI.out HZ0.out HZ1.out HZ2.out rfl (by decide) (.slice X8 m2.ps.length x8) m2.ps.length (rowQ m2.ps) rfl K0.out ⟨w9.heap.size, 0, none⟩ 1 1 (parCells (n, v)) rfl rfl K1.out K2.out (by decide) K3.out K4.out K5.out _ rfl ?_; intro g3 c3 w10 hown hgrow hat hlt3; have hf10 := K6.out w10 D _ hgrow dz (.inr rfl) HD9.out; have y2 : w10.cell? ⟨D, 2, none⟩ = some (.slice X8 m2.ps.length x8) := (by rw [Lib.cell_of_heap hf10]; rfl); have yz : ∀ i, w10.frozen? ⟨D, i, none⟩ = false := (fun i => Lib.frozen_of_heap hf10 i); have HF10 := Lib.hid hf10; have HO10 := Lib.hid hown; have HG10 := Lib.hid hgrow; have HT10 := Lib.hid hat; clear hown hgrow hat hf10))
  have hne : (Value.slice (some ⟨g3, 0, none⟩) (m2.ps.length + 1) c3).ownBlock ≠ some D := own_ne_of HT10.out (fun e => absurd (HDO.out D e) (Nat.lt_irrefl _)) (by simp; omega)
  obtain ⟨y1, yo⟩ := row_laid HF10.out HO10.out hne
  have hD7 : w7.heap.size ≤ D := HSZ9.out
  have hb711 : Below w7.heap.size w7 (w10.setCell ⟨D, 2, none⟩ (.slice (some ⟨g3, 0, none⟩) (m2.ps.length + 1) c3)) :=
    (((HB79.out.alloc (by have := HB79.out.size; omega) (.cells #[.string (bt n), .string (bt v)] 54)).grown HG10.out (by have := HB79.out.size; simp; omega) (fun j hj => (HO9.out.lt j hj).1)).setCell (p := ⟨D, 2, none⟩) hD7 _)
  have HY := Lib.hid y1
  have hl1 : (withM m2 n v).ps.length = m2.ps.length + 1 := by simp [withM]
  have HPA := Lib.hid (pars_stands (l := (withM m2 n v).ps) (by rw [withM, rowQ_snoc]; exact yo) hl1.symm)
  have HB11 := Lib.hid (HB7.out.trans (hb711.mono HB7.out.size))
  have HE11 := Lib.hid ((hb711.block _ (box_cells HE7.out).2.2.2).trans HE7.out)
  have HP11 := Lib.hid ((hb711.block _ (box_cells HP7.out).2.2.2).trans HP7.out)
  have HA11 := Lib.hid (HA7.out.on hb711)
  clear hne y1 yo hD7 hb711 y2 yz d0 d1 d2 dz K0 K1 K2 K3 K4 K5 K6 K7 HO9 HO10 HG10 HT10 HF10 HDO HDE HE7W HSZ9 HB79 HB9 HE9 HA9 HP9 HD9 HE7 HA7 HP7 HB7
  generalize w10.setCell ⟨D, 2, none⟩ (.slice (some ⟨g3, 0, none⟩) (m2.ps.length + 1) c3) = w11 at *
  obtain ⟨d0, d1, d2, dz⟩ := box_cells HY.out
  have HRG := Lib.hid (rGood_par (withM m2 n v) (some ⟨g3, 0, none⟩) c3 w11 hwz HPA.out)
  unfold mimV at HRG
  rw [hl1] at HRG
  have htw : (withM m2 n v).t = m2.t := rfl
  have hsw : (withM m2 n v).s = m2.s := rfl
  rw [htw, hsw] at HRG
  go_wp2_with fail
  refine HRG.out.mono ?_
  rintro e w12 ⟨rfl, hb12⟩
  have HB12 := Lib.hid (HB11.out.trans (hb12.mono HB11.out.size))
  have HY12 := Lib.hid ((hb12.block _ dz).trans HY.out)
  have HE12 := Lib.hid ((hb12.block _ (box_cells HE11.out).2.2.2).trans HE11.out)
  have HP12 := Lib.hid ((hb12.block _ (box_cells HP11.out).2.2.2).trans HP11.out)
  have HA12 := Lib.hid (HA11.out.on hb12)
  have HPA12 := Lib.hid (HPA.out.on hb12)
  clear hb12 d0 d1 d2 dz HRG HY HE11 HP11 HA11 HPA HB11
  obtain ⟨d0, d1, d2, dz⟩ := box_cells HY12.out
  obtain ⟨e0, e1, e2, ez⟩ := box_cells HE12.out
  cases hg : goodL (withM m2 n v)
  · have hR2 : (RM, code) = if goodL m2 && decide (0 ≤ atL m2.ps n) && quoL v then (noM, 7) else (noM, 2) := by rw [← HR.out]; simp [withR, hg]
    rw [HAL.out] at hR2
    have HR2 := Lib.hid hR2
    clear hR2
    have HRM := Lib.hid (rGood_par m2 A1 c1 w12 hmz (HAV.out.on HB12.out))
    unfold mimV at HRM
    have HQU := Lib.hid (fun w => r10Quoted_any (bt v) w (by rw [bt_size]; unfold maxLen; omega))
    rw [bt_list] at HQU
    obtain ⟨p0, p1, p2, pz12⟩ := box_cells HP12.out
    clear d0 d1 d2 dz e0 e1 e2 ez
    go_upto_region 12 with fail
    go_cut [94] (fun u wx => u = .bool (goodL m2 && decide (0 ≤ al) && quoL v) ∧ Below w12.heap.size w12 wx)
    case first =>
      go_wp2_with fail
      refine HRM.out.mono ?_
      rintro e w13 ⟨rfl, hb13⟩
      have HB13 := Lib.hid hb13
      clear hb13 p0 p1 p2 pz12
      cases hgm : goodL m2
      · go_wp2_with fail
        go_meet
        exact ⟨by rw [hgm]; rfl, HB13.out⟩
      · by_cases hge : 0 ≤ al
        · have hd : decide (0 ≤ al) = true := decide_eq_true hge
          have HD := Lib.hid hd
          clear hd
          go_wp2_with (go_at_call 28; (with_reducible refine (HQU.out _).mono ?_); rintro e w' ⟨rfl, rfl⟩)
          go_meet
          exact ⟨by rw [hgm, HD.out]; simp, HB13.out⟩
        · have hd : decide (0 ≤ al) = false := decide_eq_false hge
          have hlt : al < 0 := by omega
          have HD := Lib.hid hd
          clear hd hge
          go_wp2_with fail
          go_meet
          exact ⟨by rw [hgm, HD.out]; rfl, HB13.out⟩
    obtain ⟨rfl, hbw⟩ := hcut
    have HBW := Lib.hid hbw
    have HBX := Lib.hid (HB12.out.trans (hbw.mono HB12.out.size))
    have HEX := Lib.hid ((hbw.block _ (box_cells HE12.out).2.2.2).trans HE12.out)
    clear hbw p0 p1 p2 pz12 HRM HQU
    have hb0 : bt [] = (⟨#[]⟩ : ByteArray) := rfl
    have hnt : bt noM.t = (⟨#[]⟩ : ByteArray) := rfl
    have hns : bt noM.s = (⟨#[]⟩ : ByteArray) := rfl
    have hnp : noM.ps.length = 0 := rfl
    generalize (goodL m2 && decide (0 ≤ al) && quoL v) = cond at *
    cases cond
    · have h2 := HR2.out
      simp only [Bool.false_eq_true, if_false, Prod.mk.injEq] at h2
      obtain ⟨rfl, rfl⟩ := h2
      obtain ⟨e0, e1, e2, ez⟩ := box_cells HEX.out
      rw [hnt] at e0
      rw [hns] at e1
      rw [hnp] at e2
      have HSA := Lib.hid (rSame_par noM noM A6 none c6 0 wc noM_sizes noM_sizes (HA12.out.on HBW.out) (.inl rfl))
      rw [sameM_self] at HSA
      unfold mimV noM at HSA
      simp only [List.length_nil] at HSA
      rw [hb0] at HSA
      skip
      go_wp2_with fail
      refine HSA.out.mono ?_
      rintro e w13 ⟨rfl, hb13⟩
      have HB13 := Lib.hid (HBX.out.trans (hb13.mono HBX.out.size))
      clear hb13 e0 e1 e2 ez HSA
      go_wp2_with fail
      refine (lives10_any _).mono ?_
      rintro e w14 ⟨rfl, hb14⟩
      have HB14 := Lib.hid (HB13.out.trans (hb14.mono HB13.out.size))
      clear hb14
      go_wp2_with fail
      go_ret
      exact ⟨rfl, HBV.out.trans (HB14.out.mono HBV.out.size)⟩
    · have h2 := HR2.out
      simp only [if_true, Prod.mk.injEq] at h2
      obtain ⟨rfl, rfl⟩ := h2
      obtain ⟨e0, e1, e2, ez⟩ := box_cells HEX.out
      rw [hnt] at e0
      rw [hns] at e1
      rw [hnp] at e2
      have HSA := Lib.hid (rSame_par noM noM A6 none c6 0 wc noM_sizes noM_sizes (HA12.out.on HBW.out) (.inl rfl))
      rw [sameM_self] at HSA
      unfold mimV noM at HSA
      simp only [List.length_nil] at HSA
      rw [hb0] at HSA
      skip
      go_wp2_with fail
      refine HSA.out.mono ?_
      rintro e w13 ⟨rfl, hb13⟩
      have HB13 := Lib.hid (HBX.out.trans (hb13.mono HBX.out.size))
      clear hb13 e0 e1 e2 ez HSA
      go_wp2_with fail
      refine (lives10_any _).mono ?_
      rintro e w14 ⟨rfl, hb14⟩
      have HB14 := Lib.hid (HB13.out.trans (hb14.mono HB13.out.size))
      clear hb14
      go_wp2_with fail
      go_ret
      exact ⟨rfl, HBV.out.trans (HB14.out.mono HBV.out.size)⟩
  · have hR2 : (RM, code) = (withM m2 n v, 0) := by rw [← HR.out]; simp [withR, hg]
    simp only [Prod.mk.injEq] at hR2
    obtain ⟨rfl, rfl⟩ := hR2
    have HSA := Lib.hid (rSame_par (withM m2 n v) (withM m2 n v) A6 (some ⟨g3, 0, none⟩) c6 c3 w12 hwz hwz HA12.out HPA12.out)
    rw [sameM_self] at HSA
    unfold mimV at HSA
    rw [hl1, htw, hsw] at HSA
    rw [hl1] at e2
    rw [htw] at e0
    rw [hsw] at e1
    go_wp2_with fail
    refine HSA.out.mono ?_
    rintro e w13 ⟨rfl, hb13⟩
    have HB13 := Lib.hid (HB12.out.trans (hb13.mono HB12.out.size))
    clear hb13 d0 d1 d2 dz e0 e1 e2 ez HSA
    go_wp2_with fail
    refine (lives10_any _).mono ?_
    rintro e w14 ⟨rfl, hb14⟩
    have HB14 := Lib.hid (HB13.out.trans (hb14.mono HB13.out.size))
    clear hb14
    go_wp2_with fail
    go_ret
    exact ⟨rfl, HBV.out.trans (HB14.out.mono HBV.out.size)⟩

end Go.Proofs.Ytigclegknofhmaa
