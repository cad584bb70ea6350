/-
  Walks of the statements on headers: headers, somewhat cut.
-/
import Derived.Test.YtjlemghmpnkncaaHeadG
namespace Go.Proofs.Ytjlemghmpnkncaa
open Go.RowKit
set_option linter.unusedSimpArgs false
set_option linter.unusedVariables false

theorem infoHead : (Try.prog.info? 78).map (fun i => (i.zero, i.size, i.bytes)) = some (some (.agg #[.string ByteArray.empty, .string ByteArray.empty]), 2, 32) := by kernel_rfl

def fewH (p : List UInt8 × List UInt8) : List UInt8 × List UInt8 := (p.1.take 30, p.2.take 100)

/-- Headers, somewhat cut. -/
def fewHs (n : Nat) (l : Pars) : Pars := (l.take n).map fewH

theorem fewH_snoc (l : Pars) (n : Nat) (h : n < l.length) : rowQ ((l.take (n + 1)).map fewH) = rowQ ((l.take n).map fewH) ++ parCells (fewH l[n]) := by
  rw [← rowQ_snoc]
  congr 1
  rw [← List.take_append_getElem h, List.map_append]
  rfl

theorem fewHs_idem (n : Nat) (l : Pars) : fewHs n (fewHs n l) = fewHs n l := by
  unfold fewHs
  rw [← List.map_take, List.take_take, Nat.min_self, List.map_map]
  apply List.map_congr_left
  intro p _
  simp [fewH, List.take_take]

theorem fewHs_sizes (n : Nat) (l : Pars) : (fewHs n l).length ≤ n ∧ ∀ p ∈ fewHs n l, p.1.length ≤ 30 ∧ p.2.length ≤ 100 := by
  unfold fewHs
  refine ⟨by simp; omega, ?_⟩
  intro p hp
  simp only [List.mem_map] at hp
  obtain ⟨q, _, rfl⟩ := hp
  simp [fewH]
  omega

set_option maxHeartbeats 4000000 in
set_option maxRecDepth 20000 in
theorem Few22_any (l : Pars) (m : Nat) (A : Option Addr) (c : Nat) (w : World) (hm : m ≤ 1000) (hlm : l.length ≤ maxLen) (hps : ∀ p ∈ l, (bt p.1).size ≤ maxLen ∧ (bt p.2).size ≤ maxLen) (hA : ParsIn w w.heap.size A l) :
    Calls Try.prog 24 #[.slice A l.length c, .int .i64 m] w fun e w' => ∃ A2 c2, e = .returned (.slice A2 (fewHs m l).length c2) ∧ ParsAt w' w'.heap.size A2 (fewHs m l) ∧ Below w.heap.size w w' := by
  obtain ⟨i0, hi, hz0, hz1, hz2⟩ := info_parts infoHead
  have HI := Lib.hid hi; have HZ0 := Lib.hid hz0; have HZ1 := Lib.hid hz1; have HZ2 := Lib.hid hz2
  clear hi hz0 hz1 hz2
  have HPS := Lib.hid hps
  have HA := Lib.hid hA
  clear hA hps
  go_enter Try.func24, Try.ntmps24
  go_wp2
  go_loopw [5, 6] (fun v i wr => ∃ n : Nat, n ≤ l.length ∧ n ≤ m ∧ i = .int .i64 n ∧ wr.ownsRow w.heap.size 78 2 v n (rowQ ((l.take n).map fewH)) ∧ Below w.heap.size w wr) (fun _ i _ => m - (intOf i).toNat)
  case atStart => exact ⟨0, Nat.zero_le _, Nat.zero_le _, rfl, by simpa [rowQ] using World.ownsRow_lit (base := w.heap.size) (e := 78) (size := 2) w #[] 0 (Nat.le_refl _) (Nat.zero_le _) rfl, (Below.refl _ _).alloc (Nat.le_refl _) _⟩
  case round =>
    obtain ⟨n, hn, hnm, rfl, hrow, hb⟩ := hrel
    by_cases hlt : n < l.length ∧ n < m
    · obtain ⟨hlt1, hlt2⟩ := hlt
      rcases HA.out.below hb with hnil | ⟨g, off, rfl, hg, hcs⟩
      · rw [hnil] at hlt1; simp at hlt1
      obtain ⟨c0, c1⟩ := hcs n hlt1
      have hz := hb.size
      have HB := Lib.hid hb
      have HROW := Lib.hid hrow
      have hsz := HPS.out l[n] (List.getElem_mem _)
      have C30 : Hid (∀ w, Calls Try.prog 14 #[.string (bt l[n].1), .int .i64 30] w fun e w' => e = .returned (.string (bt (l[n].1.take 30))) ∧ w = w') := Lib.hid (fun w => by have := Cut_any (bt l[n].1) 30 w hsz.1 (by decide); rw [cut_bt] at this; exact this)
      have C100 : Hid (∀ w, Calls Try.prog 14 #[.string (bt l[n].2), .int .i64 100] w fun e w' => e = .returned (.string (bt (l[n].2.take 100))) ∧ w = w') := Lib.hid (fun w => by have := Cut_any (bt l[n].2) 100 w hsz.2 (by decide); rw [cut_bt] at this; exact this)
      clear hcs hb hrow hsz
      have K0 : Hid ((wr.alloc (.cells #[.string (bt (l[n].1.take 30)), .string (bt (l[n].2.take 100))] 78)).drew.ownsRow w.heap.size 78 2 u5 n (rowQ ((l.take n).map fewH))) := Lib.hid (HROW.out.alloc _)
      have K1 : Hid (∀ (j : Nat) (u : Value), (parCells (fewH l[n]))[j]? = some u → (wr.alloc (.cells #[.string (bt (l[n].1.take 30)), .string (bt (l[n].2.take 100))] 78)).drew.cell? ((⟨wr.heap.size, 0, none⟩ : Addr).add j) = some u) := Lib.hid (par_cells_new wr (fewH l[n]) 78)
      have K2 := Lib.hid (show ∀ u ∈ parCells (fewH l[n]), u.oneCell' = true from by intro u hu; simp [parCells] at hu; rcases hu with rfl | rfl <;> rfl)
      have K3 := Lib.hid (show n + 1 ≤ maxLen from by unfold maxLen; omega)
      have K4 := Lib.hid (show (n + 1) * 32 ≤ 140737488355328 from by omega)
      have K5 : Hid (w.heap.size ≤ (wr.alloc (.cells #[.string (bt (l[n].1.take 30)), .string (bt (l[n].2.take 100))] 78)).drew.heap.size) := Lib.hid (by simp; omega)
      have K6 : Hid ((wr.alloc (.cells #[.string (bt (l[n].1.take 30)), .string (bt (l[n].2.take 100))] 78)).drew.heap.size = wr.heap.size + 1) := Lib.hid (by simp)
      go_upto_region 5 with fail
      refine wp_region_N 17 (fun w' => w'.cell? ⟨g, off + n * 2, none⟩ = some (.string (bt l[n].1)) ∧ w'.cell? ⟨g, off + n * 2 + 1, none⟩ = some (.string (bt l[n].2))) (by kernel_rfl) (by kernel_rfl) ⟨c0, c1⟩ ?_
      (refine NJ.take (i := 0) (v := ?_) rfl rfl (by kernel_rfl) (by kernel_rfl) (by kernel_rfl) (by kernel_rfl) (fun _ _ _ h => h) (Or.inl ⟨by rfl, ?_⟩) ?_; rotate_left; (focus (intro wS hSw; (try dsimp only at hSw); go_simp; first | done | with_reducible rfl)); (try simp only [Act.put, List.getElem_toArray, List.getElem_cons_zero, List.getElem_cons_succ, List.setIfInBounds_toArray, List.set_cons_zero, List.set_cons_succ]))
      (refine NJ.take (i := 1) (v := ?_) rfl rfl (by kernel_rfl) (by kernel_rfl) (by kernel_rfl) (by kernel_rfl) (fun _ _ _ h => h) (Or.inl ⟨by rfl, ?_⟩) ?_; rotate_left; (focus (intro wS hSw; (try dsimp only at hSw); go_simp; first | done | with_reducible rfl)); (try simp only [Act.put, List.getElem_toArray, List.getElem_cons_zero, List.getElem_cons_succ, List.setIfInBounds_toArray, List.set_cons_zero, List.set_cons_succ]))
      (refine NJ.take (i := 2) (v := ?_) rfl rfl (by kernel_rfl) (by kernel_rfl) (by kernel_rfl) (by kernel_rfl) (fun _ _ _ h => h) (Or.inl ⟨by rfl, ?_⟩) ?_; rotate_left; (focus (intro wS hSw; (try dsimp only at hSw); go_simp; first | done | with_reducible rfl)); (try simp only [Act.put, List.getElem_toArray, List.getElem_cons_zero, List.getElem_cons_succ, List.setIfInBounds_toArray, List.set_cons_zero, List.set_cons_succ]))
      (refine NJ.take (i := 3) (v := ?_) rfl rfl (by kernel_rfl) (by kernel_rfl) (by kernel_rfl) (by kernel_rfl) (fun _ _ _ h => h) (Or.inl ⟨by rfl, ?_⟩) ?_; rotate_left; (focus (intro wS hSw; (try dsimp only at hSw); go_simp; first | done | with_reducible rfl)); (try simp only [Act.put, List.getElem_toArray, List.getElem_cons_zero, List.getElem_cons_succ, List.setIfInBounds_toArray, List.set_cons_zero, List.set_cons_succ]))
      (refine NJ.take (i := 4) (v := ?_) rfl rfl (by kernel_rfl) (by kernel_rfl) (by kernel_rfl) (by kernel_rfl) (fun _ _ _ h => h) (Or.inl ⟨by rfl, ?_⟩) ?_; rotate_left; (focus (intro wS hSw; (try dsimp only at hSw); go_simp; first | done | with_reducible rfl)); (try simp only [Act.put, List.getElem_toArray, List.getElem_cons_zero, List.getElem_cons_succ, List.setIfInBounds_toArray, List.set_cons_zero, List.set_cons_succ]))
      (refine NJ.take (i := 5) (v := ?_) rfl rfl (by kernel_rfl) (by kernel_rfl) (by kernel_rfl) (by kernel_rfl) (fun _ _ _ h => h) (Or.inl ⟨by rfl, ?_⟩) ?_; rotate_left; (focus (intro wS hSw; (try dsimp only at hSw); go_simp; first | done | with_reducible rfl)); (try simp only [Act.put, List.getElem_toArray, List.getElem_cons_zero, List.getElem_cons_succ, List.setIfInBounds_toArray, List.set_cons_zero, List.set_cons_succ]))
      (refine NJ.take (i := 7) (v := ?_) rfl rfl (by kernel_rfl) (by kernel_rfl) (by kernel_rfl) (by kernel_rfl) (fun _ _ _ h => h) (Or.inl ⟨by rfl, ?_⟩) ?_; rotate_left; (focus (intro wS hSw; (try dsimp only at hSw); go_simp; first | done | with_reducible rfl)); (try simp only [Act.put, List.getElem_toArray, List.getElem_cons_zero, List.getElem_cons_succ, List.setIfInBounds_toArray, List.set_cons_zero, List.set_cons_succ]))
      (refine NJ.take (i := 8) (v := ?_) rfl rfl (by kernel_rfl) (by kernel_rfl) (by kernel_rfl) (by kernel_rfl) (fun _ _ _ h => h) (Or.inl ⟨by rfl, ?_⟩) ?_; rotate_left; (focus (intro wS hSw; (try dsimp only at hSw); go_simp; first | done | with_reducible rfl)); (try simp only [Act.put, List.getElem_toArray, List.getElem_cons_zero, List.getElem_cons_succ, List.setIfInBounds_toArray, List.set_cons_zero, List.set_cons_succ]))
      (refine NJ.take (i := 9) (v := ?_) rfl rfl (by kernel_rfl) (by kernel_rfl) (by kernel_rfl) (by kernel_rfl) (fun _ _ _ h => h) (Or.inl ⟨by rfl, ?_⟩) ?_; rotate_left; (focus (intro wS hSw; (try dsimp only at hSw); go_simp; first | done | with_reducible rfl)); (try simp only [Act.put, List.getElem_toArray, List.getElem_cons_zero, List.getElem_cons_succ, List.setIfInBounds_toArray, List.set_cons_zero, List.set_cons_succ]))
      (refine NJ.take (i := 10) (v := ?_) rfl rfl (by kernel_rfl) (by kernel_rfl) (by kernel_rfl) (by kernel_rfl) (fun _ _ _ h => h) (Or.inl ⟨by rfl, ?_⟩) ?_; rotate_left; (focus (intro wS hSw; (try dsimp only at hSw); go_simp; first | done | with_reducible rfl)); (try simp only [Act.put, List.getElem_toArray, List.getElem_cons_zero, List.getElem_cons_succ, List.setIfInBounds_toArray, List.set_cons_zero, List.set_cons_succ]))
      (refine NJ.take (i := 11) (v := ?_) rfl rfl (by kernel_rfl) (by kernel_rfl) (by kernel_rfl) (by kernel_rfl) (fun _ _ _ h => h) (Or.inl ⟨by rfl, ?_⟩) ?_; rotate_left; (focus (intro wS hSw; (try dsimp only at hSw); go_simp; first | done | with_reducible rfl)); (try simp only [Act.put, List.getElem_toArray, List.getElem_cons_zero, List.getElem_cons_succ, List.setIfInBounds_toArray, List.set_cons_zero, List.set_cons_succ]))
      (refine NJ.step (i := 6) rfl rfl (by kernel_rfl) (fun hSat K hK => ?_); go_simp; (go_at_call 14; (with_reducible refine (C30.out _).mono ?_); rintro e w' ⟨rfl, rfl⟩); go_wp2_with fail; refine hK.out _ _ ?_ ?_; (focus (exact hSat)); clear hK hSat K; (try simp only [Act.put, List.getElem_toArray, List.getElem_cons_zero, List.getElem_cons_succ, List.setIfInBounds_toArray, List.set_cons_zero, List.set_cons_succ]))
      (refine NJ.step (i := 12) rfl rfl (by kernel_rfl) (fun hSat K hK => ?_); go_simp; (go_at_call 14; (with_reducible refine (C100.out _).mono ?_); rintro e w' ⟨rfl, rfl⟩); go_wp2_with fail; refine hK.out _ _ ?_ ?_; (focus (exact hSat)); clear hK hSat K; (try simp only [Act.put, List.getElem_toArray, List.getElem_cons_zero, List.getElem_cons_succ, List.setIfInBounds_toArray, List.set_cons_zero, List.set_cons_succ]))
      (refine NJ.take (i := 13) (v := ?_) rfl rfl (by kernel_rfl) (by kernel_rfl) (by kernel_rfl) (by kernel_rfl) (fun _ _ _ h => h) (Or.inl ⟨by rfl, ?_⟩) ?_; rotate_left; (focus (intro wS hSw; (try dsimp only at hSw); go_simp; first | done | with_reducible rfl)); (try simp only [Act.put, List.getElem_toArray, List.getElem_cons_zero, List.getElem_cons_succ, List.setIfInBounds_toArray, List.set_cons_zero, List.set_cons_succ]))
      (refine NJ.step (i := 14) rfl rfl (by kernel_rfl) (fun hSat K hK => ?_); go_simp; refine hK.out _ _ ?_ ?_; (focus (first | exact hSat | go_keep)); clear hK hSat K; (try simp only [Act.put, List.getElem_toArray, List.getElem_cons_zero, List.getElem_cons_succ, List.setIfInBounds_toArray, List.set_cons_zero, List.set_cons_succ]))
      refine NJ.step (i := 15) rfl rfl (by kernel_rfl) (fun hSat K hK => ?_)
      refine step_append_lies _ rfl (.tmp 19) (.tmp 33) 49 rfl w.heap.size 78 i0 (.agg #[.string ByteArray.empty, .string ByteArray.empty]) 2 32 Try.underlying49 HI.out HZ0.out HZ1.out HZ2.out rfl (by decide) u5 n (rowQ ((l.take n).map fewH)) rfl K0.out ⟨wr.heap.size, 0, none⟩ 1 1 (parCells (fewH l[n])) rfl rfl K1.out K2.out (by decide) K3.out K4.out K5.out (wr.heap.size + 1) K6.out ?_
      intro g3 c3 w2 hown hgrow hat hlt3
      have HO := Lib.hid hown
      have HBW2 := Lib.hid (((HB.out.alloc hz (.cells #[.string (bt (l[n].1.take 30)), .string (bt (l[n].2.take 100))] 78)).drew).grown hgrow (by rw [K6.out]; omega) (fun j hj => (HROW.out.lt j hj).1))
      have t3 : w2.cell? ⟨g, off + n * 2, none⟩ = some (.string (bt l[n].1)) := (cell_below HBW2.out hg).trans ((cell_below HB.out hg).symm.trans c0)
      have t4 : w2.cell? ⟨g, off + n * 2 + 1, none⟩ = some (.string (bt l[n].2)) := (cell_below HBW2.out hg).trans ((cell_below HB.out hg).symm.trans c1)
      clear hown hgrow
      refine hK.out _ _ ⟨t3, t4⟩ ?_
      clear hK hSat K
      (try simp only [Act.put, List.getElem_toArray, List.getElem_cons_zero, List.getElem_cons_succ, List.setIfInBounds_toArray, List.set_cons_zero, List.set_cons_succ])
      (refine NJ.take (i := 16) (v := ?_) rfl rfl (by kernel_rfl) (by kernel_rfl) (by kernel_rfl) (by kernel_rfl) (fun _ _ _ h => h) (Or.inl ⟨by rfl, ?_⟩) ?_; rotate_left; (focus (intro wS hSw; (try dsimp only at hSw); go_simp; first | done | with_reducible rfl)); (try simp only [Act.put, List.getElem_toArray, List.getElem_cons_zero, List.getElem_cons_succ, List.setIfInBounds_toArray, List.set_cons_zero, List.set_cons_succ]))
      refine NJ.done (by kernel_rfl) (fun hSat => ?_)
      clear hSat t3 t4 c0 c1
      go_wp2_with fail
      go_roundw
      case rel => exact ⟨n + 1, by omega, by omega, by go_num, by rw [fewH_snoc l n hlt1]; exact HO.out, HBW2.out⟩
      case measure => simp [intOf]; omega
    · have ht : l.take n = l.take m := by
        by_cases h6 : n = m
        · rw [h6]
        · have : n = l.length := by omega
          rw [List.take_of_length_le (by omega), List.take_of_length_le (by omega)]
      rw [ht] at hrow
      have hlen : n = ((l.take m).map fewH).length := by
        rw [← ht, List.length_map, List.length_take]; omega
      obtain ⟨A2, c2, hv, hA2⟩ := pars_of_own hrow hlen
      have HL := Lib.hid hlen
      have HP := Lib.hid hA2
      have HB := Lib.hid hb
      rw [← hlen] at hv
      subst hv
      clear hrow hlen hA2 hb ht
      by_cases h1 : n < l.length
      · have h2 : ¬ n < m := fun h2 => hlt ⟨h1, h2⟩
        go_wp2_with fail
        go_ret
        exact ⟨A2, c2, by unfold fewHs; rw [← HL.out]; rfl, HP.out, HB.out⟩
      · go_wp2_with fail
        go_ret
        exact ⟨A2, c2, by unfold fewHs; rw [← HL.out]; rfl, HP.out, HB.out⟩

end Go.Proofs.Ytjlemghmpnkncaa
