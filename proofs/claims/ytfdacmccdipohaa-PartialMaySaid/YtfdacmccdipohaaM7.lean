/-
  Lemmas of this claim, part 7: the texts HeadA, HeadB, RangH, PartC, PartM, one behind the other.
-/
import Derived.Test.YtfdacmccdipohaaM6
import Derived.LoopN
import Derived.Deep.DeepCutAuto

namespace Go.Proofs.Ytfdacmccdipohaa
open Go.RowKit
set_option linter.unusedSimpArgs false
set_option linter.unusedVariables false

theorem infoHead : (Try.prog.info? 37).map (fun i => (i.zero, i.size, i.bytes)) = some (some (.agg #[.string ByteArray.empty, .string ByteArray.empty]), 2, 32) := by kernel_rfl

def fewH (p : List UInt8 × List UInt8) : List UInt8 × List UInt8 := (p.1.take 30, p.2.take 100)

/-- Headers, somewhat cut. -/
def fewHs (n : Nat) (l : Pars) : Pars := (l.take n).map fewH

theorem fewH_snoc (l : Pars) (n : Nat) (h : n < l.length) : rowQ ((l.take (n + 1)).map fewH) = rowQ ((l.take n).map fewH) ++ parCells (fewH l[n]) := by
  rw [← rowQ_snoc]
  congr 1
  rw [← List.take_append_getElem h, List.map_append]
  rfl

theorem fewHs_idem (n : Nat) (l : Pars) : fewHs n (fewHs n l) = fewHs n l := by
  unfold fewHs
  rw [← List.map_take, List.take_take, Nat.min_self, List.map_map]
  apply List.map_congr_left
  intro p _
  simp [fewH, List.take_take]

theorem fewHs_sizes (n : Nat) (l : Pars) : (fewHs n l).length ≤ n ∧ ∀ p ∈ fewHs n l, p.1.length ≤ 30 ∧ p.2.length ≤ 100 := by
  unfold fewHs
  refine ⟨by simp; omega, ?_⟩
  intro p hp
  simp only [List.mem_map] at hp
  obtain ⟨q, _, rfl⟩ := hp
  simp [fewH]
  omega

theorem row_fresh {w1 : World} {B : Nat} {A : Option Addr} {c m n : Nat} {e : TypeId} {v : Value} {xs : List Value} (h : w1.ownsRow B e 2 v n xs) (hv : v = .slice A m c) : ∀ g, A = some ⟨g, 0, none⟩ → B ≤ g := by
  intro g hg
  subst hv hg
  exact (World.ownsRow.lt h g rfl).1

set_option maxHeartbeats 4000000 in
set_option maxRecDepth 20000 in
theorem Few22_own (l : Pars) (m : Nat) (A : Option Addr) (c : Nat) (w : World) (hm : m ≤ 1000) (hlm : l.length ≤ maxLen) (hps : ∀ p ∈ l, (bt p.1).size ≤ maxLen ∧ (bt p.2).size ≤ maxLen) (hA : ParsIn w w.heap.size A l) :
    Calls Try.prog 8 #[.slice A l.length c, .int .i64 m] w fun e w' => ∃ A2 c2, e = .returned (.slice A2 (fewHs m l).length c2) ∧ ParsAt w' w'.heap.size A2 (fewHs m l) ∧ Below w.heap.size w w' ∧ ∀ g, A2 = some ⟨g, 0, none⟩ → w.heap.size ≤ g := by
  obtain ⟨i0, hi, hz0, hz1, hz2⟩ := info_parts infoHead
  have HI := Lib.hid hi; have HZ0 := Lib.hid hz0; have HZ1 := Lib.hid hz1; have HZ2 := Lib.hid hz2
  clear hi hz0 hz1 hz2
  have HPS := Lib.hid hps
  have HA := Lib.hid hA
  clear hA hps
  go_enter Try.func8, Try.ntmps8
  go_wp2
  go_loopw [5, 6] (fun v i wr => ∃ n : Nat, n ≤ l.length ∧ n ≤ m ∧ i = .int .i64 n ∧ wr.ownsRow w.heap.size 37 2 v n (rowQ ((l.take n).map fewH)) ∧ Below w.heap.size w wr) (fun _ i _ => m - (intOf i).toNat)
  case atStart => exact ⟨0, Nat.zero_le _, Nat.zero_le _, rfl, by simpa [rowQ] using World.ownsRow_lit (base := w.heap.size) (e := 37) (size := 2) w #[] 0 (Nat.le_refl _) (Nat.zero_le _) rfl, (Below.refl _ _).alloc (Nat.le_refl _) _⟩
  case round =>
    obtain ⟨n, hn, hnm, rfl, hrow, hb⟩ := hrel
    by_cases hlt : n < l.length ∧ n < m
    · obtain ⟨hlt1, hlt2⟩ := hlt
      rcases HA.out.below hb with hnil | ⟨g, off, rfl, hg, hcs⟩
      · rw [hnil] at hlt1; simp at hlt1
      obtain ⟨c0, c1⟩ := hcs n hlt1
      have hz := hb.size
      have HB := Lib.hid hb
      have HROW := Lib.hid hrow
      have hsz := HPS.out l[n] (List.getElem_mem _)
      have C30 : Hid (∀ w, Calls Try.prog 14 #[.string (bt l[n].1), .int .i64 30] w fun e w' => e = .returned (.string (bt (l[n].1.take 30))) ∧ w = w') := Lib.hid (fun w => by have := Cut_any (bt l[n].1) 30 w hsz.1 (by decide); rw [cut_bt] at this; exact this)
      have C100 : Hid (∀ w, Calls Try.prog 14 #[.string (bt l[n].2), .int .i64 100] w fun e w' => e = .returned (.string (bt (l[n].2.take 100))) ∧ w = w') := Lib.hid (fun w => by have := Cut_any (bt l[n].2) 100 w hsz.2 (by decide); rw [cut_bt] at this; exact this)
      clear hcs hb hrow hsz
      have K0 : Hid ((wr.alloc (.cells #[.string (bt (l[n].1.take 30)), .string (bt (l[n].2.take 100))] 37)).drew.ownsRow w.heap.size 37 2 u5 n (rowQ ((l.take n).map fewH))) := Lib.hid (HROW.out.alloc _)
      have K1 : Hid (∀ (j : Nat) (u : Value), (parCells (fewH l[n]))[j]? = some u → (wr.alloc (.cells #[.string (bt (l[n].1.take 30)), .string (bt (l[n].2.take 100))] 37)).drew.cell? ((⟨wr.heap.size, 0, none⟩ : Addr).add j) = some u) := Lib.hid (par_cells_new wr (fewH l[n]) 37)
      have K2 := Lib.hid (show ∀ u ∈ parCells (fewH l[n]), u.oneCell' = true from by intro u hu; simp [parCells] at hu; rcases hu with rfl | rfl <;> rfl)
      have K3 := Lib.hid (show n + 1 ≤ maxLen from by unfold maxLen; omega)
      have K4 := Lib.hid (show (n + 1) * 32 ≤ 140737488355328 from by omega)
      have K5 : Hid (w.heap.size ≤ (wr.alloc (.cells #[.string (bt (l[n].1.take 30)), .string (bt (l[n].2.take 100))] 37)).drew.heap.size) := Lib.hid (by simp; omega)
      have K6 : Hid ((wr.alloc (.cells #[.string (bt (l[n].1.take 30)), .string (bt (l[n].2.take 100))] 37)).drew.heap.size = wr.heap.size + 1) := Lib.hid (by simp)
      go_upto_region 5 with fail
      refine wp_region_N 17 (fun w' => w'.cell? ⟨g, off + n * 2, none⟩ = some (.string (bt l[n].1)) ∧ w'.cell? ⟨g, off + n * 2 + 1, none⟩ = some (.string (bt l[n].2))) (by kernel_rfl) (by kernel_rfl) ⟨c0, c1⟩ ?_
      (refine NJ.take (i := 0) (v := ?_) rfl rfl (by kernel_rfl) (by kernel_rfl) (by kernel_rfl) (by kernel_rfl) (fun _ _ _ h => h) (Or.inl ⟨by rfl, ?_⟩) ?_; rotate_left; (focus (intro wS hSw; (try dsimp only at hSw); go_simp; first | done | with_reducible rfl)); (try simp only [Act.put, List.getElem_toArray, List.getElem_cons_zero, List.getElem_cons_succ, List.setIfInBounds_toArray, List.set_cons_zero, List.set_cons_succ]))
      (refine NJ.take (i := 1) (v := ?_) rfl rfl (by kernel_rfl) (by kernel_rfl) (by kernel_rfl) (by kernel_rfl) (fun _ _ _ h => h) (Or.inl ⟨by rfl, ?_⟩) ?_; rotate_left; (focus (intro wS hSw; (try dsimp only at hSw); go_simp; first | done | with_reducible rfl)); (try simp only [Act.put, List.getElem_toArray, List.getElem_cons_zero, List.getElem_cons_succ, List.setIfInBounds_toArray, List.set_cons_zero, List.set_cons_succ]))
      (refine NJ.take (i := 2) (v := ?_) rfl rfl (by kernel_rfl) (by kernel_rfl) (by kernel_rfl) (by kernel_rfl) (fun _ _ _ h => h) (Or.inl ⟨by rfl, ?_⟩) ?_; rotate_left; (focus (intro wS hSw; (try dsimp only at hSw); go_simp; first | done | with_reducible rfl)); (try simp only [Act.put, List.getElem_toArray, List.getElem_cons_zero, List.getElem_cons_succ, List.setIfInBounds_toArray, List.set_cons_zero, List.set_cons_succ]))
      (refine NJ.take (i := 3) (v := ?_) rfl rfl (by kernel_rfl) (by kernel_rfl) (by kernel_rfl) (by kernel_rfl) (fun _ _ _ h => h) (Or.inl ⟨by rfl, ?_⟩) ?_; rotate_left; (focus (intro wS hSw; (try dsimp only at hSw); go_simp; first | done | with_reducible rfl)); (try simp only [Act.put, List.getElem_toArray, List.getElem_cons_zero, List.getElem_cons_succ, List.setIfInBounds_toArray, List.set_cons_zero, List.set_cons_succ]))
      (refine NJ.take (i := 4) (v := ?_) rfl rfl (by kernel_rfl) (by kernel_rfl) (by kernel_rfl) (by kernel_rfl) (fun _ _ _ h => h) (Or.inl ⟨by rfl, ?_⟩) ?_; rotate_left; (focus (intro wS hSw; (try dsimp only at hSw); go_simp; first | done | with_reducible rfl)); (try simp only [Act.put, List.getElem_toArray, List.getElem_cons_zero, List.getElem_cons_succ, List.setIfInBounds_toArray, List.set_cons_zero, List.set_cons_succ]))
      (refine NJ.take (i := 5) (v := ?_) rfl rfl (by kernel_rfl) (by kernel_rfl) (by kernel_rfl) (by kernel_rfl) (fun _ _ _ h => h) (Or.inl ⟨by rfl, ?_⟩) ?_; rotate_left; (focus (intro wS hSw; (try dsimp only at hSw); go_simp; first | done | with_reducible rfl)); (try simp only [Act.put, List.getElem_toArray, List.getElem_cons_zero, List.getElem_cons_succ, List.setIfInBounds_toArray, List.set_cons_zero, List.set_cons_succ]))
      (refine NJ.take (i := 7) (v := ?_) rfl rfl (by kernel_rfl) (by kernel_rfl) (by kernel_rfl) (by kernel_rfl) (fun _ _ _ h => h) (Or.inl ⟨by rfl, ?_⟩) ?_; rotate_left; (focus (intro wS hSw; (try dsimp only at hSw); go_simp; first | done | with_reducible rfl)); (try simp only [Act.put, List.getElem_toArray, List.getElem_cons_zero, List.getElem_cons_succ, List.setIfInBounds_toArray, List.set_cons_zero, List.set_cons_succ]))
      (refine NJ.take (i := 8) (v := ?_) rfl rfl (by kernel_rfl) (by kernel_rfl) (by kernel_rfl) (by kernel_rfl) (fun _ _ _ h => h) (Or.inl ⟨by rfl, ?_⟩) ?_; rotate_left; (focus (intro wS hSw; (try dsimp only at hSw); go_simp; first | done | with_reducible rfl)); (try simp only [Act.put, List.getElem_toArray, List.getElem_cons_zero, List.getElem_cons_succ, List.setIfInBounds_toArray, List.set_cons_zero, List.set_cons_succ]))
      (refine NJ.take (i := 9) (v := ?_) rfl rfl (by kernel_rfl) (by kernel_rfl) (by kernel_rfl) (by kernel_rfl) (fun _ _ _ h => h) (Or.inl ⟨by rfl, ?_⟩) ?_; rotate_left; (focus (intro wS hSw; (try dsimp only at hSw); go_simp; first | done | with_reducible rfl)); (try simp only [Act.put, List.getElem_toArray, List.getElem_cons_zero, List.getElem_cons_succ, List.setIfInBounds_toArray, List.set_cons_zero, List.set_cons_succ]))
      (refine NJ.take (i := 10) (v := ?_) rfl rfl (by kernel_rfl) (by kernel_rfl) (by kernel_rfl) (by kernel_rfl) (fun _ _ _ h => h) (Or.inl ⟨by rfl, ?_⟩) ?_; rotate_left; (focus (intro wS hSw; (try dsimp only at hSw); go_simp; first | done | with_reducible rfl)); (try simp only [Act.put, List.getElem_toArray, List.getElem_cons_zero, List.getElem_cons_succ, List.setIfInBounds_toArray, List.set_cons_zero, List.set_cons_succ]))
      (refine NJ.take (i := 11) (v := ?_) rfl rfl (by kernel_rfl) (by kernel_rfl) (by kernel_rfl) (by kernel_rfl) (fun _ _ _ h => h) (Or.inl ⟨by rfl, ?_⟩) ?_; rotate_left; (focus (intro wS hSw; (try dsimp only at hSw); go_simp; first | done | with_reducible rfl)); (try simp only [Act.put, List.getElem_toArray, List.getElem_cons_zero, List.getElem_cons_succ, List.setIfInBounds_toArray, List.set_cons_zero, List.set_cons_succ]))
      (refine NJ.step (i := 6) rfl rfl (by kernel_rfl) (fun hSat K hK => ?_); go_simp; (go_at_call 14; (with_reducible refine (C30.out _).mono ?_); rintro e w' ⟨rfl, rfl⟩); go_wp2_with fail; refine hK.out _ _ ?_ ?_; (focus (exact hSat)); clear hK hSat K; (try simp only [Act.put, List.getElem_toArray, List.getElem_cons_zero, List.getElem_cons_succ, List.setIfInBounds_toArray, List.set_cons_zero, List.set_cons_succ]))
      (refine NJ.step (i := 12) rfl rfl (by kernel_rfl) (fun hSat K hK => ?_); go_simp; (go_at_call 14; (with_reducible refine (C100.out _).mono ?_); rintro e w' ⟨rfl, rfl⟩); go_wp2_with fail; refine hK.out _ _ ?_ ?_; (focus (exact hSat)); clear hK hSat K; (try simp only [Act.put, List.getElem_toArray, List.getElem_cons_zero, List.getElem_cons_succ, List.setIfInBounds_toArray, List.set_cons_zero, List.set_cons_succ]))
      (refine NJ.take (i := 13) (v := ?_) rfl rfl (by kernel_rfl) (by kernel_rfl) (by kernel_rfl) (by kernel_rfl) (fun _ _ _ h => h) (Or.inl ⟨by rfl, ?_⟩) ?_; rotate_left; (focus (intro wS hSw; (try dsimp only at hSw); go_simp; first | done | with_reducible rfl)); (try simp only [Act.put, List.getElem_toArray, List.getElem_cons_zero, List.getElem_cons_succ, List.setIfInBounds_toArray, List.set_cons_zero, List.set_cons_succ]))
      (refine NJ.step (i := 14) rfl rfl (by kernel_rfl) (fun hSat K hK => ?_); go_simp; refine hK.out _ _ ?_ ?_; (focus (first | exact hSat | go_keep)); clear hK hSat K; (try simp only [Act.put, List.getElem_toArray, List.getElem_cons_zero, List.getElem_cons_succ, List.setIfInBounds_toArray, List.set_cons_zero, List.set_cons_succ]))
      refine NJ.step (i := 15) rfl rfl (by kernel_rfl) (fun hSat K hK => ?_)
      refine step_append_lies _ rfl (.tmp 19) (.tmp 33) 22 rfl w.heap.size 37 i0 (.agg #[.string ByteArray.empty, .string ByteArray.empty]) 2 32 Try.underlying22 HI.out HZ0.out HZ1.out HZ2.out rfl (by decide) u5 n (rowQ ((l.take n).map fewH)) rfl K0.out ⟨wr.heap.size, 0, none⟩ 1 1 (parCells (fewH l[n])) rfl rfl K1.out K2.out (by decide) K3.out K4.out K5.out (wr.heap.size + 1) K6.out ?_
      intro g3 c3 w2 hown hgrow hat hlt3
      have HO := Lib.hid hown
      have HBW2 := Lib.hid (((HB.out.alloc hz (.cells #[.string (bt (l[n].1.take 30)), .string (bt (l[n].2.take 100))] 37)).drew).grown hgrow (by rw [K6.out]; omega) (fun j hj => (HROW.out.lt j hj).1))
      have t3 : w2.cell? ⟨g, off + n * 2, none⟩ = some (.string (bt l[n].1)) := (cell_below HBW2.out hg).trans ((cell_below HB.out hg).symm.trans c0)
      have t4 : w2.cell? ⟨g, off + n * 2 + 1, none⟩ = some (.string (bt l[n].2)) := (cell_below HBW2.out hg).trans ((cell_below HB.out hg).symm.trans c1)
      clear hown hgrow
      refine hK.out _ _ ⟨t3, t4⟩ ?_
      clear hK hSat K
      (try simp only [Act.put, List.getElem_toArray, List.getElem_cons_zero, List.getElem_cons_succ, List.setIfInBounds_toArray, List.set_cons_zero, List.set_cons_succ])
      (refine NJ.take (i := 16) (v := ?_) rfl rfl (by kernel_rfl) (by kernel_rfl) (by kernel_rfl) (by kernel_rfl) (fun _ _ _ h => h) (Or.inl ⟨by rfl, ?_⟩) ?_; rotate_left; (focus (intro wS hSw; (try dsimp only at hSw); go_simp; first | done | with_reducible rfl)); (try simp only [Act.put, List.getElem_toArray, List.getElem_cons_zero, List.getElem_cons_succ, List.setIfInBounds_toArray, List.set_cons_zero, List.set_cons_succ]))
      refine NJ.done (by kernel_rfl) (fun hSat => ?_)
      clear hSat t3 t4 c0 c1
      go_wp2_with fail
      go_roundw
      case rel => exact ⟨n + 1, by omega, by omega, by go_num, by rw [fewH_snoc l n hlt1]; exact HO.out, HBW2.out⟩
      case measure => simp [intOf]; omega
    · have ht : l.take n = l.take m := by
        by_cases h6 : n = m
        · rw [h6]
        · have : n = l.length := by omega
          rw [List.take_of_length_le (by omega), List.take_of_length_le (by omega)]
      rw [ht] at hrow
      have hlen : n = ((l.take m).map fewH).length := by
        rw [← ht, List.length_map, List.length_take]; omega
      obtain ⟨A2, c2, hv, hA2⟩ := pars_of_own hrow hlen
      have HFR := Lib.hid (row_fresh hrow hv)
      have HL := Lib.hid hlen
      have HP := Lib.hid hA2
      have HB := Lib.hid hb
      rw [← hlen] at hv
      subst hv
      clear hrow hlen hA2 hb ht
      by_cases h1 : n < l.length
      · have h2 : ¬ n < m := fun h2 => hlt ⟨h1, h2⟩
        go_wp2_with fail
        go_ret
        exact ⟨A2, c2, by unfold fewHs; rw [← HL.out]; rfl, HP.out, HB.out, HFR.out⟩
      · go_wp2_with fail
        go_ret
        exact ⟨A2, c2, by unfold fewHs; rw [← HL.out]; rfl, HP.out, HB.out, HFR.out⟩

theorem Few22_any (l : Pars) (m : Nat) (A : Option Addr) (c : Nat) (w : World) (hm : m ≤ 1000) (hlm : l.length ≤ maxLen) (hps : ∀ p ∈ l, (bt p.1).size ≤ maxLen ∧ (bt p.2).size ≤ maxLen) (hA : ParsIn w w.heap.size A l) :
    Calls Try.prog 8 #[.slice A l.length c, .int .i64 m] w fun e w' => ∃ A2 c2, e = .returned (.slice A2 (fewHs m l).length c2) ∧ ParsAt w' w'.heap.size A2 (fewHs m l) ∧ Below w.heap.size w w' :=
  (Few22_own l m A c w hm hlm hps hA).mono fun e w' ⟨A2, c2, h1, h2, h3, _⟩ => ⟨A2, c2, h1, h2, h3⟩

end Go.Proofs.Ytfdacmccdipohaa

namespace Go.Proofs.Ytfdacmccdipohaa
open Go.RowKit
set_option linter.unusedSimpArgs false
set_option linter.unusedVariables false

/-- A header has a name. -/
def isName (name : ByteArray) (p : List UInt8 × List UInt8) : Bool := lowerL p.1 == lowerL name.data.toList

/-- The values of a name. -/
def getL (name : ByteArray) (l : Pars) : List ByteArray := (l.filter (isName name)).map (fun p => bt p.2)

theorem getL_snoc (name : ByteArray) (l : Pars) (k : Nat) (h : k < l.length) : getL name (l.take (k + 1)) = getL name (l.take k) ++ (if isName name l[k] = true then [bt l[k].2] else []) := by
  unfold getL
  rw [← List.take_append_getElem h, List.filter_append, List.map_append]
  congr 1
  by_cases hn : isName name l[k] = true
  · rw [List.filter_cons, if_pos hn, if_pos hn]; rfl
  · rw [List.filter_cons, if_neg hn, if_neg hn]; rfl

theorem getL_len (name : ByteArray) (l : Pars) : (getL name l).length ≤ l.length := by
  unfold getL
  rw [List.length_map]
  exact List.length_filter_le _ _

theorem entersNamed1 : Enters 72 := fun args w => MuLone.run_callFunc_enter Try.func72 (by kernel_rfl) rfl args w

theorem named1_any (p : List UInt8 × List UInt8) (name : ByteArray) (b : Nat) (w : World) (h1 : p.1.length ≤ 1000) (h2 : name.size ≤ 1000) (c0 : w.cell? ⟨b, 0, none⟩ = some (.string name)) :
    Calls Try.prog 72 #[.agg #[.string (bt p.1), .string (bt p.2)], .pointer (some ⟨b, 0, none⟩)] w fun e w' => e = .returned (.bool (isName name p)) ∧ Below w.heap.size w w' := by
  have HS := Lib.hid (fun w => Same_any (bt p.1) name w (by rw [bt_size]; unfold maxLen; omega) (by unfold maxLen; omega))
  rw [bt_list] at HS
  have hb : b < w.heap.size := lt_of_cell c0
  have hne : w.heap.size ≠ b := by omega
  unfold isName
  generalize (lowerL p.1 == lowerL name.data.toList) = q at *
  go_enter Try.func72, Try.ntmps72
  go_wp2_with (go_at_call 62; refine Calls.mono (HS.out _) ?_; rintro e w' ⟨rfl, hd⟩)
  go_ret
  exact ⟨rfl, (below_box w _).trans (hd.below _)⟩

theorem named_any (name : ByteArray) (w : World) :
    Calls Try.prog 56 #[.string name] w fun e w' => e = .returned (.func (.func 72) #[] #[.pointer (some ⟨w.heap.size, 0, none⟩)]) ∧ w.alloc (.cells #[.string name] 9) = w' := by
  have hmf : ∀ (fn : Fn) (first cap : Array Value) (w : World), (Instr.makeFunc fn first cap).run Try.prog w = .ok (.func fn first cap) w := fun _ _ _ _ => rfl
  go_enter Try.func56, Try.ntmps56
  go_wp2_with fail
  go_ret
  exact ⟨rfl, rfl⟩

set_option maxHeartbeats 4000000 in
set_option maxRecDepth 20000 in
theorem get_any (name : ByteArray) (l : Pars) (A : Option Addr) (c : Nat) (w : World) (hl : l.length ≤ 1000) (hps : ∀ p ∈ l, p.1.length ≤ 1000) (hn : name.size ≤ 1000) (hA : ParsIn w w.heap.size A l) :
    Calls Try.prog 39 #[.string name, .slice A l.length c] w fun e w' => ∃ A2 c2, e = .returned (.slice A2 (getL name l).length c2) ∧ StrsIn w' A2 (getL name l) ∧ Below w.heap.size w w' := by
  obtain ⟨i0, hi, hz0, hz1, hz2⟩ := info_parts infoStrT
  have HI := Lib.hid hi; have HZ0 := Lib.hid hz0; have HZ1 := Lib.hid hz1; have HZ2 := Lib.hid hz2
  clear hi hz0 hz1 hz2
  have hcf := entersNamed1
  unfold Enters at hcf
  have HPS := Lib.hid hps
  have HBW := Lib.hid (below_box w (.cells #[.string name] 9))
  have HA := Lib.hid ((hA.below HBW.out).more HBW.out.size)
  have cn : (w.alloc (.cells #[.string name] 9)).cell? ⟨w.heap.size, 0, none⟩ = some (.string name) := by simp [go_sem]
  have HCN := Lib.hid cn
  have hzw : w.heap.size < (w.alloc (.cells #[.string name] 9)).heap.size := by simp
  clear hA hps cn
  go_enter Try.func39, Try.ntmps39
  go_wp2_with (go_at_call 56; refine Calls.mono (named_any _ _) ?_; rintro e w' ⟨rfl, rfl⟩)
  generalize w.alloc (.cells #[.string name] 9) = W at *
  go_loopw [5, 13] (fun v i wr => ∃ k : Nat, k ≤ l.length ∧ i = .int .i64 k ∧ wr.ownsRow W.heap.size 9 1 v (getL name (l.take k)).length (rowS (getL name (l.take k))) ∧ Below W.heap.size W wr) (fun _ i _ => l.length - (intOf i).toNat)
  case atStart => exact ⟨0, Nat.zero_le _, rfl, by simpa [getL, rowS] using World.ownsRow_nil W W.heap.size 9 1, Below.refl _ _⟩
  case round =>
    obtain ⟨k, hk, rfl, hrow, hb⟩ := hrel
    by_cases hlt : k < l.length
    · rcases HA.out.below hb with hnil | ⟨g, off, rfl, hg, hcs⟩
      · rw [hnil] at hlt; simp at hlt
      obtain ⟨c0, c1⟩ := hcs k hlt
      have hz := hb.size
      have HB := Lib.hid hb
      have HROW := Lib.hid hrow
      have hsn := Lib.hid (getL_snoc name l k hlt)
      have hlen := getL_len name (l.take k)
      rw [List.length_take] at hlen
      have HBX := Lib.hid (below_box wr (.cells #[.string (bt l[k].1), .string (bt l[k].2)] 37))
      have hcn2 : (wr.alloc (.cells #[.string (bt l[k].1), .string (bt l[k].2)] 37)).cell? ⟨w.heap.size, 0, none⟩ = some (.string name) := (cell_below HBX.out (by omega)).trans ((cell_below HB.out hzw).trans HCN.out)
      have HN1 := Lib.hid (named1_any l[k] name w.heap.size _ (HPS.out l[k] (List.getElem_mem _)) hn hcn2)
      have hbx : (wr.alloc (.cells #[.string (bt l[k].1), .string (bt l[k].2)] 37)).heap[wr.heap.size]? = some (.cells #[.string (bt l[k].1), .string (bt l[k].2)] 37 (0, 0)) := heap_alloc_new wr _
      clear hcs hb hrow hcn2
      go_upto_region 6 with fail
      have hzx : wr.heap.size < (wr.alloc (.cells #[.string (bt l[k].1), .string (bt l[k].2)] 37)).heap.size := by simp
      have HROW1 := Lib.hid (HROW.out.alloc (.cells #[.string (bt l[k].1), .string (bt l[k].2)] 37))
      generalize wr.alloc (.cells #[.string (bt l[k].1), .string (bt l[k].2)] 37) = W1 at *
      have x0 := (Lib.cell_of_heap hbx (j := 0))
      have x1 := (Lib.cell_of_heap hbx (j := 1))
      simp at x0 x1
      go_wp2_with fail
      refine HN1.out.mono ?_
      rintro e w2 ⟨rfl, hb2⟩
      have HB2 := Lib.hid ((HB.out.trans (HBX.out.mono hz)).trans (hb2.mono (by have := HBX.out.size; omega)))
      have HROW2 := Lib.hid (row_stands HROW1.out (fun j _ hj => hb2.block j hj))
      have y1 := (cell_below hb2 hzx).trans x1
      have hz2 := HB2.out.size
      clear hb2 x0 x1 hbx HN1 HROW1 HBX HCN
      cases hin : isName name l[k]
      · have HSN : Hid (getL name (l.take (k + 1)) = getL name (l.take k)) := Lib.hid (by rw [hsn.out, if_neg (by rw [hin]; simp), List.append_nil])
        clear hsn hin
        go_wp2_with fail
        go_roundw
        case rel => exact ⟨k + 1, by omega, by go_num, by rw [HSN.out]; exact HROW2.out, HB2.out⟩
        case measure => simp [intOf]; omega
      · have HSN : Hid (getL name (l.take (k + 1)) = getL name (l.take k) ++ [bt l[k].2]) := Lib.hid (by rw [hsn.out, if_pos hin])
        have k0 := Lib.hid (HROW2.out.alloc (.cells #[.string (bt l[k].2)] 9))
        have k1 : Hid (∀ (j : Nat) (u : Value), ([.string (bt l[k].2)] : List Value)[j]? = some u → (w2.alloc (.cells #[.string (bt l[k].2)] 9)).cell? ((⟨w2.heap.size, 0, none⟩ : Addr).add j) = some u) := Lib.hid (cell_one_new _ _ _)
        have k2 := Lib.hid (show ∀ u ∈ ([.string (bt l[k].2)] : List Value), u.oneCell' = true from by intro u hu; simp at hu; subst hu; rfl)
        have k3 := Lib.hid (show (getL name (l.take k)).length + 1 ≤ maxLen from by unfold maxLen; omega)
        have k4 := Lib.hid (show ((getL name (l.take k)).length + 1) * 16 ≤ 140737488355328 from by omega)
        have k5 : Hid (W.heap.size ≤ (w2.alloc (.cells #[.string (bt l[k].2)] 9)).heap.size) := Lib.hid (by simp; omega)
        clear hsn hin
        go_wp2_with (at_builtin; refine wpList_append_lies _ rfl (.tmp 20) (.tmp 23) 44 rfl W.heap.size 9 i0 (.string ByteArray.empty) 1 16 Try.underlying44 HI.out HZ0.out HZ1.out HZ2.out rfl (by decide) _ _ _ rfl k0.out ⟨w2.heap.size, 0, none⟩ 1 1 _ rfl rfl k1.out k2.out (by decide) k3.out k4.out k5.out _ rfl ?_; intro g3 c3 w3 hown hgrow hat hlt3; have HO := Lib.hid hown; have HB3 := Lib.hid ((HB2.out.alloc hz2 (.cells #[.string (bt l[k].2)] 9)).grown hgrow (by simp; omega) (fun j hj => (HROW2.out.lt j hj).1)); clear hown hgrow hat hlt3)
        go_roundw
        case rel => exact ⟨k + 1, by omega, by go_num, by rw [HSN.out, rowS_snoc, List.length_append]; exact HO.out, HB3.out⟩
        case measure => simp [intOf]; omega
    · obtain rfl : k = l.length := by omega
      rw [List.take_of_length_le (Nat.le_refl _)] at hrow
      obtain ⟨A2, c2, hv, hA2⟩ := strs_of_own hrow rfl
      have HP := Lib.hid hA2
      have HB := Lib.hid hb
      clear hrow hA2 hb
      subst hv
      go_wp2_with fail
      go_ret
      exact ⟨A2, c2, rfl, HP.out, HBW.out.trans (HB.out.mono (by omega))⟩

theorem Get_any (name : ByteArray) (l : Pars) (A : Option Addr) (c : Nat) (w : World) (hl : l.length ≤ 1000) (hps : ∀ p ∈ l, p.1.length ≤ 1000) (hn : name.size ≤ 1000) (hA : ParsIn w w.heap.size A l) :
    Calls Try.prog 28 #[.string name, .slice A l.length c] w fun e w' => ∃ A2 c2, e = .returned (.slice A2 (getL name l).length c2) ∧ StrsIn w' A2 (getL name l) ∧ Below w.heap.size w w' := by
  have HG := Lib.hid (get_any name l A c w hl hps hn hA)
  clear hl hps hn hA
  go_enter Try.func28, Try.ntmps28
  go_wp2_with fail
  refine HG.out.mono ?_
  rintro e w2 ⟨A2, c2, rfl, h1, h2⟩
  have H := Lib.hid (And.intro h1 h2)
  clear h1 h2
  go_wp2_with fail
  go_ret
  exact ⟨A2, c2, rfl, H.out.1, H.out.2⟩

theorem lowerB_eq (a b : ByteArray) : ((lowerB a).toList == (lowerB b).toList) = (lowerL a.data.toList == lowerL b.data.toList) := by
  rw [Lib.toList_data, Lib.toList_data, lowerB_data, lowerB_data]

theorem rIs22_any (p : List UInt8 × List UInt8) (name : ByteArray) (w : World) (h1 : p.1.length ≤ 1000) (h2 : name.size ≤ 1000) :
    Calls Try.prog 30 #[.agg #[.string (bt p.1), .string (bt p.2)], .string name] w fun e w' => e = .returned (.bool (isName name p)) ∧ Below w.heap.size w w' := by
  have HL := Lib.hid (fun w => rLower_any (bt p.1) w (by rw [bt_size]; unfold maxLen; omega) (by rw [bt_size]; omega))
  have HM := Lib.hid (fun w => rLower_any name w (by unfold maxLen; omega) (by omega))
  have hq := lowerB_eq (bt p.1) name
  rw [bt_list] at hq
  unfold isName
  generalize (lowerL p.1 == lowerL name.data.toList) = q at *
  generalize lowerB (bt p.1) = X at *
  generalize lowerB name = Y at *
  go_enter Try.func30, Try.ntmps30
  go_wp2_with fail
  refine (HL.out _).mono ?_
  rintro e w2 ⟨rfl, hb2⟩
  go_wp2_with fail
  refine (HM.out _).mono ?_
  rintro e w3 ⟨rfl, hb3⟩
  go_wp2_with fail
  go_ret
  exact ⟨rfl, ((below_box w _).trans (hb2.mono (by simp))).trans (hb3.mono (by have := hb2.size; simp at this; omega))⟩

set_option maxHeartbeats 4000000 in
set_option maxRecDepth 20000 in
theorem rGet22_any (name : ByteArray) (l : Pars) (A : Option Addr) (c : Nat) (w : World) (hl : l.length ≤ 1000) (hps : ∀ p ∈ l, p.1.length ≤ 1000) (hn : name.size ≤ 1000) (hA : ParsIn w w.heap.size A l) :
    Calls Try.prog 24 #[.string name, .slice A l.length c] w fun e w' => ∃ A2 c2, e = .returned (.slice A2 (getL name l).length c2) ∧ StrsIn w' A2 (getL name l) ∧ Below w.heap.size w w' := by
  obtain ⟨i0, hi, hz0, hz1, hz2⟩ := info_parts infoStrT
  have HI := Lib.hid hi; have HZ0 := Lib.hid hz0; have HZ1 := Lib.hid hz1; have HZ2 := Lib.hid hz2
  clear hi hz0 hz1 hz2
  have HPS := Lib.hid hps
  have HA := Lib.hid hA
  clear hA hps
  go_enter Try.func24, Try.ntmps24
  go_wp2
  go_loopw [5, 6] (fun v i wr => ∃ k : Nat, k ≤ l.length ∧ i = .int .i64 k ∧ wr.ownsRow w.heap.size 9 1 v (getL name (l.take k)).length (rowS (getL name (l.take k))) ∧ Below w.heap.size w wr) (fun _ i _ => l.length - (intOf i).toNat)
  case atStart => exact ⟨0, Nat.zero_le _, rfl, by simpa [getL, rowS] using World.ownsRow_lit (base := w.heap.size) (e := 9) (size := 1) w #[] 0 (Nat.le_refl _) (Nat.zero_le _) rfl, (Below.refl _ _).alloc (Nat.le_refl _) _⟩
  case round =>
    obtain ⟨k, hk, rfl, hrow, hb⟩ := hrel
    by_cases hlt : k < l.length
    · rcases HA.out.below hb with hnil | ⟨g, off, rfl, hg, hcs⟩
      · rw [hnil] at hlt; simp at hlt
      obtain ⟨c0, c1⟩ := hcs k hlt
      have hz := hb.size
      have HB := Lib.hid hb
      have HROW := Lib.hid hrow
      have hsn := Lib.hid (getL_snoc name l k hlt)
      have hlen := getL_len name (l.take k)
      rw [List.length_take] at hlen
      have HN1 := Lib.hid (rIs22_any l[k] name wr (HPS.out l[k] (List.getElem_mem _)) hn)
      clear hcs hb hrow
      go_wp2_with fail
      refine HN1.out.mono ?_
      rintro e w2 ⟨rfl, hb2⟩
      have HB2 := Lib.hid (HB.out.trans (hb2.mono hz))
      have HROW2 := Lib.hid (row_stands HROW.out (fun j _ hj => hb2.block j hj))
      have d1 := (cell_below hb2 (Nat.lt_of_lt_of_le hg hz)).trans c1
      have hz2 := HB2.out.size
      clear hb2 c0 c1 HN1
      cases hin : isName name l[k]
      · have HSN : Hid (getL name (l.take (k + 1)) = getL name (l.take k)) := Lib.hid (by rw [hsn.out, if_neg (by rw [hin]; simp), List.append_nil])
        clear hsn hin
        go_wp2_with fail
        go_roundw
        case rel => exact ⟨k + 1, by omega, by go_num, by rw [HSN.out]; exact HROW2.out, HB2.out⟩
        case measure => simp [intOf]; omega
      · have HSN : Hid (getL name (l.take (k + 1)) = getL name (l.take k) ++ [bt l[k].2]) := Lib.hid (by rw [hsn.out, if_pos hin])
        have k0 := Lib.hid (HROW2.out.alloc (.cells #[.string (bt l[k].2)] 9))
        have k1 : Hid (∀ (j : Nat) (u : Value), ([.string (bt l[k].2)] : List Value)[j]? = some u → (w2.alloc (.cells #[.string (bt l[k].2)] 9)).cell? ((⟨w2.heap.size, 0, none⟩ : Addr).add j) = some u) := Lib.hid (cell_one_new _ _ _)
        have k2 := Lib.hid (show ∀ u ∈ ([.string (bt l[k].2)] : List Value), u.oneCell' = true from by intro u hu; simp at hu; subst hu; rfl)
        have k3 := Lib.hid (show (getL name (l.take k)).length + 1 ≤ maxLen from by unfold maxLen; omega)
        have k4 := Lib.hid (show ((getL name (l.take k)).length + 1) * 16 ≤ 140737488355328 from by omega)
        have k5 : Hid (w.heap.size ≤ (w2.alloc (.cells #[.string (bt l[k].2)] 9)).heap.size) := Lib.hid (by simp; omega)
        clear hsn hin
        go_wp2_with (at_builtin; refine wpList_append_lies _ rfl (.tmp 20) (.tmp 26) 44 rfl w.heap.size 9 i0 (.string ByteArray.empty) 1 16 Try.underlying44 HI.out HZ0.out HZ1.out HZ2.out rfl (by decide) _ _ _ rfl k0.out ⟨w2.heap.size, 0, none⟩ 1 1 _ rfl rfl k1.out k2.out (by decide) k3.out k4.out k5.out _ rfl ?_; intro g3 c3 w3 hown hgrow hat hlt3; have HO := Lib.hid hown; have HB3 := Lib.hid ((HB2.out.alloc hz2 (.cells #[.string (bt l[k].2)] 9)).grown hgrow (by simp; omega) (fun j hj => (HROW2.out.lt j hj).1)); clear hown hgrow hat hlt3)
        go_roundw
        case rel => exact ⟨k + 1, by omega, by go_num, by rw [HSN.out, rowS_snoc, List.length_append]; exact HO.out, HB3.out⟩
        case measure => simp [intOf]; omega
    · obtain rfl : k = l.length := by omega
      rw [List.take_of_length_le (Nat.le_refl _)] at hrow
      obtain ⟨A2, c2, hv, hA2⟩ := strs_of_own hrow rfl
      have HP := Lib.hid hA2
      have HB := Lib.hid hb
      clear hrow hA2 hb
      subst hv
      go_wp2_with fail
      go_ret
      exact ⟨A2, c2, rfl, HP.out, HB.out⟩

end Go.Proofs.Ytfdacmccdipohaa

namespace Go.Proofs.Ytfdacmccdipohaa
open Go.RowKit
set_option linter.unusedSimpArgs false
set_option linter.unusedVariables false

def rangeName : ByteArray := ⟨#[67, 111, 110, 116, 101, 110, 116, 45, 82, 97, 110, 103, 101]⟩
def rangeSmall : ByteArray := ⟨#[99, 111, 110, 116, 101, 110, 116, 45, 114, 97, 110, 103, 101]⟩

theorem getL_range (l : Pars) : getL rangeName l = getL rangeSmall l := by
  unfold getL
  have : isName rangeName = isName rangeSmall := by
    funext p
    unfold isName
    rw [show lowerL rangeName.data.toList = lowerL rangeSmall.data.toList by decide]
  rw [this]

/-- What comes, as numbers. -/
def conT (l : List UInt8) : Int × Int × Int × Int :=
  match conL l with
  | none => (0, 0, 0, 2)
  | some (f, t, a) => if saidE a (saidE t (saidE f 0)) ≠ 0 ∨ goodP (saidN f) (saidN t) (saidN a) = false then (0, 0, 0, 9) else (saidN f, saidN t, saidN a, 0)

theorem conV_T (l : List UInt8) : conV l = .tuple #[.agg #[.int .i64 (conT l).1, .int .i64 (conT l).2.1, .int .i64 (conT l).2.2.1], .int .i64 (conT l).2.2.2] := by
  unfold conV conT
  cases conL l with
  | none => rfl
  | some q =>
    obtain ⟨f, t, a⟩ := q
    by_cases h : saidE a (saidE t (saidE f 0)) ≠ 0 ∨ goodP (saidN f) (saidN t) (saidN a) = false
    · simp only [if_pos h]
    · simp only [if_neg h]

/-- What values say that comes. -/
def ofW : List ByteArray → Value
  | [v] => .tuple #[.agg #[.int .i64 (conT v.data.toList).1, .int .i64 (conT v.data.toList).2.1, .int .i64 (conT v.data.toList).2.2.1], .bool ((conT v.data.toList).2.2.2 == 0)]
  | _ => .tuple #[.agg #[.int .i64 0, .int .i64 0, .int .i64 0], .bool false]

theorem ofW_not {vs : List ByteArray} (h : ¬ vs.length = 1) : ofW vs = .tuple #[.agg #[.int .i64 0, .int .i64 0, .int .i64 0], .bool false] := by
  match vs, h with
  | [], _ => rfl
  | [_], h => exact absurd rfl h
  | _ :: _ :: _, _ => rfl

/-- What headers say that comes. -/
def ofV (l : Pars) : Value := ofW (getL rangeName l)

set_option maxRecDepth 20000 in
theorem Of_any (l : Pars) (A : Option Addr) (c : Nat) (w : World) (hl : l.length ≤ 1000) (hps : ∀ p ∈ l, p.1.length ≤ 1000 ∧ p.2.length ≤ 1000) (hA : ParsIn w w.heap.size A l) :
    Calls Try.prog 22 #[.slice A l.length c] w fun e w' => e = .returned (ofV l) ∧ Below w.heap.size w w' := by
  have hbx := below_box w (.cells #[.int .i64 0, .int .i64 0, .int .i64 0] 31)
  have HG := Lib.hid (Get_any rangeName l A c _ hl (fun p hp => (hps p hp).1) (by decide) ((hA.below hbx).more hbx.size))
  have hx : (w.alloc (.cells #[.int .i64 0, .int .i64 0, .int .i64 0] 31)).heap[w.heap.size]? = some (.cells #[.int .i64 0, .int .i64 0, .int .i64 0] 31 (0, 0)) := heap_alloc_new w _
  have hval : ∀ v ∈ getL rangeName l, v.size ≤ 1000 := fun v hv => by
    unfold getL at hv
    rw [List.mem_map] at hv
    obtain ⟨p, hp, rfl⟩ := hv
    rw [bt_size]
    exact (hps p (List.mem_filter.1 hp).1).2
  have hV : ofV l = ofW (getL rangeName l) := rfl
  clear hl hps hA
  generalize getL rangeName l = vs at *
  unfold rangeName at HG
  have HBX := Lib.hid hbx
  have HV := Lib.hid hV
  clear hbx hV
  go_enter Try.func22, Try.ntmps22
  go_wp2_with fail
  generalize w.alloc (.cells #[.int .i64 0, .int .i64 0, .int .i64 0] 31) = W at *
  refine HG.out.mono ?_
  rintro e w1 ⟨A2, c2, rfl, hS, hb⟩
  have hx1 := (hb.block _ (Array.getElem?_eq_some_iff.1 hx).1).trans hx
  have HB := Lib.hid (HBX.out.trans (hb.mono HBX.out.size))
  have o0 := (Lib.cell_of_heap hx1 (j := 0))
  have o1 := (Lib.cell_of_heap hx1 (j := 1))
  have o2 := (Lib.cell_of_heap hx1 (j := 2))
  have of := fun i => Lib.frozen_of_heap hx1 i
  simp at o0 o1 o2
  have hz0 : w.heap.size < w1.heap.size := lt_of_cell o0
  have HS := Lib.hid hS
  have HX1 := Lib.hid hx1
  clear hx hx1 hb hS HG HBX
  by_cases h1 : vs.length = 1
  · obtain ⟨v, rfl⟩ : ∃ v, vs = [v] := List.length_eq_one_iff.1 h1
    have HC := Lib.hid (fun w => content_any v w (hval v (by simp)))
    rw [conV_T] at HC
    have HV2 : Hid (ofV l = .tuple #[.agg #[.int .i64 (conT v.data.toList).1, .int .i64 (conT v.data.toList).2.1, .int .i64 (conT v.data.toList).2.2.1], .bool ((conT v.data.toList).2.2.2 == 0)]) := Lib.hid HV.out
    generalize (conT v.data.toList).1 = a at *
    generalize (conT v.data.toList).2.1 = b at *
    generalize (conT v.data.toList).2.2.1 = d at *
    generalize (conT v.data.toList).2.2.2 = code at *
    rcases HS.out with hnil | ⟨g, off, rfl, hg, hcs⟩
    · simp at hnil
    have d0 : w1.cell? ⟨g, off, none⟩ = some (.string v) := by have := hcs 0 (by simp); simpa using this
    clear hcs hval h1 HS
    simp only [List.length_cons, List.length_nil, Nat.zero_add]
    go_wp2_with fail
    refine (HC.out _).mono ?_
    rintro e w2 ⟨rfl, hb2⟩
    have hx2 := (hb2.block _ hz0).trans HX1.out
    have HB2 := Lib.hid ((HB.out.trans (hb2.mono HB.out.size)).alloc (by have := HB.out.size; have := hb2.size; omega) (.cells #[.int .i64 a, .int .i64 b, .int .i64 d] 31))
    have hx3 : (w2.alloc (.cells #[.int .i64 a, .int .i64 b, .int .i64 d] 31)).heap[w.heap.size]? = some (.cells #[.int .i64 0, .int .i64 0, .int .i64 0] 31 (0, 0)) := (Below.heap_alloc _ _ _ (Nat.lt_of_lt_of_le hz0 hb2.size)).trans hx2
    have hx4 : (w2.alloc (.cells #[.int .i64 a, .int .i64 b, .int .i64 d] 31)).heap[w2.heap.size]? = some (.cells #[.int .i64 a, .int .i64 b, .int .i64 d] 31 (0, 0)) := heap_alloc_new w2 _
    go_upto_region 5 with fail
    generalize w2.heap.size = P at *
    generalize w2.alloc (.cells #[.int .i64 a, .int .i64 b, .int .i64 d] 31) = W2 at *
    clear o0 o1 o2 of hz0 hx2 hb2 d0
    have o0 := (Lib.cell_of_heap hx3 (j := 0))
    have o1 := (Lib.cell_of_heap hx3 (j := 1))
    have o2 := (Lib.cell_of_heap hx3 (j := 2))
    have p0 := (Lib.cell_of_heap hx4 (j := 0))
    have p1 := (Lib.cell_of_heap hx4 (j := 1))
    have p2 := (Lib.cell_of_heap hx4 (j := 2))
    have of := fun i => Lib.frozen_of_heap hx3 i
    simp at o0 o1 o2 p0 p1 p2
    have hz0 : w.heap.size < W2.heap.size := lt_of_cell o0
    clear hx3 hx4
    go_wp2_with fail
    refine bodyPost_ret (v := (.tuple #[.agg #[.int .i64 a, .int .i64 b, .int .i64 d], .bool (code == 0)])) ?_ rfl ⟨by rw [HV2.out], ((HB2.out.setCell (by simp) _).setCell (by simp) _).setCell (by simp) _⟩
    simp [results, Try.results22, go_sem, o0, o1, o2, hz0]
  · have HV2 : Hid (ofV l = .tuple #[.agg #[.int .i64 0, .int .i64 0, .int .i64 0], .bool false]) := Lib.hid (by rw [HV.out, ofW_not h1])
    have h1i : ((vs.length : Int) == 1) = false := beq_eq_false_iff_ne.2 (by omega)
    clear hval h1 HS
    generalize vs.length = n at *
    go_wp2_with fail
    refine bodyPost_ret (v := (.tuple #[.agg #[.int .i64 0, .int .i64 0, .int .i64 0], .bool false])) ?_ rfl ⟨by rw [HV2.out], ((HB.out.setCell (by simp) _).setCell (by simp) _).setCell (by simp) _⟩
    simp [results, Try.results22, go_sem, o0, o1, o2, hz0]

set_option maxRecDepth 20000 in
theorem rOf24_any (l : Pars) (A : Option Addr) (c : Nat) (w : World) (hl : l.length ≤ 1000) (hps : ∀ p ∈ l, p.1.length ≤ 1000 ∧ p.2.length ≤ 1000) (hA : ParsIn w w.heap.size A l) :
    Calls Try.prog 17 #[.slice A l.length c] w fun e w' => e = .returned (ofV l) ∧ Below w.heap.size w w' := by
  have hbx := below_box w (.cells #[.int .i64 0, .int .i64 0, .int .i64 0] 31)
  have HG := Lib.hid (rGet22_any rangeSmall l A c _ hl (fun p hp => (hps p hp).1) (by decide) ((hA.below hbx).more hbx.size))
  have hx : (w.alloc (.cells #[.int .i64 0, .int .i64 0, .int .i64 0] 31)).heap[w.heap.size]? = some (.cells #[.int .i64 0, .int .i64 0, .int .i64 0] 31 (0, 0)) := heap_alloc_new w _
  have hval : ∀ v ∈ getL rangeSmall l, v.size ≤ 1000 := fun v hv => by
    unfold getL at hv
    rw [List.mem_map] at hv
    obtain ⟨p, hp, rfl⟩ := hv
    rw [bt_size]
    exact (hps p (List.mem_filter.1 hp).1).2
  have hV : ofV l = ofW (getL rangeSmall l) := by unfold ofV; rw [getL_range]
  clear hl hps hA
  generalize getL rangeSmall l = vs at *
  unfold rangeSmall at HG
  have HBX := Lib.hid hbx
  have HV := Lib.hid hV
  clear hbx hV
  go_enter Try.func17, Try.ntmps17
  go_wp2_with fail
  generalize w.alloc (.cells #[.int .i64 0, .int .i64 0, .int .i64 0] 31) = W at *
  refine HG.out.mono ?_
  rintro e w1 ⟨A2, c2, rfl, hS, hb⟩
  have hx1 := (hb.block _ (Array.getElem?_eq_some_iff.1 hx).1).trans hx
  have HB := Lib.hid (HBX.out.trans (hb.mono HBX.out.size))
  have o0 := (Lib.cell_of_heap hx1 (j := 0))
  have o1 := (Lib.cell_of_heap hx1 (j := 1))
  have o2 := (Lib.cell_of_heap hx1 (j := 2))
  have of := fun i => Lib.frozen_of_heap hx1 i
  simp at o0 o1 o2
  have hz0 : w.heap.size < w1.heap.size := lt_of_cell o0
  have HS := Lib.hid hS
  have HX1 := Lib.hid hx1
  clear hx hx1 hb hS HG HBX
  by_cases h1 : vs.length = 1
  · obtain ⟨v, rfl⟩ : ∃ v, vs = [v] := List.length_eq_one_iff.1 h1
    have HC := Lib.hid (fun w => rContent24_any v w (hval v (by simp)))
    rw [conV_T] at HC
    have HV2 : Hid (ofV l = .tuple #[.agg #[.int .i64 (conT v.data.toList).1, .int .i64 (conT v.data.toList).2.1, .int .i64 (conT v.data.toList).2.2.1], .bool ((conT v.data.toList).2.2.2 == 0)]) := Lib.hid HV.out
    generalize (conT v.data.toList).1 = a at *
    generalize (conT v.data.toList).2.1 = b at *
    generalize (conT v.data.toList).2.2.1 = d at *
    generalize (conT v.data.toList).2.2.2 = code at *
    rcases HS.out with hnil | ⟨g, off, rfl, hg, hcs⟩
    · simp at hnil
    have d0 : w1.cell? ⟨g, off, none⟩ = some (.string v) := by have := hcs 0 (by simp); simpa using this
    clear hcs hval h1 HS
    simp only [List.length_cons, List.length_nil, Nat.zero_add]
    go_wp2_with fail
    refine (HC.out _).mono ?_
    rintro e w2 ⟨rfl, hb2⟩
    have hx2 := (hb2.block _ hz0).trans HX1.out
    have HB2 := Lib.hid ((HB.out.trans (hb2.mono HB.out.size)).alloc (by have := HB.out.size; have := hb2.size; omega) (.cells #[.int .i64 a, .int .i64 b, .int .i64 d] 31))
    have hx3 : (w2.alloc (.cells #[.int .i64 a, .int .i64 b, .int .i64 d] 31)).heap[w.heap.size]? = some (.cells #[.int .i64 0, .int .i64 0, .int .i64 0] 31 (0, 0)) := (Below.heap_alloc _ _ _ (Nat.lt_of_lt_of_le hz0 hb2.size)).trans hx2
    have hx4 : (w2.alloc (.cells #[.int .i64 a, .int .i64 b, .int .i64 d] 31)).heap[w2.heap.size]? = some (.cells #[.int .i64 a, .int .i64 b, .int .i64 d] 31 (0, 0)) := heap_alloc_new w2 _
    go_upto_region 5 with fail
    generalize w2.heap.size = P at *
    generalize w2.alloc (.cells #[.int .i64 a, .int .i64 b, .int .i64 d] 31) = W2 at *
    clear o0 o1 o2 of hz0 hx2 hb2 d0
    have o0 := (Lib.cell_of_heap hx3 (j := 0))
    have o1 := (Lib.cell_of_heap hx3 (j := 1))
    have o2 := (Lib.cell_of_heap hx3 (j := 2))
    have p0 := (Lib.cell_of_heap hx4 (j := 0))
    have p1 := (Lib.cell_of_heap hx4 (j := 1))
    have p2 := (Lib.cell_of_heap hx4 (j := 2))
    have of := fun i => Lib.frozen_of_heap hx3 i
    simp at o0 o1 o2 p0 p1 p2
    have hz0 : w.heap.size < W2.heap.size := lt_of_cell o0
    clear hx3 hx4
    go_wp2_with fail
    refine bodyPost_ret (v := (.tuple #[.agg #[.int .i64 a, .int .i64 b, .int .i64 d], .bool (code == 0)])) ?_ rfl ⟨by rw [HV2.out], ((HB2.out.setCell (by simp) _).setCell (by simp) _).setCell (by simp) _⟩
    simp [results, Try.results17, go_sem, o0, o1, o2, hz0]
  · have HV2 : Hid (ofV l = .tuple #[.agg #[.int .i64 0, .int .i64 0, .int .i64 0], .bool false]) := Lib.hid (by rw [HV.out, ofW_not h1])
    have h1i : ((vs.length : Int) == 1) = false := beq_eq_false_iff_ne.2 (by omega)
    clear hval h1 HS
    generalize vs.length = n at *
    go_wp2_with fail
    refine bodyPost_ret (v := (.tuple #[.agg #[.int .i64 0, .int .i64 0, .int .i64 0], .bool false])) ?_ rfl ⟨by rw [HV2.out], ((HB.out.setCell (by simp) _).setCell (by simp) _).setCell (by simp) _⟩
    simp [results, Try.results17, go_sem, o0, o1, o2, hz0]

end Go.Proofs.Ytfdacmccdipohaa

namespace Go.Proofs.Ytfdacmccdipohaa
open Go.RowKit
set_option linter.unusedSimpArgs false
set_option linter.unusedVariables false

theorem sized_any (a b : Int) (w : World) :
    Calls Try.prog 19 #[.int .i64 a, .int .i64 b] w fun e w' => e = .returned (.tuple #[.int .i64 (if a = -1 then b else a), .bool (decide (a = -1 ∨ b = -1 ∨ a = b))]) ∧ w = w' := by
  by_cases h1 : a = -1
  · subst h1
    go_enter Try.func19, Try.ntmps19
    go_wp2
    go_ret2
    exact ⟨ret_ib (by simp) (by simp), rfl⟩
  · have e1 : (a == -1) = false := by simpa using h1
    by_cases h2 : b = -1
    · subst h2
      have H := Lib.hid h1; clear h1
      go_enter Try.func19, Try.ntmps19
      go_wp2
      go_ret2
      exact ⟨ret_ib (by first | rfl | simp [H.out]) (by simp), rfl⟩
    · have e2 : (b == -1) = false := by simpa using h2
      have H := Lib.hid h1; have H2 := Lib.hid h2
      clear h1 h2
      go_enter Try.func19, Try.ntmps19
      go_wp2
      go_ret2
      exact ⟨ret_ib (by first | rfl | simp [H.out]) (by have := H.out; have := H2.out; rw [Bool.eq_iff_iff]; simp; omega), rfl⟩

set_option maxHeartbeats 1000000 in
set_option maxRecDepth 20000 in
theorem join_two (g : Nat) (c : Nat) (w : World)
    (c0 : w.cell? ⟨g, 0, none⟩ = some (.int .i64 0)) (c1 : w.cell? ⟨g, 1, none⟩ = some (.int .i64 4)) (c2 : w.cell? ⟨g, 2, none⟩ = some (.int .i64 10))
    (c3 : w.cell? ⟨g, 3, none⟩ = some (.int .i64 5)) (c4 : w.cell? ⟨g, 4, none⟩ = some (.int .i64 9)) (c5 : w.cell? ⟨g, 5, none⟩ = some (.int .i64 (-1))) (hg : g < w.heap.size) :
    Calls Try.prog 12 #[.slice (some ⟨g, 0, none⟩) 2 c] w fun e w' => e = .returned (.tuple #[.agg #[.int .i64 0, .int .i64 9, .int .i64 10], .bool true]) ∧ Below w.heap.size w w' := by
  have s1 : Hid (saysP 0 4 10 = true) := Lib.hid (by decide +kernel)
  have s2 : Hid (saysP 5 9 (-1) = true) := Lib.hid (by decide +kernel)
  have s3 : Hid (goodP 0 9 10 = true) := Lib.hid (by decide +kernel)
  go_enter Try.func12, Try.ntmps12
  go_wp2
  refine wp_loop_rounds 3 ?_
  rw [rounds_succ]
  go_wp2_with fail
  refine (says_any _ _ _ _).mono ?_
  rintro e w1 ⟨rfl, hb1⟩
  obtain ⟨hc1, hf1⟩ := bcell hb1
  have hz1 : w.heap.size + 2 < w1.heap.size := by have := hb1.size; simp at this; omega
  have hz1a : w.heap.size + 1 < w1.heap.size := by omega
  have hz1b : w.heap.size < w1.heap.size := by omega
  have hB1 := below_after3 hb1
  have d3 : w1.cell? ⟨g, 3, none⟩ = some (.int .i64 5) := by rw [hB1.cell (p := ⟨g, 3, none⟩) hg]; exact c3
  have d4 : w1.cell? ⟨g, 4, none⟩ = some (.int .i64 9) := by rw [hB1.cell (p := ⟨g, 4, none⟩) hg]; exact c4
  have d5 : w1.cell? ⟨g, 5, none⟩ = some (.int .i64 (-1)) := by rw [hB1.cell (p := ⟨g, 5, none⟩) hg]; exact c5
  rw [s1.out]
  go_wp2_with fail
  rw [rounds_succ]
  go_wp2_with fail
  refine (says_any _ _ _ _).mono ?_
  rintro e w2 ⟨rfl, hb2⟩
  obtain ⟨hc2, hf2⟩ := bcell hb2
  have hz2 : w1.heap.size < w2.heap.size := by have := hb2.size; simp at this; omega
  have hz2a : w.heap.size + 1 < w2.heap.size := by omega
  have hz2b : w.heap.size < w2.heap.size := by omega
  have hz2c : w.heap.size + 2 < w2.heap.size := by omega
  have e0 : w2.cell? ⟨w.heap.size + 1, 0, none⟩ = some (.int .i64 0) := by rw [hc2 _ _ (by simp; omega)]; simp [go_sem, hc1, hz1a]
  have e1 : w2.cell? ⟨w.heap.size + 1, 1, none⟩ = some (.int .i64 4) := by rw [hc2 _ _ (by simp; omega)]; simp [go_sem, hc1, hz1a]
  have e2 : w2.cell? ⟨w.heap.size + 1, 2, none⟩ = some (.int .i64 10) := by rw [hc2 _ _ (by simp; omega)]; simp [go_sem, hc1, hz1a]
  have p0 : w2.cell? ⟨w1.heap.size, 0, none⟩ = some (.int .i64 5) := by rw [hc2 _ _ (by simp)]; simp [go_sem]
  have p1 : w2.cell? ⟨w1.heap.size, 1, none⟩ = some (.int .i64 9) := by rw [hc2 _ _ (by simp)]; simp [go_sem]
  have p2 : w2.cell? ⟨w1.heap.size, 2, none⟩ = some (.int .i64 (-1)) := by rw [hc2 _ _ (by simp)]; simp [go_sem]
  have q0 : w2.cell? ⟨w.heap.size, 0, none⟩ = some (.int .i64 0) := by rw [hc2 _ _ (by simp; omega)]; simp [go_sem, hc1, hz1b]
  have q1 : w2.cell? ⟨w.heap.size, 1, none⟩ = some (.int .i64 0) := by rw [hc2 _ _ (by simp; omega)]; simp [go_sem, hc1, hz1b]
  have q2 : w2.cell? ⟨w.heap.size, 2, none⟩ = some (.int .i64 0) := by rw [hc2 _ _ (by simp; omega)]; simp [go_sem, hc1, hz1b]
  clear hc2
  rw [s2.out]
  go_wp2_with (go_at_call 19; refine (sized_any _ _ _).mono ?_; rintro e w' ⟨rfl, rfl⟩)
  rw [rounds_succ]
  go_wp2_with fail
  refine (Good_any _ _ _ _).mono ?_
  rintro e w3 ⟨rfl, hb3⟩
  obtain ⟨hc3, hf3⟩ := bcell hb3
  rw [s3.out]
  have hz3 : w2.heap.size ≤ w3.heap.size := by have := hb3.size; simpa using this
  have hz3a : w.heap.size + 1 < w3.heap.size := by omega
  have hz3b : w.heap.size < w3.heap.size := by omega
  go_wp2_with fail
  refine bodyPost_ret (v := .tuple #[.agg #[.int .i64 0, .int .i64 9, .int .i64 10], .bool true]) ?_ rfl ⟨rfl, ?_⟩
  · simp [results, Try.results12, go_sem, hc3, q0, q1, q2, hz2a, hz2b, hz1a, hz1b, hz3a, hz3b]
  · have h2 : Below w.heap.size w w2 := by
      refine Below.trans ?_ (hb2.mono (by simp; omega))
      exact (((hB1.setCell (by simp) _).setCell (by simp) _).setCell (by simp) _).alloc (by simp; omega) _
    have h3 : Below w.heap.size w w3 := by
      refine Below.trans ?_ (hb3.mono (by simp; omega))
      exact ((h2.setCell (by simp) _).setCell (by simp) _).setCell (by simp) _
    exact ((h3.setCell (by simp) _).setCell (by simp) _).setCell (by simp) _

theorem lives35_any (w : World) :
    Calls Try.prog 7 #[] w fun e w' => e = .returned (.bool true) ∧ Below w.heap.size w w' := by
  have s1 : Hid (wholeP 0 9 10 = true) := Lib.hid (by decide +kernel)
  go_enter Try.func7, Try.ntmps7
  go_wp2_with fail
  refine (join_two w.heap.size _ _ (by simp [go_sem]) (by simp [go_sem]) (by simp [go_sem]) (by simp [go_sem]) (by simp [go_sem]) (by simp [go_sem]) (by simp)).mono ?_
  rintro e w1 ⟨rfl, hb1⟩
  go_wp2_with fail
  refine (Whole_any _ _ _ _).mono ?_
  rintro e w2 ⟨rfl, hb2⟩
  rw [s1.out]
  go_wp2_with fail
  go_ret
  refine ⟨rfl, ?_⟩
  have h1 := below_after hb1
  exact (h1.alloc h1.size _).trans (hb2.mono (by have := h1.size; simp; omega))

end Go.Proofs.Ytfdacmccdipohaa

namespace Go.Proofs.Ytfdacmccdipohaa
open Go.RowKit
set_option linter.unusedSimpArgs false
set_option linter.unusedVariables false

/-- A response. -/
def repV (st : Int) (A : Option Addr) (n c : Nat) : Value := .agg #[.int .i64 st, .slice A n c]
def repO (st : Int) (A : Option Addr) (n c : Nat) : Obj := .cells #[.int .i64 st, .slice A n c] 24 (0, 0)

theorem rep_cells {w : World} {g : Nat} {st : Int} {A : Option Addr} {n c : Nat} (h : w.heap[g]? = some (repO st A n c)) :
    w.cell? ⟨g, 0, none⟩ = some (.int .i64 st) ∧ w.cell? ⟨g, 1, none⟩ = some (.slice A n c) ∧ (∀ i, w.frozen? ⟨g, i, none⟩ = false) ∧ g < w.heap.size := by
  refine ⟨?_, ?_, ?_, (Array.getElem?_eq_some_iff.1 h).1⟩
  · rw [Lib.cell_of_heap h]; rfl
  · rw [Lib.cell_of_heap h]; rfl
  · exact fun i => Lib.frozen_of_heap h i

theorem rep_set {w : World} {g : Nat} {st : Int} {A A2 : Option Addr} {n c n2 c2 : Nat} (h : w.heap[g]? = some (repO st A n c)) : (w.setCell ⟨g, 1, none⟩ (.slice A2 n2 c2)).heap[g]? = some (repO st A2 n2 c2) := by
  simp [World.setCell, Array.getElem?_modify, h, repO]

/-- Headers that are few and not long. -/
structure FewR (l : Pars) : Prop where
  n : l.length ≤ 10
  p : ∀ p ∈ l, p.1.length ≤ 1000 ∧ p.2.length ≤ 100

theorem fewHs_fewR (l : Pars) : FewR (fewHs 8 l) := by
  obtain ⟨h1, h2⟩ := fewHs_sizes 8 l
  exact ⟨Nat.le_trans h1 (by omega), fun p hp => ⟨Nat.le_trans (h2 p hp).1 (by omega), (h2 p hp).2⟩⟩

theorem fewR_big {l : Pars} (h : FewR l) : ∀ p ∈ l, (bt p.1).size ≤ maxLen ∧ (bt p.2).size ≤ maxLen := fun p hp => by
  have := h.p p hp
  rw [bt_size, bt_size]
  unfold maxLen
  omega

theorem ParsAt.put1 {w : World} {B : Nat} {A : Option Addr} {l : Pars} (h : ParsAt w B A l) {p : Addr} (hp : ∀ g, A = some ⟨g, 0, none⟩ → p.block ≠ g) (u : Value) : ParsAt (w.setCell p u) B A l := by
  rcases h with h | ⟨g, hA, hg, hcs⟩
  · exact .inl h
  · refine .inr ⟨g, hA, hg, fun i hi => ?_⟩
    obtain ⟨h1, h2⟩ := hcs i hi
    exact ⟨by rw [World.cell?_setCell_far _ _ _ _ (hp g hA)]; exact h1, by rw [World.cell?_setCell_far _ _ _ _ (hp g hA)]; exact h2⟩

set_option maxHeartbeats 1000000 in
set_option maxRecDepth 20000 in
theorem Few30_any (st : Int) (l : Pars) (A : Option Addr) (c : Nat) (w : World) (hlm : l.length ≤ maxLen) (hps : ∀ p ∈ l, (bt p.1).size ≤ maxLen ∧ (bt p.2).size ≤ maxLen) (hA : ParsIn w w.heap.size A l) :
    Calls Try.prog 4 #[repV st A l.length c] w fun e w' => ∃ A2 c2, e = .returned (repV st A2 (fewHs 8 l).length c2) ∧ ParsAt w' w'.heap.size A2 (fewHs 8 l) ∧ Below w.heap.size w w' ∧ ∀ g, A2 = some ⟨g, 0, none⟩ → w.heap.size < g := by
  have HF := Lib.hid (fun (w1 : World) (hb : Below w.heap.size w w1) => Few22_own l 8 A c w1 (by decide) hlm hps (hA.on hb))
  generalize fewHs 8 l = L at *
  unfold repV
  clear hlm hps hA
  have hP : ((w.alloc (.cells #[.int .i64 st, .slice A l.length c] 24)).alloc (.cells #[.int .i64 0, .slice none 0 0] 24)).heap[w.heap.size]? = some (repO st A l.length c) := (Below.heap_alloc _ _ _ (by simp)).trans (heap_alloc_new w _)
  have hQ : ((w.alloc (.cells #[.int .i64 st, .slice A l.length c] 24)).alloc (.cells #[.int .i64 0, .slice none 0 0] 24)).heap[w.heap.size + 1]? = some (repO 0 none 0 0) := by
    rw [show w.heap.size + 1 = (w.alloc (.cells #[.int .i64 st, .slice A l.length c] 24)).heap.size by simp]
    exact heap_alloc_new _ _
  have hb : Below w.heap.size w ((w.alloc (.cells #[.int .i64 st, .slice A l.length c] 24)).alloc (.cells #[.int .i64 0, .slice none 0 0] 24)) := (below_box _ _).alloc (by simp) _
  go_enter Try.func4, Try.ntmps4
  go_upto_region 1 with fail
  generalize (w.alloc (.cells #[.int .i64 st, .slice A l.length c] 24)).alloc (.cells #[.int .i64 0, .slice none 0 0] 24) = W at *
  obtain ⟨p0, p1, pf, pz⟩ := rep_cells hP
  go_wp2_with fail
  refine (HF.out W hb).mono ?_
  rintro e w1 ⟨A2, c2, rfl, hA2, hbn, hf⟩
  have hf : ∀ g, A2 = some ⟨g, 0, none⟩ → w.heap.size + 1 < g := fun g hg => by have h1 := hf g hg; have h2 := (Array.getElem?_eq_some_iff.1 hQ).1; omega
  clear p0 p1 pf
  replace hP := (hbn.block _ pz).trans hP
  replace hQ := (hbn.block _ (Array.getElem?_eq_some_iff.1 hQ).1).trans hQ
  have HB := Lib.hid (hb.trans (hbn.mono hb.size))
  have HA2 := Lib.hid hA2
  have HFR := Lib.hid hf
  clear hbn hA2 hf hb pz HF
  obtain ⟨p0, p1, pf, pz⟩ := rep_cells hP
  obtain ⟨q0, q1, qf, qz⟩ := rep_cells hQ
  clear hP hQ
  go_wp2_with fail
  refine bodyPost_ret (v := .agg #[.int .i64 st, .slice A2 L.length c2]) ?_ rfl ?_
  · simp [results, Try.results4, go_sem, p0, p1, q0, q1]
  · have h1 : ∀ g, A2 = some ⟨g, 0, none⟩ → w.heap.size ≠ g := fun g hg => by have := HFR.out g hg; omega
    have h2 : ∀ g, A2 = some ⟨g, 0, none⟩ → w.heap.size + 1 ≠ g := fun g hg => by have := HFR.out g hg; omega
    refine ⟨A2, c2, rfl, ?_, ?_, fun g hg => by have := HFR.out g hg; omega⟩
    · exact (((HA2.out.put1 h1 _).put1 h2 _).put1 h2 _).more (by simp)
    · exact ((HB.out.setCell (show w.heap.size ≤ w.heap.size by omega) _).setCell (show w.heap.size ≤ w.heap.size + 1 by omega) _).setCell (show w.heap.size ≤ w.heap.size + 1 by omega) _

/-- Whether a part begins at 0. -/
def firstW : List ByteArray → Bool
  | [v] => ((conT v.data.toList).2.2.2 == 0) && ((conT v.data.toList).1 == 0)
  | _ => false

def firstL (l : Pars) : Bool := firstW (getL rangeName l)

theorem ofW_form (vs : List ByteArray) : ∃ (f t s : Int) (ok : Bool), ofW vs = .tuple #[.agg #[.int .i64 f, .int .i64 t, .int .i64 s], .bool ok] ∧ firstW vs = (ok && (f == 0)) := by
  match vs with
  | [] => exact ⟨0, 0, 0, false, rfl, rfl⟩
  | [v] => exact ⟨_, _, _, _, rfl, rfl⟩
  | _ :: _ :: _ => exact ⟨0, 0, 0, false, rfl, rfl⟩

theorem ofV_form (l : Pars) : ∃ (f t s : Int) (ok : Bool), ofV l = .tuple #[.agg #[.int .i64 f, .int .i64 t, .int .i64 s], .bool ok] ∧ firstL l = (ok && (f == 0)) := ofW_form _

set_option maxHeartbeats 1000000 in
theorem first30_any (st : Int) (l : Pars) (A : Option Addr) (c : Nat) (w : World) (hl : FewR l) (hA : ParsIn w w.heap.size A l) :
    Calls Try.prog 16 #[repV st A l.length c] w fun e w' => e = .returned (.bool (firstL l)) ∧ Below w.heap.size w w' := by
  have HO := Lib.hid (fun (w1 : World) (hb : Below w.heap.size w w1) => Of_any l A c w1 (Nat.le_trans hl.n (by omega)) (fun p hp => ⟨(hl.p p hp).1, Nat.le_trans (hl.p p hp).2 (by omega)⟩) (hA.on hb))
  obtain ⟨f, t, s, ok, e1, e2⟩ := ofV_form l
  rw [e1] at HO
  rw [e2]
  unfold repV
  have hb := below_box w (.cells #[.int .i64 st, .slice A l.length c] 24)
  have hP : (w.alloc (.cells #[.int .i64 st, .slice A l.length c] 24)).heap[w.heap.size]? = some (repO st A l.length c) := heap_alloc_new w _
  clear hl hA e1 e2
  go_enter Try.func16, Try.ntmps16
  go_upto_region 1 with fail
  generalize w.alloc (.cells #[.int .i64 st, .slice A l.length c] 24) = W at *
  obtain ⟨p0, p1, pf, pz⟩ := rep_cells hP
  go_wp2_with fail
  refine (HO.out W hb).mono ?_
  rintro e w1 ⟨rfl, hbn⟩
  have HB := Lib.hid (hb.trans (hbn.mono hb.size))
  clear hbn hb hP p0 p1 pf pz HO
  cases ok
  · go_wp2_with fail
    go_ret
    exact ⟨rfl, HB.out.alloc HB.out.size _⟩
  · have HBX := Lib.hid (HB.out.alloc HB.out.size (.cells #[.int .i64 f, .int .i64 t, .int .i64 s] 31))
    go_wp2_with fail
    refine (First_rng f t s _).mono ?_
    rintro e w2 ⟨rfl, hb2⟩
    have HBZ := Lib.hid (HBX.out.trans (hb2.mono HBX.out.size))
    clear hb2
    go_wp2_with fail
    go_ret
    exact ⟨by simp, HBZ.out⟩

set_option maxHeartbeats 1000000 in
theorem rFirst30_any (st : Int) (l : Pars) (A : Option Addr) (c : Nat) (w : World) (hl : FewR l) (hA : ParsIn w w.heap.size A l) :
    Calls Try.prog 11 #[repV st A l.length c] w fun e w' => e = .returned (.bool (firstL l)) ∧ Below w.heap.size w w' := by
  have HO := Lib.hid (fun (w1 : World) (hb : Below w.heap.size w w1) => rOf24_any l A c w1 (Nat.le_trans hl.n (by omega)) (fun p hp => ⟨(hl.p p hp).1, Nat.le_trans (hl.p p hp).2 (by omega)⟩) (hA.on hb))
  obtain ⟨f, t, s, ok, e1, e2⟩ := ofV_form l
  rw [e1] at HO
  rw [e2]
  unfold repV
  have hb := below_box w (.cells #[.int .i64 st, .slice A l.length c] 24)
  have hP : (w.alloc (.cells #[.int .i64 st, .slice A l.length c] 24)).heap[w.heap.size]? = some (repO st A l.length c) := heap_alloc_new w _
  clear hl hA e1 e2
  go_enter Try.func11, Try.ntmps11
  go_upto_region 1 with fail
  generalize w.alloc (.cells #[.int .i64 st, .slice A l.length c] 24) = W at *
  obtain ⟨p0, p1, pf, pz⟩ := rep_cells hP
  go_wp2_with fail
  refine (HO.out W hb).mono ?_
  rintro e w1 ⟨rfl, hbn⟩
  have HB := Lib.hid (hb.trans (hbn.mono hb.size))
  clear hbn hb hP p0 p1 pf pz HO
  cases ok
  · go_wp2_with fail
    go_ret
    exact ⟨rfl, HB.out.alloc HB.out.size _⟩
  · go_wp2_with fail
    go_ret
    exact ⟨by simp, HB.out.alloc HB.out.size _⟩

theorem First30_any (st : Int) (l : Pars) (A : Option Addr) (c : Nat) (w : World) (hl : FewR l) (hA : ParsIn w w.heap.size A l) :
    Calls Try.prog 10 #[repV st A l.length c] w fun e w' => e = .returned (.bool (firstL l)) ∧ Below w.heap.size w w' := by
  have hb := below_box w (.cells #[.int .i64 st, .slice A l.length c] 24)
  have HO := Lib.hid (first30_any st l A c _ hl (hA.on hb))
  generalize firstL l = q at *
  unfold repV at *
  clear hl hA
  go_enter Try.func10, Try.ntmps10
  go_wp2_with fail
  refine HO.out.mono ?_
  rintro e w1 ⟨rfl, hbn⟩
  have HB := Lib.hid (hb.trans (hbn.mono hb.size))
  clear hbn hb HO
  go_wp2_with fail
  go_ret
  exact ⟨rfl, HB.out⟩

theorem partialS_any (st : Int) (w : World) : Calls Try.prog 21 #[.int .i64 st] w fun e w' => e = .returned (.bool (st == 206)) ∧ w = w' := by
  go_enter Try.func21, Try.ntmps21
  go_wp2_with fail
  go_ret
  exact ⟨rfl, rfl⟩

theorem partial30_any (st : Int) (A : Option Addr) (n c : Nat) (w : World) : Calls Try.prog 15 #[repV st A n c] w fun e w' => e = .returned (.bool (st == 206)) ∧ Below w.heap.size w w' := by
  have hb := below_box w (.cells #[.int .i64 st, .slice A n c] 24)
  have HB := Lib.hid hb
  unfold repV
  go_enter Try.func15, Try.ntmps15
  go_wp2_with fail
  refine (partialS_any st _).mono ?_
  rintro e w1 ⟨rfl, rfl⟩
  go_wp2_with fail
  go_ret
  exact ⟨rfl, HB.out⟩

theorem Partial30_any (st : Int) (A : Option Addr) (n c : Nat) (w : World) : Calls Try.prog 9 #[repV st A n c] w fun e w' => e = .returned (.bool (st == 206)) ∧ Below w.heap.size w w' := by
  have hb := below_box w (.cells #[.int .i64 st, .slice A n c] 24)
  have HO := Lib.hid (partial30_any st A n c (w.alloc (.cells #[.int .i64 st, .slice A n c] 24)))
  unfold repV at *
  go_enter Try.func9, Try.ntmps9
  go_wp2_with fail
  refine HO.out.mono ?_
  rintro e w1 ⟨rfl, hbn⟩
  have HB := Lib.hid (hb.trans (hbn.mono hb.size))
  clear hbn hb HO
  go_wp2_with fail
  go_ret
  exact ⟨rfl, HB.out⟩

def mayB (st : Int) (known media first : Bool) : Bool := !(st == 206) || known || (media && first)

set_option maxHeartbeats 1000000 in
theorem May_any (st : Int) (l : Pars) (A : Option Addr) (c : Nat) (k m : Bool) (w : World) (hl : FewR l) (hA : ParsIn w w.heap.size A l) :
    Calls Try.prog 5 #[repV st A l.length c, .bool k, .bool m] w fun e w' => e = .returned (.bool (mayB st k m (firstL l))) ∧ Below w.heap.size w w' := by
  have hb := below_box w (.cells #[.int .i64 st, .slice A l.length c] 24)
  have hP : (w.alloc (.cells #[.int .i64 st, .slice A l.length c] 24)).heap[w.heap.size]? = some (repO st A l.length c) := heap_alloc_new w _
  have HPA := Lib.hid (fun w1 => Partial30_any st A l.length c w1)
  have HFI := Lib.hid (fun (w1 : World) (hb : Below w.heap.size w w1) => First30_any st l A c w1 hl (hA.on hb))
  unfold mayB
  generalize firstL l = q at *
  generalize (st == 206) = b at *
  unfold repV at *
  clear hl hA
  go_enter Try.func5, Try.ntmps5
  go_upto_region 1 with fail
  generalize w.alloc (.cells #[.int .i64 st, .slice A l.length c] 24) = W at *
  obtain ⟨p0, p1, pf, pz⟩ := rep_cells hP
  go_wp2_with fail
  refine (HPA.out W).mono ?_
  rintro e w1 ⟨rfl, hbn⟩
  have HB := Lib.hid (hb.trans (hbn.mono hb.size))
  clear p0 p1 pf
  replace hP := (hbn.block _ pz).trans hP
  clear pz hbn hb HPA
  obtain ⟨p0, p1, pf, pz⟩ := rep_cells hP
  clear hP
  cases b
  · go_wp2_with fail
    go_ret
    exact ⟨rfl, HB.out⟩
  · cases k
    · cases m
      · go_wp2_with fail
        go_ret
        exact ⟨rfl, HB.out⟩
      · go_wp2_with fail
        refine (HFI.out w1 HB.out).mono ?_
        rintro e w2 ⟨rfl, hb2⟩
        have HBZ := Lib.hid (HB.out.trans (hb2.mono HB.out.size))
        clear hb2
        go_wp2_with fail
        go_ret
        exact ⟨by simp, HBZ.out⟩
    · go_wp2_with fail
      go_ret
      exact ⟨rfl, HB.out⟩

set_option maxHeartbeats 1000000 in
theorem rMay_any (st : Int) (l : Pars) (A : Option Addr) (c : Nat) (k m : Bool) (w : World) (hl : FewR l) (hA : ParsIn w w.heap.size A l) :
    Calls Try.prog 6 #[repV st A l.length c, .bool k, .bool m] w fun e w' => e = .returned (.bool (mayB st k m (firstL l))) ∧ Below w.heap.size w w' := by
  have hb := below_box w (.cells #[.int .i64 st, .slice A l.length c] 24)
  have hP : (w.alloc (.cells #[.int .i64 st, .slice A l.length c] 24)).heap[w.heap.size]? = some (repO st A l.length c) := heap_alloc_new w _
  have HFI := Lib.hid (fun (w1 : World) (hb : Below w.heap.size w w1) => rFirst30_any st l A c w1 hl (hA.on hb))
  have hb0 : (st == 206) = decide (st = 206) := rfl
  unfold mayB
  generalize firstL l = q at *
  unfold repV at *
  have HB := Lib.hid hb
  clear hl hA
  go_enter Try.func6, Try.ntmps6
  go_upto_region 1 with fail
  generalize w.alloc (.cells #[.int .i64 st, .slice A l.length c] 24) = W at *
  obtain ⟨p0, p1, pf, pz⟩ := rep_cells hP
  clear hP hb
  by_cases h6 : st = 206
  · subst h6
    clear hb0
    cases k
    · cases m
      · go_wp2_with fail
        go_ret
        exact ⟨rfl, HB.out⟩
      · go_wp2_with fail
        refine (HFI.out W HB.out).mono ?_
        rintro e w2 ⟨rfl, hb2⟩
        have HBZ := Lib.hid (HB.out.trans (hb2.mono HB.out.size))
        clear hb2
        go_wp2_with fail
        go_ret
        exact ⟨by simp, HBZ.out⟩
    · go_wp2_with fail
      go_ret
      exact ⟨by simp, HB.out⟩
  · have h7 : (st == 206) = false := beq_eq_false_iff_ne.2 h6
    have HV : Hid ((!st == 206 || k || m && q) = true) := Lib.hid (by rw [h7]; rfl)
    clear hb0
    go_wp2_with fail
    go_ret
    exact ⟨by rw [HV.out]; try rfl, HB.out⟩

end Go.Proofs.Ytfdacmccdipohaa
