/-
  Walks of package header: the values of a name.
-/
import Derived.Test.YtjlemghmpnkncaaHeadA
namespace Go.Proofs.Ytjlemghmpnkncaa
open Go.RowKit
set_option linter.unusedSimpArgs false
set_option linter.unusedVariables false

/-- A header has a name. -/
def isName (name : ByteArray) (p : List UInt8 × List UInt8) : Bool := lowerL p.1 == lowerL name.data.toList

/-- The values of a name. -/
def getL (name : ByteArray) (l : Pars) : List ByteArray := (l.filter (isName name)).map (fun p => bt p.2)

theorem getL_snoc (name : ByteArray) (l : Pars) (k : Nat) (h : k < l.length) : getL name (l.take (k + 1)) = getL name (l.take k) ++ (if isName name l[k] = true then [bt l[k].2] else []) := by
  unfold getL
  rw [← List.take_append_getElem h, List.filter_append, List.map_append]
  congr 1
  by_cases hn : isName name l[k] = true
  · rw [List.filter_cons, if_pos hn, if_pos hn]; rfl
  · rw [List.filter_cons, if_neg hn, if_neg hn]; rfl

theorem getL_len (name : ByteArray) (l : Pars) : (getL name l).length ≤ l.length := by
  unfold getL
  rw [List.length_map]
  exact List.length_filter_le _ _

theorem entersNamed1 : Enters 120 := fun args w => MuLone.run_callFunc_enter Try.func120 (by kernel_rfl) rfl args w

theorem named1_any (p : List UInt8 × List UInt8) (name : ByteArray) (b : Nat) (w : World) (h1 : p.1.length ≤ 1000) (h2 : name.size ≤ 1000) (c0 : w.cell? ⟨b, 0, none⟩ = some (.string name)) :
    Calls Try.prog 120 #[.agg #[.string (bt p.1), .string (bt p.2)], .pointer (some ⟨b, 0, none⟩)] w fun e w' => e = .returned (.bool (isName name p)) ∧ Below w.heap.size w w' := by
  have HS := Lib.hid (fun w => Same_any (bt p.1) name w (by rw [bt_size]; unfold maxLen; omega) (by unfold maxLen; omega))
  rw [bt_list] at HS
  have hb : b < w.heap.size := lt_of_cell c0
  have hne : w.heap.size ≠ b := by omega
  unfold isName
  generalize (lowerL p.1 == lowerL name.data.toList) = q at *
  go_enter Try.func120, Try.ntmps120
  go_wp2_with (go_at_call 110; refine Calls.mono (HS.out _) ?_; rintro e w' ⟨rfl, hd⟩)
  go_ret
  exact ⟨rfl, (below_box w _).trans (hd.below _)⟩

theorem named_any (name : ByteArray) (w : World) :
    Calls Try.prog 107 #[.string name] w fun e w' => e = .returned (.func (.func 120) #[] #[.pointer (some ⟨w.heap.size, 0, none⟩)]) ∧ w.alloc (.cells #[.string name] 9) = w' := by
  have hmf : ∀ (fn : Fn) (first cap : Array Value) (w : World), (Instr.makeFunc fn first cap).run Try.prog w = .ok (.func fn first cap) w := fun _ _ _ _ => rfl
  go_enter Try.func107, Try.ntmps107
  go_wp2_with fail
  go_ret
  exact ⟨rfl, rfl⟩

set_option maxHeartbeats 4000000 in
set_option maxRecDepth 20000 in
theorem get_any (name : ByteArray) (l : Pars) (A : Option Addr) (c : Nat) (w : World) (hl : l.length ≤ 1000) (hps : ∀ p ∈ l, p.1.length ≤ 1000) (hn : name.size ≤ 1000) (hA : ParsIn w w.heap.size A l) :
    Calls Try.prog 77 #[.string name, .slice A l.length c] w fun e w' => ∃ A2 c2, e = .returned (.slice A2 (getL name l).length c2) ∧ StrsIn w' A2 (getL name l) ∧ Below w.heap.size w w' := by
  obtain ⟨i0, hi, hz0, hz1, hz2⟩ := info_parts infoStrT
  have HI := Lib.hid hi; have HZ0 := Lib.hid hz0; have HZ1 := Lib.hid hz1; have HZ2 := Lib.hid hz2
  clear hi hz0 hz1 hz2
  have hcf := entersNamed1
  unfold Enters at hcf
  have HPS := Lib.hid hps
  have HBW := Lib.hid (below_box w (.cells #[.string name] 9))
  have HA := Lib.hid ((hA.below HBW.out).more HBW.out.size)
  have cn : (w.alloc (.cells #[.string name] 9)).cell? ⟨w.heap.size, 0, none⟩ = some (.string name) := by simp [go_sem]
  have HCN := Lib.hid cn
  have hzw : w.heap.size < (w.alloc (.cells #[.string name] 9)).heap.size := by simp
  clear hA hps cn
  go_enter Try.func77, Try.ntmps77
  go_wp2_with (go_at_call 107; refine Calls.mono (named_any _ _) ?_; rintro e w' ⟨rfl, rfl⟩)
  generalize w.alloc (.cells #[.string name] 9) = W at *
  go_loopw [5, 13] (fun v i wr => ∃ k : Nat, k ≤ l.length ∧ i = .int .i64 k ∧ wr.ownsRow W.heap.size 9 1 v (getL name (l.take k)).length (rowS (getL name (l.take k))) ∧ Below W.heap.size W wr) (fun _ i _ => l.length - (intOf i).toNat)
  case atStart => exact ⟨0, Nat.zero_le _, rfl, by simpa [getL, rowS] using World.ownsRow_nil W W.heap.size 9 1, Below.refl _ _⟩
  case round =>
    obtain ⟨k, hk, rfl, hrow, hb⟩ := hrel
    by_cases hlt : k < l.length
    · rcases HA.out.below hb with hnil | ⟨g, off, rfl, hg, hcs⟩
      · rw [hnil] at hlt; simp at hlt
      obtain ⟨c0, c1⟩ := hcs k hlt
      have hz := hb.size
      have HB := Lib.hid hb
      have HROW := Lib.hid hrow
      have hsn := Lib.hid (getL_snoc name l k hlt)
      have hlen := getL_len name (l.take k)
      rw [List.length_take] at hlen
      have HBX := Lib.hid (below_box wr (.cells #[.string (bt l[k].1), .string (bt l[k].2)] 78))
      have hcn2 : (wr.alloc (.cells #[.string (bt l[k].1), .string (bt l[k].2)] 78)).cell? ⟨w.heap.size, 0, none⟩ = some (.string name) := (cell_below HBX.out (by omega)).trans ((cell_below HB.out hzw).trans HCN.out)
      have HN1 := Lib.hid (named1_any l[k] name w.heap.size _ (HPS.out l[k] (List.getElem_mem _)) hn hcn2)
      have hbx : (wr.alloc (.cells #[.string (bt l[k].1), .string (bt l[k].2)] 78)).heap[wr.heap.size]? = some (.cells #[.string (bt l[k].1), .string (bt l[k].2)] 78 (0, 0)) := heap_alloc_new wr _
      clear hcs hb hrow hcn2
      go_upto_region 6 with fail
      have hzx : wr.heap.size < (wr.alloc (.cells #[.string (bt l[k].1), .string (bt l[k].2)] 78)).heap.size := by simp
      have HROW1 := Lib.hid (HROW.out.alloc (.cells #[.string (bt l[k].1), .string (bt l[k].2)] 78))
      generalize wr.alloc (.cells #[.string (bt l[k].1), .string (bt l[k].2)] 78) = W1 at *
      have x0 := (Lib.cell_of_heap hbx (j := 0))
      have x1 := (Lib.cell_of_heap hbx (j := 1))
      simp at x0 x1
      go_wp2_with fail
      refine HN1.out.mono ?_
      rintro e w2 ⟨rfl, hb2⟩
      have HB2 := Lib.hid ((HB.out.trans (HBX.out.mono hz)).trans (hb2.mono (by have := HBX.out.size; omega)))
      have HROW2 := Lib.hid (row_stands HROW1.out (fun j _ hj => hb2.block j hj))
      have y1 := (cell_below hb2 hzx).trans x1
      have hz2 := HB2.out.size
      clear hb2 x0 x1 hbx HN1 HROW1 HBX HCN
      cases hin : isName name l[k]
      · have HSN : Hid (getL name (l.take (k + 1)) = getL name (l.take k)) := Lib.hid (by rw [hsn.out, if_neg (by rw [hin]; simp), List.append_nil])
        clear hsn hin
        go_wp2_with fail
        go_roundw
        case rel => exact ⟨k + 1, by omega, by go_num, by rw [HSN.out]; exact HROW2.out, HB2.out⟩
        case measure => simp [intOf]; omega
      · have HSN : Hid (getL name (l.take (k + 1)) = getL name (l.take k) ++ [bt l[k].2]) := Lib.hid (by rw [hsn.out, if_pos hin])
        have k0 := Lib.hid (HROW2.out.alloc (.cells #[.string (bt l[k].2)] 9))
        have k1 : Hid (∀ (j : Nat) (u : Value), ([.string (bt l[k].2)] : List Value)[j]? = some u → (w2.alloc (.cells #[.string (bt l[k].2)] 9)).cell? ((⟨w2.heap.size, 0, none⟩ : Addr).add j) = some u) := Lib.hid (cell_one_new _ _ _)
        have k2 := Lib.hid (show ∀ u ∈ ([.string (bt l[k].2)] : List Value), u.oneCell' = true from by intro u hu; simp at hu; subst hu; rfl)
        have k3 := Lib.hid (show (getL name (l.take k)).length + 1 ≤ maxLen from by unfold maxLen; omega)
        have k4 := Lib.hid (show ((getL name (l.take k)).length + 1) * 16 ≤ 140737488355328 from by omega)
        have k5 : Hid (W.heap.size ≤ (w2.alloc (.cells #[.string (bt l[k].2)] 9)).heap.size) := Lib.hid (by simp; omega)
        clear hsn hin
        go_wp2_with (at_builtin; refine wpList_append_lies _ rfl (.tmp 20) (.tmp 23) 79 rfl W.heap.size 9 i0 (.string ByteArray.empty) 1 16 Try.underlying79 HI.out HZ0.out HZ1.out HZ2.out rfl (by decide) _ _ _ rfl k0.out ⟨w2.heap.size, 0, none⟩ 1 1 _ rfl rfl k1.out k2.out (by decide) k3.out k4.out k5.out _ rfl ?_; intro g3 c3 w3 hown hgrow hat hlt3; have HO := Lib.hid hown; have HB3 := Lib.hid ((HB2.out.alloc hz2 (.cells #[.string (bt l[k].2)] 9)).grown hgrow (by simp; omega) (fun j hj => (HROW2.out.lt j hj).1)); clear hown hgrow hat hlt3)
        go_roundw
        case rel => exact ⟨k + 1, by omega, by go_num, by rw [HSN.out, rowS_snoc, List.length_append]; exact HO.out, HB3.out⟩
        case measure => simp [intOf]; omega
    · obtain rfl : k = l.length := by omega
      rw [List.take_of_length_le (Nat.le_refl _)] at hrow
      obtain ⟨A2, c2, hv, hA2⟩ := strs_of_own hrow rfl
      have HP := Lib.hid hA2
      have HB := Lib.hid hb
      clear hrow hA2 hb
      subst hv
      go_wp2_with fail
      go_ret
      exact ⟨A2, c2, rfl, HP.out, HBW.out.trans (HB.out.mono (by omega))⟩

theorem Get_any (name : ByteArray) (l : Pars) (A : Option Addr) (c : Nat) (w : World) (hl : l.length ≤ 1000) (hps : ∀ p ∈ l, p.1.length ≤ 1000) (hn : name.size ≤ 1000) (hA : ParsIn w w.heap.size A l) :
    Calls Try.prog 49 #[.string name, .slice A l.length c] w fun e w' => ∃ A2 c2, e = .returned (.slice A2 (getL name l).length c2) ∧ StrsIn w' A2 (getL name l) ∧ Below w.heap.size w w' := by
  have HG := Lib.hid (get_any name l A c w hl hps hn hA)
  clear hl hps hn hA
  go_enter Try.func49, Try.ntmps49
  go_wp2_with fail
  refine HG.out.mono ?_
  rintro e w2 ⟨A2, c2, rfl, h1, h2⟩
  have H := Lib.hid (And.intro h1 h2)
  clear h1 h2
  go_wp2_with fail
  go_ret
  exact ⟨A2, c2, rfl, H.out.1, H.out.2⟩

theorem lowerB_eq (a b : ByteArray) : ((lowerB a).toList == (lowerB b).toList) = (lowerL a.data.toList == lowerL b.data.toList) := by
  rw [Lib.toList_data, Lib.toList_data, lowerB_data, lowerB_data]

theorem rIs22_any (p : List UInt8 × List UInt8) (name : ByteArray) (w : World) (h1 : p.1.length ≤ 1000) (h2 : name.size ≤ 1000) :
    Calls Try.prog 87 #[.agg #[.string (bt p.1), .string (bt p.2)], .string name] w fun e w' => e = .returned (.bool (isName name p)) ∧ Below w.heap.size w w' := by
  have HL := Lib.hid (fun w => rLower_any (bt p.1) w (by rw [bt_size]; unfold maxLen; omega) (by rw [bt_size]; omega))
  have HM := Lib.hid (fun w => rLower_any name w (by unfold maxLen; omega) (by omega))
  have hq := lowerB_eq (bt p.1) name
  rw [bt_list] at hq
  unfold isName
  generalize (lowerL p.1 == lowerL name.data.toList) = q at *
  generalize lowerB (bt p.1) = X at *
  generalize lowerB name = Y at *
  go_enter Try.func87, Try.ntmps87
  go_wp2_with fail
  refine (HL.out _).mono ?_
  rintro e w2 ⟨rfl, hb2⟩
  go_wp2_with fail
  refine (HM.out _).mono ?_
  rintro e w3 ⟨rfl, hb3⟩
  go_wp2_with fail
  go_ret
  exact ⟨rfl, ((below_box w _).trans (hb2.mono (by simp))).trans (hb3.mono (by have := hb2.size; simp at this; omega))⟩

set_option maxHeartbeats 4000000 in
set_option maxRecDepth 20000 in
theorem rGet22_any (name : ByteArray) (l : Pars) (A : Option Addr) (c : Nat) (w : World) (hl : l.length ≤ 1000) (hps : ∀ p ∈ l, p.1.length ≤ 1000) (hn : name.size ≤ 1000) (hA : ParsIn w w.heap.size A l) :
    Calls Try.prog 51 #[.string name, .slice A l.length c] w fun e w' => ∃ A2 c2, e = .returned (.slice A2 (getL name l).length c2) ∧ StrsIn w' A2 (getL name l) ∧ Below w.heap.size w w' := by
  obtain ⟨i0, hi, hz0, hz1, hz2⟩ := info_parts infoStrT
  have HI := Lib.hid hi; have HZ0 := Lib.hid hz0; have HZ1 := Lib.hid hz1; have HZ2 := Lib.hid hz2
  clear hi hz0 hz1 hz2
  have HPS := Lib.hid hps
  have HA := Lib.hid hA
  clear hA hps
  go_enter Try.func51, Try.ntmps51
  go_wp2
  go_loopw [5, 6] (fun v i wr => ∃ k : Nat, k ≤ l.length ∧ i = .int .i64 k ∧ wr.ownsRow w.heap.size 9 1 v (getL name (l.take k)).length (rowS (getL name (l.take k))) ∧ Below w.heap.size w wr) (fun _ i _ => l.length - (intOf i).toNat)
  case atStart => exact ⟨0, Nat.zero_le _, rfl, by simpa [getL, rowS] using World.ownsRow_lit (base := w.heap.size) (e := 9) (size := 1) w #[] 0 (Nat.le_refl _) (Nat.zero_le _) rfl, (Below.refl _ _).alloc (Nat.le_refl _) _⟩
  case round =>
    obtain ⟨k, hk, rfl, hrow, hb⟩ := hrel
    by_cases hlt : k < l.length
    · rcases HA.out.below hb with hnil | ⟨g, off, rfl, hg, hcs⟩
      · rw [hnil] at hlt; simp at hlt
      obtain ⟨c0, c1⟩ := hcs k hlt
      have hz := hb.size
      have HB := Lib.hid hb
      have HROW := Lib.hid hrow
      have hsn := Lib.hid (getL_snoc name l k hlt)
      have hlen := getL_len name (l.take k)
      rw [List.length_take] at hlen
      have HN1 := Lib.hid (rIs22_any l[k] name wr (HPS.out l[k] (List.getElem_mem _)) hn)
      clear hcs hb hrow
      go_wp2_with fail
      refine HN1.out.mono ?_
      rintro e w2 ⟨rfl, hb2⟩
      have HB2 := Lib.hid (HB.out.trans (hb2.mono hz))
      have HROW2 := Lib.hid (row_stands HROW.out (fun j _ hj => hb2.block j hj))
      have d1 := (cell_below hb2 (Nat.lt_of_lt_of_le hg hz)).trans c1
      have hz2 := HB2.out.size
      clear hb2 c0 c1 HN1
      cases hin : isName name l[k]
      · have HSN : Hid (getL name (l.take (k + 1)) = getL name (l.take k)) := Lib.hid (by rw [hsn.out, if_neg (by rw [hin]; simp), List.append_nil])
        clear hsn hin
        go_wp2_with fail
        go_roundw
        case rel => exact ⟨k + 1, by omega, by go_num, by rw [HSN.out]; exact HROW2.out, HB2.out⟩
        case measure => simp [intOf]; omega
      · have HSN : Hid (getL name (l.take (k + 1)) = getL name (l.take k) ++ [bt l[k].2]) := Lib.hid (by rw [hsn.out, if_pos hin])
        have k0 := Lib.hid (HROW2.out.alloc (.cells #[.string (bt l[k].2)] 9))
        have k1 : Hid (∀ (j : Nat) (u : Value), ([.string (bt l[k].2)] : List Value)[j]? = some u → (w2.alloc (.cells #[.string (bt l[k].2)] 9)).cell? ((⟨w2.heap.size, 0, none⟩ : Addr).add j) = some u) := Lib.hid (cell_one_new _ _ _)
        have k2 := Lib.hid (show ∀ u ∈ ([.string (bt l[k].2)] : List Value), u.oneCell' = true from by intro u hu; simp at hu; subst hu; rfl)
        have k3 := Lib.hid (show (getL name (l.take k)).length + 1 ≤ maxLen from by unfold maxLen; omega)
        have k4 := Lib.hid (show ((getL name (l.take k)).length + 1) * 16 ≤ 140737488355328 from by omega)
        have k5 : Hid (w.heap.size ≤ (w2.alloc (.cells #[.string (bt l[k].2)] 9)).heap.size) := Lib.hid (by simp; omega)
        clear hsn hin
        go_wp2_with (at_builtin; refine wpList_append_lies _ rfl (.tmp 20) (.tmp 26) 79 rfl w.heap.size 9 i0 (.string ByteArray.empty) 1 16 Try.underlying79 HI.out HZ0.out HZ1.out HZ2.out rfl (by decide) _ _ _ rfl k0.out ⟨w2.heap.size, 0, none⟩ 1 1 _ rfl rfl k1.out k2.out (by decide) k3.out k4.out k5.out _ rfl ?_; intro g3 c3 w3 hown hgrow hat hlt3; have HO := Lib.hid hown; have HB3 := Lib.hid ((HB2.out.alloc hz2 (.cells #[.string (bt l[k].2)] 9)).grown hgrow (by simp; omega) (fun j hj => (HROW2.out.lt j hj).1)); clear hown hgrow hat hlt3)
        go_roundw
        case rel => exact ⟨k + 1, by omega, by go_num, by rw [HSN.out, rowS_snoc, List.length_append]; exact HO.out, HB3.out⟩
        case measure => simp [intOf]; omega
    · obtain rfl : k = l.length := by omega
      rw [List.take_of_length_le (Nat.le_refl _)] at hrow
      obtain ⟨A2, c2, hv, hA2⟩ := strs_of_own hrow rfl
      have HP := Lib.hid hA2
      have HB := Lib.hid hb
      clear hrow hA2 hb
      subst hv
      go_wp2_with fail
      go_ret
      exact ⟨A2, c2, rfl, HP.out, HB.out⟩

end Go.Proofs.Ytjlemghmpnkncaa
