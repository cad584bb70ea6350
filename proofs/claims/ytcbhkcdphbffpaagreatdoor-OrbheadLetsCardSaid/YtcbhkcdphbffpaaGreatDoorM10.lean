/-
  Lemmas of this claim, part 10: the texts HeadB, SniA, CombD, one behind the other.
-/
import Derived.Test.YtcbhkcdphbffpaaGreatDoorM9

namespace Go.Proofs.YtcbhkcdphbffpaaGreatDoor
open Go.RowKit
set_option linter.unusedSimpArgs false
set_option linter.unusedVariables false

/-- A header has a name. -/
def isName (name : ByteArray) (p : List UInt8 × List UInt8) : Bool := lowerL p.1 == lowerL name.data.toList

/-- The values of a name. -/
def getL (name : ByteArray) (l : Pars) : List ByteArray := (l.filter (isName name)).map (fun p => bt p.2)

theorem getL_snoc (name : ByteArray) (l : Pars) (k : Nat) (h : k < l.length) : getL name (l.take (k + 1)) = getL name (l.take k) ++ (if isName name l[k] = true then [bt l[k].2] else []) := by
  unfold getL
  rw [← List.take_append_getElem h, List.filter_append, List.map_append]
  congr 1
  by_cases hn : isName name l[k] = true
  · rw [List.filter_cons, if_pos hn, if_pos hn]; rfl
  · rw [List.filter_cons, if_neg hn, if_neg hn]; rfl

theorem getL_len (name : ByteArray) (l : Pars) : (getL name l).length ≤ l.length := by
  unfold getL
  rw [List.length_map]
  exact List.length_filter_le _ _

theorem entersNamed1 : Enters 160 := fun args w => MuLone.run_callFunc_enter Tryz.func160 (by kernel_rfl) rfl args w

theorem named1_any (p : List UInt8 × List UInt8) (name : ByteArray) (b : Nat) (w : World) (h1 : p.1.length ≤ 1000) (h2 : name.size ≤ 1000) (c0 : w.cell? ⟨b, 0, none⟩ = some (.string name)) :
    Calls Tryz.prog 160 #[.agg #[.string (bt p.1), .string (bt p.2)], .pointer (some ⟨b, 0, none⟩)] w fun e w' => e = .returned (.bool (isName name p)) ∧ Below w.heap.size w w' := by
  have HS := Lib.hid (fun w => Same_any (bt p.1) name w (by rw [bt_size]; unfold maxLen; omega) (by unfold maxLen; omega))
  rw [bt_list] at HS
  have hb : b < w.heap.size := lt_of_cell c0
  have hne : w.heap.size ≠ b := by omega
  unfold isName
  generalize (lowerL p.1 == lowerL name.data.toList) = q at *
  go_enter Tryz.func160, Tryz.ntmps160
  go_wp2_with (go_at_call 73; refine Calls.mono (HS.out _) ?_; rintro e w' ⟨rfl, hd⟩)
  go_ret
  exact ⟨rfl, (below_box w _).trans (hd.below _)⟩

theorem named_any (name : ByteArray) (w : World) :
    Calls Tryz.prog 129 #[.string name] w fun e w' => e = .returned (.func (.func 160) #[] #[.pointer (some ⟨w.heap.size, 0, none⟩)]) ∧ w.alloc (.cells #[.string name] 9) = w' := by
  have hmf : ∀ (fn : Fn) (first cap : Array Value) (w : World), (Instr.makeFunc fn first cap).run Tryz.prog w = .ok (.func fn first cap) w := fun _ _ _ _ => rfl
  go_enter Tryz.func129, Tryz.ntmps129
  go_wp2_with fail
  go_ret
  exact ⟨rfl, rfl⟩

set_option maxHeartbeats 4000000 in
set_option maxRecDepth 20000 in
theorem get_any (name : ByteArray) (l : Pars) (A : Option Addr) (c : Nat) (w : World) (hl : l.length ≤ 1000) (hps : ∀ p ∈ l, p.1.length ≤ 1000) (hn : name.size ≤ 1000) (hA : ParsIn w w.heap.size A l) :
    Calls Tryz.prog 94 #[.string name, .slice A l.length c] w fun e w' => ∃ A2 c2, e = .returned (.slice A2 (getL name l).length c2) ∧ StrsIn w' A2 (getL name l) ∧ Below w.heap.size w w' ∧ (getL name l).length ≤ c2 := by
  obtain ⟨i0, hi, hz0, hz1, hz2⟩ := info_parts infoStrT
  have HI := Lib.hid hi; have HZ0 := Lib.hid hz0; have HZ1 := Lib.hid hz1; have HZ2 := Lib.hid hz2
  clear hi hz0 hz1 hz2
  have hcf := entersNamed1
  unfold Enters at hcf
  have HPS := Lib.hid hps
  have HBW := Lib.hid (below_box w (.cells #[.string name] 9))
  have HA := Lib.hid ((hA.below HBW.out).more HBW.out.size)
  have cn : (w.alloc (.cells #[.string name] 9)).cell? ⟨w.heap.size, 0, none⟩ = some (.string name) := by simp [go_sem]
  have HCN := Lib.hid cn
  have hzw : w.heap.size < (w.alloc (.cells #[.string name] 9)).heap.size := by simp
  clear hA hps cn
  go_enter Tryz.func94, Tryz.ntmps94
  go_wp2_with (go_at_call 129; refine Calls.mono (named_any _ _) ?_; rintro e w' ⟨rfl, rfl⟩)
  generalize w.alloc (.cells #[.string name] 9) = W at *
  go_loopw [5, 13] (fun v i wr => ∃ k : Nat, k ≤ l.length ∧ i = .int .i64 k ∧ wr.ownsRow W.heap.size 9 1 v (getL name (l.take k)).length (rowS (getL name (l.take k))) ∧ Below W.heap.size W wr) (fun _ i _ => l.length - (intOf i).toNat)
  case atStart => exact ⟨0, Nat.zero_le _, rfl, by simpa [getL, rowS] using World.ownsRow_nil W W.heap.size 9 1, Below.refl _ _⟩
  case round =>
    obtain ⟨k, hk, rfl, hrow, hb⟩ := hrel
    by_cases hlt : k < l.length
    · rcases HA.out.below hb with hnil | ⟨g, off, rfl, hg, hcs⟩
      · rw [hnil] at hlt; simp at hlt
      obtain ⟨c0, c1⟩ := hcs k hlt
      have hz := hb.size
      have HB := Lib.hid hb
      have HROW := Lib.hid hrow
      have hsn := Lib.hid (getL_snoc name l k hlt)
      have hlen := getL_len name (l.take k)
      rw [List.length_take] at hlen
      have HBX := Lib.hid (below_box wr (.cells #[.string (bt l[k].1), .string (bt l[k].2)] 54))
      have hcn2 : (wr.alloc (.cells #[.string (bt l[k].1), .string (bt l[k].2)] 54)).cell? ⟨w.heap.size, 0, none⟩ = some (.string name) := (cell_below HBX.out (by omega)).trans ((cell_below HB.out hzw).trans HCN.out)
      have HN1 := Lib.hid (named1_any l[k] name w.heap.size _ (HPS.out l[k] (List.getElem_mem _)) hn hcn2)
      have hbx : (wr.alloc (.cells #[.string (bt l[k].1), .string (bt l[k].2)] 54)).heap[wr.heap.size]? = some (.cells #[.string (bt l[k].1), .string (bt l[k].2)] 54 (0, 0)) := heap_alloc_new wr _
      clear hcs hb hrow hcn2
      go_upto_region 6 with fail
      have hzx : wr.heap.size < (wr.alloc (.cells #[.string (bt l[k].1), .string (bt l[k].2)] 54)).heap.size := by simp
      have HROW1 := Lib.hid (HROW.out.alloc (.cells #[.string (bt l[k].1), .string (bt l[k].2)] 54))
      generalize wr.alloc (.cells #[.string (bt l[k].1), .string (bt l[k].2)] 54) = W1 at *
      have x0 := (Lib.cell_of_heap hbx (j := 0))
      have x1 := (Lib.cell_of_heap hbx (j := 1))
      simp at x0 x1
      go_wp2_with fail
      refine HN1.out.mono ?_
      rintro e w2 ⟨rfl, hb2⟩
      have HB2 := Lib.hid ((HB.out.trans (HBX.out.mono hz)).trans (hb2.mono (by have := HBX.out.size; omega)))
      have HROW2 := Lib.hid (row_stands HROW1.out (fun j _ hj => hb2.block j hj))
      have y1 := (cell_below hb2 hzx).trans x1
      have hz2 := HB2.out.size
      clear hb2 x0 x1 hbx HN1 HROW1 HBX HCN
      cases hin : isName name l[k]
      · have HSN : Hid (getL name (l.take (k + 1)) = getL name (l.take k)) := Lib.hid (by rw [hsn.out, if_neg (by rw [hin]; simp), List.append_nil])
        clear hsn hin
        go_wp2_with fail
        go_roundw
        case rel => exact ⟨k + 1, by omega, by go_num, by rw [HSN.out]; exact HROW2.out, HB2.out⟩
        case measure => simp [intOf]; omega
      · have HSN : Hid (getL name (l.take (k + 1)) = getL name (l.take k) ++ [bt l[k].2]) := Lib.hid (by rw [hsn.out, if_pos hin])
        have k0 := Lib.hid (HROW2.out.alloc (.cells #[.string (bt l[k].2)] 9))
        have k1 : Hid (∀ (j : Nat) (u : Value), ([.string (bt l[k].2)] : List Value)[j]? = some u → (w2.alloc (.cells #[.string (bt l[k].2)] 9)).cell? ((⟨w2.heap.size, 0, none⟩ : Addr).add j) = some u) := Lib.hid (cell_one_new _ _ _)
        have k2 := Lib.hid (show ∀ u ∈ ([.string (bt l[k].2)] : List Value), u.oneCell' = true from by intro u hu; simp at hu; subst hu; rfl)
        have k3 := Lib.hid (show (getL name (l.take k)).length + 1 ≤ maxLen from by unfold maxLen; omega)
        have k4 := Lib.hid (show ((getL name (l.take k)).length + 1) * 16 ≤ 140737488355328 from by omega)
        have k5 : Hid (W.heap.size ≤ (w2.alloc (.cells #[.string (bt l[k].2)] 9)).heap.size) := Lib.hid (by simp; omega)
        clear hsn hin
        go_wp2_with (at_builtin; refine wpList_append_lies _ rfl (.tmp 20) (.tmp 23) 45 rfl W.heap.size 9 i0 (.string ByteArray.empty) 1 16 Tryz.underlying45 HI.out HZ0.out HZ1.out HZ2.out rfl (by decide) _ _ _ rfl k0.out ⟨w2.heap.size, 0, none⟩ 1 1 _ rfl rfl k1.out k2.out (by decide) k3.out k4.out k5.out _ rfl ?_; intro g3 c3 w3 hown hgrow hat hlt3; have HO := Lib.hid hown; have HB3 := Lib.hid ((HB2.out.alloc hz2 (.cells #[.string (bt l[k].2)] 9)).grown hgrow (by simp; omega) (fun j hj => (HROW2.out.lt j hj).1)); clear hown hgrow hat hlt3)
        go_roundw
        case rel => exact ⟨k + 1, by omega, by go_num, by rw [HSN.out, rowS_snoc, List.length_append]; exact HO.out, HB3.out⟩
        case measure => simp [intOf]; omega
    · obtain rfl : k = l.length := by omega
      rw [List.take_of_length_le (Nat.le_refl _)] at hrow
      obtain ⟨A2, c2, hv, hA2, hc2⟩ := strs_of_ownC hrow rfl
      have HP := Lib.hid (And.intro hA2 hc2)
      have HB := Lib.hid hb
      clear hrow hA2 hb hc2
      subst hv
      go_wp2_with fail
      go_ret
      exact ⟨A2, c2, rfl, HP.out.1, HBW.out.trans (HB.out.mono (by omega)), HP.out.2⟩

theorem Get_any (name : ByteArray) (l : Pars) (A : Option Addr) (c : Nat) (w : World) (hl : l.length ≤ 1000) (hps : ∀ p ∈ l, p.1.length ≤ 1000) (hn : name.size ≤ 1000) (hA : ParsIn w w.heap.size A l) :
    Calls Tryz.prog 71 #[.string name, .slice A l.length c] w fun e w' => ∃ A2 c2, e = .returned (.slice A2 (getL name l).length c2) ∧ StrsIn w' A2 (getL name l) ∧ Below w.heap.size w w' ∧ (getL name l).length ≤ c2 := by
  have HG := Lib.hid (get_any name l A c w hl hps hn hA)
  clear hl hps hn hA
  go_enter Tryz.func71, Tryz.ntmps71
  go_wp2_with fail
  refine HG.out.mono ?_
  rintro e w2 ⟨A2, c2, rfl, h1, h2, h3⟩
  have H := Lib.hid (And.intro h1 (And.intro h2 h3))
  clear h1 h2 h3
  go_wp2_with fail
  go_ret
  exact ⟨A2, c2, rfl, H.out.1, H.out.2.1, H.out.2.2⟩

theorem lowerB_eq (a b : ByteArray) : ((lowerB a).toList == (lowerB b).toList) = (lowerL a.data.toList == lowerL b.data.toList) := by
  rw [Lib.toList_data, Lib.toList_data, lowerB_data, lowerB_data]

theorem rIs22_any (p : List UInt8 × List UInt8) (name : ByteArray) (w : World) (h1 : p.1.length ≤ 1000) (h2 : name.size ≤ 1000) :
    Calls Tryz.prog 64 #[.agg #[.string (bt p.1), .string (bt p.2)], .string name] w fun e w' => e = .returned (.bool (isName name p)) ∧ Below w.heap.size w w' := by
  have HL := Lib.hid (fun w => rLower_any (bt p.1) w (by rw [bt_size]; unfold maxLen; omega) (by rw [bt_size]; omega))
  have HM := Lib.hid (fun w => rLower_any name w (by unfold maxLen; omega) (by omega))
  have hq := lowerB_eq (bt p.1) name
  rw [bt_list] at hq
  unfold isName
  generalize (lowerL p.1 == lowerL name.data.toList) = q at *
  generalize lowerB (bt p.1) = X at *
  generalize lowerB name = Y at *
  go_enter Tryz.func64, Tryz.ntmps64
  go_wp2_with fail
  refine (HL.out _).mono ?_
  rintro e w2 ⟨rfl, hb2⟩
  go_wp2_with fail
  refine (HM.out _).mono ?_
  rintro e w3 ⟨rfl, hb3⟩
  go_wp2_with fail
  go_ret
  exact ⟨rfl, ((below_box w _).trans (hb2.mono (by simp))).trans (hb3.mono (by have := hb2.size; simp at this; omega))⟩

set_option maxHeartbeats 4000000 in
set_option maxRecDepth 20000 in
theorem rGet22_any (name : ByteArray) (l : Pars) (A : Option Addr) (c : Nat) (w : World) (hl : l.length ≤ 1000) (hps : ∀ p ∈ l, p.1.length ≤ 1000) (hn : name.size ≤ 1000) (hA : ParsIn w w.heap.size A l) :
    Calls Tryz.prog 36 #[.string name, .slice A l.length c] w fun e w' => ∃ A2 c2, e = .returned (.slice A2 (getL name l).length c2) ∧ StrsIn w' A2 (getL name l) ∧ Below w.heap.size w w' := by
  obtain ⟨i0, hi, hz0, hz1, hz2⟩ := info_parts infoStrT
  have HI := Lib.hid hi; have HZ0 := Lib.hid hz0; have HZ1 := Lib.hid hz1; have HZ2 := Lib.hid hz2
  clear hi hz0 hz1 hz2
  have HPS := Lib.hid hps
  have HA := Lib.hid hA
  clear hA hps
  go_enter Tryz.func36, Tryz.ntmps36
  go_wp2
  go_loopw [5, 6] (fun v i wr => ∃ k : Nat, k ≤ l.length ∧ i = .int .i64 k ∧ wr.ownsRow w.heap.size 9 1 v (getL name (l.take k)).length (rowS (getL name (l.take k))) ∧ Below w.heap.size w wr) (fun _ i _ => l.length - (intOf i).toNat)
  case atStart => exact ⟨0, Nat.zero_le _, rfl, by simpa [getL, rowS] using World.ownsRow_lit (base := w.heap.size) (e := 9) (size := 1) w #[] 0 (Nat.le_refl _) (Nat.zero_le _) rfl, (Below.refl _ _).alloc (Nat.le_refl _) _⟩
  case round =>
    obtain ⟨k, hk, rfl, hrow, hb⟩ := hrel
    by_cases hlt : k < l.length
    · rcases HA.out.below hb with hnil | ⟨g, off, rfl, hg, hcs⟩
      · rw [hnil] at hlt; simp at hlt
      obtain ⟨c0, c1⟩ := hcs k hlt
      have hz := hb.size
      have HB := Lib.hid hb
      have HROW := Lib.hid hrow
      have hsn := Lib.hid (getL_snoc name l k hlt)
      have hlen := getL_len name (l.take k)
      rw [List.length_take] at hlen
      have HN1 := Lib.hid (rIs22_any l[k] name wr (HPS.out l[k] (List.getElem_mem _)) hn)
      clear hcs hb hrow
      go_wp2_with fail
      refine HN1.out.mono ?_
      rintro e w2 ⟨rfl, hb2⟩
      have HB2 := Lib.hid (HB.out.trans (hb2.mono hz))
      have HROW2 := Lib.hid (row_stands HROW.out (fun j _ hj => hb2.block j hj))
      have d1 := (cell_below hb2 (Nat.lt_of_lt_of_le hg hz)).trans c1
      have hz2 := HB2.out.size
      clear hb2 c0 c1 HN1
      cases hin : isName name l[k]
      · have HSN : Hid (getL name (l.take (k + 1)) = getL name (l.take k)) := Lib.hid (by rw [hsn.out, if_neg (by rw [hin]; simp), List.append_nil])
        clear hsn hin
        go_wp2_with fail
        go_roundw
        case rel => exact ⟨k + 1, by omega, by go_num, by rw [HSN.out]; exact HROW2.out, HB2.out⟩
        case measure => simp [intOf]; omega
      · have HSN : Hid (getL name (l.take (k + 1)) = getL name (l.take k) ++ [bt l[k].2]) := Lib.hid (by rw [hsn.out, if_pos hin])
        have k0 := Lib.hid (HROW2.out.alloc (.cells #[.string (bt l[k].2)] 9))
        have k1 : Hid (∀ (j : Nat) (u : Value), ([.string (bt l[k].2)] : List Value)[j]? = some u → (w2.alloc (.cells #[.string (bt l[k].2)] 9)).cell? ((⟨w2.heap.size, 0, none⟩ : Addr).add j) = some u) := Lib.hid (cell_one_new _ _ _)
        have k2 := Lib.hid (show ∀ u ∈ ([.string (bt l[k].2)] : List Value), u.oneCell' = true from by intro u hu; simp at hu; subst hu; rfl)
        have k3 := Lib.hid (show (getL name (l.take k)).length + 1 ≤ maxLen from by unfold maxLen; omega)
        have k4 := Lib.hid (show ((getL name (l.take k)).length + 1) * 16 ≤ 140737488355328 from by omega)
        have k5 : Hid (w.heap.size ≤ (w2.alloc (.cells #[.string (bt l[k].2)] 9)).heap.size) := Lib.hid (by simp; omega)
        clear hsn hin
        go_wp2_with (at_builtin; refine wpList_append_lies _ rfl (.tmp 20) (.tmp 26) 45 rfl w.heap.size 9 i0 (.string ByteArray.empty) 1 16 Tryz.underlying45 HI.out HZ0.out HZ1.out HZ2.out rfl (by decide) _ _ _ rfl k0.out ⟨w2.heap.size, 0, none⟩ 1 1 _ rfl rfl k1.out k2.out (by decide) k3.out k4.out k5.out _ rfl ?_; intro g3 c3 w3 hown hgrow hat hlt3; have HO := Lib.hid hown; have HB3 := Lib.hid ((HB2.out.alloc hz2 (.cells #[.string (bt l[k].2)] 9)).grown hgrow (by simp; omega) (fun j hj => (HROW2.out.lt j hj).1)); clear hown hgrow hat hlt3)
        go_roundw
        case rel => exact ⟨k + 1, by omega, by go_num, by rw [HSN.out, rowS_snoc, List.length_append]; exact HO.out, HB3.out⟩
        case measure => simp [intOf]; omega
    · obtain rfl : k = l.length := by omega
      rw [List.take_of_length_le (Nat.le_refl _)] at hrow
      obtain ⟨A2, c2, hv, hA2⟩ := strs_of_own hrow rfl
      have HP := Lib.hid hA2
      have HB := Lib.hid hb
      clear hrow hA2 hb
      subst hv
      go_wp2_with fail
      go_ret
      exact ⟨A2, c2, rfl, HP.out, HB.out⟩

end Go.Proofs.YtcbhkcdphbffpaaGreatDoor

namespace Go.Proofs.YtcbhkcdphbffpaaGreatDoor
open Go.RowKit
set_option linter.unusedSimpArgs false
set_option linter.unusedVariables false

def optName : ByteArray := ⟨#[88, 45, 67, 111, 110, 116, 101, 110, 116, 45, 84, 121, 112, 101, 45, 79, 112, 116, 105, 111, 110, 115]⟩
def optSmall : ByteArray := ⟨#[120, 45, 99, 111, 110, 116, 101, 110, 116, 45, 116, 121, 112, 101, 45, 111, 112, 116, 105, 111, 110, 115]⟩
def sniffT : ByteArray := ⟨#[110, 111, 115, 110, 105, 102, 102]⟩

theorem getL_opt (l : Pars) : getL optName l = getL optSmall l := by
  unfold getL isName
  rw [show lowerL optName.data.toList = lowerL optSmall.data.toList from by decide +kernel]

/-- What is said of sniffing. -/
def sniL (l : Pars) : List ByteArray := valuesL (getL optName l)

def isSniff (v : ByteArray) : Bool := lowerL v.data.toList == lowerL sniffT.data.toList

/-- Nothing may be sniffed. -/
def noSniff (l : Pars) : Bool := match sniL l with
  | [] => false
  | v :: _ => isSniff v

/-- Headers that are few and not long. -/
structure FewP (l : Pars) : Prop where
  n : l.length ≤ 10
  p : ∀ p ∈ l, p.1.length ≤ 1000 ∧ p.2.length ≤ 100

theorem FewP.get {l : Pars} (h : FewP l) (name : ByteArray) : (getL name l).length ≤ 10 ∧ ∀ s ∈ getL name l, s.size ≤ 100 := by
  refine ⟨Nat.le_trans (getL_len name l) h.n, fun s hs => ?_⟩
  unfold getL at hs
  obtain ⟨p, hp, rfl⟩ := List.mem_map.1 hs
  rw [bt_size]
  exact (h.p p (List.mem_filter.1 hp).1).2

theorem fewHs_few (l : Pars) : FewP (fewHs 10 l) := by
  obtain ⟨h1, h2⟩ := fewHs_sizes 10 l
  exact ⟨h1, fun p hp => ⟨Nat.le_trans (h2 p hp).1 (by omega), (h2 p hp).2⟩⟩

theorem Combined_none (name : ByteArray) (l : Pars) (A : Option Addr) (c : Nat) (w : World) (hl : FewP l) (hn : name.size ≤ 1000) (hA : ParsIn w w.heap.size A l) (h0 : getL name l = []) :
    Calls Tryz.prog 95 #[.string name, .slice A l.length c] w fun e w' => e = .returned (.tuple #[.string ⟨#[]⟩, .bool false]) ∧ Below w.heap.size w w' := by
  have HG := Lib.hid (get_any name l A c w (Nat.le_trans hl.n (by omega)) (fun p hp => (hl.p p hp).1) hn hA)
  rw [h0] at HG
  clear hl hA h0
  go_enter Tryz.func95, Tryz.ntmps95
  go_wp2_with fail
  refine HG.out.mono ?_
  rintro e w2 ⟨A2, c2, rfl, h1, h2, h3⟩
  have H := Lib.hid h2
  clear h1 h2 h3
  go_wp2_with fail
  go_ret2
  exact ⟨rfl, H.out⟩

theorem Combined_some (name : ByteArray) (l : Pars) (A : Option Addr) (c : Nat) (w : World) (hl : FewP l) (hn : name.size ≤ 1000) (hA : ParsIn w w.heap.size A l) (h0 : getL name l ≠ []) :
    Calls Tryz.prog 95 #[.string name, .slice A l.length c] w fun e w' => e = .returned (.tuple #[.string (bt (joinL (getL name l))), .bool true]) ∧ Below w.heap.size w w' := by
  have HG := Lib.hid (get_any name l A c w (Nat.le_trans hl.n (by omega)) (fun p hp => (hl.p p hp).1) hn hA)
  obtain ⟨g1, g2⟩ := hl.get name
  have h0i : ((getL name l).length : Int) ≠ 0 := fun h => h0 (List.eq_nil_of_length_eq_zero (by omega))
  have h0b : (((getL name l).length : Int) == 0) = false := beq_eq_false_iff_ne.2 h0i
  have HJ := Lib.hid (fun (A2 : Option Addr) (c2 : Nat) (w2 : World) (h1 : StrsIn w2 A2 (getL name l)) (h3 : (getL name l).length ≤ c2) => CJoin_any (getL name l) A2 c2 w2 h1 h3 (by omega) (fun s hs => Nat.le_trans (g2 s hs) (by omega)))
  generalize bt (joinL (getL name l)) = J at *
  generalize getL name l = v at *
  clear hl hA h0 g1 g2 h0i
  go_enter Tryz.func95, Tryz.ntmps95
  go_wp2_with fail
  refine HG.out.mono ?_
  rintro e w2 ⟨A2, c2, rfl, h1, h2, h3⟩
  have H := Lib.hid h2
  have HJ2 := Lib.hid (HJ.out A2 c2 w2 h1 h3)
  clear h1 h2 h3 HJ
  go_wp2_with fail
  refine HJ2.out.mono ?_
  rintro e w3 ⟨rfl, hb3⟩
  have HB := Lib.hid (H.out.trans (hb3.mono H.out.size))
  clear hb3
  go_wp2_with fail
  go_ret2
  exact ⟨rfl, HB.out⟩

theorem sni_room {l : Pars} (h : FewP l) : (bt (joinL (getL optName l))).size ≤ 100000 := by
  obtain ⟨g1, g2⟩ := h.get optName
  rw [bt_size]
  have h1 := join_len (getL optName l) 100 g2
  have h3 := Nat.mul_le_mul_right (100 + 2) g1
  omega

theorem sni_some {l : Pars} (h : getL optName l ≠ []) : sniL l = splitB (bt (joinL (getL optName l))) := by
  unfold sniL valuesL
  rw [if_neg h]

theorem sni_none {l : Pars} (h : getL optName l = []) : sniL l = [] := by
  unfold sniL valuesL
  rw [if_pos h]

theorem svalues_any (l : Pars) (A : Option Addr) (c : Nat) (w : World) (hl : FewP l) (hA : ParsIn w w.heap.size A l) :
    Calls Tryz.prog 72 #[.slice A l.length c] w fun e w' => GivesStrs (sniL l) w e w' := by
  by_cases h0 : getL optName l = []
  · rw [sni_none h0]
    have HC := Lib.hid (Combined_none optName l A c w hl (by decide) hA h0)
    unfold optName at HC
    clear hA h0 hl
    go_enter Tryz.func72, Tryz.ntmps72
    go_wp2_with fail
    refine HC.out.mono ?_
    rintro e w2 ⟨rfl, hb⟩
    go_wp2_with fail
    go_ret
    exact ⟨none, 0, rfl, .inl rfl, hb⟩
  · rw [sni_some h0]
    have HC := Lib.hid (Combined_some optName l A c w hl (by decide) hA h0)
    have hr := sni_room hl
    generalize bt (joinL (getL optName l)) = J at *
    have HS := Lib.hid (fun w => Split_gives J w hr)
    unfold optName at HC
    clear hA h0 hl
    go_enter Tryz.func72, Tryz.ntmps72
    go_wp2_with fail
    refine HC.out.mono ?_
    rintro e w2 ⟨rfl, hb⟩
    have HB := Lib.hid hb
    clear hb
    go_wp2_with fail
    refine (HS.out _).mono ?_
    rintro e w3 ⟨A2, c2, rfl, hA2, hb2⟩
    have H2 := Lib.hid (And.intro hA2 (HB.out.trans (hb2.mono HB.out.size)))
    clear hA2 hb2
    go_wp2_with fail
    go_ret
    exact ⟨A2, c2, rfl, H2.out.1, H2.out.2⟩

theorem rsValues_any (l : Pars) (A : Option Addr) (c : Nat) (w : World) (hl : FewP l) (hA : ParsIn w w.heap.size A l) :
    Calls Tryz.prog 65 #[.slice A l.length c] w fun e w' => GivesStrs (sniL l) w e w' := by
  have HG := Lib.hid (rGet22_any optSmall l A c w (Nat.le_trans hl.n (by omega)) (fun p hp => (hl.p p hp).1) (by decide) hA)
  rw [← getL_opt] at HG
  unfold optSmall at HG
  obtain ⟨g1, g2⟩ := hl.get optName
  by_cases h0 : getL optName l = []
  · rw [sni_none h0]
    rw [h0] at HG
    clear hA h0 hl g1 g2
    go_enter Tryz.func65, Tryz.ntmps65
    go_wp2_with fail
    refine HG.out.mono ?_
    rintro e w2 ⟨A2, c2, rfl, h1, h2⟩
    have H := Lib.hid h2
    clear h1 h2
    go_wp2_with fail
    go_ret
    exact ⟨none, 0, rfl, .inl rfl, H.out⟩
  · rw [sni_some h0]
    have h0i : ((getL optName l).length : Int) ≠ 0 := fun h => h0 (List.eq_nil_of_length_eq_zero (by omega))
    have h0b : (((getL optName l).length : Int) == 0) = false := beq_eq_false_iff_ne.2 h0i
    have hr := sni_room hl
    have HJ := Lib.hid (fun (A2 : Option Addr) (c2 : Nat) (w2 : World) (h1 : StrsIn w2 A2 (getL optName l)) => rJoin11_any (getL optName l) A2 c2 w2 h1 (by omega) (fun s hs => Nat.le_trans (g2 s hs) (by omega)))
    generalize bt (joinL (getL optName l)) = J at *
    generalize getL optName l = v at *
    have HS := Lib.hid (fun w => rSplit_any J w hr)
    clear hl hA h0 g1 g2 h0i
    go_enter Tryz.func65, Tryz.ntmps65
    go_wp2_with fail
    refine HG.out.mono ?_
    rintro e w2 ⟨A2, c2, rfl, h1, h2⟩
    have H := Lib.hid h2
    have HJ2 := Lib.hid (HJ.out A2 c2 w2 h1)
    clear h1 h2 HJ
    go_wp2_with fail
    refine HJ2.out.mono ?_
    rintro e w3 ⟨rfl, rfl⟩
    go_wp2_with fail
    refine (HS.out _).mono ?_
    rintro e w4 ⟨A3, c3, rfl, hA3, hb3, _⟩
    have H2 := Lib.hid (And.intro hA3 (H.out.trans (hb3.mono H.out.size)))
    clear hA3 hb3
    go_wp2_with fail
    go_ret
    exact ⟨A3, c3, rfl, H2.out.1, H2.out.2⟩

end Go.Proofs.YtcbhkcdphbffpaaGreatDoor

namespace Go.Proofs.YtcbhkcdphbffpaaGreatDoor
open Go.RowKit
set_option linter.unusedSimpArgs false
set_option linter.unusedVariables false

/-- A type in a block. -/
def mimO (m : MimeL) (A : Option Addr) (c : Nat) : Obj := .cells #[.string (bt m.t), .string (bt m.s), .slice A m.ps.length c] 36 (0, 0)

theorem mim_cells {w : World} {g : Nat} {m : MimeL} {A : Option Addr} {c : Nat} (h : w.heap[g]? = some (mimO m A c)) :
    w.cell? ⟨g, 0, none⟩ = some (.string (bt m.t)) ∧ w.cell? ⟨g, 1, none⟩ = some (.string (bt m.s)) ∧ w.cell? ⟨g, 2, none⟩ = some (.slice A m.ps.length c) ∧ (∀ i, w.frozen? ⟨g, i, none⟩ = false) ∧ g < w.heap.size := by
  refine ⟨?_, ?_, ?_, ?_, (Array.getElem?_eq_some_iff.1 h).1⟩
  · rw [Lib.cell_of_heap h]; rfl
  · rw [Lib.cell_of_heap h]; rfl
  · rw [Lib.cell_of_heap h]; rfl
  · exact fun i => Lib.frozen_of_heap h i

theorem mim_none : mimO noM none 0 = .cells #[.string ⟨#[]⟩, .string ⟨#[]⟩, .slice none 0 0] 36 (0, 0) := rfl

/-- A type that comes, its parameters in memory of the callee's own. -/
def GivesMim (m : MimeL) (w : World) (e : Ending) (w' : World) : Prop :=
  ∃ A c, e = .returned (mimV m A c) ∧ ParsAt w' w'.heap.size A m.ps ∧ Below w.heap.size w w' ∧ ∀ g, A = some ⟨g, 0, none⟩ → w.heap.size ≤ g

theorem own_fresh {w1 : World} {B : Nat} {A : Option Addr} {c n : Nat} {l : Pars} (h : w1.ownsRow B 96 2 (.slice A n c) n (rowQ l)) : ∀ g, A = some ⟨g, 0, none⟩ → B ≤ g := by
  intro g hg
  subst hg
  exact (World.ownsRow.lt h g rfl).1

set_option maxRecDepth 20000 in
theorem own_any (m : MimeL) (A : Option Addr) (c : Nat) (w : World) (hm : SizesM m) (hA : ParsAt w w.heap.size A m.ps) :
    Calls Tryz.prog 158 #[mimV m A c] w fun e w' => GivesMim m w e w' := by
  have HCL := Lib.hid (fun (w1 : World) (hb : Below w.heap.size w w1) => ClonePar_any m.ps A c w1 hm.ps.1 (hA.on hb))
  clear hm hA
  unfold mimV
  go_enter Tryz.func158, Tryz.ntmps158
  go_upto_region 1 with fail
  have hP : ((w.alloc (.cells #[.string (bt m.t), .string (bt m.s), .slice A m.ps.length c] 36)).alloc (.cells #[.string ⟨#[]⟩, .string ⟨#[]⟩, .slice none 0 0] 36)).heap[w.heap.size]? = some (mimO m A c) := (Below.heap_alloc _ _ _ (by simp)).trans (heap_alloc_new w _)
  have hQ : ((w.alloc (.cells #[.string (bt m.t), .string (bt m.s), .slice A m.ps.length c] 36)).alloc (.cells #[.string ⟨#[]⟩, .string ⟨#[]⟩, .slice none 0 0] 36)).heap[w.heap.size + 1]? = some (mimO noM none 0) := by
    rw [show w.heap.size + 1 = (w.alloc (.cells #[.string (bt m.t), .string (bt m.s), .slice A m.ps.length c] 36)).heap.size by simp]
    exact heap_alloc_new _ _
  have hb0 : Below w.heap.size w ((w.alloc (.cells #[.string (bt m.t), .string (bt m.s), .slice A m.ps.length c] 36)).alloc (.cells #[.string ⟨#[]⟩, .string ⟨#[]⟩, .slice none 0 0] 36)) := (below_box _ _).alloc (by simp) _
  generalize (w.alloc (.cells #[.string (bt m.t), .string (bt m.s), .slice A m.ps.length c] 36)).alloc (.cells #[.string ⟨#[]⟩, .string ⟨#[]⟩, .slice none 0 0] 36) = W at *
  obtain ⟨p0, p1, p2, pz, plt⟩ := mim_cells hP
  have HC := Lib.hid (HCL.out W hb0)
  have hQlt := (Array.getElem?_eq_some_iff.1 hQ).1
  clear HCL
  go_wp2_with fail
  refine HC.out.mono ?_
  rintro e w1 ⟨v, rfl, ho, hb1⟩
  obtain ⟨A2, c2, rfl, hA2⟩ := parsOf ho
  have hP1 := (hb1.block _ plt).trans hP
  have hQ1 := (hb1.block _ hQlt).trans hQ
  have HF := Lib.hid (own_fresh ho)
  have HA2 := Lib.hid hA2
  have HB := Lib.hid (hb0.trans (hb1.mono hb0.size))
  have hWs := hb0.size
  clear p0 p1 p2 pz ho hA2 hb1 HC hb0
  obtain ⟨p0, p1, p2, pz, plt1⟩ := mim_cells hP1
  obtain ⟨q0, q1, q2, qz, qlt1⟩ := mim_cells hQ1
  clear hP1 hQ1 hP hQ
  go_wp2_with fail
  refine bodyPost_ret (v := mimV m A2 c2) ?_ rfl ?_
  · simp [results, Tryz.results158, go_sem, q0, q1, q2, mimV]
  · have hfP : ∀ g, A2 = some ⟨g, 0, none⟩ → w.heap.size ≠ g := fun g hg => by have := HF.out g hg; omega
    have hfQ : ∀ g, A2 = some ⟨g, 0, none⟩ → w.heap.size + 1 ≠ g := fun g hg => by have := HF.out g hg; omega
    refine ⟨A2, c2, rfl, ?_, ?_, fun g hg => by have := HF.out g hg; omega⟩
    · exact ((((HA2.out.set hfP _).set hfQ _).set hfQ _).set hfQ _).more (by simp)
    · exact (((HB.out.setCell (by simp) _).setCell (by simp) _).setCell (by simp) _).setCell (by simp) _

theorem Param_set (m : MimeL) (A : Option Addr) (c : Nat) (w : World) (hm : SizesM m) (hA : ParsAt w w.heap.size A m.ps) :
    Calls Tryz.prog 157 #[mimV m A c, .string ⟨#[99, 104, 97, 114, 115, 101, 116]⟩] w fun e w' => e = .returned (.tuple #[.string (bt (setOf m)), .bool (decide (0 ≤ atL m.ps charL))]) ∧ Below w.heap.size w w' := by
  by_cases h : 0 ≤ atL m.ps charL
  · have hlt := (atL_ge m.ps charL).2
    have := Param_yes m A c ⟨#[99, 104, 97, 114, 115, 101, 116]⟩ w hm hA (atL m.ps charL).toNat (by show atL m.ps charL = _; omega) (by omega)
    rw [decide_eq_true h]
    unfold setOf
    rw [dif_pos h]
    exact this
  · have := Param_no m A c ⟨#[99, 104, 97, 114, 115, 101, 116]⟩ w hm hA (by show atL m.ps charL < 0; omega)
    rw [decide_eq_false h]
    unfold setOf
    rw [dif_neg h]
    exact this

/-- What a step gives. -/
def GivesStep (r : MimeL × List UInt8) (w : World) (e : Ending) (w' : World) : Prop :=
  ∃ A c, e = .returned (.tuple #[mimV r.1 A c, .string (bt r.2)]) ∧ ParsAt w' w'.heap.size A r.1.ps ∧ Below w.heap.size w w' ∧ ∀ g, A = some ⟨g, 0, none⟩ → w.heap.size ≤ g

theorem bt_empty (l : List UInt8) : (bt l).toList.isEmpty = l.isEmpty := by rw [Lib.toList_data]; rfl

set_option maxHeartbeats 4000000 in
set_option maxRecDepth 20000 in
theorem step_any (m n : MimeL) (A A2 : Option Addr) (c c2 : Nat) (set : List UInt8) (w : World) (hm : SizesM m) (hn : SizesM n) (hl : n.ps.length ≤ 1099) (hs : set.length ≤ 1100) (hA : ParsAt w w.heap.size A m.ps) (hA2 : ParsAt w w.heap.size A2 n.ps) :
    Calls Tryz.prog 128 #[mimV m A c, .string (bt set), mimV n A2 c2] w fun e w' => GivesStep (stepL m set n) w e w' := by
  have HPA := Lib.hid (fun (w1 : World) (hb : Below w.heap.size w w1) => Param_set n A2 c2 w1 hn (hA2.on hb))
  have HE1 := Lib.hid (fun (w1 : World) => Essence_par m A c w1 hm)
  have HE2 := Lib.hid (fun (w1 : World) => Essence_par n A2 c2 w1 hn)
  have HOW := Lib.hid (fun (w1 : World) (hb : Below w.heap.size w w1) => own_any n A2 c2 w1 hn (hA2.on hb))
  have HWI := Lib.hid (fun (w1 : World) (hb : Below w.heap.size w w1) => With_own n A2 c2 charL set w1 hn (by decide) hs hl (hA2.on hb))
  have hq := eq_textL (essL m) (essL n)
  have HV : Hid (stepL m set n = if essL m ≠ essL n then (n, setOf n) else if atL n.ps charL < 0 ∧ set ≠ [] ∧ goodL (withM n charL set) = true then (withM n charL set, set) else (n, set)) := Lib.hid rfl
  clear hm hn hl hs hA hA2
  obtain ⟨S, hS⟩ : ∃ S, bt set = S := ⟨_, rfl⟩
  rw [hS] at HWI ⊢
  generalize stepL m set n = R at *
  generalize bt (essL m) = X at *
  generalize bt (essL n) = Y at *
  unfold mimV at HPA HE1 HE2 HOW HWI ⊢
  by_cases he : essL m = essL n
  · have hqe : (X.toList == Y.toList) = true := by rw [hq]; exact beq_iff_eq.2 he
    by_cases hat : 0 ≤ atL n.ps charL
    · have hd : decide (0 ≤ atL n.ps charL) = true := decide_eq_true hat
      rw [hd] at HPA
      have HV : Hid (R = (n, set)) := Lib.hid (by rw [HV.out, if_neg (by simpa using he), if_neg (by omega)])
      clear hq hd
      go_enter Tryz.func128, Tryz.ntmps128
      go_upto_region 1 with fail
      have hP : (((w.alloc (.cells #[.string (bt m.t), .string (bt m.s), .slice A m.ps.length c] 36)).alloc (.cells #[.string (bt n.t), .string (bt n.s), .slice A2 n.ps.length c2] 36)).alloc (.cells #[.string ⟨#[]⟩, .string ⟨#[]⟩, .slice none 0 0] 36)).heap[w.heap.size]? = some (mimO m A c) := (Below.heap_alloc _ _ _ (by simp; omega)).trans ((Below.heap_alloc _ _ _ (by simp)).trans (heap_alloc_new w _))
      have hN : (((w.alloc (.cells #[.string (bt m.t), .string (bt m.s), .slice A m.ps.length c] 36)).alloc (.cells #[.string (bt n.t), .string (bt n.s), .slice A2 n.ps.length c2] 36)).alloc (.cells #[.string ⟨#[]⟩, .string ⟨#[]⟩, .slice none 0 0] 36)).heap[w.heap.size + 1]? = some (mimO n A2 c2) := (Below.heap_alloc _ _ _ (by simp)).trans (by
        rw [show w.heap.size + 1 = (w.alloc (.cells #[.string (bt m.t), .string (bt m.s), .slice A m.ps.length c] 36)).heap.size by simp]
        exact heap_alloc_new _ _)
      have hR : (((w.alloc (.cells #[.string (bt m.t), .string (bt m.s), .slice A m.ps.length c] 36)).alloc (.cells #[.string (bt n.t), .string (bt n.s), .slice A2 n.ps.length c2] 36)).alloc (.cells #[.string ⟨#[]⟩, .string ⟨#[]⟩, .slice none 0 0] 36)).heap[w.heap.size + 1 + 1]? = some (mimO noM none 0) := by
        rw [show w.heap.size + 1 + 1 = ((w.alloc (.cells #[.string (bt m.t), .string (bt m.s), .slice A m.ps.length c] 36)).alloc (.cells #[.string (bt n.t), .string (bt n.s), .slice A2 n.ps.length c2] 36)).heap.size by simp]
        exact heap_alloc_new _ _
      have hb : Below w.heap.size w (((w.alloc (.cells #[.string (bt m.t), .string (bt m.s), .slice A m.ps.length c] 36)).alloc (.cells #[.string (bt n.t), .string (bt n.s), .slice A2 n.ps.length c2] 36)).alloc (.cells #[.string ⟨#[]⟩, .string ⟨#[]⟩, .slice none 0 0] 36)) := ((below_box _ _).alloc (by simp) _).alloc (by simp; omega) _
      generalize (((w.alloc (.cells #[.string (bt m.t), .string (bt m.s), .slice A m.ps.length c] 36)).alloc (.cells #[.string (bt n.t), .string (bt n.s), .slice A2 n.ps.length c2] 36)).alloc (.cells #[.string ⟨#[]⟩, .string ⟨#[]⟩, .slice none 0 0] 36)) = W at *
      obtain ⟨p0, p1, p2, pz, plt⟩ := mim_cells hP
      obtain ⟨n0, n1, n2, nz, nlt⟩ := mim_cells hN
      obtain ⟨r0, r1, r2, rz, rlt⟩ := mim_cells hR
      go_wp2_with fail
      refine (HPA.out _ hb).mono ?_
      rintro e w1 ⟨rfl, hbn⟩
      clear p0 p1 p2 pz plt n0 n1 n2 nz nlt r0 r1 r2 rz rlt
      have hP := (hbn.block _ (Array.getElem?_eq_some_iff.1 hP).1).trans hP
      have hN := (hbn.block _ (Array.getElem?_eq_some_iff.1 hN).1).trans hN
      have hR := (hbn.block _ (Array.getElem?_eq_some_iff.1 hR).1).trans hR
      have hb := hb.trans (hbn.mono hb.size)
      clear hbn
      obtain ⟨p0, p1, p2, pz, plt⟩ := mim_cells hP
      obtain ⟨n0, n1, n2, nz, nlt⟩ := mim_cells hN
      obtain ⟨r0, r1, r2, rz, rlt⟩ := mim_cells hR
      go_upto_region 2 with fail
      have hx := @InB.cells w1
      refine wp_region_inb (by kernel_rfl) (by kernel_rfl) ?_; (repeat (first | go_big_quiet_skip | (go_big_quiet_want; go_big_quiet_op; first | go_big_quiet_on | (apply Exists.intro; refine ⟨fun x => ?_, ?_⟩; (· ((first | (go_at_call 56; with_reducible exact inb_call _ (HE1.out _)) | (go_at_call 56; with_reducible exact inb_call _ (HE2.out _))))); go_big_quiet_on)))); refine wpQuiet_nil ?_; intro _ hw'; obtain ⟨⟨wq, hbq⟩, rfl⟩ := hw'
      have hbn := hbq
      clear hx hbq
      clear p0 p1 p2 pz plt n0 n1 n2 nz nlt r0 r1 r2 rz rlt
      have hP := (hbn.block _ (Array.getElem?_eq_some_iff.1 hP).1).trans hP
      have hN := (hbn.block _ (Array.getElem?_eq_some_iff.1 hN).1).trans hN
      have hR := (hbn.block _ (Array.getElem?_eq_some_iff.1 hR).1).trans hR
      have hb := hb.trans (hbn.mono hb.size)
      clear hbn
      obtain ⟨p0, p1, p2, pz, plt⟩ := mim_cells hP
      obtain ⟨n0, n1, n2, nz, nlt⟩ := mim_cells hN
      obtain ⟨r0, r1, r2, rz, rlt⟩ := mim_cells hR
      have HO := Lib.hid (HOW.out _ hb)
      go_wp2_with fail
      refine HO.out.mono ?_
      rintro e w5 ⟨A3, c3, rfl, hA3, hbn, hf⟩
      unfold mimV
      have HF : Hid (∀ g, A3 = some ⟨g, 0, none⟩ → w.heap.size + 1 + 1 < g) := Lib.hid (fun g hg => by have := hf g hg; omega)
      have HA3 := Lib.hid hA3
      clear hA3 hf
      clear p0 p1 p2 pz plt n0 n1 n2 nz nlt r0 r1 r2 rz rlt
      have hP := (hbn.block _ (Array.getElem?_eq_some_iff.1 hP).1).trans hP
      have hN := (hbn.block _ (Array.getElem?_eq_some_iff.1 hN).1).trans hN
      have hR := (hbn.block _ (Array.getElem?_eq_some_iff.1 hR).1).trans hR
      have hb := hb.trans (hbn.mono hb.size)
      clear hbn
      have HB := Lib.hid hb
      obtain ⟨p0, p1, p2, pz, plt⟩ := mim_cells hP
      obtain ⟨n0, n1, n2, nz, nlt⟩ := mim_cells hN
      obtain ⟨r0, r1, r2, rz, rlt⟩ := mim_cells hR
      go_wp2_with fail
      refine bodyPost_ret (v := .tuple #[mimV n A3 c3, .string S]) ?_ rfl ?_
      · simp [results, Tryz.results128, go_sem, r0, r1, r2, mimV]
      · have hf : ∀ g, A3 = some ⟨g, 0, none⟩ → w.heap.size + 1 + 1 ≠ g := fun g hg => by have := HF.out g hg; omega
        refine ⟨A3, c3, by rw [HV.out, ← hS], ?_, ?_, fun g hg => by have := HF.out g hg; omega⟩
        · rw [HV.out]
          exact (((HA3.out.set hf _).set hf _).set hf _).more (by simp)
        · exact ((HB.out.setCell (show w.heap.size ≤ w.heap.size + 1 + 1 by omega) _).setCell (show w.heap.size ≤ w.heap.size + 1 + 1 by omega) _).setCell (show w.heap.size ≤ w.heap.size + 1 + 1 by omega) _
    · have hd : decide (0 ≤ atL n.ps charL) = false := decide_eq_false hat
      rw [hd] at HPA
      by_cases hse : set = []
      · have HV : Hid (R = (n, set)) := Lib.hid (by rw [HV.out, if_neg (by simpa using he), if_neg (by rintro ⟨_, h, _⟩; exact h hse)])
        have hset : S.toList = [] := by rw [← hS, Lib.toList_data]; exact hse
        have hset2 : S.toList.isEmpty = true := by rw [hset]; rfl
        clear hq hd
        go_enter Tryz.func128, Tryz.ntmps128
        go_upto_region 1 with fail
        have hP : (((w.alloc (.cells #[.string (bt m.t), .string (bt m.s), .slice A m.ps.length c] 36)).alloc (.cells #[.string (bt n.t), .string (bt n.s), .slice A2 n.ps.length c2] 36)).alloc (.cells #[.string ⟨#[]⟩, .string ⟨#[]⟩, .slice none 0 0] 36)).heap[w.heap.size]? = some (mimO m A c) := (Below.heap_alloc _ _ _ (by simp; omega)).trans ((Below.heap_alloc _ _ _ (by simp)).trans (heap_alloc_new w _))
        have hN : (((w.alloc (.cells #[.string (bt m.t), .string (bt m.s), .slice A m.ps.length c] 36)).alloc (.cells #[.string (bt n.t), .string (bt n.s), .slice A2 n.ps.length c2] 36)).alloc (.cells #[.string ⟨#[]⟩, .string ⟨#[]⟩, .slice none 0 0] 36)).heap[w.heap.size + 1]? = some (mimO n A2 c2) := (Below.heap_alloc _ _ _ (by simp)).trans (by
          rw [show w.heap.size + 1 = (w.alloc (.cells #[.string (bt m.t), .string (bt m.s), .slice A m.ps.length c] 36)).heap.size by simp]
          exact heap_alloc_new _ _)
        have hR : (((w.alloc (.cells #[.string (bt m.t), .string (bt m.s), .slice A m.ps.length c] 36)).alloc (.cells #[.string (bt n.t), .string (bt n.s), .slice A2 n.ps.length c2] 36)).alloc (.cells #[.string ⟨#[]⟩, .string ⟨#[]⟩, .slice none 0 0] 36)).heap[w.heap.size + 1 + 1]? = some (mimO noM none 0) := by
          rw [show w.heap.size + 1 + 1 = ((w.alloc (.cells #[.string (bt m.t), .string (bt m.s), .slice A m.ps.length c] 36)).alloc (.cells #[.string (bt n.t), .string (bt n.s), .slice A2 n.ps.length c2] 36)).heap.size by simp]
          exact heap_alloc_new _ _
        have hb : Below w.heap.size w (((w.alloc (.cells #[.string (bt m.t), .string (bt m.s), .slice A m.ps.length c] 36)).alloc (.cells #[.string (bt n.t), .string (bt n.s), .slice A2 n.ps.length c2] 36)).alloc (.cells #[.string ⟨#[]⟩, .string ⟨#[]⟩, .slice none 0 0] 36)) := ((below_box _ _).alloc (by simp) _).alloc (by simp; omega) _
        generalize (((w.alloc (.cells #[.string (bt m.t), .string (bt m.s), .slice A m.ps.length c] 36)).alloc (.cells #[.string (bt n.t), .string (bt n.s), .slice A2 n.ps.length c2] 36)).alloc (.cells #[.string ⟨#[]⟩, .string ⟨#[]⟩, .slice none 0 0] 36)) = W at *
        obtain ⟨p0, p1, p2, pz, plt⟩ := mim_cells hP
        obtain ⟨n0, n1, n2, nz, nlt⟩ := mim_cells hN
        obtain ⟨r0, r1, r2, rz, rlt⟩ := mim_cells hR
        go_wp2_with fail
        refine (HPA.out _ hb).mono ?_
        rintro e w1 ⟨rfl, hbn⟩
        clear p0 p1 p2 pz plt n0 n1 n2 nz nlt r0 r1 r2 rz rlt
        have hP := (hbn.block _ (Array.getElem?_eq_some_iff.1 hP).1).trans hP
        have hN := (hbn.block _ (Array.getElem?_eq_some_iff.1 hN).1).trans hN
        have hR := (hbn.block _ (Array.getElem?_eq_some_iff.1 hR).1).trans hR
        have hb := hb.trans (hbn.mono hb.size)
        clear hbn
        obtain ⟨p0, p1, p2, pz, plt⟩ := mim_cells hP
        obtain ⟨n0, n1, n2, nz, nlt⟩ := mim_cells hN
        obtain ⟨r0, r1, r2, rz, rlt⟩ := mim_cells hR
        go_upto_region 2 with fail
        have hx := @InB.cells w1
        refine wp_region_inb (by kernel_rfl) (by kernel_rfl) ?_; (repeat (first | go_big_quiet_skip | (go_big_quiet_want; go_big_quiet_op; first | go_big_quiet_on | (apply Exists.intro; refine ⟨fun x => ?_, ?_⟩; (· ((first | (go_at_call 56; with_reducible exact inb_call _ (HE1.out _)) | (go_at_call 56; with_reducible exact inb_call _ (HE2.out _))))); go_big_quiet_on)))); refine wpQuiet_nil ?_; intro _ hw'; obtain ⟨⟨wq, hbq⟩, rfl⟩ := hw'
        have hbn := hbq
        clear hx hbq
        clear p0 p1 p2 pz plt n0 n1 n2 nz nlt r0 r1 r2 rz rlt
        have hP := (hbn.block _ (Array.getElem?_eq_some_iff.1 hP).1).trans hP
        have hN := (hbn.block _ (Array.getElem?_eq_some_iff.1 hN).1).trans hN
        have hR := (hbn.block _ (Array.getElem?_eq_some_iff.1 hR).1).trans hR
        have hb := hb.trans (hbn.mono hb.size)
        clear hbn
        obtain ⟨p0, p1, p2, pz, plt⟩ := mim_cells hP
        obtain ⟨n0, n1, n2, nz, nlt⟩ := mim_cells hN
        obtain ⟨r0, r1, r2, rz, rlt⟩ := mim_cells hR
        have HO := Lib.hid (HOW.out _ hb)
        go_wp2_with fail
        refine HO.out.mono ?_
        rintro e w5 ⟨A3, c3, rfl, hA3, hbn, hf⟩
        unfold mimV
        have HF : Hid (∀ g, A3 = some ⟨g, 0, none⟩ → w.heap.size + 1 + 1 < g) := Lib.hid (fun g hg => by have := hf g hg; omega)
        have HA3 := Lib.hid hA3
        clear hA3 hf
        clear p0 p1 p2 pz plt n0 n1 n2 nz nlt r0 r1 r2 rz rlt
        have hP := (hbn.block _ (Array.getElem?_eq_some_iff.1 hP).1).trans hP
        have hN := (hbn.block _ (Array.getElem?_eq_some_iff.1 hN).1).trans hN
        have hR := (hbn.block _ (Array.getElem?_eq_some_iff.1 hR).1).trans hR
        have hb := hb.trans (hbn.mono hb.size)
        clear hbn
        have HB := Lib.hid hb
        obtain ⟨p0, p1, p2, pz, plt⟩ := mim_cells hP
        obtain ⟨n0, n1, n2, nz, nlt⟩ := mim_cells hN
        obtain ⟨r0, r1, r2, rz, rlt⟩ := mim_cells hR
        go_wp2_with fail
        refine bodyPost_ret (v := .tuple #[mimV n A3 c3, .string S]) ?_ rfl ?_
        · simp [results, Tryz.results128, go_sem, r0, r1, r2, mimV]
        · have hf : ∀ g, A3 = some ⟨g, 0, none⟩ → w.heap.size + 1 + 1 ≠ g := fun g hg => by have := HF.out g hg; omega
          refine ⟨A3, c3, by rw [HV.out, ← hS], ?_, ?_, fun g hg => by have := HF.out g hg; omega⟩
          · rw [HV.out]
            exact (((HA3.out.set hf _).set hf _).set hf _).more (by simp)
          · exact ((HB.out.setCell (show w.heap.size ≤ w.heap.size + 1 + 1 by omega) _).setCell (show w.heap.size ≤ w.heap.size + 1 + 1 by omega) _).setCell (show w.heap.size ≤ w.heap.size + 1 + 1 by omega) _
      · have hset : S.toList.isEmpty = false := by rw [← hS, bt_empty, List.isEmpty_eq_false_iff]; exact hse
        cases hg : goodL (withM n charL set)
        · have HV : Hid (R = (n, set)) := Lib.hid (by rw [HV.out, if_neg (by simpa using he), if_neg (by rintro ⟨_, _, h⟩; rw [hg] at h; cases h)])
          obtain ⟨k, hk, hk0⟩ : ∃ k : Int, ((withR n charL set).2 : Int) = k ∧ (k == 0) = false := by
            unfold withR
            rw [hg]
            simp only [Bool.false_eq_true, if_false]
            split
            · exact ⟨7, rfl, rfl⟩
            · exact ⟨2, rfl, rfl⟩
          rw [hk] at HWI
          generalize (withR n charL set).1 = Z at *
          clear hq hd hg hk
          go_enter Tryz.func128, Tryz.ntmps128
          go_upto_region 1 with fail
          have hP : (((w.alloc (.cells #[.string (bt m.t), .string (bt m.s), .slice A m.ps.length c] 36)).alloc (.cells #[.string (bt n.t), .string (bt n.s), .slice A2 n.ps.length c2] 36)).alloc (.cells #[.string ⟨#[]⟩, .string ⟨#[]⟩, .slice none 0 0] 36)).heap[w.heap.size]? = some (mimO m A c) := (Below.heap_alloc _ _ _ (by simp; omega)).trans ((Below.heap_alloc _ _ _ (by simp)).trans (heap_alloc_new w _))
          have hN : (((w.alloc (.cells #[.string (bt m.t), .string (bt m.s), .slice A m.ps.length c] 36)).alloc (.cells #[.string (bt n.t), .string (bt n.s), .slice A2 n.ps.length c2] 36)).alloc (.cells #[.string ⟨#[]⟩, .string ⟨#[]⟩, .slice none 0 0] 36)).heap[w.heap.size + 1]? = some (mimO n A2 c2) := (Below.heap_alloc _ _ _ (by simp)).trans (by
            rw [show w.heap.size + 1 = (w.alloc (.cells #[.string (bt m.t), .string (bt m.s), .slice A m.ps.length c] 36)).heap.size by simp]
            exact heap_alloc_new _ _)
          have hR : (((w.alloc (.cells #[.string (bt m.t), .string (bt m.s), .slice A m.ps.length c] 36)).alloc (.cells #[.string (bt n.t), .string (bt n.s), .slice A2 n.ps.length c2] 36)).alloc (.cells #[.string ⟨#[]⟩, .string ⟨#[]⟩, .slice none 0 0] 36)).heap[w.heap.size + 1 + 1]? = some (mimO noM none 0) := by
            rw [show w.heap.size + 1 + 1 = ((w.alloc (.cells #[.string (bt m.t), .string (bt m.s), .slice A m.ps.length c] 36)).alloc (.cells #[.string (bt n.t), .string (bt n.s), .slice A2 n.ps.length c2] 36)).heap.size by simp]
            exact heap_alloc_new _ _
          have hb : Below w.heap.size w (((w.alloc (.cells #[.string (bt m.t), .string (bt m.s), .slice A m.ps.length c] 36)).alloc (.cells #[.string (bt n.t), .string (bt n.s), .slice A2 n.ps.length c2] 36)).alloc (.cells #[.string ⟨#[]⟩, .string ⟨#[]⟩, .slice none 0 0] 36)) := ((below_box _ _).alloc (by simp) _).alloc (by simp; omega) _
          generalize (((w.alloc (.cells #[.string (bt m.t), .string (bt m.s), .slice A m.ps.length c] 36)).alloc (.cells #[.string (bt n.t), .string (bt n.s), .slice A2 n.ps.length c2] 36)).alloc (.cells #[.string ⟨#[]⟩, .string ⟨#[]⟩, .slice none 0 0] 36)) = W at *
          obtain ⟨p0, p1, p2, pz, plt⟩ := mim_cells hP
          obtain ⟨n0, n1, n2, nz, nlt⟩ := mim_cells hN
          obtain ⟨r0, r1, r2, rz, rlt⟩ := mim_cells hR
          go_wp2_with fail
          refine (HPA.out _ hb).mono ?_
          rintro e w1 ⟨rfl, hbn⟩
          clear p0 p1 p2 pz plt n0 n1 n2 nz nlt r0 r1 r2 rz rlt
          have hP := (hbn.block _ (Array.getElem?_eq_some_iff.1 hP).1).trans hP
          have hN := (hbn.block _ (Array.getElem?_eq_some_iff.1 hN).1).trans hN
          have hR := (hbn.block _ (Array.getElem?_eq_some_iff.1 hR).1).trans hR
          have hb := hb.trans (hbn.mono hb.size)
          clear hbn
          obtain ⟨p0, p1, p2, pz, plt⟩ := mim_cells hP
          obtain ⟨n0, n1, n2, nz, nlt⟩ := mim_cells hN
          obtain ⟨r0, r1, r2, rz, rlt⟩ := mim_cells hR
          go_upto_region 2 with fail
          have hx := @InB.cells w1
          refine wp_region_inb (by kernel_rfl) (by kernel_rfl) ?_; (repeat (first | go_big_quiet_skip | (go_big_quiet_want; go_big_quiet_op; first | go_big_quiet_on | (apply Exists.intro; refine ⟨fun x => ?_, ?_⟩; (· ((first | (go_at_call 56; with_reducible exact inb_call _ (HE1.out _)) | (go_at_call 56; with_reducible exact inb_call _ (HE2.out _))))); go_big_quiet_on)))); refine wpQuiet_nil ?_; intro _ hw'; obtain ⟨⟨wq, hbq⟩, rfl⟩ := hw'
          have hbn := hbq
          clear hx hbq
          clear p0 p1 p2 pz plt n0 n1 n2 nz nlt r0 r1 r2 rz rlt
          have hP := (hbn.block _ (Array.getElem?_eq_some_iff.1 hP).1).trans hP
          have hN := (hbn.block _ (Array.getElem?_eq_some_iff.1 hN).1).trans hN
          have hR := (hbn.block _ (Array.getElem?_eq_some_iff.1 hR).1).trans hR
          have hb := hb.trans (hbn.mono hb.size)
          clear hbn
          obtain ⟨p0, p1, p2, pz, plt⟩ := mim_cells hP
          obtain ⟨n0, n1, n2, nz, nlt⟩ := mim_cells hN
          obtain ⟨r0, r1, r2, rz, rlt⟩ := mim_cells hR
          have HRL := Lib.hid rlt
          go_upto_region 5 with fail
          have HW5 := Lib.hid (HWI.out _ hb)
          go_wp2_with fail
          refine HW5.out.mono ?_
          rintro e w4 ⟨A4, c4, rfl, hA4, hbn, hf4⟩
          clear p0 p1 p2 pz plt n0 n1 n2 nz nlt r0 r1 r2 rz rlt
          have hP := (hbn.block _ (Array.getElem?_eq_some_iff.1 hP).1).trans hP
          have hN := (hbn.block _ (Array.getElem?_eq_some_iff.1 hN).1).trans hN
          have hR := (hbn.block _ (Array.getElem?_eq_some_iff.1 hR).1).trans hR
          have hb := hb.trans (hbn.mono hb.size)
          clear hbn
          have hP : (w4.alloc (.cells #[.string (bt Z.t), .string (bt Z.s), .slice A4 Z.ps.length c4] 36)).heap[w.heap.size]? = _ := (Below.heap_alloc _ _ _ (Array.getElem?_eq_some_iff.1 hP).1).trans hP
          have hN : (w4.alloc (.cells #[.string (bt Z.t), .string (bt Z.s), .slice A4 Z.ps.length c4] 36)).heap[w.heap.size + 1]? = _ := (Below.heap_alloc _ _ _ (Array.getElem?_eq_some_iff.1 hN).1).trans hN
          have hR : (w4.alloc (.cells #[.string (bt Z.t), .string (bt Z.s), .slice A4 Z.ps.length c4] 36)).heap[w.heap.size + 1 + 1]? = _ := (Below.heap_alloc _ _ _ (Array.getElem?_eq_some_iff.1 hR).1).trans hR
          have hZ : (w4.alloc (.cells #[.string (bt Z.t), .string (bt Z.s), .slice A4 Z.ps.length c4] 36)).heap[w4.heap.size]? = some (mimO Z A4 c4) := heap_alloc_new w4 _
          have hA5 : ParsAt (w4.alloc (.cells #[.string (bt Z.t), .string (bt Z.s), .slice A4 Z.ps.length c4] 36)) (w4.alloc (.cells #[.string (bt Z.t), .string (bt Z.s), .slice A4 Z.ps.length c4] 36)).heap.size A4 Z.ps := hA4.on (below_box w4 _)
          have hb := hb.alloc hb.size (.cells #[.string (bt Z.t), .string (bt Z.s), .slice A4 Z.ps.length c4] 36)
          go_upto_region 6 with fail
          generalize hz4 : w4.heap.size = gz at *
          generalize w4.alloc (.cells #[.string (bt Z.t), .string (bt Z.s), .slice A4 Z.ps.length c4] 36) = v4 at *
          clear hz4 hA4 HW5
          clear hZ hA5 hf4
          obtain ⟨p0, p1, p2, pz, plt⟩ := mim_cells hP
          obtain ⟨n0, n1, n2, nz, nlt⟩ := mim_cells hN
          obtain ⟨r0, r1, r2, rz, rlt⟩ := mim_cells hR
          have HO := Lib.hid (HOW.out _ hb)
          go_wp2_with fail
          refine HO.out.mono ?_
          rintro e w5 ⟨A3, c3, rfl, hA3, hbn, hf⟩
          unfold mimV
          have HF : Hid (∀ g, A3 = some ⟨g, 0, none⟩ → w.heap.size + 1 + 1 < g) := Lib.hid (fun g hg => by have := hf g hg; omega)
          have HA3 := Lib.hid hA3
          clear hA3 hf
          clear p0 p1 p2 pz plt n0 n1 n2 nz nlt r0 r1 r2 rz rlt
          have hP := (hbn.block _ (Array.getElem?_eq_some_iff.1 hP).1).trans hP
          have hN := (hbn.block _ (Array.getElem?_eq_some_iff.1 hN).1).trans hN
          have hR := (hbn.block _ (Array.getElem?_eq_some_iff.1 hR).1).trans hR
          have hb := hb.trans (hbn.mono hb.size)
          clear hbn
          have HB := Lib.hid hb
          obtain ⟨p0, p1, p2, pz, plt⟩ := mim_cells hP
          obtain ⟨n0, n1, n2, nz, nlt⟩ := mim_cells hN
          obtain ⟨r0, r1, r2, rz, rlt⟩ := mim_cells hR
          go_wp2_with fail
          refine bodyPost_ret (v := .tuple #[mimV n A3 c3, .string S]) ?_ rfl ?_
          · simp [results, Tryz.results128, go_sem, r0, r1, r2, mimV]
          · have hf : ∀ g, A3 = some ⟨g, 0, none⟩ → w.heap.size + 1 + 1 ≠ g := fun g hg => by have := HF.out g hg; omega
            refine ⟨A3, c3, by rw [HV.out, ← hS], ?_, ?_, fun g hg => by have := HF.out g hg; omega⟩
            · rw [HV.out]
              exact (((HA3.out.set hf _).set hf _).set hf _).more (by simp)
            · exact ((HB.out.setCell (show w.heap.size ≤ w.heap.size + 1 + 1 by omega) _).setCell (show w.heap.size ≤ w.heap.size + 1 + 1 by omega) _).setCell (show w.heap.size ≤ w.heap.size + 1 + 1 by omega) _
        · have HV : Hid (R = (withM n charL set, set)) := Lib.hid (by rw [HV.out, if_neg (by simpa using he), if_pos ⟨by omega, hse, hg⟩])
          have hw : withR n charL set = (withM n charL set, 0) := by unfold withR; rw [hg]; rfl
          rw [show ((withR n charL set).2 : Int) = 0 by rw [hw]; rfl, hw] at HWI
          simp only at HWI
          generalize withM n charL set = Z at *
          clear hq hd hg hw
          go_enter Tryz.func128, Tryz.ntmps128
          go_upto_region 1 with fail
          have hP : (((w.alloc (.cells #[.string (bt m.t), .string (bt m.s), .slice A m.ps.length c] 36)).alloc (.cells #[.string (bt n.t), .string (bt n.s), .slice A2 n.ps.length c2] 36)).alloc (.cells #[.string ⟨#[]⟩, .string ⟨#[]⟩, .slice none 0 0] 36)).heap[w.heap.size]? = some (mimO m A c) := (Below.heap_alloc _ _ _ (by simp; omega)).trans ((Below.heap_alloc _ _ _ (by simp)).trans (heap_alloc_new w _))
          have hN : (((w.alloc (.cells #[.string (bt m.t), .string (bt m.s), .slice A m.ps.length c] 36)).alloc (.cells #[.string (bt n.t), .string (bt n.s), .slice A2 n.ps.length c2] 36)).alloc (.cells #[.string ⟨#[]⟩, .string ⟨#[]⟩, .slice none 0 0] 36)).heap[w.heap.size + 1]? = some (mimO n A2 c2) := (Below.heap_alloc _ _ _ (by simp)).trans (by
            rw [show w.heap.size + 1 = (w.alloc (.cells #[.string (bt m.t), .string (bt m.s), .slice A m.ps.length c] 36)).heap.size by simp]
            exact heap_alloc_new _ _)
          have hR : (((w.alloc (.cells #[.string (bt m.t), .string (bt m.s), .slice A m.ps.length c] 36)).alloc (.cells #[.string (bt n.t), .string (bt n.s), .slice A2 n.ps.length c2] 36)).alloc (.cells #[.string ⟨#[]⟩, .string ⟨#[]⟩, .slice none 0 0] 36)).heap[w.heap.size + 1 + 1]? = some (mimO noM none 0) := by
            rw [show w.heap.size + 1 + 1 = ((w.alloc (.cells #[.string (bt m.t), .string (bt m.s), .slice A m.ps.length c] 36)).alloc (.cells #[.string (bt n.t), .string (bt n.s), .slice A2 n.ps.length c2] 36)).heap.size by simp]
            exact heap_alloc_new _ _
          have hb : Below w.heap.size w (((w.alloc (.cells #[.string (bt m.t), .string (bt m.s), .slice A m.ps.length c] 36)).alloc (.cells #[.string (bt n.t), .string (bt n.s), .slice A2 n.ps.length c2] 36)).alloc (.cells #[.string ⟨#[]⟩, .string ⟨#[]⟩, .slice none 0 0] 36)) := ((below_box _ _).alloc (by simp) _).alloc (by simp; omega) _
          generalize (((w.alloc (.cells #[.string (bt m.t), .string (bt m.s), .slice A m.ps.length c] 36)).alloc (.cells #[.string (bt n.t), .string (bt n.s), .slice A2 n.ps.length c2] 36)).alloc (.cells #[.string ⟨#[]⟩, .string ⟨#[]⟩, .slice none 0 0] 36)) = W at *
          obtain ⟨p0, p1, p2, pz, plt⟩ := mim_cells hP
          obtain ⟨n0, n1, n2, nz, nlt⟩ := mim_cells hN
          obtain ⟨r0, r1, r2, rz, rlt⟩ := mim_cells hR
          go_wp2_with fail
          refine (HPA.out _ hb).mono ?_
          rintro e w1 ⟨rfl, hbn⟩
          clear p0 p1 p2 pz plt n0 n1 n2 nz nlt r0 r1 r2 rz rlt
          have hP := (hbn.block _ (Array.getElem?_eq_some_iff.1 hP).1).trans hP
          have hN := (hbn.block _ (Array.getElem?_eq_some_iff.1 hN).1).trans hN
          have hR := (hbn.block _ (Array.getElem?_eq_some_iff.1 hR).1).trans hR
          have hb := hb.trans (hbn.mono hb.size)
          clear hbn
          obtain ⟨p0, p1, p2, pz, plt⟩ := mim_cells hP
          obtain ⟨n0, n1, n2, nz, nlt⟩ := mim_cells hN
          obtain ⟨r0, r1, r2, rz, rlt⟩ := mim_cells hR
          go_upto_region 2 with fail
          have hx := @InB.cells w1
          refine wp_region_inb (by kernel_rfl) (by kernel_rfl) ?_; (repeat (first | go_big_quiet_skip | (go_big_quiet_want; go_big_quiet_op; first | go_big_quiet_on | (apply Exists.intro; refine ⟨fun x => ?_, ?_⟩; (· ((first | (go_at_call 56; with_reducible exact inb_call _ (HE1.out _)) | (go_at_call 56; with_reducible exact inb_call _ (HE2.out _))))); go_big_quiet_on)))); refine wpQuiet_nil ?_; intro _ hw'; obtain ⟨⟨wq, hbq⟩, rfl⟩ := hw'
          have hbn := hbq
          clear hx hbq
          clear p0 p1 p2 pz plt n0 n1 n2 nz nlt r0 r1 r2 rz rlt
          have hP := (hbn.block _ (Array.getElem?_eq_some_iff.1 hP).1).trans hP
          have hN := (hbn.block _ (Array.getElem?_eq_some_iff.1 hN).1).trans hN
          have hR := (hbn.block _ (Array.getElem?_eq_some_iff.1 hR).1).trans hR
          have hb := hb.trans (hbn.mono hb.size)
          clear hbn
          obtain ⟨p0, p1, p2, pz, plt⟩ := mim_cells hP
          obtain ⟨n0, n1, n2, nz, nlt⟩ := mim_cells hN
          obtain ⟨r0, r1, r2, rz, rlt⟩ := mim_cells hR
          have HRL := Lib.hid rlt
          go_upto_region 5 with fail
          have HW5 := Lib.hid (HWI.out _ hb)
          go_wp2_with fail
          refine HW5.out.mono ?_
          rintro e w4 ⟨A4, c4, rfl, hA4, hbn, hf4⟩
          clear p0 p1 p2 pz plt n0 n1 n2 nz nlt r0 r1 r2 rz rlt
          have hP := (hbn.block _ (Array.getElem?_eq_some_iff.1 hP).1).trans hP
          have hN := (hbn.block _ (Array.getElem?_eq_some_iff.1 hN).1).trans hN
          have hR := (hbn.block _ (Array.getElem?_eq_some_iff.1 hR).1).trans hR
          have hb := hb.trans (hbn.mono hb.size)
          clear hbn
          have hP : (w4.alloc (.cells #[.string (bt Z.t), .string (bt Z.s), .slice A4 Z.ps.length c4] 36)).heap[w.heap.size]? = _ := (Below.heap_alloc _ _ _ (Array.getElem?_eq_some_iff.1 hP).1).trans hP
          have hN : (w4.alloc (.cells #[.string (bt Z.t), .string (bt Z.s), .slice A4 Z.ps.length c4] 36)).heap[w.heap.size + 1]? = _ := (Below.heap_alloc _ _ _ (Array.getElem?_eq_some_iff.1 hN).1).trans hN
          have hR : (w4.alloc (.cells #[.string (bt Z.t), .string (bt Z.s), .slice A4 Z.ps.length c4] 36)).heap[w.heap.size + 1 + 1]? = _ := (Below.heap_alloc _ _ _ (Array.getElem?_eq_some_iff.1 hR).1).trans hR
          have hZ : (w4.alloc (.cells #[.string (bt Z.t), .string (bt Z.s), .slice A4 Z.ps.length c4] 36)).heap[w4.heap.size]? = some (mimO Z A4 c4) := heap_alloc_new w4 _
          have hA5 : ParsAt (w4.alloc (.cells #[.string (bt Z.t), .string (bt Z.s), .slice A4 Z.ps.length c4] 36)) (w4.alloc (.cells #[.string (bt Z.t), .string (bt Z.s), .slice A4 Z.ps.length c4] 36)).heap.size A4 Z.ps := hA4.on (below_box w4 _)
          have hb := hb.alloc hb.size (.cells #[.string (bt Z.t), .string (bt Z.s), .slice A4 Z.ps.length c4] 36)
          go_upto_region 6 with fail
          generalize hz4 : w4.heap.size = gz at *
          generalize w4.alloc (.cells #[.string (bt Z.t), .string (bt Z.s), .slice A4 Z.ps.length c4] 36) = v4 at *
          clear hz4 hA4 HW5
          have HF : Hid (∀ g, A4 = some ⟨g, 0, none⟩ → w.heap.size + 1 + 1 < g) := Lib.hid (fun g hg => by have := hf4 g hg; have := HRL.out; omega)
          have HA3 := Lib.hid hA5
          have HB := Lib.hid hb
          obtain ⟨z0, z1, z2, zz, zlt⟩ := mim_cells hZ
          obtain ⟨p0, p1, p2, pz, plt⟩ := mim_cells hP
          obtain ⟨n0, n1, n2, nz, nlt⟩ := mim_cells hN
          obtain ⟨r0, r1, r2, rz, rlt⟩ := mim_cells hR
          clear hA5 hf4
          go_wp2_with fail
          refine bodyPost_ret (v := .tuple #[mimV Z A4 c4, .string S]) ?_ rfl ?_
          · simp [results, Tryz.results128, go_sem, r0, r1, r2, mimV]
          · have hf : ∀ g, A4 = some ⟨g, 0, none⟩ → w.heap.size + 1 + 1 ≠ g := fun g hg => by have := HF.out g hg; omega
            refine ⟨A4, c4, by rw [HV.out, ← hS], ?_, ?_, fun g hg => by have := HF.out g hg; omega⟩
            · rw [HV.out]
              exact (((HA3.out.set hf _).set hf _).set hf _).more (by simp)
            · exact ((HB.out.setCell (show w.heap.size ≤ w.heap.size + 1 + 1 by omega) _).setCell (show w.heap.size ≤ w.heap.size + 1 + 1 by omega) _).setCell (show w.heap.size ≤ w.heap.size + 1 + 1 by omega) _
  · have hqe : (X.toList == Y.toList) = false := by rw [hq]; exact beq_eq_false_iff_ne.2 he
    have HV : Hid (R = (n, setOf n)) := Lib.hid (by rw [HV.out, if_pos he])
    clear hq
    go_enter Tryz.func128, Tryz.ntmps128
    go_upto_region 1 with fail
    have hP : (((w.alloc (.cells #[.string (bt m.t), .string (bt m.s), .slice A m.ps.length c] 36)).alloc (.cells #[.string (bt n.t), .string (bt n.s), .slice A2 n.ps.length c2] 36)).alloc (.cells #[.string ⟨#[]⟩, .string ⟨#[]⟩, .slice none 0 0] 36)).heap[w.heap.size]? = some (mimO m A c) := (Below.heap_alloc _ _ _ (by simp; omega)).trans ((Below.heap_alloc _ _ _ (by simp)).trans (heap_alloc_new w _))
    have hN : (((w.alloc (.cells #[.string (bt m.t), .string (bt m.s), .slice A m.ps.length c] 36)).alloc (.cells #[.string (bt n.t), .string (bt n.s), .slice A2 n.ps.length c2] 36)).alloc (.cells #[.string ⟨#[]⟩, .string ⟨#[]⟩, .slice none 0 0] 36)).heap[w.heap.size + 1]? = some (mimO n A2 c2) := (Below.heap_alloc _ _ _ (by simp)).trans (by
      rw [show w.heap.size + 1 = (w.alloc (.cells #[.string (bt m.t), .string (bt m.s), .slice A m.ps.length c] 36)).heap.size by simp]
      exact heap_alloc_new _ _)
    have hR : (((w.alloc (.cells #[.string (bt m.t), .string (bt m.s), .slice A m.ps.length c] 36)).alloc (.cells #[.string (bt n.t), .string (bt n.s), .slice A2 n.ps.length c2] 36)).alloc (.cells #[.string ⟨#[]⟩, .string ⟨#[]⟩, .slice none 0 0] 36)).heap[w.heap.size + 1 + 1]? = some (mimO noM none 0) := by
      rw [show w.heap.size + 1 + 1 = ((w.alloc (.cells #[.string (bt m.t), .string (bt m.s), .slice A m.ps.length c] 36)).alloc (.cells #[.string (bt n.t), .string (bt n.s), .slice A2 n.ps.length c2] 36)).heap.size by simp]
      exact heap_alloc_new _ _
    have hb : Below w.heap.size w (((w.alloc (.cells #[.string (bt m.t), .string (bt m.s), .slice A m.ps.length c] 36)).alloc (.cells #[.string (bt n.t), .string (bt n.s), .slice A2 n.ps.length c2] 36)).alloc (.cells #[.string ⟨#[]⟩, .string ⟨#[]⟩, .slice none 0 0] 36)) := ((below_box _ _).alloc (by simp) _).alloc (by simp; omega) _
    generalize (((w.alloc (.cells #[.string (bt m.t), .string (bt m.s), .slice A m.ps.length c] 36)).alloc (.cells #[.string (bt n.t), .string (bt n.s), .slice A2 n.ps.length c2] 36)).alloc (.cells #[.string ⟨#[]⟩, .string ⟨#[]⟩, .slice none 0 0] 36)) = W at *
    obtain ⟨p0, p1, p2, pz, plt⟩ := mim_cells hP
    obtain ⟨n0, n1, n2, nz, nlt⟩ := mim_cells hN
    obtain ⟨r0, r1, r2, rz, rlt⟩ := mim_cells hR
    go_wp2_with fail
    refine (HPA.out _ hb).mono ?_
    rintro e w1 ⟨rfl, hbn⟩
    clear p0 p1 p2 pz plt n0 n1 n2 nz nlt r0 r1 r2 rz rlt
    have hP := (hbn.block _ (Array.getElem?_eq_some_iff.1 hP).1).trans hP
    have hN := (hbn.block _ (Array.getElem?_eq_some_iff.1 hN).1).trans hN
    have hR := (hbn.block _ (Array.getElem?_eq_some_iff.1 hR).1).trans hR
    have hb := hb.trans (hbn.mono hb.size)
    clear hbn
    obtain ⟨p0, p1, p2, pz, plt⟩ := mim_cells hP
    obtain ⟨n0, n1, n2, nz, nlt⟩ := mim_cells hN
    obtain ⟨r0, r1, r2, rz, rlt⟩ := mim_cells hR
    go_upto_region 2 with fail
    have hx := @InB.cells w1
    refine wp_region_inb (by kernel_rfl) (by kernel_rfl) ?_; (repeat (first | go_big_quiet_skip | (go_big_quiet_want; go_big_quiet_op; first | go_big_quiet_on | (apply Exists.intro; refine ⟨fun x => ?_, ?_⟩; (· ((first | (go_at_call 56; with_reducible exact inb_call _ (HE1.out _)) | (go_at_call 56; with_reducible exact inb_call _ (HE2.out _))))); go_big_quiet_on)))); refine wpQuiet_nil ?_; intro _ hw'; obtain ⟨⟨wq, hbq⟩, rfl⟩ := hw'
    have hbn := hbq
    clear hx hbq
    clear p0 p1 p2 pz plt n0 n1 n2 nz nlt r0 r1 r2 rz rlt
    have hP := (hbn.block _ (Array.getElem?_eq_some_iff.1 hP).1).trans hP
    have hN := (hbn.block _ (Array.getElem?_eq_some_iff.1 hN).1).trans hN
    have hR := (hbn.block _ (Array.getElem?_eq_some_iff.1 hR).1).trans hR
    have hb := hb.trans (hbn.mono hb.size)
    clear hbn
    obtain ⟨p0, p1, p2, pz, plt⟩ := mim_cells hP
    obtain ⟨n0, n1, n2, nz, nlt⟩ := mim_cells hN
    obtain ⟨r0, r1, r2, rz, rlt⟩ := mim_cells hR
    have HO := Lib.hid (HOW.out _ hb)
    go_wp2_with fail
    refine HO.out.mono ?_
    rintro e w5 ⟨A3, c3, rfl, hA3, hbn, hf⟩
    unfold mimV
    have HF : Hid (∀ g, A3 = some ⟨g, 0, none⟩ → w.heap.size + 1 + 1 < g) := Lib.hid (fun g hg => by have := hf g hg; omega)
    have HA3 := Lib.hid hA3
    clear hA3 hf
    clear p0 p1 p2 pz plt n0 n1 n2 nz nlt r0 r1 r2 rz rlt
    have hP := (hbn.block _ (Array.getElem?_eq_some_iff.1 hP).1).trans hP
    have hN := (hbn.block _ (Array.getElem?_eq_some_iff.1 hN).1).trans hN
    have hR := (hbn.block _ (Array.getElem?_eq_some_iff.1 hR).1).trans hR
    have hb := hb.trans (hbn.mono hb.size)
    clear hbn
    have HB := Lib.hid hb
    obtain ⟨p0, p1, p2, pz, plt⟩ := mim_cells hP
    obtain ⟨n0, n1, n2, nz, nlt⟩ := mim_cells hN
    obtain ⟨r0, r1, r2, rz, rlt⟩ := mim_cells hR
    go_wp2_with fail
    refine bodyPost_ret (v := .tuple #[mimV n A3 c3, .string (bt (setOf n))]) ?_ rfl ?_
    · simp [results, Tryz.results128, go_sem, r0, r1, r2, mimV]
    · have hf : ∀ g, A3 = some ⟨g, 0, none⟩ → w.heap.size + 1 + 1 ≠ g := fun g hg => by have := HF.out g hg; omega
      refine ⟨A3, c3, by rw [HV.out], ?_, ?_, fun g hg => by have := HF.out g hg; omega⟩
      · rw [HV.out]
        exact (((HA3.out.set hf _).set hf _).set hf _).more (by simp)
      · exact ((HB.out.setCell (show w.heap.size ≤ w.heap.size + 1 + 1 by omega) _).setCell (show w.heap.size ≤ w.heap.size + 1 + 1 by omega) _).setCell (show w.heap.size ≤ w.heap.size + 1 + 1 by omega) _

end Go.Proofs.YtcbhkcdphbffpaaGreatDoor
