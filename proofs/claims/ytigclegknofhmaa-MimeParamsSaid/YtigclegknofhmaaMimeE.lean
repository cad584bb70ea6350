/-
  Walks of package mime: a type as it is written.
-/
import Derived.Test.YtigclegknofhmaaMimeD
namespace Go.Proofs.Ytigclegknofhmaa
open Go.RowKit
set_option linter.unusedSimpArgs false
set_option linter.unusedVariables false

def serQ (m : MimeL) : List UInt8 := if goodL m then mimeW m else []

theorem serQ_yes {m : MimeL} (h : goodL m = true) : serQ m = mimeW m := by unfold serQ; rw [if_pos h]

theorem serQ_no {m : MimeL} (h : goodL m = false) : serQ m = [] := by unfold serQ; rw [if_neg (by rw [h]; simp)]

theorem take_pars (l : Pars) (n : Nat) (h : n < l.length) : (l.take (n + 1)).flatMap parW = (l.take n).flatMap parW ++ parW l[n] := by
  rw [List.take_succ_eq_append_getElem h, List.flatMap_append]
  simp only [List.flatMap_cons, List.flatMap_nil, List.append_nil]

theorem valW_len (v : List UInt8) (h : v.length ≤ 1000) : (valW v).length ≤ 2002 := by
  unfold valW
  split
  · omega
  · have := escL_length v
    simp [serL]
    omega

set_option maxRecDepth 20000 in
theorem pars_len (l : Pars) (h : SizesP l) (n : Nat) : ((l.take n).flatMap parW).length ≤ n * 3004 := by
  induction n with
  | zero => simp
  | succ n ih =>
    by_cases hlt : n < l.length
    · rw [take_pars l n hlt, List.length_append]
      have h2 := h.2 l[n] (List.getElem_mem _)
      have h3 := valW_len l[n].2 h2.2
      have : (parW l[n]).length = l[n].1.length + (valW l[n].2).length + 2 := by simp [parW]; omega
      omega
    · have e1 : l.take (n + 1) = l := List.take_of_length_le (by omega)
      have e2 : l.take n = l := List.take_of_length_le (by omega)
      rw [e2] at ih
      rw [e1]
      omega

theorem needs_tok (v : List UInt8) : needsB (bt v) = !tokL v := by
  unfold needsB tokL
  rw [Lib.toList_data, bt_list]
  cases v.isEmpty <;> cases v.all isToken <;> rfl

theorem ser_bt (v : List UInt8) : (⟨(serL (bt v).data.toList).toArray⟩ : ByteArray) = bt (serL v) := rfl

theorem par_eq (X : List UInt8) (p : List UInt8 × List UInt8) : bt X ++ ⟨#[59]⟩ ++ bt p.1 ++ ⟨#[61]⟩ ++ bt (valW p.2) = bt (X ++ parW p) := by
  show bt X ++ bt [59] ++ bt p.1 ++ bt [61] ++ bt (valW p.2) = _
  rw [bt_append, bt_append, bt_append, bt_append]
  simp [parW]

set_option maxHeartbeats 4000000 in
set_option maxRecDepth 20000 in
theorem rSerial_par (m : MimeL) (A : Option Addr) (c : Nat) (w : World) (hm : SizesM m) (hA : ParsAt w w.heap.size A m.ps) :
    Calls Try.prog 33 #[mimV m A c] w fun e w' => e = .returned (.string (bt (serQ m))) ∧ Below w.heap.size w w' := by
  have HG := Lib.hid (fun (w1 : World) (hb : Below w.heap.size w w1) => rGood_par m A c w1 hm (hA.on hb))
  have HY := Lib.hid (serQ_yes (m := m))
  have HNO := Lib.hid (serQ_no (m := m))
  have HES := Lib.hid (essence_eq m)
  have HMW : Hid (mimeW m = essL m ++ m.ps.flatMap parW) := Lib.hid rfl
  have HLN := Lib.hid (pars_len m.ps hm.ps)
  have hel : (essL m).length ≤ 2001 := by have := hm.t; have := hm.s; simp [essL]; omega
  have h1 : (bt m.t).size ≤ 1000 := by rw [bt_size]; exact hm.t
  have h2 : (bt m.s).size ≤ 1000 := by rw [bt_size]; exact hm.s
  have h3 : (⟨#[47]⟩ : ByteArray).size = 1 := rfl
  have h4 : (bt m.t ++ ⟨#[47]⟩).size = (bt m.t).size + 1 := ByteArray.size_append
  have HZ := Lib.hid hm.ps.2
  have hl := hm.ps.1
  have HA := Lib.hid hA
  clear hm hA
  unfold mimV at HG ⊢
  generalize goodL m = G at *
  generalize serQ m = SQ at *
  generalize mimeW m = MW at *
  generalize essL m = E at *
  generalize bt m.t = T at *
  generalize bt m.s = U at *
  generalize m.ps = l at *
  clear m
  go_enter Try.func33, Try.ntmps33
  go_wp2_with fail
  refine (HG.out _ (below_box _ _)).mono ?_
  rintro e w1 ⟨rfl, hb1⟩
  have HB1 := Lib.hid (below_after hb1)
  have d0 : w1.cell? ⟨w.heap.size, 0, none⟩ = some (.string T) := by rw [cell_below hb1 (by simp)]; simp [go_sem]
  have d1 : w1.cell? ⟨w.heap.size, 1, none⟩ = some (.string U) := by rw [cell_below hb1 (by simp)]; simp [go_sem]
  have d2 : w1.cell? ⟨w.heap.size, 2, none⟩ = some (.slice A l.length c) := by rw [cell_below hb1 (by simp)]; simp [go_sem]
  have hzb : w.heap.size < w1.heap.size := lt_of_cell d0
  clear hb1 HG
  cases G
  · have hq := HNO.out rfl
    subst hq
    go_wp2_with fail
    go_ret
    exact ⟨rfl, HB1.out⟩
  · have hq := HY.out rfl
    subst hq
    have HD0 := Lib.hid d0
    have HD1 := Lib.hid d1
    have HD2 := Lib.hid d2
    go_upto_region 4 with fail
    rw [HES.out]
    clear d0 d1 d2
    go_wp2_with fail
    go_loopw [3, 4] (fun t i wr => ∃ n : Nat, n ≤ l.length ∧ i = .int .i64 n ∧ t = .string (bt (E ++ (l.take n).flatMap parW)) ∧ Below w.heap.size w wr ∧ w.heap.size < wr.heap.size ∧ wr.cell? ⟨w.heap.size, 2, none⟩ = some (.slice A l.length c)) (fun _ i _ => l.length - (intOf i).toNat)
    case atStart => exact ⟨0, Nat.zero_le _, rfl, by simp, HB1.out, hzb, HD2.out⟩
    case round =>
      obtain ⟨n, hn, rfl, rfl, hb, hz1, d2⟩ := hrel
      have HB := Lib.hid hb
      have HD2 := Lib.hid d2
      have hz := hb.size
      have hln := HLN.out n
      have htz : (bt (E ++ (l.take n).flatMap parW)).size ≤ 4000000 := by rw [bt_size, List.length_append]; omega
      by_cases hlt : n < l.length
      · rcases HA.out.below hb with hnil | ⟨g, rfl, hg, hcs⟩
        · rw [hnil] at hlt; simp at hlt
        obtain ⟨c0, c1⟩ := hcs n hlt
        have hsz := HZ.out l[n] (List.getElem_mem _)
        have HS : Hid (bt (E ++ (l.take n).flatMap parW) ++ ⟨#[59]⟩ ++ bt l[n].1 ++ ⟨#[61]⟩ ++ bt (valW l[n].2) = bt (E ++ (l.take (n + 1)).flatMap parW)) := Lib.hid (by rw [par_eq, take_pars l n hlt, List.append_assoc])
        have HTK := Lib.hid (fun w => r10Token_any (bt l[n].2) w (bt_max hsz.2))
        have HSE := Lib.hid (fun w => rSerial_any (bt l[n].2) w (by rw [bt_size]; omega))
        have hv := valW_len l[n].2 hsz.2
        have hvz : (bt (valW l[n].2)).size ≤ 2002 := by rw [bt_size]; exact hv
        have hnz : (bt l[n].1).size ≤ 1000 := by rw [bt_size]; exact hsz.1
        have HVW : Hid (valW l[n].2 = if tokL l[n].2 then l[n].2 else serL l[n].2) := Lib.hid rfl
        rw [bt_list] at HTK
        simp only [ser_bt] at HSE
        have hs59 : (⟨#[59]⟩ : ByteArray).size = 1 := rfl
        have hs61 : (⟨#[61]⟩ : ByteArray).size = 1 := rfl
        clear hcs hb hsz hv
        generalize bt (E ++ (l.take n).flatMap parW) = X at *
        generalize l[n] = p at *
        cases ht : tokL p.2
        · rw [ht] at HTK HVW
          have hVW := HVW.out
          simp only [Bool.false_eq_true, if_false] at hVW
          rw [hVW] at HS hvz
          clear ht HVW hVW
          generalize bt (serL p.2) = SV at *
          generalize bt p.1 = N at *
          generalize bt p.2 = V at *
          go_wp2_with (first | (go_at_call 65; refine (HTK.out _).mono ?_; rintro e w' ⟨rfl, rfl⟩) | (go_at_call 19; refine (HSE.out _).mono ?_; rintro e w' ⟨rfl, rfl⟩))
          go_roundw
          case rel => exact ⟨n + 1, by omega, by go_num, by rw [HS.out], HB.out, hz1, HD2.out⟩
          case measure => simp [intOf]; omega
        · rw [ht] at HTK HVW
          have hVW := HVW.out
          simp only [if_true] at hVW
          rw [hVW] at HS hvz
          clear ht HVW hVW HSE
          generalize bt p.1 = N at *
          generalize bt p.2 = V at *
          go_wp2_with (first | (go_at_call 65; refine (HTK.out _).mono ?_; rintro e w' ⟨rfl, rfl⟩))
          go_roundw
          case rel => exact ⟨n + 1, by omega, by go_num, by rw [HS.out], HB.out, hz1, HD2.out⟩
          case measure => simp [intOf]; omega
      · obtain rfl : n = l.length := by omega
        clear hb
        go_wp2_with fail
        go_ret
        exact ⟨ret_string (by rw [HMW.out, List.take_length]), HB.out⟩

theorem Bl.on {W wr w2 : World} {b : Nat} {l : List UInt8} (h : Bl W b l wr) (hb : Below wr.heap.size wr w2) : Bl W b l w2 := by
  obtain ⟨v, h1, h2⟩ := h
  exact ⟨v, h1.stands (hb.block _ h1.lt) (fun k _ hk => hb.block k hk), h2.trans (hb.mono h2.size)⟩

theorem Bl.below {W wr : World} {b : Nat} {l : List UInt8} (h : Bl W b l wr) : Below W.heap.size W wr := by
  obtain ⟨v, h1, h2⟩ := h
  exact h2

theorem parW_eq (p : List UInt8 × List UInt8) : (⟨#[59]⟩ : ByteArray) ++ bt p.1 ++ ⟨#[61]⟩ ++ bt (valW p.2) = bt (parW p) := by
  show bt [59] ++ bt p.1 ++ bt [61] ++ bt (valW p.2) = _
  rw [bt_append, bt_append, bt_append]
  simp [parW]

set_option maxHeartbeats 4000000 in
set_option maxRecDepth 20000 in
theorem Serial_par (m : MimeL) (A : Option Addr) (c : Nat) (w : World) (hm : SizesM m) (hA : ParsAt w w.heap.size A m.ps) :
    Calls Try.prog 31 #[mimV m A c] w fun e w' => e = .returned (.string (bt (serQ m))) ∧ Below w.heap.size w w' := by
  have HG := Lib.hid (fun (w1 : World) (hb : Below w.heap.size w w1) => good_par m A c w1 hm (hA.on hb))
  have HES := Lib.hid (fun (w1 : World) => essence_par m A c w1 hm)
  have HY := Lib.hid (serQ_yes (m := m))
  have HNO := Lib.hid (serQ_no (m := m))
  have HMW : Hid (mimeW m = essL m ++ m.ps.flatMap parW) := Lib.hid rfl
  have HLN := Lib.hid (pars_len m.ps hm.ps)
  have hel : (essL m).length ≤ 2001 := by have := hm.t; have := hm.s; simp [essL]; omega
  have HZ := Lib.hid hm.ps.2
  have hl := hm.ps.1
  have HA := Lib.hid hA
  clear hm hA
  unfold mimV at HG HES ⊢
  generalize goodL m = G at *
  generalize serQ m = SQ at *
  generalize mimeW m = MW at *
  generalize essL m = E at *
  generalize bt m.t = T at *
  generalize bt m.s = U at *
  generalize m.ps = l at *
  clear m
  go_enter Try.func31, Try.ntmps31
  go_wp2_with fail
  have hBW0 := below_box w (.cells #[.string T, .string U, .slice A l.length c] 48)
  have hBl0 := Bl.start (w.alloc (.cells #[.string T, .string U, .slice A l.length c] 48))
  have hzW0 : (w.alloc (.cells #[.string T, .string U, .slice A l.length c] 48)).heap.size = w.heap.size + 1 := by simp
  have d0' : (w.alloc (.cells #[.string T, .string U, .slice A l.length c] 48)).cell? ⟨w.heap.size, 0, none⟩ = some (.string T) := by simp [go_sem]
  have d1' : (w.alloc (.cells #[.string T, .string U, .slice A l.length c] 48)).cell? ⟨w.heap.size, 1, none⟩ = some (.string U) := by simp [go_sem]
  have d2' : (w.alloc (.cells #[.string T, .string U, .slice A l.length c] 48)).cell? ⟨w.heap.size, 2, none⟩ = some (.slice A l.length c) := by simp [go_sem]
  generalize hW : w.alloc (.cells #[.string T, .string U, .slice A l.length c] 48) = W at *
  rw [hzW0] at hBl0
  have HW0 := Lib.hid hzW0
  have HBW := Lib.hid hBW0
  have hlt0 : w.heap.size < W.heap.size := by omega
  have HDs := Lib.hid (And.intro d0' (And.intro d1' d2'))
  have HBl := Lib.hid hBl0
  clear hW hBW0 hBl0 hzW0 d0' d1' d2'
  generalize W.alloc (.cells #[.pointer none, .slice none 0 0] 73) = W2 at *
  have HB2 := Lib.hid (HBW.out.trans (HBl.out.below.mono HBW.out.size))
  refine (HG.out _ HB2.out).mono ?_
  rintro e w3 ⟨rfl, hb3⟩
  have HB3 := Lib.hid (HB2.out.trans (hb3.mono HB2.out.size))
  have HBl3 := Lib.hid (HBl.out.on hb3)
  clear hb3 HB2 HBl HG
  cases G
  · have hq := HNO.out rfl
    subst hq
    go_wp2_with fail
    go_ret
    exact ⟨rfl, HB3.out⟩
  · have hq := HY.out rfl
    subst hq
    have d0 : w3.cell? ⟨w.heap.size, 0, none⟩ = some (.string T) := by rw [cell_below HBl3.out.below hlt0]; exact HDs.out.1
    have d1 : w3.cell? ⟨w.heap.size, 1, none⟩ = some (.string U) := by rw [cell_below HBl3.out.below hlt0]; exact HDs.out.2.1
    have d2 : w3.cell? ⟨w.heap.size, 2, none⟩ = some (.slice A l.length c) := by rw [cell_below HBl3.out.below hlt0]; exact HDs.out.2.2
    go_wp2_with fail
    refine (HES.out _).mono ?_
    rintro e w4 ⟨rfl, hb4⟩
    have HBl4 := Lib.hid (HBl3.out.on hb4)
    clear hb4 HBl3 HB3 d0 d1 d2
    go_wp2_with fail
    refine (blStr HBl4.out (bt E) (by simp) (by rw [bt_size]; omega)).mono ?_
    rintro e w5 ⟨rfl, h5⟩
    have HBl5 := Lib.hid h5
    clear h5 HBl4
    have d2 : w5.cell? ⟨w.heap.size, 2, none⟩ = some (.slice A l.length c) := by rw [cell_below HBl5.out.below hlt0]; exact HDs.out.2.2
    go_wp2_with fail
    clear d2
    go_loopw [16] (fun i wr => ∃ n : Nat, n ≤ l.length ∧ i = .int .i64 n ∧ Bl W (w.heap.size + 1) (E ++ (l.take n).flatMap parW) wr) (fun i _ => l.length - (intOf i).toNat)
    case atStart => exact ⟨0, Nat.zero_le _, rfl, by have h := HBl5.out; rw [bt_list, List.nil_append] at h; simpa using h⟩
    case round =>
      clear HBl5
      obtain ⟨n, hn, rfl, hbl⟩ := hrel
      have HBL := Lib.hid hbl
      have hb := HBW.out.trans (hbl.below.mono HBW.out.size)
      have HB := Lib.hid hb
      have hz := hb.size
      have hln := HLN.out n
      have htz : (E ++ (l.take n).flatMap parW).length ≤ 4000000 := by rw [List.length_append]; omega
      have hz1 : w.heap.size < wr.heap.size := by have := hbl.below.size; omega
      clear hbl
      by_cases hlt : n < l.length
      · rcases HA.out.below hb with hnil | ⟨g, rfl, hg, hcs⟩
        · rw [hnil] at hlt; simp at hlt
        obtain ⟨c0, c1⟩ := hcs n hlt
        have hsz := HZ.out l[n] (List.getElem_mem _)
        have HS : Hid ((E ++ (l.take n).flatMap parW) ++ (bt (parW l[n])).data.toList = E ++ (l.take (n + 1)).flatMap parW) := Lib.hid (by rw [take_pars l n hlt, List.append_assoc]; rfl)
        have HTK := Lib.hid (fun w => Needs_any (bt l[n].2) w (bt_max hsz.2))
        have HSE := Lib.hid (fun w => Serial_any (bt l[n].2) w (by rw [bt_size]; omega))
        have HPE := Lib.hid (parW_eq l[n])
        have hv := valW_len l[n].2 hsz.2
        have hvz : (bt (valW l[n].2)).size ≤ 2002 := by rw [bt_size]; exact hv
        have hnz : (bt l[n].1).size ≤ 1000 := by rw [bt_size]; exact hsz.1
        have HPZ : Hid ((bt (parW l[n])).size ≤ 10000000) := Lib.hid (by rw [bt_size]; simp [parW]; omega)
        have HVW : Hid (valW l[n].2 = if tokL l[n].2 then l[n].2 else serL l[n].2) := Lib.hid rfl
        rw [needs_tok] at HTK
        simp only [ser_bt] at HSE
        have hs59 : (⟨#[59]⟩ : ByteArray).size = 1 := rfl
        have hs61 : (⟨#[61]⟩ : ByteArray).size = 1 := rfl
        clear hcs hb hsz hv
        generalize E ++ (l.take n).flatMap parW = X at *
        generalize l[n] = p at *
        have e0 : (wr.alloc (.cells #[.string (bt p.1), .string (bt p.2)] 54)).cell? ⟨wr.heap.size, 0, none⟩ = some (.string (bt p.1)) := by simp [go_sem]
        have e1 : (wr.alloc (.cells #[.string (bt p.1), .string (bt p.2)] 54)).cell? ⟨wr.heap.size, 1, none⟩ = some (.string (bt p.2)) := by simp [go_sem]
        have HBL1 := Lib.hid (HBL.out.on (below_box wr (.cells #[.string (bt p.1), .string (bt p.2)] 54)))
        have HZW : Hid (wr.heap.size < (wr.alloc (.cells #[.string (bt p.1), .string (bt p.2)] 54)).heap.size) := Lib.hid (by simp)
        have E0 := Lib.hid e0
        have E1 := Lib.hid e1
        clear e0 e1
        cases ht : tokL p.2
        · rw [ht] at HTK HVW
          have hVW := HVW.out
          simp only [Bool.false_eq_true, if_false] at hVW
          rw [hVW] at HPE hvz
          clear ht HVW hVW
          generalize bt (serL p.2) = SV at *
          generalize bt p.1 = N at *
          generalize bt p.2 = V at *
          generalize bt (parW p) = PW at *
          go_upto_region 8 with fail
          generalize wr.alloc (.cells #[.string N, .string V] 54) = Wp at *
          have e0 := E0.out
          have e1 := E1.out
          go_wp2_with (first | (go_at_call 20; refine (HTK.out _).mono ?_; rintro e w' ⟨rfl, rfl⟩))
          refine (HSE.out _).mono ?_
          rintro e w6 ⟨rfl, hb6⟩
          have HBL6 := Lib.hid (HBL1.out.on hb6)
          rw [← cell_below hb6 HZW.out] at e0 e1
          clear hb6
          go_wp2_with fail
          rw [HPE.out]
          refine (blStr HBL6.out PW (by omega) HPZ.out).mono ?_
          rintro e w7 ⟨rfl, h7⟩
          rw [HS.out] at h7
          have HBL7 := Lib.hid h7
          clear h7
          go_wp2_with fail
          go_roundw
          case rel => exact ⟨n + 1, by omega, by go_num, HBL7.out⟩
          case measure => simp [intOf]; omega
        · rw [ht] at HTK HVW
          have hVW := HVW.out
          simp only [if_true] at hVW
          rw [hVW] at HPE hvz
          clear ht HVW hVW HSE
          generalize bt p.1 = N at *
          generalize bt p.2 = V at *
          generalize bt (parW p) = PW at *
          go_upto_region 8 with fail
          generalize wr.alloc (.cells #[.string N, .string V] 54) = Wp at *
          have e0 := E0.out
          have e1 := E1.out
          go_wp2_with (first | (go_at_call 20; refine (HTK.out _).mono ?_; rintro e w' ⟨rfl, rfl⟩))
          rw [HPE.out]
          refine (blStr HBL1.out PW (by omega) HPZ.out).mono ?_
          rintro e w7 ⟨rfl, h7⟩
          rw [HS.out] at h7
          have HBL7 := Lib.hid h7
          clear h7
          go_wp2_with fail
          go_roundw
          case rel => exact ⟨n + 1, by omega, by go_num, HBL7.out⟩
          case measure => simp [intOf]; omega
      · obtain rfl : n = l.length := by omega
        clear hb
        go_wp2_with fail
        refine (blString HBL.out).mono ?_
        rintro e w6 ⟨rfl, hb6⟩
        have HB6 := Lib.hid (HBW.out.trans (hb6.mono HBW.out.size))
        clear hb6
        go_wp2_with fail
        go_ret
        exact ⟨ret_string (by rw [HMW.out]; rfl), HB6.out⟩

end Go.Proofs.Ytigclegknofhmaa
