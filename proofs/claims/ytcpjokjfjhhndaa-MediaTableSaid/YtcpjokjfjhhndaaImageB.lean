/-
  Walks of package image: what it judges.
-/
import Derived.Test.YtcpjokjfjhhndaaImageA
import Derived.Test.YtcpjokjfjhhndaaTabC
namespace Go.Proofs.Ytcpjokjfjhhndaa
open Go.RowKit
set_option linter.unusedSimpArgs false
set_option linter.unusedVariables false

theorem Is_img (s : ByteArray) (w : World) (hs : s.size ≤ maxLen) :
    Calls Try.prog 60 #[.string s] w fun e w' => e = .returned (.bool (anyP s imgTable)) ∧ Below w.heap.size w w' := by
  have HK := Lib.hid (fun w => kind_img s w hs)
  unfold anyP
  by_cases h : findN s imgTable < imgTable.length
  · have h1 := type_some imgFull h
    have h2 : (typeP s imgTable).toList.isEmpty = false := by rw [List.isEmpty_eq_false_iff]; exact h1
    rw [decide_eq_true h]
    clear h
    generalize typeP s imgTable = t at *
    go_enter Try.func60, Try.ntmps60
    go_wp2_with (go_at_call 83; refine (HK.out _).mono ?_; rintro e w' ⟨rfl, hb⟩)
    go_ret
    exact ⟨rfl, hb⟩
  · have h1 := type_none h
    have h2 : (typeP s imgTable).toList.isEmpty = true := by rw [h1]; rfl
    rw [decide_eq_false h]
    clear h
    generalize typeP s imgTable = t at *
    go_enter Try.func60, Try.ntmps60
    go_wp2_with (go_at_call 83; refine (HK.out _).mono ?_; rintro e w' ⟨rfl, hb⟩)
    go_ret
    exact ⟨rfl, hb⟩

set_option maxHeartbeats 1000000 in
set_option maxRecDepth 20000 in
theorem lacks_img (s : ByteArray) (w : World) (hs : s.size ≤ 1000) :
    Calls Try.prog 84 #[.string s] w fun e w' => e = .returned (.int .i64 (needsN s imgTable)) ∧ Below w.heap.size w w' := by
  have hsm : s.size ≤ maxLen := by unfold maxLen; omega
  have HK := Lib.hid (fun w => kind_img s w hsm)
  by_cases h : findN s imgTable < imgTable.length
  · have h1 := type_some imgFull h
    have h2 : (typeP s imgTable).toList.isEmpty = false := by rw [List.isEmpty_eq_false_iff]; exact h1
    have HN : Hid (needsN s imgTable = 0) := Lib.hid (by unfold needsN; rw [if_pos h])
    clear h
    generalize typeP s imgTable = t at *
    generalize needsN s imgTable = nn at *
    go_enter Try.func84, Try.ntmps84
    go_wp2_with (go_at_call 83; refine (HK.out _).mono ?_; rintro e w' ⟨rfl, hb⟩)
    go_ret
    exact ⟨ret_int (by rw [HN.out]; rfl), hb⟩
  · have h1 := type_none h
    have h2 : (typeP s imgTable).toList.isEmpty = true := by rw [h1]; rfl
    have HN : Hid (needsN s imgTable = foldN s imgTable 0) := Lib.hid (by unfold needsN; rw [if_neg h])
    clear h
    generalize typeP s imgTable = t at *
    generalize needsN s imgTable = nn at *
    have HTab := Lib.hid table_img
    have HF := Lib.hid imgFull
    have hlen : imgTable.length = 8 := rfl
    generalize imgTable = ps at *
    have HLEN := Lib.hid hlen
    go_enter Try.func84, Try.ntmps84
    go_upto_region 4 with (go_at_call 83; refine (HK.out _).mono ?_; rintro e w' ⟨rfl, hb⟩)
    have HB0 := Lib.hid hb
    clear hb h1 h2 HK hlen
    go_wp2_with fail
    refine (HTab.out _).mono ?_
    rintro e w1 ⟨g, c, rfl, hp, hb1⟩
    have HP := Lib.hid hp
    have HB1 := Lib.hid (HB0.out.trans (hb1.mono HB0.out.size))
    have hlen8 : ps.length ≤ 8 := by have := HLEN.out; omega
    clear hp hb1 HB0 HTab
    go_wp2_with fail
    go_loopw [3, 12] (fun l i wr => ∃ n : Nat, n ≤ ps.length ∧ i = .int .i64 n ∧ l = .int .i64 (foldN s (ps.take n) 0) ∧ Below w1.heap.size w1 wr) (fun _ i _ => ps.length - (intOf i).toNat)
    case atStart => exact ⟨0, Nat.zero_le _, rfl, rfl, Below.refl _ _⟩
    case round =>
      obtain ⟨n, hn, rfl, rfl, hb⟩ := hrel
      have hl64 := foldN_le s ps HF.out n hn
      by_cases hlt : n < ps.length
      · have hz := hb.size
        rcases HP.out.below hb with hnil | ⟨g', hgg, hg, hcs⟩
        · rw [hnil] at hlt; simp at hlt
        simp at hgg
        subst hgg
        obtain ⟨c0, c1, c2, c3⟩ := hcs n hlt
        have hful := HF.out n hlt
        obtain ⟨hb64, hb1, hmb, hk0⟩ := full_sizes hful
        have HS := Lib.hid (foldN_take s ps n hlt 0)
        have HB := Lib.hid hb
        have HO := Lib.hid (fun w => Open_any s ps[n].b ps[n].m ps[n].k ps[n].t w hsm (by unfold maxLen; omega) (by unfold maxLen; omega))
        have HSH := Lib.hid (fun h => open_short hful (s := s) h)
        clear hcs hb hmb hk0 hful
        generalize ps[n] = p at *
        generalize foldN s (ps.take n) 0 = l at *
        have HL1 := Lib.hid (fun h1 h2 => least_open (s := s) (p := p) l h1 h2)
        have HL2 := Lib.hid (fun h1 h2 => least_keep (s := s) (p := p) l h1 h2)
        have HL3 := Lib.hid (fun h1 => least_closed (s := s) (p := p) l h1)
        have HO2 : Hid (∀ w, Calls Try.prog 23 #[.string s, patV p.b p.m p.k p.t] w fun e w' => e = .returned (.bool (openP s p)) ∧ Below w.heap.size w w') := Lib.hid HO.out
        clear HO
        cases hop : openP s p
        · have HL := Lib.hid (HL3.out hop)
          rw [hop] at HO2
          clear hop HL1 HL2 HL3 HSH
          go_wp2_with fail
          refine (HO2.out _).mono ?_
          rintro e w2 ⟨rfl, hb2⟩
          have HB2 := Lib.hid (below_step HB.out hb2)
          clear hb2
          go_wp2_with fail
          go_roundw
          case rel => exact ⟨n + 1, by omega, by go_num, by rw [HS.out, HL.out], HB2.out⟩
          case measure => simp [intOf]; omega
        · have hlt2 := HSH.out hop
          rw [hop] at HO2
          have HOP := Lib.hid hop
          obtain ⟨d, hd⟩ : ∃ d : Nat, p.b.size = s.size + d := ⟨p.b.size - s.size, by omega⟩
          have hd2 : p.b.size - s.size = d := by omega
          have hd3 : (p.b.size : Int) - s.size = d := by omega
          have HD := Lib.hid hd3
          rw [hd2] at HL1 HL2
          have hd64 : d ≤ 64 := by omega
          clear hop hd hd2 HSH HL3 hd3
          by_cases hl0 : l = 0
          · have HL := Lib.hid (HL1.out HOP.out (.inl hl0))
            subst hl0
            clear HL1 HL2
            go_upto_region 8 with fail
            rw [HD.out]
            go_wp2_with fail
            refine (HO2.out _).mono ?_
            rintro e w2 ⟨rfl, hb2⟩
            have HB2 := Lib.hid (below_step HB.out hb2)
            clear hb2
            go_wp2_with fail
            go_roundw
            case rel => exact ⟨n + 1, by omega, by go_num, by rw [HS.out, HL.out], HB2.out⟩
            case measure => simp [intOf]; omega
          · by_cases hdl : d < l
            · have HL := Lib.hid (HL1.out HOP.out (.inr hdl))
              clear HL1 HL2
              go_upto_region 8 with fail
              rw [HD.out]
              go_wp2_with fail
              refine (HO2.out _).mono ?_
              rintro e w2 ⟨rfl, hb2⟩
              have HB2 := Lib.hid (below_step HB.out hb2)
              clear hb2
              go_wp2_with fail
              go_roundw
              case rel => exact ⟨n + 1, by omega, by go_num, by rw [HS.out, HL.out], HB2.out⟩
              case measure => simp [intOf]; omega
            · have HL := Lib.hid (HL2.out hl0 hdl)
              clear HL1 HL2
              go_upto_region 8 with fail
              rw [HD.out]
              go_wp2_with fail
              refine (HO2.out _).mono ?_
              rintro e w2 ⟨rfl, hb2⟩
              have HB2 := Lib.hid (below_step HB.out hb2)
              clear hb2
              go_wp2_with fail
              go_roundw
              case rel => exact ⟨n + 1, by omega, by go_num, by rw [HS.out, HL.out], HB2.out⟩
              case measure => simp [intOf]; omega
      · obtain rfl : n = ps.length := by omega
        rw [List.take_length]
        have HB := Lib.hid (HB1.out.trans (hb.mono HB1.out.size)); clear hb
        clear hl64
        generalize foldN s ps 0 = l at *
        go_wp2_with fail
        go_ret
        exact ⟨ret_int (by rw [HN.out]), HB.out⟩

theorem Needs_img (s : ByteArray) (w : World) (hs : s.size ≤ 1000) :
    Calls Try.prog 62 #[.string s] w fun e w' => e = .returned (.int .i64 (needsN s imgTable)) ∧ Below w.heap.size w w' := by
  go_enter Try.func62, Try.ntmps62
  go_wp2_with (go_at_call 84; refine (lacks_img _ _ hs).mono ?_; rintro e w' ⟨rfl, hb⟩)
  go_ret
  exact ⟨rfl, hb⟩

theorem Open_img (s : ByteArray) (w : World) (hs : s.size ≤ 1000) :
    Calls Try.prog 61 #[.string s] w fun e w' => e = .returned (.bool (decide (0 < needsN s imgTable))) ∧ Below w.heap.size w w' := by
  have HK := Lib.hid (fun w => lacks_img s w hs)
  generalize needsN s imgTable = n at *
  go_enter Try.func61, Try.ntmps61
  go_wp2_with (go_at_call 84; refine (HK.out _).mono ?_; rintro e w' ⟨rfl, hb⟩)
  go_ret
  exact ⟨ret_bool (by first | rfl | (rw [Bool.eq_iff_iff]; simp)), hb⟩

theorem Most_img (w : World) :
    Calls Try.prog 57 #[] w fun e w' => e = .returned (.int .i64 (mostN imgTable 0)) ∧ Below w.heap.size w w' := by
  have HTab := Lib.hid table_img
  have HF := Lib.hid imgFull
  have hlen : imgTable.length = 8 := rfl
  generalize imgTable = ps at *
  have HLEN := Lib.hid hlen
  have hlen8 : ps.length ≤ 8 := by omega
  clear hlen
  go_enter Try.func57, Try.ntmps57
  go_wp2_with fail
  refine (HTab.out _).mono ?_
  rintro e w1 ⟨g, c, rfl, hp, hb1⟩
  have HP := Lib.hid hp
  have HB1 := Lib.hid hb1
  clear hp hb1 HTab
  go_wp2_with fail
  go_loopw [1, 6] (fun l i wr => ∃ n : Nat, n ≤ ps.length ∧ i = .int .i64 n ∧ l = .int .i64 (mostN (ps.take n) 0) ∧ mostN (ps.take n) 0 ≤ 64 ∧ Below w1.heap.size w1 wr) (fun _ i _ => ps.length - (intOf i).toNat)
  case atStart => exact ⟨0, Nat.zero_le _, rfl, rfl, Nat.zero_le _, Below.refl _ _⟩
  case round =>
    obtain ⟨n, hn, rfl, rfl, hl64, hb⟩ := hrel
    by_cases hlt : n < ps.length
    · have hz := hb.size
      rcases HP.out.below hb with hnil | ⟨g', hgg, hg, hcs⟩
      · rw [hnil] at hlt; simp at hlt
      simp at hgg
      subst hgg
      obtain ⟨c0, c1, c2, c3⟩ := hcs n hlt
      have HS := Lib.hid (mostN_take ps n hlt 0)
      have hsz := full_sizes (HF.out n hlt)
      have hsz1 := hsz.1
      have HB := Lib.hid hb
      clear hcs hsz hb
      generalize ps[n] = p at *
      generalize mostN (ps.take n) 0 = m at *
      by_cases hm : m < p.b.size
      · go_wp2_with fail
        go_roundw
        case rel => exact ⟨n + 1, by omega, by go_num, by rw [HS.out]; congr 1; omega, by rw [HS.out]; omega, HB.out.alloc HB.out.size _⟩
        case measure => simp [intOf]; omega
      · go_wp2_with fail
        go_roundw
        case rel => exact ⟨n + 1, by omega, by go_num, by rw [HS.out]; congr 1; omega, by rw [HS.out]; omega, HB.out.alloc HB.out.size _⟩
        case measure => simp [intOf]; omega
    · obtain rfl : n = ps.length := by omega
      rw [List.take_length] at *
      have HB := Lib.hid (HB1.out.trans (hb.mono HB1.out.size)); clear hb
      go_wp2_with fail
      go_ret
      exact ⟨rfl, HB.out⟩

end Go.Proofs.Ytcpjokjfjhhndaa
