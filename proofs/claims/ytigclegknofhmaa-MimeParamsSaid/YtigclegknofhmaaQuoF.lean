/-
  Walks of package quoted: Split.
-/
import Derived.Test.YtigclegknofhmaaQuoE
import Derived.Test.YtigclegknofhmaaStrs
namespace Go.Proofs.Ytigclegknofhmaa
open Go.RowKit
set_option linter.unusedSimpArgs false
set_option linter.unusedVariables false

def SplR (w : World) (s : ByteArray) (r : Value) (wr : World) : Prop :=
  ∃ (m : Nat) (T : List UInt8) (xs : List ByteArray), m ≤ s.size ∧ T.length ≤ m ∧ xs.length ≤ m ∧ xs ++ splitL T (dropB s m) = splitB s ∧ Spl w s m T xs r wr

theorem splitEnd (xs : List ByteArray) (P : ByteArray) : (xs ++ [P]).map Value.string = xs.map Value.string ++ [.string P] := by simp

theorem Low.row {w wr : World} {s : ByteArray} {m : Nat} {xs : List ByteArray} {r : Value} (h : Low w s m xs r wr) : wr.ownsRow w.heap.size 9 1 r xs.length (xs.map Value.string) := by
  obtain ⟨p, v, h1, h2, h3, h5, h6, h8⟩ := h
  exact h3

theorem Low.size {w wr : World} {s : ByteArray} {m : Nat} {xs : List ByteArray} {r : Value} (h : Low w s m xs r wr) : w.heap.size ≤ wr.heap.size := by
  obtain ⟨p, v, h1, h2, h3, h5, h6, h8⟩ := h
  exact h8.size

theorem lowApp {w wr w2 : World} {s : ByteArray} {m g c : Nat} {xs : List ByteArray} {r : Value} {P : ByteArray} (h : Low w s m xs r wr)
    (ho : w2.ownsRow w.heap.size 9 1 (.slice (some ⟨g, 0, none⟩) (xs.length + 1) c) (xs.length + 1) (xs.map Value.string ++ [.string P])) (hg : wr.grownBy w2 r.ownBlock) (hat : r.ownBlock = some g ∨ g = wr.heap.size) :
    Low w s m (xs ++ [P]) (.slice (some ⟨g, 0, none⟩) (xs.length + 1) c) w2 := by
  refine h.grown hg (by rw [List.length_append, splitEnd]; exact ho) ?_
  intro k e
  simp [Value.ownBlock] at e
  subst e
  rcases hat with h | h
  · exact .inl h
  · exact .inr (by omega)

set_option maxHeartbeats 2000000 in
set_option maxRecDepth 100000 in
theorem Split_any (s : ByteArray) (w : World) (hs : s.size ≤ 100000) :
    Calls Try.prog 42 #[.string s] w fun e w' => ∃ r, e = .returned r ∧ w'.ownsRow w.heap.size 9 1 r (splitB s).length ((splitB s).map Value.string) ∧ Below w.heap.size w w' := by
  obtain ⟨i0, hi, hz0, hz1, hz2⟩ := info_parts infoStrT
  have HI := Lib.hid hi; have HZ0 := Lib.hid hz0; have HZ1 := Lib.hid hz1; have HZ2 := Lib.hid hz2
  clear hi hz0 hz1 hz2
  have hsm : s.size ≤ maxLen := by unfold maxLen; omega
  have HS0 := Lib.hid (Spl.start w s)
  have HG := Lib.hid (show SplR w s (.slice none 0 0) _ from ⟨0, [], [], Nat.zero_le _, by simp, by simp, by unfold splitB dropB; simp, Spl.start w s⟩)
  have HSQ : Hid (splitB s = splitB s) := Lib.hid rfl
  go_enter Try.func42, Try.ntmps42
  go_wp2_with (go_at_call 10; refine (New_any _ _).mono ?_; rintro e w' ⟨rfl, rfl⟩)
  generalize hW : (w.alloc (.cells #[.pointer none, .slice none 0 0] 73)).alloc (.cells #[.string s, .int .i64 0] 64) = W at *
  clear hW HS0
  go_loopw [3] (fun r wr => SplR w s r wr) (fun _ wr => s.size + 1 - curAt wr (w.heap.size + 1))
  case atStart => exact HG.out
  case round =>
    clear HG
    obtain ⟨m, T, xs, hms, hTm, hxm, hR, ht⟩ := hrel
    have HT := Lib.hid ht
    have H1 := Lib.hid hR
    have hcur0 := Lib.hid ht.cur.at_
    obtain ⟨n, hn⟩ : ∃ n, n = spanN (goesOn splStops) (restB s m).data.toList := ⟨_, rfl⟩
    obtain ⟨d1, d2, d3, d4⟩ := span_any _ s m hms n hn
    have HU : Hid (∀ (w1 : World), Cur w1 (w.heap.size + 1) s m → Calls Try.prog 58 #[.pointer (some ⟨w.heap.size + 1, 0, none⟩), .string ⟨#[34, 44]⟩] w1 fun e w' => e = .returned (.string (s.extract m (m + n))) ∧ Moved (w.heap.size + 1) s (m + n) w1 w') :=
      Lib.hid (fun w1 h1 => by have := Until_gives splStops (w.heap.size + 1) s m w1 h1 hms hsm; rw [← hn] at this; exact this)
    have HSP := Lib.hid (splitL_span T _ (dropB s (m + n)) (fun b hb => by have := d3 b hb; rw [goes_spl] at this; simpa using this))
    have HD2 := Lib.hid d2
    have HD4 := Lib.hid (fun (h : m + n < s.size) => (show s[m + n] = 34 ∨ s[m + n] = 44 from by have := d4 h; rw [goes_spl] at this; simp only [Bool.and_eq_false_iff, bne_eq_false_iff_eq] at this; exact this))
    have HLX := Lib.hid (ext_length s m (m + n) d1)
    clear ht hR hn d2 d3 d4
    go_wp2_with fail
    have hc3 := HU.out wr HT.out.cur
    refine Calls.mono hc3 ?_
    rintro e w3 ⟨rfl, hm3⟩
    have HT3 := Lib.hid (HT.out.moved hm3)
    clear hm3 hc3 HT HU
    have hxz : (s.extract m (m + n)).size ≤ 10000000 := by rw [Lib.size_eq, HLX.out]; omega
    go_wp2_with fail
    refine (splStr HT3.out (s.extract m (m + n)) (by omega) hxz).mono ?_
    rintro e w4 ⟨rfl, ht4⟩
    have HT4 := Lib.hid ht4
    clear ht4 HT3
    obtain ⟨q, hq⟩ : ∃ q, m + n = q := ⟨_, rfl⟩
    obtain ⟨U, hU⟩ : ∃ U, T ++ (s.extract m (m + n)).data.toList = U := ⟨_, rfl⟩
    have hUl : U.length ≤ q := by rw [← hU, List.length_append, HLX.out]; omega
    have hqR : xs ++ splitL U (dropB s q) = splitB s := by
      have h1 := H1.out
      rw [HD2.out, HSP.out, hU, hq] at h1
      exact h1
    rw [hU, hq] at HT4
    rw [hq] at HD4 d1
    have G1 := Lib.hid hqR
    have hmq : m ≤ q := by omega
    clear hU hqR H1 HD2 HSP HLX hxz hTm
    go_wp2_with fail
    have hPz : ∀ U : List UInt8, U.length ≤ s.size → (⟨U.toArray⟩ : ByteArray).size ≤ maxLen := fun U h => by
      rw [Lib.size_eq]; simpa using (by omega : U.length ≤ maxLen)
    have HPZ := Lib.hid (hPz U (by omega))
    clear hPz
    have k3 := Lib.hid (show xs.length + 1 ≤ maxLen from by unfold maxLen; omega)
    have k4 := Lib.hid (show (xs.length + 1) * 16 ≤ 140737488355328 from by omega)
    have k2 := Lib.hid (show ∀ v ∈ ([.string (pieceB ⟨U.toArray⟩)] : List Value), v.oneCell' = true from by intro v hv; simp at hv; subst hv; rfl)
    by_cases hend : q = s.size
    · subst hend
      have hc4 := Peek0_no (w.heap.size + 1) s _ HT4.out.cur hsm
      refine Calls.mono hc4 ?_
      rintro e w5 ⟨rfl, hm5⟩
      have HT5 := Lib.hid (HT4.out.moved hm5)
      clear hm5 HT4 hc4
      go_wp2_with fail
      refine (splString HT5.out).mono ?_
      rintro e w6 ⟨rfl, h6⟩
      have H6 := Lib.hid h6
      clear h6 HT5
      go_wp2_with fail
      refine (trim_any ⟨U.toArray⟩ _ HPZ.out).mono ?_
      rintro e w7 ⟨rfl, h7⟩
      have hl7 := H6.out.below h7
      have hl8 := hl7.below (below_box w7 (.cells #[.string (pieceB ⟨U.toArray⟩)] 9))
      have H8 := Lib.hid hl8
      have k0 := Lib.hid (Low.row hl8)
      have k1 := Lib.hid (cell_one_new w7 (.string (pieceB ⟨U.toArray⟩)) 9)
      have k5 := Lib.hid (show w.heap.size ≤ (w7.alloc (.cells #[.string (pieceB ⟨U.toArray⟩)] 9)).heap.size from hl8.size)
      clear h7 hl7 hl8
      go_wp2_with (at_builtin; refine wpList_append_lies _ rfl (.tmp 32) (.tmp 35) 69 rfl w.heap.size 9 i0 (.string ByteArray.empty) 1 16 Try.underlying69 HI.out HZ0.out HZ1.out HZ2.out rfl (by decide) _ _ _ rfl k0.out ⟨w7.heap.size, 0, none⟩ 1 1 _ rfl rfl k1.out k2.out (by decide) k3.out k4.out k5.out _ rfl ?_; intro g3 c3 w8 hown2 hgrow2 hat2 hlt2; have HL := Lib.hid (lowApp H8.out hown2 hgrow2 hat2); clear hown2 hgrow2 hat2 hlt2)
      refine (lowReset HL.out).mono ?_
      rintro e w9 ⟨rfl, h9⟩
      have H9 := Lib.hid h9
      clear h9 HL H8 H6 k0 k1 k5
      go_wp2_with fail
      go_ret
      obtain ⟨v, a1, a2, a3, a4, a5, a6, a7, a8⟩ := H9.out
      have e : xs ++ [pieceB ⟨U.toArray⟩] = splitB s := by
        have h1 := G1.out
        rw [dropB_end, splitL_end] at h1
        exact h1
      rw [e] at a3
      exact ⟨_, rfl, a3, a8⟩
    · have hql : q < s.size := by omega
      clear hend
      have hc4 := Peek0_yes (w.heap.size + 1) s q _ HT4.out.cur hql hsm
      have HX := Lib.hid (dropB_cons s q hql)
      have HCO := Lib.hid (fun (w1 : World) (h1 : Cur w1 (w.heap.size + 1) s q) (h2 : s[q] = 34) => collect_gives (w.heap.size + 1) s q w1 h1 hql h2 hs)
      have HN := Lib.hid (fun (w1 : World) (h1 : Cur w1 (w.heap.size + 1) s q) => Next_gives (w.heap.size + 1) s q w1 h1 hql hsm)
      have hb := HD4.out hql
      have hks := readL_le (dropB s (q + 1))
      have hdl : (dropB s (q + 1)).length = s.size - (q + 1) := by unfold dropB; rw [List.length_drop, Lib.size_eq]
      have HAL : Hid (s[q] = 34 → (s.extract q (q + 1 + (readL (dropB s (q + 1))).2)).data.toList = 34 :: (dropB s (q + 1)).take (readL (dropB s (q + 1))).2 ∧ (dropB s (q + 1)).drop (readL (dropB s (q + 1))).2 = dropB s (q + 1 + (readL (dropB s (q + 1))).2)) := Lib.hid (by
        intro h34
        constructor
        · have e := dropB_cons s q hql
          rw [h34] at e
          rw [ByteArray.data_extract, Array.toList_extract, List.extract_eq_take_drop]
          show List.take _ (dropB s q) = _
          rw [e, show q + 1 + (readL (dropB s (q + 1))).2 - q = (readL (dropB s (q + 1))).2 + 1 by omega, List.take_succ_cons]
        · unfold dropB
          rw [List.drop_drop])
      have hkq : q + 1 + (readL (dropB s (q + 1))).2 ≤ s.size := by omega
      generalize hk : (readL (dropB s (q + 1))).2 = k at *
      generalize (readL (dropB s (q + 1))).1 = tk at *
      have HK := Lib.hid hk
      clear hks hdl hk
      refine Calls.mono hc4 ?_
      rintro e w5 ⟨rfl, hm5⟩
      have HT5 := Lib.hid (HT4.out.moved hm5)
      clear hm5 HT4 hc4
      have hb34 : ((34 : UInt8).toNat : Int) = 34 := rfl
      have hb44 : ((44 : UInt8).toNat : Int) = 44 := rfl
      rcases hb with hb | hb
      · rw [hb, hb34]
        have HB := Lib.hid hb
        clear hb HN k2 k3 k4 HPZ
        go_wp2_with fail
        have hc6 := HCO.out _ HT5.out.cur HB.out
        refine Calls.mono hc6 ?_
        rintro e w6 ⟨rfl, hm6⟩
        have HT6 := Lib.hid (HT5.out.moved hm6)
        clear hm6 HT5 HCO hc6
        have hxz : (s.extract q (q + 1 + k)).size ≤ 10000000 := by rw [extract_size]; omega
        have HXL := Lib.hid (ext_length s q (q + 1 + k) hkq)
        go_wp2_with fail
        refine (splStr HT6.out (s.extract q (q + 1 + k)) (by omega) hxz).mono ?_
        rintro e w7 ⟨rfl, ht7⟩
        have HT7 := Lib.hid ht7
        clear ht7 HT6
        go_wp2_with fail
        go_roundw
        case rel =>
          refine ⟨q + 1 + k, _, xs, hkq, ?_, by omega, ?_, HT7.out⟩
          · rw [List.length_append, HXL.out]; omega
          · have h1 := G1.out
            have e := HAL.out HB.out
            rw [HX.out, HB.out, splitL_quote, HK.out, e.2] at h1
            rw [e.1]
            exact h1
        case measure => rw [HT7.out.cur.at_, hcur0.out]; omega
      · rw [hb, hb44]
        have HB := Lib.hid hb
        rw [hb, hb44] at HN
        clear hb HCO HAL
        go_wp2_with fail
        refine (splString HT5.out).mono ?_
        rintro e w6 ⟨rfl, h6⟩
        have H6 := Lib.hid h6
        clear h6 HT5
        go_wp2_with fail
        refine (trim_any ⟨U.toArray⟩ _ HPZ.out).mono ?_
        rintro e w7 ⟨rfl, h7⟩
        have hl7 := H6.out.below h7
        have hl8 := hl7.below (below_box w7 (.cells #[.string (pieceB ⟨U.toArray⟩)] 9))
        have H8 := Lib.hid hl8
        have k0 := Lib.hid (Low.row hl8)
        have k1 := Lib.hid (cell_one_new w7 (.string (pieceB ⟨U.toArray⟩)) 9)
        have k5 := Lib.hid (show w.heap.size ≤ (w7.alloc (.cells #[.string (pieceB ⟨U.toArray⟩)] 9)).heap.size from hl8.size)
        clear h7 hl7 hl8
        go_wp2_with (at_builtin; refine wpList_append_lies _ rfl (.tmp 32) (.tmp 35) 69 rfl w.heap.size 9 i0 (.string ByteArray.empty) 1 16 Try.underlying69 HI.out HZ0.out HZ1.out HZ2.out rfl (by decide) _ _ _ rfl k0.out ⟨w7.heap.size, 0, none⟩ 1 1 _ rfl rfl k1.out k2.out (by decide) k3.out k4.out k5.out _ rfl ?_; intro g3 c3 w8 hown2 hgrow2 hat2 hlt2; have HL := Lib.hid (lowApp H8.out hown2 hgrow2 hat2); clear hown2 hgrow2 hat2 hlt2)
        refine (lowReset HL.out).mono ?_
        rintro e w9 ⟨rfl, h9⟩
        have H9 := Lib.hid h9
        clear h9 HL H8 H6 k0 k1 k5
        go_wp2_with fail
        have hc10 := HN.out _ H9.out.cur
        refine Calls.mono hc10 ?_
        rintro e w10 ⟨rfl, hm10⟩
        have HT10 := Lib.hid (H9.out.moved hm10)
        clear hm10 hc10 H9
        go_wp2_with fail
        go_roundw
        case rel =>
          refine ⟨q + 1, [], _, by omega, by simp, ?_, ?_, HT10.out⟩
          · rw [List.length_append]; simp; omega
          · have h1 := G1.out
            rw [HX.out, HB.out, splitL_comma] at h1
            rw [List.append_assoc]
            exact h1
        case measure => rw [HT10.out.cur.at_, hcur0.out]; omega

end Go.Proofs.Ytigclegknofhmaa
