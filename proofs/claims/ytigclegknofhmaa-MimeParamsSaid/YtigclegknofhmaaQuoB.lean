/-
  Walks of package quoted: what is taken between quotes.
-/
import Derived.Test.YtigclegknofhmaaQuoA
import Derived.Deep.DeepCutAuto
namespace Go.Proofs.Ytigclegknofhmaa
open Go.RowKit
set_option linter.unusedSimpArgs false
set_option linter.unusedVariables false

theorem ext_join (s : ByteArray) (k m n : Nat) (h1 : k ≤ m) (h2 : m ≤ n) (h3 : n ≤ s.size) : (s.extract k m).data.toList ++ (s.extract m n).data.toList = (s.extract k n).data.toList := by
  have hl : n ≤ s.data.toList.length := by rw [← Lib.size_eq]; exact h3
  simp only [ByteArray.data_extract, Array.toList_extract, List.extract_eq_take_drop]
  generalize s.data.toList = l at *
  have e : (l.drop k).take (n - k) = (l.drop k).take (m - k) ++ ((l.drop k).drop (m - k)).take (n - m) := by
    rw [show n - k = (m - k) + (n - m) by omega, List.take_add]
  rw [e, List.drop_drop, show k + (m - k) = m by omega]

theorem ext_snoc (s : ByteArray) (k m : Nat) (h1 : k ≤ m) (h2 : m < s.size) : (s.extract k m).data.toList ++ [s[m]] = (s.extract k (m + 1)).data.toList := by
  rw [← ext_join s k m (m + 1) h1 (by omega) (by omega)]
  congr 1
  have hl : m < s.data.toList.length := by rw [← Lib.size_eq]; exact h2
  simp only [ByteArray.data_extract, Array.toList_extract, List.extract_eq_take_drop]
  rw [show m + 1 - m = 1 by omega, List.drop_eq_getElem_cons hl]
  simp
  rfl

theorem ext_length (s : ByteArray) (k m : Nat) (h2 : m ≤ s.size) : (s.extract k m).data.toList.length = m - k := by
  rw [← Lib.size_eq, extract_size]; omega

theorem Peek0_yes (g : Nat) (s : ByteArray) (k : Nat) (w : World) (h : Cur w g s k) (hi : k < s.size) (hs : s.size ≤ maxLen) :
    Calls Try.prog 76 #[.pointer (some ⟨g, 0, none⟩), .int .i64 0] w fun e w' => e = .returned (.tuple #[.int .u8 (s[k].toNat : Int), .bool true]) ∧ Moved g s k w w' :=
  (Peek_yes g s k 0 w h hi hs).mono fun e w' ⟨he, hd⟩ => ⟨he, moved_drew h hd⟩

theorem Peek0_no (g : Nat) (s : ByteArray) (w : World) (h : Cur w g s s.size) (hs : s.size ≤ maxLen) :
    Calls Try.prog 76 #[.pointer (some ⟨g, 0, none⟩), .int .i64 0] w fun e w' => e = .returned (.tuple #[.int .u8 0, .bool false]) ∧ Moved g s s.size w w' :=
  (Peek_no g s s.size 0 w h (Nat.le_refl _) (.inr (by omega)) hs).mono fun e w' ⟨he, hd⟩ => ⟨he, moved_drew h hd⟩

theorem toArr (s : ByteArray) (k m : Nat) : (⟨(s.extract k m).data.toList.toArray⟩ : ByteArray) = s.extract k m := by
  show (⟨(s.extract k m).data.toList.toArray⟩ : ByteArray) = ⟨(s.extract k m).data⟩
  rw [Array.toArray_toList]

/-- Where a cursor is, read off the world. -/
def curAt (w : World) (g : Nat) : Nat := match w.cell? ⟨g, 1, none⟩ with | some v => (intOf v).toNat | none => 0

theorem Cur.at_ {w : World} {g : Nat} {s : ByteArray} {m : Nat} (h : Cur w g s m) : curAt w g = m := by
  unfold curAt
  rw [h.gone]
  simp [intOf]

theorem prefB_quote (s : ByteArray) (k : Nat) (h : k < s.size) : prefB (restB s k) ⟨#[34]⟩ = (s[k] == 34) := by
  have hr : (restB s k).data.toList = s[k] :: dropB s (k + 1) := by
    rw [← dropB_cons s k h]
    unfold dropB restB
    rw [ByteArray.data_extract, Array.toList_extract, List.extract_eq_take_drop, List.take_of_length_le (by rw [List.length_drop, ← Lib.size_eq]; omega)]
  unfold prefB Lib.hasPrefix
  rw [hr]
  show [34].isPrefixOf _ = _
  simp only [List.isPrefixOf, Bool.and_true]
  exact Bool.eq_iff_iff.2 ⟨fun h => by simp at h ⊢; exact h.symm, fun h => by simp at h ⊢; exact h.symm⟩

/-- What holds at the head of a round. -/
def Coll (w : World) (g : Nat) (s : ByteArray) (k bo bg : Nat) (wr : World) : Prop :=
  ∃ (m : Nat) (T : List UInt8), k + 1 ≤ m ∧ m ≤ s.size ∧ T ++ (readL (dropB s m)).1 = (readL (dropB s (k + 1))).1 ∧ m + (readL (dropB s m)).2 = k + 1 + (readL (dropB s (k + 1))).2 ∧ T.length ≤ m ∧ Two w g s bo bg m T (s.extract k m).data.toList wr

set_option maxHeartbeats 4000000 in
set_option maxRecDepth 100000 in
theorem collect_gives (g : Nat) (s : ByteArray) (k : Nat) (w : World) (h : Cur w g s k) (hk : k < s.size) (hq : s[k] = 34) (hs : s.size ≤ 100000) :
    Calls Try.prog 72 #[.pointer (some ⟨g, 0, none⟩)] w fun e w' => e = .returned (.tuple #[.string ⟨(readL (dropB s (k + 1))).1.toArray⟩, .string (s.extract k (k + 1 + (readL (dropB s (k + 1))).2))]) ∧ Moved g s (k + 1 + (readL (dropB s (k + 1))).2) w w' := by
  have hsm : s.size ≤ maxLen := by unfold maxLen; omega
  have HT0 := Lib.hid (Two.start h)
  have HSK : Hid (∀ (w1 : World), Cur w1 g s k → Calls Try.prog 59 #[.pointer (some ⟨g, 0, none⟩), .string ⟨#[34]⟩] w1 fun e w' => e = .returned (.bool true) ∧ Moved g s (k + 1) w1 w') :=
    Lib.hid (fun w1 h1 => Skip_yes ⟨#[34]⟩ g s k w1 h1 (by omega) hsm (by rw [prefB_quote s k hk, hq]; rfl))
  have HA := Lib.hid (fun (w1 : World) (h1 : Cur w1 g s (k + 1)) => At_any g s (k + 1) w1 h1)
  have HQ := Lib.hid hq
  clear hq h
  go_enter Try.func72, Try.ntmps72
  go_upto_region 2 with fail
  generalize hW : (w.alloc (.cells #[.pointer none, .slice none 0 0] 73)).alloc (.cells #[.pointer none, .slice none 0 0] 73) = W at *
  clear hW
  generalize hR : readL (dropB s (k + 1)) = R at *
  have HR := Lib.hid hR
  clear hR
  obtain ⟨bo, hbo⟩ : ∃ bo, w.heap.size = bo := ⟨_, rfl⟩
  have HBO := Lib.hid hbo
  obtain ⟨bg, hbg⟩ : ∃ bg, bo + 1 = bg := ⟨_, rfl⟩
  rw [hbo] at HT0 ⊢
  rw [hbg] at HT0 ⊢
  clear hbo hbg
  go_wp2_with fail
  refine (HSK.out _ HT0.out.cur).mono ?_
  rintro e w1 ⟨rfl, hm1⟩
  have HT1 := Lib.hid (HT0.out.moved hm1)
  clear hm1 HT0
  go_wp2_with (first | (go_at_call 15; refine (HA.out _ HT1.out.cur).mono ?_; rintro e w' ⟨rfl, rfl⟩) | (go_at_call 98; (with_reducible refine (Check_yes _ _ _).mono ?_); rintro e w' ⟨rfl, rfl⟩))
  refine (goneByte HT1.out 34 (by simp)).mono ?_
  rintro e w2 ⟨rfl, ht2⟩
  have HT2 := Lib.hid ht2
  clear ht2 HT1
  have HSTART : Hid (Coll w g s k bo bg w2) := Lib.hid ⟨k + 1, [], Nat.le_refl _, by omega, by rw [HR.out]; rfl, by rw [HR.out], by simp, by
    have e : (s.extract k (k + 1)).data.toList = [34] := by
      rw [← ext_snoc s k k (Nat.le_refl _) hk, HQ.out]
      simp
    rw [e]; exact HT2.out⟩
  clear HT2
  go_wp2_with fail
  go_loopw [6] (fun _ wr => Coll w g s k bo bg wr) (fun _ wr => s.size - curAt wr g)
  case atStart => exact HSTART.out
  case round =>
    clear HSTART
    obtain ⟨m, T, hkm, hms, hr1, hr2, hTm, ht⟩ := hrel
    have HT := Lib.hid ht
    have H1 := Lib.hid hr1
    have H2 := Lib.hid hr2
    have hcur0 := Lib.hid ht.cur.at_
    obtain ⟨n, hn⟩ : ∃ n, n = spanN (goesOn quoStops) (restB s m).data.toList := ⟨_, rfl⟩
    obtain ⟨d1, d2, d3, d4⟩ := dropB_span s m hms n hn
    have HU : Hid (∀ (w1 : World), Cur w1 g s m → Calls Try.prog 58 #[.pointer (some ⟨g, 0, none⟩), .string ⟨#[34, 92]⟩] w1 fun e w' => e = .returned (.string (s.extract m (m + n))) ∧ Moved g s (m + n) w1 w') :=
      Lib.hid (fun w1 h1 => by have := Until_gives quoStops g s m w1 h1 hms hsm; rw [← hn] at this; exact this)
    have HSP := Lib.hid (readL_span _ (dropB s (m + n)) d3)
    have HD2 := Lib.hid d2
    have HD4 := Lib.hid d4
    have HLX := Lib.hid (ext_length s m (m + n) d1)
    have HLG := Lib.hid (ext_length s k m hms)
    clear ht hr1 hr2 hn d2 d3 d4
    go_wp2_with fail
    refine (HU.out _ HT.out.cur).mono ?_
    rintro e w3 ⟨rfl, hm3⟩
    have HT3 := Lib.hid (HT.out.moved hm3)
    clear hm3 HT HU
    have hxz : (s.extract m (m + n)).size ≤ 10000000 := by rw [Lib.size_eq, HLX.out]; omega
    go_wp2_with fail
    refine (outStr HT3.out (s.extract m (m + n)) (by omega) hxz).mono ?_
    rintro e w4 ⟨rfl, ht4⟩
    have HT4 := Lib.hid ht4
    clear ht4 HT3
    go_wp2_with fail
    refine (goneStr HT4.out (s.extract m (m + n)) (by rw [HLG.out]; omega) hxz).mono ?_
    rintro e w5 ⟨rfl, ht5⟩
    rw [ext_join s k m (m + n) (by omega) (by omega) d1] at ht5
    have HT5 := Lib.hid ht5
    clear ht5 HT4
    obtain ⟨q, hq⟩ : ∃ q, m + n = q := ⟨_, rfl⟩
    obtain ⟨U, hU⟩ : ∃ U, T ++ (s.extract m (m + n)).data.toList = U := ⟨_, rfl⟩
    have hUl : U.length ≤ q := by rw [← hU, List.length_append, HLX.out]; omega
    have hqR : U ++ (readL (dropB s q)).1 = R.1 ∧ q + (readL (dropB s q)).2 = k + 1 + R.2 := by
      have h1 := H1.out
      have h2 := H2.out
      rw [HD2.out, HSP.out, HR.out] at h1 h2
      dsimp only at h1 h2
      rw [← hU, ← hq, List.append_assoc]
      refine ⟨h1, ?_⟩
      rw [HLX.out] at h2
      omega
    rw [hU, hq] at HT5
    rw [hq] at HD4 d1
    obtain ⟨g1, g2⟩ := hqR
    have G1 := Lib.hid g1
    have G2 := Lib.hid g2
    have hkq : k + 1 ≤ q := by omega
    have hmq : m ≤ q := by omega
    clear hU g1 g2 H1 H2 HD2 HSP HLX HLG hxz hTm
    go_wp2_with fail
    by_cases hend : q = s.size
    · subst hend
      refine (Peek0_no g s _ HT5.out.cur hsm).mono ?_
      rintro e w6 ⟨rfl, hm6⟩
      have HT6 := Lib.hid (HT5.out.moved hm6)
      have HE : Hid (U = R.1 ∧ s.size = k + 1 + R.2) := Lib.hid (by
        have a := G1.out
        have b := G2.out
        rw [dropB_end] at a b
        simp [readL] at a b
        exact ⟨a, b⟩)
      clear hm6 HT5 G1 G2
      go_wp2_with fail
      refine (outString HT6.out).mono ?_
      rintro e w7 ⟨rfl, h7⟩
      have H7 := Lib.hid h7
      clear h7
      go_wp2_with fail
      refine (oneString H7.out).mono ?_
      rintro e w8 ⟨rfl, h8⟩
      rw [toArr]
      have H8 := Lib.hid h8
      clear h8
      go_wp2_with fail
      go_ret2
      rw [HR.out, ← HE.out.1, ← HE.out.2]
      exact ⟨rfl, H8.out⟩
    · have hql : q < s.size := by omega
      clear hend
      refine (Peek0_yes g s q _ HT5.out.cur hql hsm).mono ?_
      rintro e w6 ⟨rfl, hm6⟩
      have HT6 := Lib.hid (HT5.out.moved hm6)
      clear hm6 HT5
      have HX := Lib.hid (dropB_cons s q hql)
      have HES := Lib.hid (ext_snoc s k q (by omega) hql)
      have HEL := Lib.hid (ext_length s k q (by omega))
      have HN := Lib.hid (fun (w1 : World) (h1 : Cur w1 g s q) => Next_gives g s q w1 h1 hql hsm)
      have hb := HD4.out hql
      generalize s[q] = b at *
      have hb34 : ((34 : UInt8).toNat : Int) = 34 := rfl
      have hb92 : ((92 : UInt8).toNat : Int) = 92 := rfl
      rcases hb with rfl | rfl
      · rw [hb34] at HN ⊢
        go_wp2_with fail
        refine (HN.out _ HT6.out.cur).mono ?_
        rintro e w7 ⟨rfl, hm7⟩
        have HT7 := Lib.hid (HT6.out.moved hm7)
        clear hm7 HT6
        go_wp2_with fail
        refine (goneByte HT7.out 34 (by rw [HEL.out]; omega)).mono ?_
        rintro e w8 ⟨rfl, ht8⟩
        rw [HES.out] at ht8
        have HT8 := Lib.hid ht8
        have HE : Hid (U = R.1 ∧ q + 1 = k + 1 + R.2) := Lib.hid (by
          have a := G1.out
          have b := G2.out
          rw [HX.out, readL_quote] at a b
          simp at a b
          exact ⟨a, b⟩)
        clear ht8 HT7 G1 G2
        go_wp2_with fail
        refine (outString HT8.out).mono ?_
        rintro e w9 ⟨rfl, h7⟩
        have H7 := Lib.hid h7
        clear h7
        go_wp2_with fail
        refine (oneString H7.out).mono ?_
        rintro e w10 ⟨rfl, h8⟩
        rw [toArr]
        have H8 := Lib.hid h8
        clear h8
        go_wp2_with fail
        go_ret2
        rw [HR.out, ← HE.out.1, ← HE.out.2]
        exact ⟨rfl, H8.out⟩
      · rw [hb92] at HN ⊢
        go_wp2_with fail
        refine (HN.out _ HT6.out.cur).mono ?_
        rintro e w7 ⟨rfl, hm7⟩
        have HT7 := Lib.hid (HT6.out.moved hm7)
        clear hm7 HT6
        go_wp2_with fail
        refine (goneByte HT7.out 92 (by rw [HEL.out]; omega)).mono ?_
        rintro e w8 ⟨rfl, ht8⟩
        rw [HES.out] at ht8
        have HT8 := Lib.hid ht8
        clear ht8 HT7
        go_wp2_with fail
        by_cases hend : q + 1 = s.size
        · rw [hend] at HT8
          refine (Peek0_no g s _ HT8.out.cur hsm).mono ?_
          rintro e w9 ⟨rfl, hm9⟩
          have HT9 := Lib.hid (HT8.out.moved hm9)
          have HE : Hid ((U ++ [92]) ++ (readL (dropB s s.size)).1 = R.1 ∧ s.size + (readL (dropB s s.size)).2 = k + 1 + R.2) := Lib.hid (by
            have a := G1.out
            have b := G2.out
            rw [HX.out, hend, dropB_end, readL_slash_end] at a b
            rw [dropB_end]
            simp [readL] at a b ⊢
            exact ⟨a, by omega⟩)
          clear hm9 HT8 G1 G2
          go_wp2_with fail
          refine (outByte HT9.out 92 (by omega)).mono ?_
          rintro e w10 ⟨rfl, ht10⟩
          have HT10 := Lib.hid ht10
          clear ht10
          go_wp2_with fail
          go_roundw
          case rel => exact ⟨s.size, U ++ [92], by omega, Nat.le_refl _, by rw [HR.out]; exact HE.out.1, by rw [HR.out]; exact HE.out.2, by simp; omega, HT10.out⟩
          case measure => rw [HT10.out.cur.at_, hcur0.out]; omega
        · have hq2 : q + 1 < s.size := by omega
          clear hend
          refine (Peek0_yes g s (q + 1) _ HT8.out.cur hq2 hsm).mono ?_
          rintro e w9 ⟨rfl, hm9⟩
          have HT9 := Lib.hid (HT8.out.moved hm9)
          have HX2 := Lib.hid (dropB_cons s (q + 1) hq2)
          have HES2 := Lib.hid (ext_snoc s k (q + 1) (by omega) hq2)
          have HEL2 := Lib.hid (ext_length s k (q + 1) (by omega))
          have HN2 := Lib.hid (fun (w1 : World) (h1 : Cur w1 g s (q + 1)) => Next_gives g s (q + 1) w1 h1 hq2 hsm)
          generalize s[q + 1] = c at *
          have HE : Hid ((U ++ [c]) ++ (readL (dropB s (q + 1 + 1))).1 = R.1 ∧ (q + 1 + 1) + (readL (dropB s (q + 1 + 1))).2 = k + 1 + R.2) := Lib.hid (by
            have a := G1.out
            have b := G2.out
            rw [HX.out, HX2.out, readL_slash] at a b
            simp at a b ⊢
            exact ⟨a, by omega⟩)
          clear hm9 HT8 G1 G2
          go_wp2_with fail
          refine (HN2.out _ HT9.out.cur).mono ?_
          rintro e w10 ⟨rfl, hm10⟩
          have HT10 := Lib.hid (HT9.out.moved hm10)
          clear hm10 HT9
          go_wp2_with fail
          refine (outByte HT10.out c (by omega)).mono ?_
          rintro e w11 ⟨rfl, ht11⟩
          have HT11 := Lib.hid ht11
          clear ht11 HT10
          go_wp2_with fail
          refine (goneByte HT11.out c (by rw [HEL2.out]; omega)).mono ?_
          rintro e w12 ⟨rfl, ht12⟩
          rw [HES2.out] at ht12
          have HT12 := Lib.hid ht12
          clear ht12 HT11
          go_wp2_with fail
          go_roundw
          case rel => exact ⟨q + 1 + 1, U ++ [c], by omega, by omega, by rw [HR.out]; exact HE.out.1, by rw [HR.out]; exact HE.out.2, by simp; omega, HT12.out⟩
          case measure => rw [HT12.out.cur.at_, hcur0.out]; omega

theorem collect_throws (g : Nat) (s : ByteArray) (k : Nat) (w : World) (h : Cur w g s k) (hk : k ≤ s.size) (hq : ∀ (hlt : k < s.size), s[k] ≠ 34) (hs : s.size ≤ 100000) :
    Calls Try.prog 72 #[.pointer (some ⟨g, 0, none⟩)] w fun e w' => e = .panicked [{ v := faultV k 2, recovered := false }] ∧ Moved g s k w w' := by
  have hsm : s.size ≤ maxLen := by unfold maxLen; omega
  have hp : prefB (restB s k) ⟨#[34]⟩ = false := by
    by_cases hlt : k < s.size
    · rw [prefB_quote s k hlt]
      rw [beq_eq_false_iff_ne]
      exact hq hlt
    · cases hx : prefB (restB s k) ⟨#[34]⟩
      · rfl
      · have := prefB_size hx
        rw [restB_size s k hk] at this
        have e : (⟨#[34]⟩ : ByteArray).size = 1 := rfl
        omega
  have HT0 := Lib.hid (Two.start h)
  have HSK := Lib.hid (fun (w1 : World) (h1 : Cur w1 g s k) => Skip_no ⟨#[34]⟩ g s k w1 h1 hk hsm hp)
  have HA := Lib.hid (fun (w1 : World) (h1 : Cur w1 g s k) => At_any g s k w1 h1)
  have H2 : Hid (thrownCode 2 = 2) := Lib.hid rfl
  clear hq h hp
  go_enter Try.func72, Try.ntmps72
  go_upto_region 2 with fail
  generalize hW : (w.alloc (.cells #[.pointer none, .slice none 0 0] 73)).alloc (.cells #[.pointer none, .slice none 0 0] 73) = W at *
  clear hW
  go_wp2_with fail
  refine (HSK.out _ HT0.out.cur).mono ?_
  rintro e w1 ⟨rfl, hm1⟩
  have HT1 := Lib.hid (HT0.out.moved hm1)
  clear hm1 HT0
  go_wp2_with (first | (go_at_call 15; refine (HA.out _ HT1.out.cur).mono ?_; rintro e w' ⟨rfl, rfl⟩) | (go_at_call 98; (with_reducible refine (Check_no _ _ _).mono ?_); rintro e w' ⟨rfl, rfl⟩; rw [H2.out]))
  obtain ⟨vo, vg, h1, _, _, _, _, _, h7, _⟩ := HT1.out
  exact ⟨rfl, rfl, h1, h7⟩

/-- What is handed on of what is taken. -/
def takenB (s : ByteArray) (k : Nat) (x : Bool) : ByteArray := if x then ⟨(readL (dropB s (k + 1))).1.toArray⟩ else s.extract k (k + 1 + (readL (dropB s (k + 1))).2)

theorem Collect_gives (g : Nat) (s : ByteArray) (k : Nat) (x : Bool) (w : World) (h : Cur w g s k) (hk : k < s.size) (hq : s[k] = 34) (hs : s.size ≤ 100000) :
    Calls Try.prog 37 #[.pointer (some ⟨g, 0, none⟩), .bool x] w fun e w' => e = .returned (.string (takenB s k x)) ∧ Moved g s (k + 1 + (readL (dropB s (k + 1))).2) w w' := by
  have C := Lib.hid (collect_gives g s k w h hk hq hs)
  unfold takenB
  generalize readL (dropB s (k + 1)) = R at *
  clear h
  cases x
  all_goals
    go_enter Try.func37, Try.ntmps37
    go_wp2_with fail
    refine C.out.mono ?_
    rintro e w1 ⟨rfl, hm⟩
    have HM := Lib.hid hm
    clear hm
    go_wp2_with fail
    go_ret
    exact ⟨by first | rfl | simp, HM.out⟩

theorem Collect_throws (g : Nat) (s : ByteArray) (k : Nat) (x : Bool) (w : World) (h : Cur w g s k) (hk : k ≤ s.size) (hq : ∀ (hlt : k < s.size), s[k] ≠ 34) (hs : s.size ≤ 100000) :
    Calls Try.prog 37 #[.pointer (some ⟨g, 0, none⟩), .bool x] w fun e w' => e = .panicked [{ v := faultV k 2, recovered := false }] ∧ Moved g s k w w' := by
  have C := Lib.hid (collect_throws g s k w h hk hq hs)
  clear h
  go_enter Try.func37, Try.ntmps37
  go_wp2_with (go_at_call 72; refine C.out.mono ?_; rintro e w1 ⟨rfl, hm⟩)
  exact ⟨rfl, rfl, hm⟩

end Go.Proofs.Ytigclegknofhmaa
