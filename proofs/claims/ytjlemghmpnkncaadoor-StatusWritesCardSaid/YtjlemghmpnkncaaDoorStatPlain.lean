/-
  The plain law of package status: what Line reads is what the reference reads.
-/
import Derived.Test.YtjlemghmpnkncaaDoorStatL
import Derived.Test.YtjlemghmpnkncaaDoorStatF3
namespace Go.Proofs.YtjlemghmpnkncaaDoor
open Go.RowKit
set_option linter.unusedSimpArgs false
set_option linter.unusedVariables false

theorem pref_list (T : ByteArray) (k : Nat) (p : ByteArray) : prefB (restB T k) p = p.data.toList.isPrefixOf (T.data.toList.drop k) := by
  unfold prefB Lib.hasPrefix
  rw [rest_list]

theorem pref_oneD (T : ByteArray) (k : Nat) (b : UInt8) : prefB (restB T k) ⟨#[b]⟩ = true ↔ k < T.size ∧ T.data.toList.getD k 0 = b := by
  rw [pref_list]
  by_cases h : k < T.size
  · rw [List.drop_eq_getElem_cons (by rw [← Lib.size_eq]; exact h), getD_byte T k h, ← getElem_data T k h]
    simp [List.isPrefixOf, h]
    exact ⟨fun e => e.symm, fun e => e.symm⟩
  · rw [List.drop_of_length_le (by rw [← Lib.size_eq]; omega)]
    simp [List.isPrefixOf, h]

theorem dig_oneD (T : ByteArray) (k : Nat) (h : k < T.size) : digB T k 1 = isDigit (T.data.toList.getD k 0) ∧ numB T k 1 = (T.data.toList.getD k 0).toNat - 48 := by
  unfold digB numB
  rw [Lib.extract_data, List.drop_eq_getElem_cons (by rw [← Lib.size_eq]; exact h), getD_byte T k h, ← getElem_data T k h, show k + 1 - k = 1 by omega]
  simp [valL, valFrom]

theorem dig_threeD (T : ByteArray) (k : Nat) (x y z : UInt8) (l : List UInt8) (h : T.data.toList.drop k = x :: y :: z :: l) :
    digB T k 3 = (isDigit x && isDigit y && isDigit z) ∧ numB T k 3 = 10 * (10 * (x.toNat - 48) + (y.toNat - 48)) + (z.toNat - 48) := by
  unfold digB numB
  rw [Lib.extract_data, h, show k + 3 - k = 3 by omega]
  simp [valL, valFrom, Bool.and_assoc]

theorem run_three (x y z : UInt8) (l : List UInt8) : (runL (x :: y :: z :: l) < 3) ↔ (isDigit x && isDigit y && isDigit z) = false := by
  unfold runL
  cases hx : isDigit x <;> cases hy : isDigit y <;> cases hz : isDigit z <;> simp [List.takeWhile_cons, hx, hy, hz]

theorem drop_spc (T : ByteArray) (k : Nat) : T.data.toList.drop (k + spcN T k) = (T.data.toList.drop k).dropWhile (fun b => b == 32) := by
  unfold spcN spanN
  rw [rest_list, ← List.drop_drop]
  have e2 := List.takeWhile_append_dropWhile (p := fun b : UInt8 => b == 32) (l := T.data.toList.drop k)
  have e3 : (T.data.toList.drop k).drop ((T.data.toList.drop k).takeWhile (fun b => b == 32)).length = ((T.data.toList.drop k).takeWhile (fun b => b == 32) ++ (T.data.toList.drop k).dropWhile (fun b => b == 32)).drop ((T.data.toList.drop k).takeWhile (fun b => b == 32)).length := by rw [e2]
  rw [e3, List.drop_left]

theorem drop_tab (T : ByteArray) (k : Nat) : T.data.toList.drop (k + tabN T k) = (T.data.toList.drop k).dropWhile isTab := by
  unfold tabN spanN
  rw [rest_list, ← List.drop_drop]
  have e2 := List.takeWhile_append_dropWhile (p := isTab) (l := T.data.toList.drop k)
  have e3 : (T.data.toList.drop k).drop ((T.data.toList.drop k).takeWhile isTab).length = ((T.data.toList.drop k).takeWhile isTab ++ (T.data.toList.drop k).dropWhile isTab).drop ((T.data.toList.drop k).takeWhile isTab).length := by rw [e2]
  rw [e3, List.drop_left]

/-- A text without a tab or blank at its end. -/
def NoEnd (l : List UInt8) : Prop := ∀ y, l.getLast? = some y → isTab y = false

theorem noEnd_trim (l : List UInt8) : NoEnd (trimEnd isTab l) := by
  have H : ∀ n (l : List UInt8), l.length ≤ n → NoEnd (trimEnd isTab l) := by
    intro n
    induction n with
    | zero =>
      intro l h
      obtain rfl : l = [] := List.eq_nil_of_length_eq_zero (by omega)
      intro y hy
      simp [trimEnd_nil] at hy
    | succ n ih =>
      intro l h
      rcases List.eq_nil_or_concat l with rfl | ⟨l2, y, rfl⟩
      · intro y hy
        simp [trimEnd_nil] at hy
      · rw [List.concat_eq_append] at h ⊢
        rw [trimEnd_snoc]
        cases hy : isTab y
        · intro z hz
          simp at hz
          rw [← hz]
          exact hy
        · simp only [if_true]
          exact ih l2 (by simp at h; omega)
  exact H l.length l (Nat.le_refl _)

theorem noEnd_drop {l : List UInt8} (h : NoEnd l) (n : Nat) : NoEnd (l.drop n) := by
  intro y hy
  refine h y ?_
  rw [List.getLast?_drop] at hy
  split at hy
  · cases hy
  · exact hy

theorem reason_trim (l : List UInt8) (h : NoEnd l) : reasonB ⟨(l.dropWhile isTab).toArray⟩ = quoL (l.dropWhile isTab) := by
  have h2 : NoEnd (l.dropWhile isTab) := by
    have e2 := List.takeWhile_append_dropWhile (p := isTab) (l := l)
    have e3 : l.dropWhile isTab = l.drop (l.takeWhile isTab).length := by
      have e4 : l.drop (l.takeWhile isTab).length = (l.takeWhile isTab ++ l.dropWhile isTab).drop (l.takeWhile isTab).length := by rw [e2]
      rw [e4, List.drop_left]
    rw [e3]
    exact noEnd_drop h _
  have h3 : ∀ y, (l.dropWhile isTab).head? = some y → isTab y = false := by
    intro y hy
    have := List.head?_dropWhile_not isTab l
    rw [hy] at this
    simpa using this
  generalize l.dropWhile isTab = r at *
  unfold reasonB
  have hq : (⟨r.toArray⟩ : ByteArray).data.toList = r := by simp
  rw [hq]
  by_cases hr : 0 < (⟨r.toArray⟩ : ByteArray).size
  · rw [dif_pos hr]
    have hr2 : 0 < r.length := by rw [Lib.size_eq, hq] at hr; exact hr
    have a : isTab (⟨r.toArray⟩ : ByteArray)[0] = false := by
      rw [getElem_data _ 0 hr]
      exact h3 _ (by simp [List.head?_eq_getElem?])
    have b : isTab ((⟨r.toArray⟩ : ByteArray)[(⟨r.toArray⟩ : ByteArray).size - 1]'(by omega)) = false := by
      rw [getElem_data _ _ (by omega)]
      refine h2 _ ?_
      rw [List.getLast?_eq_getElem?]
      simp [Lib.size_eq]
    rw [a, b]
    rfl
  · rw [dif_neg hr, Bool.true_and]

theorem hund_pos (x y z : UInt8) (hx : isDigit x = true) (hy : isDigit y = true) (hz : isDigit z = true) :
    decide (0 < hundB ((10 * (10 * (x.toNat - 48) + (y.toNat - 48)) + (z.toNat - 48) : Nat) : Int)) = !(x == 48) := by
  have b1 := digit_bounds hx
  have b2 := digit_bounds hy
  have b3 := digit_bounds hz
  unfold hundB
  by_cases h : x = 48
  · subst h
    have e : ((48 : UInt8).toNat) = 48 := rfl
    rw [if_pos (by left; rw [e]; omega)]
    rfl
  · have h2 : x.toNat ≠ 48 := fun e => h (UInt8.toNat_inj.1 (by rw [e]; rfl))
    rw [if_neg (by omega), beq_eq_false_iff_ne.2 h]
    simp
    omega

theorem small_digit (x : UInt8) (hx : isDigit x = true) : smallI ((x.toNat - 48 : Nat) : Int) = true := by
  have b1 := digit_bounds hx
  unfold smallI
  rw [decide_eq_true (by omega), decide_eq_true (by omega)]
  rfl

theorem read_ref (T : ByteArray) (hT : NoEnd T.data.toList) :
    (∃ q, readR T = .inl q ∧ refR T = none) ∨ (∃ a b c r, readR T = .inr (a, b, c, r) ∧ refR T = some (a, b, c, r.data.toList)) := by
  by_cases hh : headOk T = true
  case neg =>
    refine .inl ?_
    have hn : refR T = none := by unfold refR; rw [if_neg hh]
    rw [hn]
    have : ∃ q, readR T = .inl q := by
      unfold readR
      by_cases h1 : prefB (restB T 0) headT = false
      · exact ⟨_, if_pos h1⟩
      rw [if_neg h1]
      by_cases h2 : T.size < 6
      · exact ⟨_, if_pos h2⟩
      rw [if_neg h2]
      by_cases h3 : digB T 5 1 = false
      · exact ⟨_, if_pos h3⟩
      rw [if_neg h3]
      by_cases h4 : prefB (restB T 6) dotT = false
      · exact ⟨_, if_pos h4⟩
      rw [if_neg h4]
      by_cases h5 : T.size < 8
      · exact ⟨_, if_pos h5⟩
      rw [if_neg h5]
      by_cases h6 : digB T 7 1 = false
      · exact ⟨_, if_pos h6⟩
      rw [if_neg h6]
      by_cases h7 : prefB (restB T 8) blankT = false
      · exact ⟨_, if_pos h7⟩
      rw [if_neg h7]
      by_cases h8 : T.size < 9 + spcN T 9 + 3
      · exact ⟨_, if_pos h8⟩
      rw [if_neg h8]
      exfalso
      apply hh
      rw [Bool.not_eq_false] at h1 h3 h4 h6 h7
      have q6 := (pref_oneD T 6 46).1 h4
      have q8 := (pref_oneD T 8 32).1 h7
      rw [(dig_oneD T 5 (by omega)).1] at h3
      rw [(dig_oneD T 7 (by omega)).1] at h6
      unfold headOk
      rw [show restB T 0 = T from extract_all T] at h1
      rw [h1, h3, h6, q6.2, q8.2, decide_eq_true (by omega)]
      rfl
    obtain ⟨q, hq⟩ := this
    exact ⟨q, hq, rfl⟩
  case pos =>
    have hpx := hh
    unfold headOk at hpx
    simp only [Bool.and_eq_true, decide_eq_true_eq, beq_iff_eq] at hpx
    obtain ⟨⟨⟨⟨⟨h1, h2⟩, h5⟩, h6⟩, h7⟩, h8⟩ := hpx
    have d5 := dig_oneD T 5 (by omega)
    have d7 := dig_oneD T 7 (by omega)
    rw [h5] at d5
    rw [h7] at d7
    have hD : (T.data.toList.drop 8).dropWhile (fun b => b == 32) = T.data.toList.drop (9 + spcN T 9) := by
      rw [drop_spc, List.drop_eq_getElem_cons (by rw [← Lib.size_eq]; omega), ← getElem_data T 8 (by omega), ← getD_byte T 8 (by omega), h8]
      rfl
    have e1 : readR T = (if T.size < 9 + spcN T 9 + 3 then .inl ((9 + spcN T 9 : Nat), 8)
        else if digB T (9 + spcN T 9) 3 = false then .inl ((9 + spcN T 9 + 3 : Nat), 2)
        else if 9 + spcN T 9 + 3 = T.size then finR T ⟨#[]⟩
        else if prefB (restB T (9 + spcN T 9 + 3)) blankT = false then .inl ((9 + spcN T 9 + 3 : Nat), 2)
        else finR T (restB T (9 + spcN T 9 + 3 + 1 + tabN T (9 + spcN T 9 + 3 + 1)))) := by
      unfold readR
      rw [show restB T 0 = T from extract_all T, h1, if_neg (by simp), if_neg (by omega), d5.1, if_neg (by simp), if_neg, if_neg (by omega), d7.1, if_neg (by simp), if_neg]
      · rw [Bool.not_eq_false]; exact (pref_oneD T 8 32).2 ⟨by omega, h8⟩
      · rw [Bool.not_eq_false]; exact (pref_oneD T 6 46).2 ⟨by omega, h6⟩
    have e2 : refR T = refS (T.data.toList.drop (9 + spcN T 9)) (((T.data.toList.getD 5 0).toNat : Int) - 48) (((T.data.toList.getD 7 0).toNat : Int) - 48) := by
      unfold refR
      rw [if_pos hh, hD]
    rw [e1, e2]
    have b5 := digit_bounds h5
    have b7 := digit_bounds h7
    have s5 := small_digit _ h5
    have s7 := small_digit _ h7
    unfold finR
    rw [d5.2, d7.2]
    have c5 : ((((T.data.toList.getD 5 0).toNat - 48 : Nat)) : Int) = ((T.data.toList.getD 5 0).toNat : Int) - 48 := by omega
    have c7 : ((((T.data.toList.getD 7 0).toNat - 48 : Nat)) : Int) = ((T.data.toList.getD 7 0).toNat : Int) - 48 := by omega
    rw [c5] at s5 ⊢
    rw [c7] at s7 ⊢
    clear d5 d7 h1 h5 h6 h7 h8 e1 e2 hD hh b5 b7 c5 c7
    generalize ((T.data.toList.getD 5 0).toNat : Int) - 48 = A at *
    generalize ((T.data.toList.getD 7 0).toNat : Int) - 48 = B at *
    generalize 9 + spcN T 9 = q at *
    have hlen : (T.data.toList.drop q).length = T.size - q := by rw [List.length_drop, Lib.size_eq]
    by_cases hl : T.size < q + 3
    · refine .inl ⟨_, if_pos hl, ?_⟩
      unfold refS
      rw [if_pos]
      have := runL_le (T.data.toList.drop q)
      omega
    rw [if_neg hl]
    match hd : T.data.toList.drop q, hlen with
    | [], hlen => simp at hlen; omega
    | [_], hlen => simp at hlen; omega
    | [_, _], hlen => simp at hlen; omega
    | x :: y :: z :: l, hlen =>
      obtain ⟨g1, g2⟩ := dig_threeD T q x y z l hd
      have hr := run_three x y z l
      cases hdg : (isDigit x && isDigit y && isDigit z)
      · refine .inl ⟨_, by rw [g1, hdg, if_pos rfl], ?_⟩
        unfold refS
        rw [if_pos (hr.2 hdg)]
      rw [g1, hdg, if_neg (by simp), g2]
      simp only [Bool.and_eq_true] at hdg
      obtain ⟨⟨hx, hy⟩, hz⟩ := hdg
      have hp := hund_pos x y z hx hy hz
      have bx := digit_bounds hx
      have by_ := digit_bounds hy
      have bz := digit_bounds hz
      have hl3 : T.data.toList.drop (q + 3) = l := by rw [← List.drop_drop, hd]; rfl
      have hne : NoEnd l := by rw [← hl3]; exact noEnd_drop hT _
      have hnr : ¬ (runL (x :: y :: z :: l) < 3) := by rw [hr, hx, hy, hz]; simp
      have hnum : ((10 * (10 * (x.toNat - 48) + (y.toNat - 48)) + (z.toNat - 48) : Nat) : Int) = (100 : Int) * ((x.toNat : Int) - 48) + (10 : Int) * ((y.toNat : Int) - 48) + ((z.toNat : Int) - 48) := by omega
      unfold goodS
      rw [hp, s5, s7, hnum]
      unfold refS
      rw [if_neg hnr]
      show _ ∨ _
      have hx0 : (x :: y :: z :: l).getD 0 0 = x := rfl
      have hx1 : (x :: y :: z :: l).getD 1 0 = y := rfl
      have hx2 : (x :: y :: z :: l).getD 2 0 = z := rfl
      have hx3 : (x :: y :: z :: l).drop 3 = l := rfl
      rw [hx0, hx1, hx2, hx3]
      have hll : l.length = T.size - (q + 3) := by simp at hlen; omega
      by_cases hend : q + 3 = T.size
      · rw [if_pos hend]
        obtain rfl : l = [] := List.eq_nil_of_length_eq_zero (by omega)
        have hr0 : reasonB ⟨#[]⟩ = true := by decide
        rw [hr0]
        by_cases h48 : x = 48
        · refine .inl ⟨_, by rw [if_neg (by simp [h48])], by rw [if_pos h48]⟩
        · refine .inr ⟨_, _, _, _, by rw [if_pos (by simp [h48])], ?_⟩
          rw [if_neg h48, if_neg (by simp), if_neg (by simp [quoL])]
          rfl
      rw [if_neg hend]
      have hk : q + 3 < T.size := by omega
      have hl0 : l ≠ [] := fun e => by rw [e] at hll; simp at hll; omega
      have hg : l.getD 0 0 = T.data.toList.getD (q + 3) 0 := by rw [← hl3]; simp [List.getD, List.getElem?_drop]
      cases hpb : prefB (restB T (q + 3)) blankT
      · refine .inl ⟨_, by rw [if_pos rfl], ?_⟩
        have h32 : l.getD 0 0 ≠ 32 := fun e => by
          have := (pref_oneD T (q + 3) 32).2 ⟨hk, by rw [← hg]; exact e⟩
          rw [show (⟨#[32]⟩ : ByteArray) = blankT from rfl, hpb] at this
          cases this
        split
        · rfl
        · rw [if_pos ⟨hl0, h32⟩]
      · rw [if_neg (by simp)]
        have h32 : l.getD 0 0 = 32 := by rw [hg]; exact ((pref_oneD T (q + 3) 32).1 hpb).2
        have hdl : l.dropWhile isTab = T.data.toList.drop (q + 3 + 1 + tabN T (q + 3 + 1)) := by
          rw [drop_tab, ← List.drop_drop, hl3]
          cases l with
          | nil => exact absurd rfl hl0
          | cons b l => 
            have : b = 32 := h32
            subst this
            rfl
        have hrs : restB T (q + 3 + 1 + tabN T (q + 3 + 1)) = ⟨(l.dropWhile isTab).toArray⟩ := by
          apply bytes_ext
          rw [rest_list, hdl]
        rw [hrs, reason_trim l hne]
        by_cases h48 : x = 48
        · refine .inl ⟨_, by rw [if_neg (by simp [h48])], by rw [if_pos h48]⟩
        rw [if_neg h48, if_neg (show ¬ (l ≠ [] ∧ l.getD 0 0 ≠ 32) by rw [h32]; simp)]
        cases hq : quoL (l.dropWhile isTab)
        · exact .inl ⟨_, if_neg (by simp), if_pos rfl⟩
        · refine .inr ⟨_, _, _, _, if_pos (by simp [h48]), ?_⟩
          rw [if_neg (by simp)]

/-- Line says what the reference's Line says. -/
theorem line_ref (s : ByteArray) : lineV s = refV (endsB s) := by
  unfold lineV refV
  have hT : NoEnd (endsB s).data.toList := by
    have := noEnd_trim s.data.toList
    unfold endsB
    simpa using this
  rcases read_ref (endsB s) hT with ⟨q, h1, h2⟩ | ⟨a, b, c, r, h1, h2⟩
  · rw [h1, h2]
  · rw [h1, h2]

end Go.Proofs.YtjlemghmpnkncaaDoor
