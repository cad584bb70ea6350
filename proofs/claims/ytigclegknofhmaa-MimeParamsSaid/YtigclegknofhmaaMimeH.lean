/-
  Walks of package mime: a cursor's deeds, said of what is left; a parameter's value; a parameter.
-/
import Derived.Test.YtigclegknofhmaaMimeG
namespace Go.Proofs.Ytigclegknofhmaa
open Go.RowKit
set_option linter.unusedSimpArgs false
set_option linter.unusedVariables false

theorem restB_list (s : ByteArray) (k : Nat) : (restB s k).data.toList = dropB s k := by
  unfold dropB restB
  rw [ByteArray.data_extract, Array.toList_extract, List.extract_eq_take_drop, List.take_of_length_le (by rw [List.length_drop, ← Lib.size_eq]; omega)]

theorem dropB_len (s : ByteArray) (k : Nat) : (dropB s k).length = s.size - k := by unfold dropB; rw [List.length_drop, Lib.size_eq]

theorem dropB_zero (s : ByteArray) : dropB s 0 = s.data.toList := rfl

theorem span_take (p : UInt8 → Bool) (l : List UInt8) : l.take (spanN p l) = l.takeWhile p := by
  unfold spanN
  exact (List.prefix_iff_eq_take.1 (List.takeWhile_prefix _)).symm

theorem span_drop (p : UInt8 → Bool) (l : List UInt8) : l.drop (spanN p l) = l.dropWhile p := by
  have e2 := List.takeWhile_append_dropWhile (p := p) (l := l)
  have e3 : l.drop (spanN p l) = (l.takeWhile p ++ l.dropWhile p).drop (l.takeWhile p).length := by rw [e2]; rfl
  rw [e3, List.drop_left]

theorem ext_bt (s : ByteArray) (k n : Nat) : s.extract k (k + n) = bt ((dropB s k).take n) := by
  apply bytes_ext
  rw [bt_list]
  unfold dropB
  rw [ByteArray.data_extract, Array.toList_extract, List.extract_eq_take_drop, show k + n - k = n by omega]

theorem dropB_more (s : ByteArray) (k n : Nat) : dropB s (k + n) = (dropB s k).drop n := by unfold dropB; rw [List.drop_drop]

theorem until_drop (stops : ByteArray) (p : UInt8 → Bool) (hp : ∀ b, goesOn stops b = p b) (g : Nat) (s : ByteArray) (k : Nat) (w : World) (h : Cur w g s k) (hk : k ≤ s.size) (hs : s.size ≤ maxLen) :
    Calls Try.prog 58 #[.pointer (some ⟨g, 0, none⟩), .string stops] w fun e w' => ∃ k2, k ≤ k2 ∧ k2 ≤ s.size ∧ dropB s k2 = (dropB s k).dropWhile p ∧ e = .returned (.string (bt ((dropB s k).takeWhile p))) ∧ Moved g s k2 w w' := by
  have hf : goesOn stops = p := funext hp
  have hC := Until_gives stops g s k w h hk hs
  rw [hf, restB_list] at hC
  have hn := spanN_le p (dropB s k)
  rw [dropB_len] at hn
  refine hC.mono ?_
  rintro e w2 ⟨rfl, hm⟩
  refine ⟨k + spanN p (dropB s k), by omega, by omega, ?_, ?_, hm⟩
  · rw [dropB_more, span_drop]
  · rw [ext_bt, span_take]

theorem while_drop (K : FuncId) (p : UInt8 → Bool) (hK : FnPure K p) (g : Nat) (s : ByteArray) (k : Nat) (w : World) (h : Cur w g s k) (hk : k ≤ s.size) (hs : s.size ≤ maxLen) :
    Calls Try.prog 95 #[.pointer (some ⟨g, 0, none⟩), .func (.func K) #[] #[]] w fun e w' => ∃ k2 t, k ≤ k2 ∧ k2 ≤ s.size ∧ dropB s k2 = (dropB s k).dropWhile p ∧ e = .returned (.string t) ∧ Moved g s k2 w w' := by
  have hC := While_gives K p hK g s k w h hk hs
  rw [restB_list] at hC
  have hn := spanN_le p (dropB s k)
  rw [dropB_len] at hn
  refine hC.mono ?_
  rintro e w2 ⟨rfl, hm⟩
  refine ⟨k + spanN p (dropB s k), _, by omega, by omega, ?_, rfl, hm⟩
  rw [dropB_more, span_drop]

theorem prefB_one (s : ByteArray) (k : Nat) (b : UInt8) : prefB (restB s k) ⟨#[b]⟩ = ((dropB s k).head? == some b) := by
  unfold prefB
  rw [restB_list]
  cases dropB s k with
  | nil => rfl
  | cons a r =>
    show [b].isPrefixOf (a :: r) = _
    simp only [List.isPrefixOf, Bool.and_true, List.head?_cons]
    exact Bool.eq_iff_iff.2 ⟨fun h => by simp at h ⊢; exact h.symm, fun h => by simp at h ⊢; exact h.symm⟩

theorem skip_drop (b : UInt8) (g : Nat) (s : ByteArray) (k : Nat) (w : World) (h : Cur w g s k) (hk : k ≤ s.size) (hs : s.size ≤ maxLen) (hb : (dropB s k).head? = some b) :
    Calls Try.prog 59 #[.pointer (some ⟨g, 0, none⟩), .string ⟨#[b]⟩] w fun e w' => e = .returned (.bool true) ∧ k + 1 ≤ s.size ∧ dropB s (k + 1) = (dropB s k).tail ∧ Moved g s (k + 1) w w' := by
  have hlt : k < s.size := by
    rcases Nat.lt_or_ge k s.size with h1 | h1
    · exact h1
    · have : k = s.size := by omega
      subst this
      rw [dropB_end] at hb
      simp at hb
  refine (Skip_yes ⟨#[b]⟩ g s k w h hk hs (by rw [prefB_one, hb]; simp)).mono ?_
  rintro e w2 ⟨rfl, hm⟩
  refine ⟨rfl, hlt, ?_, hm⟩
  rw [dropB_more, List.drop_one]

theorem skip_none (b : UInt8) (g : Nat) (s : ByteArray) (k : Nat) (w : World) (h : Cur w g s k) (hk : k ≤ s.size) (hs : s.size ≤ maxLen) (hb : (dropB s k).head? ≠ some b) :
    Calls Try.prog 59 #[.pointer (some ⟨g, 0, none⟩), .string ⟨#[b]⟩] w fun e w' => e = .returned (.bool false) ∧ Moved g s k w w' :=
  Skip_no ⟨#[b]⟩ g s k w h hk hs (by rw [prefB_one]; exact beq_eq_false_iff_ne.2 hb)

theorem goes_semi (b : UInt8) : goesOn ⟨#[59]⟩ b = nsemi b := all_u8 (p := fun b => goesOn ⟨#[59]⟩ b = nsemi b) (by decide +kernel) b
theorem goes_slash (b : UInt8) : goesOn ⟨#[47]⟩ b = nslash b := all_u8 (p := fun b => goesOn ⟨#[47]⟩ b = nslash b) (by decide +kernel) b
theorem goes_name (b : UInt8) : goesOn ⟨#[59, 61]⟩ b = nname b := all_u8 (p := fun b => goesOn ⟨#[59, 61]⟩ b = nname b) (by decide +kernel) b

theorem tw_len (p : UInt8 → Bool) (l : List UInt8) : (l.takeWhile p).length ≤ l.length := (List.takeWhile_sublist p).length_le

theorem valL_plain (r : List UInt8) (h : r.head? ≠ some 34) : valL r = (trimEnd isWhite (r.takeWhile nsemi), !(trimEnd isWhite (r.takeWhile nsemi)).isEmpty, r.dropWhile nsemi) := by
  unfold valL; rw [if_neg h]

theorem bt_ne (l : List UInt8) : (!(bt l).toList.isEmpty) = !l.isEmpty := by
  rw [Lib.toList_data]
  rfl

set_option maxRecDepth 20000 in
theorem value_any (g : Nat) (s : ByteArray) (k : Nat) (w : World) (h : Cur w g s k) (hk : k ≤ s.size) (hs : s.size ≤ 100000) :
    Calls Try.prog 97 #[.pointer (some ⟨g, 0, none⟩)] w fun e w' => ∃ k2, k ≤ k2 ∧ k2 ≤ s.size ∧ dropB s k2 = (valL (dropB s k)).2.2 ∧ e = .returned (.tuple #[.string (bt (valL (dropB s k)).1), .bool (valL (dropB s k)).2.1]) ∧ Moved g s k2 w w' := by
  have hsm : s.size ≤ maxLen := by unfold maxLen; omega
  by_cases hq : ∃ hlt : k < s.size, s[k] = 34
  · obtain ⟨hlt, hq⟩ := hq
    have hd : dropB s k = 34 :: dropB s (k + 1) := by rw [dropB_cons s k hlt, hq]
    have hv : valL (dropB s k) = ((readL (dropB s (k + 1))).1, true, ((dropB s (k + 1)).drop (readL (dropB s (k + 1))).2).dropWhile nsemi) := by
      unfold valL; rw [hd]; rfl
    have hr := (readL_le (dropB s (k + 1))).1
    rw [dropB_len] at hr
    have HV := Lib.hid hv
    have HPK := Lib.hid (Peek0_yes g s k w h hlt hsm)
    rw [hq] at HPK
    have HCO := Lib.hid (fun (w1 : World) (h1 : Cur w1 g s k) => Collect_gives g s k true w1 h1 hlt hq hs)
    have HU := Lib.hid (fun (w1 : World) (h1 : Cur w1 g s (k + 1 + (readL (dropB s (k + 1))).2)) => until_drop ⟨#[59]⟩ nsemi goes_semi g s _ w1 h1 (by omega) hsm)
    have HD := Lib.hid (dropB_more s (k + 1) (readL (dropB s (k + 1))).2)
    clear hv hd hr hq h
    generalize valL (dropB s k) = V at *
    unfold takenB at HCO
    generalize readL (dropB s (k + 1)) = R at *
    go_enter Try.func97, Try.ntmps97
    go_wp2_with fail
    refine HPK.out.mono ?_
    rintro e w1 ⟨rfl, hm⟩
    have HM := Lib.hid hm
    clear hm
    go_wp2_with fail
    refine (HCO.out _ HM.out.1).mono ?_
    rintro e w2 ⟨rfl, hm2⟩
    have HM2 := Lib.hid (HM.out.trans hm2)
    clear hm2
    go_wp2_with fail
    refine (HU.out _ HM2.out.1).mono ?_
    rintro e w3 ⟨k3, h1, h2, h3, rfl, hm3⟩
    have HM3 := Lib.hid (HM2.out.trans hm3)
    have HK := Lib.hid (And.intro h1 (And.intro h2 h3))
    clear hm3 h1 h2 h3
    go_wp2_with fail
    go_ret2
    obtain ⟨h1, h2, h3⟩ := HK.out
    refine ⟨k3, by omega, h2, ?_, by rw [HV.out]; rfl, HM3.out⟩
    rw [h3, HV.out, HD.out]
  · have hq2 : (dropB s k).head? ≠ some 34 := by
      intro he
      apply hq
      by_cases hlt : k < s.size
      · refine ⟨hlt, ?_⟩
        rw [dropB_cons s k hlt] at he
        simpa using he
      · have : k = s.size := by omega
        subst this
        rw [dropB_end] at he
        simp at he
    have HV := Lib.hid (valL_plain (dropB s k) hq2)
    have HU := Lib.hid (fun (w1 : World) (h1 : Cur w1 g s k) => until_drop ⟨#[59]⟩ nsemi goes_semi g s k w1 h1 hk hsm)
    have hl := tw_len nsemi (dropB s k)
    rw [dropB_len] at hl
    have HB := Lib.hid (fun w => back_any (bt ((dropB s k).takeWhile nsemi)) w (by rw [bt_size]; unfold maxLen; omega))
    rw [bt_list] at HB
    have HN := Lib.hid (bt_ne (trimEnd isWhite ((dropB s k).takeWhile nsemi)))
    have hpk : ∃ (b : Nat) (ok : Bool), ((ok && decide (b = 34)) = false) ∧ Calls Try.prog 76 #[.pointer (some ⟨g, 0, none⟩), .int .i64 0] w fun e w' => e = .returned (.tuple #[.int .u8 (b : Int), .bool ok]) ∧ Moved g s k w w' := by
      by_cases hlt : k < s.size
      · refine ⟨s[k].toNat, true, ?_, Peek0_yes g s k w h hlt hsm⟩
        simp only [Bool.true_and, decide_eq_false_iff_not]
        intro h34
        exact hq ⟨hlt, UInt8.toNat_inj.1 (by simpa using h34)⟩
      · have : k = s.size := by omega
        subst this
        exact ⟨0, false, rfl, Peek0_no g s w h hsm⟩
    obtain ⟨b, ok, hbo, hpk⟩ := hpk
    have HPK := Lib.hid hpk
    clear hl h hpk hq2
    generalize valL (dropB s k) = V at *
    generalize (dropB s k).takeWhile nsemi = T at *
    generalize trimEnd isWhite T = T2 at *
    cases ok
    · go_enter Try.func97, Try.ntmps97
      go_wp2_with fail
      refine HPK.out.mono ?_
      rintro e w1 ⟨rfl, hm⟩
      have HM := Lib.hid hm
      clear hm
      go_wp2_with fail
      refine (HU.out _ HM.out.1).mono ?_
      rintro e w3 ⟨k3, h1, h2, h3, rfl, hm3⟩
      have HM3 := Lib.hid (HM.out.trans hm3)
      have HK := Lib.hid (And.intro h1 (And.intro h2 h3))
      clear hm3 h1 h2 h3
      go_wp2_with (go_at_call 60; (with_reducible refine (HB.out _).mono ?_); rintro e w' ⟨rfl, rfl⟩)
      go_ret2
      obtain ⟨h1, h2, h3⟩ := HK.out
      exact ⟨k3, h1, h2, by rw [h3, HV.out], by rw [HV.out, ← HN.out]; rfl, HM3.out⟩
    · have hb34 : ((b : Int) == 34) = false := by
        simp at hbo
        rw [beq_eq_false_iff_ne]; omega
      go_enter Try.func97, Try.ntmps97
      go_wp2_with fail
      refine HPK.out.mono ?_
      rintro e w1 ⟨rfl, hm⟩
      have HM := Lib.hid hm
      clear hm
      go_wp2_with fail
      refine (HU.out _ HM.out.1).mono ?_
      rintro e w3 ⟨k3, h1, h2, h3, rfl, hm3⟩
      have HM3 := Lib.hid (HM.out.trans hm3)
      have HK := Lib.hid (And.intro h1 (And.intro h2 h3))
      clear hm3 h1 h2 h3
      go_wp2_with (go_at_call 60; (with_reducible refine (HB.out _).mono ?_); rintro e w' ⟨rfl, rfl⟩)
      go_ret2
      obtain ⟨h1, h2, h3⟩ := HK.out
      exact ⟨k3, h1, h2, by rw [h3, HV.out], by rw [HV.out, ← HN.out]; rfl, HM3.out⟩

end Go.Proofs.Ytigclegknofhmaa
