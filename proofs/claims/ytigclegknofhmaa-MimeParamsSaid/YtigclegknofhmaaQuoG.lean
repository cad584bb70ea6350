/-
  Walks of the statements of package quoted: what they call.
-/
import Derived.Test.YtigclegknofhmaaQuoF
namespace Go.Proofs.Ytigclegknofhmaa
open Go.RowKit
set_option linter.unusedSimpArgs false
set_option linter.unusedVariables false

theorem Split_gives (s : ByteArray) (w : World) (hs : s.size ≤ 100000) :
    Calls Try.prog 42 #[.string s] w fun e w' => GivesStrs (splitB s) w e w' := by
  refine (Split_any s w hs).mono ?_
  rintro e w' ⟨r, rfl, ho, hb⟩
  obtain ⟨A, c, rfl, hst⟩ := strs_of_own ho rfl
  exact ⟨A, c, rfl, hst, hb⟩

theorem cnt_all (p : UInt8 → Bool) (l : List UInt8) : ((cnt p l : Int) == (l.length : Int)) = l.all p := by
  unfold cnt
  rw [Bool.eq_iff_iff, beq_iff_eq, List.all_eq_true]
  constructor
  · intro h
    exact List.length_filter_eq_length_iff.1 (by omega)
  · intro h
    rw [List.length_filter_eq_length_iff.2 h]

def needsB (s : ByteArray) : Bool := s.toList.isEmpty || !(s.data.toList.all isToken)

theorem Needs_any (s : ByteArray) (w : World) (hs : s.size ≤ maxLen) :
    Calls Try.prog 20 #[.string s] w fun e w' => e = .returned (.bool (needsB s)) ∧ w = w' := by
  have HA := Lib.hid (All_any 49 isToken fnToken s w hs)
  have hc := cnt_all isToken s.data.toList
  rw [← Lib.size_eq] at hc
  rw [hc] at HA
  have HN : Hid (needsB s = (s.toList.isEmpty || !(s.data.toList.all isToken))) := Lib.hid rfl
  generalize s.data.toList.all isToken = r at *
  clear hc
  go_enter Try.func20, Try.ntmps20
  go_wp2_with (go_at_call 48; refine (HA.out).mono ?_; rintro e w' ⟨rfl, rfl⟩)
  · go_ret
    exact ⟨ret_bool (by rw [HN.out]; simp_all), rfl⟩
  · go_ret
    exact ⟨ret_bool (by rw [HN.out]), rfl⟩

theorem split_lives : splitB ⟨#[97, 44, 34, 98, 44, 99, 34]⟩ = [⟨#[97]⟩, ⟨#[34, 98, 44, 99, 34]⟩] := by
  show splitL [] [97, 44, 34, 98, 44, 99, 34] = _
  rw [splitL, if_neg (by decide), if_neg (by decide), splitL_comma, splitL_quote]
  have h : readL [98, 44, 99, 34] = ([98, 44, 99], 4) := by simp [readL]
  rw [h]
  show [pieceB ⟨#[97]⟩] ++ splitL [34, 98, 44, 99, 34] [] = _
  rw [splitL_end]
  have h1 : pieceB ⟨#[97]⟩ = ⟨#[97]⟩ := by rfl
  have h2 : pieceB ⟨[34, 98, 44, 99, 34].toArray⟩ = ⟨#[34, 98, 44, 99, 34]⟩ := by rfl
  rw [h1, h2]
  rfl

theorem ser_lives : (⟨(serL (⟨#[97, 34]⟩ : ByteArray).data.toList).toArray⟩ : ByteArray) = ⟨#[34, 97, 92, 34, 34]⟩ := by rfl

set_option maxRecDepth 20000 in
theorem lives04_any (w : World) :
    Calls Try.prog 16 #[] w fun e w' => e = .returned (.bool true) ∧ Below w.heap.size w w' := by
  have HSP := Lib.hid (fun w => Split_gives ⟨#[97, 44, 34, 98, 44, 99, 34]⟩ w (by decide))
  have HSE := Lib.hid (fun w => Serial_any ⟨#[97, 34]⟩ w (by decide))
  rw [split_lives] at HSP
  rw [ser_lives] at HSE
  go_enter Try.func16, Try.ntmps16
  go_wp2_with fail
  refine (HSP.out _).mono ?_
  rintro e w1 ⟨A, c, rfl, hst, hb⟩
  rcases hst with h | ⟨b, off, rfl, hlt, hc⟩
  · cases h
  have c1 : w1.cell? ⟨b, off + 1, none⟩ = some (.string ⟨#[34, 98, 44, 99, 34]⟩) := hc 1 (by simp)
  have HB := Lib.hid hb
  clear hc hb hlt
  go_wp2_with fail
  refine (HSE.out _).mono ?_
  rintro e w2 ⟨rfl, hb2⟩
  have HB2 := Lib.hid (HB.out.trans (hb2.mono HB.out.size))
  clear hb2
  go_wp2_with fail
  go_ret
  exact ⟨rfl, HB2.out⟩

theorem entersSkip : Enters 12 := fun args w => MuLone.run_callFunc_enter Try.func12 (by kernel_rfl) rfl args w
theorem entersCollects : Enters 13 := fun args w => MuLone.run_callFunc_enter Try.func13 (by kernel_rfl) rfl args w

theorem skipDo_gives (g : Nat) (m : Nat) (s : ByteArray) (k : Nat) (w : World) (h : Cur w g s k) (hk : k + m ≤ s.size) (hs : s.size ≤ maxLen) :
    Calls Try.prog 12 #[.agg #[.pointer (some ⟨g, 0, none⟩), .int .i64 (m : Int)]] w fun e w' => e = .returned (.string (s.extract k (k + m))) ∧ Moved g s (k + m) w w' := by
  have HC := Lib.hid (fun w1 hw => Take_gives g s k m w1 (h.below (w' := w1) hw h.lt) hk hs)
  clear h
  go_enter Try.func12, Try.ntmps12
  go_wp2_with fail
  refine (HC.out _ (below_box _ _)).mono ?_
  rintro e w2 ⟨rfl, hm⟩
  have HM := Lib.hid (show Moved g s (k + m) w w2 from ⟨hm.1, ((But.refl _ _).alloc _).trans hm.2⟩)
  clear hm
  go_wp2_with fail
  go_ret
  exact ⟨rfl, HM.out⟩

theorem valSkip (g : Nat) (s : ByteArray) (k m : Nat) (w : World) (h : Cur w g s k) (hk : k + m ≤ s.size) (hs : s.size ≤ maxLen) :
    Calls Try.prog 11 #[.func (.func 12) #[.agg #[.pointer (some ⟨g, 0, none⟩), .int .i64 m]] #[]] w fun e w' => e = .returned (.tuple #[.string (s.extract k (k + m)), .agg #[.int .i64 0, .int .i64 0]]) ∧ Moved g s (k + m) w w' := by
  refine (valueStr_gives 12 #[.agg #[.pointer (some ⟨g, 0, none⟩), .int .i64 m]] #[] (s.extract k (k + m)) (w.heap.size) (Moved g s (k + m) w) _ entersSkip entersVStrQ (Nat.le_refl _) (Moved.stays h.lt) ?_).mono ?_
  · intro w1 h1
    have hc := h.below h1 h.lt
    rw [Array.append_empty]
    refine (skipDo_gives g m s k w1 hc hk hs).mono ?_
    rintro e w' ⟨rfl, hm⟩
    exact ⟨rfl, hm.2.keeps (by have := h.lt; have := h1.size; omega), ⟨hm.1, (But.of_below h1).trans hm.2⟩⟩
  · rintro e w2 ⟨rfl, _, hm⟩
    exact ⟨rfl, hm⟩

theorem callDo_gives (g : Nat) (x : Bool) (s : ByteArray) (k : Nat) (w : World) (h : Cur w g s k) (hk : k < s.size) (hq : s[k] = 34) (hs : s.size ≤ 100000) :
    Calls Try.prog 13 #[.agg #[.pointer (some ⟨g, 0, none⟩), .bool x]] w fun e w' => e = .returned (.string (takenB s k x)) ∧ Moved g s (k + 1 + (readL (dropB s (k + 1))).2) w w' := by
  have HC := Lib.hid (fun w1 hw => Collect_gives g s k x w1 (h.below (w' := w1) hw h.lt) hk hq hs)
  clear h
  generalize takenB s k x = T at *
  generalize k + 1 + (readL (dropB s (k + 1))).2 = m at *
  go_enter Try.func13, Try.ntmps13
  go_wp2_with fail
  refine (HC.out _ (below_box _ _)).mono ?_
  rintro e w2 ⟨rfl, hm⟩
  have HM := Lib.hid (show Moved g s m w w2 from ⟨hm.1, ((But.refl _ _).alloc _).trans hm.2⟩)
  clear hm
  go_wp2_with fail
  go_ret
  exact ⟨rfl, HM.out⟩

theorem callDo_throws (g : Nat) (x : Bool) (s : ByteArray) (k : Nat) (w : World) (h : Cur w g s k) (hk : k ≤ s.size) (hq : ∀ (hlt : k < s.size), s[k] ≠ 34) (hs : s.size ≤ 100000) :
    Calls Try.prog 13 #[.agg #[.pointer (some ⟨g, 0, none⟩), .bool x]] w fun e w' => e = .panicked [{ v := faultV k 2, recovered := false }] ∧ Moved g s k w w' := by
  have HC := Lib.hid (fun w1 hw => Collect_throws g s k x w1 (h.below (w' := w1) hw h.lt) hk hq hs)
  clear h hq
  go_enter Try.func13, Try.ntmps13
  go_wp2_with (go_at_call 37; refine (HC.out _ (below_box _ _)).mono ?_; rintro e w2 ⟨rfl, hm⟩)
  exact ⟨rfl, rfl, ⟨hm.1, ((But.refl _ _).alloc _).trans hm.2⟩⟩

theorem valCollect_ok (g : Nat) (x : Bool) (s : ByteArray) (k : Nat) (w : World) (h : Cur w g s k) (hk : k < s.size) (hq : s[k] = 34) (hs : s.size ≤ 100000) :
    Calls Try.prog 11 #[.func (.func 13) #[.agg #[.pointer (some ⟨g, 0, none⟩), .bool x]] #[]] w fun e w' => e = .returned (.tuple #[.string (takenB s k x), .agg #[.int .i64 0, .int .i64 0]]) ∧ Moved g s (k + 1 + (readL (dropB s (k + 1))).2) w w' := by
  refine (valueStr_gives 13 #[.agg #[.pointer (some ⟨g, 0, none⟩), .bool x]] #[] (takenB s k x) (w.heap.size) (Moved g s (k + 1 + (readL (dropB s (k + 1))).2) w) _ entersCollects entersVStrQ (Nat.le_refl _) (Moved.stays h.lt) ?_).mono ?_
  · intro w1 h1
    have hc := h.below h1 h.lt
    rw [Array.append_empty]
    refine (callDo_gives g x s k w1 hc hk hq hs).mono ?_
    rintro e w' ⟨rfl, hm⟩
    exact ⟨rfl, hm.2.keeps (by have := h.lt; have := h1.size; omega), ⟨hm.1, (But.of_below h1).trans hm.2⟩⟩
  · rintro e w2 ⟨rfl, _, hm⟩
    exact ⟨rfl, hm⟩

theorem valCollect_bad (g : Nat) (x : Bool) (s : ByteArray) (k : Nat) (w : World) (h : Cur w g s k) (hk : k ≤ s.size) (hq : ∀ (hlt : k < s.size), s[k] ≠ 34) (hs : s.size ≤ 100000) :
    Calls Try.prog 11 #[.func (.func 13) #[.agg #[.pointer (some ⟨g, 0, none⟩), .bool x]] #[]] w fun e w' => e = .returned (.tuple #[.string ⟨#[]⟩, .agg #[.int .i64 k, .int .i64 2]]) ∧ Moved g s k w w' := by
  refine (valueStr_throws 13 #[.agg #[.pointer (some ⟨g, 0, none⟩), .bool x]] #[] k 2 (w.heap.size) (Moved g s k w) _ entersCollects entersVStrQ (Nat.le_refl _) (Moved.stays h.lt) ?_).mono ?_
  · intro w1 h1
    have hc := h.below h1 h.lt
    rw [Array.append_empty]
    refine (callDo_throws g x s k w1 hc hk hq hs).mono ?_
    rintro e w' ⟨rfl, hm⟩
    exact ⟨rfl, hm.2.keeps (by have := h.lt; have := h1.size; omega), ⟨hm.1, (But.of_below h1).trans hm.2⟩⟩
  · rintro e w2 ⟨rfl, _, hm⟩
    exact ⟨rfl, hm⟩

/-- What is put in quotes is read back. -/
theorem readL_esc (l r : List UInt8) : readL (escL l ++ 34 :: r) = (l, (escL l).length + 1) := by
  induction l with
  | nil => rw [show escL [] = [] from rfl]; exact readL_quote r
  | cons b l ih =>
    have e : escL (b :: l) = (if b = 34 ∨ b = 92 then [92, b] else [b]) ++ escL l := by simp only [escL, List.flatMap_cons]
    rw [e]
    by_cases h : b = 34 ∨ b = 92
    · rw [if_pos h]
      show readL (92 :: b :: (escL l ++ 34 :: r)) = _
      rw [readL_slash, ih]
      simp; omega
    · rw [if_neg h]
      show readL (b :: (escL l ++ 34 :: r)) = _
      rw [readL_plain b _ (fun e => h (.inl e)) (fun e => h (.inr e)), ih]
      simp; omega

end Go.Proofs.Ytigclegknofhmaa
