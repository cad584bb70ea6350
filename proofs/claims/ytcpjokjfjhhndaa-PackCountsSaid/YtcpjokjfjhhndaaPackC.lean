/-
  Walks of package pack: fonts and archives.
-/
import Derived.Test.YtcpjokjfjhhndaaPackB
import Derived.Test.YtcpjokjfjhhndaaTabC
namespace Go.Proofs.Ytcpjokjfjhhndaa
open Go.RowKit
set_option linter.unusedSimpArgs false
set_option linter.unusedVariables false

/-- The patterns of fonts. -/
def fontTab : List Pat :=
  [exactP ⟨#[0, 0, 0, 0, 0, 0, 0, 0, 0, 0, 0, 0, 0, 0, 0, 0, 0, 0, 0, 0, 0, 0, 0, 0, 0, 0, 0, 0, 0, 0, 0, 0, 0, 0, 76, 80]⟩ ⟨#[97, 112, 112, 108, 105, 99, 97, 116, 105, 111, 110, 47, 118, 110, 100, 46, 109, 115, 45, 102, 111, 110, 116, 111, 98, 106, 101, 99, 116]⟩ 0 34,
   exactP ⟨#[0, 1, 0, 0]⟩ ⟨#[102, 111, 110, 116, 47, 116, 116, 102]⟩ 0 0,
   exactP ⟨#[79, 84, 84, 79]⟩ ⟨#[102, 111, 110, 116, 47, 111, 116, 102]⟩ 0 0,
   exactP ⟨#[116, 116, 99, 102]⟩ ⟨#[102, 111, 110, 116, 47, 99, 111, 108, 108, 101, 99, 116, 105, 111, 110]⟩ 0 0,
   exactP ⟨#[119, 79, 70, 70]⟩ ⟨#[102, 111, 110, 116, 47, 119, 111, 102, 102]⟩ 0 0,
   exactP ⟨#[119, 79, 70, 50]⟩ ⟨#[102, 111, 110, 116, 47, 119, 111, 102, 102, 50]⟩ 0 0]

/-- The patterns of archives. -/
def archTab : List Pat :=
  [exactP ⟨#[31, 139, 8]⟩ ⟨#[97, 112, 112, 108, 105, 99, 97, 116, 105, 111, 110, 47, 120, 45, 103, 122, 105, 112]⟩ 0 0,
   exactP ⟨#[80, 75, 3, 4]⟩ ⟨#[97, 112, 112, 108, 105, 99, 97, 116, 105, 111, 110, 47, 122, 105, 112]⟩ 0 0,
   exactP ⟨#[82, 97, 114, 32, 26, 7, 0]⟩ ⟨#[97, 112, 112, 108, 105, 99, 97, 116, 105, 111, 110, 47, 120, 45, 114, 97, 114, 45, 99, 111, 109, 112, 114, 101, 115, 115, 101, 100]⟩ 0 0]

theorem with_zero (b t : ByteArray) (w : World) (h1 : 1 ≤ b.size) (h2 : b.size ≤ 100) :
    Calls Try.prog 92 #[.int .i64 0, .string b, .string t] w fun e w' => e = .returned (patV (exactP b t 0 0).b (exactP b t 0 0).m (exactP b t 0 0).k (exactP b t 0 0).t) ∧ Below w.heap.size w w' :=
  with_exact 0 b t w (by decide) h1 h2 b (by simp [zerosL])

theorem with_gap (w : World) :
    Calls Try.prog 92 #[.int .i64 34, .string ⟨#[76, 80]⟩, .string ⟨#[97, 112, 112, 108, 105, 99, 97, 116, 105, 111, 110, 47, 118, 110, 100, 46, 109, 115, 45, 102, 111, 110, 116, 111, 98, 106, 101, 99, 116]⟩] w fun e w' => e = .returned (patV (exactP ⟨#[0, 0, 0, 0, 0, 0, 0, 0, 0, 0, 0, 0, 0, 0, 0, 0, 0, 0, 0, 0, 0, 0, 0, 0, 0, 0, 0, 0, 0, 0, 0, 0, 0, 0, 76, 80]⟩ ⟨#[97, 112, 112, 108, 105, 99, 97, 116, 105, 111, 110, 47, 118, 110, 100, 46, 109, 115, 45, 102, 111, 110, 116, 111, 98, 106, 101, 99, 116]⟩ 0 34).b (exactP ⟨#[0, 0, 0, 0, 0, 0, 0, 0, 0, 0, 0, 0, 0, 0, 0, 0, 0, 0, 0, 0, 0, 0, 0, 0, 0, 0, 0, 0, 0, 0, 0, 0, 0, 0, 76, 80]⟩ ⟨#[97, 112, 112, 108, 105, 99, 97, 116, 105, 111, 110, 47, 118, 110, 100, 46, 109, 115, 45, 102, 111, 110, 116, 111, 98, 106, 101, 99, 116]⟩ 0 34).m (exactP ⟨#[0, 0, 0, 0, 0, 0, 0, 0, 0, 0, 0, 0, 0, 0, 0, 0, 0, 0, 0, 0, 0, 0, 0, 0, 0, 0, 0, 0, 0, 0, 0, 0, 0, 0, 76, 80]⟩ ⟨#[97, 112, 112, 108, 105, 99, 97, 116, 105, 111, 110, 47, 118, 110, 100, 46, 109, 115, 45, 102, 111, 110, 116, 111, 98, 106, 101, 99, 116]⟩ 0 34).k (exactP ⟨#[0, 0, 0, 0, 0, 0, 0, 0, 0, 0, 0, 0, 0, 0, 0, 0, 0, 0, 0, 0, 0, 0, 0, 0, 0, 0, 0, 0, 0, 0, 0, 0, 0, 0, 76, 80]⟩ ⟨#[97, 112, 112, 108, 105, 99, 97, 116, 105, 111, 110, 47, 118, 110, 100, 46, 109, 115, 45, 102, 111, 110, 116, 111, 98, 106, 101, 99, 116]⟩ 0 34).t) ∧ Below w.heap.size w w' :=
  with_exact 34 ⟨#[76, 80]⟩ ⟨#[97, 112, 112, 108, 105, 99, 97, 116, 105, 111, 110, 47, 118, 110, 100, 46, 109, 115, 45, 102, 111, 110, 116, 111, 98, 106, 101, 99, 116]⟩ w (by decide) (by decide) (by decide) _ (by decide +kernel)

set_option maxRecDepth 20000 in
theorem fonts_tab (w : World) : Calls Try.prog 78 #[] w (GivesTab fontTab w) := by
  have hb := Below.refl w.heap.size w
  have H0 := Lib.hid with_zero
  have H1 := Lib.hid with_gap
  go_enter Try.func78, Try.ntmps78
  go_wp2_with (first | (go_at_call 92; (with_reducible refine (H1.out _).mono ?_); rintro e w' ⟨rfl, hb2⟩; replace hb := below_trans hb hb2; clear hb2) | (go_at_call 92; (with_reducible refine (H0.out _ _ _ (by decide) (by decide)).mono ?_); rintro e w' ⟨rfl, hb2⟩; replace hb := below_trans hb hb2; clear hb2))
  go_ret
  exact ⟨_, _, rfl, patsAt_new _ fontTab _, hb.alloc hb.size _⟩

set_option maxRecDepth 20000 in
theorem archives_tab (w : World) : Calls Try.prog 79 #[] w (GivesTab archTab w) := by
  have hb := Below.refl w.heap.size w
  have H0 := Lib.hid with_zero
  go_enter Try.func79, Try.ntmps79
  go_wp2_with (first | (go_at_call 92; (with_reducible refine (H0.out _ _ _ (by decide) (by decide)).mono ?_); rintro e w' ⟨rfl, hb2⟩; replace hb := below_trans hb hb2; clear hb2))
  go_ret
  exact ⟨_, _, rfl, patsAt_new _ archTab _, hb.alloc hb.size _⟩

theorem Fonts_tab (w : World) : Calls Try.prog 51 #[] w (GivesTab fontTab w) := by
  go_enter Try.func51, Try.ntmps51
  go_wp2_with fail
  refine (fonts_tab _).mono ?_
  rintro e w1 ⟨g, c, rfl, hp, hb⟩
  go_wp2_with fail
  go_ret
  exact ⟨_, _, rfl, hp, hb⟩

theorem Archives_tab (w : World) : Calls Try.prog 52 #[] w (GivesTab archTab w) := by
  go_enter Try.func52, Try.ntmps52
  go_wp2_with fail
  refine (archives_tab _).mono ?_
  rintro e w1 ⟨g, c, rfl, hp, hb⟩
  go_wp2_with fail
  go_ret
  exact ⟨_, _, rfl, hp, hb⟩

theorem fontFull : Fulls fontTab := by
  have h : ∀ p ∈ fontTab, p.full = true := by decide +kernel
  exact fun i hi => h _ (List.getElem_mem hi)

theorem archFull : Fulls archTab := by
  have h : ∀ p ∈ archTab, p.full = true := by decide +kernel
  exact fun i hi => h _ (List.getElem_mem hi)

theorem font_any (s : ByteArray) (w : World) (hs : s.size ≤ maxLen) :
    Calls Try.prog 76 #[.string s] w fun e w' => e = .returned (.string (typeP s fontTab)) ∧ Below w.heap.size w w' := by
  have HT := Lib.hid (fun (A : Option Addr) (c : Nat) (w : World) (hA : PatsAt w w.heap.size A fontTab) => Type_any s fontTab A c w hs fontFull.oks (by decide) hA)
  go_enter Try.func76, Try.ntmps76
  go_wp2_with fail
  refine (fonts_tab _).mono ?_
  rintro e w1 ⟨g, c, rfl, hp, hb⟩
  have HP := Lib.hid hp
  have HB := Lib.hid hb
  clear hp hb
  go_wp2_with fail
  refine (HT.out _ _ _ HP.out).mono ?_
  rintro e w2 ⟨rfl, hb2⟩
  go_wp2_with fail
  go_ret
  exact ⟨rfl, HB.out.trans (hb2.mono HB.out.size)⟩

theorem archive_any (s : ByteArray) (w : World) (hs : s.size ≤ maxLen) :
    Calls Try.prog 77 #[.string s] w fun e w' => e = .returned (.string (typeP s archTab)) ∧ Below w.heap.size w w' := by
  have HT := Lib.hid (fun (A : Option Addr) (c : Nat) (w : World) (hA : PatsAt w w.heap.size A archTab) => Type_any s archTab A c w hs archFull.oks (by decide) hA)
  go_enter Try.func77, Try.ntmps77
  go_wp2_with fail
  refine (archives_tab _).mono ?_
  rintro e w1 ⟨g, c, rfl, hp, hb⟩
  have HP := Lib.hid hp
  have HB := Lib.hid hb
  clear hp hb
  go_wp2_with fail
  refine (HT.out _ _ _ HP.out).mono ?_
  rintro e w2 ⟨rfl, hb2⟩
  go_wp2_with fail
  go_ret
  exact ⟨rfl, HB.out.trans (hb2.mono HB.out.size)⟩

theorem Font_any (s : ByteArray) (w : World) (hs : s.size ≤ maxLen) :
    Calls Try.prog 48 #[.string s] w fun e w' => e = .returned (.string (typeP s fontTab)) ∧ Below w.heap.size w w' := by
  go_enter Try.func48, Try.ntmps48
  go_wp2_with (go_at_call 76; refine (font_any _ _ hs).mono ?_; rintro e w' ⟨rfl, hb⟩)
  go_ret
  exact ⟨rfl, hb⟩

theorem Archive_any (s : ByteArray) (w : World) (hs : s.size ≤ maxLen) :
    Calls Try.prog 49 #[.string s] w fun e w' => e = .returned (.string (typeP s archTab)) ∧ Below w.heap.size w w' := by
  go_enter Try.func49, Try.ntmps49
  go_wp2_with (go_at_call 77; refine (archive_any _ _ hs).mono ?_; rintro e w' ⟨rfl, hb⟩)
  go_ret
  exact ⟨rfl, hb⟩

/-- What is told of a font or archive. -/
def eitherP (s : ByteArray) : ByteArray := if findN s fontTab < fontTab.length then typeP s fontTab else typeP s archTab

theorem Either_any (s : ByteArray) (w : World) (hs : s.size ≤ maxLen) :
    Calls Try.prog 47 #[.string s] w fun e w' => e = .returned (.tuple #[.string (eitherP s), .bool (decide (findN s fontTab < fontTab.length))]) ∧ Below w.heap.size w w' := by
  have HF := Lib.hid (fun w => font_any s w hs)
  have HA := Lib.hid (fun w => archive_any s w hs)
  by_cases h : findN s fontTab < fontTab.length
  · have h1 := type_some fontFull h
    have h2 : (typeP s fontTab).toList.isEmpty = false := by rw [List.isEmpty_eq_false_iff]; exact h1
    have HE : Hid (eitherP s = typeP s fontTab) := Lib.hid (if_pos h)
    rw [decide_eq_true h]
    clear h
    rw [HE.out]
    clear HE
    generalize typeP s fontTab = t at *
    go_enter Try.func47, Try.ntmps47
    go_wp2_with (go_at_call 76; refine (HF.out _).mono ?_; rintro e w' ⟨rfl, hb⟩)
    go_ret2
    exact ⟨rfl, hb⟩
  · have h1 := type_none h
    have h2 : (typeP s fontTab).toList.isEmpty = true := by rw [h1]; rfl
    have HE : Hid (eitherP s = typeP s archTab) := Lib.hid (if_neg h)
    rw [decide_eq_false h]
    clear h
    rw [HE.out]
    clear HE
    generalize typeP s fontTab = t at *
    have hb := Below.refl w.heap.size w
    go_enter Try.func47, Try.ntmps47
    go_wp2_with (first | (go_at_call 76; (with_reducible refine (HF.out _).mono ?_); rintro e w' ⟨rfl, hb2⟩; replace hb := below_trans hb hb2; clear hb2) | (go_at_call 77; (with_reducible refine (HA.out _).mono ?_); rintro e w' ⟨rfl, hb2⟩; replace hb := below_trans hb hb2; clear hb2))
    go_ret2
    exact ⟨rfl, hb⟩

set_option maxRecDepth 20000 in
theorem lives15_any (w : World) :
    Calls Try.prog 50 #[] w fun e w' => e = .returned (.bool true) ∧ Below w.heap.size w w' := by
  have h1 : eitherP ⟨#[119, 79, 70, 50]⟩ = ⟨#[102, 111, 110, 116, 47, 119, 111, 102, 102, 50]⟩ := by decide +kernel
  have h2 : decide (findN ⟨#[119, 79, 70, 50]⟩ fontTab < fontTab.length) = true := by decide +kernel
  have h3 : typeP ⟨#[80, 75, 3, 4]⟩ archTab = ⟨#[97, 112, 112, 108, 105, 99, 97, 116, 105, 111, 110, 47, 122, 105, 112]⟩ := by decide +kernel
  have C1 : Hid (∀ w : World, Calls Try.prog 47 #[.string ⟨#[119, 79, 70, 50]⟩] w fun e w' => e = .returned (.tuple #[.string ⟨#[102, 111, 110, 116, 47, 119, 111, 102, 102, 50]⟩, .bool true]) ∧ Below w.heap.size w w') := Lib.hid (fun w => by
    have := Either_any ⟨#[119, 79, 70, 50]⟩ w (by unfold maxLen; decide)
    rwa [h1, h2] at this)
  have C2 : Hid (∀ w : World, Calls Try.prog 49 #[.string ⟨#[80, 75, 3, 4]⟩] w fun e w' => e = .returned (.string ⟨#[97, 112, 112, 108, 105, 99, 97, 116, 105, 111, 110, 47, 122, 105, 112]⟩) ∧ Below w.heap.size w w') := Lib.hid (fun w => by
    have := Archive_any ⟨#[80, 75, 3, 4]⟩ w (by unfold maxLen; decide)
    rwa [h3] at this)
  clear h1 h2 h3
  have hb := Below.refl w.heap.size w
  go_enter Try.func50, Try.ntmps50
  go_wp2_with (first | (go_at_call 47; (with_reducible refine (C1.out _).mono ?_); rintro e w' ⟨rfl, hb2⟩; replace hb := below_trans hb hb2; clear hb2) | (go_at_call 49; (with_reducible refine (C2.out _).mono ?_); rintro e w' ⟨rfl, hb2⟩; replace hb := below_trans hb hb2; clear hb2))
  go_ret
  exact ⟨rfl, hb⟩

/-- So many bytes 0. -/
def zeroB (n : Nat) : ByteArray := ⟨(List.replicate n 0).toArray⟩

theorem zeroB_size (n : Nat) : (zeroB n).size = n := by rw [Lib.size_eq]; simp [zeroB]

theorem zeroB_step (n : Nat) : zeroB n ++ ⟨#[0]⟩ = zeroB (n + 1) := by
  apply ByteArray.ext
  rw [ByteArray.data_append]
  simp only [zeroB]
  apply Array.ext'
  simp [List.replicate_succ']

set_option maxRecDepth 20000 in
theorem rFonts_tab (w : World) : Calls Try.prog 45 #[] w (GivesTab fontTab w) := by
  have H0 : Hid (∀ (b t : ByteArray) (w : World), b.size ≤ 1000 → Calls Try.prog 72 #[.string b, .string t, .int .i64 0, .int .i64 0] w fun e w' => e = .returned (patV (exactP b t 0 0).b (exactP b t 0 0).m (exactP b t 0 0).k (exactP b t 0 0).t) ∧ Below w.heap.size w w') := Lib.hid fun b t w hb => Exact_any b t 0 0 w hb (by decide) (by decide)
  have H1 : Hid (∀ (w : World), Calls Try.prog 72 #[.string (zeroB 34 ++ ⟨#[76, 80]⟩), .string ⟨#[97, 112, 112, 108, 105, 99, 97, 116, 105, 111, 110, 47, 118, 110, 100, 46, 109, 115, 45, 102, 111, 110, 116, 111, 98, 106, 101, 99, 116]⟩, .int .i64 0, .int .i64 34] w fun e w' => e = .returned (patV (exactP ⟨#[0, 0, 0, 0, 0, 0, 0, 0, 0, 0, 0, 0, 0, 0, 0, 0, 0, 0, 0, 0, 0, 0, 0, 0, 0, 0, 0, 0, 0, 0, 0, 0, 0, 0, 76, 80]⟩ ⟨#[97, 112, 112, 108, 105, 99, 97, 116, 105, 111, 110, 47, 118, 110, 100, 46, 109, 115, 45, 102, 111, 110, 116, 111, 98, 106, 101, 99, 116]⟩ 0 34).b (exactP ⟨#[0, 0, 0, 0, 0, 0, 0, 0, 0, 0, 0, 0, 0, 0, 0, 0, 0, 0, 0, 0, 0, 0, 0, 0, 0, 0, 0, 0, 0, 0, 0, 0, 0, 0, 76, 80]⟩ ⟨#[97, 112, 112, 108, 105, 99, 97, 116, 105, 111, 110, 47, 118, 110, 100, 46, 109, 115, 45, 102, 111, 110, 116, 111, 98, 106, 101, 99, 116]⟩ 0 34).m (exactP ⟨#[0, 0, 0, 0, 0, 0, 0, 0, 0, 0, 0, 0, 0, 0, 0, 0, 0, 0, 0, 0, 0, 0, 0, 0, 0, 0, 0, 0, 0, 0, 0, 0, 0, 0, 76, 80]⟩ ⟨#[97, 112, 112, 108, 105, 99, 97, 116, 105, 111, 110, 47, 118, 110, 100, 46, 109, 115, 45, 102, 111, 110, 116, 111, 98, 106, 101, 99, 116]⟩ 0 34).k (exactP ⟨#[0, 0, 0, 0, 0, 0, 0, 0, 0, 0, 0, 0, 0, 0, 0, 0, 0, 0, 0, 0, 0, 0, 0, 0, 0, 0, 0, 0, 0, 0, 0, 0, 0, 0, 76, 80]⟩ ⟨#[97, 112, 112, 108, 105, 99, 97, 116, 105, 111, 110, 47, 118, 110, 100, 46, 109, 115, 45, 102, 111, 110, 116, 111, 98, 106, 101, 99, 116]⟩ 0 34).t) ∧ Below w.heap.size w w') := Lib.hid fun w => by
    have h : zeroB 34 ++ ⟨#[76, 80]⟩ = ⟨#[0, 0, 0, 0, 0, 0, 0, 0, 0, 0, 0, 0, 0, 0, 0, 0, 0, 0, 0, 0, 0, 0, 0, 0, 0, 0, 0, 0, 0, 0, 0, 0, 0, 0, 76, 80]⟩ := by decide +kernel
    rw [h]
    exact Exact_any _ _ 0 34 w (by decide) (by decide) (by decide)
  go_enter Try.func45, Try.ntmps45
  go_wp2_with fail
  go_loop [1, 2] (fun s i => ∃ k : Nat, k ≤ 34 ∧ i = .int .i64 k ∧ s = .string (zeroB k)) (fun _ i => 34 - (intOf i).toNat)
  case atStart => exact ⟨0, by omega, rfl, rfl⟩
  case round =>
    obtain ⟨k, hk, rfl, rfl⟩ := hrel
    by_cases hlt : k < 34
    · have hz := zeroB_size k
      have hst := zeroB_step k
      have HS := Lib.hid hst
      clear hst
      generalize zeroB k = b at *
      go_wp2_with fail
      go_round
      case rel => exact ⟨k + 1, by omega, by go_num, by rw [HS.out]⟩
      case measure => simp [intOf]; omega
    · obtain rfl : k = 34 := by omega
      have hz := zeroB_size 34
      generalize zeroB 34 = b at *
      have hb := Below.refl w.heap.size w
      go_wp2_with (first | (go_at_call 72; (with_reducible refine (H1.out _).mono ?_); rintro e w' ⟨rfl, hb2⟩; replace hb := below_trans hb hb2; clear hb2) | (go_at_call 72; (with_reducible refine (H0.out _ _ _ (by decide)).mono ?_); rintro e w' ⟨rfl, hb2⟩; replace hb := below_trans hb hb2; clear hb2))
      go_ret
      exact ⟨_, _, rfl, patsAt_new _ fontTab _, hb.alloc hb.size _⟩

set_option maxRecDepth 20000 in
theorem rArchives_tab (w : World) : Calls Try.prog 46 #[] w (GivesTab archTab w) := by
  have H0 : Hid (∀ (b t : ByteArray) (w : World), b.size ≤ 1000 → Calls Try.prog 72 #[.string b, .string t, .int .i64 0, .int .i64 0] w fun e w' => e = .returned (patV (exactP b t 0 0).b (exactP b t 0 0).m (exactP b t 0 0).k (exactP b t 0 0).t) ∧ Below w.heap.size w w') := Lib.hid fun b t w hb => Exact_any b t 0 0 w hb (by decide) (by decide)
  have hb := Below.refl w.heap.size w
  go_enter Try.func46, Try.ntmps46
  go_wp2_with (first | (go_at_call 72; (with_reducible refine (H0.out _ _ _ (by decide)).mono ?_); rintro e w' ⟨rfl, hb2⟩; replace hb := below_trans hb hb2; clear hb2))
  go_ret
  exact ⟨_, _, rfl, patsAt_new _ archTab _, hb.alloc hb.size _⟩

end Go.Proofs.Ytcpjokjfjhhndaa
