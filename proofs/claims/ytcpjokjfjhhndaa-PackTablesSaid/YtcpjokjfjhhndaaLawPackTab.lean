/-
  The law PackTables: its walk.
-/
import Derived.Test.YtcpjokjfjhhndaaPackC
import Derived.Test.YtcpjokjfjhhndaaTabGrow
namespace Go.Proofs.Ytcpjokjfjhhndaa
open Go.RowKit
set_option linter.unusedSimpArgs false
set_option linter.unusedVariables false

theorem pack_clash : ∀ p ∈ fontTab.drop 1, ∀ q ∈ archTab, clashP p q = true := by decide +kernel

theorem pats_later {w w' : World} {A : Option Addr} {ps : List Pat} (h : PatsAt w w.heap.size A ps) (hb : Below w.heap.size w w') : PatsAt w' w'.heap.size A ps := (h.below hb).more hb.size

/-- No bytes are a font of another kind than the first, and an archive. -/
theorem pack_apart (x : ByteArray) : (typeP x fontTab).toList = [] ∨ typeP x fontTab = ⟨#[97, 112, 112, 108, 105, 99, 97, 116, 105, 111, 110, 47, 118, 110, 100, 46, 109, 115, 45, 102, 111, 110, 116, 111, 98, 106, 101, 99, 116]⟩ ∨ (typeP x archTab).toList = [] := by
  by_cases h : findN x fontTab < fontTab.length
  · right
    by_cases g : findN x archTab < archTab.length
    · left
      by_cases h0 : findN x fontTab = 0
      · rw [typeP_at h]
        have : ∀ i (hi : i < fontTab.length), i = 0 → fontTab[i].t = ⟨#[97, 112, 112, 108, 105, 99, 97, 116, 105, 111, 110, 47, 118, 110, 100, 46, 109, 115, 45, 102, 111, 110, 116, 111, 98, 106, 101, 99, 116]⟩ := by
          intro i hi e; subst e; rfl
        exact this _ h h0
      · exfalso
        have m1 := findN_spec h
        have m2 := findN_spec g
        have hm : fontTab[findN x fontTab] ∈ fontTab.drop 1 := by
          have e : ∀ i (hi : i < fontTab.length), i ≠ 0 → fontTab[i] ∈ fontTab.drop 1 := by
            intro i hi h0
            obtain ⟨j, rfl⟩ : ∃ j, i = j + 1 := ⟨i - 1, by omega⟩
            have hj : j < (fontTab.drop 1).length := by rw [List.length_drop]; omega
            have := List.getElem_mem hj
            rw [List.getElem_drop] at this
            simpa [Nat.add_comm] using this
          exact e _ h h0
        have hc := pack_clash _ hm _ (List.getElem_mem g)
        have := (clash_match (fontFull _ h) (archFull _ g) hc m1).1
        rw [m2] at this
        cases this
    · right; exact type_none g
  · left; exact type_none h

set_option maxHeartbeats 1000000 in
set_option maxRecDepth 20000 in
theorem packTables_walk (s : ByteArray) (w : World) (hs : s.size ≤ maxLen) :
    Calls Try.prog 10 #[.string s] w fun e w' => e = .returned (.bool true) ∧ Below w.heap.size w w' := by
  have C1 : Hid (∀ (w : World), Calls Try.prog 16 #[.string s, .int .i64 60] w fun e w' => e = .returned (.string (cutB s 60)) ∧ w = w') := Lib.hid (fun w => Cut_any s 60 w hs (by decide))
  have hx := cutB_size s 60
  generalize cutB s 60 = x at *
  have hxm : x.size ≤ maxLen := by unfold maxLen; omega
  have F1 := Lib.hid (fun w => Font_any x w hxm)
  have A1 := Lib.hid (fun w => Archive_any x w hxm)
  have S1 := Lib.hid (fun (A A2 : Option Addr) (c c2 : Nat) (w : World) (hA : PatsAt w w.heap.size A fontTab) (hA2 : PatsAt w w.heap.size A2 fontTab) => rSame_any fontTab A A2 c c2 w (by decide) hA hA2)
  have S2 := Lib.hid (fun (A A2 : Option Addr) (c c2 : Nat) (w : World) (hA : PatsAt w w.heap.size A archTab) (hA2 : PatsAt w w.heap.size A2 archTab) => rSame_any archTab A A2 c c2 w (by decide) hA hA2)
  have hb := Below.refl w.heap.size w
  have hap := pack_apart x
  generalize typeP x fontTab = t at *
  generalize typeP x archTab = u at *
  rcases hap with h1 | rfl | h1
  all_goals
    try (have h2 : t.toList.isEmpty = true := by rw [h1]; rfl)
    try (have h2 : u.toList.isEmpty = true := by rw [h1]; rfl)
    go_enter Try.func10, Try.ntmps10
    go_upto_region 2 with (go_at_call 16; (with_reducible refine (C1.out _).mono ?_); rintro e w' ⟨rfl, rfl⟩)
    go_wp2_with (first | (go_at_call 48; (with_reducible refine (F1.out _).mono ?_); rintro e w' ⟨rfl, hb2⟩; replace hb := below_trans hb hb2; clear hb2) | (go_at_call 49; (with_reducible refine (A1.out _).mono ?_); rintro e w' ⟨rfl, hb2⟩; replace hb := below_trans hb hb2; clear hb2))
    all_goals
      refine (Fonts_tab _).mono ?_
      rintro e w1 ⟨g, c, rfl, hp, hb1⟩
      replace hb := below_trans hb hb1
      have HP := Lib.hid hp
      clear hp hb1
      go_wp2_with fail
      refine (rFonts_tab _).mono ?_
      rintro e w2 ⟨g2, c2, rfl, hp, hb1⟩
      replace hb := below_trans hb hb1
      have HP2 := Lib.hid hp
      have HP1 := Lib.hid (pats_later HP.out hb1)
      clear hp hb1 HP
      go_wp2_with (go_at_call 34; (with_reducible refine (S1.out _ _ _ _ _ HP1.out HP2.out).mono ?_); rintro e w2 ⟨rfl, hb2⟩; replace hb := below_trans hb hb2; clear hb2)
      refine (Archives_tab _).mono ?_
      rintro e w3 ⟨g3, c3, rfl, hp, hb1⟩
      replace hb := below_trans hb hb1
      have HP3 := Lib.hid hp
      clear hp hb1
      go_wp2_with fail
      refine (rArchives_tab _).mono ?_
      rintro e w4 ⟨g4, c4, rfl, hp, hb1⟩
      replace hb := below_trans hb hb1
      have HP4 := Lib.hid hp
      have HP5 := Lib.hid (pats_later HP3.out hb1)
      clear hp hb1 HP3
      go_wp2_with (first | (go_at_call 34; (with_reducible refine (S2.out _ _ _ _ _ HP5.out HP4.out).mono ?_); rintro e w2 ⟨rfl, hb2⟩; replace hb := below_trans hb hb2; clear hb2) | (go_at_call 50; (with_reducible refine (lives15_any _).mono ?_); rintro e w' ⟨rfl, hb2⟩; replace hb := below_trans hb hb2; clear hb2))
      go_ret
      exact ⟨rfl, hb⟩

end Go.Proofs.Ytcpjokjfjhhndaa
