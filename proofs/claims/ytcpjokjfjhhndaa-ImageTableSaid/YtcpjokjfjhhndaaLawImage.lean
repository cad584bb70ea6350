/-
  The law ImageTypes: its walk.
-/
import Derived.Test.YtcpjokjfjhhndaaImageB
namespace Go.Proofs.Ytcpjokjfjhhndaa
open Go.RowKit
set_option linter.unusedSimpArgs false
set_option linter.unusedVariables false

set_option maxRecDepth 20000 in
theorem lives13_any (w : World) :
    Calls Try.prog 59 #[] w fun e w' => e = .returned (.bool true) ∧ Below w.heap.size w w' := by
  have h1 : typeP ⟨#[71, 73, 70, 56, 57, 97, 46, 46]⟩ imgTable = ⟨#[105, 109, 97, 103, 101, 47, 103, 105, 102]⟩ := by decide +kernel
  have h2 : anyP ⟨#[66, 77]⟩ imgTable = true := by decide +kernel
  have h3 : anyP ⟨#[66]⟩ imgTable = false := by decide +kernel
  have C1 : Hid (∀ w : World, Calls Try.prog 58 #[.string ⟨#[71, 73, 70, 56, 57, 97, 46, 46]⟩] w fun e w' => e = .returned (.string ⟨#[105, 109, 97, 103, 101, 47, 103, 105, 102]⟩) ∧ Below w.heap.size w w') := Lib.hid (fun w => by
    have := Type_img ⟨#[71, 73, 70, 56, 57, 97, 46, 46]⟩ w (by unfold maxLen; decide)
    rwa [h1] at this)
  have C2 : Hid (∀ w : World, Calls Try.prog 60 #[.string ⟨#[66, 77]⟩] w fun e w' => e = .returned (.bool true) ∧ Below w.heap.size w w') := Lib.hid (fun w => by
    have := Is_img ⟨#[66, 77]⟩ w (by unfold maxLen; decide)
    rwa [h2] at this)
  have C3 : Hid (∀ w : World, Calls Try.prog 60 #[.string ⟨#[66]⟩] w fun e w' => e = .returned (.bool false) ∧ Below w.heap.size w w') := Lib.hid (fun w => by
    have := Is_img ⟨#[66]⟩ w (by unfold maxLen; decide)
    rwa [h3] at this)
  clear h1 h2 h3
  have hb := Below.refl w.heap.size w
  go_enter Try.func59, Try.ntmps59
  go_wp2_with (first | (go_at_call 58; (with_reducible refine (C1.out _).mono ?_); rintro e w' ⟨rfl, hb2⟩; replace hb := below_trans hb hb2; clear hb2) | (go_at_call 60; (with_reducible refine (C2.out _).mono ?_); rintro e w' ⟨rfl, hb2⟩; replace hb := below_trans hb hb2; clear hb2) | (go_at_call 60; (with_reducible refine (C3.out _).mono ?_); rintro e w' ⟨rfl, hb2⟩; replace hb := below_trans hb hb2; clear hb2))
  go_ret
  exact ⟨rfl, hb⟩

set_option maxHeartbeats 1000000 in
set_option maxRecDepth 20000 in
theorem imageTypes_walk (s : ByteArray) (w : World) (hs : s.size ≤ maxLen) :
    Calls Try.prog 14 #[.string s] w fun e w' => e = .returned (.bool true) ∧ Below w.heap.size w w' := by
  have C100 : Hid (∀ (w : World), Calls Try.prog 16 #[.string s, .int .i64 100] w fun e w' => e = .returned (.string (cutB s 100)) ∧ w = w') := Lib.hid (fun w => Cut_any s 100 w hs (by decide))
  have hx := cutB_size s 100
  generalize cutB s 100 = x at *
  have hx1000 : x.size ≤ 1000 := by omega
  have hxm : x.size ≤ maxLen := by unfold maxLen; omega
  have T1 := Lib.hid (fun w => Type_img x w hxm)
  have T2 := Lib.hid (fun (A : Option Addr) (c : Nat) (w : World) (hA : PatsAt w w.heap.size A imgTable) => rType_any x imgTable A c w hxm imgFull.oks (by decide) hA)
  have N1 := Lib.hid (fun w => Needs_img x w hx1000)
  have N2 := Lib.hid (fun (A : Option Addr) (c : Nat) (w : World) (hA : PatsAt w w.heap.size A imgTable) => rNeeds_any x imgTable A c w hx1000 imgFull (by decide) hA)
  have O1 := Lib.hid (fun w => Open_img x w hx1000)
  have I1 := Lib.hid (fun w => Is_img x w hxm)
  have HTN : (anyP x imgTable = true → (typeP x imgTable).toList ≠ []) ∧ (anyP x imgTable = false → (typeP x imgTable).toList = []) := by
    unfold anyP
    exact ⟨fun h => type_some imgFull (of_decide_eq_true h), fun h => type_none (of_decide_eq_false h)⟩
  have HT := Lib.hid HTN
  clear HTN hx
  generalize anyP x imgTable = a at *
  generalize typeP x imgTable = t at *
  generalize needsN x imgTable = n at *
  have hb := Below.refl w.heap.size w
  have main : ∀ (b : Bool), decide (0 < n) = b → Calls Try.prog 14 #[.string s] w fun e w' => e = .returned (.bool true) ∧ Below w.heap.size w w' := by
    intro b hbn
    have HBN := Lib.hid hbn
    have O2 := O1.out
    rw [hbn] at O2
    have OO := Lib.hid O2
    clear O2 O1
    have hn : if b then 0 < n else n = 0 := by cases b <;> simp at hbn ⊢ <;> omega
    clear hbn
    cases a
    · have h1 := HT.out.2 rfl
      have h2 : t.toList.isEmpty = true := by rw [h1]; rfl
      clear HT
      cases b
      · simp at hn
        subst hn
        have N3 : Hid (∀ w : World, Calls Try.prog 62 #[.string x] w fun e w' => e = .returned (.int .i64 0) ∧ Below w.heap.size w w') := Lib.hid N1.out
        have N4 : Hid (∀ (A : Option Addr) (c : Nat) (w : World), PatsAt w w.heap.size A imgTable → Calls Try.prog 43 #[.string x, .slice A imgTable.length c] w fun e w' => e = .returned (.int .i64 0) ∧ Below w.heap.size w w') := Lib.hid N2.out
        clear N1 N2 HBN
        go_enter Try.func14, Try.ntmps14
        go_upto_region 2 with (go_at_call 16; (with_reducible refine (C100.out _).mono ?_); rintro e w' ⟨rfl, rfl⟩)
        go_wp2_with fail
        refine (rTable_img _).mono ?_
        rintro e w1 ⟨g, c, rfl, hp, hb1⟩
        replace hb := below_trans hb hb1
        have HP := Lib.hid hp
        clear hp hb1
        go_wp2_with (go_at_call 40; refine (T2.out _ _ _ HP.out).mono ?_; rintro e w2 ⟨rfl, hb2⟩; replace hb := below_trans hb hb2; clear hb2)
        refine (rTable_img _).mono ?_
        rintro e w3 ⟨g2, c2, rfl, hp, hb1⟩
        replace hb := below_trans hb hb1
        have HP2 := Lib.hid hp
        clear hp hb1
        go_wp2_with (first | (go_at_call 43; refine (N4.out _ _ _ HP2.out).mono ?_; rintro e w2 ⟨rfl, hb2⟩; replace hb := below_trans hb hb2; clear hb2) | (go_at_call 58; (with_reducible refine (T1.out _).mono ?_); rintro e w' ⟨rfl, hb2⟩; replace hb := below_trans hb hb2; clear hb2) | (go_at_call 60; (with_reducible refine (I1.out _).mono ?_); rintro e w' ⟨rfl, hb2⟩; replace hb := below_trans hb hb2; clear hb2) | (go_at_call 61; (with_reducible refine (OO.out _).mono ?_); rintro e w' ⟨rfl, hb2⟩; replace hb := below_trans hb hb2; clear hb2) | (go_at_call 62; (with_reducible refine (N3.out _).mono ?_); rintro e w' ⟨rfl, hb2⟩; replace hb := below_trans hb hb2; clear hb2) | (go_at_call 59; (with_reducible refine (lives13_any _).mono ?_); rintro e w' ⟨rfl, hb2⟩; replace hb := below_trans hb hb2; clear hb2))
        go_ret
        exact ⟨rfl, hb⟩
      · simp at hn
        clear HBN
        go_enter Try.func14, Try.ntmps14
        go_upto_region 2 with (go_at_call 16; (with_reducible refine (C100.out _).mono ?_); rintro e w' ⟨rfl, rfl⟩)
        go_wp2_with fail
        refine (rTable_img _).mono ?_
        rintro e w1 ⟨g, c, rfl, hp, hb1⟩
        replace hb := below_trans hb hb1
        have HP := Lib.hid hp
        clear hp hb1
        go_wp2_with (go_at_call 40; refine (T2.out _ _ _ HP.out).mono ?_; rintro e w2 ⟨rfl, hb2⟩; replace hb := below_trans hb hb2; clear hb2)
        refine (rTable_img _).mono ?_
        rintro e w3 ⟨g2, c2, rfl, hp, hb1⟩
        replace hb := below_trans hb hb1
        have HP2 := Lib.hid hp
        clear hp hb1
        go_wp2_with (first | (go_at_call 43; refine (N2.out _ _ _ HP2.out).mono ?_; rintro e w2 ⟨rfl, hb2⟩; replace hb := below_trans hb hb2; clear hb2) | (go_at_call 58; (with_reducible refine (T1.out _).mono ?_); rintro e w' ⟨rfl, hb2⟩; replace hb := below_trans hb hb2; clear hb2) | (go_at_call 60; (with_reducible refine (I1.out _).mono ?_); rintro e w' ⟨rfl, hb2⟩; replace hb := below_trans hb hb2; clear hb2) | (go_at_call 61; (with_reducible refine (OO.out _).mono ?_); rintro e w' ⟨rfl, hb2⟩; replace hb := below_trans hb hb2; clear hb2) | (go_at_call 62; (with_reducible refine (N1.out _).mono ?_); rintro e w' ⟨rfl, hb2⟩; replace hb := below_trans hb hb2; clear hb2) | (go_at_call 59; (with_reducible refine (lives13_any _).mono ?_); rintro e w' ⟨rfl, hb2⟩; replace hb := below_trans hb hb2; clear hb2))
        go_ret
        exact ⟨rfl, hb⟩
    · have h1 := HT.out.1 rfl
      have h2 : t.toList.isEmpty = false := by rw [List.isEmpty_eq_false_iff]; exact h1
      clear HT
      cases b
      · simp at hn
        subst hn
        have N3 : Hid (∀ w : World, Calls Try.prog 62 #[.string x] w fun e w' => e = .returned (.int .i64 0) ∧ Below w.heap.size w w') := Lib.hid N1.out
        have N4 : Hid (∀ (A : Option Addr) (c : Nat) (w : World), PatsAt w w.heap.size A imgTable → Calls Try.prog 43 #[.string x, .slice A imgTable.length c] w fun e w' => e = .returned (.int .i64 0) ∧ Below w.heap.size w w') := Lib.hid N2.out
        clear N1 N2 HBN
        go_enter Try.func14, Try.ntmps14
        go_upto_region 2 with (go_at_call 16; (with_reducible refine (C100.out _).mono ?_); rintro e w' ⟨rfl, rfl⟩)
        go_wp2_with fail
        refine (rTable_img _).mono ?_
        rintro e w1 ⟨g, c, rfl, hp, hb1⟩
        replace hb := below_trans hb hb1
        have HP := Lib.hid hp
        clear hp hb1
        go_wp2_with (go_at_call 40; refine (T2.out _ _ _ HP.out).mono ?_; rintro e w2 ⟨rfl, hb2⟩; replace hb := below_trans hb hb2; clear hb2)
        refine (rTable_img _).mono ?_
        rintro e w3 ⟨g2, c2, rfl, hp, hb1⟩
        replace hb := below_trans hb hb1
        have HP2 := Lib.hid hp
        clear hp hb1
        go_wp2_with (first | (go_at_call 43; refine (N4.out _ _ _ HP2.out).mono ?_; rintro e w2 ⟨rfl, hb2⟩; replace hb := below_trans hb hb2; clear hb2) | (go_at_call 58; (with_reducible refine (T1.out _).mono ?_); rintro e w' ⟨rfl, hb2⟩; replace hb := below_trans hb hb2; clear hb2) | (go_at_call 60; (with_reducible refine (I1.out _).mono ?_); rintro e w' ⟨rfl, hb2⟩; replace hb := below_trans hb hb2; clear hb2) | (go_at_call 61; (with_reducible refine (OO.out _).mono ?_); rintro e w' ⟨rfl, hb2⟩; replace hb := below_trans hb hb2; clear hb2) | (go_at_call 62; (with_reducible refine (N3.out _).mono ?_); rintro e w' ⟨rfl, hb2⟩; replace hb := below_trans hb hb2; clear hb2) | (go_at_call 59; (with_reducible refine (lives13_any _).mono ?_); rintro e w' ⟨rfl, hb2⟩; replace hb := below_trans hb hb2; clear hb2))
        go_ret
        exact ⟨rfl, hb⟩
      · simp at hn
        clear HBN
        go_enter Try.func14, Try.ntmps14
        go_upto_region 2 with (go_at_call 16; (with_reducible refine (C100.out _).mono ?_); rintro e w' ⟨rfl, rfl⟩)
        go_wp2_with fail
        refine (rTable_img _).mono ?_
        rintro e w1 ⟨g, c, rfl, hp, hb1⟩
        replace hb := below_trans hb hb1
        have HP := Lib.hid hp
        clear hp hb1
        go_wp2_with (go_at_call 40; refine (T2.out _ _ _ HP.out).mono ?_; rintro e w2 ⟨rfl, hb2⟩; replace hb := below_trans hb hb2; clear hb2)
        refine (rTable_img _).mono ?_
        rintro e w3 ⟨g2, c2, rfl, hp, hb1⟩
        replace hb := below_trans hb hb1
        have HP2 := Lib.hid hp
        clear hp hb1
        go_wp2_with (first | (go_at_call 43; refine (N2.out _ _ _ HP2.out).mono ?_; rintro e w2 ⟨rfl, hb2⟩; replace hb := below_trans hb hb2; clear hb2) | (go_at_call 58; (with_reducible refine (T1.out _).mono ?_); rintro e w' ⟨rfl, hb2⟩; replace hb := below_trans hb hb2; clear hb2) | (go_at_call 60; (with_reducible refine (I1.out _).mono ?_); rintro e w' ⟨rfl, hb2⟩; replace hb := below_trans hb hb2; clear hb2) | (go_at_call 61; (with_reducible refine (OO.out _).mono ?_); rintro e w' ⟨rfl, hb2⟩; replace hb := below_trans hb hb2; clear hb2) | (go_at_call 62; (with_reducible refine (N1.out _).mono ?_); rintro e w' ⟨rfl, hb2⟩; replace hb := below_trans hb hb2; clear hb2) | (go_at_call 59; (with_reducible refine (lives13_any _).mono ?_); rintro e w' ⟨rfl, hb2⟩; replace hb := below_trans hb hb2; clear hb2))
        go_ret
        exact ⟨rfl, hb⟩
  exact main _ rfl

end Go.Proofs.Ytcpjokjfjhhndaa
