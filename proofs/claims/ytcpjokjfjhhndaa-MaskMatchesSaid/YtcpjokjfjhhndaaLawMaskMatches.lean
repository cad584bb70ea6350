/-
  The law MaskMatches: its walk.
-/
import Derived.Test.YtcpjokjfjhhndaaMaskFew
import Derived.Deep.DeepCutAuto
import Derived.Deep.RegionWith
import Derived.Test.YtcpjokjfjhhndaaQuietIn
namespace Go.Proofs.Ytcpjokjfjhhndaa
open Go.RowKit
set_option linter.unusedSimpArgs false
set_option linter.unusedVariables false

set_option maxHeartbeats 1000000 in
set_option maxRecDepth 20000 in
theorem maskMatches_walk (s b m k t more : ByteArray) (w : World) (hs : s.size ≤ maxLen) (hb : b.size ≤ maxLen) (hm : m.size ≤ maxLen) (hk : k.size ≤ maxLen) (ht : t.size ≤ maxLen) (hmo : more.size ≤ maxLen) :
    Calls Try.prog 4 #[.string s, patV b m k t, .string more] w fun e w' => e = .returned (.bool true) ∧ Below w.heap.size w w' := by
  go_enter Try.func4, Try.ntmps4
  go_upto_region 1 with fail
  generalize hW : w.alloc (.cells #[.string b, .string m, .string k, .string t] 25) = W
  have q0 : W.cell? ⟨w.heap.size, 0, none⟩ = some (.string b) := by rw [← hW]; simp [go_sem]
  have q1 : W.cell? ⟨w.heap.size, 1, none⟩ = some (.string m) := by rw [← hW]; simp [go_sem]
  have q2 : W.cell? ⟨w.heap.size, 2, none⟩ = some (.string k) := by rw [← hW]; simp [go_sem]
  have q3 : W.cell? ⟨w.heap.size, 3, none⟩ = some (.string t) := by rw [← hW]; simp [go_sem]
  have fz : ∀ o, W.frozen? ⟨w.heap.size, o, none⟩ = false := by rw [← hW]; intro o; simp [go_sem]
  have z1 : w.heap.size < W.heap.size := by rw [← hW]; simp
  have HB := Lib.hid (show Below w.heap.size w W from by rw [← hW]; exact below_box _ _)
  have f0 := fz 0
  have f1 := fz 1
  have f2 := fz 2
  have f3 := fz 3
  clear hW fz
  have C150 : Hid (∀ (w : World), Calls Try.prog 16 #[.string s, .int .i64 150] w fun e w' => e = .returned (.string (cutB s 150)) ∧ w = w') := Lib.hid (fun w => Cut_any s 150 w hs (by decide))
  have C100 : Hid (∀ (w : World), Calls Try.prog 16 #[.string more, .int .i64 100] w fun e w' => e = .returned (.string (cutB more 100)) ∧ w = w') := Lib.hid (fun w => Cut_any more 100 w hmo (by decide))
  have CF := Lib.hid (fun (w : World) => Few_any b m k t w hb hm hk ht)
  go_upto_region 1 with fail
  go_cut [0, 2] (fun s0 s2 wx => s0 = .string (cutB s 150) ∧ s2 = .string (cutB more 100) ∧ Texts4 w.heap.size (cutB b 70) (cutB m 70) (cutB k 20) (cutB t 40) wx ∧ Below w.heap.size w wx)
  case first =>
    go_region_with (first | (go_at_call 16; (with_reducible refine (C150.out _).mono ?_); rintro e w' ⟨rfl, rfl⟩) | (go_at_call 16; (with_reducible refine (C100.out _).mono ?_); rintro e w' ⟨rfl, rfl⟩) | (go_at_call 17; refine (CF.out _).mono ?_; rintro e w1 ⟨rfl, hb0⟩; have hb1 := below_undrew hb0; clear hb0; have s0 := (cell_below (o := 0) hb1 z1).trans q0; have s1 := (cell_below (o := 1) hb1 z1).trans q1; have s2 := (cell_below (o := 2) hb1 z1).trans q2; have s3 := (cell_below (o := 3) hb1 z1).trans q3; have g0 := (frozen_below (o := 0) hb1 z1).trans f0; have g1 := (frozen_below (o := 1) hb1 z1).trans f1; have g2 := (frozen_below (o := 2) hb1 z1).trans f2; have g3 := (frozen_below (o := 3) hb1 z1).trans f3))
    all_goals go_wp2_with fail
    all_goals go_meet
    all_goals exact ⟨rfl, rfl, ⟨by simpa [World.setCell] using Nat.lt_of_lt_of_le z1 hb1.size, by simp [go_sem, s0, s1, s2, s3], by simp [go_sem, s0, s1, s2, s3], by simp [go_sem, s0, s1, s2, s3], by simp [go_sem, s0, s1, s2, s3]⟩, ((((HB.out.trans (hb1.mono HB.out.size)).setCell (Nat.le_refl _) _).setCell (Nat.le_refl _) _).setCell (Nat.le_refl _) _).setCell (Nat.le_refl _) _⟩
  obtain ⟨rfl, rfl, ⟨z2, p0, p1, p2, p3⟩, hB2⟩ := hcut
  obtain ⟨W2, rfl⟩ : ∃ W2 : World, W2 = wc := ⟨_, rfl⟩
  have ha := cutB_size s 150
  have hb' := cutB_size b 70
  have hm' := cutB_size m 70
  have hk' := cutB_size k 20
  have ht' := cutB_size t 40
  have hmo' := cutB_size more 100
  generalize cutB s 150 = a at *
  generalize cutB b 70 = b2 at *
  generalize cutB m 70 = m2 at *
  generalize cutB k 20 = k2 at *
  generalize cutB t 40 = t2 at *
  generalize cutB more 100 = mo at *
  have a1 : a.size ≤ 150 := by omega
  have a2 : mo.size ≤ 100 := by omega
  have b1 : a.size ≤ maxLen := by omega
  have b3 : b2.size ≤ maxLen := by omega
  have b4 : m2.size ≤ maxLen := by omega
  have b5 : k2.size ≤ maxLen := by omega
  have HB2 := Lib.hid hB2
  clear ha hb' hm' hk' ht' hmo' hB2 q0 q1 q2 q3 f0 f1 f2 f3 C150 C100 CF HB z1 hs hb hm hk ht hmo
  obtain ⟨is, his⟩ : ∃ r, matchB a b2 m2 k2 = r := ⟨_, rfl⟩
  obtain ⟨op, hop⟩ : ∃ r, openB a b2 m2 k2 = r := ⟨_, rfl⟩
  have HI := Lib.hid his
  have HO := Lib.hid hop
  clear his hop
  have CM : Hid (∀ w, Calls Try.prog 22 #[.string a, patV b2 m2 k2 t2] w fun e w' => e = .returned (.bool is) ∧ Below w.heap.size w w') := Lib.hid (fun w => by rw [← HI.out]; exact Match_any a b2 m2 k2 t2 w b1 b3 b4)
  have CO : Hid (∀ w, Calls Try.prog 23 #[.string a, patV b2 m2 k2 t2] w fun e w' => e = .returned (.bool op) ∧ Below w.heap.size w w') := Lib.hid (fun w => by rw [← HO.out]; exact Open_any a b2 m2 k2 t2 w b1 b3 b4)
  have CR : Hid (∀ w, Calls Try.prog 28 #[.string a, patV b2 m2 k2 t2] w fun e w' => e = .returned (.bool is) ∧ Below w.heap.size w w') := Lib.hid (fun w => by rw [← HI.out]; exact rMatch_any a b2 m2 k2 t2 w b1 b3 b4 b5)
  go_upto_region 2 with fail
  go_cut [7, 8] (fun s7 s8 wx => s7 = .bool is ∧ s8 = .bool op ∧ Below W2.heap.size W2 wx)
  case first =>
    have hx := @InB.cells W2
    refine wp_region_inb (by kernel_rfl) (by kernel_rfl) ?_; (repeat (first | go_big_quiet_skip | (go_big_quiet_want; go_big_quiet_op; first | go_big_quiet_on | (apply Exists.intro; refine ⟨fun x => ?_, ?_⟩; (· ((first | (go_at_call 22; exact inb_call _ (CM.out _)) | (go_at_call 23; exact inb_call _ (CO.out _))))); go_big_quiet_on)))); refine wpQuiet_nil ?_; intro _ hw'; obtain ⟨⟨wq, hbq⟩, rfl⟩ := hw'
    go_wp2_with fail
    go_meet
    exact ⟨rfl, rfl, hbq⟩
  obtain ⟨rfl, rfl, hb3⟩ := hcut
  obtain ⟨W3, rfl⟩ : ∃ W3 : World, W3 = wc := ⟨_, rfl⟩
  have z3 : w.heap.size < W3.heap.size := Nat.lt_of_lt_of_le z2 hb3.size
  rw [← cell_below hb3 z2] at p0 p1 p2 p3
  have HB3 := Lib.hid (HB2.out.trans (hb3.mono HB2.out.size))
  clear hb3 z2 CM CO
  obtain ⟨g, hg⟩ : ∃ r, goodM b2 m2 = r := ⟨_, rfl⟩
  have HG := Lib.hid hg
  clear hg
  have CG : Hid (∀ w, Calls Try.prog 24 #[patV b2 m2 k2 t2] w fun e w' => e = .returned (.bool g) ∧ Below w.heap.size w w') := Lib.hid (fun w => by rw [← HG.out]; exact Good_mask b2 m2 k2 t2 w b3 b4)
  have CH : Hid (∀ w, Calls Try.prog 25 #[patV b2 m2 k2 t2] w fun e w' => e = .returned (.bool g) ∧ Below w.heap.size w w') := Lib.hid (fun w => by rw [← HG.out]; exact rGood_mask b2 m2 k2 t2 w b3 b4)
  have CB := Lib.hid (fun w => Begins_mask a b2 m2 k2 t2 w b1)
  have CC := Lib.hid (fun w => rBegins_any a b2 m2 k2 t2 w b1 b5)
  generalize aheadN a k2 = n at *
  go_upto_region 3 with fail
  go_cut [43] (fun s43 wx => s43 = .bool false ∧ Below W3.heap.size W3 wx)
  case first =>
    have hx := @InB.cells W3
    refine wp_region_inb (by kernel_rfl) (by kernel_rfl) ?_; (repeat (first | go_big_quiet_skip | (go_big_quiet_want; go_big_quiet_op; first | go_big_quiet_on | (apply Exists.intro; refine ⟨fun x => ?_, ?_⟩; (· ((first | (go_at_call 24; exact inb_call _ (CG.out _)) | (go_at_call 25; exact inb_call _ (CH.out _)) | (go_at_call 26; exact inb_call _ (CB.out _)) | (go_at_call 27; exact inb_call _ (CC.out _)) | (go_at_call 28; exact inb_call _ (CR.out _))))); go_big_quiet_on)))); refine wpQuiet_nil ?_; intro _ hw'; obtain ⟨⟨wq, hbq⟩, rfl⟩ := hw'
    go_wp2_with fail
    go_meet
    exact ⟨rfl, hbq⟩
  obtain ⟨rfl, hb4⟩ := hcut
  obtain ⟨W4, rfl⟩ : ∃ W4 : World, W4 = wc := ⟨_, rfl⟩
  have z4 : w.heap.size < W4.heap.size := Nat.lt_of_lt_of_le z3 hb4.size
  rw [← cell_below hb4 z3] at p0 p1 p2 p3
  have HB4 := Lib.hid (HB3.out.trans (hb4.mono HB3.out.size))
  clear hb4 z3 CG CB CC CR
  cases g
  · have e : op = false := by rw [← HO.out]; simp [openB, HG.out]
    subst e
    go_wp2_with (first | (go_at_call 25; refine (CH.out _).mono ?_; rintro e w5 ⟨rfl, hb5⟩) | (go_at_call 21; refine (lives06_any _).mono ?_; rintro e w6 ⟨rfl, hb6⟩))
    go_ret
    have h5 := HB4.out.trans (hb5.mono HB4.out.size)
    exact ⟨rfl, h5.trans (hb6.mono h5.size)⟩
  · have hmm := goodM_eq HG.out
    have CI := Lib.hid (fun w => rIs_any a b2 m2 k2 t2 w b1 b3 b5 hmm)
    have e1 : is = (agreeL (restM a k2).data.toList b2.data.toList m2.data.toList && decide (b2.size ≤ (restM a k2).size)) := by rw [← HI.out, matchB, HG.out, matchL_eq]; rfl
    have e2 : op = (agreeL (restM a k2).data.toList b2.data.toList m2.data.toList && decide ((restM a k2).size < b2.size)) := by rw [← HO.out, openB, HG.out, openL_eq]; rfl
    have e3 : decide ((restM a k2).size < b2.size) = !decide (b2.size ≤ (restM a k2).size) := by rw [Bool.eq_iff_iff]; simp
    rw [e3] at e2
    have hne : b2.data.toList ≠ [] := by
      intro e
      have := HG.out
      unfold goodM at this
      rw [decide_eq_true_eq, Lib.size_eq, e] at this
      simp at this
    have HNE := Lib.hid hne
    have HMM : Hid (m2.data.toList.length = b2.data.toList.length) := Lib.hid (by rw [← Lib.size_eq, ← Lib.size_eq]; exact hmm)
    clear hmm hne e3
    have CX : Hid (∀ w, Calls Try.prog 22 #[.string (a ++ mo), patV b2 m2 k2 t2] w fun e w' => e = .returned (.bool (matchB (a ++ mo) b2 m2 k2)) ∧ Below w.heap.size w w') := Lib.hid (fun w => Match_any (a ++ mo) b2 m2 k2 t2 w (by rw [ByteArray.size_append]; unfold maxLen; omega) b3 b4)
    have HX : Hid (matchB (a ++ mo) b2 m2 k2 = matchL (a.data.toList ++ mo.data.toList) b2.data.toList m2.data.toList k2.data.toList) := Lib.hid (by rw [matchB, HG.out]; simp)
    generalize matchB (a ++ mo) b2 m2 k2 = mx at *
    generalize decide (b2.size ≤ (restM a k2).size) = D at *
    generalize agreeL (restM a k2).data.toList b2.data.toList m2.data.toList = A at *
    cases A <;> cases D
    all_goals simp only [Bool.and_true, Bool.and_false, Bool.not_true, Bool.not_false] at e1 e2
    all_goals subst e1 e2
    · have m1 : matchL a.data.toList b2.data.toList m2.data.toList k2.data.toList = false := by
        have := HI.out
        rwa [matchB, HG.out, Bool.true_and] at this
      have m2' : openL a.data.toList b2.data.toList m2.data.toList k2.data.toList = false := by
        have := HO.out
        rwa [openB, HG.out, Bool.true_and] at this
      have m3 : mx = false := by rw [HX.out]; exact matchL_none _ _ _ _ _ m1 m2'
      subst m3
      clear m1 m2'
      go_wp2_with fail
      refine (CH.out _).mono ?_
      rintro e w5 ⟨rfl, hb5⟩
      have z5 : w.heap.size < w5.heap.size := Nat.lt_of_lt_of_le z4 hb5.size
      rw [← cell_below hb5 z4] at p0 p1 p2 p3
      have B5 := HB4.out.trans (hb5.mono HB4.out.size)
      go_wp2_with fail
      refine (CI.out _).mono ?_
      rintro e w6 ⟨rfl, hb6⟩
      have z6 : w.heap.size < w6.heap.size := Nat.lt_of_lt_of_le z5 hb6.size
      rw [← cell_below hb6 z5] at p0 p1 p2 p3
      have B6 := Lib.hid (B5.trans (hb6.mono B5.size))
      clear hb5 hb6 B5 z4 z5
      simp only [Bool.and_true, Bool.and_false]
      go_wp2_with fail
      refine (CX.out _).mono ?_
      rintro e w7 ⟨rfl, hb7⟩
      go_wp2_with (go_at_call 21; refine (lives06_any _).mono ?_; rintro e w8 ⟨rfl, hb8⟩)
      go_ret
      have h7 := B6.out.trans (hb7.mono B6.out.size)
      exact ⟨rfl, h7.trans (hb8.mono h7.size)⟩
    · have m1 : matchL a.data.toList b2.data.toList m2.data.toList k2.data.toList = false := by
        have := HI.out
        rwa [matchB, HG.out, Bool.true_and] at this
      have m2' : openL a.data.toList b2.data.toList m2.data.toList k2.data.toList = false := by
        have := HO.out
        rwa [openB, HG.out, Bool.true_and] at this
      have m3 : mx = false := by rw [HX.out]; exact matchL_none _ _ _ _ _ m1 m2'
      subst m3
      clear m1 m2'
      go_wp2_with fail
      refine (CH.out _).mono ?_
      rintro e w5 ⟨rfl, hb5⟩
      have z5 : w.heap.size < w5.heap.size := Nat.lt_of_lt_of_le z4 hb5.size
      rw [← cell_below hb5 z4] at p0 p1 p2 p3
      have B5 := HB4.out.trans (hb5.mono HB4.out.size)
      go_wp2_with fail
      refine (CI.out _).mono ?_
      rintro e w6 ⟨rfl, hb6⟩
      have z6 : w.heap.size < w6.heap.size := Nat.lt_of_lt_of_le z5 hb6.size
      rw [← cell_below hb6 z5] at p0 p1 p2 p3
      have B6 := Lib.hid (B5.trans (hb6.mono B5.size))
      clear hb5 hb6 B5 z4 z5
      simp only [Bool.and_true, Bool.and_false]
      go_wp2_with fail
      refine (CX.out _).mono ?_
      rintro e w7 ⟨rfl, hb7⟩
      go_wp2_with (go_at_call 21; refine (lives06_any _).mono ?_; rintro e w8 ⟨rfl, hb8⟩)
      go_ret
      have h7 := B6.out.trans (hb7.mono B6.out.size)
      exact ⟨rfl, h7.trans (hb8.mono h7.size)⟩
    · go_wp2_with fail
      refine (CH.out _).mono ?_
      rintro e w5 ⟨rfl, hb5⟩
      have z5 : w.heap.size < w5.heap.size := Nat.lt_of_lt_of_le z4 hb5.size
      rw [← cell_below hb5 z4] at p0 p1 p2 p3
      have B5 := HB4.out.trans (hb5.mono HB4.out.size)
      go_wp2_with fail
      refine (CI.out _).mono ?_
      rintro e w6 ⟨rfl, hb6⟩
      have z6 : w.heap.size < w6.heap.size := Nat.lt_of_lt_of_le z5 hb6.size
      rw [← cell_below hb6 z5] at p0 p1 p2 p3
      have B6 := Lib.hid (B5.trans (hb6.mono B5.size))
      clear hb5 hb6 B5 z4 z5
      simp only [Bool.and_true, Bool.and_false]
      go_wp2_with (go_at_call 21; refine (lives06_any _).mono ?_; rintro e w8 ⟨rfl, hb8⟩)
      go_ret
      exact ⟨rfl, B6.out.trans (hb8.mono B6.out.size)⟩
    · have m1 : matchL a.data.toList b2.data.toList m2.data.toList k2.data.toList = true := by
        have := HI.out
        rwa [matchB, HG.out, Bool.true_and] at this
      have m3 : mx = true := by rw [HX.out]; exact matchL_more _ _ _ _ _ HNE.out HMM.out m1
      subst m3
      clear m1
      go_wp2_with fail
      refine (CH.out _).mono ?_
      rintro e w5 ⟨rfl, hb5⟩
      have z5 : w.heap.size < w5.heap.size := Nat.lt_of_lt_of_le z4 hb5.size
      rw [← cell_below hb5 z4] at p0 p1 p2 p3
      have B5 := HB4.out.trans (hb5.mono HB4.out.size)
      go_wp2_with fail
      refine (CI.out _).mono ?_
      rintro e w6 ⟨rfl, hb6⟩
      have z6 : w.heap.size < w6.heap.size := Nat.lt_of_lt_of_le z5 hb6.size
      rw [← cell_below hb6 z5] at p0 p1 p2 p3
      have B6 := Lib.hid (B5.trans (hb6.mono B5.size))
      clear hb5 hb6 B5 z4 z5
      simp only [Bool.and_true, Bool.and_false]
      go_wp2_with fail
      refine (CX.out _).mono ?_
      rintro e w7 ⟨rfl, hb7⟩
      go_wp2_with (go_at_call 21; refine (lives06_any _).mono ?_; rintro e w8 ⟨rfl, hb8⟩)
      go_ret
      have h7 := B6.out.trans (hb7.mono B6.out.size)
      exact ⟨rfl, h7.trans (hb8.mono h7.size)⟩

end Go.Proofs.Ytcpjokjfjhhndaa
