/-
  The law MaskTags: its walk.
-/
import Derived.Test.YtgdhemhapfpkiaaMaskTags
import Derived.Deep.DeepCutAuto
import Derived.Deep.RegionWith
import Derived.Laws.StructEq
import Derived.Test.YtgdhemhapfpkiaaQuietIn
namespace Go.Proofs.Ytgdhemhapfpkiaa
open Go.RowKit
set_option linter.unusedSimpArgs false
set_option linter.unusedVariables false

theorem toList_empty (s : ByteArray) : (s.toList = []) = (s.size = 0) := by
  rw [ByteArray.toList_eq, Lib.size_eq]
  exact propext ⟨fun h => by rw [h]; rfl, fun h => List.length_eq_zero_iff.1 h⟩

set_option maxHeartbeats 1000000 in
set_option maxRecDepth 20000 in
theorem maskTags_walk (s a0 a1 : ByteArray) (n : Int) (w : World) (hs : s.size ≤ maxLen) (h0 : a0.size ≤ maxLen) (h1 : a1.size ≤ maxLen) :
    Calls Try.prog 14 #[.string s, .agg #[.string a0, .string a1], .int .i64 n] w fun e w' => e = .returned (.bool true) ∧ Below w.heap.size w w' := by
  go_enter Try.func14, Try.ntmps14
  go_upto_region 1 with fail
  generalize hW : w.alloc (.cells #[.string a0, .string a1] 67) = W
  have q0 : W.cell? ⟨w.heap.size, 0, none⟩ = some (.string a0) := by rw [← hW]; simp [go_sem]
  have q1 : W.cell? ⟨w.heap.size, 1, none⟩ = some (.string a1) := by rw [← hW]; simp [go_sem]
  have z1 : w.heap.size < W.heap.size := by rw [← hW]; simp
  have HB := Lib.hid (show Below w.heap.size w W from by rw [← hW]; exact below_box _ _)
  clear hW
  have C20 : Hid (∀ (w : World), Calls Try.prog 21 #[.string a0, .int .i64 20] w fun e w' => e = .returned (.string (cutB a0 20)) ∧ w = w') := Lib.hid (fun w => Cut_any a0 20 w h0 (by decide))
  have C60 : Hid (∀ (w : World), Calls Try.prog 21 #[.string a1, .int .i64 60] w fun e w' => e = .returned (.string (cutB a1 60)) ∧ w = w') := Lib.hid (fun w => Cut_any a1 60 w h1 (by decide))
  go_cut [7, 8] (fun s7 s8 wx => s7 = .string (cutB a0 20) ∧ s8 = .string (cutB a1 60) ∧ Below W.heap.size W wx)
  case first =>
    have hx := @InB.cells W
    refine wp_region_inb (by kernel_rfl) (by kernel_rfl) ?_; (repeat (first | go_big_quiet_skip | (go_big_quiet_want; go_big_quiet_op; first | go_big_quiet_on | (apply Exists.intro; refine ⟨fun x => ?_, ?_⟩; (· ((first | (go_at_call 21; with_reducible exact inb_same _ (C20.out _)) | (go_at_call 21; with_reducible exact inb_same _ (C60.out _))))); go_big_quiet_on)))); refine wpQuiet_nil ?_; intro _ hw'; obtain ⟨⟨wq, hbq⟩, rfl⟩ := hw'
    go_wp2_with fail
    go_meet
    exact ⟨rfl, rfl, hbq⟩
  obtain ⟨rfl, rfl, hb2⟩ := hcut
  obtain ⟨W2, rfl⟩ : ∃ W2 : World, W2 = wc := ⟨_, rfl⟩
  have ha := cutB_size a1 60
  have hc := cutB_size s 40
  have C40 : Hid (∀ (w : World), Calls Try.prog 21 #[.string s, .int .i64 40] w fun e w' => e = .returned (.string (cutB s 40)) ∧ w = w') := Lib.hid (fun w => Cut_any s 40 w hs (by decide))
  generalize cutB a0 20 = kind at *
  generalize cutB a1 60 = t at *
  generalize cutB s 40 = x at *
  have HB2 := Lib.hid (HB.out.trans (hb2.mono HB.out.size))
  have hx40 : x.size ≤ 40 := by omega
  have hx1000 : x.size ≤ 1000 := by omega
  have ht60 : t.size ≤ 60 := by omega
  have htm : t.size ≤ maxLen := by omega
  have hxm : x.size ≤ maxLen := by omega
  have CT := Lib.hid (fun w => Tag_any x kind w hx1000)
  clear hb2 q0 q1 z1 HB ha hc C20 C60 hs h0 h1
  go_upto_region 3 with (go_at_call 21; (with_reducible refine (C40.out _).mono ?_); rintro e w' ⟨rfl, rfl⟩)
  go_upto_region 4 with fail
  refine (CT.out _).mono ?_
  rintro e W3 ⟨rfl, hb3⟩
  have HB3 := Lib.hid (HB2.out.trans (hb3.mono HB2.out.size))
  clear hb3 HB2 CT
  go_upto_region 4 with fail
  generalize hW : W3.alloc (.cells #[.string (tagB x), .string (maskB x), .string tagSkip, .string kind] 69) = W
  have p0 : W.cell? ⟨W3.heap.size, 0, none⟩ = some (.string (tagB x)) := by rw [← hW]; simp [go_sem]
  have p1 : W.cell? ⟨W3.heap.size, 1, none⟩ = some (.string (maskB x)) := by rw [← hW]; simp [go_sem]
  have p2 : W.cell? ⟨W3.heap.size, 2, none⟩ = some (.string tagSkip) := by rw [← hW]; simp [go_sem]
  have p3 : W.cell? ⟨W3.heap.size, 3, none⟩ = some (.string kind) := by rw [← hW]; simp [go_sem]
  have z : W3.heap.size < W.heap.size := by rw [← hW]; simp
  have HB := Lib.hid (show Below w.heap.size w W from by rw [← hW]; exact HB3.out.alloc HB3.out.size _)
  clear hW HB3 C40
  have CR := Lib.hid (fun w => rTag_any x kind w hx1000)
  have CM : Hid (∀ w, Calls Try.prog 70 #[.string x, patV (tagB x) (maskB x) tagSkip kind] w fun e w' => e = .returned (.bool (matchB x (tagB x) (maskB x) tagSkip)) ∧ Below w.heap.size w w') := Lib.hid (fun w => Match_any x (tagB x) (maskB x) tagSkip kind w hxm (by rw [tagB_size]; exact hxm) (by rw [maskB_size]; exact hxm))
  have CL : Hid (∀ w, Calls Try.prog 70 #[.string (lowerB x ++ t), patV (tagB x) (maskB x) tagSkip kind] w fun e w' => e = .returned (.bool (matchB (lowerB x ++ t) (tagB x) (maskB x) tagSkip)) ∧ Below w.heap.size w w') := Lib.hid (fun w => Match_any (lowerB x ++ t) (tagB x) (maskB x) tagSkip kind w (by rw [ByteArray.size_append, lowerB_size]; unfold maxLen; omega) (by rw [tagB_size]; exact hxm) (by rw [maskB_size]; exact hxm))
  have CB : Hid (∀ w, Calls Try.prog 68 #[.string x, patV (tagB x) (maskB x) tagSkip kind] w fun e w' => e = .returned (.int .i64 (aheadN x tagSkip)) ∧ Below w.heap.size w w') := Lib.hid (fun w => rBegins_any x (tagB x) (maskB x) tagSkip kind w hxm (by decide))
  have CW := Lib.hid (fun w => rLower_any x w hxm (by omega))
  have HM1 : Hid (x.size ≠ 0 → aheadN x tagSkip = 0 → matchB x (tagB x) (maskB x) tagSkip = true) := Lib.hid (fun h h2 => match_self x h (by omega) h2)
  have HM2 : Hid (x.size ≠ 0 → aheadN x tagSkip = 0 → matchB (lowerB x ++ t) (tagB x) (maskB x) tagSkip = true) := Lib.hid (fun h h2 => match_low x t h (by omega) h2)
  have HEM := Lib.hid (toList_empty x)
  generalize matchB x (tagB x) (maskB x) tagSkip = m1 at *
  generalize matchB (lowerB x ++ t) (tagB x) (maskB x) tagSkip = m2 at *
  generalize aheadN x tagSkip = ah at *
  generalize tagB x = tb at *
  generalize maskB x = mb at *
  have CE := Lib.hid (fun w => Ends_any06 t n w htm)
  go_cut [51] (fun s51 wx => s51 = .bool false ∧ Below W.heap.size W wx)
  case first =>
    have hx := @InB.cells W
    have hneq : ∀ w : World, (binOp .neq 69 (patV tb mb tagSkip kind) (patV tb mb tagSkip kind)).run Try.prog w = .ok (.bool false) w := fun w => by simp [patV, go_sem]
    have hegd : ∀ (x y : Operand) (w : World), (eqGuard .neq 69 x y (patV tb mb tagSkip kind) (patV tb mb tagSkip kind)).run Try.prog w = .ok () w := fun x y w => by simp [patV, go_sem]
    by_cases hr : 0 ≤ n ∧ n < (t.size : Int)
    · obtain ⟨k, rfl⟩ : ∃ k : Nat, n = k := ⟨n.toNat, by omega⟩
      have hlt : k < t.size := by omega
      have hidx := index_byte (P := Try.prog) 9 Try.underlying9 t k hlt
      have HE := endsN_at t k hlt
      generalize t[k] = c at *
      have b1 := is_byte c 32
      have b2 := is_byte c 62
      generalize endsN t k = r at *
      by_cases h1 : c = 32
      · subst h1
        obtain rfl : r = true := by rw [HE]; decide
        clear HE b1 b2
        refine wp_region_inb (by kernel_rfl) (by kernel_rfl) ?_; (repeat (first | go_big_quiet_skip | (go_big_quiet_want; go_big_quiet_op; first | go_big_quiet_on | (apply Exists.intro; refine ⟨fun x => ?_, ?_⟩; (· ((first | (go_at_call 66; exact inb_call _ (CR.out _)) | (go_at_call 67; exact inb_same _ (CE.out _))))); go_big_quiet_on)))); refine wpQuiet_nil ?_; intro _ hw'; obtain ⟨⟨wq, hbq⟩, rfl⟩ := hw'
        go_wp2_with fail
        go_meet
        exact ⟨rfl, hbq⟩
      · by_cases h2 : c = 62
        · subst h2
          obtain rfl : r = true := by rw [HE]; decide
          clear HE b1 b2 h1
          refine wp_region_inb (by kernel_rfl) (by kernel_rfl) ?_; (repeat (first | go_big_quiet_skip | (go_big_quiet_want; go_big_quiet_op; first | go_big_quiet_on | (apply Exists.intro; refine ⟨fun x => ?_, ?_⟩; (· ((first | (go_at_call 66; exact inb_call _ (CR.out _)) | (go_at_call 67; exact inb_same _ (CE.out _))))); go_big_quiet_on)))); refine wpQuiet_nil ?_; intro _ hw'; obtain ⟨⟨wq, hbq⟩, rfl⟩ := hw'
          go_wp2_with fail
          go_meet
          exact ⟨rfl, hbq⟩
        · have d1 : (((c.toNat : Int)) == 32) = false := by rw [show (32 : Int) = ((32 : UInt8).toNat : Int) from rfl, b1]; simpa using h1
          have d2 : (((c.toNat : Int)) == 62) = false := by rw [show (62 : Int) = ((62 : UInt8).toNat : Int) from rfl, b2]; simpa using h2
          obtain rfl : r = false := by rw [HE]; simp [h1, h2]
          clear HE b1 b2 h1 h2
          refine wp_region_inb (by kernel_rfl) (by kernel_rfl) ?_; (repeat (first | go_big_quiet_skip | (go_big_quiet_want; go_big_quiet_op; first | go_big_quiet_on | (apply Exists.intro; refine ⟨fun x => ?_, ?_⟩; (· ((first | (go_at_call 66; exact inb_call _ (CR.out _)) | (go_at_call 67; exact inb_same _ (CE.out _))))); go_big_quiet_on)))); refine wpQuiet_nil ?_; intro _ hw'; obtain ⟨⟨wq, hbq⟩, rfl⟩ := hw'
          go_wp2_with fail
          go_meet
          exact ⟨rfl, hbq⟩
    · have HE := endsN_out t n (by omega)
      generalize endsN t n = r at *
      subst HE
      by_cases hn : 0 ≤ n
      · have hlt : ¬ n < (t.size : Int) := fun h => hr ⟨hn, h⟩
        clear hr
        refine wp_region_inb (by kernel_rfl) (by kernel_rfl) ?_; (repeat (first | go_big_quiet_skip | (go_big_quiet_want; go_big_quiet_op; first | go_big_quiet_on | (apply Exists.intro; refine ⟨fun x => ?_, ?_⟩; (· ((first | (go_at_call 66; exact inb_call _ (CR.out _)) | (go_at_call 67; exact inb_same _ (CE.out _))))); go_big_quiet_on)))); refine wpQuiet_nil ?_; intro _ hw'; obtain ⟨⟨wq, hbq⟩, rfl⟩ := hw'
        go_wp2_with fail
        go_meet
        exact ⟨rfl, hbq⟩
      · clear hr
        refine wp_region_inb (by kernel_rfl) (by kernel_rfl) ?_; (repeat (first | go_big_quiet_skip | (go_big_quiet_want; go_big_quiet_op; first | go_big_quiet_on | (apply Exists.intro; refine ⟨fun x => ?_, ?_⟩; (· ((first | (go_at_call 66; exact inb_call _ (CR.out _)) | (go_at_call 67; exact inb_same _ (CE.out _))))); go_big_quiet_on)))); refine wpQuiet_nil ?_; intro _ hw'; obtain ⟨⟨wq, hbq⟩, rfl⟩ := hw'
        go_wp2_with fail
        go_meet
        exact ⟨rfl, hbq⟩
  obtain ⟨rfl, hb4⟩ := hcut
  obtain ⟨W4, rfl⟩ : ∃ W4 : World, W4 = wc := ⟨_, rfl⟩
  have z4 : W3.heap.size < W4.heap.size := Nat.lt_of_lt_of_le z hb4.size
  rw [← cell_below hb4 z] at p0 p1 p2 p3
  have HB4 := Lib.hid (HB.out.trans (hb4.mono HB.out.size))
  clear hb4 z CE CR
  go_upto_region 6 with fail
  by_cases hz : x.size = 0
  · have hem : x.toList = [] := by rw [HEM.out]; exact hz
    have hem2 : x.toList.isEmpty = true := by rw [hem]; rfl
    clear HM1 HM2 HEM
    go_wp2_with (go_at_call 69; refine (lives06_any _).mono ?_; rintro e w' ⟨rfl, hb⟩)
    go_ret
    exact ⟨rfl, HB4.out.trans (hb.mono HB4.out.size)⟩
  · have hem : ¬ x.toList = [] := by rw [HEM.out]; exact hz
    have hem2 : x.toList.isEmpty = false := by rw [List.isEmpty_eq_false_iff]; exact hem
    by_cases hah : ah = 0
    · obtain rfl := HM1.out hz hah
      obtain rfl := HM2.out hz hah
      subst hah
      clear HM1 HM2 HEM
      have CB0 : Hid (∀ w, Calls Try.prog 68 #[.string x, patV tb mb tagSkip kind] w fun e w' => e = .returned (.int .i64 0) ∧ Below w.heap.size w w') := Lib.hid CB.out
      go_upto_region 8 with fail
      refine (CB0.out _).mono ?_
      rintro e W5 ⟨rfl, hb5⟩
      rw [← cell_below hb5 z4] at p0 p1 p2 p3
      have z5 : W3.heap.size < W5.heap.size := Nat.lt_of_lt_of_le z4 hb5.size
      have HB5 := Lib.hid (HB4.out.trans (hb5.mono HB4.out.size))
      clear hb5 z4 HB4
      go_upto_region 8 with fail
      have hx := @InB.cells W5
      have hadd : (lowerB x).size + t.size ≤ 9223372036854775807 := by rw [lowerB_size]; omega
      refine wp_region_inb (by kernel_rfl) (by kernel_rfl) ?_; (repeat (first | go_big_quiet_skip | (go_big_quiet_want; go_big_quiet_op; first | go_big_quiet_on | (apply Exists.intro; refine ⟨fun x => ?_, ?_⟩; (· ((first | (go_at_call 70; with_reducible exact inb_call _ (CM.out _)) | (go_at_call 70; with_reducible exact inb_call _ (CL.out _)) | (go_at_call 54; exact inb_call _ (CW.out _)) | (go_at_call 69; exact inb_call _ (lives06_any _))))); go_big_quiet_on)))); refine wpQuiet_nil ?_; intro _ hw'; obtain ⟨⟨wq, hbq⟩, rfl⟩ := hw'
      go_wp2_with fail
      go_ret
      exact ⟨rfl, HB5.out.trans (hbq.mono HB5.out.size)⟩
    · clear HM1 HM2 HEM
      go_upto_region 7 with fail
      refine (CB.out _).mono ?_
      rintro e W5 ⟨rfl, hb5⟩
      have HB5 := Lib.hid (HB4.out.trans (hb5.mono HB4.out.size))
      clear hb5 z4 HB4
      go_wp2_with (go_at_call 69; refine (lives06_any _).mono ?_; rintro e w' ⟨rfl, hb⟩)
      go_ret
      exact ⟨rfl, HB5.out.trans (hb.mono HB5.out.size)⟩

end Go.Proofs.Ytgdhemhapfpkiaa
