/-
  The walk of the law StatusWrites. (Printed by wip/tools/gensw.py.)
-/
import Derived.Test.YtjlemghmpnkncaaDoorStatX
import Derived.Test.YtjlemghmpnkncaaDoorLawStatusReads
namespace Go.Proofs.YtjlemghmpnkncaaDoor
open Go.RowKit
set_option linter.unusedSimpArgs false
set_option linter.unusedVariables false

theorem stat_reason {w : World} {g : Nat} {a b c : Int} {r : ByteArray} (h : w.heap[g]? = some (statO a b c r)) (R : ByteArray) : (w.setCell ⟨g, 3, none⟩ (.string R)).heap[g]? = some (statO a b c R) := by
  unfold statO at *
  simp [World.setCell, Array.getElem?_modify, h]

set_option maxRecDepth 20000 in
theorem statusWrites_walk (a b c : Int) (r : ByteArray) (w : World) (hr : r.size ≤ maxLen) (hT : ∀ w', Below w.heap.size w w' → Pow w') :
    Calls Tryd.prog 4 #[.agg #[.int .i64 a, .int .i64 b, .int .i64 c, .string r]] w fun e w' => e = .returned (.bool true) ∧ Below w.heap.size w w' := by
  have HCT : Hid (∀ w, Calls Tryd.prog 17 #[.string r, .int .i64 60] w fun e w' => e = .returned (.string (cutB r 60)) ∧ w = w') := Lib.hid (fun w => Cut_any r 60 w hr (by decide))
  have hcz : (cutB r 60).size ≤ 60 := by rw [cutB_size]; omega
  generalize cutB r 60 = R at *
  have HG := Lib.hid (fun w => Good_any a b c R w (by unfold maxLen; omega))
  have HH := Lib.hid (fun w => rGood25_any a b c R w (by unfold maxLen; omega))
  cases hg : goodS a b c R
  · rw [hg] at HG HH
    have HT := Lib.hid (fun w1 (hb : Below w.heap.size w w1) => SText_no a b c R w1 hg (by omega))
    unfold statV at *
    clear hg hT
    go_enter Tryd.func4, Tryd.ntmps4
    go_upto_region 2 with (go_at_call 17; (with_reducible refine (HCT.out _).mono ?_); rintro e w' ⟨rfl, rfl⟩)
    have hp : (w.alloc (.cells #[.int .i64 a, .int .i64 b, .int .i64 c, .string R] 27)).heap[w.heap.size]? = some (statO a b c R) := by
      exact heap_alloc_new w _
    have hb : Below w.heap.size w (w.alloc (.cells #[.int .i64 a, .int .i64 b, .int .i64 c, .string R] 27)) := below_box w _
    generalize w.alloc (.cells #[.int .i64 a, .int .i64 b, .int .i64 c, .string R] 27) = V at *
    obtain ⟨p0, p1, p2, p3, pf⟩ := stat_cells hp
    go_wp2_with fail
    refine (HT.out _ hb).mono ?_
    rintro e u1 ⟨rfl, hbn⟩
    clear p0 p1 p2 p3 pf
    have hp := (hbn.block _ (Array.getElem?_eq_some_iff.1 hp).1).trans hp
    have hb := hb.trans (hbn.mono hb.size)
    clear hbn
    obtain ⟨p0, p1, p2, p3, pf⟩ := stat_cells hp
    go_upto_region 3 with fail
    have HBW := Lib.hid hb
    have hzP := (Array.getElem?_eq_some_iff.1 hp).1
    have hx := @InB.cells u1
    refine wp_region_inb (by kernel_rfl) (by kernel_rfl) ?_; (repeat (first | go_big_quiet_skip | (go_big_quiet_want; go_big_quiet_op; first | go_big_quiet_on | (apply Exists.intro; refine ⟨fun x => ?_, ?_⟩; (· ((first | (go_at_call 19; with_reducible exact inb_call _ (HG.out _)) | (go_at_call 20; with_reducible exact inb_call _ (HH.out _))))); go_big_quiet_on)))); refine wpQuiet_nil ?_; intro _ hw'; obtain ⟨⟨wq, hbq⟩, rfl⟩ := hw'
    have hbn := hbq
    clear hx
    clear p0 p1 p2 p3 pf
    have hp := (hbn.block _ (Array.getElem?_eq_some_iff.1 hp).1).trans hp
    have hb := hb.trans (hbn.mono hb.size)
    clear hbn
    obtain ⟨p0, p1, p2, p3, pf⟩ := stat_cells hp
    go_wp2_with fail
    refine (HH.out _).mono ?_
    rintro e u5 ⟨rfl, hbn⟩
    clear p0 p1 p2 p3 pf
    have hp := (hbn.block _ (Array.getElem?_eq_some_iff.1 hp).1).trans hp
    have hb := hb.trans (hbn.mono hb.size)
    clear hbn
    obtain ⟨p0, p1, p2, p3, pf⟩ := stat_cells hp
    go_wp2_with (go_at_call 16; refine (lives25_any _).mono ?_; rintro e w6 ⟨rfl, hb6⟩; replace hb := hb.trans (hb6.mono hb.size))
    go_ret
    exact ⟨rfl, hb⟩
  · rw [hg] at HG HH
    obtain ⟨x, y, z, rfl, rfl, rfl, hx1, hy1, hz1, hz2, hrs⟩ := goodS_parts hg
    have HT := Lib.hid (fun w1 (hb : Below w.heap.size w w1) => SText_yes x y z R w1 hx1 hy1 hz1 hz2 hg (by omega) (fun w2 hb2 => hT w2 (hb.trans (hb2.mono hb.size))))
    have HR := Lib.hid (fun w1 => rSText_yes x y z R w1 hx1 hy1 hz1 hz2 (by omega))
    have hsz := textS_size x y z R
    have HL := Lib.hid (fun w1 => Line_any (textS x y z R) w1 (by unfold maxLen; omega) (by rw [line_ends x y z R hz2 hrs]; unfold maxLen; omega))
    rw [line_said x y z R hx1 hy1 hz1 hz2 hrs] at HL
    generalize textS x y z R = S at *
    unfold statV at *
    clear hg hT hsz hx1 hy1 hz1 hz2 hrs
    go_enter Tryd.func4, Tryd.ntmps4
    go_upto_region 2 with (go_at_call 17; (with_reducible refine (HCT.out _).mono ?_); rintro e w' ⟨rfl, rfl⟩)
    have hp : (w.alloc (.cells #[.int .i64 x, .int .i64 y, .int .i64 z, .string R] 27)).heap[w.heap.size]? = some (statO x y z R) := by
      exact heap_alloc_new w _
    have hb : Below w.heap.size w (w.alloc (.cells #[.int .i64 x, .int .i64 y, .int .i64 z, .string R] 27)) := below_box w _
    generalize w.alloc (.cells #[.int .i64 x, .int .i64 y, .int .i64 z, .string R] 27) = V at *
    obtain ⟨p0, p1, p2, p3, pf⟩ := stat_cells hp
    go_wp2_with fail
    refine (HT.out _ hb).mono ?_
    rintro e u1 ⟨rfl, hbn⟩
    clear p0 p1 p2 p3 pf
    have hp := (hbn.block _ (Array.getElem?_eq_some_iff.1 hp).1).trans hp
    have hb := hb.trans (hbn.mono hb.size)
    clear hbn
    obtain ⟨p0, p1, p2, p3, pf⟩ := stat_cells hp
    go_upto_region 3 with fail
    have HBW := Lib.hid hb
    have hzP := (Array.getElem?_eq_some_iff.1 hp).1
    have hx := @InB.cells u1
    refine wp_region_inb (by kernel_rfl) (by kernel_rfl) ?_; (repeat (first | go_big_quiet_skip | (go_big_quiet_want; go_big_quiet_op; first | go_big_quiet_on | (apply Exists.intro; refine ⟨fun x => ?_, ?_⟩; (· ((first | (go_at_call 19; with_reducible exact inb_call _ (HG.out _)) | (go_at_call 20; with_reducible exact inb_call _ (HH.out _))))); go_big_quiet_on)))); refine wpQuiet_nil ?_; intro _ hw'; obtain ⟨⟨wq, hbq⟩, rfl⟩ := hw'
    have hbn := hbq
    clear hx
    clear p0 p1 p2 p3 pf
    have hp := (hbn.block _ (Array.getElem?_eq_some_iff.1 hp).1).trans hp
    have hb := hb.trans (hbn.mono hb.size)
    clear hbn
    obtain ⟨p0, p1, p2, p3, pf⟩ := stat_cells hp
    go_wp2_with fail
    refine (HH.out _).mono ?_
    rintro e u5 ⟨rfl, hbn⟩
    clear p0 p1 p2 p3 pf
    have hp := (hbn.block _ (Array.getElem?_eq_some_iff.1 hp).1).trans hp
    have hb := hb.trans (hbn.mono hb.size)
    clear hbn
    obtain ⟨p0, p1, p2, p3, pf⟩ := stat_cells hp
    go_upto_region 7 with fail
    go_wp2_with fail
    refine (HR.out _).mono ?_
    rintro e u6 ⟨rfl, hbn⟩
    clear p0 p1 p2 p3 pf
    have hp := (hbn.block _ (Array.getElem?_eq_some_iff.1 hp).1).trans hp
    have hb := hb.trans (hbn.mono hb.size)
    clear hbn
    go_wp2_with fail
    refine (HL.out _).mono ?_
    rintro e u7 ⟨rfl, hbn⟩
    have hp := (hbn.block _ (Array.getElem?_eq_some_iff.1 hp).1).trans hp
    have hb := hb.trans (hbn.mono hb.size)
    clear hbn
    have hp : (u7.alloc (.cells #[.int .i64 x, .int .i64 y, .int .i64 z, .string R] 27)).heap[w.heap.size]? = _ := (Below.heap_alloc _ _ _ (Array.getElem?_eq_some_iff.1 hp).1).trans hp
    have hs : (u7.alloc (.cells #[.int .i64 x, .int .i64 y, .int .i64 z, .string R] 27)).heap[u7.heap.size]? = some (statO x y z R) := heap_alloc_new u7 _
    have hb := hb.alloc hb.size (.cells #[.int .i64 x, .int .i64 y, .int .i64 z, .string R] 27)
    go_upto_region 8 with fail
    generalize hz1 : u7.heap.size = ghs at *
    generalize u7.alloc (.cells #[.int .i64 x, .int .i64 y, .int .i64 z, .string R] 27) = v7 at *
    clear hz1
    obtain ⟨p0, p1, p2, p3, pf⟩ := stat_cells hp
    obtain ⟨s0, s1, s2, s3, sf⟩ := stat_cells hs
    go_wp2_with fail
    refine (HR.out _).mono ?_
    rintro e u8 ⟨rfl, hbn⟩
    have hs := (hbn.block _ (Array.getElem?_eq_some_iff.1 hs).1).trans hs
    clear s0 s1 s2 s3 sf
    clear p0 p1 p2 p3 pf
    have hp := (hbn.block _ (Array.getElem?_eq_some_iff.1 hp).1).trans hp
    have hb := hb.trans (hbn.mono hb.size)
    clear hbn
    obtain ⟨p0, p1, p2, p3, pf⟩ := stat_cells hp
    obtain ⟨s0, s1, s2, s3, sf⟩ := stat_cells hs
    go_wp2_with (go_at_call 16; refine (lives25_any _).mono ?_; rintro e w6 ⟨rfl, hb6⟩; replace hb := hb.trans (hb6.mono hb.size))
    go_ret
    exact ⟨rfl, hb⟩
end Go.Proofs.YtjlemghmpnkncaaDoor
