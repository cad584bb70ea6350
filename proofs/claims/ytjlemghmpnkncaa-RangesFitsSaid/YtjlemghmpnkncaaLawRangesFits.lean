/-
  The walk of the law RangesFits.
-/
import Derived.Test.YtjlemghmpnkncaaRangG
namespace Go.Proofs.Ytjlemghmpnkncaa
open Go.RowKit
set_option linter.unusedSimpArgs false
set_option linter.unusedVariables false

theorem rangesFits_walk (rf rt f t s : Int) (w : World) :
    Calls Try.prog 5 #[.agg #[.int .i64 rf, .int .i64 rt], .agg #[.int .i64 f, .int .i64 t, .int .i64 s]] w fun e w' => e = .returned (.bool true) ∧ Below w.heap.size w w' := by
  have HF := Lib.hid (fun w => Fits_any rf rt f t s w)
  have HR := Lib.hid (fun w => rFits_rng rf rt f t s w)
  have HL := Lib.hid (fun w => Len_any f t s w)
  have HM := Lib.hid (fun w => rLen_any f t s w)
  generalize fitsP rf rt (lenP f t s) f t s = q at *
  generalize lenP f t s = n at *
  have hb : Below w.heap.size w ((w.alloc (.cells #[.int .i64 rf, .int .i64 rt] 43)).alloc (.cells #[.int .i64 f, .int .i64 t, .int .i64 s] 45)) := (below_box w _).alloc (by simp) _
  go_enter Try.func5, Try.ntmps5
  go_upto_region 1 with fail
  have hz : w.heap.size + 1 < ((w.alloc (.cells #[.int .i64 rf, .int .i64 rt] 43)).alloc (.cells #[.int .i64 f, .int .i64 t, .int .i64 s] 45)).heap.size := by simp
  have hz0 : w.heap.size < ((w.alloc (.cells #[.int .i64 rf, .int .i64 rt] 43)).alloc (.cells #[.int .i64 f, .int .i64 t, .int .i64 s] 45)).heap.size := by simp; omega
  have hx0 : ((w.alloc (.cells #[.int .i64 rf, .int .i64 rt] 43)).alloc (.cells #[.int .i64 f, .int .i64 t, .int .i64 s] 45)).heap[w.heap.size]? = some (.cells #[.int .i64 rf, .int .i64 rt] 43 (0, 0)) := (Below.heap_alloc _ _ _ (by simp)).trans (heap_alloc_new w _)
  have hx1 : ((w.alloc (.cells #[.int .i64 rf, .int .i64 rt] 43)).alloc (.cells #[.int .i64 f, .int .i64 t, .int .i64 s] 45)).heap[w.heap.size + 1]? = some (.cells #[.int .i64 f, .int .i64 t, .int .i64 s] 45 (0, 0)) := by
    have := heap_alloc_new (w.alloc (.cells #[.int .i64 rf, .int .i64 rt] 43)) (.cells #[.int .i64 f, .int .i64 t, .int .i64 s] 45)
    simpa using this
  generalize (w.alloc (.cells #[.int .i64 rf, .int .i64 rt] 43)).alloc (.cells #[.int .i64 f, .int .i64 t, .int .i64 s] 45) = W at *
  have o0 := (Lib.cell_of_heap hx0 (j := 0))
  have o1 := (Lib.cell_of_heap hx0 (j := 1))
  have p0 := (Lib.cell_of_heap hx1 (j := 0))
  have p1 := (Lib.cell_of_heap hx1 (j := 1))
  have p2 := (Lib.cell_of_heap hx1 (j := 2))
  simp at o0 o1 p0 p1 p2
  clear hx0 hx1
  have hx := @InB.cells W
  refine wp_region_inb (by kernel_rfl) (by kernel_rfl) ?_; (repeat (first | go_big_quiet_skip | (go_big_quiet_want; go_big_quiet_op; first | go_big_quiet_on | (apply Exists.intro; refine ⟨fun x => ?_, ?_⟩; (· ((first | (go_at_call 18; exact inb_call _ (HF.out _)) | (go_at_call 19; exact inb_call _ (HR.out _)) | (go_at_call 20; exact inb_call _ (First_rng _ _ _ _)) | (go_at_call 21; exact inb_call _ (HL.out _)) | (go_at_call 22; exact inb_call _ (HM.out _)) | (go_at_call 23; exact inb_call _ (lives24_any _))))); go_big_quiet_on)))); refine wpQuiet_nil ?_; intro _ hw'; obtain ⟨⟨wq, hbq⟩, rfl⟩ := hw'
  go_wp2_with fail
  go_ret
  exact ⟨rfl, hb.trans (hbq.mono hb.size)⟩

end Go.Proofs.Ytjlemghmpnkncaa
