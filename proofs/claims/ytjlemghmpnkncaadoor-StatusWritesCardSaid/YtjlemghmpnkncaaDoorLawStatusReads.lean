/-
  The walk of the law StatusReads.
-/
import Derived.Test.YtjlemghmpnkncaaDoorStatPlain
namespace Go.Proofs.YtjlemghmpnkncaaDoor
open Go.RowKit
set_option linter.unusedSimpArgs false
set_option linter.unusedVariables false

def line0 : ByteArray := ⟨#[72, 84, 84, 80, 47, 49, 46, 49, 32, 50, 48, 54, 32, 80, 97, 114, 116, 105, 97, 108, 32, 67, 111, 110, 116, 101, 110, 116]⟩
def reas0 : ByteArray := ⟨#[80, 97, 114, 116, 105, 97, 108, 32, 67, 111, 110, 116, 101, 110, 116]⟩

theorem line0_says : lineV line0 = .tuple #[statV 1 1 206 reas0, .int .i64 0] := by
  rw [line_ref]
  kernel_rfl

theorem lives25_any (w : World) : Calls Tryd.prog 16 #[] w fun e w' => e = .returned (.bool true) ∧ Below w.heap.size w w' := by
  have HL := Lib.hid (fun w => Line_any line0 w (by decide) (by decide))
  rw [line0_says] at HL
  unfold line0 at HL
  go_enter Tryd.func16, Tryd.ntmps16
  go_wp2_with fail
  refine (HL.out _).mono ?_
  rintro e w1 ⟨rfl, hb1⟩
  unfold statV
  have hb2 := hb1.trans ((below_box w1 (.cells #[.int .i64 1, .int .i64 1, .int .i64 206, .string reas0] 27)).mono hb1.size)
  have hx : (w1.alloc (.cells #[.int .i64 1, .int .i64 1, .int .i64 206, .string reas0] 27)).heap[w1.heap.size]? = some (statO 1 1 206 reas0) := heap_alloc_new w1 _
  obtain ⟨x0, x1, x2, x3, xf⟩ := stat_cells hx
  go_upto_region 2 with fail
  generalize hz : w1.heap.size = z at *
  generalize w1.alloc (.cells #[.int .i64 1, .int .i64 1, .int .i64 206, .string reas0] 27) = w2 at *
  clear hz hx
  unfold reas0 at *
  go_wp2_with (go_at_call 13; refine (Partial_any _ _).mono ?_; rintro e w' ⟨rfl, rfl⟩)
  go_ret
  exact ⟨rfl, hb2⟩

theorem lineV_cases (s : ByteArray) : ∃ a b c r e, lineV s = .tuple #[statV a b c r, .int .i64 e] := by
  unfold lineV
  split
  · exact ⟨_, _, _, _, _, rfl⟩
  · exact ⟨_, _, _, _, _, rfl⟩

end Go.Proofs.YtjlemghmpnkncaaDoor
