/-
  The walk of the law StatusReads.
-/
import Derived.Test.YtjlemghmpnkncaaStatPlain
namespace Go.Proofs.Ytjlemghmpnkncaa
open Go.RowKit
set_option linter.unusedSimpArgs false
set_option linter.unusedVariables false

def line0 : ByteArray := ⟨#[72, 84, 84, 80, 47, 49, 46, 49, 32, 50, 48, 54, 32, 80, 97, 114, 116, 105, 97, 108, 32, 67, 111, 110, 116, 101, 110, 116]⟩
def reas0 : ByteArray := ⟨#[80, 97, 114, 116, 105, 97, 108, 32, 67, 111, 110, 116, 101, 110, 116]⟩

theorem line0_says : lineV line0 = .tuple #[statV 1 1 206 reas0, .int .i64 0] := by
  rw [line_ref]
  kernel_rfl

theorem lives25_any (w : World) : Calls Try.prog 17 #[] w fun e w' => e = .returned (.bool true) ∧ Below w.heap.size w w' := by
  have HL := Lib.hid (fun w => Line_any line0 w (by decide) (by decide))
  rw [line0_says] at HL
  unfold line0 at HL
  go_enter Try.func17, Try.ntmps17
  go_wp2_with fail
  refine (HL.out _).mono ?_
  rintro e w1 ⟨rfl, hb1⟩
  unfold statV
  have hb2 := hb1.trans ((below_box w1 (.cells #[.int .i64 1, .int .i64 1, .int .i64 206, .string reas0] 39)).mono hb1.size)
  have hx : (w1.alloc (.cells #[.int .i64 1, .int .i64 1, .int .i64 206, .string reas0] 39)).heap[w1.heap.size]? = some (statO 1 1 206 reas0) := heap_alloc_new w1 _
  obtain ⟨x0, x1, x2, x3, xf⟩ := stat_cells hx
  go_upto_region 2 with fail
  generalize hz : w1.heap.size = z at *
  generalize w1.alloc (.cells #[.int .i64 1, .int .i64 1, .int .i64 206, .string reas0] 39) = w2 at *
  clear hz hx
  unfold reas0 at *
  go_wp2_with (go_at_call 46; refine (Partial_any _ _).mono ?_; rintro e w' ⟨rfl, rfl⟩)
  go_ret
  exact ⟨rfl, hb2⟩

theorem lineV_cases (s : ByteArray) : ∃ a b c r e, lineV s = .tuple #[statV a b c r, .int .i64 e] := by
  unfold lineV
  split
  · exact ⟨_, _, _, _, _, rfl⟩
  · exact ⟨_, _, _, _, _, rfl⟩

set_option maxRecDepth 20000 in
theorem statusReads_walk (s : ByteArray) (w : World) (hs : s.size ≤ maxLen) :
    Calls Try.prog 4 #[.string s] w fun e w' => e = .returned (.bool true) ∧ Below w.heap.size w w' := by
  have HCT := Lib.hid (fun w => Cut_100 s w hs)
  have hcz : (cutB s 100).size ≤ maxLen := by rw [cutB_size]; unfold maxLen; omega
  generalize cutB s 100 = S at *
  have hse : (endsB S).size ≤ maxLen := Nat.le_trans (endsB_le S) hcz
  have HL := Lib.hid (fun w => Line_any S w hcz hse)
  have HR := Lib.hid (fun w => rLine_any S w hcz hse)
  rw [← line_ref] at HR
  obtain ⟨a, b, c, r, code, he⟩ := lineV_cases S
  rw [he] at HL HR
  clear he hse hcz
  go_enter Try.func4, Try.ntmps4
  go_wp2_with (go_at_call 14; (with_reducible refine (HCT.out _).mono ?_); rintro e w' ⟨rfl, rfl⟩)
  refine (HL.out _).mono ?_
  rintro e w1 ⟨rfl, hb1⟩
  unfold statV
  have hb2 := hb1.trans ((below_box w1 (.cells #[.int .i64 a, .int .i64 b, .int .i64 c, .string r] 39)).mono hb1.size)
  have hx : (w1.alloc (.cells #[.int .i64 a, .int .i64 b, .int .i64 c, .string r] 39)).heap[w1.heap.size]? = some (statO a b c r) := heap_alloc_new w1 _
  go_upto_region 3 with fail
  generalize hz : w1.heap.size = z at *
  generalize w1.alloc (.cells #[.int .i64 a, .int .i64 b, .int .i64 c, .string r] 39) = w2 at *
  clear hz
  go_wp2_with fail
  refine (HR.out _).mono ?_
  rintro e w3 ⟨rfl, hb3⟩
  unfold statV
  have hb4 := hb2.trans (hb3.mono hb2.size)
  have hx3 := (hb3.block _ (Array.getElem?_eq_some_iff.1 hx).1).trans hx
  have hb5 := hb4.trans ((below_box w3 (.cells #[.int .i64 a, .int .i64 b, .int .i64 c, .string r] 39)).mono hb4.size)
  have hy : (w3.alloc (.cells #[.int .i64 a, .int .i64 b, .int .i64 c, .string r] 39)).heap[w3.heap.size]? = some (statO a b c r) := heap_alloc_new w3 _
  have hx5 : (w3.alloc (.cells #[.int .i64 a, .int .i64 b, .int .i64 c, .string r] 39)).heap[z]? = some (statO a b c r) := (Below.heap_alloc _ _ _ (Array.getElem?_eq_some_iff.1 hx3).1).trans hx3
  go_upto_region 4 with fail
  generalize hz : w3.heap.size = y at *
  generalize w3.alloc (.cells #[.int .i64 a, .int .i64 b, .int .i64 c, .string r] 39) = w4 at *
  clear hz hb4 hx3 hx hb2 hb3 hb1
  obtain ⟨x0, x1, x2, x3, xf⟩ := stat_cells hx5
  obtain ⟨y0, y1, y2, y3, yf⟩ := stat_cells hy
  clear hx5 hy HL HR HCT
  go_wp2_with (go_at_call 17; refine (lives25_any _).mono ?_; rintro e w6 ⟨rfl, hb6⟩; replace hb5 := hb5.trans (hb6.mono hb5.size))
  go_ret
  exact ⟨rfl, hb5⟩

end Go.Proofs.Ytjlemghmpnkncaa
