/-
  The walk of the law RangesReads. (Written by genrr.py.)
-/
import Derived.Test.YtjlemghmpnkncaaRangT
import Derived.Test.YtjlemghmpnkncaaRangG
namespace Go.Proofs.Ytjlemghmpnkncaa
open Go.RowKit
set_option linter.unusedSimpArgs false
set_option linter.unusedVariables false

theorem askedV_cases (l : List UInt8) : ∃ a b c, askedV l = .tuple #[.agg #[.int .i64 a, .int .i64 b], .int .i64 c] := by
  unfold askedV
  split
  · exact ⟨_, _, _, rfl⟩
  · split <;> exact ⟨_, _, _, rfl⟩

theorem conV_cases (l : List UInt8) : ∃ a b d c, conV l = .tuple #[.agg #[.int .i64 a, .int .i64 b, .int .i64 d], .int .i64 c] := by
  unfold conV
  split
  · exact ⟨_, _, _, _, rfl⟩
  · split <;> exact ⟨_, _, _, _, rfl⟩

set_option maxRecDepth 20000 in
theorem rangesReads_walk (s : ByteArray) (w : World) (hs : s.size ≤ maxLen) :
    Calls Try.prog 7 #[.string s] w fun e w' => e = .returned (.bool true) ∧ Below w.heap.size w w' := by
  have HCT : Hid (∀ w, Calls Try.prog 14 #[.string s, .int .i64 80] w fun e w' => e = .returned (.string (cutB s 80)) ∧ w = w') := Lib.hid (fun w => Cut_any s 80 w hs (by decide))
  have hcz : (cutB s 80).size ≤ 1000 := by rw [cutB_size]; omega
  generalize cutB s 80 = S at *
  have HA := Lib.hid (fun w => Parse_rng S w hcz)
  have HB := Lib.hid (fun w => rParse24_any S w hcz)
  have HC := Lib.hid (fun w => Content_any S w hcz)
  have HD := Lib.hid (fun w => rContent24_any S w hcz)
  obtain ⟨a, b, c, hV⟩ := askedV_cases S.data.toList
  obtain ⟨f, t, z, d, hW⟩ := conV_cases S.data.toList
  rw [hV] at HA HB
  rw [hW] at HC HD
  clear hV hW hcz
  have hb := Below.refl w.heap.size w
  go_enter Try.func7, Try.ntmps7
  go_upto_region 2 with (go_at_call 14; (with_reducible refine (HCT.out _).mono ?_); rintro e w' ⟨rfl, rfl⟩)
  go_upto_region 2 with fail
  go_wp2_with fail
  refine (HA.out _).mono ?_
  rintro e u1 ⟨rfl, hb1⟩
  have hb := hb.trans (hb1.mono hb.size)
  clear hb1
  have hx1 : (u1.alloc (.cells #[.int .i64 a, .int .i64 b] 43)).heap[u1.heap.size]? = some (.cells #[.int .i64 a, .int .i64 b] 43 (0, 0)) := heap_alloc_new u1 _
  have hb := hb.alloc hb.size (.cells #[.int .i64 a, .int .i64 b] 43)
  go_upto_region 3 with fail
  generalize hz1 : u1.heap.size = p at *
  generalize u1.alloc (.cells #[.int .i64 a, .int .i64 b] 43) = v1 at *
  clear hz1
  go_upto_region 3 with fail
  go_wp2_with fail
  refine (HB.out _).mono ?_
  rintro e u2 ⟨rfl, hb2⟩
  have hx1 := (hb2.block _ (Array.getElem?_eq_some_iff.1 hx1).1).trans hx1
  have hb := hb.trans (hb2.mono hb.size)
  clear hb2
  have hx1 : (u2.alloc (.cells #[.int .i64 a, .int .i64 b] 43)).heap[p]? = _ := (Below.heap_alloc _ _ _ (Array.getElem?_eq_some_iff.1 hx1).1).trans hx1
  have hx2 : (u2.alloc (.cells #[.int .i64 a, .int .i64 b] 43)).heap[u2.heap.size]? = some (.cells #[.int .i64 a, .int .i64 b] 43 (0, 0)) := heap_alloc_new u2 _
  have hb := hb.alloc hb.size (.cells #[.int .i64 a, .int .i64 b] 43)
  go_upto_region 4 with fail
  generalize hz2 : u2.heap.size = q at *
  generalize u2.alloc (.cells #[.int .i64 a, .int .i64 b] 43) = v2 at *
  clear hz2
  go_upto_region 4 with fail
  go_wp2_with fail
  refine (HC.out _).mono ?_
  rintro e u3 ⟨rfl, hb3⟩
  have hx1 := (hb3.block _ (Array.getElem?_eq_some_iff.1 hx1).1).trans hx1
  have hx2 := (hb3.block _ (Array.getElem?_eq_some_iff.1 hx2).1).trans hx2
  have hb := hb.trans (hb3.mono hb.size)
  clear hb3
  have hx1 : (u3.alloc (.cells #[.int .i64 f, .int .i64 t, .int .i64 z] 45)).heap[p]? = _ := (Below.heap_alloc _ _ _ (Array.getElem?_eq_some_iff.1 hx1).1).trans hx1
  have hx2 : (u3.alloc (.cells #[.int .i64 f, .int .i64 t, .int .i64 z] 45)).heap[q]? = _ := (Below.heap_alloc _ _ _ (Array.getElem?_eq_some_iff.1 hx2).1).trans hx2
  have hx3 : (u3.alloc (.cells #[.int .i64 f, .int .i64 t, .int .i64 z] 45)).heap[u3.heap.size]? = some (.cells #[.int .i64 f, .int .i64 t, .int .i64 z] 45 (0, 0)) := heap_alloc_new u3 _
  have hb := hb.alloc hb.size (.cells #[.int .i64 f, .int .i64 t, .int .i64 z] 45)
  go_upto_region 5 with fail
  generalize hz3 : u3.heap.size = r at *
  generalize u3.alloc (.cells #[.int .i64 f, .int .i64 t, .int .i64 z] 45) = v3 at *
  clear hz3
  go_upto_region 5 with fail
  go_wp2_with fail
  refine (HD.out _).mono ?_
  rintro e u4 ⟨rfl, hb4⟩
  have hx1 := (hb4.block _ (Array.getElem?_eq_some_iff.1 hx1).1).trans hx1
  have hx2 := (hb4.block _ (Array.getElem?_eq_some_iff.1 hx2).1).trans hx2
  have hx3 := (hb4.block _ (Array.getElem?_eq_some_iff.1 hx3).1).trans hx3
  have hb := hb.trans (hb4.mono hb.size)
  clear hb4
  have hx1 : (u4.alloc (.cells #[.int .i64 f, .int .i64 t, .int .i64 z] 45)).heap[p]? = _ := (Below.heap_alloc _ _ _ (Array.getElem?_eq_some_iff.1 hx1).1).trans hx1
  have hx2 : (u4.alloc (.cells #[.int .i64 f, .int .i64 t, .int .i64 z] 45)).heap[q]? = _ := (Below.heap_alloc _ _ _ (Array.getElem?_eq_some_iff.1 hx2).1).trans hx2
  have hx3 : (u4.alloc (.cells #[.int .i64 f, .int .i64 t, .int .i64 z] 45)).heap[r]? = _ := (Below.heap_alloc _ _ _ (Array.getElem?_eq_some_iff.1 hx3).1).trans hx3
  have hx4 : (u4.alloc (.cells #[.int .i64 f, .int .i64 t, .int .i64 z] 45)).heap[u4.heap.size]? = some (.cells #[.int .i64 f, .int .i64 t, .int .i64 z] 45 (0, 0)) := heap_alloc_new u4 _
  have hb := hb.alloc hb.size (.cells #[.int .i64 f, .int .i64 t, .int .i64 z] 45)
  go_upto_region 6 with fail
  generalize hz4 : u4.heap.size = x at *
  generalize u4.alloc (.cells #[.int .i64 f, .int .i64 t, .int .i64 z] 45) = v4 at *
  clear hz4
  have hx10 := (Lib.cell_of_heap hx1 (j := 0))
  have hx11 := (Lib.cell_of_heap hx1 (j := 1))
  have hx20 := (Lib.cell_of_heap hx2 (j := 0))
  have hx21 := (Lib.cell_of_heap hx2 (j := 1))
  have hx30 := (Lib.cell_of_heap hx3 (j := 0))
  have hx31 := (Lib.cell_of_heap hx3 (j := 1))
  have hx32 := (Lib.cell_of_heap hx3 (j := 2))
  have hx40 := (Lib.cell_of_heap hx4 (j := 0))
  have hx41 := (Lib.cell_of_heap hx4 (j := 1))
  have hx42 := (Lib.cell_of_heap hx4 (j := 2))
  simp at hx10 hx11 hx20 hx21 hx30 hx31 hx32 hx40 hx41 hx42
  clear hx1 hx2 hx3 hx4 HA HB HC HD HCT
  go_wp2_with (go_at_call 23; refine (lives24_any _).mono ?_; rintro e w6 ⟨rfl, hb6⟩; replace hb := hb.trans (hb6.mono hb.size))
  go_ret
  exact ⟨rfl, hb⟩

end Go.Proofs.Ytjlemghmpnkncaa
