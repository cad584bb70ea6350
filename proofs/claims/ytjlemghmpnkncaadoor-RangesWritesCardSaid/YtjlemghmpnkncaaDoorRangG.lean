/-
  Walks of package ranges and its reference: a part is read.
-/
import Derived.Test.YtjlemghmpnkncaaDoorRangF
import Derived.Test.YtjlemghmpnkncaaDoorRangFit
import Derived.Test.YtjlemghmpnkncaaDoorQuietIn
namespace Go.Proofs.YtjlemghmpnkncaaDoor
open Go.RowKit
set_option linter.unusedSimpArgs false
set_option linter.unusedVariables false

def con0 : ByteArray := ⟨#[98, 121, 116, 101, 115, 32, 48, 45, 52, 47, 49, 48]⟩

theorem con0_says : conV con0.data.toList = .tuple #[.agg #[.int .i64 0, .int .i64 4, .int .i64 10], .int .i64 0] := by kernel_rfl

theorem lenP_five : lenP 0 4 10 = 5 := by decide

theorem Content_any (s : ByteArray) (w : World) (hs : s.size ≤ 1000) :
    Calls Tryd.prog 30 #[.string s] w fun e w' => e = .returned (conV s.data.toList) ∧ Below w.heap.size w w' := by
  have HA := Lib.hid (fun w => content_any s w hs)
  obtain ⟨a, b, d, c, hV⟩ : ∃ a b d c, conV s.data.toList = .tuple #[.agg #[.int .i64 a, .int .i64 b, .int .i64 d], .int .i64 c] := by
    unfold conV
    split
    · exact ⟨_, _, _, _, rfl⟩
    · split <;> exact ⟨_, _, _, _, rfl⟩
  rw [hV] at HA ⊢
  clear hV
  go_enter Tryd.func30, Tryd.ntmps30
  go_wp2_with fail
  have h0 : (w.alloc (.cells #[.int .i64 0, .int .i64 0, .int .i64 0] 37)).heap[w.heap.size]? = some (.cells #[.int .i64 0, .int .i64 0, .int .i64 0] 37 (0, 0)) := heap_alloc_new w _
  have hz : w.heap.size < (w.alloc (.cells #[.int .i64 0, .int .i64 0, .int .i64 0] 37)).heap.size := by simp
  have HB := Lib.hid (below_box w (.cells #[.int .i64 0, .int .i64 0, .int .i64 0] 37))
  generalize w.alloc (.cells #[.int .i64 0, .int .i64 0, .int .i64 0] 37) = W at *
  refine (HA.out _).mono ?_
  rintro e w2 ⟨rfl, hb⟩
  have h3 := (hb.block _ hz).trans h0
  have HB2 := Lib.hid (HB.out.trans (hb.mono (by omega)))
  have o0 := (Lib.cell_of_heap h3 (j := 0))
  have o1 := (Lib.cell_of_heap h3 (j := 1))
  have o2 := (Lib.cell_of_heap h3 (j := 2))
  have of := fun i => Lib.frozen_of_heap h3 i
  simp at o0 o1 o2
  have hz0 : w.heap.size < w2.heap.size := lt_of_cell o0
  clear h0 h3 hb
  go_wp2_with fail
  refine bodyPost_ret (v := .tuple #[.agg #[.int .i64 a, .int .i64 b, .int .i64 d], .int .i64 c]) ?_ rfl ⟨rfl, ((HB2.out.setCell (by simp) _).setCell (by simp) _).setCell (by simp) _⟩
  simp [results, Tryd.results30, go_sem, o0, o1, o2, hz0]

theorem lives24_any (w : World) : Calls Tryd.prog 29 #[] w fun e w' => e = .returned (.bool true) ∧ Below w.heap.size w w' := by
  have HL := Lib.hid (fun w => Content_any con0 w (by decide))
  have HN := Lib.hid (fun w => Len_any 0 4 10 w)
  rw [lenP_five] at HN
  rw [con0_says] at HL
  unfold con0 at HL
  go_enter Tryd.func29, Tryd.ntmps29
  go_wp2_with fail
  refine (HL.out _).mono ?_
  rintro e w1 ⟨rfl, hb1⟩
  have hb2 := hb1.trans ((below_box w1 (.cells #[.int .i64 0, .int .i64 4, .int .i64 10] 37)).mono hb1.size)
  have hx : (w1.alloc (.cells #[.int .i64 0, .int .i64 4, .int .i64 10] 37)).heap[w1.heap.size]? = some (.cells #[.int .i64 0, .int .i64 4, .int .i64 10] 37 (0, 0)) := heap_alloc_new w1 _
  go_upto_region 2 with fail
  generalize hz : w1.heap.size = z at *
  generalize w1.alloc (.cells #[.int .i64 0, .int .i64 4, .int .i64 10] 37) = w2 at *
  have o0 := (Lib.cell_of_heap hx (j := 0))
  have o1 := (Lib.cell_of_heap hx (j := 1))
  have o2 := (Lib.cell_of_heap hx (j := 2))
  simp at o0 o1 o2
  clear hz hx
  go_wp2_with (go_at_call 52; refine (HN.out _).mono ?_; rintro e w' ⟨rfl, hb⟩; replace hb2 := hb2.trans (hb.mono hb2.size))
  go_ret
  exact ⟨rfl, hb2⟩

end Go.Proofs.YtjlemghmpnkncaaDoor
