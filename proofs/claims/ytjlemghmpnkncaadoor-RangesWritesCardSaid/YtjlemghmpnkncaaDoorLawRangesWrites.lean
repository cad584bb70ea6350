/-
  The walk of the law RangesWrites. (Printed by wip/tools/genrw.py.)
-/
import Derived.Test.YtjlemghmpnkncaaDoorRangW
import Derived.Test.YtjlemghmpnkncaaDoorLawRangesReads
namespace Go.Proofs.YtjlemghmpnkncaaDoor
open Go.RowKit
set_option linter.unusedSimpArgs false
set_option linter.unusedVariables false

theorem textL_len {f t : Int} (hf : inB f = true) (ht : inB t = true) : (textL f t).length ≤ 1000 := by
  have h1 := word_len hf
  have h2 := word_len ht
  unfold textL bytesL
  simp
  omega

theorem writeL_len {f t s : Int} (h : goodP f t s = true) : (writeL f t s).length ≤ 1000 := by
  obtain ⟨i1, i2, i3⟩ := good_ins h
  have h1 := word_len i1
  have h2 := word_len i2
  have h3 := word_len i3
  unfold writeL bytesL placeT sizeT
  split <;> split <;> simp <;> omega

theorem range_cases (f t : Int) : ∃ S c x y g, textV f t = .tuple #[.string S, .int .i64 c] ∧ askedV S.data.toList = .tuple #[.agg #[.int .i64 x, .int .i64 y], .int .i64 g] ∧ S.size ≤ 1000 ∧ ((c == 0) = false ∨ (c = 0 ∧ x = f ∧ y = t ∧ g = 0)) := by
  unfold textV
  split
  · obtain ⟨x, y, g, h⟩ := askedV_cases (⟨#[]⟩ : ByteArray).data.toList
    exact ⟨⟨#[]⟩, 2, x, y, g, rfl, h, by decide, .inl rfl⟩
  · split
    · obtain ⟨x, y, g, h⟩ := askedV_cases (⟨#[]⟩ : ByteArray).data.toList
      exact ⟨⟨#[]⟩, 9, x, y, g, rfl, h, by decide, .inl rfl⟩
    · rename_i h1 h2
      have hf : inB f = true := by cases h : inB f <;> simp_all
      have ht : inB t = true := by cases h : inB t <;> simp_all
      refine ⟨txt (textL f t), 0, f, t, 0, rfl, asked_back f t hf ht (fun h => h1 (.inr (.inr h))) h2, ?_, .inr ⟨rfl, rfl, rfl, rfl⟩⟩
      rw [txt_size]
      exact textL_len hf ht

theorem rangesWrites_walk (f t a b s : Int) (w : World) (hT : ∀ w', Below w.heap.size w w' → Pow w') :
    Calls Tryd.prog 5 #[.agg #[.int .i64 f, .int .i64 t], .agg #[.int .i64 a, .int .i64 b, .int .i64 s]] w fun e w' => e = .returned (.bool true) ∧ Below w.heap.size w w' := by
  have HT := Lib.hid (fun w1 (hb : Below w.heap.size w w1) => RText_any f t w1 (fun w2 hb2 => hT w2 (hb.trans (hb2.mono hb.size))))
  have HU := Lib.hid (fun w => rRText_any f t w)
  have HW := Lib.hid (fun w1 (hb : Below w.heap.size w w1) => Write_any a b s w1 (fun w2 hb2 => hT w2 (hb.trans (hb2.mono hb.size))))
  have HG := Lib.hid (fun w => Good_any a b s w)
  have HH := Lib.hid (fun w => rGood_any a b s w)
  have hb : Below w.heap.size w ((w.alloc (.cells #[.int .i64 f, .int .i64 t] 35)).alloc (.cells #[.int .i64 a, .int .i64 b, .int .i64 s] 37)) := (below_box w _).alloc (by simp) _
  have hp : ((w.alloc (.cells #[.int .i64 f, .int .i64 t] 35)).alloc (.cells #[.int .i64 a, .int .i64 b, .int .i64 s] 37)).heap[w.heap.size]? = some (.cells #[.int .i64 f, .int .i64 t] 35 (0, 0)) := (Below.heap_alloc _ _ _ (by simp)).trans (heap_alloc_new w _)
  have hq : ((w.alloc (.cells #[.int .i64 f, .int .i64 t] 35)).alloc (.cells #[.int .i64 a, .int .i64 b, .int .i64 s] 37)).heap[w.heap.size + 1]? = some (.cells #[.int .i64 a, .int .i64 b, .int .i64 s] 37 (0, 0)) := by
    have := heap_alloc_new (w.alloc (.cells #[.int .i64 f, .int .i64 t] 35)) (.cells #[.int .i64 a, .int .i64 b, .int .i64 s] 37)
    simpa using this
  obtain ⟨S, c, x, y, g, e1, e2, hs1, hc⟩ := range_cases f t
  have HP := Lib.hid (fun w => Parse_rng S w hs1)
  rw [e1] at HT HU
  rw [e2] at HP
  clear e1 e2 hs1 hT
  unfold writeV at HW
  cases hg : goodP a b s
  · rw [hg] at HW HG HH
    rw [if_neg (by simp)] at HW
    rcases hc with hc | ⟨rfl, rfl, rfl, rfl⟩
    · skip
      go_enter Tryd.func5, Tryd.ntmps5
      go_upto_region 1 with fail
      generalize (w.alloc (.cells #[.int .i64 f, .int .i64 t] 35)).alloc (.cells #[.int .i64 a, .int .i64 b, .int .i64 s] 37) = W at *
      generalize hQ : w.heap.size + 1 = Q at *
      clear hQ
      have p0 := (Lib.cell_of_heap hp (j := 0))
      have p1 := (Lib.cell_of_heap hp (j := 1))
      have q0 := (Lib.cell_of_heap hq (j := 0))
      have q1 := (Lib.cell_of_heap hq (j := 1))
      have q2 := (Lib.cell_of_heap hq (j := 2))
      simp at p0 p1 q0 q1 q2
      go_wp2_with fail
      refine (HT.out _ hb).mono ?_
      rintro e u1 ⟨rfl, hbn⟩
      clear p0 p1 q0 q1 q2
      have hp := (hbn.block _ (Array.getElem?_eq_some_iff.1 hp).1).trans hp
      have hq := (hbn.block _ (Array.getElem?_eq_some_iff.1 hq).1).trans hq
      have hb := hb.trans (hbn.mono hb.size)
      clear hbn
      have p0 := (Lib.cell_of_heap hp (j := 0))
      have p1 := (Lib.cell_of_heap hp (j := 1))
      have q0 := (Lib.cell_of_heap hq (j := 0))
      have q1 := (Lib.cell_of_heap hq (j := 1))
      have q2 := (Lib.cell_of_heap hq (j := 2))
      simp at p0 p1 q0 q1 q2
      go_upto_region 2 with fail
      go_wp2_with fail
      refine (HU.out _).mono ?_
      rintro e u2 ⟨rfl, hbn⟩
      clear p0 p1 q0 q1 q2
      have hp := (hbn.block _ (Array.getElem?_eq_some_iff.1 hp).1).trans hp
      have hq := (hbn.block _ (Array.getElem?_eq_some_iff.1 hq).1).trans hq
      have hb := hb.trans (hbn.mono hb.size)
      clear hbn
      have p0 := (Lib.cell_of_heap hp (j := 0))
      have p1 := (Lib.cell_of_heap hp (j := 1))
      have q0 := (Lib.cell_of_heap hq (j := 0))
      have q1 := (Lib.cell_of_heap hq (j := 1))
      have q2 := (Lib.cell_of_heap hq (j := 2))
      simp at p0 p1 q0 q1 q2
      go_upto_region 5 with fail
      go_wp2_with fail
      refine (HP.out _).mono ?_
      rintro e u3 ⟨rfl, hbn⟩
      clear p0 p1 q0 q1 q2
      have hp := (hbn.block _ (Array.getElem?_eq_some_iff.1 hp).1).trans hp
      have hq := (hbn.block _ (Array.getElem?_eq_some_iff.1 hq).1).trans hq
      have hb := hb.trans (hbn.mono hb.size)
      clear hbn
      have hp : (u3.alloc (.cells #[.int .i64 x, .int .i64 y] 35)).heap[w.heap.size]? = _ := (Below.heap_alloc _ _ _ (Array.getElem?_eq_some_iff.1 hp).1).trans hp
      have hq : (u3.alloc (.cells #[.int .i64 x, .int .i64 y] 35)).heap[Q]? = _ := (Below.heap_alloc _ _ _ (Array.getElem?_eq_some_iff.1 hq).1).trans hq
      have hr : (u3.alloc (.cells #[.int .i64 x, .int .i64 y] 35)).heap[u3.heap.size]? = some (.cells #[.int .i64 x, .int .i64 y] 35 (0, 0)) := heap_alloc_new u3 _
      have hb := hb.alloc hb.size (.cells #[.int .i64 x, .int .i64 y] 35)
      go_upto_region 6 with fail
      generalize hz1 : u3.heap.size = ghr at *
      generalize u3.alloc (.cells #[.int .i64 x, .int .i64 y] 35) = v3 at *
      clear hz1
      have p0 := (Lib.cell_of_heap hp (j := 0))
      have p1 := (Lib.cell_of_heap hp (j := 1))
      have q0 := (Lib.cell_of_heap hq (j := 0))
      have q1 := (Lib.cell_of_heap hq (j := 1))
      have q2 := (Lib.cell_of_heap hq (j := 2))
      simp at p0 p1 q0 q1 q2
      have r0 := (Lib.cell_of_heap hr (j := 0))
      have r1 := (Lib.cell_of_heap hr (j := 1))
      simp at r0 r1
      go_upto_region 8 with fail
      go_wp2_with fail
      refine (HW.out _ hb).mono ?_
      rintro e u4 ⟨rfl, hbn⟩
      clear p0 p1 q0 q1 q2 r0 r1 hr
      have hp := (hbn.block _ (Array.getElem?_eq_some_iff.1 hp).1).trans hp
      have hq := (hbn.block _ (Array.getElem?_eq_some_iff.1 hq).1).trans hq
      have hb := hb.trans (hbn.mono hb.size)
      clear hbn
      have p0 := (Lib.cell_of_heap hp (j := 0))
      have p1 := (Lib.cell_of_heap hp (j := 1))
      have q0 := (Lib.cell_of_heap hq (j := 0))
      have q1 := (Lib.cell_of_heap hq (j := 1))
      have q2 := (Lib.cell_of_heap hq (j := 2))
      simp at p0 p1 q0 q1 q2
      go_upto_region 9 with fail
      have HBW := Lib.hid hb
      have hzQ := (Array.getElem?_eq_some_iff.1 hq).1
      have hzP := (Array.getElem?_eq_some_iff.1 hp).1
      have hx := @InB.cells u4
      refine wp_region_inb (by kernel_rfl) (by kernel_rfl) ?_; (repeat (first | go_big_quiet_skip | (go_big_quiet_want; go_big_quiet_op; first | go_big_quiet_on | (apply Exists.intro; refine ⟨fun x => ?_, ?_⟩; (· ((first | (go_at_call 27; with_reducible exact inb_call _ (HG.out _)) | (go_at_call 28; with_reducible exact inb_call _ (HH.out _))))); go_big_quiet_on)))); refine wpQuiet_nil ?_; intro _ hw'; obtain ⟨⟨wq, hbq⟩, rfl⟩ := hw'
      have hbn := hbq
      clear hx p0 p1 q0 q1 q2
      have hp := (hbn.block _ (Array.getElem?_eq_some_iff.1 hp).1).trans hp
      have hq := (hbn.block _ (Array.getElem?_eq_some_iff.1 hq).1).trans hq
      have hb := hb.trans (hbn.mono hb.size)
      clear hbn
      have p0 := (Lib.cell_of_heap hp (j := 0))
      have p1 := (Lib.cell_of_heap hp (j := 1))
      have q0 := (Lib.cell_of_heap hq (j := 0))
      have q1 := (Lib.cell_of_heap hq (j := 1))
      have q2 := (Lib.cell_of_heap hq (j := 2))
      simp at p0 p1 q0 q1 q2
      go_wp2_with fail
      refine (HH.out _).mono ?_
      rintro e u5 ⟨rfl, hbn⟩
      clear p0 p1 q0 q1 q2
      have hp := (hbn.block _ (Array.getElem?_eq_some_iff.1 hp).1).trans hp
      have hq := (hbn.block _ (Array.getElem?_eq_some_iff.1 hq).1).trans hq
      have hb := hb.trans (hbn.mono hb.size)
      clear hbn
      have p0 := (Lib.cell_of_heap hp (j := 0))
      have p1 := (Lib.cell_of_heap hp (j := 1))
      have q0 := (Lib.cell_of_heap hq (j := 0))
      have q1 := (Lib.cell_of_heap hq (j := 1))
      have q2 := (Lib.cell_of_heap hq (j := 2))
      simp at p0 p1 q0 q1 q2
      go_wp2_with (go_at_call 29; refine (lives24_any _).mono ?_; rintro e w6 ⟨rfl, hb6⟩; replace hb := hb.trans (hb6.mono hb.size))
      go_ret
      exact ⟨rfl, hb⟩
    · skip
      go_enter Tryd.func5, Tryd.ntmps5
      go_upto_region 1 with fail
      generalize (w.alloc (.cells #[.int .i64 x, .int .i64 y] 35)).alloc (.cells #[.int .i64 a, .int .i64 b, .int .i64 s] 37) = W at *
      generalize hQ : w.heap.size + 1 = Q at *
      clear hQ
      have p0 := (Lib.cell_of_heap hp (j := 0))
      have p1 := (Lib.cell_of_heap hp (j := 1))
      have q0 := (Lib.cell_of_heap hq (j := 0))
      have q1 := (Lib.cell_of_heap hq (j := 1))
      have q2 := (Lib.cell_of_heap hq (j := 2))
      simp at p0 p1 q0 q1 q2
      go_wp2_with fail
      refine (HT.out _ hb).mono ?_
      rintro e u1 ⟨rfl, hbn⟩
      clear p0 p1 q0 q1 q2
      have hp := (hbn.block _ (Array.getElem?_eq_some_iff.1 hp).1).trans hp
      have hq := (hbn.block _ (Array.getElem?_eq_some_iff.1 hq).1).trans hq
      have hb := hb.trans (hbn.mono hb.size)
      clear hbn
      have p0 := (Lib.cell_of_heap hp (j := 0))
      have p1 := (Lib.cell_of_heap hp (j := 1))
      have q0 := (Lib.cell_of_heap hq (j := 0))
      have q1 := (Lib.cell_of_heap hq (j := 1))
      have q2 := (Lib.cell_of_heap hq (j := 2))
      simp at p0 p1 q0 q1 q2
      go_upto_region 2 with fail
      go_wp2_with fail
      refine (HU.out _).mono ?_
      rintro e u2 ⟨rfl, hbn⟩
      clear p0 p1 q0 q1 q2
      have hp := (hbn.block _ (Array.getElem?_eq_some_iff.1 hp).1).trans hp
      have hq := (hbn.block _ (Array.getElem?_eq_some_iff.1 hq).1).trans hq
      have hb := hb.trans (hbn.mono hb.size)
      clear hbn
      have p0 := (Lib.cell_of_heap hp (j := 0))
      have p1 := (Lib.cell_of_heap hp (j := 1))
      have q0 := (Lib.cell_of_heap hq (j := 0))
      have q1 := (Lib.cell_of_heap hq (j := 1))
      have q2 := (Lib.cell_of_heap hq (j := 2))
      simp at p0 p1 q0 q1 q2
      go_upto_region 5 with fail
      go_wp2_with fail
      refine (HP.out _).mono ?_
      rintro e u3 ⟨rfl, hbn⟩
      clear p0 p1 q0 q1 q2
      have hp := (hbn.block _ (Array.getElem?_eq_some_iff.1 hp).1).trans hp
      have hq := (hbn.block _ (Array.getElem?_eq_some_iff.1 hq).1).trans hq
      have hb := hb.trans (hbn.mono hb.size)
      clear hbn
      have hp : (u3.alloc (.cells #[.int .i64 x, .int .i64 y] 35)).heap[w.heap.size]? = _ := (Below.heap_alloc _ _ _ (Array.getElem?_eq_some_iff.1 hp).1).trans hp
      have hq : (u3.alloc (.cells #[.int .i64 x, .int .i64 y] 35)).heap[Q]? = _ := (Below.heap_alloc _ _ _ (Array.getElem?_eq_some_iff.1 hq).1).trans hq
      have hr : (u3.alloc (.cells #[.int .i64 x, .int .i64 y] 35)).heap[u3.heap.size]? = some (.cells #[.int .i64 x, .int .i64 y] 35 (0, 0)) := heap_alloc_new u3 _
      have hb := hb.alloc hb.size (.cells #[.int .i64 x, .int .i64 y] 35)
      go_upto_region 6 with fail
      generalize hz1 : u3.heap.size = ghr at *
      generalize u3.alloc (.cells #[.int .i64 x, .int .i64 y] 35) = v3 at *
      clear hz1
      have p0 := (Lib.cell_of_heap hp (j := 0))
      have p1 := (Lib.cell_of_heap hp (j := 1))
      have q0 := (Lib.cell_of_heap hq (j := 0))
      have q1 := (Lib.cell_of_heap hq (j := 1))
      have q2 := (Lib.cell_of_heap hq (j := 2))
      simp at p0 p1 q0 q1 q2
      have r0 := (Lib.cell_of_heap hr (j := 0))
      have r1 := (Lib.cell_of_heap hr (j := 1))
      simp at r0 r1
      go_upto_region 8 with fail
      go_wp2_with fail
      refine (HW.out _ hb).mono ?_
      rintro e u4 ⟨rfl, hbn⟩
      clear p0 p1 q0 q1 q2 r0 r1 hr
      have hp := (hbn.block _ (Array.getElem?_eq_some_iff.1 hp).1).trans hp
      have hq := (hbn.block _ (Array.getElem?_eq_some_iff.1 hq).1).trans hq
      have hb := hb.trans (hbn.mono hb.size)
      clear hbn
      have p0 := (Lib.cell_of_heap hp (j := 0))
      have p1 := (Lib.cell_of_heap hp (j := 1))
      have q0 := (Lib.cell_of_heap hq (j := 0))
      have q1 := (Lib.cell_of_heap hq (j := 1))
      have q2 := (Lib.cell_of_heap hq (j := 2))
      simp at p0 p1 q0 q1 q2
      go_upto_region 9 with fail
      have HBW := Lib.hid hb
      have hzQ := (Array.getElem?_eq_some_iff.1 hq).1
      have hzP := (Array.getElem?_eq_some_iff.1 hp).1
      have hx := @InB.cells u4
      refine wp_region_inb (by kernel_rfl) (by kernel_rfl) ?_; (repeat (first | go_big_quiet_skip | (go_big_quiet_want; go_big_quiet_op; first | go_big_quiet_on | (apply Exists.intro; refine ⟨fun x => ?_, ?_⟩; (· ((first | (go_at_call 27; with_reducible exact inb_call _ (HG.out _)) | (go_at_call 28; with_reducible exact inb_call _ (HH.out _))))); go_big_quiet_on)))); refine wpQuiet_nil ?_; intro _ hw'; obtain ⟨⟨wq, hbq⟩, rfl⟩ := hw'
      have hbn := hbq
      clear hx p0 p1 q0 q1 q2
      have hp := (hbn.block _ (Array.getElem?_eq_some_iff.1 hp).1).trans hp
      have hq := (hbn.block _ (Array.getElem?_eq_some_iff.1 hq).1).trans hq
      have hb := hb.trans (hbn.mono hb.size)
      clear hbn
      have p0 := (Lib.cell_of_heap hp (j := 0))
      have p1 := (Lib.cell_of_heap hp (j := 1))
      have q0 := (Lib.cell_of_heap hq (j := 0))
      have q1 := (Lib.cell_of_heap hq (j := 1))
      have q2 := (Lib.cell_of_heap hq (j := 2))
      simp at p0 p1 q0 q1 q2
      go_wp2_with fail
      refine (HH.out _).mono ?_
      rintro e u5 ⟨rfl, hbn⟩
      clear p0 p1 q0 q1 q2
      have hp := (hbn.block _ (Array.getElem?_eq_some_iff.1 hp).1).trans hp
      have hq := (hbn.block _ (Array.getElem?_eq_some_iff.1 hq).1).trans hq
      have hb := hb.trans (hbn.mono hb.size)
      clear hbn
      have p0 := (Lib.cell_of_heap hp (j := 0))
      have p1 := (Lib.cell_of_heap hp (j := 1))
      have q0 := (Lib.cell_of_heap hq (j := 0))
      have q1 := (Lib.cell_of_heap hq (j := 1))
      have q2 := (Lib.cell_of_heap hq (j := 2))
      simp at p0 p1 q0 q1 q2
      go_wp2_with (go_at_call 29; refine (lives24_any _).mono ?_; rintro e w6 ⟨rfl, hb6⟩; replace hb := hb.trans (hb6.mono hb.size))
      go_ret
      exact ⟨rfl, hb⟩
  · have HR := Lib.hid (fun w => rWrite_any a b s w hg)
    have HC := Lib.hid (fun w => Content_any (txt (writeL a b s)) w (by rw [txt_size]; exact writeL_len hg))
    rw [show (txt (writeL a b s)).data.toList = writeL a b s from rfl, con_said a b s hg] at HC
    rw [hg] at HW HG HH
    rw [if_pos rfl] at HW
    generalize txt (writeL a b s) = R at *
    rcases hc with hc | ⟨rfl, rfl, rfl, rfl⟩
    · skip
      go_enter Tryd.func5, Tryd.ntmps5
      go_upto_region 1 with fail
      generalize (w.alloc (.cells #[.int .i64 f, .int .i64 t] 35)).alloc (.cells #[.int .i64 a, .int .i64 b, .int .i64 s] 37) = W at *
      generalize hQ : w.heap.size + 1 = Q at *
      clear hQ
      have p0 := (Lib.cell_of_heap hp (j := 0))
      have p1 := (Lib.cell_of_heap hp (j := 1))
      have q0 := (Lib.cell_of_heap hq (j := 0))
      have q1 := (Lib.cell_of_heap hq (j := 1))
      have q2 := (Lib.cell_of_heap hq (j := 2))
      simp at p0 p1 q0 q1 q2
      go_wp2_with fail
      refine (HT.out _ hb).mono ?_
      rintro e u1 ⟨rfl, hbn⟩
      clear p0 p1 q0 q1 q2
      have hp := (hbn.block _ (Array.getElem?_eq_some_iff.1 hp).1).trans hp
      have hq := (hbn.block _ (Array.getElem?_eq_some_iff.1 hq).1).trans hq
      have hb := hb.trans (hbn.mono hb.size)
      clear hbn
      have p0 := (Lib.cell_of_heap hp (j := 0))
      have p1 := (Lib.cell_of_heap hp (j := 1))
      have q0 := (Lib.cell_of_heap hq (j := 0))
      have q1 := (Lib.cell_of_heap hq (j := 1))
      have q2 := (Lib.cell_of_heap hq (j := 2))
      simp at p0 p1 q0 q1 q2
      go_upto_region 2 with fail
      go_wp2_with fail
      refine (HU.out _).mono ?_
      rintro e u2 ⟨rfl, hbn⟩
      clear p0 p1 q0 q1 q2
      have hp := (hbn.block _ (Array.getElem?_eq_some_iff.1 hp).1).trans hp
      have hq := (hbn.block _ (Array.getElem?_eq_some_iff.1 hq).1).trans hq
      have hb := hb.trans (hbn.mono hb.size)
      clear hbn
      have p0 := (Lib.cell_of_heap hp (j := 0))
      have p1 := (Lib.cell_of_heap hp (j := 1))
      have q0 := (Lib.cell_of_heap hq (j := 0))
      have q1 := (Lib.cell_of_heap hq (j := 1))
      have q2 := (Lib.cell_of_heap hq (j := 2))
      simp at p0 p1 q0 q1 q2
      go_upto_region 5 with fail
      go_wp2_with fail
      refine (HP.out _).mono ?_
      rintro e u3 ⟨rfl, hbn⟩
      clear p0 p1 q0 q1 q2
      have hp := (hbn.block _ (Array.getElem?_eq_some_iff.1 hp).1).trans hp
      have hq := (hbn.block _ (Array.getElem?_eq_some_iff.1 hq).1).trans hq
      have hb := hb.trans (hbn.mono hb.size)
      clear hbn
      have hp : (u3.alloc (.cells #[.int .i64 x, .int .i64 y] 35)).heap[w.heap.size]? = _ := (Below.heap_alloc _ _ _ (Array.getElem?_eq_some_iff.1 hp).1).trans hp
      have hq : (u3.alloc (.cells #[.int .i64 x, .int .i64 y] 35)).heap[Q]? = _ := (Below.heap_alloc _ _ _ (Array.getElem?_eq_some_iff.1 hq).1).trans hq
      have hr : (u3.alloc (.cells #[.int .i64 x, .int .i64 y] 35)).heap[u3.heap.size]? = some (.cells #[.int .i64 x, .int .i64 y] 35 (0, 0)) := heap_alloc_new u3 _
      have hb := hb.alloc hb.size (.cells #[.int .i64 x, .int .i64 y] 35)
      go_upto_region 6 with fail
      generalize hz1 : u3.heap.size = ghr at *
      generalize u3.alloc (.cells #[.int .i64 x, .int .i64 y] 35) = v3 at *
      clear hz1
      have p0 := (Lib.cell_of_heap hp (j := 0))
      have p1 := (Lib.cell_of_heap hp (j := 1))
      have q0 := (Lib.cell_of_heap hq (j := 0))
      have q1 := (Lib.cell_of_heap hq (j := 1))
      have q2 := (Lib.cell_of_heap hq (j := 2))
      simp at p0 p1 q0 q1 q2
      have r0 := (Lib.cell_of_heap hr (j := 0))
      have r1 := (Lib.cell_of_heap hr (j := 1))
      simp at r0 r1
      go_upto_region 8 with fail
      go_wp2_with fail
      refine (HW.out _ hb).mono ?_
      rintro e u4 ⟨rfl, hbn⟩
      clear p0 p1 q0 q1 q2 r0 r1 hr
      have hp := (hbn.block _ (Array.getElem?_eq_some_iff.1 hp).1).trans hp
      have hq := (hbn.block _ (Array.getElem?_eq_some_iff.1 hq).1).trans hq
      have hb := hb.trans (hbn.mono hb.size)
      clear hbn
      have p0 := (Lib.cell_of_heap hp (j := 0))
      have p1 := (Lib.cell_of_heap hp (j := 1))
      have q0 := (Lib.cell_of_heap hq (j := 0))
      have q1 := (Lib.cell_of_heap hq (j := 1))
      have q2 := (Lib.cell_of_heap hq (j := 2))
      simp at p0 p1 q0 q1 q2
      go_upto_region 9 with fail
      have HBW := Lib.hid hb
      have hzQ := (Array.getElem?_eq_some_iff.1 hq).1
      have hzP := (Array.getElem?_eq_some_iff.1 hp).1
      have hx := @InB.cells u4
      refine wp_region_inb (by kernel_rfl) (by kernel_rfl) ?_; (repeat (first | go_big_quiet_skip | (go_big_quiet_want; go_big_quiet_op; first | go_big_quiet_on | (apply Exists.intro; refine ⟨fun x => ?_, ?_⟩; (· ((first | (go_at_call 27; with_reducible exact inb_call _ (HG.out _)) | (go_at_call 28; with_reducible exact inb_call _ (HH.out _))))); go_big_quiet_on)))); refine wpQuiet_nil ?_; intro _ hw'; obtain ⟨⟨wq, hbq⟩, rfl⟩ := hw'
      have hbn := hbq
      clear hx p0 p1 q0 q1 q2
      have hp := (hbn.block _ (Array.getElem?_eq_some_iff.1 hp).1).trans hp
      have hq := (hbn.block _ (Array.getElem?_eq_some_iff.1 hq).1).trans hq
      have hb := hb.trans (hbn.mono hb.size)
      clear hbn
      have p0 := (Lib.cell_of_heap hp (j := 0))
      have p1 := (Lib.cell_of_heap hp (j := 1))
      have q0 := (Lib.cell_of_heap hq (j := 0))
      have q1 := (Lib.cell_of_heap hq (j := 1))
      have q2 := (Lib.cell_of_heap hq (j := 2))
      simp at p0 p1 q0 q1 q2
      go_wp2_with fail
      refine (HH.out _).mono ?_
      rintro e u5 ⟨rfl, hbn⟩
      clear p0 p1 q0 q1 q2
      have hp := (hbn.block _ (Array.getElem?_eq_some_iff.1 hp).1).trans hp
      have hq := (hbn.block _ (Array.getElem?_eq_some_iff.1 hq).1).trans hq
      have hb := hb.trans (hbn.mono hb.size)
      clear hbn
      have p0 := (Lib.cell_of_heap hp (j := 0))
      have p1 := (Lib.cell_of_heap hp (j := 1))
      have q0 := (Lib.cell_of_heap hq (j := 0))
      have q1 := (Lib.cell_of_heap hq (j := 1))
      have q2 := (Lib.cell_of_heap hq (j := 2))
      simp at p0 p1 q0 q1 q2
      go_upto_region 13 with fail
      go_wp2_with fail
      refine (HR.out _).mono ?_
      rintro e u6 ⟨rfl, hbn⟩
      clear p0 p1 q0 q1 q2
      have hp := (hbn.block _ (Array.getElem?_eq_some_iff.1 hp).1).trans hp
      have hq := (hbn.block _ (Array.getElem?_eq_some_iff.1 hq).1).trans hq
      have hb := hb.trans (hbn.mono hb.size)
      clear hbn
      go_wp2_with fail
      refine (HC.out _).mono ?_
      rintro e u7 ⟨rfl, hbn⟩
      have hp := (hbn.block _ (Array.getElem?_eq_some_iff.1 hp).1).trans hp
      have hq := (hbn.block _ (Array.getElem?_eq_some_iff.1 hq).1).trans hq
      have hb := hb.trans (hbn.mono hb.size)
      clear hbn
      have hp : (u7.alloc (.cells #[.int .i64 a, .int .i64 b, .int .i64 s] 37)).heap[w.heap.size]? = _ := (Below.heap_alloc _ _ _ (Array.getElem?_eq_some_iff.1 hp).1).trans hp
      have hq : (u7.alloc (.cells #[.int .i64 a, .int .i64 b, .int .i64 s] 37)).heap[Q]? = _ := (Below.heap_alloc _ _ _ (Array.getElem?_eq_some_iff.1 hq).1).trans hq
      have hs : (u7.alloc (.cells #[.int .i64 a, .int .i64 b, .int .i64 s] 37)).heap[u7.heap.size]? = some (.cells #[.int .i64 a, .int .i64 b, .int .i64 s] 37 (0, 0)) := heap_alloc_new u7 _
      have hb := hb.alloc hb.size (.cells #[.int .i64 a, .int .i64 b, .int .i64 s] 37)
      go_upto_region 14 with fail
      generalize hz1 : u7.heap.size = ghs at *
      generalize u7.alloc (.cells #[.int .i64 a, .int .i64 b, .int .i64 s] 37) = v7 at *
      clear hz1
      have p0 := (Lib.cell_of_heap hp (j := 0))
      have p1 := (Lib.cell_of_heap hp (j := 1))
      have q0 := (Lib.cell_of_heap hq (j := 0))
      have q1 := (Lib.cell_of_heap hq (j := 1))
      have q2 := (Lib.cell_of_heap hq (j := 2))
      simp at p0 p1 q0 q1 q2
      have s0 := (Lib.cell_of_heap hs (j := 0))
      have s1 := (Lib.cell_of_heap hs (j := 1))
      have s2 := (Lib.cell_of_heap hs (j := 2))
      simp at s0 s1 s2
      go_wp2_with fail
      refine (HR.out _).mono ?_
      rintro e u8 ⟨rfl, hbn⟩
      have hs := (hbn.block _ (Array.getElem?_eq_some_iff.1 hs).1).trans hs
      clear p0 p1 q0 q1 q2 s0 s1 s2
      have hp := (hbn.block _ (Array.getElem?_eq_some_iff.1 hp).1).trans hp
      have hq := (hbn.block _ (Array.getElem?_eq_some_iff.1 hq).1).trans hq
      have hb := hb.trans (hbn.mono hb.size)
      clear hbn
      have p0 := (Lib.cell_of_heap hp (j := 0))
      have p1 := (Lib.cell_of_heap hp (j := 1))
      have q0 := (Lib.cell_of_heap hq (j := 0))
      have q1 := (Lib.cell_of_heap hq (j := 1))
      have q2 := (Lib.cell_of_heap hq (j := 2))
      simp at p0 p1 q0 q1 q2
      have s0 := (Lib.cell_of_heap hs (j := 0))
      have s1 := (Lib.cell_of_heap hs (j := 1))
      have s2 := (Lib.cell_of_heap hs (j := 2))
      simp at s0 s1 s2
      go_wp2_with (go_at_call 29; refine (lives24_any _).mono ?_; rintro e w6 ⟨rfl, hb6⟩; replace hb := hb.trans (hb6.mono hb.size))
      go_ret
      exact ⟨rfl, hb⟩
    · skip
      go_enter Tryd.func5, Tryd.ntmps5
      go_upto_region 1 with fail
      generalize (w.alloc (.cells #[.int .i64 x, .int .i64 y] 35)).alloc (.cells #[.int .i64 a, .int .i64 b, .int .i64 s] 37) = W at *
      generalize hQ : w.heap.size + 1 = Q at *
      clear hQ
      have p0 := (Lib.cell_of_heap hp (j := 0))
      have p1 := (Lib.cell_of_heap hp (j := 1))
      have q0 := (Lib.cell_of_heap hq (j := 0))
      have q1 := (Lib.cell_of_heap hq (j := 1))
      have q2 := (Lib.cell_of_heap hq (j := 2))
      simp at p0 p1 q0 q1 q2
      go_wp2_with fail
      refine (HT.out _ hb).mono ?_
      rintro e u1 ⟨rfl, hbn⟩
      clear p0 p1 q0 q1 q2
      have hp := (hbn.block _ (Array.getElem?_eq_some_iff.1 hp).1).trans hp
      have hq := (hbn.block _ (Array.getElem?_eq_some_iff.1 hq).1).trans hq
      have hb := hb.trans (hbn.mono hb.size)
      clear hbn
      have p0 := (Lib.cell_of_heap hp (j := 0))
      have p1 := (Lib.cell_of_heap hp (j := 1))
      have q0 := (Lib.cell_of_heap hq (j := 0))
      have q1 := (Lib.cell_of_heap hq (j := 1))
      have q2 := (Lib.cell_of_heap hq (j := 2))
      simp at p0 p1 q0 q1 q2
      go_upto_region 2 with fail
      go_wp2_with fail
      refine (HU.out _).mono ?_
      rintro e u2 ⟨rfl, hbn⟩
      clear p0 p1 q0 q1 q2
      have hp := (hbn.block _ (Array.getElem?_eq_some_iff.1 hp).1).trans hp
      have hq := (hbn.block _ (Array.getElem?_eq_some_iff.1 hq).1).trans hq
      have hb := hb.trans (hbn.mono hb.size)
      clear hbn
      have p0 := (Lib.cell_of_heap hp (j := 0))
      have p1 := (Lib.cell_of_heap hp (j := 1))
      have q0 := (Lib.cell_of_heap hq (j := 0))
      have q1 := (Lib.cell_of_heap hq (j := 1))
      have q2 := (Lib.cell_of_heap hq (j := 2))
      simp at p0 p1 q0 q1 q2
      go_upto_region 5 with fail
      go_wp2_with fail
      refine (HP.out _).mono ?_
      rintro e u3 ⟨rfl, hbn⟩
      clear p0 p1 q0 q1 q2
      have hp := (hbn.block _ (Array.getElem?_eq_some_iff.1 hp).1).trans hp
      have hq := (hbn.block _ (Array.getElem?_eq_some_iff.1 hq).1).trans hq
      have hb := hb.trans (hbn.mono hb.size)
      clear hbn
      have hp : (u3.alloc (.cells #[.int .i64 x, .int .i64 y] 35)).heap[w.heap.size]? = _ := (Below.heap_alloc _ _ _ (Array.getElem?_eq_some_iff.1 hp).1).trans hp
      have hq : (u3.alloc (.cells #[.int .i64 x, .int .i64 y] 35)).heap[Q]? = _ := (Below.heap_alloc _ _ _ (Array.getElem?_eq_some_iff.1 hq).1).trans hq
      have hr : (u3.alloc (.cells #[.int .i64 x, .int .i64 y] 35)).heap[u3.heap.size]? = some (.cells #[.int .i64 x, .int .i64 y] 35 (0, 0)) := heap_alloc_new u3 _
      have hb := hb.alloc hb.size (.cells #[.int .i64 x, .int .i64 y] 35)
      go_upto_region 6 with fail
      generalize hz1 : u3.heap.size = ghr at *
      generalize u3.alloc (.cells #[.int .i64 x, .int .i64 y] 35) = v3 at *
      clear hz1
      have p0 := (Lib.cell_of_heap hp (j := 0))
      have p1 := (Lib.cell_of_heap hp (j := 1))
      have q0 := (Lib.cell_of_heap hq (j := 0))
      have q1 := (Lib.cell_of_heap hq (j := 1))
      have q2 := (Lib.cell_of_heap hq (j := 2))
      simp at p0 p1 q0 q1 q2
      have r0 := (Lib.cell_of_heap hr (j := 0))
      have r1 := (Lib.cell_of_heap hr (j := 1))
      simp at r0 r1
      go_upto_region 8 with fail
      go_wp2_with fail
      refine (HW.out _ hb).mono ?_
      rintro e u4 ⟨rfl, hbn⟩
      clear p0 p1 q0 q1 q2 r0 r1 hr
      have hp := (hbn.block _ (Array.getElem?_eq_some_iff.1 hp).1).trans hp
      have hq := (hbn.block _ (Array.getElem?_eq_some_iff.1 hq).1).trans hq
      have hb := hb.trans (hbn.mono hb.size)
      clear hbn
      have p0 := (Lib.cell_of_heap hp (j := 0))
      have p1 := (Lib.cell_of_heap hp (j := 1))
      have q0 := (Lib.cell_of_heap hq (j := 0))
      have q1 := (Lib.cell_of_heap hq (j := 1))
      have q2 := (Lib.cell_of_heap hq (j := 2))
      simp at p0 p1 q0 q1 q2
      go_upto_region 9 with fail
      have HBW := Lib.hid hb
      have hzQ := (Array.getElem?_eq_some_iff.1 hq).1
      have hzP := (Array.getElem?_eq_some_iff.1 hp).1
      have hx := @InB.cells u4
      refine wp_region_inb (by kernel_rfl) (by kernel_rfl) ?_; (repeat (first | go_big_quiet_skip | (go_big_quiet_want; go_big_quiet_op; first | go_big_quiet_on | (apply Exists.intro; refine ⟨fun x => ?_, ?_⟩; (· ((first | (go_at_call 27; with_reducible exact inb_call _ (HG.out _)) | (go_at_call 28; with_reducible exact inb_call _ (HH.out _))))); go_big_quiet_on)))); refine wpQuiet_nil ?_; intro _ hw'; obtain ⟨⟨wq, hbq⟩, rfl⟩ := hw'
      have hbn := hbq
      clear hx p0 p1 q0 q1 q2
      have hp := (hbn.block _ (Array.getElem?_eq_some_iff.1 hp).1).trans hp
      have hq := (hbn.block _ (Array.getElem?_eq_some_iff.1 hq).1).trans hq
      have hb := hb.trans (hbn.mono hb.size)
      clear hbn
      have p0 := (Lib.cell_of_heap hp (j := 0))
      have p1 := (Lib.cell_of_heap hp (j := 1))
      have q0 := (Lib.cell_of_heap hq (j := 0))
      have q1 := (Lib.cell_of_heap hq (j := 1))
      have q2 := (Lib.cell_of_heap hq (j := 2))
      simp at p0 p1 q0 q1 q2
      go_wp2_with fail
      refine (HH.out _).mono ?_
      rintro e u5 ⟨rfl, hbn⟩
      clear p0 p1 q0 q1 q2
      have hp := (hbn.block _ (Array.getElem?_eq_some_iff.1 hp).1).trans hp
      have hq := (hbn.block _ (Array.getElem?_eq_some_iff.1 hq).1).trans hq
      have hb := hb.trans (hbn.mono hb.size)
      clear hbn
      have p0 := (Lib.cell_of_heap hp (j := 0))
      have p1 := (Lib.cell_of_heap hp (j := 1))
      have q0 := (Lib.cell_of_heap hq (j := 0))
      have q1 := (Lib.cell_of_heap hq (j := 1))
      have q2 := (Lib.cell_of_heap hq (j := 2))
      simp at p0 p1 q0 q1 q2
      go_upto_region 13 with fail
      go_wp2_with fail
      refine (HR.out _).mono ?_
      rintro e u6 ⟨rfl, hbn⟩
      clear p0 p1 q0 q1 q2
      have hp := (hbn.block _ (Array.getElem?_eq_some_iff.1 hp).1).trans hp
      have hq := (hbn.block _ (Array.getElem?_eq_some_iff.1 hq).1).trans hq
      have hb := hb.trans (hbn.mono hb.size)
      clear hbn
      go_wp2_with fail
      refine (HC.out _).mono ?_
      rintro e u7 ⟨rfl, hbn⟩
      have hp := (hbn.block _ (Array.getElem?_eq_some_iff.1 hp).1).trans hp
      have hq := (hbn.block _ (Array.getElem?_eq_some_iff.1 hq).1).trans hq
      have hb := hb.trans (hbn.mono hb.size)
      clear hbn
      have hp : (u7.alloc (.cells #[.int .i64 a, .int .i64 b, .int .i64 s] 37)).heap[w.heap.size]? = _ := (Below.heap_alloc _ _ _ (Array.getElem?_eq_some_iff.1 hp).1).trans hp
      have hq : (u7.alloc (.cells #[.int .i64 a, .int .i64 b, .int .i64 s] 37)).heap[Q]? = _ := (Below.heap_alloc _ _ _ (Array.getElem?_eq_some_iff.1 hq).1).trans hq
      have hs : (u7.alloc (.cells #[.int .i64 a, .int .i64 b, .int .i64 s] 37)).heap[u7.heap.size]? = some (.cells #[.int .i64 a, .int .i64 b, .int .i64 s] 37 (0, 0)) := heap_alloc_new u7 _
      have hb := hb.alloc hb.size (.cells #[.int .i64 a, .int .i64 b, .int .i64 s] 37)
      go_upto_region 14 with fail
      generalize hz1 : u7.heap.size = ghs at *
      generalize u7.alloc (.cells #[.int .i64 a, .int .i64 b, .int .i64 s] 37) = v7 at *
      clear hz1
      have p0 := (Lib.cell_of_heap hp (j := 0))
      have p1 := (Lib.cell_of_heap hp (j := 1))
      have q0 := (Lib.cell_of_heap hq (j := 0))
      have q1 := (Lib.cell_of_heap hq (j := 1))
      have q2 := (Lib.cell_of_heap hq (j := 2))
      simp at p0 p1 q0 q1 q2
      have s0 := (Lib.cell_of_heap hs (j := 0))
      have s1 := (Lib.cell_of_heap hs (j := 1))
      have s2 := (Lib.cell_of_heap hs (j := 2))
      simp at s0 s1 s2
      go_wp2_with fail
      refine (HR.out _).mono ?_
      rintro e u8 ⟨rfl, hbn⟩
      have hs := (hbn.block _ (Array.getElem?_eq_some_iff.1 hs).1).trans hs
      clear p0 p1 q0 q1 q2 s0 s1 s2
      have hp := (hbn.block _ (Array.getElem?_eq_some_iff.1 hp).1).trans hp
      have hq := (hbn.block _ (Array.getElem?_eq_some_iff.1 hq).1).trans hq
      have hb := hb.trans (hbn.mono hb.size)
      clear hbn
      have p0 := (Lib.cell_of_heap hp (j := 0))
      have p1 := (Lib.cell_of_heap hp (j := 1))
      have q0 := (Lib.cell_of_heap hq (j := 0))
      have q1 := (Lib.cell_of_heap hq (j := 1))
      have q2 := (Lib.cell_of_heap hq (j := 2))
      simp at p0 p1 q0 q1 q2
      have s0 := (Lib.cell_of_heap hs (j := 0))
      have s1 := (Lib.cell_of_heap hs (j := 1))
      have s2 := (Lib.cell_of_heap hs (j := 2))
      simp at s0 s1 s2
      go_wp2_with (go_at_call 29; refine (lives24_any _).mono ?_; rintro e w6 ⟨rfl, hb6⟩; replace hb := hb.trans (hb6.mono hb.size))
      go_ret
      exact ⟨rfl, hb⟩

end Go.Proofs.YtjlemghmpnkncaaDoor
