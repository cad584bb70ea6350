/-
  The walk of the law RangesOf.
-/
import Derived.Test.YtjlemghmpnkncaaRangH
namespace Go.Proofs.Ytjlemghmpnkncaa
open Go.RowKit
set_option linter.unusedSimpArgs false
set_option linter.unusedVariables false

theorem ofV_cases (l : Pars) : ∃ a b d q, ofV l = .tuple #[.agg #[.int .i64 a, .int .i64 b, .int .i64 d], .bool q] := by
  unfold ofV ofW
  split
  · exact ⟨_, _, _, _, rfl⟩
  · exact ⟨_, _, _, _, rfl⟩

set_option maxRecDepth 20000 in
theorem rangesOf_walk (l : Pars) (A : Option Addr) (c : Nat) (w : World) (hlm : l.length ≤ maxLen) (hps : ∀ p ∈ l, (bt p.1).size ≤ maxLen ∧ (bt p.2).size ≤ maxLen) (hA : ParsIn w w.heap.size A l) :
    Calls Try.prog 6 #[.slice A l.length c] w fun e w' => e = .returned (.bool true) ∧ Below w.heap.size w w' := by
  have H1 : Hid (Calls Try.prog 24 #[.slice A l.length c, .int .i64 10] w fun e w' => ∃ A2 c2, e = .returned (.slice A2 (fewHs 10 l).length c2) ∧ ParsAt w' w'.heap.size A2 (fewHs 10 l) ∧ Below w.heap.size w w') := Lib.hid (Few22_any l 10 A c w (by decide) hlm hps hA)
  obtain ⟨s1, s2⟩ := fewHs_sizes 10 l
  have hid := fewHs_idem 10 l
  clear hlm hps hA
  generalize hL : fewHs 10 l = L at *
  clear hL
  have H2 : Hid (∀ (A : Option Addr) (c : Nat) (w : World), ParsAt w w.heap.size A L → Calls Try.prog 24 #[.slice A L.length c, .int .i64 10] w fun e w' => ∃ A2 c2, e = .returned (.slice A2 L.length c2) ∧ ParsAt w' w'.heap.size A2 L ∧ Below w.heap.size w w') := Lib.hid (fun A c w h => by
    have := Few22_any L 10 A c w (by decide) (by unfold maxLen; omega) (fun p hp => by have := s2 p hp; rw [bt_size, bt_size]; unfold maxLen; omega) h.isIn
    rwa [hid] at this)
  have H3 := Lib.hid (fun (A : Option Addr) (c : Nat) (w : World) (h : ParsAt w w.heap.size A L) => Of_any L A c w (by omega) (fun p hp => by have := s2 p hp; omega) h.isIn)
  have H4 := Lib.hid (fun (A : Option Addr) (c : Nat) (w : World) (h : ParsAt w w.heap.size A L) => rOf24_any L A c w (by omega) (fun p hp => by have := s2 p hp; omega) h.isIn)
  obtain ⟨a, b, d, q, hV⟩ := ofV_cases L
  rw [hV] at H3 H4
  clear hV s1 s2 hid
  go_enter Try.func6, Try.ntmps6
  go_wp2_with fail
  refine H1.out.mono ?_
  rintro e w1 ⟨A1, c1, rfl, hp1, hb⟩
  have HP1 := Lib.hid hp1
  clear hp1
  go_wp2_with fail
  refine (H2.out A1 c1 w1 HP1.out).mono ?_
  rintro e w2 ⟨A2, c2, rfl, hp2, hb2⟩
  have HP2 := Lib.hid hp2
  replace HP1 := Lib.hid (HP1.out.on hb2)
  have hb := hb.trans (hb2.mono hb.size)
  clear hp2 hb2
  go_wp2_with fail
  refine (H3.out A2 c2 w2 HP2.out).mono ?_
  rintro e w3 ⟨rfl, hb3⟩
  have hb := hb.trans (hb3.mono hb.size)
  have hbx := below_box w3 (.cells #[.int .i64 a, .int .i64 b, .int .i64 d] 45)
  replace HP1 := Lib.hid ((HP1.out.on hb3).on hbx)
  have hb := hb.trans (hbx.mono hb.size)
  have hx1 : (w3.alloc (.cells #[.int .i64 a, .int .i64 b, .int .i64 d] 45)).heap[w3.heap.size]? = some (.cells #[.int .i64 a, .int .i64 b, .int .i64 d] 45 (0, 0)) := heap_alloc_new w3 _
  clear hb3 hbx
  go_upto_region 3 with fail
  generalize w3.heap.size = P at *
  generalize w3.alloc (.cells #[.int .i64 a, .int .i64 b, .int .i64 d] 45) = w4 at *
  go_wp2_with fail
  refine (H4.out A1 c1 w4 HP1.out).mono ?_
  rintro e w5 ⟨rfl, hb5⟩
  have hx1 := (hb5.block _ (Array.getElem?_eq_some_iff.1 hx1).1).trans hx1
  have hb := hb.trans (hb5.mono hb.size)
  have hx2 : (w5.alloc (.cells #[.int .i64 a, .int .i64 b, .int .i64 d] 45)).heap[P]? = some (.cells #[.int .i64 a, .int .i64 b, .int .i64 d] 45 (0, 0)) := (Below.heap_alloc _ _ _ (Array.getElem?_eq_some_iff.1 hx1).1).trans hx1
  have hx3 : (w5.alloc (.cells #[.int .i64 a, .int .i64 b, .int .i64 d] 45)).heap[w5.heap.size]? = some (.cells #[.int .i64 a, .int .i64 b, .int .i64 d] 45 (0, 0)) := heap_alloc_new w5 _
  have hb := hb.alloc hb.size (.cells #[.int .i64 a, .int .i64 b, .int .i64 d] 45)
  clear hb5 hx1
  go_upto_region 4 with fail
  generalize w5.heap.size = R at *
  generalize w5.alloc (.cells #[.int .i64 a, .int .i64 b, .int .i64 d] 45) = w6 at *
  have o0 := (Lib.cell_of_heap hx2 (j := 0))
  have o1 := (Lib.cell_of_heap hx2 (j := 1))
  have o2 := (Lib.cell_of_heap hx2 (j := 2))
  have p0 := (Lib.cell_of_heap hx3 (j := 0))
  have p1 := (Lib.cell_of_heap hx3 (j := 1))
  have p2 := (Lib.cell_of_heap hx3 (j := 2))
  simp at o0 o1 o2 p0 p1 p2
  clear hx2 hx3 H1 H2 H3 H4 HP1 HP2
  go_wp2_with (go_at_call 23; refine (lives24_any _).mono ?_; rintro e w7 ⟨rfl, hb7⟩; replace hb := hb.trans (hb7.mono hb.size))
  go_ret
  exact ⟨rfl, hb⟩

end Go.Proofs.Ytjlemghmpnkncaa
