/-
  Walks of package partial: parts that are joined (the one call that the law makes), and the law PartialNext.
-/
import Derived.Test.YtjlemghmpnkncaaPartB
import Derived.LoopN
import Derived.Deep.DeepCutAuto
namespace Go.Proofs.Ytjlemghmpnkncaa
open Go.RowKit
set_option linter.unusedSimpArgs false
set_option linter.unusedVariables false

theorem sized_any (a b : Int) (w : World) :
    Calls Try.prog 58 #[.int .i64 a, .int .i64 b] w fun e w' => e = .returned (.tuple #[.int .i64 (if a = -1 then b else a), .bool (decide (a = -1 ∨ b = -1 ∨ a = b))]) ∧ w = w' := by
  by_cases h1 : a = -1
  · subst h1
    go_enter Try.func58, Try.ntmps58
    go_wp2
    go_ret2
    exact ⟨ret_ib (by simp) (by simp), rfl⟩
  · have e1 : (a == -1) = false := by simpa using h1
    by_cases h2 : b = -1
    · subst h2
      have H := Lib.hid h1; clear h1
      go_enter Try.func58, Try.ntmps58
      go_wp2
      go_ret2
      exact ⟨ret_ib (by first | rfl | simp [H.out]) (by simp), rfl⟩
    · have e2 : (b == -1) = false := by simpa using h2
      have H := Lib.hid h1; have H2 := Lib.hid h2
      clear h1 h2
      go_enter Try.func58, Try.ntmps58
      go_wp2
      go_ret2
      exact ⟨ret_ib (by first | rfl | simp [H.out]) (by have := H.out; have := H2.out; rw [Bool.eq_iff_iff]; simp; omega), rfl⟩

set_option maxHeartbeats 1000000 in
set_option maxRecDepth 20000 in
theorem join_two (g : Nat) (c : Nat) (w : World)
    (c0 : w.cell? ⟨g, 0, none⟩ = some (.int .i64 0)) (c1 : w.cell? ⟨g, 1, none⟩ = some (.int .i64 4)) (c2 : w.cell? ⟨g, 2, none⟩ = some (.int .i64 10))
    (c3 : w.cell? ⟨g, 3, none⟩ = some (.int .i64 5)) (c4 : w.cell? ⟨g, 4, none⟩ = some (.int .i64 9)) (c5 : w.cell? ⟨g, 5, none⟩ = some (.int .i64 (-1))) (hg : g < w.heap.size) :
    Calls Try.prog 33 #[.slice (some ⟨g, 0, none⟩) 2 c] w fun e w' => e = .returned (.tuple #[.agg #[.int .i64 0, .int .i64 9, .int .i64 10], .bool true]) ∧ Below w.heap.size w w' := by
  have s1 : Hid (saysP 0 4 10 = true) := Lib.hid (by decide +kernel)
  have s2 : Hid (saysP 5 9 (-1) = true) := Lib.hid (by decide +kernel)
  have s3 : Hid (goodP 0 9 10 = true) := Lib.hid (by decide +kernel)
  go_enter Try.func33, Try.ntmps33
  go_wp2
  refine wp_loop_rounds 3 ?_
  rw [rounds_succ]
  go_wp2_with fail
  refine (says_any _ _ _ _).mono ?_
  rintro e w1 ⟨rfl, hb1⟩
  obtain ⟨hc1, hf1⟩ := bcell hb1
  have hz1 : w.heap.size + 2 < w1.heap.size := by have := hb1.size; simp at this; omega
  have hz1a : w.heap.size + 1 < w1.heap.size := by omega
  have hz1b : w.heap.size < w1.heap.size := by omega
  have hB1 := below_after3 hb1
  have d3 : w1.cell? ⟨g, 3, none⟩ = some (.int .i64 5) := by rw [hB1.cell (p := ⟨g, 3, none⟩) hg]; exact c3
  have d4 : w1.cell? ⟨g, 4, none⟩ = some (.int .i64 9) := by rw [hB1.cell (p := ⟨g, 4, none⟩) hg]; exact c4
  have d5 : w1.cell? ⟨g, 5, none⟩ = some (.int .i64 (-1)) := by rw [hB1.cell (p := ⟨g, 5, none⟩) hg]; exact c5
  rw [s1.out]
  go_wp2_with fail
  rw [rounds_succ]
  go_wp2_with fail
  refine (says_any _ _ _ _).mono ?_
  rintro e w2 ⟨rfl, hb2⟩
  obtain ⟨hc2, hf2⟩ := bcell hb2
  have hz2 : w1.heap.size < w2.heap.size := by have := hb2.size; simp at this; omega
  have hz2a : w.heap.size + 1 < w2.heap.size := by omega
  have hz2b : w.heap.size < w2.heap.size := by omega
  have hz2c : w.heap.size + 2 < w2.heap.size := by omega
  have e0 : w2.cell? ⟨w.heap.size + 1, 0, none⟩ = some (.int .i64 0) := by rw [hc2 _ _ (by simp; omega)]; simp [go_sem, hc1, hz1a]
  have e1 : w2.cell? ⟨w.heap.size + 1, 1, none⟩ = some (.int .i64 4) := by rw [hc2 _ _ (by simp; omega)]; simp [go_sem, hc1, hz1a]
  have e2 : w2.cell? ⟨w.heap.size + 1, 2, none⟩ = some (.int .i64 10) := by rw [hc2 _ _ (by simp; omega)]; simp [go_sem, hc1, hz1a]
  have p0 : w2.cell? ⟨w1.heap.size, 0, none⟩ = some (.int .i64 5) := by rw [hc2 _ _ (by simp)]; simp [go_sem]
  have p1 : w2.cell? ⟨w1.heap.size, 1, none⟩ = some (.int .i64 9) := by rw [hc2 _ _ (by simp)]; simp [go_sem]
  have p2 : w2.cell? ⟨w1.heap.size, 2, none⟩ = some (.int .i64 (-1)) := by rw [hc2 _ _ (by simp)]; simp [go_sem]
  have q0 : w2.cell? ⟨w.heap.size, 0, none⟩ = some (.int .i64 0) := by rw [hc2 _ _ (by simp; omega)]; simp [go_sem, hc1, hz1b]
  have q1 : w2.cell? ⟨w.heap.size, 1, none⟩ = some (.int .i64 0) := by rw [hc2 _ _ (by simp; omega)]; simp [go_sem, hc1, hz1b]
  have q2 : w2.cell? ⟨w.heap.size, 2, none⟩ = some (.int .i64 0) := by rw [hc2 _ _ (by simp; omega)]; simp [go_sem, hc1, hz1b]
  clear hc2
  rw [s2.out]
  go_wp2_with (go_at_call 58; refine (sized_any _ _ _).mono ?_; rintro e w' ⟨rfl, rfl⟩)
  rw [rounds_succ]
  go_wp2_with fail
  refine (Good_any _ _ _ _).mono ?_
  rintro e w3 ⟨rfl, hb3⟩
  obtain ⟨hc3, hf3⟩ := bcell hb3
  rw [s3.out]
  have hz3 : w2.heap.size ≤ w3.heap.size := by have := hb3.size; simpa using this
  have hz3a : w.heap.size + 1 < w3.heap.size := by omega
  have hz3b : w.heap.size < w3.heap.size := by omega
  go_wp2_with fail
  refine bodyPost_ret (v := .tuple #[.agg #[.int .i64 0, .int .i64 9, .int .i64 10], .bool true]) ?_ rfl ⟨rfl, ?_⟩
  · simp [results, Try.results33, go_sem, hc3, q0, q1, q2, hz2a, hz2b, hz1a, hz1b, hz3a, hz3b]
  · have h2 : Below w.heap.size w w2 := by
      refine Below.trans ?_ (hb2.mono (by simp; omega))
      exact (((hB1.setCell (by simp) _).setCell (by simp) _).setCell (by simp) _).alloc (by simp; omega) _
    have h3 : Below w.heap.size w w3 := by
      refine Below.trans ?_ (hb3.mono (by simp; omega))
      exact ((h2.setCell (by simp) _).setCell (by simp) _).setCell (by simp) _
    exact ((h3.setCell (by simp) _).setCell (by simp) _).setCell (by simp) _

theorem lives35_any (w : World) :
    Calls Try.prog 13 #[] w fun e w' => e = .returned (.bool true) ∧ Below w.heap.size w w' := by
  have s1 : Hid (wholeP 0 9 10 = true) := Lib.hid (by decide +kernel)
  go_enter Try.func13, Try.ntmps13
  go_wp2_with fail
  refine (join_two w.heap.size _ _ (by simp [go_sem]) (by simp [go_sem]) (by simp [go_sem]) (by simp [go_sem]) (by simp [go_sem]) (by simp [go_sem]) (by simp)).mono ?_
  rintro e w1 ⟨rfl, hb1⟩
  go_wp2_with fail
  refine (Whole_any _ _ _ _).mono ?_
  rintro e w2 ⟨rfl, hb2⟩
  rw [s1.out]
  go_wp2_with fail
  go_ret
  refine ⟨rfl, ?_⟩
  have h1 := below_after hb1
  exact (h1.alloc h1.size _).trans (hb2.mono (by have := h1.size; simp; omega))

end Go.Proofs.Ytjlemghmpnkncaa
