/-
  Walks of package ranges: what comes; what fits.
-/
import Derived.Test.YtjlemghmpnkncaaDoorRangE
import Derived.Test.YtjlemghmpnkncaaDoorPartB
namespace Go.Proofs.YtjlemghmpnkncaaDoor
open Go.RowKit
set_option linter.unusedSimpArgs false
set_option linter.unusedVariables false

theorem entersContent1 : Enters 85 := fun args w => MuLone.run_callFunc_enter Tryd.func85 (by kernel_rfl) rfl args w

/-- The two boxes in which the answer comes. -/
def ConBox (w : World) (c f t a : Int) (w' : World) : Prop :=
  Below w.heap.size w w' ∧ w'.heap[w.heap.size + 1]? = some (.cells #[.int .i64 c] 31 (0, 0)) ∧ w'.heap[w.heap.size]? = some (.cells #[.int .i64 f, .int .i64 t, .int .i64 a] 37 (0, 0))

theorem conBox_stays (w : World) (c f t a : Int) {B : Nat} (hB : w.heap.size + 2 ≤ B) : Stays B (ConBox w c f t a) := fun w1 w2 hb h =>
  ⟨h.1.trans (hb.mono (by omega)), (hb.block _ (by omega)).trans h.2.1, (hb.block _ (by omega)).trans h.2.2⟩

set_option maxRecDepth 20000 in
set_option maxHeartbeats 1000000 in
theorem content_any (s : ByteArray) (w : World) (hs : s.size ≤ 1000) :
    Calls Tryd.prog 53 #[.string s] w fun e w' => e = .returned (conV s.data.toList) ∧ Below w.heap.size w w' := by
  have hmf : ∀ (fn : Fn) (first cap : Array Value) (w : World), (Instr.makeFunc fn first cap).run Tryd.prog w = .ok (.func fn first cap) w := fun _ _ _ _ => rfl
  have hbx : ConBox w 0 0 0 0 ((w.alloc (.cells #[.int .i64 0, .int .i64 0, .int .i64 0] 37)).alloc (.cells #[.int .i64 0] 31)) := by
    refine ⟨(below_box w _).alloc (by simp) _, ?_, ?_⟩
    · have := heap_alloc_new (w.alloc (.cells #[.int .i64 0, .int .i64 0, .int .i64 0] 37)) (.cells #[.int .i64 0] 31)
      simpa using this
    · rw [Below.heap_alloc _ _ _ (by simp)]
      exact heap_alloc_new w _
  have hz : ((w.alloc (.cells #[.int .i64 0, .int .i64 0, .int .i64 0] 37)).alloc (.cells #[.int .i64 0] 31)).heap.size = w.heap.size + 2 := by simp
  go_enter Tryd.func53, Tryd.ntmps53
  go_wp2_with fail
  generalize (w.alloc (.cells #[.int .i64 0, .int .i64 0, .int .i64 0] 37)).alloc (.cells #[.int .i64 0] 31) = W at *
  have hstep : ∀ g w1, Below W.heap.size W w1 → W.heap.size ≤ g → Ahead g s s.data.toList w1 → Calls Tryd.prog 85 (#[rdV g] ++ #[.pointer (some ⟨w.heap.size + 1, 0, none⟩), .pointer (some ⟨w.heap.size, 0, none⟩)]) w1 (ConPost g s.data.toList (w.heap.size + 1) w.heap.size w1) := fun g w1 hb hg hA =>
    content1_any g s s.data.toList (w.heap.size + 1) w.heap.size w1 hA hs (by omega) (by omega) (by omega) ((hb.block _ (by omega)).trans hbx.2.1) ((hb.block _ (by omega)).trans hbx.2.2)
  have hbel : ∀ g w1 w' , Below W.heap.size W w1 → W.heap.size ≤ g → Only (fun i => i = g ∨ i = w.heap.size + 1 ∨ i = w.heap.size) w1 w' → Below w.heap.size w w' := fun g w1 w' hb hg ho =>
    (hbx.1.trans (hb.mono (by omega))).trans (ho.below (by intro i hi; omega) (by have := hb.size; omega))
  cases hA : conL s.data.toList with
  | none =>
    have HF := Lib.hid (form_throws 85 #[.pointer (some ⟨w.heap.size + 1, 0, none⟩), .pointer (some ⟨w.heap.size, 0, none⟩)] s (ConBox w 0 0 0 0) W entersContent1 (conBox_stays w 0 0 0 0 (by omega)) (fun g w1 hb hg hAh => (hstep g w1 hb hg hAh).mono fun e w' hp => by
      unfold ConPost at hp
      rw [hA] at hp
      obtain ⟨h1, h2, h3, h4⟩ := hp
      exact ⟨h1, h2.mono (by intro i hi; omega), hbel g w1 w' hb hg h2, h3.trans ((hb.block _ (by omega)).trans hbx.2.1), h4.trans ((hb.block _ (by omega)).trans hbx.2.2)⟩))
    have HV : Hid (conV s.data.toList = .tuple #[.agg #[.int .i64 0, .int .i64 0, .int .i64 0], .int .i64 2]) := Lib.hid (by unfold conV; rw [hA])
    clear hstep hbel hbx
    refine HF.out.mono ?_
    rintro e w2 ⟨rfl, h1, h2, h3⟩
    have HB := Lib.hid h1
    have b0 := (Lib.cell_of_heap h2 (j := 0))
    have o0 := (Lib.cell_of_heap h3 (j := 0))
    have o1 := (Lib.cell_of_heap h3 (j := 1))
    have o2 := (Lib.cell_of_heap h3 (j := 2))
    have bf := fun i => Lib.frozen_of_heap h2 i
    have of := fun i => Lib.frozen_of_heap h3 i
    simp at b0 o0 o1 o2
    have hz0 : w.heap.size < w2.heap.size := lt_of_cell o0
    clear h1 h2 h3 HF
    go_wp2_with (fail; go_at_call 51; (with_reducible refine (HG.out _).mono ?_); rintro e w' ⟨rfl, hb2⟩; have p0 := (cell_below hb2 hz0).trans o0; have p1 := (cell_below hb2 hz0).trans o1; have p2 := (cell_below hb2 hz0).trans o2; have of' := fun i => (frozen_below hb2 hz0 (o := i)).trans (of i); replace HB := Lib.hid (HB.out.trans (hb2.mono HB.out.size)); have hz1 : w.heap.size < w'.heap.size := Nat.lt_of_lt_of_le hz0 hb2.size)
    refine bodyPost_ret (v := (.tuple #[.agg #[.int .i64 0, .int .i64 0, .int .i64 0], .int .i64 2])) ?_ rfl ⟨by rw [HV.out], ((HB.out.setCell (by simp) _).setCell (by simp) _).setCell (by simp) _⟩
    simp [results, Tryd.results53, go_sem, o0, o1, o2, hz0]
  | some q =>
    obtain ⟨f, t, a⟩ := q
    have HF := Lib.hid (form_gives 85 #[.pointer (some ⟨w.heap.size + 1, 0, none⟩), .pointer (some ⟨w.heap.size, 0, none⟩)] s (ConBox w (saidE a (saidE t (saidE f 0))) (saidN f) (saidN t) (saidN a)) W entersContent1 (conBox_stays w _ _ _ _ (by omega)) (fun g w1 hb hg hAh => (hstep g w1 hb hg hAh).mono fun e w' hp => by
      unfold ConPost at hp
      rw [hA] at hp
      obtain ⟨h1, h2, h3, h4⟩ := hp
      exact ⟨h1, h2.mono (by intro i hi; omega), hbel g w1 w' hb hg h2, h3, h4⟩))
    have HV0 : conV s.data.toList = if saidE a (saidE t (saidE f 0)) ≠ 0 ∨ goodP (saidN f) (saidN t) (saidN a) = false then .tuple #[.agg #[.int .i64 0, .int .i64 0, .int .i64 0], .int .i64 9] else .tuple #[.agg #[.int .i64 (saidN f), .int .i64 (saidN t), .int .i64 (saidN a)], .int .i64 0] := by unfold conV; rw [hA]
    clear hstep hbel hbx
    generalize saidE a (saidE t (saidE f 0)) = et at *
    generalize saidN f = nf at *
    generalize saidN t = nt at *
    generalize saidN a = na at *
    refine HF.out.mono ?_
    rintro e w2 ⟨rfl, h1, h2, h3⟩
    have HB := Lib.hid h1
    have b0 := (Lib.cell_of_heap h2 (j := 0))
    have o0 := (Lib.cell_of_heap h3 (j := 0))
    have o1 := (Lib.cell_of_heap h3 (j := 1))
    have o2 := (Lib.cell_of_heap h3 (j := 2))
    have bf := fun i => Lib.frozen_of_heap h2 i
    have of := fun i => Lib.frozen_of_heap h3 i
    simp at b0 o0 o1 o2
    have hz0 : w.heap.size < w2.heap.size := lt_of_cell o0
    clear h1 h2 h3 HF
    by_cases he : et = 0
    · subst he
      have HG := Lib.hid (fun w => good_any nf nt na w)
      cases hg : goodP nf nt na
      · have HV := Lib.hid (HV0.trans (if_pos (.inr hg)))
        rw [hg] at HG
        clear HV0 hg
        go_wp2_with (go_at_call 51; (with_reducible refine (HG.out _).mono ?_); rintro e w' ⟨rfl, hb2⟩; have p0 := (cell_below hb2 hz0).trans o0; have p1 := (cell_below hb2 hz0).trans o1; have p2 := (cell_below hb2 hz0).trans o2; have of' := fun i => (frozen_below hb2 hz0 (o := i)).trans (of i); replace HB := Lib.hid (HB.out.trans (hb2.mono HB.out.size)); have hz1 : w.heap.size < w'.heap.size := Nat.lt_of_lt_of_le hz0 hb2.size)
        refine bodyPost_ret (v := (.tuple #[.agg #[.int .i64 0, .int .i64 0, .int .i64 0], .int .i64 9])) ?_ rfl ⟨by rw [HV.out], ((HB.out.setCell (by simp) _).setCell (by simp) _).setCell (by simp) _⟩
        simp [results, Tryd.results53, go_sem, o0, o1, o2, hz0, p0, p1, p2, hz1]
      · have HV := Lib.hid (HV0.trans (if_neg (by simp [hg])))
        rw [hg] at HG
        clear HV0 hg
        go_wp2_with (go_at_call 51; (with_reducible refine (HG.out _).mono ?_); rintro e w' ⟨rfl, hb2⟩; have p0 := (cell_below hb2 hz0).trans o0; have p1 := (cell_below hb2 hz0).trans o1; have p2 := (cell_below hb2 hz0).trans o2; have of' := fun i => (frozen_below hb2 hz0 (o := i)).trans (of i); replace HB := Lib.hid (HB.out.trans (hb2.mono HB.out.size)); have hz1 : w.heap.size < w'.heap.size := Nat.lt_of_lt_of_le hz0 hb2.size)
        refine bodyPost_ret (v := (.tuple #[.agg #[.int .i64 nf, .int .i64 nt, .int .i64 na], .int .i64 0])) ?_ rfl ⟨by rw [HV.out], ((HB.out.setCell (by simp) _).setCell (by simp) _).setCell (by simp) _⟩
        simp [results, Tryd.results53, go_sem, o0, o1, o2, hz0, p0, p1, p2, hz1]
    · have HV := Lib.hid (HV0.trans (if_pos (.inl he)))
      have he2 : (et == 0) = false := beq_eq_false_iff_ne.2 he
      clear HV0
      go_wp2_with (fail; go_at_call 51; (with_reducible refine (HG.out _).mono ?_); rintro e w' ⟨rfl, hb2⟩; have p0 := (cell_below hb2 hz0).trans o0; have p1 := (cell_below hb2 hz0).trans o1; have p2 := (cell_below hb2 hz0).trans o2; have of' := fun i => (frozen_below hb2 hz0 (o := i)).trans (of i); replace HB := Lib.hid (HB.out.trans (hb2.mono HB.out.size)); have hz1 : w.heap.size < w'.heap.size := Nat.lt_of_lt_of_le hz0 hb2.size)
      refine bodyPost_ret (v := (.tuple #[.agg #[.int .i64 0, .int .i64 0, .int .i64 0], .int .i64 9])) ?_ rfl ⟨by rw [HV.out], ((HB.out.setCell (by simp) _).setCell (by simp) _).setCell (by simp) _⟩
      simp [results, Tryd.results53, go_sem, o0, o1, o2, hz0]

end Go.Proofs.YtjlemghmpnkncaaDoor
