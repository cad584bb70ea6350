/-
  Walks of package valid: the oldest key, of one; a key more.
-/
import Derived.Test.YtjlemghmpnkncaaValidA
namespace Go.Proofs.Ytjlemghmpnkncaa
open Go.RowKit
set_option linter.unusedSimpArgs false
set_option linter.unusedVariables false

theorem run_range_set {w : World} {r clk : Nat} {es : Array MapEntry} (h : w.heap[r]? = some (.map es clk)) :
    (Instr.range 59 (.map (some r))).run Try.prog w = .ok (.pointer (some ⟨w.heap.size, 0, none⟩)) (w.alloc (.mapIter (some r) clk #[] clk)) := by
  have hm := Try.underlying59
  simp [Instr.range, run_underlying hm, MapKept.run_getObj_map h, Result.andThen]

theorem getObj_any {w : World} {q : Nat} {a : Option Nat} {b d : Nat} {c : Array Nat} (h : w.heap[q]? = some (.mapIter a b c d)) : (getObj q).run Try.prog w = .ok (.mapIter a b c d) w := by
  simp [getObj, Sem.run, h]

theorem setObj_any {w : World} {q : Nat} {a : Option Nat} {b d : Nat} {c : Array Nat} (o2 : Obj) (h : w.heap[q]? = some (.mapIter a b c d)) : (setObj q o2).run Try.prog w = .ok () (putObj w q o2) := by
  simp [setObj, Sem.run, h, putObj]

theorem run_next_one {w : World} {r it : Nat} {s : ByteArray} (h : w.heap[r]? = some (.map (entV (some s)) 1)) (hi : w.heap[it]? = some (.mapIter (some r) 1 #[] 1)) (t : TypeId) :
    (Instr.next (.pointer (some ⟨it, 0, none⟩)) false t).run Try.prog w = .ok (.tuple #[.bool true, .string s, .int .i64 0]) (putObj w it (.mapIter (some r) 1 #[0] 1)) := by
  have h1 := getObj_any hi
  have h2 := MapKept.run_getObj_map (P := Try.prog) h
  have h3 := setObj_any (w := w) (.mapIter (some r) 1 #[0] 1) hi
  have hf : (Question.mapNext 1).forced = true := rfl
  simp [Instr.next, h1, h2, Result.andThen, entV, choose, Sem.run, hf, h3]

theorem run_next_over {w : World} {r it : Nat} {s : ByteArray} (h : w.heap[r]? = some (.map (entV (some s)) 1)) (hi : w.heap[it]? = some (.mapIter (some r) 1 #[0] 1)) (t : TypeId) :
    (Instr.next (.pointer (some ⟨it, 0, none⟩)) false t).run Try.prog w = .ok (.tuple #[.bool false]) w := by
  have h1 := getObj_any hi
  have h2 := MapKept.run_getObj_map (P := Try.prog) h
  have hf : (Question.mapNext 1).forced = true := rfl
  simp [Instr.next, h1, h2, Result.andThen, entV, choose, Sem.run, hf]

theorem run_entry_one {w : World} {r it : Nat} {s : ByteArray} (h : w.heap[r]? = some (.map (entV (some s)) 1)) (hi : w.heap[it]? = some (.mapIter (some r) 1 #[0] 1)) :
    (Instr.entry (.pointer (some ⟨it, 0, none⟩))).run Try.prog w = .ok (.tuple #[.string s, .int .i64 0]) w := by
  have h1 := getObj_any hi
  have h2 := MapKept.run_getObj_map (P := Try.prog) h
  simp [Instr.entry, h1, h2, Result.andThen, entV]

set_option maxRecDepth 20000 in
theorem oldest_set (g r : Nat) (s : ByteArray) (nx mo go : Int) (w : World) (h : SetAt w g r (some s) 1 nx mo go) :
    Calls Try.prog 56 #[.pointer (some ⟨g, 0, none⟩)] w fun e w' => e = .returned (.string s) ∧ Below w.heap.size w w' := by
  have c0 : w.cell? ⟨g, 0, none⟩ = some (.map (some r)) := by rw [Lib.cell_of_heap h.cells]; rfl
  have hr := run_range_set h.map
  have hrr : r < w.heap.size := (Array.getElem?_eq_some_iff.1 h.map).1
  have hi1 : (w.alloc (.mapIter (some r) 1 #[] 1)).heap[w.heap.size]? = some (.mapIter (some r) 1 #[] 1) := heap_alloc_new w _
  have hm1 : (w.alloc (.mapIter (some r) 1 #[] 1)).heap[r]? = some (.map (entV (some s)) 1) := (Below.heap_alloc _ _ _ hrr).trans h.map
  have hn1 := run_next_one hm1 hi1
  have hi2 := putObj_at (o := .mapIter (some r) 1 #[0] 1) hi1
  have hm2 : (putObj (w.alloc (.mapIter (some r) 1 #[] 1)) w.heap.size (.mapIter (some r) 1 #[0] 1)).heap[r]? = some (.map (entV (some s)) 1) := (putObj_far hi1 (by omega)).trans hm1
  have hn2 := run_next_over hm2 hi2
  have hen := run_entry_one hm2 hi2
  have hb1 : Below w.heap.size w (w.alloc (.mapIter (some r) 1 #[] 1)) := below_box w _
  have hb2 : Below w.heap.size w (putObj (w.alloc (.mapIter (some r) 1 #[] 1)) w.heap.size (.mapIter (some r) 1 #[0] 1)) :=
    ⟨hb1.os, hb1.tape, hb1.output, by rw [putObj_size]; exact hb1.size, fun q hq => (putObj_far hi1 (by omega)).trans (hb1.block q hq)⟩
  clear hi1 hm1 hi2 hm2
  go_enter Try.func56, Try.ntmps56
  go_wp2_with fail
  generalize hW1 : w.alloc (.mapIter (some r) 1 #[] 1) = W1 at *
  generalize hW2 : putObj W1 w.heap.size (.mapIter (some r) 1 #[0] 1) = W2 at *
  clear hW1 hW2 hr c0
  have HB2 := Lib.hid hb2
  clear hb1 hb2
  go_loopw [3, 4] (fun k n wr => (k = .string ⟨#[]⟩ ∧ n = .int .i64 (-1) ∧ wr = W1) ∨ (k = .string s ∧ n = .int .i64 0 ∧ wr = W2)) (fun _ n _ => if intOf n = -1 then 1 else 0)
  case atStart => exact .inl ⟨rfl, rfl, rfl⟩
  case round =>
    rcases hrel with ⟨rfl, rfl, rfl⟩ | ⟨rfl, rfl, rfl⟩
    · go_wp2_with fail
      go_roundw
      case rel => first | exact .inr ⟨rfl, rfl, rfl⟩ | exact .inr ⟨rfl, trivial, rfl⟩ | simp
      case measure => simp [intOf]
    · go_wp2_with fail
      go_ret
      exact ⟨rfl, HB2.out⟩

set_option maxRecDepth 20000 in
theorem Add_set (g r m : Nat) (s : ByteArray) (w : World) (h : SetAt w g r none 0 0 m 0) (hgr : g ≠ r) (hm : m ≤ 3) (hs : s ≠ ⟨#[]⟩) :
    Calls Try.prog 31 #[.pointer (some ⟨g, 0, none⟩), .string s] w fun e w' => e = .returned (.tuple #[.string (if m = 0 then s else ⟨#[]⟩), .bool (decide (m = 0))]) ∧
      (∃ nx go, SetAt w' g r (if m = 0 then none else some s) 1 nx m go) ∧ OnlyGR g r w w' := by
  have hnn := fun w => ne_nil_set g w
  have HH := Lib.hid (has_set g r none 0 0 m 0 s w h)
  have c0 : w.cell? ⟨g, 0, none⟩ = some (.map (some r)) := by rw [Lib.cell_of_heap h.cells]; rfl
  have c1 : w.cell? ⟨g, 1, none⟩ = some (.int .i64 0) := by rw [Lib.cell_of_heap h.cells]; rfl
  have c2 : w.cell? ⟨g, 2, none⟩ = some (.int .i64 m) := by rw [Lib.cell_of_heap h.cells]; rfl
  have c3 : w.cell? ⟨g, 3, none⟩ = some (.int .i64 0) := by rw [Lib.cell_of_heap h.cells]; rfl
  have hse : (s.toList.isEmpty) = false := by
    rw [Lib.toList_data]
    cases hx : s.data.toList with
    | nil =>
      exfalso; apply hs
      apply ByteArray.ext; apply Array.ext'; rw [hx]
    | cons a b => rfl
  have hup : (Instr.mapUpdate 59 (.map (some r)) (.string s) (.int .i64 0)).run Try.prog w.drew = .ok () (putObj w.drew r (.map (entV (some s)) 1)) := run_mapUpdate_first w.drew 59 9 3 r 0 s (.int .i64 0) Try.underlying59 Try.underlying9 h.map
  have HS := Lib.hid h
  clear h
  go_enter Try.func31, Try.ntmps31
  go_upto_region 3 with (go_at_call 32; (with_reducible refine HH.out.mono ?_); rintro e w' ⟨rfl, rfl⟩)
  refine wp_region_N 9 (fun w' => w'.cell? ⟨g, 0, none⟩ = some (.map (some r)) ∧ w'.cell? ⟨g, 1, none⟩ = some (.int .i64 0)) (by kernel_rfl) (by kernel_rfl) ⟨c0, c1⟩ ?_
  (refine NJ.take (i := 0) (v := ?_) rfl rfl (by kernel_rfl) (by kernel_rfl) (by kernel_rfl) (by kernel_rfl) (fun _ _ _ h => h) (Or.inl ⟨by rfl, ?_⟩) ?_; rotate_left; (focus (intro wS hSw; (try dsimp only at hSw); go_simp; first | done | with_reducible rfl)); (try simp only [Act.put, List.getElem_toArray, List.getElem_cons_zero, List.getElem_cons_succ, List.setIfInBounds_toArray, List.set_cons_zero, List.set_cons_succ]))
  (refine NJ.take (i := 1) (v := ?_) rfl rfl (by kernel_rfl) (by kernel_rfl) (by kernel_rfl) (by kernel_rfl) (fun _ _ _ h => h) (Or.inl ⟨by rfl, ?_⟩) ?_; rotate_left; (focus (intro wS hSw; (try dsimp only at hSw); go_simp; first | done | with_reducible rfl)); (try simp only [Act.put, List.getElem_toArray, List.getElem_cons_zero, List.getElem_cons_succ, List.setIfInBounds_toArray, List.set_cons_zero, List.set_cons_succ]))
  (refine NJ.take (i := 2) (v := ?_) rfl rfl (by kernel_rfl) (by kernel_rfl) (by kernel_rfl) (by kernel_rfl) (fun _ _ _ h => h) (Or.inl ⟨by rfl, ?_⟩) ?_; rotate_left; (focus (intro wS hSw; (try dsimp only at hSw); go_simp; first | done | with_reducible rfl)); (try simp only [Act.put, List.getElem_toArray, List.getElem_cons_zero, List.getElem_cons_succ, List.setIfInBounds_toArray, List.set_cons_zero, List.set_cons_succ]))
  (refine NJ.take (i := 3) (v := ?_) rfl rfl (by kernel_rfl) (by kernel_rfl) (by kernel_rfl) (by kernel_rfl) (fun _ _ _ h => h) (Or.inl ⟨by rfl, ?_⟩) ?_; rotate_left; (focus (intro wS hSw; (try dsimp only at hSw); go_simp; first | done | with_reducible rfl)); (try simp only [Act.put, List.getElem_toArray, List.getElem_cons_zero, List.getElem_cons_succ, List.setIfInBounds_toArray, List.set_cons_zero, List.set_cons_succ]))
  (refine NJ.take (i := 4) (v := ?_) rfl rfl (by kernel_rfl) (by kernel_rfl) (by kernel_rfl) (by kernel_rfl) (fun _ _ _ h => h) (Or.inl ⟨by rfl, ?_⟩) ?_; rotate_left; (focus (intro wS hSw; (try dsimp only at hSw); go_simp; first | done | with_reducible rfl)); (try simp only [Act.put, List.getElem_toArray, List.getElem_cons_zero, List.getElem_cons_succ, List.setIfInBounds_toArray, List.set_cons_zero, List.set_cons_succ]))
  (refine NJ.take (i := 5) (v := ?_) rfl rfl (by kernel_rfl) (by kernel_rfl) (by kernel_rfl) (by kernel_rfl) (fun _ _ _ h => h) (Or.inl ⟨by rfl, ?_⟩) ?_; rotate_left; (focus (intro wS hSw; (try dsimp only at hSw); go_simp; first | done | with_reducible rfl)); (try simp only [Act.put, List.getElem_toArray, List.getElem_cons_zero, List.getElem_cons_succ, List.setIfInBounds_toArray, List.set_cons_zero, List.set_cons_succ]))
  (refine NJ.take (i := 6) (v := ?_) rfl rfl (by kernel_rfl) (by kernel_rfl) (by kernel_rfl) (by kernel_rfl) (fun _ _ _ h => h) (Or.inl ⟨by rfl, ?_⟩) ?_; rotate_left; (focus (intro wS hSw; (try dsimp only at hSw); go_simp; first | done | with_reducible rfl)); (try simp only [Act.put, List.getElem_toArray, List.getElem_cons_zero, List.getElem_cons_succ, List.setIfInBounds_toArray, List.set_cons_zero, List.set_cons_succ]))
  (refine NJ.take (i := 7) (v := ?_) rfl rfl (by kernel_rfl) (by kernel_rfl) (by kernel_rfl) (by kernel_rfl) (fun _ _ _ h => h) (Or.inl ⟨by rfl, ?_⟩) ?_; rotate_left; (focus (intro wS hSw; (try dsimp only at hSw); go_simp; first | done | with_reducible rfl)); (try simp only [Act.put, List.getElem_toArray, List.getElem_cons_zero, List.getElem_cons_succ, List.setIfInBounds_toArray, List.set_cons_zero, List.set_cons_succ]))
  (refine NJ.take (i := 8) (v := ?_) rfl rfl (by kernel_rfl) (by kernel_rfl) (by kernel_rfl) (by kernel_rfl) (fun _ _ _ h => h) (Or.inl ⟨by rfl, ?_⟩) ?_; rotate_left; (focus (intro wS hSw; (try dsimp only at hSw); go_simp; first | done | with_reducible rfl)); (try simp only [Act.put, List.getElem_toArray, List.getElem_cons_zero, List.getElem_cons_succ, List.setIfInBounds_toArray, List.set_cons_zero, List.set_cons_succ]))
  (refine NJ.last rfl (by kernel_rfl) (by kernel_rfl) (fun hSat K hK => ?_); go_simp; refine hK.out _ _ ?_; clear hK hSat K; (try simp only [Act.put, List.getElem_toArray, List.getElem_cons_zero, List.getElem_cons_succ, List.setIfInBounds_toArray, List.set_cons_zero, List.set_cons_succ]))
  have hr1 : (putObj w.drew r (.map (entV (some s)) 1)).heap[r]? = some (.map (entV (some s)) 1) := putObj_at HS.out.map
  have hg1 : (putObj w.drew r (.map (entV (some s)) 1)).heap[g]? = some (.cells #[.map (some r), .int .i64 0, .int .i64 m, .int .i64 0] 61 (0, 0)) := (putObj_far (w := w.drew) HS.out.map hgr).trans HS.out.cells
  have hO1 : OnlyGR g r w (putObj w.drew r (.map (entV (some s)) 1)) := (OnlyGR.refl g r w).drew.put HS.out.map
  clear hup c0 c1 c2 c3 HH HS
  generalize putObj w.drew r (.map (entV (some s)) 1) = W1 at *
  have c0 : W1.cell? ⟨g, 0, none⟩ = some (.map (some r)) := by rw [Lib.cell_of_heap hg1]; rfl
  have c1 : W1.cell? ⟨g, 1, none⟩ = some (.int .i64 0) := by rw [Lib.cell_of_heap hg1]; rfl
  have c2 : W1.cell? ⟨g, 2, none⟩ = some (.int .i64 m) := by rw [Lib.cell_of_heap hg1]; rfl
  have cz : ∀ i, W1.frozen? ⟨g, i, none⟩ = false := fun i => Lib.frozen_of_heap hg1 i
  have HR1 := Lib.hid hr1
  have HG1 := Lib.hid hg1
  have HO1 := Lib.hid hO1
  clear hr1 hg1 hO1
  go_upto_region 5 with fail
  have hr2 : (W1.setCell ⟨g, 1, none⟩ (.int .i64 1)).heap[r]? = some (.map (entV (some s)) 1) := by
    have := HR1.out
    simp [World.setCell, Array.getElem?_modify, hgr, this]
  have hg2 : (W1.setCell ⟨g, 1, none⟩ (.int .i64 1)).heap[g]? = some (.cells #[.map (some r), .int .i64 1, .int .i64 m, .int .i64 0] 61 (0, 0)) := by
    have := HG1.out
    simp [World.setCell, Array.getElem?_modify, this]
  have HO2 := Lib.hid (HO1.out.set 1 (.int .i64 1))
  clear c0 c1 c2 cz HR1 HG1 HO1
  generalize W1.setCell ⟨g, 1, none⟩ (.int .i64 1) = W2 at *
  have c0 : W2.cell? ⟨g, 0, none⟩ = some (.map (some r)) := by rw [Lib.cell_of_heap hg2]; rfl
  have c2 : W2.cell? ⟨g, 2, none⟩ = some (.int .i64 m) := by rw [Lib.cell_of_heap hg2]; rfl
  have HL := Lib.hid (fun (w' : World) (t : TypeId) (h : w'.heap[r]? = some (.map (entV (some s)) 1)) => run_len_set h t)
  have hle : (entV (some s)).size = 1 := rfl
  rw [hle] at HL
  clear hle
  have HR2 := Lib.hid hr2
  have HG2 := Lib.hid hg2
  clear hg2
  refine wp_region_N 10 (fun w' => w'.cell? ⟨g, 0, none⟩ = some (.map (some r)) ∧ w'.cell? ⟨g, 2, none⟩ = some (.int .i64 m) ∧ ∀ t, (Builtin.len_ #[59] t #[.map (some r)]).run Try.prog w' = .ok (.int .i64 ((1 : Nat) : Int)) w') (by kernel_rfl) (by kernel_rfl) ⟨c0, c2, fun t => HL.out _ t hr2⟩ ?_
  (refine NJ.take (i := 0) (v := ?_) rfl rfl (by kernel_rfl) (by kernel_rfl) (by kernel_rfl) (by kernel_rfl) (fun _ _ _ h => h) (Or.inl ⟨by rfl, ?_⟩) ?_; rotate_left; (focus (intro wS hSw; (try dsimp only at hSw); go_simp; first | done | with_reducible rfl)); (try simp only [Act.put, List.getElem_toArray, List.getElem_cons_zero, List.getElem_cons_succ, List.setIfInBounds_toArray, List.set_cons_zero, List.set_cons_succ]))
  (refine NJ.take (i := 1) (v := ?_) rfl rfl (by kernel_rfl) (by kernel_rfl) (by kernel_rfl) (by kernel_rfl) (fun _ _ _ h => h) (Or.inl ⟨by rfl, ?_⟩) ?_; rotate_left; (focus (intro wS hSw; (try dsimp only at hSw); go_simp; first | done | with_reducible rfl)); (try simp only [Act.put, List.getElem_toArray, List.getElem_cons_zero, List.getElem_cons_succ, List.setIfInBounds_toArray, List.set_cons_zero, List.set_cons_succ]))
  (refine NJ.take (i := 2) (v := ?_) rfl rfl (by kernel_rfl) (by kernel_rfl) (by kernel_rfl) (by kernel_rfl) (fun _ _ _ h => h) (Or.inl ⟨by rfl, ?_⟩) ?_; rotate_left; (focus (intro wS hSw; (try dsimp only at hSw); go_simp; first | done | with_reducible rfl)); (try simp only [Act.put, List.getElem_toArray, List.getElem_cons_zero, List.getElem_cons_succ, List.setIfInBounds_toArray, List.set_cons_zero, List.set_cons_succ]))
  (refine NJ.take (i := 3) (v := ?_) rfl rfl (by kernel_rfl) (by kernel_rfl) (by kernel_rfl) (by kernel_rfl) (fun _ _ _ h => h) (Or.inl ⟨by rfl, ?_⟩) ?_; rotate_left; (focus (intro wS hSw; (try dsimp only at hSw); go_simp; first | done | with_reducible rfl)); (try simp only [Act.put, List.getElem_toArray, List.getElem_cons_zero, List.getElem_cons_succ, List.setIfInBounds_toArray, List.set_cons_zero, List.set_cons_succ]))
  (refine NJ.take (i := 4) (v := ?_) rfl rfl (by kernel_rfl) (by kernel_rfl) (by kernel_rfl) (by kernel_rfl) (fun _ _ _ h => h) (Or.inl ⟨by rfl, ?_⟩) ?_; rotate_left; (focus (intro wS hSw; (try dsimp only at hSw); go_simp; first | done | with_reducible rfl)); (try simp only [Act.put, List.getElem_toArray, List.getElem_cons_zero, List.getElem_cons_succ, List.setIfInBounds_toArray, List.set_cons_zero, List.set_cons_succ]))
  (refine NJ.take (i := 5) (v := ?_) rfl rfl (by kernel_rfl) (by kernel_rfl) (by kernel_rfl) (by kernel_rfl) (fun _ _ _ h => h) (Or.inl ⟨by rfl, ?_⟩) ?_; rotate_left; (focus (intro wS hSw; (try dsimp only at hSw); go_simp; first | done | with_reducible rfl)); (try simp only [Act.put, List.getElem_toArray, List.getElem_cons_zero, List.getElem_cons_succ, List.setIfInBounds_toArray, List.set_cons_zero, List.set_cons_succ]))
  (refine NJ.take (i := 6) (v := ?_) rfl rfl (by kernel_rfl) (by kernel_rfl) (by kernel_rfl) (by kernel_rfl) (fun _ _ _ h => h) (Or.inl ⟨by rfl, ?_⟩) ?_; rotate_left; (focus (intro wS hSw; (try dsimp only at hSw); go_simp; first | done | with_reducible rfl)); (try simp only [Act.put, List.getElem_toArray, List.getElem_cons_zero, List.getElem_cons_succ, List.setIfInBounds_toArray, List.set_cons_zero, List.set_cons_succ]))
  (refine NJ.take (i := 7) (v := ?_) rfl rfl (by kernel_rfl) (by kernel_rfl) (by kernel_rfl) (by kernel_rfl) (fun _ _ _ h => h) (Or.inl ⟨by rfl, ?_⟩) ?_; rotate_left; (focus (intro wS hSw; (try dsimp only at hSw); go_simp; first | done | with_reducible rfl)); (try simp only [Act.put, List.getElem_toArray, List.getElem_cons_zero, List.getElem_cons_succ, List.setIfInBounds_toArray, List.set_cons_zero, List.set_cons_succ]))
  (refine NJ.take (i := 8) (v := ?_) rfl rfl (by kernel_rfl) (by kernel_rfl) (by kernel_rfl) (by kernel_rfl) (fun _ _ _ h => h) (Or.inl ⟨by rfl, ?_⟩) ?_; rotate_left; (focus (intro wS hSw; (try dsimp only at hSw); go_simp; first | done | with_reducible rfl)); (try simp only [Act.put, List.getElem_toArray, List.getElem_cons_zero, List.getElem_cons_succ, List.setIfInBounds_toArray, List.set_cons_zero, List.set_cons_succ]))
  (refine NJ.take (i := 9) (v := ?_) rfl rfl (by kernel_rfl) (by kernel_rfl) (by kernel_rfl) (by kernel_rfl) (fun _ _ _ h => h) (Or.inl ⟨by rfl, ?_⟩) ?_; rotate_left; (focus (intro wS hSw; (try dsimp only at hSw); go_simp; first | done | with_reducible rfl)); (try simp only [Act.put, List.getElem_toArray, List.getElem_cons_zero, List.getElem_cons_succ, List.setIfInBounds_toArray, List.set_cons_zero, List.set_cons_succ]))
  refine NJ.done (by kernel_rfl) (fun hSat => ?_)
  clear hSat hr2 HL
  by_cases h0 : m = 0
  · subst h0
    have HOL := Lib.hid (oldest_set g r s 1 0 0 W2.drew ⟨HG2.out, HR2.out⟩)
    clear c0 c2
    go_wp2_with fail
    refine HOL.out.mono ?_
    rintro e w3 ⟨rfl, hb3⟩
    have hg3 := (hb3.block g (Array.getElem?_eq_some_iff.1 HG2.out).1).trans HG2.out
    have hr3 := (hb3.block r (Array.getElem?_eq_some_iff.1 HR2.out).1).trans HR2.out
    have HO3 : Hid (OnlyGR g r w w3) := Lib.hid ⟨hb3.os.trans HO2.out.os, hb3.tape.trans HO2.out.tape, hb3.output.trans HO2.out.output, Nat.le_trans HO2.out.size hb3.size, fun q hq h1 h2 => (hb3.block q (Nat.lt_of_lt_of_le hq HO2.out.size)).trans (HO2.out.block q hq h1 h2)⟩
    have c0 : w3.cell? ⟨g, 0, none⟩ = some (.map (some r)) := by rw [Lib.cell_of_heap hg3]; rfl
    have hdl := run_delete_set (w := w3) s hr3
    have hg4 := (putObj_far (o := .map #[] 1) hr3 hgr).trans hg3
    have hr4 := putObj_at (o := .map #[] 1) hr3
    have HO4 := Lib.hid (HO3.out.put (o := .map #[] 1) hr3)
    clear hb3 HOL
    go_upto_region 9 with fail
    generalize putObj w3 r (.map #[] 1) = w4 at *
    clear c0 hdl hg3 hr3
    have c3 : w4.cell? ⟨g, 3, none⟩ = some (.int .i64 0) := by rw [Lib.cell_of_heap hg4]; rfl
    have cz : ∀ i, w4.frozen? ⟨g, i, none⟩ = false := fun i => Lib.frozen_of_heap hg4 i
    have HG4 := Lib.hid hg4
    have HR4 := Lib.hid hr4
    clear hg4 hr4
    go_wp2_with fail
    go_ret2
    refine ⟨rfl, ⟨1, 1, ?_, ?_⟩, HO4.out.set 3 _⟩
    · have := HG4.out
      simp [World.setCell, Array.getElem?_modify, this]
    · have := HR4.out
      simp [World.setCell, Array.getElem?_modify, hgr, this, entV]
  · have h1 : (1 : Int) ≤ (m : Int) := by omega
    go_wp2_with fail
    go_ret2
    refine ⟨by simp [h0], ⟨1, 0, ?_⟩, HO2.out.drew⟩
    exact ⟨HG2.out, HR2.out⟩

end Go.Proofs.Ytjlemghmpnkncaa
