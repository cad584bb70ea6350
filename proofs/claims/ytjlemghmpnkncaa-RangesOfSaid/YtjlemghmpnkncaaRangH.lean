/-
  Walks of package ranges and its reference: what headers say that comes. (Written by genof.py.)
-/
import Derived.Test.YtjlemghmpnkncaaHeadB
namespace Go.Proofs.Ytjlemghmpnkncaa
open Go.RowKit
set_option linter.unusedSimpArgs false
set_option linter.unusedVariables false

def rangeName : ByteArray := ⟨#[67, 111, 110, 116, 101, 110, 116, 45, 82, 97, 110, 103, 101]⟩
def rangeSmall : ByteArray := ⟨#[99, 111, 110, 116, 101, 110, 116, 45, 114, 97, 110, 103, 101]⟩

theorem getL_range (l : Pars) : getL rangeName l = getL rangeSmall l := by
  unfold getL
  have : isName rangeName = isName rangeSmall := by
    funext p
    unfold isName
    rw [show lowerL rangeName.data.toList = lowerL rangeSmall.data.toList by decide]
  rw [this]

/-- What comes, as numbers. -/
def conT (l : List UInt8) : Int × Int × Int × Int :=
  match conL l with
  | none => (0, 0, 0, 2)
  | some (f, t, a) => if saidE a (saidE t (saidE f 0)) ≠ 0 ∨ goodP (saidN f) (saidN t) (saidN a) = false then (0, 0, 0, 9) else (saidN f, saidN t, saidN a, 0)

theorem conV_T (l : List UInt8) : conV l = .tuple #[.agg #[.int .i64 (conT l).1, .int .i64 (conT l).2.1, .int .i64 (conT l).2.2.1], .int .i64 (conT l).2.2.2] := by
  unfold conV conT
  cases conL l with
  | none => rfl
  | some q =>
    obtain ⟨f, t, a⟩ := q
    by_cases h : saidE a (saidE t (saidE f 0)) ≠ 0 ∨ goodP (saidN f) (saidN t) (saidN a) = false
    · simp only [if_pos h]
    · simp only [if_neg h]

/-- What values say that comes. -/
def ofW : List ByteArray → Value
  | [v] => .tuple #[.agg #[.int .i64 (conT v.data.toList).1, .int .i64 (conT v.data.toList).2.1, .int .i64 (conT v.data.toList).2.2.1], .bool ((conT v.data.toList).2.2.2 == 0)]
  | _ => .tuple #[.agg #[.int .i64 0, .int .i64 0, .int .i64 0], .bool false]

theorem ofW_not {vs : List ByteArray} (h : ¬ vs.length = 1) : ofW vs = .tuple #[.agg #[.int .i64 0, .int .i64 0, .int .i64 0], .bool false] := by
  match vs, h with
  | [], _ => rfl
  | [_], h => exact absurd rfl h
  | _ :: _ :: _, _ => rfl

/-- What headers say that comes. -/
def ofV (l : Pars) : Value := ofW (getL rangeName l)

set_option maxRecDepth 20000 in
theorem Of_any (l : Pars) (A : Option Addr) (c : Nat) (w : World) (hl : l.length ≤ 1000) (hps : ∀ p ∈ l, p.1.length ≤ 1000 ∧ p.2.length ≤ 1000) (hA : ParsIn w w.heap.size A l) :
    Calls Try.prog 25 #[.slice A l.length c] w fun e w' => e = .returned (ofV l) ∧ Below w.heap.size w w' := by
  have hbx := below_box w (.cells #[.int .i64 0, .int .i64 0, .int .i64 0] 45)
  have HG := Lib.hid (Get_any rangeName l A c _ hl (fun p hp => (hps p hp).1) (by decide) ((hA.below hbx).more hbx.size))
  have hx : (w.alloc (.cells #[.int .i64 0, .int .i64 0, .int .i64 0] 45)).heap[w.heap.size]? = some (.cells #[.int .i64 0, .int .i64 0, .int .i64 0] 45 (0, 0)) := heap_alloc_new w _
  have hval : ∀ v ∈ getL rangeName l, v.size ≤ 1000 := fun v hv => by
    unfold getL at hv
    rw [List.mem_map] at hv
    obtain ⟨p, hp, rfl⟩ := hv
    rw [bt_size]
    exact (hps p (List.mem_filter.1 hp).1).2
  have hV : ofV l = ofW (getL rangeName l) := rfl
  clear hl hps hA
  generalize getL rangeName l = vs at *
  unfold rangeName at HG
  have HBX := Lib.hid hbx
  have HV := Lib.hid hV
  clear hbx hV
  go_enter Try.func25, Try.ntmps25
  go_wp2_with fail
  generalize w.alloc (.cells #[.int .i64 0, .int .i64 0, .int .i64 0] 45) = W at *
  refine HG.out.mono ?_
  rintro e w1 ⟨A2, c2, rfl, hS, hb⟩
  have hx1 := (hb.block _ (Array.getElem?_eq_some_iff.1 hx).1).trans hx
  have HB := Lib.hid (HBX.out.trans (hb.mono HBX.out.size))
  have o0 := (Lib.cell_of_heap hx1 (j := 0))
  have o1 := (Lib.cell_of_heap hx1 (j := 1))
  have o2 := (Lib.cell_of_heap hx1 (j := 2))
  have of := fun i => Lib.frozen_of_heap hx1 i
  simp at o0 o1 o2
  have hz0 : w.heap.size < w1.heap.size := lt_of_cell o0
  have HS := Lib.hid hS
  have HX1 := Lib.hid hx1
  clear hx hx1 hb hS HG HBX
  by_cases h1 : vs.length = 1
  · obtain ⟨v, rfl⟩ : ∃ v, vs = [v] := List.length_eq_one_iff.1 h1
    have HC := Lib.hid (fun w => content_any v w (hval v (by simp)))
    rw [conV_T] at HC
    have HV2 : Hid (ofV l = .tuple #[.agg #[.int .i64 (conT v.data.toList).1, .int .i64 (conT v.data.toList).2.1, .int .i64 (conT v.data.toList).2.2.1], .bool ((conT v.data.toList).2.2.2 == 0)]) := Lib.hid HV.out
    generalize (conT v.data.toList).1 = a at *
    generalize (conT v.data.toList).2.1 = b at *
    generalize (conT v.data.toList).2.2.1 = d at *
    generalize (conT v.data.toList).2.2.2 = code at *
    rcases HS.out with hnil | ⟨g, off, rfl, hg, hcs⟩
    · simp at hnil
    have d0 : w1.cell? ⟨g, off, none⟩ = some (.string v) := by have := hcs 0 (by simp); simpa using this
    clear hcs hval h1 HS
    simp only [List.length_cons, List.length_nil, Nat.zero_add]
    go_wp2_with fail
    refine (HC.out _).mono ?_
    rintro e w2 ⟨rfl, hb2⟩
    have hx2 := (hb2.block _ hz0).trans HX1.out
    have HB2 := Lib.hid ((HB.out.trans (hb2.mono HB.out.size)).alloc (by have := HB.out.size; have := hb2.size; omega) (.cells #[.int .i64 a, .int .i64 b, .int .i64 d] 45))
    have hx3 : (w2.alloc (.cells #[.int .i64 a, .int .i64 b, .int .i64 d] 45)).heap[w.heap.size]? = some (.cells #[.int .i64 0, .int .i64 0, .int .i64 0] 45 (0, 0)) := (Below.heap_alloc _ _ _ (Nat.lt_of_lt_of_le hz0 hb2.size)).trans hx2
    have hx4 : (w2.alloc (.cells #[.int .i64 a, .int .i64 b, .int .i64 d] 45)).heap[w2.heap.size]? = some (.cells #[.int .i64 a, .int .i64 b, .int .i64 d] 45 (0, 0)) := heap_alloc_new w2 _
    go_upto_region 5 with fail
    generalize w2.heap.size = P at *
    generalize w2.alloc (.cells #[.int .i64 a, .int .i64 b, .int .i64 d] 45) = W2 at *
    clear o0 o1 o2 of hz0 hx2 hb2 d0
    have o0 := (Lib.cell_of_heap hx3 (j := 0))
    have o1 := (Lib.cell_of_heap hx3 (j := 1))
    have o2 := (Lib.cell_of_heap hx3 (j := 2))
    have p0 := (Lib.cell_of_heap hx4 (j := 0))
    have p1 := (Lib.cell_of_heap hx4 (j := 1))
    have p2 := (Lib.cell_of_heap hx4 (j := 2))
    have of := fun i => Lib.frozen_of_heap hx3 i
    simp at o0 o1 o2 p0 p1 p2
    have hz0 : w.heap.size < W2.heap.size := lt_of_cell o0
    clear hx3 hx4
    go_wp2_with fail
    refine bodyPost_ret (v := (.tuple #[.agg #[.int .i64 a, .int .i64 b, .int .i64 d], .bool (code == 0)])) ?_ rfl ⟨by rw [HV2.out], ((HB2.out.setCell (by simp) _).setCell (by simp) _).setCell (by simp) _⟩
    simp [results, Try.results25, go_sem, o0, o1, o2, hz0]
  · have HV2 : Hid (ofV l = .tuple #[.agg #[.int .i64 0, .int .i64 0, .int .i64 0], .bool false]) := Lib.hid (by rw [HV.out, ofW_not h1])
    have h1i : ((vs.length : Int) == 1) = false := beq_eq_false_iff_ne.2 (by omega)
    clear hval h1 HS
    generalize vs.length = n at *
    go_wp2_with fail
    refine bodyPost_ret (v := (.tuple #[.agg #[.int .i64 0, .int .i64 0, .int .i64 0], .bool false])) ?_ rfl ⟨by rw [HV2.out], ((HB.out.setCell (by simp) _).setCell (by simp) _).setCell (by simp) _⟩
    simp [results, Try.results25, go_sem, o0, o1, o2, hz0]

set_option maxRecDepth 20000 in
theorem rOf24_any (l : Pars) (A : Option Addr) (c : Nat) (w : World) (hl : l.length ≤ 1000) (hps : ∀ p ∈ l, p.1.length ≤ 1000 ∧ p.2.length ≤ 1000) (hA : ParsIn w w.heap.size A l) :
    Calls Try.prog 26 #[.slice A l.length c] w fun e w' => e = .returned (ofV l) ∧ Below w.heap.size w w' := by
  have hbx := below_box w (.cells #[.int .i64 0, .int .i64 0, .int .i64 0] 45)
  have HG := Lib.hid (rGet22_any rangeSmall l A c _ hl (fun p hp => (hps p hp).1) (by decide) ((hA.below hbx).more hbx.size))
  have hx : (w.alloc (.cells #[.int .i64 0, .int .i64 0, .int .i64 0] 45)).heap[w.heap.size]? = some (.cells #[.int .i64 0, .int .i64 0, .int .i64 0] 45 (0, 0)) := heap_alloc_new w _
  have hval : ∀ v ∈ getL rangeSmall l, v.size ≤ 1000 := fun v hv => by
    unfold getL at hv
    rw [List.mem_map] at hv
    obtain ⟨p, hp, rfl⟩ := hv
    rw [bt_size]
    exact (hps p (List.mem_filter.1 hp).1).2
  have hV : ofV l = ofW (getL rangeSmall l) := by unfold ofV; rw [getL_range]
  clear hl hps hA
  generalize getL rangeSmall l = vs at *
  unfold rangeSmall at HG
  have HBX := Lib.hid hbx
  have HV := Lib.hid hV
  clear hbx hV
  go_enter Try.func26, Try.ntmps26
  go_wp2_with fail
  generalize w.alloc (.cells #[.int .i64 0, .int .i64 0, .int .i64 0] 45) = W at *
  refine HG.out.mono ?_
  rintro e w1 ⟨A2, c2, rfl, hS, hb⟩
  have hx1 := (hb.block _ (Array.getElem?_eq_some_iff.1 hx).1).trans hx
  have HB := Lib.hid (HBX.out.trans (hb.mono HBX.out.size))
  have o0 := (Lib.cell_of_heap hx1 (j := 0))
  have o1 := (Lib.cell_of_heap hx1 (j := 1))
  have o2 := (Lib.cell_of_heap hx1 (j := 2))
  have of := fun i => Lib.frozen_of_heap hx1 i
  simp at o0 o1 o2
  have hz0 : w.heap.size < w1.heap.size := lt_of_cell o0
  have HS := Lib.hid hS
  have HX1 := Lib.hid hx1
  clear hx hx1 hb hS HG HBX
  by_cases h1 : vs.length = 1
  · obtain ⟨v, rfl⟩ : ∃ v, vs = [v] := List.length_eq_one_iff.1 h1
    have HC := Lib.hid (fun w => rContent24_any v w (hval v (by simp)))
    rw [conV_T] at HC
    have HV2 : Hid (ofV l = .tuple #[.agg #[.int .i64 (conT v.data.toList).1, .int .i64 (conT v.data.toList).2.1, .int .i64 (conT v.data.toList).2.2.1], .bool ((conT v.data.toList).2.2.2 == 0)]) := Lib.hid HV.out
    generalize (conT v.data.toList).1 = a at *
    generalize (conT v.data.toList).2.1 = b at *
    generalize (conT v.data.toList).2.2.1 = d at *
    generalize (conT v.data.toList).2.2.2 = code at *
    rcases HS.out with hnil | ⟨g, off, rfl, hg, hcs⟩
    · simp at hnil
    have d0 : w1.cell? ⟨g, off, none⟩ = some (.string v) := by have := hcs 0 (by simp); simpa using this
    clear hcs hval h1 HS
    simp only [List.length_cons, List.length_nil, Nat.zero_add]
    go_wp2_with fail
    refine (HC.out _).mono ?_
    rintro e w2 ⟨rfl, hb2⟩
    have hx2 := (hb2.block _ hz0).trans HX1.out
    have HB2 := Lib.hid ((HB.out.trans (hb2.mono HB.out.size)).alloc (by have := HB.out.size; have := hb2.size; omega) (.cells #[.int .i64 a, .int .i64 b, .int .i64 d] 45))
    have hx3 : (w2.alloc (.cells #[.int .i64 a, .int .i64 b, .int .i64 d] 45)).heap[w.heap.size]? = some (.cells #[.int .i64 0, .int .i64 0, .int .i64 0] 45 (0, 0)) := (Below.heap_alloc _ _ _ (Nat.lt_of_lt_of_le hz0 hb2.size)).trans hx2
    have hx4 : (w2.alloc (.cells #[.int .i64 a, .int .i64 b, .int .i64 d] 45)).heap[w2.heap.size]? = some (.cells #[.int .i64 a, .int .i64 b, .int .i64 d] 45 (0, 0)) := heap_alloc_new w2 _
    go_upto_region 5 with fail
    generalize w2.heap.size = P at *
    generalize w2.alloc (.cells #[.int .i64 a, .int .i64 b, .int .i64 d] 45) = W2 at *
    clear o0 o1 o2 of hz0 hx2 hb2 d0
    have o0 := (Lib.cell_of_heap hx3 (j := 0))
    have o1 := (Lib.cell_of_heap hx3 (j := 1))
    have o2 := (Lib.cell_of_heap hx3 (j := 2))
    have p0 := (Lib.cell_of_heap hx4 (j := 0))
    have p1 := (Lib.cell_of_heap hx4 (j := 1))
    have p2 := (Lib.cell_of_heap hx4 (j := 2))
    have of := fun i => Lib.frozen_of_heap hx3 i
    simp at o0 o1 o2 p0 p1 p2
    have hz0 : w.heap.size < W2.heap.size := lt_of_cell o0
    clear hx3 hx4
    go_wp2_with fail
    refine bodyPost_ret (v := (.tuple #[.agg #[.int .i64 a, .int .i64 b, .int .i64 d], .bool (code == 0)])) ?_ rfl ⟨by rw [HV2.out], ((HB2.out.setCell (by simp) _).setCell (by simp) _).setCell (by simp) _⟩
    simp [results, Try.results26, go_sem, o0, o1, o2, hz0]
  · have HV2 : Hid (ofV l = .tuple #[.agg #[.int .i64 0, .int .i64 0, .int .i64 0], .bool false]) := Lib.hid (by rw [HV.out, ofW_not h1])
    have h1i : ((vs.length : Int) == 1) = false := beq_eq_false_iff_ne.2 (by omega)
    clear hval h1 HS
    generalize vs.length = n at *
    go_wp2_with fail
    refine bodyPost_ret (v := (.tuple #[.agg #[.int .i64 0, .int .i64 0, .int .i64 0], .bool false])) ?_ rfl ⟨by rw [HV2.out], ((HB.out.setCell (by simp) _).setCell (by simp) _).setCell (by simp) _⟩
    simp [results, Try.results26, go_sem, o0, o1, o2, hz0]

end Go.Proofs.Ytjlemghmpnkncaa
