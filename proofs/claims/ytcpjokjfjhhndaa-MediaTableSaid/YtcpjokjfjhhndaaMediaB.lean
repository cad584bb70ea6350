/-
  Walks of package media: all patterns, gone through by an iterator.
-/
import Derived.Test.YtcpjokjfjhhndaaMediaA
import Derived.RangeFuncNested
import Derived.RangeFuncBound
import Derived.RangeFuncCalls
import Derived.RangeFuncLeaves
import Derived.Shelf.Abstract
import Derived.OwnWalkIn
import Derived.TacticsInMore
import Derived.LoopNIn
import Derived.LoopIn
namespace Go.Proofs.Ytcpjokjfjhhndaa
open Go.RowKit
set_option linter.unusedSimpArgs false
set_option linter.unusedVariables false
attribute [local go_sem] Oper.semAt_some

/-- The patterns of sounds and films. -/
def medTable : List Pat :=
  [exactP ⟨#[70, 79, 82, 77, 0, 0, 0, 0, 65, 73, 70, 70]⟩ ⟨#[97, 117, 100, 105, 111, 47, 97, 105, 102, 102]⟩ 4 8,
   exactP ⟨#[73, 68, 51]⟩ ⟨#[97, 117, 100, 105, 111, 47, 109, 112, 101, 103]⟩ 0 0,
   exactP ⟨#[79, 103, 103, 83, 0]⟩ ⟨#[97, 112, 112, 108, 105, 99, 97, 116, 105, 111, 110, 47, 111, 103, 103]⟩ 0 0,
   exactP ⟨#[77, 84, 104, 100, 0, 0, 0, 6]⟩ ⟨#[97, 117, 100, 105, 111, 47, 109, 105, 100, 105]⟩ 0 0,
   exactP ⟨#[82, 73, 70, 70, 0, 0, 0, 0, 65, 86, 73, 32]⟩ ⟨#[118, 105, 100, 101, 111, 47, 97, 118, 105]⟩ 4 8,
   exactP ⟨#[82, 73, 70, 70, 0, 0, 0, 0, 87, 65, 86, 69]⟩ ⟨#[97, 117, 100, 105, 111, 47, 119, 97, 118, 101]⟩ 4 8]

/-- A full pattern. -/
abbrev FPat := { p : Pat // p.full = true }

theorem grown_of_below {w w' : World} (h : Below w.heap.size w w') : w.grownBy w' none := ⟨h.os, h.tape, h.output, h.size, fun k hk _ => h.block k hk⟩

theorem abides_below {β : Type} {B : Nat} {J : β → World → Prop} (hJ : AbidesFrom B J) {s : β} {w w' : World} (h : J s w) (hb : Below w.heap.size w w') : J s w' :=
  hJ s w w' none h (grown_of_below hb) (fun r e => by cases e)

theorem pre_of {α : Type} (l : List α) (k : Nat) : l.take k <+: l := List.take_prefix k l

set_option maxHeartbeats 4000000 in
set_option maxRecDepth 100000 in
theorem patterns_stops (n₀ : Nat) (w : World) : SeqStopsK Fence.wide 5 Try.prog 89 #[] (fun p : FPat => #[patV p.1.b p.1.m p.1.k p.1.t]) (Below n₀) (fun xs => xs.map (·.1) = medTable) (fun pre => pre.map (·.1) <+: medTable) 6 w := fun l J Jx W _ hJ _ hY h0 => by
  obtain ⟨p0, hp0⟩ : ∃ p : FPat, p.1 = exactP ⟨#[70, 79, 82, 77, 0, 0, 0, 0, 65, 73, 70, 70]⟩ ⟨#[97, 117, 100, 105, 111, 47, 97, 105, 102, 102]⟩ 4 8 := ⟨⟨_, by decide +kernel⟩, rfl⟩
  obtain ⟨p1, hp1⟩ : ∃ p : FPat, p.1 = exactP ⟨#[73, 68, 51]⟩ ⟨#[97, 117, 100, 105, 111, 47, 109, 112, 101, 103]⟩ 0 0 := ⟨⟨_, by decide +kernel⟩, rfl⟩
  obtain ⟨p2, hp2⟩ : ∃ p : FPat, p.1 = exactP ⟨#[79, 103, 103, 83, 0]⟩ ⟨#[97, 112, 112, 108, 105, 99, 97, 116, 105, 111, 110, 47, 111, 103, 103]⟩ 0 0 := ⟨⟨_, by decide +kernel⟩, rfl⟩
  obtain ⟨p3, hp3⟩ : ∃ p : FPat, p.1 = exactP ⟨#[77, 84, 104, 100, 0, 0, 0, 6]⟩ ⟨#[97, 117, 100, 105, 111, 47, 109, 105, 100, 105]⟩ 0 0 := ⟨⟨_, by decide +kernel⟩, rfl⟩
  obtain ⟨p4, hp4⟩ : ∃ p : FPat, p.1 = exactP ⟨#[82, 73, 70, 70, 0, 0, 0, 0, 65, 86, 73, 32]⟩ ⟨#[118, 105, 100, 101, 111, 47, 97, 118, 105]⟩ 4 8 := ⟨⟨_, by decide +kernel⟩, rfl⟩
  obtain ⟨p5, hp5⟩ : ∃ p : FPat, p.1 = exactP ⟨#[82, 73, 70, 70, 0, 0, 0, 0, 87, 65, 86, 69]⟩ ⟨#[97, 117, 100, 105, 111, 47, 119, 97, 118, 101]⟩ 4 8 := ⟨⟨_, by decide +kernel⟩, rfl⟩
  have C0 : Hid (∀ w : World, Calls Try.prog 90 #[.string ⟨#[70, 79, 82, 77]⟩, .string ⟨#[65, 73, 70, 70]⟩, .string ⟨#[97, 117, 100, 105, 111, 47, 97, 105, 102, 102]⟩] w fun e w' => e = .returned (patV p0.1.b p0.1.m p0.1.k p0.1.t) ∧ Below w.heap.size w w') := Lib.hid (fun w => by rw [hp0]; exact boxed_any ⟨#[70, 79, 82, 77]⟩ ⟨#[65, 73, 70, 70]⟩ ⟨#[97, 117, 100, 105, 111, 47, 97, 105, 102, 102]⟩ w (by decide) (by decide))
  have C1 : Hid (∀ w : World, Calls Try.prog 91 #[.string ⟨#[73, 68, 51]⟩, .string ⟨#[97, 117, 100, 105, 111, 47, 109, 112, 101, 103]⟩] w fun e w' => e = .returned (patV p1.1.b p1.1.m p1.1.k p1.1.t) ∧ Below w.heap.size w w') := Lib.hid (fun w => by rw [hp1]; exact plain_any ⟨#[73, 68, 51]⟩ ⟨#[97, 117, 100, 105, 111, 47, 109, 112, 101, 103]⟩ w (by decide))
  have C2 : Hid (∀ w : World, Calls Try.prog 91 #[.string ⟨#[79, 103, 103, 83, 0]⟩, .string ⟨#[97, 112, 112, 108, 105, 99, 97, 116, 105, 111, 110, 47, 111, 103, 103]⟩] w fun e w' => e = .returned (patV p2.1.b p2.1.m p2.1.k p2.1.t) ∧ Below w.heap.size w w') := Lib.hid (fun w => by rw [hp2]; exact plain_any ⟨#[79, 103, 103, 83, 0]⟩ ⟨#[97, 112, 112, 108, 105, 99, 97, 116, 105, 111, 110, 47, 111, 103, 103]⟩ w (by decide))
  have C3 : Hid (∀ w : World, Calls Try.prog 91 #[.string ⟨#[77, 84, 104, 100, 0, 0, 0, 6]⟩, .string ⟨#[97, 117, 100, 105, 111, 47, 109, 105, 100, 105]⟩] w fun e w' => e = .returned (patV p3.1.b p3.1.m p3.1.k p3.1.t) ∧ Below w.heap.size w w') := Lib.hid (fun w => by rw [hp3]; exact plain_any ⟨#[77, 84, 104, 100, 0, 0, 0, 6]⟩ ⟨#[97, 117, 100, 105, 111, 47, 109, 105, 100, 105]⟩ w (by decide))
  have C4 : Hid (∀ w : World, Calls Try.prog 90 #[.string ⟨#[82, 73, 70, 70]⟩, .string ⟨#[65, 86, 73, 32]⟩, .string ⟨#[118, 105, 100, 101, 111, 47, 97, 118, 105]⟩] w fun e w' => e = .returned (patV p4.1.b p4.1.m p4.1.k p4.1.t) ∧ Below w.heap.size w w') := Lib.hid (fun w => by rw [hp4]; exact boxed_any ⟨#[82, 73, 70, 70]⟩ ⟨#[65, 86, 73, 32]⟩ ⟨#[118, 105, 100, 101, 111, 47, 97, 118, 105]⟩ w (by decide) (by decide))
  have C5 : Hid (∀ w : World, Calls Try.prog 90 #[.string ⟨#[82, 73, 70, 70]⟩, .string ⟨#[87, 65, 86, 69]⟩, .string ⟨#[97, 117, 100, 105, 111, 47, 119, 97, 118, 101]⟩] w fun e w' => e = .returned (patV p5.1.b p5.1.m p5.1.k p5.1.t) ∧ Below w.heap.size w w') := Lib.hid (fun w => by rw [hp5]; exact boxed_any ⟨#[82, 73, 70, 70]⟩ ⟨#[87, 65, 86, 69]⟩ ⟨#[97, 117, 100, 105, 111, 47, 119, 97, 118, 101]⟩ w (by decide) (by decide))
  have HT : Hid (medTable = [p0.1, p1.1, p2.1, p3.1, p4.1, p5.1]) := Lib.hid (by rw [hp0, hp1, hp2, hp3, hp4, hp5]; rfl)
  clear hp0 hp1 hp2 hp3 hp4 hp5
  generalize hv0 : patV p0.1.b p0.1.m p0.1.k p0.1.t = v0 at *
  have V0 := Lib.hid hv0
  clear hv0
  generalize hv1 : patV p1.1.b p1.1.m p1.1.k p1.1.t = v1 at *
  have V1 := Lib.hid hv1
  clear hv1
  generalize hv2 : patV p2.1.b p2.1.m p2.1.k p2.1.t = v2 at *
  have V2 := Lib.hid hv2
  clear hv2
  generalize hv3 : patV p3.1.b p3.1.m p3.1.k p3.1.t = v3 at *
  have V3 := Lib.hid hv3
  clear hv3
  generalize hv4 : patV p4.1.b p4.1.m p4.1.k p4.1.t = v4 at *
  have V4 := Lib.hid hv4
  clear hv4
  generalize hv5 : patV p5.1.b p5.1.m p5.1.k p5.1.t = v5 at *
  have V5 := Lib.hid hv5
  clear hv5
  have HY := Lib.hid hY
  have HJ := Lib.hid hJ
  have HJ0 := Lib.hid h0
  clear hY hJ h0
  refine callsIn_of_wp Try.func89 rfl trivial ?_ rfl
  simp only [Try.ntmps89, List.size_toArray, List.length_cons, List.length_nil, Nat.reduceAdd, Nat.reduceSub, Array.replicate_succ, Array.replicate_zero, List.push_toArray, List.append_toArray, List.nil_append, List.cons_append]
  gi_wp2_with (refine ⟨trivial, ?_⟩; gi_at_call 90; (with_reducible refine (callsIn_wide.2 (C0.out _)).mono ?_); rintro e w0 ⟨rfl, hb0⟩)
  have HK0 := Lib.hid (abides_below HJ.out HJ0.out hb0)
  obtain ⟨f0, t0, a0, b0, hy0, hR0⟩ := HY.out [] p0 w0 HK0.out (by simp)
  rw [V0.out] at hy0
  clear hb0
  rw [hy0]
  gi_wp2
  refine hR0.mono ?_
  rintro e W0 (⟨rfl, hJ1, _⟩ | ⟨rfl, hx⟩)
  rotate_left
  · gi_wp2
    repeat (first | (refine ⟨trivial, ?_⟩; gi_wp2) | (refine ⟨fun _ h => (by cases h), ?_⟩; gi_wp2))
    go_end0
    exact ⟨⟨_, rfl⟩, .inr ⟨[p0], by rw [HT.out]; exact pre_of [p0.1, p1.1, p2.1, p3.1, p4.1, p5.1] 1, hx⟩⟩
  have HJ1 := Lib.hid hJ1
  clear hJ1 hy0 hR0
  gi_wp2_with (refine ⟨trivial, ?_⟩; gi_at_call 91; (with_reducible refine (callsIn_wide.2 (C1.out _)).mono ?_); rintro e w1 ⟨rfl, hb1⟩)
  have HK1 := Lib.hid (abides_below HJ.out HJ1.out hb1)
  obtain ⟨f1, t1, a1, b1, hy1, hR1⟩ := HY.out [p0] p1 w1 HK1.out (by simp)
  rw [V1.out] at hy1
  clear hb1
  rw [hy1]
  gi_wp2
  refine hR1.mono ?_
  rintro e W1 (⟨rfl, hJ1, _⟩ | ⟨rfl, hx⟩)
  rotate_left
  · gi_wp2
    repeat (first | (refine ⟨trivial, ?_⟩; gi_wp2) | (refine ⟨fun _ h => (by cases h), ?_⟩; gi_wp2))
    go_end0
    exact ⟨⟨_, rfl⟩, .inr ⟨[p0, p1], by rw [HT.out]; exact pre_of [p0.1, p1.1, p2.1, p3.1, p4.1, p5.1] 2, hx⟩⟩
  have HJ2 := Lib.hid hJ1
  clear hJ1 hy1 hR1
  gi_wp2_with (refine ⟨trivial, ?_⟩; gi_at_call 91; (with_reducible refine (callsIn_wide.2 (C2.out _)).mono ?_); rintro e w2 ⟨rfl, hb2⟩)
  have HK2 := Lib.hid (abides_below HJ.out HJ2.out hb2)
  obtain ⟨f2, t2, a2, b2, hy2, hR2⟩ := HY.out [p0, p1] p2 w2 HK2.out (by simp)
  rw [V2.out] at hy2
  clear hb2
  rw [hy2]
  gi_wp2
  refine hR2.mono ?_
  rintro e W2 (⟨rfl, hJ1, _⟩ | ⟨rfl, hx⟩)
  rotate_left
  · gi_wp2
    repeat (first | (refine ⟨trivial, ?_⟩; gi_wp2) | (refine ⟨fun _ h => (by cases h), ?_⟩; gi_wp2))
    go_end0
    exact ⟨⟨_, rfl⟩, .inr ⟨[p0, p1, p2], by rw [HT.out]; exact pre_of [p0.1, p1.1, p2.1, p3.1, p4.1, p5.1] 3, hx⟩⟩
  have HJ3 := Lib.hid hJ1
  clear hJ1 hy2 hR2
  gi_wp2_with (refine ⟨trivial, ?_⟩; gi_at_call 91; (with_reducible refine (callsIn_wide.2 (C3.out _)).mono ?_); rintro e w3 ⟨rfl, hb3⟩)
  have HK3 := Lib.hid (abides_below HJ.out HJ3.out hb3)
  obtain ⟨f3, t3, a3, b3, hy3, hR3⟩ := HY.out [p0, p1, p2] p3 w3 HK3.out (by simp)
  rw [V3.out] at hy3
  clear hb3
  rw [hy3]
  gi_wp2
  refine hR3.mono ?_
  rintro e W3 (⟨rfl, hJ1, _⟩ | ⟨rfl, hx⟩)
  rotate_left
  · gi_wp2
    repeat (first | (refine ⟨trivial, ?_⟩; gi_wp2) | (refine ⟨fun _ h => (by cases h), ?_⟩; gi_wp2))
    go_end0
    exact ⟨⟨_, rfl⟩, .inr ⟨[p0, p1, p2, p3], by rw [HT.out]; exact pre_of [p0.1, p1.1, p2.1, p3.1, p4.1, p5.1] 4, hx⟩⟩
  have HJ4 := Lib.hid hJ1
  clear hJ1 hy3 hR3
  gi_wp2_with (refine ⟨trivial, ?_⟩; gi_at_call 90; (with_reducible refine (callsIn_wide.2 (C4.out _)).mono ?_); rintro e w4 ⟨rfl, hb4⟩)
  have HK4 := Lib.hid (abides_below HJ.out HJ4.out hb4)
  obtain ⟨f4, t4, a4, b4, hy4, hR4⟩ := HY.out [p0, p1, p2, p3] p4 w4 HK4.out (by simp)
  rw [V4.out] at hy4
  clear hb4
  rw [hy4]
  gi_wp2
  refine hR4.mono ?_
  rintro e W4 (⟨rfl, hJ1, _⟩ | ⟨rfl, hx⟩)
  rotate_left
  · gi_wp2
    repeat (first | (refine ⟨trivial, ?_⟩; gi_wp2) | (refine ⟨fun _ h => (by cases h), ?_⟩; gi_wp2))
    go_end0
    exact ⟨⟨_, rfl⟩, .inr ⟨[p0, p1, p2, p3, p4], by rw [HT.out]; exact pre_of [p0.1, p1.1, p2.1, p3.1, p4.1, p5.1] 5, hx⟩⟩
  have HJ5 := Lib.hid hJ1
  clear hJ1 hy4 hR4
  gi_wp2_with (refine ⟨trivial, ?_⟩; gi_at_call 90; (with_reducible refine (callsIn_wide.2 (C5.out _)).mono ?_); rintro e w5 ⟨rfl, hb5⟩)
  have HK5 := Lib.hid (abides_below HJ.out HJ5.out hb5)
  obtain ⟨f5, t5, a5, b5, hy5, hR5⟩ := HY.out [p0, p1, p2, p3, p4] p5 w5 HK5.out (by simp)
  rw [V5.out] at hy5
  clear hb5
  rw [hy5]
  gi_wp2
  refine hR5.mono ?_
  rintro e W5 (⟨rfl, hJ1, _⟩ | ⟨rfl, hx⟩)
  · gi_wp2
    go_end0
    exact ⟨⟨_, rfl⟩, .inl ⟨[p0, p1, p2, p3, p4, p5], HT.out.symm, hJ1⟩⟩
  · gi_wp2
    go_end0
    exact ⟨⟨_, rfl⟩, .inr ⟨[p0, p1, p2, p3, p4, p5], by rw [HT.out]; exact pre_of [p0.1, p1.1, p2.1, p3.1, p4.1, p5.1] 6, hx⟩⟩

end Go.Proofs.Ytcpjokjfjhhndaa
