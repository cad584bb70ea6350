/-
  The law TrapAll: its walk.
-/
import Derived.Test.YtgdhemhapfpkiaaTrapAll
import Derived.Test.YtgdhemhapfpkiaaLawTrap
import Derived.Deep.RegionHeld3
import Derived.Deep.AppendLies
import Derived.Deep.DeepCutAuto
namespace Go.Proofs.Ytgdhemhapfpkiaa
open Go.RowKit
set_option linter.unusedSimpArgs false
set_option linter.unusedVariables false

theorem All_none (w : World) :
    Calls Try.prog 18 #[.slice none 0 0] w fun e w' => e = .returned (.slice none 0 0) ∧ w = w' := by
  go_enter Try.func18, Try.ntmps18
  go_wp2_with fail
  go_loop [3, 10] (fun v i => v = .slice none 0 0 ∧ i = .int .i64 0) (fun _ _ => 0)
  case atStart => exact ⟨rfl, rfl⟩
  case round =>
    obtain ⟨rfl, rfl⟩ := hrel
    go_wp2_with fail
    go_ret
    exact ⟨rfl, rfl⟩

/-- What is told of a deed that is caught. -/
def faultOf (a c : Nat → Int) (f : Nat → Bool) (j : Nat) : Int × Int := if f j then (a j, thrownCode (c j)) else (0, 0)

theorem caughts_do (a c n : Nat → Int) (f : Nat → Bool) (j : Nat) : Caughts (.func (.func 19) #[deedV (a j) (c j) (f j) (n j)] #[]) (faultOf a c f j).1 (faultOf a c f j).2 (f j) := by
  intro w
  cases h : f j
  · have := catch_givesV entersDo (do_gives (a j) (c j) (n j)) w
    simpa [faultOf, h] using this
  · have := catch_throwsV entersDo (do_throws (a j) (c j) (n j)) w
    simpa [faultOf, h] using this

/-- The three faults. -/
def faults3 (a c : Nat → Int) (f : Nat → Bool) : List (Int × Int) := (List.range 3).map (faultOf a c f)

/-- A slice of three faults. -/
def Faults3 (a c : Nat → Int) (f : Nat → Bool) (v : Value) (w : World) : Prop :=
  ∃ g cap, v = .slice (some ⟨g, 0, none⟩) 3 cap ∧ g < w.heap.size ∧ ∀ j, j < 3 → w.cell? ⟨g, j * 2, none⟩ = some (.int .i64 (faultOf a c f j).1) ∧ w.cell? ⟨g, j * 2 + 1, none⟩ = some (.int .i64 (faultOf a c f j).2)

theorem Faults3.below {a c : Nat → Int} {f : Nat → Bool} {v : Value} {w w' : World} (h : Faults3 a c f v w) (hb : Below w.heap.size w w') : Faults3 a c f v w' := by
  obtain ⟨g, cap, rfl, hg, hc⟩ := h
  exact ⟨g, cap, rfl, Nat.lt_of_lt_of_le hg hb.size, fun j hj => ⟨by rw [cell_below hb hg]; exact (hc j hj).1, by rw [cell_below hb hg]; exact (hc j hj).2⟩⟩

theorem All_three (a c n : Nat → Int) (f : Nat → Bool) (g : Nat) (w : World) (hg : g < w.heap.size)
    (h : ∀ j, j < 3 → w.cell? ⟨g, j, none⟩ = some (.func (.func 19) #[deedV (a j) (c j) (f j) (n j)] #[])) :
    Calls Try.prog 18 #[.slice (some ⟨g, 0, none⟩) 3 3] w fun e w' => ∃ v, e = .returned v ∧ Faults3 a c f v w' ∧ Below w.heap.size w w' := by
  refine (All_any (faults3 a c f) g 3 w hg (by simp [faults3]) ?_).mono ?_
  · intro i hi
    have hi' : i < 3 := by simpa [faults3] using hi
    refine ⟨_, f i, h i hi', ?_⟩
    have e : (faults3 a c f)[i] = faultOf a c f i := by simp [faults3]
    have := caughts_do a c n f i
    rw [← e] at this
    exact this
  · rintro e w' ⟨v, rfl, hown, hb⟩
    refine ⟨v, rfl, ?_, hb⟩
    have hl : (faults3 a c f).length = 3 := by simp [faults3]
    rw [hl] at hown
    obtain ⟨g', cap, rfl, hb', hlt⟩ := World.ownsRow.form hown (by omega)
    refine ⟨g', cap, rfl, hlt, fun j hj => ?_⟩
    have h0 := World.ownsRow.cellAt hown (j * 2) (by omega)
    have h1 := World.ownsRow.cellAt hown (j * 2 + 1) (by omega)
    rw [h0, h1]
    match j, hj with
    | 0, _ => exact ⟨rfl, rfl⟩
    | 1, _ => exact ⟨rfl, rfl⟩
    | 2, _ => exact ⟨rfl, rfl⟩

/-- The cells of three deeds. -/
def Deeds3 (a c n : Nat → Int) (f : Nat → Bool) (v : Value) (w : World) : Prop :=
  ∃ g, v = .slice (some ⟨g, 0, none⟩) 3 3 ∧ g < w.heap.size ∧ ∀ j, j < 3 → w.cell? ⟨g, j * 4, none⟩ = some (.int .i64 (a j)) ∧ w.cell? ⟨g, j * 4 + 1, none⟩ = some (.int .i64 (c j)) ∧ w.cell? ⟨g, j * 4 + 2, none⟩ = some (.bool (f j)) ∧ w.cell? ⟨g, j * 4 + 3, none⟩ = some (.int .i64 (n j))

theorem Deeds3.below {a c n : Nat → Int} {f : Nat → Bool} {v : Value} {w w' : World} (h : Deeds3 a c n f v w) (hb : Below w.heap.size w w') : Deeds3 a c n f v w' := by
  obtain ⟨g, rfl, hg, hc⟩ := h
  refine ⟨g, rfl, Nat.lt_of_lt_of_le hg hb.size, fun j hj => ?_⟩
  obtain ⟨h1, h2, h3, h4⟩ := hc j hj
  exact ⟨by rw [cell_below hb hg]; exact h1, by rw [cell_below hb hg]; exact h2, by rw [cell_below hb hg]; exact h3, by rw [cell_below hb hg]; exact h4⟩

theorem below_undrew {w w1 : World} (h : Below w.drew.heap.size w.drew w1) : Below w.heap.size w w1 := ⟨h.os, h.tape, h.output, h.size, h.block⟩

theorem far2 {w : World} {b o g : Nat} {u v : Value} (h : b ≠ g) : ((w.setCell ⟨g, 0, none⟩ u).setCell ⟨g, 1, none⟩ v).cell? ⟨b, o, none⟩ = w.cell? ⟨b, o, none⟩ := by
  rw [World.cell?_setCell_other (h := fun e => h (congrArg Addr.block e).symm), World.cell?_setCell_other (h := fun e => h (congrArg Addr.block e).symm)]

theorem deeds3_new (a c n : Nat → Int) (f : Nat → Bool) (w : World) : Deeds3 a c n f (.slice (some ⟨w.heap.size, 0, none⟩) 3 3) (w.alloc (.cells #[.int .i64 (a 0), .int .i64 (c 0), .bool (f 0), .int .i64 (n 0), .int .i64 (a 1), .int .i64 (c 1), .bool (f 1), .int .i64 (n 1), .int .i64 (a 2), .int .i64 (c 2), .bool (f 2), .int .i64 (n 2)] 24)) := by
  refine ⟨_, rfl, by simp, fun j hj => ?_⟩
  match j, hj with
  | 0, _ => simp [go_sem]
  | 1, _ => simp [go_sem]
  | 2, _ => simp [go_sem]

theorem met1 {a c n : Nat → Int} {f : Nat → Bool} {w W w1 : World} {v : Value} (hW : Below w.heap.size w W) (hF : Faults3 a c f v w1) (hb : Below (W.alloc (.cells #[.func (.func 19) #[deedV (a 0) (c 0) (f 0) (n 0)] #[], .func (.func 19) #[deedV (a 1) (c 1) (f 1) (n 1)] #[], .func (.func 19) #[deedV (a 2) (c 2) (f 2) (n 2)] #[]] 1)).heap.size (W.alloc (.cells #[.func (.func 19) #[deedV (a 0) (c 0) (f 0) (n 0)] #[], .func (.func 19) #[deedV (a 1) (c 1) (f 1) (n 1)] #[], .func (.func 19) #[deedV (a 2) (c 2) (f 2) (n 2)] #[]] 1)) w1) :
    Faults3 a c f v (w1.alloc (.cells #[.int .i64 (a 0), .int .i64 (c 0), .bool (f 0), .int .i64 (n 0), .int .i64 (a 1), .int .i64 (c 1), .bool (f 1), .int .i64 (n 1), .int .i64 (a 2), .int .i64 (c 2), .bool (f 2), .int .i64 (n 2)] 24)) ∧ Deeds3 a c n f (.slice (some ⟨w1.heap.size, 0, none⟩) 3 3) (w1.alloc (.cells #[.int .i64 (a 0), .int .i64 (c 0), .bool (f 0), .int .i64 (n 0), .int .i64 (a 1), .int .i64 (c 1), .bool (f 1), .int .i64 (n 1), .int .i64 (a 2), .int .i64 (c 2), .bool (f 2), .int .i64 (n 2)] 24)) ∧ Below w.heap.size w (w1.alloc (.cells #[.int .i64 (a 0), .int .i64 (c 0), .bool (f 0), .int .i64 (n 0), .int .i64 (a 1), .int .i64 (c 1), .bool (f 1), .int .i64 (n 1), .int .i64 (a 2), .int .i64 (c 2), .bool (f 2), .int .i64 (n 2)] 24)) := by
  have h1 := below_step hW hb
  exact ⟨hF.below (below_box _ _), deeds3_new _ _ _ _ _, h1.alloc h1.size _⟩

theorem met2 {a c n : Nat → Int} {f : Nat → Bool} {w W w1 : World} {v : Value} (hW : Below w.heap.size w W) (hF : Faults3 a c f v w1) (hb : Below ((W.alloc (.cells #[.func (.func 19) #[deedV (a 0) (c 0) (f 0) (n 0)] #[], .func (.func 19) #[deedV (a 1) (c 1) (f 1) (n 1)] #[], .func (.func 19) #[deedV (a 2) (c 2) (f 2) (n 2)] #[]] 1)).alloc (.cells #[.int .i64 (a 0), .int .i64 (c 0), .bool (f 0), .int .i64 (n 0), .int .i64 (a 1), .int .i64 (c 1), .bool (f 1), .int .i64 (n 1), .int .i64 (a 2), .int .i64 (c 2), .bool (f 2), .int .i64 (n 2)] 24)).heap.size ((W.alloc (.cells #[.func (.func 19) #[deedV (a 0) (c 0) (f 0) (n 0)] #[], .func (.func 19) #[deedV (a 1) (c 1) (f 1) (n 1)] #[], .func (.func 19) #[deedV (a 2) (c 2) (f 2) (n 2)] #[]] 1)).alloc (.cells #[.int .i64 (a 0), .int .i64 (c 0), .bool (f 0), .int .i64 (n 0), .int .i64 (a 1), .int .i64 (c 1), .bool (f 1), .int .i64 (n 1), .int .i64 (a 2), .int .i64 (c 2), .bool (f 2), .int .i64 (n 2)] 24)) w1) :
    Faults3 a c f v w1 ∧ Deeds3 a c n f (.slice (some ⟨W.heap.size + 1, 0, none⟩) 3 3) w1 ∧ Below w.heap.size w w1 := by
  have h1 : Below w.heap.size w (W.alloc (.cells #[.func (.func 19) #[deedV (a 0) (c 0) (f 0) (n 0)] #[], .func (.func 19) #[deedV (a 1) (c 1) (f 1) (n 1)] #[], .func (.func 19) #[deedV (a 2) (c 2) (f 2) (n 2)] #[]] 1)) := hW.alloc hW.size _
  have h2 := deeds3_new a c n f (W.alloc (.cells #[.func (.func 19) #[deedV (a 0) (c 0) (f 0) (n 0)] #[], .func (.func 19) #[deedV (a 1) (c 1) (f 1) (n 1)] #[], .func (.func 19) #[deedV (a 2) (c 2) (f 2) (n 2)] #[]] 1))
  refine ⟨hF, ?_, below_step h1 hb⟩
  have := h2.below hb
  simpa using this

theorem met3 {a c n : Nat → Int} {f : Nat → Bool} {w W w1 : World} {v : Value} (hW : Below w.heap.size w W) (hF : Faults3 a c f v w1) (hb : Below ((W.alloc (.cells #[.int .i64 (a 0), .int .i64 (c 0), .bool (f 0), .int .i64 (n 0), .int .i64 (a 1), .int .i64 (c 1), .bool (f 1), .int .i64 (n 1), .int .i64 (a 2), .int .i64 (c 2), .bool (f 2), .int .i64 (n 2)] 24)).alloc (.cells #[.func (.func 19) #[deedV (a 0) (c 0) (f 0) (n 0)] #[], .func (.func 19) #[deedV (a 1) (c 1) (f 1) (n 1)] #[], .func (.func 19) #[deedV (a 2) (c 2) (f 2) (n 2)] #[]] 1)).heap.size ((W.alloc (.cells #[.int .i64 (a 0), .int .i64 (c 0), .bool (f 0), .int .i64 (n 0), .int .i64 (a 1), .int .i64 (c 1), .bool (f 1), .int .i64 (n 1), .int .i64 (a 2), .int .i64 (c 2), .bool (f 2), .int .i64 (n 2)] 24)).alloc (.cells #[.func (.func 19) #[deedV (a 0) (c 0) (f 0) (n 0)] #[], .func (.func 19) #[deedV (a 1) (c 1) (f 1) (n 1)] #[], .func (.func 19) #[deedV (a 2) (c 2) (f 2) (n 2)] #[]] 1)) w1) :
    Faults3 a c f v w1 ∧ Deeds3 a c n f (.slice (some ⟨W.heap.size, 0, none⟩) 3 3) w1 ∧ Below w.heap.size w w1 := by
  have h1 : Below w.heap.size w (W.alloc (.cells #[.int .i64 (a 0), .int .i64 (c 0), .bool (f 0), .int .i64 (n 0), .int .i64 (a 1), .int .i64 (c 1), .bool (f 1), .int .i64 (n 1), .int .i64 (a 2), .int .i64 (c 2), .bool (f 2), .int .i64 (n 2)] 24)) := hW.alloc hW.size _
  exact ⟨hF, ((deeds3_new a c n f W).below (below_box _ _)).below hb, below_step h1 hb⟩

set_option maxHeartbeats 2000000 in
set_option maxRecDepth 20000 in
theorem trapAll_walk (a c n : Nat → Int) (f : Nat → Bool) (w : World) :
    Calls Try.prog 4 #[deedV (a 0) (c 0) (f 0) (n 0), deedV (a 1) (c 1) (f 1) (n 1), deedV (a 2) (c 2) (f 2) (n 2)] w fun e w' => e = .returned (.bool true) ∧ Below w.heap.size w w' := by
  have hmf : ∀ (fn : Fn) (first cap : Array Value) (w : World), (Instr.makeFunc fn first cap).run Try.prog w = .ok (.func fn first cap) w := fun _ _ _ _ => rfl
  go_enter Try.func4, Try.ntmps4
  go_upto_region 1 with fail
  generalize hW : ((w.alloc (.cells #[.int .i64 (a 0), .int .i64 (c 0), .bool (f 0), .int .i64 (n 0)] 24)).alloc (.cells #[.int .i64 (a 1), .int .i64 (c 1), .bool (f 1), .int .i64 (n 1)] 24)).alloc (.cells #[.int .i64 (a 2), .int .i64 (c 2), .bool (f 2), .int .i64 (n 2)] 24) = W
  have q00 : W.cell? ⟨w.heap.size, 0, none⟩ = some (.int .i64 (a 0)) := by rw [← hW]; simp [go_sem]
  have q01 : W.cell? ⟨w.heap.size, 1, none⟩ = some (.int .i64 (c 0)) := by rw [← hW]; simp [go_sem]
  have q02 : W.cell? ⟨w.heap.size, 2, none⟩ = some (.bool (f 0)) := by rw [← hW]; simp [go_sem]
  have q03 : W.cell? ⟨w.heap.size, 3, none⟩ = some (.int .i64 (n 0)) := by rw [← hW]; simp [go_sem]
  have q10 : W.cell? ⟨w.heap.size + 1, 0, none⟩ = some (.int .i64 (a 1)) := by rw [← hW]; simp [go_sem]
  have q11 : W.cell? ⟨w.heap.size + 1, 1, none⟩ = some (.int .i64 (c 1)) := by rw [← hW]; simp [go_sem]
  have q12 : W.cell? ⟨w.heap.size + 1, 2, none⟩ = some (.bool (f 1)) := by rw [← hW]; simp [go_sem]
  have q13 : W.cell? ⟨w.heap.size + 1, 3, none⟩ = some (.int .i64 (n 1)) := by rw [← hW]; simp [go_sem]
  have q20 : W.cell? ⟨w.heap.size + 1 + 1, 0, none⟩ = some (.int .i64 (a 2)) := by rw [← hW]; simp [go_sem]
  have q21 : W.cell? ⟨w.heap.size + 1 + 1, 1, none⟩ = some (.int .i64 (c 2)) := by rw [← hW]; simp [go_sem]
  have q22 : W.cell? ⟨w.heap.size + 1 + 1, 2, none⟩ = some (.bool (f 2)) := by rw [← hW]; simp [go_sem]
  have q23 : W.cell? ⟨w.heap.size + 1 + 1, 3, none⟩ = some (.int .i64 (n 2)) := by rw [← hW]; simp [go_sem]
  have hz : w.heap.size + 3 ≤ W.heap.size := by rw [← hW]; simp
  have HB := Lib.hid (show Below w.heap.size w W from by rw [← hW]; exact ((below_box _ _).alloc (by simp) _).alloc (by simp; omega) _)
  clear hW
  go_upto_region 2 with fail
  go_cut [7, 8] (fun s7 s8 wx => Faults3 a c f s7 wx ∧ Deeds3 a c n f s8 wx ∧ Below w.heap.size w wx)
  case first =>
    have z0 : w.heap.size < W.heap.size := by omega
    have z1 : w.heap.size + 1 < W.heap.size := by omega
    have z2 : w.heap.size + 1 + 1 < W.heap.size := by omega
    have S : Hid (W.cell? ⟨w.heap.size, 0, none⟩ = some (.int .i64 (a 0)) ∧ W.cell? ⟨w.heap.size, 1, none⟩ = some (.int .i64 (c 0)) ∧ W.cell? ⟨w.heap.size, 2, none⟩ = some (.bool (f 0)) ∧ W.cell? ⟨w.heap.size, 3, none⟩ = some (.int .i64 (n 0)) ∧ W.cell? ⟨w.heap.size + 1, 0, none⟩ = some (.int .i64 (a 1)) ∧ W.cell? ⟨w.heap.size + 1, 1, none⟩ = some (.int .i64 (c 1)) ∧ W.cell? ⟨w.heap.size + 1, 2, none⟩ = some (.bool (f 1)) ∧ W.cell? ⟨w.heap.size + 1, 3, none⟩ = some (.int .i64 (n 1)) ∧ W.cell? ⟨w.heap.size + 1 + 1, 0, none⟩ = some (.int .i64 (a 2)) ∧ W.cell? ⟨w.heap.size + 1 + 1, 1, none⟩ = some (.int .i64 (c 2)) ∧ W.cell? ⟨w.heap.size + 1 + 1, 2, none⟩ = some (.bool (f 2)) ∧ W.cell? ⟨w.heap.size + 1 + 1, 3, none⟩ = some (.int .i64 (n 2))) := Lib.hid ⟨q00, q01, q02, q03, q10, q11, q12, q13, q20, q21, q22, q23⟩
    go_region_held3 (fun w' => w'.cell? ⟨w.heap.size, 0, none⟩ = some (.int .i64 (a 0)) ∧ w'.cell? ⟨w.heap.size, 1, none⟩ = some (.int .i64 (c 0)) ∧ w'.cell? ⟨w.heap.size, 2, none⟩ = some (.bool (f 0)) ∧ w'.cell? ⟨w.heap.size, 3, none⟩ = some (.int .i64 (n 0)) ∧ w'.cell? ⟨w.heap.size + 1, 0, none⟩ = some (.int .i64 (a 1)) ∧ w'.cell? ⟨w.heap.size + 1, 1, none⟩ = some (.int .i64 (c 1)) ∧ w'.cell? ⟨w.heap.size + 1, 2, none⟩ = some (.bool (f 1)) ∧ w'.cell? ⟨w.heap.size + 1, 3, none⟩ = some (.int .i64 (n 1)) ∧ w'.cell? ⟨w.heap.size + 1 + 1, 0, none⟩ = some (.int .i64 (a 2)) ∧ w'.cell? ⟨w.heap.size + 1 + 1, 1, none⟩ = some (.int .i64 (c 2)) ∧ w'.cell? ⟨w.heap.size + 1 + 1, 2, none⟩ = some (.bool (f 2)) ∧ w'.cell? ⟨w.heap.size + 1 + 1, 3, none⟩ = some (.int .i64 (n 2)))
      (first | go_keep | (refine ⟨?_, ?_, ?_, ?_, ?_, ?_, ?_, ?_, ?_, ?_, ?_, ?_⟩ <;> (rw [cell_below hb1 (by simp; omega)]; simp [go_sem, *]))) (first | (go_at_call 18; refine (All_three a c n f _ _ (by simp; try omega) (by intro j hj; match j, hj with | 0, _ => simp [go_sem] | 1, _ => simp [go_sem] | 2, _ => simp [go_sem])).mono ?_; rintro e w1 ⟨v, rfl, hF, hb0⟩; have hb1 := below_undrew hb0; clear hb0))
    all_goals go_wp2_with fail
    all_goals go_meet
    all_goals first | exact met1 HB.out hF hb1 | exact met2 HB.out hF hb1 | exact met3 HB.out hF hb1
  obtain ⟨⟨g1, cap1, rfl, hg1, hF⟩, ⟨g2, rfl, hg2, hD⟩, hB⟩ := hcut
  obtain ⟨W1, rfl⟩ : ∃ W1 : World, W1 = wc := ⟨_, rfl⟩
  have HF := Lib.hid hF
  have HD := Lib.hid hD
  have HB1 := Lib.hid hB
  clear q00 q01 q02 q03 q10 q11 q12 q13 q20 q21 q22 q23 hF hD hB HB hz
  go_wp2_with (go_at_call 18; refine (All_none _).mono ?_; rintro e w' ⟨rfl, rfl⟩)
  go_loopw [9] (fun i wr => ∃ j : Nat, j ≤ 3 ∧ i = .int .i64 j ∧ Below W1.heap.size W1 wr) (fun i _ => 3 - (intOf i).toNat)
  case atStart => exact ⟨0, by omega, rfl, Below.refl _ _⟩
  case round =>
    obtain ⟨j, hj, rfl, hb⟩ := hrel
    have hz := hb.size
    have y1 : g1 < wr.heap.size := by omega
    have y2 : g2 < wr.heap.size := by omega
    by_cases hlt : j < 3
    · obtain ⟨c0, c1⟩ := HF.out j hlt
      obtain ⟨d0, d1, d2, d3⟩ := HD.out j hlt
      rw [← cell_below hb hg1] at c0 c1
      rw [← cell_below hb hg2] at d0 d1 d2 d3
      have HBW := Lib.hid hb
      clear hb
      have hj0 : (0 : Int) ≤ (j : Int) := by omega
      have hj1 : (j : Int) < 3 := by omega
      cases hf : f j
      · have e : faultOf a c f j = (0, 0) := by simp [faultOf, hf]
        rw [hf] at d2
        rw [e] at c0 c1
        clear e hf
        simp only at c0 c1
        go_wp2_with fail
        go_quiet (fail)
        go_wp2_with fail
        go_roundw
        case rel => exact ⟨j + 1, by omega, by go_num, below_drewN (HBW.out.alloc HBW.out.size _) _⟩
        case measure => simp [intOf]; omega
      · have e : faultOf a c f j = (a j, thrownCode (c j)) := by simp [faultOf, hf]
        rw [hf] at d2
        rw [e] at c0 c1
        clear e hf
        simp only at c0 c1
        go_wp2_with fail
        generalize hX : wr.alloc (.cells #[.int .i64 0, .int .i64 0] 26) = X
        have x0 : X.cell? ⟨g2, j * 4, none⟩ = some (.int .i64 (a j)) := by rw [← hX]; simp [go_sem, y2, d0]
        have x1 : X.cell? ⟨g2, j * 4 + 1, none⟩ = some (.int .i64 (c j)) := by rw [← hX]; simp [go_sem, y2, d1]
        have x2 : X.cell? ⟨g1, j * 2, none⟩ = some (.int .i64 (a j)) := by rw [← hX]; simp [go_sem, y1, c0]
        have x3 : X.cell? ⟨g1, j * 2 + 1, none⟩ = some (.int .i64 (thrownCode (c j))) := by rw [← hX]; simp [go_sem, y1, c1]
        have x4 : X.cell? ⟨wr.heap.size, 0, none⟩ = some (.int .i64 0) := by rw [← hX]; simp [go_sem]
        have x5 : X.cell? ⟨wr.heap.size, 1, none⟩ = some (.int .i64 0) := by rw [← hX]; simp [go_sem]
        have x6 : X.frozen? ⟨wr.heap.size, 0, none⟩ = false := by rw [← hX]; simp [go_sem]
        have x7 : X.frozen? ⟨wr.heap.size, 1, none⟩ = false := by rw [← hX]; simp [go_sem]
        have hXs : wr.heap.size < X.heap.size := by rw [← hX]; simp
        have HX := Lib.hid (show Below wr.heap.size wr X from by rw [← hX]; exact below_box _ _)
        have xg1 : g1 < X.heap.size := by omega
        have xg2 : g2 < X.heap.size := by omega
        have xn1 : g1 ≠ wr.heap.size := by omega
        have xn2 : g2 ≠ wr.heap.size := by omega
        clear hX c0 c1 d0 d1 d2 d3
        go_upto_region 10 with fail
        go_cut [] (fun wx => wx.cell? ⟨wr.heap.size, 0, none⟩ = some (.int .i64 (a j)) ∧ wx.cell? ⟨wr.heap.size, 1, none⟩ = some (.int .i64 (thrownCode (c j))) ∧ wx.cell? ⟨g1, j * 2, none⟩ = some (.int .i64 (a j)) ∧ wx.cell? ⟨g1, j * 2 + 1, none⟩ = some (.int .i64 (thrownCode (c j))) ∧ Below wr.heap.size wr wx)
        case first =>
          go_region_held3 (fun w' => w'.cell? ⟨g2, j * 4, none⟩ = some (.int .i64 (a j)) ∧ w'.cell? ⟨g2, j * 4 + 1, none⟩ = some (.int .i64 (c j))) (first | go_keep | exact ⟨s0, s1⟩ | exact ⟨by rw [far2 xn2]; exact s0, by rw [far2 xn2]; exact s1⟩)
            (first | (go_at_call 20; refine (Thrown_any _ _ _).mono ?_; rintro e w2 ⟨rfl, hb0⟩; have hb2 := below_undrew hb0; clear hb0; have s0 := (cell_below (o := j * 4) hb2 xg2).trans x0; have s1 := (cell_below (o := j * 4 + 1) hb2 xg2).trans x1; have p4 := (cell_below (o := 0) hb2 hXs).trans x4; have p5 := (cell_below (o := 1) hb2 hXs).trans x5; have p6 := (frozen_below (o := 0) hb2 hXs).trans x6; have p7 := (frozen_below (o := 1) hb2 hXs).trans x7))
          all_goals go_wp2_with fail
          all_goals go_meet
          all_goals exact ⟨by simp [go_sem, p4, p5], by simp [go_sem, p4, p5], by rw [far2 xn1]; exact (cell_below hb2 xg1).trans x2, by rw [far2 xn1]; exact (cell_below hb2 xg1).trans x3, ((HX.out.trans (hb2.mono (by omega))).setCell (Nat.le_refl _) _).setCell (Nat.le_refl _) _⟩
        obtain ⟨p0, p1, p2, p3, hbx⟩ := hcut
        go_wp2_with fail
        go_quiet (fail)
        go_wp2_with fail
        go_roundw
        case rel => exact ⟨j + 1, by omega, by go_num, below_drewN (HBW.out.trans (hbx.mono HBW.out.size)) _⟩
        case measure => simp [intOf]; omega
    · obtain rfl : j = 3 := by omega
      go_wp2_with (go_at_call 17; refine (lives01_any _).mono ?_; rintro e w3 ⟨rfl, hb3⟩)
      go_ret
      exact ⟨rfl, (HB1.out.trans (hb.mono HB1.out.size)).trans (hb3.mono (Nat.le_trans HB1.out.size hz))⟩

end Go.Proofs.Ytgdhemhapfpkiaa
