/-
  The law TrapNil: its walk.
-/
import Derived.Test.YtgdhemhapfpkiaaTrapE
namespace Go.Proofs.Ytgdhemhapfpkiaa
open Go.RowKit
set_option linter.unusedSimpArgs false
set_option linter.unusedVariables false

/-- What a deed tells. -/
def tellOf (c : Int) (f : Bool) (n : Int) : Int := if f then thrownCode c else n

theorem First_tellNil (a c n : Int) (f : Bool) (w : World) (g : Nat) (hg : g = w.heap.size) :
    Calls Try.prog 39 #[.slice (some ⟨g, 0, none⟩) 2 2] (w.alloc (.cells #[.func (.func 40) #[deedV a c f n] #[], .nilFunc] 53)) fun e w' => e = .returned (.tuple #[.int .i64 (firstAt [tellOf c f n, 1]), .int .i64 (firstCode [tellOf c f n, 1])]) ∧ Below w.heap.size w w' := by
  subst hg
  refine (First_any [tellOf c f n, 1] w.heap.size 2 _ (by simp) (by simp) ?_).mono fun e w' ⟨he, hb⟩ => ⟨he, below_after hb⟩
  intro i h
  match i, h with
  | 0, _ => exact ⟨_, by simp [go_sem], tells_tell (fun _ => a) (fun _ => c) (fun _ => n) (fun _ => f) 0⟩
  | 1, _ => exact ⟨_, by simp [go_sem], one_nil⟩

theorem firstNil {c : Int} : firstAt [tellOf c false 0, 1] = 1 ∧ firstCode [tellOf c false 0, 1] = 1 := by simp [tellOf, firstAt, firstCode]

set_option maxHeartbeats 1000000 in
set_option maxRecDepth 20000 in
theorem trapNil_yes (a c : Int) (w : World) :
    Calls Try.prog 10 #[.agg #[.int .i64 a, .int .i64 c, .bool false, .int .i64 0]] w fun e w' => e = .returned (.bool true) ∧ Below w.heap.size w w' := by
  have hmf : ∀ (fn : Fn) (first cap : Array Value) (w : World), (Instr.makeFunc fn first cap).run Try.prog w = .ok (.func fn first cap) w := fun _ _ _ _ => rfl
  have HX := Lib.hid (firstNil (c := c))
  go_enter Try.func10, Try.ntmps10
  go_wp2_with fail
  refine (Catch_nil _).mono ?_
  rintro e w1 ⟨rfl, hb1⟩
  obtain ⟨hc1, hf1⟩ := bcell hb1
  have hz1 : w.heap.size < w1.heap.size := by have := hb1.size; simp at this; omega
  go_wp2_with fail
  refine (First_tellNil a c 0 false _ _ (by simp)).mono ?_
  rintro e w2 ⟨rfl, hb2⟩
  rw [HX.out.1, HX.out.2, show ((1 : Nat) : Int) = 1 from rfl]
  obtain ⟨hc2, hf2⟩ := bcell hb2
  have hz2 : w1.heap.size < w2.heap.size := by have := hb2.size; simp at this; omega
  have hz3 : w.heap.size < w2.heap.size := by omega
  have h2 := below_step (below_after hb1) hb2
  go_wp2_with (go_at_call 17; refine (lives01_any _).mono ?_; rintro e w3 ⟨rfl, hb3⟩)
  go_ret
  exact ⟨rfl, h2.trans (hb3.mono h2.size)⟩

set_option maxHeartbeats 1000000 in
set_option maxRecDepth 20000 in
theorem trapNil_fails (a c n : Int) (w : World) :
    Calls Try.prog 10 #[.agg #[.int .i64 a, .int .i64 c, .bool true, .int .i64 n]] w fun e w' => e = .returned (.bool true) ∧ Below w.heap.size w w' := by
  have hmf : ∀ (fn : Fn) (first cap : Array Value) (w : World), (Instr.makeFunc fn first cap).run Try.prog w = .ok (.func fn first cap) w := fun _ _ _ _ => rfl
  go_enter Try.func10, Try.ntmps10
  go_wp2_with fail
  refine (Catch_nil _).mono ?_
  rintro e w1 ⟨rfl, hb1⟩
  obtain ⟨hc1, hf1⟩ := bcell hb1
  have hz1 : w.heap.size < w1.heap.size := by have := hb1.size; simp at this; omega
  go_wp2_with fail
  refine (First_tellNil a c n true _ _ (by simp)).mono ?_
  rintro e w2 ⟨rfl, hb2⟩
  generalize ((firstAt [tellOf c true n, 1] : Nat) : Int) = i
  generalize firstCode [tellOf c true n, 1] = j
  obtain ⟨hc2, hf2⟩ := bcell hb2
  have hz2 : w1.heap.size < w2.heap.size := by have := hb2.size; simp at this; omega
  have hz3 : w.heap.size < w2.heap.size := by omega
  have h2 := below_step (below_after hb1) hb2
  go_wp2_with (go_at_call 17; refine (lives01_any _).mono ?_; rintro e w3 ⟨rfl, hb3⟩)
  go_ret
  exact ⟨rfl, h2.trans (hb3.mono h2.size)⟩

set_option maxHeartbeats 1000000 in
set_option maxRecDepth 20000 in
theorem trapNil_number (a c n : Int) (hn : n ≠ 0) (w : World) :
    Calls Try.prog 10 #[.agg #[.int .i64 a, .int .i64 c, .bool false, .int .i64 n]] w fun e w' => e = .returned (.bool true) ∧ Below w.heap.size w w' := by
  have hmf : ∀ (fn : Fn) (first cap : Array Value) (w : World), (Instr.makeFunc fn first cap).run Try.prog w = .ok (.func fn first cap) w := fun _ _ _ _ => rfl
  have e3 : (n == 0) = false := by simpa using hn
  clear hn
  go_enter Try.func10, Try.ntmps10
  go_wp2_with fail
  refine (Catch_nil _).mono ?_
  rintro e w1 ⟨rfl, hb1⟩
  obtain ⟨hc1, hf1⟩ := bcell hb1
  have hz1 : w.heap.size < w1.heap.size := by have := hb1.size; simp at this; omega
  go_wp2_with fail
  refine (First_tellNil a c n false _ _ (by simp)).mono ?_
  rintro e w2 ⟨rfl, hb2⟩
  generalize ((firstAt [tellOf c false n, 1] : Nat) : Int) = i
  generalize firstCode [tellOf c false n, 1] = j
  obtain ⟨hc2, hf2⟩ := bcell hb2
  have hz2 : w1.heap.size < w2.heap.size := by have := hb2.size; simp at this; omega
  have hz3 : w.heap.size < w2.heap.size := by omega
  have h2 := below_step (below_after hb1) hb2
  go_wp2_with (go_at_call 17; refine (lives01_any _).mono ?_; rintro e w3 ⟨rfl, hb3⟩)
  go_ret
  exact ⟨rfl, h2.trans (hb3.mono h2.size)⟩

theorem trapNil_walk (a c n : Int) (f : Bool) (w : World) :
    Calls Try.prog 10 #[.agg #[.int .i64 a, .int .i64 c, .bool f, .int .i64 n]] w fun e w' => e = .returned (.bool true) ∧ Below w.heap.size w w' := by
  cases f
  · by_cases h : n = 0
    · subst h; exact trapNil_yes a c w
    · exact trapNil_number a c n h w
  · exact trapNil_fails a c n w

end Go.Proofs.Ytgdhemhapfpkiaa
