/-
  The laws of layer 1 (trap): their walks.
-/
import Derived.Test.YtgdhemhapfpkiaaTrapC
import Derived.Deep.DeepCutAuto
namespace Go.Proofs.Ytgdhemhapfpkiaa
open Go.RowKit
set_option linter.unusedSimpArgs false
set_option linter.unusedVariables false

set_option maxRecDepth 20000 in
theorem lives01_any (w : World) :
    Calls Try.prog 17 #[] w fun e w' => e = .returned (.bool true) ∧ Below w.heap.size w w' := by
  have hmf : ∀ (fn : Fn) (first cap : Array Value) (w : World), (Instr.makeFunc fn first cap).run Try.prog w = .ok (.func fn first cap) w := fun _ _ _ _ => rfl
  go_enter Try.func17, Try.ntmps17
  go_wp2_with (go_at_call 15; refine (Catch_throwsV entersDo (do_throws 3 2 0) _).mono ?_; rintro e w1 ⟨rfl, hb⟩; obtain ⟨hc, hf⟩ := bcell hb)
  go_ret
  exact ⟨ret_bool (by decide), below_trans hb (below_box _ _)⟩

set_option maxHeartbeats 1000000 in
set_option maxRecDepth 20000 in
theorem trapCatches_yes (a c n : Int) (w : World) :
    Calls Try.prog 6 #[.agg #[.int .i64 a, .int .i64 c, .bool true, .int .i64 n]] w fun e w' => e = .returned (.bool true) ∧ Below w.heap.size w w' := by
  have hmf : ∀ (fn : Fn) (first cap : Array Value) (w : World), (Instr.makeFunc fn first cap).run Try.prog w = .ok (.func fn first cap) w := fun _ _ _ _ => rfl
  go_enter Try.func6, Try.ntmps6
  go_wp2_with fail
  refine (Catch_throwsV entersDo (do_throws a c n) _).mono ?_
  rintro e w1 ⟨rfl, hb1⟩
  obtain ⟨hc1, hf1⟩ := bcell hb1
  have hz1 : w.heap.size < w1.heap.size := by have := hb1.size; simp at this; omega
  go_wp2_with fail
  refine (valueInt_throwsV entersNumber (number_throws a c n) _).mono ?_
  rintro e w2 ⟨rfl, hb2⟩
  obtain ⟨hc2, hf2⟩ := bcell hb2
  have hz2 : w1.heap.size < w2.heap.size := by have := hb2.size; simp at this; omega
  have hz3 : w.heap.size < w2.heap.size := by omega
  go_wp2_with fail
  have hx := @InB.cells (w2.alloc (Obj.cells #[.int .i64 a, .int .i64 (thrownCode c)] 26))
  refine wp_region_inb (by kernel_rfl) (by kernel_rfl) ?_; (repeat (first | go_big_quiet_skip | (go_big_quiet_want; go_big_quiet_op; first | go_big_quiet_on | (apply Exists.intro; refine ⟨fun x => ?_, ?_⟩; (· ((first | (go_at_call 20; exact inb_call _ (Thrown_any _ _ _)) | (go_at_call 17; exact inb_call _ (lives01_any _))))); go_big_quiet_on)))); refine wpQuiet_nil ?_; intro _ hw'; obtain ⟨⟨wq, hbq⟩, rfl⟩ := hw'
  go_wp2_with fail
  go_ret
  exact ⟨rfl, below_step (below_step (below_after hb1) hb2) hbq⟩

set_option maxHeartbeats 1000000 in
set_option maxRecDepth 20000 in
theorem trapCatches_no (a c n : Int) (w : World) :
    Calls Try.prog 6 #[.agg #[.int .i64 a, .int .i64 c, .bool false, .int .i64 n]] w fun e w' => e = .returned (.bool true) ∧ Below w.heap.size w w' := by
  have hmf : ∀ (fn : Fn) (first cap : Array Value) (w : World), (Instr.makeFunc fn first cap).run Try.prog w = .ok (.func fn first cap) w := fun _ _ _ _ => rfl
  go_enter Try.func6, Try.ntmps6
  go_wp2_with fail
  refine (Catch_givesV entersDo (do_gives a c n) _).mono ?_
  rintro e w1 ⟨rfl, hb1⟩
  obtain ⟨hc1, hf1⟩ := bcell hb1
  have hz1 : w.heap.size < w1.heap.size := by have := hb1.size; simp at this; omega
  go_wp2_with fail
  refine (valueInt_givesV entersNumber (number_gives a c n) _).mono ?_
  rintro e w2 ⟨rfl, hb2⟩
  obtain ⟨hc2, hf2⟩ := bcell hb2
  have hz2 : w1.heap.size < w2.heap.size := by have := hb2.size; simp at this; omega
  have hz3 : w.heap.size < w2.heap.size := by omega
  go_wp2_with (go_at_call 17; refine (lives01_any _).mono ?_; rintro e w3 ⟨rfl, hb3⟩)
  go_ret
  exact ⟨rfl, below_step (below_step (below_after hb1) hb2) hb3⟩

theorem trapCatches_walk (a c n : Int) (f : Bool) (w : World) :
    Calls Try.prog 6 #[.agg #[.int .i64 a, .int .i64 c, .bool f, .int .i64 n]] w fun e w' => e = .returned (.bool true) ∧ Below w.heap.size w w' := by
  cases f
  · exact trapCatches_no a c n w
  · exact trapCatches_yes a c n w

set_option maxHeartbeats 1000000 in
set_option maxRecDepth 20000 in
theorem trapMust_walk (a c n : Int) (f : Bool) (w : World) :
    Calls Try.prog 8 #[.agg #[.int .i64 a, .int .i64 c, .bool f, .int .i64 n]] w fun e w' => e = .returned (.bool true) ∧ Below w.heap.size w w' := by
  have hmf : ∀ (fn : Fn) (first cap : Array Value) (w : World), (Instr.makeFunc fn first cap).run Try.prog w = .ok (.func fn first cap) w := fun _ _ _ _ => rfl
  by_cases h : c = 0
  · subst h
    go_enter Try.func8, Try.ntmps8
    go_wp2_with fail
    refine (valueInt_givesV entersMust (must_gives a n f) _).mono ?_
    rintro e w1 ⟨rfl, hb1⟩
    obtain ⟨hc1, hf1⟩ := bcell hb1
    have hz1 : w.heap.size < w1.heap.size := by have := hb1.size; simp at this; omega
    go_wp2_with (go_at_call 17; refine (lives01_any _).mono ?_; rintro e w3 ⟨rfl, hb3⟩)
    go_ret
    exact ⟨rfl, below_step (below_after hb1) hb3⟩
  · have h1 : (c == 0) = false := by simpa using h
    have H := Lib.hid h; clear h
    go_enter Try.func8, Try.ntmps8
    go_wp2_with fail
    refine (valueInt_throwsV entersMust (must_throws a c n f H.out) _).mono ?_
    rintro e w1 ⟨rfl, hb1⟩
    obtain ⟨hc1, hf1⟩ := bcell hb1
    have hz1 : w.heap.size < w1.heap.size := by have := hb1.size; simp at this; omega
    go_wp2_with (go_at_call 17; refine (lives01_any _).mono ?_; rintro e w3 ⟨rfl, hb3⟩)
    go_ret
    exact ⟨rfl, below_step (below_after hb1) hb3⟩

theorem inner_throws (a c n : Int) : ThrowsB 16 #[deedV a c true n] a 9 := by
  intro w
  have hmf : ∀ (fn : Fn) (first cap : Array Value) (w : World), (Instr.makeFunc fn first cap).run Try.prog w = .ok (.func fn first cap) w := fun _ _ _ _ => rfl
  have H : Hid (thrownCode 9 = 9) := Lib.hid rfl
  go_enter Try.func16, Try.ntmps16
  go_wp2_with fail
  refine (Catch_throwsV entersDo (do_throws a c n) _).mono ?_
  rintro e w1 ⟨rfl, hb1⟩
  obtain ⟨hc1, hf1⟩ := bcell hb1
  go_wp2_with (go_at_call 72; refine (Throw_any _ _ _).mono ?_; rintro e w' ⟨rfl, rfl⟩; rw [H.out])
  exact ⟨rfl, rfl, (below_after hb1).alloc (below_after hb1).size _⟩

theorem inner_gives (a c n : Int) : GivesB 16 #[deedV a c false n] (.tuple #[]) := by
  intro w
  have hmf : ∀ (fn : Fn) (first cap : Array Value) (w : World), (Instr.makeFunc fn first cap).run Try.prog w = .ok (.func fn first cap) w := fun _ _ _ _ => rfl
  go_enter Try.func16, Try.ntmps16
  go_wp2_with fail
  refine (Catch_givesV entersDo (do_gives a c n) _).mono ?_
  rintro e w1 ⟨rfl, hb1⟩
  go_wp2_with fail
  go_end0
  exact ⟨rfl, (below_after hb1).alloc (below_after hb1).size _⟩

set_option maxHeartbeats 1000000 in
set_option maxRecDepth 20000 in
theorem trapInner_walk (a c n : Int) (f : Bool) (w : World) :
    Calls Try.prog 3 #[.agg #[.int .i64 a, .int .i64 c, .bool f, .int .i64 n]] w fun e w' => e = .returned (.bool true) ∧ Below w.heap.size w w' := by
  have hmf : ∀ (fn : Fn) (first cap : Array Value) (w : World), (Instr.makeFunc fn first cap).run Try.prog w = .ok (.func fn first cap) w := fun _ _ _ _ => rfl
  cases f
  · go_enter Try.func3, Try.ntmps3
    go_wp2_with fail
    refine (Catch_givesV entersInner (inner_gives a c n) _).mono ?_
    rintro e w1 ⟨rfl, hb1⟩
    obtain ⟨hc1, hf1⟩ := bcell hb1
    have hz1 : w.heap.size < w1.heap.size := by have := hb1.size; simp at this; omega
    go_wp2_with (go_at_call 17; refine (lives01_any _).mono ?_; rintro e w3 ⟨rfl, hb3⟩)
    go_ret
    exact ⟨rfl, below_step (below_after hb1) hb3⟩
  · go_enter Try.func3, Try.ntmps3
    go_wp2_with fail
    refine (Catch_throwsV entersInner (inner_throws a c n) _).mono ?_
    rintro e w1 ⟨rfl, hb1⟩
    obtain ⟨hc1, hf1⟩ := bcell hb1
    have hz1 : w.heap.size < w1.heap.size := by have := hb1.size; simp at this; omega
    go_wp2_with (go_at_call 17; refine (lives01_any _).mono ?_; rintro e w3 ⟨rfl, hb3⟩)
    go_ret
    exact ⟨rfl, below_step (below_after hb1) hb3⟩

end Go.Proofs.Ytgdhemhapfpkiaa
