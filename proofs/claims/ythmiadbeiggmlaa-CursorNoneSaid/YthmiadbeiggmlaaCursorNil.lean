/-
  Walks of package cursor: what is told of no cursor; the law CursorNone.
-/
import Derived.Test.YthmiadbeiggmlaaCursorG
namespace Go.Proofs.Ythmiadbeiggmlaa
open Go.RowKit
set_option linter.unusedSimpArgs false
set_option linter.unusedVariables false

theorem nilEq : ∀ w : World, (binOp .eql 35 (.pointer none) (.pointer none)).run Try.prog w = .ok (.bool true) w := fun _ => by kernel_rfl
theorem nilNeq : ∀ w : World, (binOp .neq 35 (.pointer none) (.pointer none)).run Try.prog w = .ok (.bool false) w := fun _ => by kernel_rfl

theorem place_nil (w : World) : Calls Try.prog 62 #[.pointer none] w fun e w' => e = .returned (.int .i64 0) ∧ w = w' := by
  have h1 := nilEq
  go_enter Try.func62, Try.ntmps62
  go_wp2_with fail
  go_ret
  exact ⟨rfl, rfl⟩

theorem At_nil (w : World) : Calls Try.prog 26 #[.pointer none] w fun e w' => e = .returned (.int .i64 0) ∧ w = w' := by
  go_enter Try.func26, Try.ntmps26
  go_wp2_with (go_at_call 62; refine (place_nil _).mono ?_; rintro e w' ⟨rfl, rfl⟩)
  go_ret
  exact ⟨rfl, rfl⟩

theorem rest_nil (w : World) : Calls Try.prog 61 #[.pointer none] w fun e w' => e = .returned (.string ⟨#[]⟩) ∧ w = w' := by
  have h1 := nilEq
  go_enter Try.func61, Try.ntmps61
  go_wp2_with fail
  go_ret
  exact ⟨rfl, rfl⟩

theorem Left_nil (w : World) : Calls Try.prog 27 #[.pointer none] w fun e w' => e = .returned (.int .i64 0) ∧ w = w' := by
  go_enter Try.func27, Try.ntmps27
  go_wp2_with (go_at_call 61; refine (rest_nil _).mono ?_; rintro e w' ⟨rfl, rfl⟩)
  go_ret
  exact ⟨rfl, rfl⟩

theorem End_nil (w : World) : Calls Try.prog 28 #[.pointer none] w fun e w' => e = .returned (.bool true) ∧ w = w' := by
  go_enter Try.func28, Try.ntmps28
  go_wp2_with (go_at_call 61; refine (rest_nil _).mono ?_; rintro e w' ⟨rfl, rfl⟩)
  go_ret
  exact ⟨rfl, rfl⟩

theorem Peek_nil (w : World) : Calls Try.prog 25 #[.pointer none, .int .i64 0] w fun e w' => e = .returned (.tuple #[.int .u8 0, .bool false]) ∧ w = w' := by
  go_enter Try.func25, Try.ntmps25
  go_wp2_with (go_at_call 61; refine (rest_nil _).mono ?_; rintro e w' ⟨rfl, rfl⟩)
  go_ret2
  exact ⟨rfl, rfl⟩

theorem run_nil (w : World) : Calls Try.prog 63 #[.pointer none, .int .i64 0] w fun e w' => e = .returned (.string ⟨#[]⟩) ∧ w = w' := by
  have h1 := nilNeq
  go_enter Try.func63, Try.ntmps63
  go_wp2_with (go_at_call 61; refine (rest_nil _).mono ?_; rintro e w' ⟨rfl, rfl⟩)
  go_ret
  exact ⟨rfl, rfl⟩

theorem Rest_nil (w : World) : Calls Try.prog 29 #[.pointer none] w fun e w' => e = .returned (.string ⟨#[]⟩) ∧ w = w' := by
  go_enter Try.func29, Try.ntmps29
  go_wp2_with (first | (go_at_call 61; refine (rest_nil _).mono ?_; rintro e w' ⟨rfl, rfl⟩) | (go_at_call 63; refine (run_nil _).mono ?_; rintro e w' ⟨rfl, rfl⟩))
  go_ret
  exact ⟨rfl, rfl⟩

theorem Skip_nil (w : World) : Calls Try.prog 41 #[.pointer none, .string ⟨#[97]⟩] w fun e w' => e = .returned (.bool false) ∧ w = w' := by
  have HP : Hid (Lib.hasPrefix (⟨#[]⟩ : ByteArray).data.toList (⟨#[97]⟩ : ByteArray).data.toList = false) := Lib.hid rfl
  go_enter Try.func41, Try.ntmps41
  go_wp2_with (first | (go_at_call 61; refine (rest_nil _).mono ?_; rintro e w' ⟨rfl, rfl⟩) | (go_at_call 67; refine (Try.strings_HasPrefix ⟨#[]⟩ ⟨#[97]⟩ _).mono ?_; rintro e w' ⟨rfl, rfl⟩; rw [HP.out]))
  go_ret
  exact ⟨rfl, rfl⟩

theorem Until_nil (w : World) : Calls Try.prog 45 #[.pointer none, .string ⟨#[]⟩] w fun e w' => e = .returned (.string ⟨#[]⟩) ∧ w = w' := by
  go_enter Try.func45, Try.ntmps45
  go_wp2_with (go_at_call 61; refine (rest_nil _).mono ?_; rintro e w' ⟨rfl, rfl⟩)
  refine wp_loop_rounds 1 ?_
  rw [rounds_succ]
  go_wp2_with (go_at_call 63; refine (run_nil _).mono ?_; rintro e w' ⟨rfl, rfl⟩)
  go_ret
  exact ⟨rfl, rfl⟩

theorem take_nil (n : Int) (w : World) : Calls Try.prog 85 #[.pointer none, .int .i64 n] w fun e w' => e = .panicked [{ v := faultV 0 8, recovered := false }] ∧ w = w' := by
  have h1 := nilNeq
  have H8 : Hid (thrownCode 8 = 8) := Lib.hid rfl
  go_enter Try.func85, Try.ntmps85
  go_wp2_with (first | (go_at_call 61; refine (rest_nil _).mono ?_; rintro e w' ⟨rfl, rfl⟩) | (go_at_call 78; (with_reducible refine (Check_no _ _ _).mono ?_); rintro e w' ⟨rfl, rfl⟩; rw [H8.out]))
  exact ⟨rfl, rfl, rfl⟩

theorem Next_nil (w : World) : Calls Try.prog 72 #[.pointer none] w fun e w' => e = .panicked [{ v := faultV 0 8, recovered := false }] ∧ w = w' := by
  go_enter Try.func72, Try.ntmps72
  go_wp2_with (go_at_call 85; refine (take_nil _ _).mono ?_; rintro e w' ⟨rfl, rfl⟩)
  exact ⟨rfl, rfl, rfl⟩

theorem Back_nil (n : Int) (w : World) : Calls Try.prog 57 #[.pointer none, .int .i64 n] w fun e w' => e = .panicked [{ v := faultV 0 9, recovered := false }] ∧ w = w' := by
  have h1 := nilNeq
  have H9 : Hid (thrownCode 9 = 9) := Lib.hid rfl
  go_enter Try.func57, Try.ntmps57
  go_wp2_with (first | (go_at_call 62; refine (place_nil _).mono ?_; rintro e w' ⟨rfl, rfl⟩) | (go_at_call 78; (with_reducible refine (Check_no _ _ _).mono ?_); rintro e w' ⟨rfl, rfl⟩; rw [H9.out]))
  exact ⟨rfl, rfl, rfl⟩

theorem callNext_nil (n : Int) (w : World) : Calls Try.prog 47 #[.agg #[.pointer none, .int .i64 n]] w fun e w' => e = .panicked [{ v := faultV 0 8, recovered := false }] ∧ Below w.heap.size w w' := by
  go_enter Try.func47, Try.ntmps47
  go_wp2_with (go_at_call 72; refine (Next_nil _).mono ?_; rintro e w' ⟨rfl, rfl⟩)
  exact ⟨rfl, rfl, below_box _ _⟩

theorem callBack_nil (n : Int) (w : World) : Calls Try.prog 22 #[.agg #[.pointer none, .int .i64 n]] w fun e w' => e = .panicked [{ v := faultV 0 9, recovered := false }] ∧ Below w.heap.size w w' := by
  go_enter Try.func22, Try.ntmps22
  go_wp2_with (go_at_call 57; refine (Back_nil _ _).mono ?_; rintro e w' ⟨rfl, rfl⟩)
  exact ⟨rfl, rfl, below_box _ _⟩

theorem valNext_nil (w : World) : Calls Try.prog 46 #[.func (.func 47) #[.agg #[.pointer none, .int .i64 0]] #[]] w fun e w' => e = .returned (.tuple #[.string ⟨#[]⟩, .agg #[.int .i64 0, .int .i64 8]]) ∧ Below w.heap.size w w' := by
  refine (valueStr_throws 47 #[.agg #[.pointer none, .int .i64 0]] #[] 0 8 w.heap.size (Below w.heap.size w) _ entersNext entersStr1 (Nat.le_refl _) (stays_below _ _) ?_).mono ?_
  · intro w1 h1
    rw [Array.append_empty]
    refine (callNext_nil 0 w1).mono ?_
    rintro e w' ⟨rfl, hb⟩
    exact ⟨rfl, keeps_of_below hb, h1.trans (hb.mono h1.size)⟩
  · rintro e w2 ⟨rfl, _, hm⟩
    exact ⟨rfl, hm⟩

theorem catchBack_nil (n : Int) (w : World) : Calls Try.prog 21 #[.func (.func 22) #[.agg #[.pointer none, .int .i64 n]] #[]] w fun e w' => e = .returned (.tuple #[.agg #[.int .i64 0, .int .i64 9], .bool true]) ∧ Below w.heap.size w w' := by
  refine (Catch_throws 22 #[.agg #[.pointer none, .int .i64 n]] #[] 0 9 w.heap.size (Below w.heap.size w) _ entersCallBack (Nat.le_refl _) (stays_below _ _) ?_).mono ?_
  · intro w1 h1
    rw [Array.append_empty]
    refine (callBack_nil n w1).mono ?_
    rintro e w' ⟨rfl, hb⟩
    exact ⟨rfl, keeps_of_below hb, h1.trans (hb.mono h1.size)⟩
  · rintro e w2 ⟨rfl, _, hm⟩
    exact ⟨rfl, hm⟩

set_option maxHeartbeats 4000000 in
set_option maxRecDepth 100000 in
theorem cursorNone_walk (n : Int) (w : World) : Calls Try.prog 9 #[.int .i64 n] w fun e w' => e = .returned (.bool true) ∧ Below w.heap.size w w' := by
  have hmf : ∀ (fn : Fn) (first cap : Array Value) (w : World), (Instr.makeFunc fn first cap).run Try.prog w = .ok (.func fn first cap) w := fun _ _ _ _ => rfl
  go_enter Try.func9, Try.ntmps9
  go_wp2_with (go_at_call 25; refine (Peek_nil _).mono ?_; rintro e w' ⟨rfl, rfl⟩)
  refine (valNext_nil _).mono ?_
  rintro e w1 ⟨rfl, hb1⟩
  have HB1 := Lib.hid hb1
  clear hb1
  go_wp2_with fail
  refine (catchBack_nil n _).mono ?_
  rintro e w2 ⟨rfl, hb2⟩
  have z2 : w1.heap.size < w2.heap.size := by have := hb2.size; simp at this; omega
  have c0 : w2.cell? ⟨w1.heap.size, 0, none⟩ = some (.int .i64 0) := by rw [cell_below hb2 (by simp)]; simp [go_sem]
  have c1 : w2.cell? ⟨w1.heap.size, 1, none⟩ = some (.int .i64 8) := by rw [cell_below hb2 (by simp)]; simp [go_sem]
  have HB2 := Lib.hid ((below_box w1 _).trans (hb2.mono (by simp)))
  clear hb2
  go_wp2_with (first | (go_at_call 26; refine (At_nil _).mono ?_; rintro e w' ⟨rfl, rfl⟩) | (go_at_call 27; refine (Left_nil _).mono ?_; rintro e w' ⟨rfl, rfl⟩) | (go_at_call 28; refine (End_nil _).mono ?_; rintro e w' ⟨rfl, rfl⟩) | (go_at_call 29; refine (Rest_nil _).mono ?_; rintro e w' ⟨rfl, rfl⟩) | (go_at_call 41; refine (Skip_nil _).mono ?_; rintro e w' ⟨rfl, rfl⟩) | (go_at_call 45; refine (Until_nil _).mono ?_; rintro e w' ⟨rfl, rfl⟩))
  refine (lives02_any _).mono ?_
  rintro e w3 ⟨rfl, hb3⟩
  have HB3 := Lib.hid (below_after hb3)
  clear hb3
  go_wp2_with fail
  go_ret
  exact ⟨rfl, HB1.out.trans ((HB2.out.mono HB1.out.size).trans (HB3.out.mono (by have := HB1.out.size; have := HB2.out.size; omega)))⟩

end Go.Proofs.Ythmiadbeiggmlaa
