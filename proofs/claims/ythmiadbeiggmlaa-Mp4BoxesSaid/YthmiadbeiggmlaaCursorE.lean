/-
  Walks of package cursor: going back; the calls of the statements on cursors, caught.
-/
import Derived.Test.YthmiadbeiggmlaaCursorC
import Derived.Test.YthmiadbeiggmlaaCursorD
namespace Go.Proofs.Ythmiadbeiggmlaa
open Go.RowKit
set_option linter.unusedSimpArgs false
set_option linter.unusedVariables false

theorem Back_gives (g : Nat) (s : ByteArray) (k n : Nat) (w : World) (h : Cur w g s k) (hn : n ≤ k) :
    Calls Try.prog 57 #[.pointer (some ⟨g, 0, none⟩), .int .i64 n] w fun e w' => e = .returned (.tuple #[]) ∧ Moved g s n w w' := by
  have hnn : ∀ w : World, (binOp .neq 35 (.pointer (some ⟨g, 0, none⟩)) (.pointer none)).run Try.prog w = .ok (.bool true) w := fun _ => by kernel_rfl
  have c1 := h.gone
  have f1 := h.free 1
  have HM := Lib.hid (moved_set h (Drew.refl w) n)
  have CP := Lib.hid (place_any g s k w h)
  clear h
  go_enter Try.func57, Try.ntmps57
  go_wp2_with (first | (go_at_call 62; (with_reducible refine (CP.out).mono ?_); rintro e w' ⟨rfl, rfl⟩) | (go_at_call 78; (with_reducible refine (Check_yes _ _ _).mono ?_); rintro e w' ⟨rfl, rfl⟩))
  go_end0
  exact ⟨rfl, HM.out⟩

theorem Back_throws (g : Nat) (s : ByteArray) (k : Nat) (n : Int) (w : World) (h : Cur w g s k) (hn : n < 0 ∨ (k : Int) < n) :
    Calls Try.prog 57 #[.pointer (some ⟨g, 0, none⟩), .int .i64 n] w fun e w' => e = .panicked [{ v := faultV k 9, recovered := false }] ∧ w = w' := by
  have hnn : ∀ w : World, (binOp .neq 35 (.pointer (some ⟨g, 0, none⟩)) (.pointer none)).run Try.prog w = .ok (.bool true) w := fun _ => by kernel_rfl
  have H9 : Hid (thrownCode 9 = 9) := Lib.hid rfl
  have CP := Lib.hid (place_any g s k w h)
  clear h
  by_cases h0 : n < 0
  · clear hn
    have d0 : decide (0 ≤ n) = false := decide_eq_false (by omega)
    go_enter Try.func57, Try.ntmps57
    go_wp2_with (first | (go_at_call 62; (with_reducible refine (CP.out).mono ?_); rintro e w' ⟨rfl, rfl⟩) | (go_at_call 78; (with_reducible refine (Check_no _ _ _).mono ?_); rintro e w' ⟨rfl, rfl⟩; rw [H9.out]))
    exact ⟨rfl, rfl, rfl⟩
  · have hk : (k : Int) < n := by omega
    clear hn
    have d0 : decide (n ≤ (k : Int)) = false := decide_eq_false (by omega)
    go_enter Try.func57, Try.ntmps57
    go_wp2_with (first | (go_at_call 62; (with_reducible refine (CP.out).mono ?_); rintro e w' ⟨rfl, rfl⟩) | (go_at_call 78; (with_reducible refine (Check_no _ _ _).mono ?_); rintro e w' ⟨rfl, rfl⟩; rw [H9.out]))
    exact ⟨rfl, rfl, rfl⟩

theorem entersCallTake : Enters 58 := fun args w => MuLone.run_callFunc_enter Try.func58 (by kernel_rfl) rfl args w

theorem entersCallU32 : Enters 60 := fun args w => MuLone.run_callFunc_enter Try.func60 (by kernel_rfl) rfl args w

theorem entersCallBack : Enters 22 := fun args w => MuLone.run_callFunc_enter Try.func22 (by kernel_rfl) rfl args w

theorem callTake_gives (g : Nat) (m : Nat) (s : ByteArray) (k : Nat) (w : World) (h : Cur w g s k) (hk : k + m ≤ s.size) (hs : s.size ≤ maxLen) :
    Calls Try.prog 58 #[.agg #[.pointer (some ⟨g, 0, none⟩), .int .i64 (m : Int)]] w fun e w' => e = .returned (.string (s.extract k (k + m))) ∧ Moved g s (k + m) w w' := by
  have HC := Lib.hid (fun w1 hw => Take_gives g s k m w1 (h.below (w' := w1) hw h.lt) hk hs)
  clear h
  go_enter Try.func58, Try.ntmps58
  go_wp2_with fail
  refine (HC.out _ (below_box _ _)).mono ?_
  rintro e w2 ⟨rfl, hm⟩
  have HM := Lib.hid (show Moved g s (k + m) w w2 from ⟨hm.1, ((But.refl _ _).alloc _).trans hm.2⟩)
  clear hm
  go_wp2_with fail
  go_ret
  exact ⟨rfl, HM.out⟩

theorem callU32_gives (g : Nat) (n : Int) (s : ByteArray) (k : Nat) (w : World) (h : Cur w g s k) (hk : k + 4 ≤ s.size) (hs : s.size ≤ maxLen) :
    Calls Try.prog 60 #[.agg #[.pointer (some ⟨g, 0, none⟩), .int .i64 n]] w fun e w' => e = .returned (.int .u32 (bigN (s.extract k (k + 4)).data.toList)) ∧ Moved g s (k + 4) w w' := by
  have HC := Lib.hid (fun w1 hw => U32_gives g s k w1 (h.below (w' := w1) hw h.lt) hk hs)
  clear h
  generalize bigN (s.extract k (k + 4)).data.toList = x at *
  go_enter Try.func60, Try.ntmps60
  go_wp2_with fail
  refine (HC.out _ (below_box _ _)).mono ?_
  rintro e w2 ⟨rfl, hm⟩
  have HM := Lib.hid (show Moved g s (k + 4) w w2 from ⟨hm.1, ((But.refl _ _).alloc _).trans hm.2⟩)
  clear hm
  go_wp2_with fail
  go_ret
  exact ⟨rfl, HM.out⟩

theorem callBack_gives (g : Nat) (m : Nat) (s : ByteArray) (k : Nat) (w : World) (h : Cur w g s k) (hk : m ≤ k) (hs : s.size ≤ maxLen) :
    Calls Try.prog 22 #[.agg #[.pointer (some ⟨g, 0, none⟩), .int .i64 (m : Int)]] w fun e w' => e = .returned (.tuple #[]) ∧ Moved g s (m) w w' := by
  have HC := Lib.hid (fun w1 hw => Back_gives g s k m w1 (h.below (w' := w1) hw h.lt) hk)
  clear h
  go_enter Try.func22, Try.ntmps22
  go_wp2_with fail
  refine (HC.out _ (below_box _ _)).mono ?_
  rintro e w2 ⟨rfl, hm⟩
  have HM := Lib.hid (show Moved g s (m) w w2 from ⟨hm.1, ((But.refl _ _).alloc _).trans hm.2⟩)
  clear hm
  go_wp2_with fail
  go_end0
  exact ⟨rfl, HM.out⟩

theorem callNext_throws (g : Nat) (n : Int) (s : ByteArray) (w : World) (h : Cur w g s s.size) (hs : s.size ≤ maxLen) :
    Calls Try.prog 47 #[.agg #[.pointer (some ⟨g, 0, none⟩), .int .i64 n]] w fun e w' => e = .panicked [{ v := faultV s.size 8, recovered := false }] ∧ Moved g s s.size w w' := by
  have HC := Lib.hid (fun w1 hw => Next_throws g s w1 (h.below (w' := w1) hw h.lt) hs)
  have HM := Lib.hid (fun (w1 : World) (hw : Below w.heap.size w w1) => h.below hw h.lt)
  clear h
  go_enter Try.func47, Try.ntmps47
  go_wp2_with (go_at_call 72; refine (HC.out _ (below_box _ _)).mono ?_; rintro e w2 ⟨rfl, hd⟩)
  exact ⟨rfl, rfl, by have hm := moved_drew (HM.out _ (below_box _ _)) hd; exact ⟨hm.1, ((But.refl _ _).alloc _).trans hm.2⟩⟩

theorem callTake_throws (g : Nat) (n : Int) (s : ByteArray) (k : Nat) (w : World) (h : Cur w g s k) (hk : k ≤ s.size) (hn : n < 0 ∨ (s.size : Int) - k < n) (hs : s.size ≤ maxLen) :
    Calls Try.prog 58 #[.agg #[.pointer (some ⟨g, 0, none⟩), .int .i64 n]] w fun e w' => e = .panicked [{ v := faultV k (if n < 0 then 9 else 8), recovered := false }] ∧ Moved g s k w w' := by
  have HC := Lib.hid (fun w1 hw => Take_throws g s k n w1 (h.below (w' := w1) hw h.lt) hk hn hs)
  have HM := Lib.hid (fun (w1 : World) (hw : Below w.heap.size w w1) => h.below hw h.lt)
  clear h
  generalize (if n < 0 then (9 : Int) else 8) = c at *
  clear hn
  go_enter Try.func58, Try.ntmps58
  go_wp2_with (go_at_call 79; refine (HC.out _ (below_box _ _)).mono ?_; rintro e w2 ⟨rfl, hd⟩)
  exact ⟨rfl, rfl, by have hm := moved_drew (HM.out _ (below_box _ _)) hd; exact ⟨hm.1, ((But.refl _ _).alloc _).trans hm.2⟩⟩

theorem callU32_throws (g : Nat) (n : Int) (s : ByteArray) (k : Nat) (w : World) (h : Cur w g s k) (hk : k ≤ s.size) (hn : s.size < k + 4) (hs : s.size ≤ maxLen) :
    Calls Try.prog 60 #[.agg #[.pointer (some ⟨g, 0, none⟩), .int .i64 n]] w fun e w' => e = .panicked [{ v := faultV k 8, recovered := false }] ∧ Moved g s k w w' := by
  have HC := Lib.hid (fun w1 hw => U32_throws g s k w1 (h.below (w' := w1) hw h.lt) hk hn hs)
  have HM := Lib.hid (fun (w1 : World) (hw : Below w.heap.size w w1) => h.below hw h.lt)
  clear h
  go_enter Try.func60, Try.ntmps60
  go_wp2_with (go_at_call 81; refine (HC.out _ (below_box _ _)).mono ?_; rintro e w2 ⟨rfl, hd⟩)
  exact ⟨rfl, rfl, by have hm := moved_drew (HM.out _ (below_box _ _)) hd; exact ⟨hm.1, ((But.refl _ _).alloc _).trans hm.2⟩⟩

theorem callBack_throws (g : Nat) (n : Int) (s : ByteArray) (k : Nat) (w : World) (h : Cur w g s k) (hn : n < 0 ∨ (k : Int) < n) (hs : s.size ≤ maxLen) :
    Calls Try.prog 22 #[.agg #[.pointer (some ⟨g, 0, none⟩), .int .i64 n]] w fun e w' => e = .panicked [{ v := faultV k 9, recovered := false }] ∧ Moved g s k w w' := by
  have HC := Lib.hid (fun w1 hw => Back_throws g s k n w1 (h.below (w' := w1) hw h.lt) hn)
  have HM := Lib.hid (fun (w1 : World) (hw : Below w.heap.size w w1) => h.below hw h.lt)
  clear h
  go_enter Try.func22, Try.ntmps22
  go_wp2_with (go_at_call 57; refine (HC.out _ (below_box _ _)).mono ?_; rintro e w2 ⟨rfl, hd⟩)
  exact ⟨rfl, rfl, by subst hd; exact ⟨HM.out _ (below_box _ _), (But.refl _ _).alloc _⟩⟩

theorem valNext_ok (g : Nat) (n : Int) (s : ByteArray) (k : Nat) (w : World) (h : Cur w g s k) (hk : k < s.size) (hs : s.size ≤ maxLen) :
    Calls Try.prog 46 #[.func (.func 47) #[.agg #[.pointer (some ⟨g, 0, none⟩), .int .i64 n]] #[]] w fun e w' => e = .returned (.tuple #[.string ⟨#[s[k]]⟩, .agg #[.int .i64 0, .int .i64 0]]) ∧ Moved g s (k + 1) w w' := by
  refine (valueStr_gives 47 #[.agg #[.pointer (some ⟨g, 0, none⟩), .int .i64 n]] #[] ⟨#[s[k]]⟩ (w.heap.size) (Moved g s (k + 1) w) _ entersNext entersStr1 (Nat.le_refl _) (Moved.stays h.lt) ?_).mono ?_
  · intro w1 h1
    have hc := h.below h1 h.lt
    rw [Array.append_empty]
    refine (callNext_gives g n s k w1 hc hk hs).mono ?_
    rintro e w' ⟨rfl, hm⟩
    exact ⟨rfl, hm.2.keeps (by have := h.lt; have := h1.size; omega), ⟨hm.1, (But.of_below h1).trans hm.2⟩⟩
  · rintro e w2 ⟨rfl, _, hm⟩
    exact ⟨rfl, hm⟩

theorem valNext_bad (g : Nat) (n : Int) (s : ByteArray) (w : World) (h : Cur w g s s.size) (hs : s.size ≤ maxLen) :
    Calls Try.prog 46 #[.func (.func 47) #[.agg #[.pointer (some ⟨g, 0, none⟩), .int .i64 n]] #[]] w fun e w' => e = .returned (.tuple #[.string ⟨#[]⟩, .agg #[.int .i64 s.size, .int .i64 8]]) ∧ Moved g s (s.size) w w' := by
  refine (valueStr_throws 47 #[.agg #[.pointer (some ⟨g, 0, none⟩), .int .i64 n]] #[] s.size 8 (w.heap.size) (Moved g s (s.size) w) _ entersNext entersStr1 (Nat.le_refl _) (Moved.stays h.lt) ?_).mono ?_
  · intro w1 h1
    have hc := h.below h1 h.lt
    rw [Array.append_empty]
    refine (callNext_throws g n s w1 hc hs).mono ?_
    rintro e w' ⟨rfl, hm⟩
    exact ⟨rfl, hm.2.keeps (by have := h.lt; have := h1.size; omega), ⟨hm.1, (But.of_below h1).trans hm.2⟩⟩
  · rintro e w2 ⟨rfl, _, hm⟩
    exact ⟨rfl, hm⟩

theorem valTake_ok (g : Nat) (s : ByteArray) (k m : Nat) (w : World) (h : Cur w g s k) (hk : k + m ≤ s.size) (hs : s.size ≤ maxLen) :
    Calls Try.prog 46 #[.func (.func 58) #[.agg #[.pointer (some ⟨g, 0, none⟩), .int .i64 m]] #[]] w fun e w' => e = .returned (.tuple #[.string (s.extract k (k + m)), .agg #[.int .i64 0, .int .i64 0]]) ∧ Moved g s (k + m) w w' := by
  refine (valueStr_gives 58 #[.agg #[.pointer (some ⟨g, 0, none⟩), .int .i64 m]] #[] (s.extract k (k + m)) (w.heap.size) (Moved g s (k + m) w) _ entersCallTake entersStr1 (Nat.le_refl _) (Moved.stays h.lt) ?_).mono ?_
  · intro w1 h1
    have hc := h.below h1 h.lt
    rw [Array.append_empty]
    refine (callTake_gives g m s k w1 hc hk hs).mono ?_
    rintro e w' ⟨rfl, hm⟩
    exact ⟨rfl, hm.2.keeps (by have := h.lt; have := h1.size; omega), ⟨hm.1, (But.of_below h1).trans hm.2⟩⟩
  · rintro e w2 ⟨rfl, _, hm⟩
    exact ⟨rfl, hm⟩

theorem valTake_bad (g : Nat) (n : Int) (s : ByteArray) (k : Nat) (w : World) (h : Cur w g s k) (hk : k ≤ s.size) (hn : n < 0 ∨ (s.size : Int) - k < n) (hs : s.size ≤ maxLen) :
    Calls Try.prog 46 #[.func (.func 58) #[.agg #[.pointer (some ⟨g, 0, none⟩), .int .i64 n]] #[]] w fun e w' => e = .returned (.tuple #[.string ⟨#[]⟩, .agg #[.int .i64 k, .int .i64 (if n < 0 then 9 else 8)]]) ∧ Moved g s (k) w w' := by
  refine (valueStr_throws 58 #[.agg #[.pointer (some ⟨g, 0, none⟩), .int .i64 n]] #[] k (if n < 0 then 9 else 8) (w.heap.size) (Moved g s (k) w) _ entersCallTake entersStr1 (Nat.le_refl _) (Moved.stays h.lt) ?_).mono ?_
  · intro w1 h1
    have hc := h.below h1 h.lt
    rw [Array.append_empty]
    refine (callTake_throws g n s k w1 hc hk hn hs).mono ?_
    rintro e w' ⟨rfl, hm⟩
    exact ⟨rfl, hm.2.keeps (by have := h.lt; have := h1.size; omega), ⟨hm.1, (But.of_below h1).trans hm.2⟩⟩
  · rintro e w2 ⟨rfl, _, hm⟩
    exact ⟨rfl, hm⟩

theorem entersVU32c : Enters 80 := fun args w => MuLone.run_callFunc_enter Try.func80 (by kernel_rfl) rfl args w

theorem valU32_ok (g : Nat) (n : Int) (s : ByteArray) (k : Nat) (w : World) (h : Cur w g s k) (hk : k + 4 ≤ s.size) (hs : s.size ≤ maxLen) :
    Calls Try.prog 59 #[.func (.func 60) #[.agg #[.pointer (some ⟨g, 0, none⟩), .int .i64 n]] #[]] w fun e w' => e = .returned (.tuple #[.int .u32 (bigN (s.extract k (k + 4)).data.toList), .agg #[.int .i64 0, .int .i64 0]]) ∧ Moved g s (k + 4) w w' := by
  refine (valueU32_gives 60 #[.agg #[.pointer (some ⟨g, 0, none⟩), .int .i64 n]] #[] (bigN (s.extract k (k + 4)).data.toList) (w.heap.size) (Moved g s (k + 4) w) _ entersCallU32 entersVU32c (Nat.le_refl _) (Moved.stays h.lt) ?_).mono ?_
  · intro w1 h1
    have hc := h.below h1 h.lt
    rw [Array.append_empty]
    refine (callU32_gives g n s k w1 hc hk hs).mono ?_
    rintro e w' ⟨rfl, hm⟩
    exact ⟨rfl, hm.2.keeps (by have := h.lt; have := h1.size; omega), ⟨hm.1, (But.of_below h1).trans hm.2⟩⟩
  · rintro e w2 ⟨rfl, _, hm⟩
    exact ⟨rfl, hm⟩

theorem valU32_bad (g : Nat) (n : Int) (s : ByteArray) (k : Nat) (w : World) (h : Cur w g s k) (hk : k ≤ s.size) (hn : s.size < k + 4) (hs : s.size ≤ maxLen) :
    Calls Try.prog 59 #[.func (.func 60) #[.agg #[.pointer (some ⟨g, 0, none⟩), .int .i64 n]] #[]] w fun e w' => e = .returned (.tuple #[.int .u32 0, .agg #[.int .i64 k, .int .i64 8]]) ∧ Moved g s (k) w w' := by
  refine (valueU32_throws 60 #[.agg #[.pointer (some ⟨g, 0, none⟩), .int .i64 n]] #[] k 8 (w.heap.size) (Moved g s (k) w) _ entersCallU32 entersVU32c (Nat.le_refl _) (Moved.stays h.lt) ?_).mono ?_
  · intro w1 h1
    have hc := h.below h1 h.lt
    rw [Array.append_empty]
    refine (callU32_throws g n s k w1 hc hk hn hs).mono ?_
    rintro e w' ⟨rfl, hm⟩
    exact ⟨rfl, hm.2.keeps (by have := h.lt; have := h1.size; omega), ⟨hm.1, (But.of_below h1).trans hm.2⟩⟩
  · rintro e w2 ⟨rfl, _, hm⟩
    exact ⟨rfl, hm⟩

theorem catchBack_ok (g : Nat) (s : ByteArray) (k m : Nat) (w : World) (h : Cur w g s k) (hk : m ≤ k) (hs : s.size ≤ maxLen) :
    Calls Try.prog 21 #[.func (.func 22) #[.agg #[.pointer (some ⟨g, 0, none⟩), .int .i64 m]] #[]] w fun e w' => e = .returned (.tuple #[.agg #[.int .i64 0, .int .i64 0], .bool false]) ∧ Moved g s (m) w w' := by
  refine (Catch_gives 22 #[.agg #[.pointer (some ⟨g, 0, none⟩), .int .i64 m]] #[] (w.heap.size) (Moved g s (m) w) _ entersCallBack (Nat.le_refl _) (Moved.stays h.lt) ?_).mono ?_
  · intro w1 h1
    have hc := h.below h1 h.lt
    rw [Array.append_empty]
    refine (callBack_gives g m s k w1 hc hk hs).mono ?_
    rintro e w' ⟨rfl, hm⟩
    exact ⟨rfl, hm.2.keeps (by have := h.lt; have := h1.size; omega), ⟨hm.1, (But.of_below h1).trans hm.2⟩⟩
  · rintro e w2 ⟨rfl, _, hm⟩
    exact ⟨rfl, hm⟩

theorem catchBack_bad (g : Nat) (n : Int) (s : ByteArray) (k : Nat) (w : World) (h : Cur w g s k) (hn : n < 0 ∨ (k : Int) < n) (hs : s.size ≤ maxLen) :
    Calls Try.prog 21 #[.func (.func 22) #[.agg #[.pointer (some ⟨g, 0, none⟩), .int .i64 n]] #[]] w fun e w' => e = .returned (.tuple #[.agg #[.int .i64 k, .int .i64 9], .bool true]) ∧ Moved g s (k) w w' := by
  refine (Catch_throws 22 #[.agg #[.pointer (some ⟨g, 0, none⟩), .int .i64 n]] #[] k 9 (w.heap.size) (Moved g s (k) w) _ entersCallBack (Nat.le_refl _) (Moved.stays h.lt) ?_).mono ?_
  · intro w1 h1
    have hc := h.below h1 h.lt
    rw [Array.append_empty]
    refine (callBack_throws g n s k w1 hc hn hs).mono ?_
    rintro e w' ⟨rfl, hm⟩
    exact ⟨rfl, hm.2.keeps (by have := h.lt; have := h1.size; omega), ⟨hm.1, (But.of_below h1).trans hm.2⟩⟩
  · rintro e w2 ⟨rfl, _, hm⟩
    exact ⟨rfl, hm⟩

end Go.Proofs.Ythmiadbeiggmlaa
