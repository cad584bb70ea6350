/-
  Walks of package mp4: the first box.
-/
import Derived.Test.YthmiadbeiggmlaaCursorD
import Derived.Test.YthmiadbeiggmlaaTrapVU32
import Derived.Test.YthmiadbeiggmlaaStrs
namespace Go.Proofs.Ythmiadbeiggmlaa
open Go.RowKit
set_option linter.unusedSimpArgs false
set_option linter.unusedVariables false

theorem entersU32 : Enters 81 := fun args w => MuLone.run_callFunc_enter Try.func81 (by kernel_rfl) rfl args w
theorem entersVU32 : Enters 80 := fun args w => MuLone.run_callFunc_enter Try.func80 (by kernel_rfl) rfl args w

/-- The number of the first four bytes. -/
def sizeF (s : ByteArray) : Nat := bigN (s.extract 0 4).data.toList

theorem sizeF_lt (s : ByteArray) : sizeF s < 4294967296 := by
  have h := bigN_lt (s.extract 0 4).data.toList
  have h2 : (s.extract 0 4).data.toList.length ≤ 4 := by rw [← Lib.size_eq, extract_size]; omega
  exact Nat.lt_of_lt_of_le h (Nat.le_trans (Nat.pow_le_pow_right (by decide) h2) (by decide))

set_option maxRecDepth 20000 in
theorem size_yes (s : ByteArray) (w : World) (h4 : 4 ≤ s.size) (hs : s.size ≤ maxLen) :
    Calls Try.prog 68 #[.string s] w fun e w' => e = .returned (.tuple #[.int .i64 (sizeF s), .bool true]) ∧ Below w.heap.size w w' := by
  have hmf : ∀ (fn : Fn) (first cap : Array Value) (w : World), (Instr.makeFunc fn first cap).run Try.prog w = .ok (.func fn first cap) w := fun _ _ _ _ => rfl
  have hlt := sizeF_lt s
  go_enter Try.func68, Try.ntmps68
  go_wp2_with (go_at_call 20; refine (New_any _ _).mono ?_; rintro e w' ⟨rfl, rfl⟩)
  have h0 := Cur.new w s
  refine (valueU32_gives 81 #[.pointer (some ⟨w.heap.size, 0, none⟩)] #[] (sizeF s) (w.heap.size + 1) (Moved w.heap.size s 4 (w.alloc (.cells #[.string s, .int .i64 0] 79))) _ entersU32 entersVU32 (by simp) (Moved.stays (by simp)) ?_).mono ?_
  · intro w1 h1
    have hc := h0.below h1 (by simp)
    rw [Array.append_empty]
    refine (U32_gives w.heap.size s 0 w1 hc (by omega) hs).mono ?_
    rintro e w' ⟨rfl, hm⟩
    exact ⟨rfl, hm.2.keeps (by omega), ⟨hm.1, (But.of_below h1).trans hm.2⟩⟩
  rintro e w2 ⟨rfl, _, hm⟩
  have HM := Lib.hid hm
  clear hm h0
  go_wp2_with fail
  go_quiet (fail)
  go_wp2_with fail
  go_ret2
  have hB := (HM.out.2.below (Nat.le_refl _) (by simp)).alloc (by have := HM.out.2.size; simp at this; omega) (.cells #[.int .i64 0, .int .i64 0] 42)
  exact ⟨rfl, below_drewN ((below_box _ _).trans hB) _⟩

set_option maxRecDepth 20000 in
theorem size_no (s : ByteArray) (w : World) (h4 : s.size < 4) :
    Calls Try.prog 68 #[.string s] w fun e w' => e = .returned (.tuple #[.int .i64 0, .bool false]) ∧ Below w.heap.size w w' := by
  have hmf : ∀ (fn : Fn) (first cap : Array Value) (w : World), (Instr.makeFunc fn first cap).run Try.prog w = .ok (.func fn first cap) w := fun _ _ _ _ => rfl
  have hs : s.size ≤ maxLen := by unfold maxLen; omega
  go_enter Try.func68, Try.ntmps68
  go_wp2_with (go_at_call 20; refine (New_any _ _).mono ?_; rintro e w' ⟨rfl, rfl⟩)
  have h0 := Cur.new w s
  refine (valueU32_throws 81 #[.pointer (some ⟨w.heap.size, 0, none⟩)] #[] 0 8 (w.heap.size + 1) (Moved w.heap.size s 0 (w.alloc (.cells #[.string s, .int .i64 0] 79))) _ entersU32 entersVU32 (by simp) (Moved.stays (by simp)) ?_).mono ?_
  · intro w1 h1
    have hc := h0.below h1 (by simp)
    rw [Array.append_empty]
    refine (U32_throws w.heap.size s 0 w1 hc (by omega) (by omega) hs).mono ?_
    rintro e w' ⟨rfl, hd⟩
    have hm := moved_drew hc hd
    exact ⟨rfl, hm.2.keeps (by omega), ⟨hm.1, (But.of_below h1).trans hm.2⟩⟩
  rintro e w2 ⟨rfl, _, hm⟩
  have HM := Lib.hid hm
  clear hm h0
  go_wp2_with fail
  go_quiet (fail)
  go_wp2_with fail
  go_ret2
  have hB := (HM.out.2.below (Nat.le_refl _) (by simp)).alloc (by have := HM.out.2.size; simp at this; omega) (.cells #[.int .i64 0, .int .i64 8] 42)
  exact ⟨rfl, below_drewN ((below_box _ _).trans hB) _⟩

/-- A first box is one of a film. -/
def headF (s : ByteArray) : Bool := decide (12 ≤ s.size) && decide (sizeF s ≤ s.size) && decide (sizeF s % 4 = 0) && ((s.extract 4 8).toList == [102, 116, 121, 112])

theorem headF_parts {s : ByteArray} (h : headF s = true) : 12 ≤ s.size ∧ sizeF s ≤ s.size ∧ sizeF s % 4 = 0 := by
  unfold headF at h
  simp only [Bool.and_eq_true, decide_eq_true_eq] at h
  exact ⟨h.1.1.1, h.1.1.2, h.1.2⟩

set_option maxRecDepth 20000 in
theorem begins_any (s : ByteArray) (w : World) (hs : s.size ≤ maxLen) :
    Calls Try.prog 69 #[.string s] w fun e w' => e = .returned (.bool (headF s)) ∧ Below w.heap.size w w' := by
  have hs2 : s.size ≤ 9223372036854775807 := by unfold maxLen at hs; omega
  unfold headF
  by_cases h12 : 12 ≤ s.size
  · have HC := Lib.hid (fun w => size_yes s w (by omega) hs)
    have hlt := sizeF_lt s
    have HR := Lib.hid (decide_eq_true h12)
    generalize sizeF s = n at *
    by_cases h1 : n ≤ s.size
    · have HR1 := Lib.hid (decide_eq_true h1)
      by_cases h2 : n % 4 = 0
      · have HR2 := Lib.hid (decide_eq_true h2)
        have h3 : ((n : Int) % 4) = 0 := by omega
        cases h4 : ((s.extract 4 8).toList == [102, 116, 121, 112])
        · go_enter Try.func69, Try.ntmps69
          go_wp2_with (go_at_call 68; refine (HC.out _).mono ?_; rintro e w' ⟨rfl, hb⟩)
          go_ret
          exact ⟨ret_bool (by rw [HR.out, HR1.out, HR2.out]; simp [*]), hb⟩
        · go_enter Try.func69, Try.ntmps69
          go_wp2_with (go_at_call 68; refine (HC.out _).mono ?_; rintro e w' ⟨rfl, hb⟩)
          go_ret
          exact ⟨ret_bool (by rw [HR.out, HR1.out, HR2.out]; simp [*]), hb⟩
      · have HR2 := Lib.hid (decide_eq_false h2)
        have h3 : ((n : Int) % 4 == 0) = false := by rw [beq_eq_false_iff_ne]; omega
        clear h2
        go_enter Try.func69, Try.ntmps69
        go_wp2_with (go_at_call 68; refine (HC.out _).mono ?_; rintro e w' ⟨rfl, hb⟩)
        go_ret
        exact ⟨ret_bool (by rw [HR.out, HR1.out, HR2.out]; simp [*]), hb⟩
    · have HR1 := Lib.hid (decide_eq_false h1)
      go_enter Try.func69, Try.ntmps69
      go_wp2_with (go_at_call 68; refine (HC.out _).mono ?_; rintro e w' ⟨rfl, hb⟩)
      go_ret
      exact ⟨ret_bool (by rw [HR.out, HR1.out]; simp), hb⟩
  · have HR := Lib.hid (decide_eq_false h12)
    by_cases h4 : 4 ≤ s.size
    · have HC := Lib.hid (fun w => size_yes s w h4 hs)
      have hlt := sizeF_lt s
      generalize sizeF s = n at *
      go_enter Try.func69, Try.ntmps69
      go_wp2_with (go_at_call 68; refine (HC.out _).mono ?_; rintro e w' ⟨rfl, hb⟩)
      go_ret
      exact ⟨ret_bool (by first | rfl | (rw [HR.out]; simp; omega)), hb⟩
    · have HC := Lib.hid (fun w => size_no s w (by omega))
      go_enter Try.func69, Try.ntmps69
      go_wp2_with (go_at_call 68; refine (HC.out _).mono ?_; rintro e w' ⟨rfl, hb⟩)
      go_ret
      exact ⟨ret_bool (by first | rfl | (rw [HR.out]; simp)), hb⟩

theorem Head_any (s : ByteArray) (w : World) (hs : s.size ≤ maxLen) :
    Calls Try.prog 35 #[.string s] w fun e w' => e = .returned (.bool (headF s)) ∧ Below w.heap.size w w' := by
  go_enter Try.func35, Try.ntmps35
  go_wp2_with (go_at_call 69; refine (begins_any _ _ hs).mono ?_; rintro e w' ⟨rfl, hb⟩)
  go_ret
  exact ⟨rfl, hb⟩

/-- What the reference says of the first four bytes. -/
theorem rSize_yes (s : ByteArray) (w : World) (h4 : 4 ≤ s.size) :
    Calls Try.prog 34 #[.string s] w fun e w' => e = .returned (.int .i64 (sizeF s)) ∧ Drew w w' := by
  have h0 := fun w => index_zero 9 Try.underlying9 s (by omega) w
  have h1 : ∀ w, (Instr.index 9 (.string s) (.int .i64 1)).run Try.prog w = .ok (.int .u8 (s[1].toNat : Int)) w := fun w => index_byte 9 Try.underlying9 s 1 (by omega) w
  have h2 : ∀ w, (Instr.index 9 (.string s) (.int .i64 2)).run Try.prog w = .ok (.int .u8 (s[2].toNat : Int)) w := fun w => index_byte 9 Try.underlying9 s 2 (by omega) w
  have h3 : ∀ w, (Instr.index 9 (.string s) (.int .i64 3)).run Try.prog w = .ok (.int .u8 (s[3].toNat : Int)) w := fun w => index_byte 9 Try.underlying9 s 3 (by omega) w
  have he : sizeF s = ((s[0].toNat * 256 + s[1].toNat) * 256 + s[2].toNat) * 256 + s[3].toNat := by
    have e : (s.extract 0 4).data.toList = [s[0], s[1], s[2], s[3]] := by
      have e2 : (s.extract 0 4).data.toList = s.data.toList.take 4 := by simp
      have h4' : 4 ≤ s.data.toList.length := by rw [← Lib.size_eq]; exact h4
      rw [e2]
      match hl : s.data.toList, h4' with
      | a :: b :: c :: d :: r, _ =>
        have f : ∀ i (hi : i < s.size), s[i] = s.data.toList[i]'(by rw [← Lib.size_eq]; exact hi) := fun i hi => rfl
        rw [f 0, f 1, f 2, f 3]
        simp [hl]
    unfold sizeF
    rw [e]
    simp [bigN]
  have HE := Lib.hid he
  clear he
  have b0 := s[0].toNat_lt
  have b1 := s[1].toNat_lt
  have b2 := s[2].toNat_lt
  have b3 := s[3].toNat_lt
  generalize s[0].toNat = a at *
  generalize s[1].toNat = b at *
  generalize s[2].toNat = c at *
  generalize s[3].toNat = d at *
  have h4' : ¬ s.size < 4 := by omega
  go_enter Try.func34, Try.ntmps34
  go_wp2
  have e0 : IntKind.i64.wrap ((a : Int) * 256) = (a : Int) * 256 := IntWalk.i64_in _ (by omega)
  have e1 : IntKind.i64.wrap ((a : Int) * 256 + (b : Int)) = (a : Int) * 256 + (b : Int) := IntWalk.i64_in _ (by omega)
  have e2 : IntKind.i64.wrap (((a : Int) * 256 + (b : Int)) * 256) = ((a : Int) * 256 + (b : Int)) * 256 := IntWalk.i64_in _ (by omega)
  have e3 : IntKind.i64.wrap (((a : Int) * 256 + (b : Int)) * 256 + (c : Int)) = ((a : Int) * 256 + (b : Int)) * 256 + (c : Int) := IntWalk.i64_in _ (by omega)
  have e4 : IntKind.i64.wrap ((((a : Int) * 256 + (b : Int)) * 256 + (c : Int)) * 256) = (((a : Int) * 256 + (b : Int)) * 256 + (c : Int)) * 256 := IntWalk.i64_in _ (by omega)
  have e5 : IntKind.i64.wrap ((((a : Int) * 256 + (b : Int)) * 256 + (c : Int)) * 256 + (d : Int)) = (((a : Int) * 256 + (b : Int)) * 256 + (c : Int)) * 256 + (d : Int) := IntWalk.i64_in _ (by omega)
  go_quiet (fail)
  go_wp2
  go_ret
  exact ⟨ret_int (by rw [HE.out]; simp), ⟨_, rfl⟩⟩

theorem rSize_no (s : ByteArray) (w : World) (h4 : s.size < 4) :
    Calls Try.prog 34 #[.string s] w fun e w' => e = .returned (.int .i64 (-1)) ∧ Drew w w' := by
  go_enter Try.func34, Try.ntmps34
  go_wp2
  go_ret
  exact ⟨rfl, Drew.refl w⟩

end Go.Proofs.Ythmiadbeiggmlaa
