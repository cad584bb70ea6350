/-
  The law DecimalSums: its walk.
-/
import Derived.Test.YthmiadbeiggmlaaDecimalS
namespace Go.Proofs.Ythmiadbeiggmlaa
open Go.RowKit
set_option linter.unusedSimpArgs false
set_option linter.unusedVariables false

set_option maxHeartbeats 1000000 in
set_option maxRecDepth 20000 in
theorem sums_out (a b c k : Int) (x y : Bool) (w : World) (ha : I64 a) (hb : I64 b) (hc : I64 c)
    (HK : Hid (∀ w : World, Calls Try.prog 16 #[.int .i64 a, .int .i64 b, .int .i64 c] w fun e w' => e = .returned (.int .i64 k) ∧ w = w'))
    (HS : Hid (∀ w : World, Calls Try.prog 14 #[.int .i64 a, .int .i64 b] w fun e w' => e = .returned (.tuple #[.int .i64 0, .bool false]) ∧ w = w'))
    (HP : Hid (∀ w : World, Calls Try.prog 15 #[.int .i64 a, .int .i64 b] w fun e w' => e = .returned (.tuple #[.int .i64 0, .bool false]) ∧ w = w'))
    (HX : Hid (∀ w : World, Calls Try.prog 17 #[.int .i64 a] w fun e w' => e = .returned (.bool x) ∧ w = w')) (HY : Hid (∀ w : World, Calls Try.prog 17 #[.int .i64 b] w fun e w' => e = .returned (.bool y) ∧ w = w'))
    (hk : (a < b ∧ k = b) ∨ (¬ a < b ∧ c < a ∧ k = c) ∨ (¬ a < b ∧ ¬ c < a ∧ k = a)) (hxy : x = false ∨ (x = true ∧ y = false)) :
    Calls Try.prog 4 #[.int .i64 a, .int .i64 b, .int .i64 c] w fun e w' => e = .returned (.bool true) ∧ w = w' := by
  obtain ⟨a1, a2⟩ := ha
  obtain ⟨b1, b2⟩ := hb
  rcases hk with ⟨h1, rfl⟩ | ⟨h1, h2, rfl⟩ | ⟨h1, h2, rfl⟩ <;> rcases hxy with rfl | ⟨rfl, rfl⟩
  all_goals
    go_enter Try.func4, Try.ntmps4
    go_wp2_with (first | (go_at_call 14; (with_reducible refine (HS.out _).mono ?_); rintro e w' ⟨rfl, rfl⟩) | (go_at_call 15; (with_reducible refine (HP.out _).mono ?_); rintro e w' ⟨rfl, rfl⟩) | (go_at_call 16; (with_reducible refine (HK.out _).mono ?_); rintro e w' ⟨rfl, rfl⟩) | (go_at_call 17; (with_reducible refine (HX.out _).mono ?_); rintro e w' ⟨rfl, rfl⟩) | (go_at_call 17; (with_reducible refine (HY.out _).mono ?_); rintro e w' ⟨rfl, rfl⟩) | (go_at_call 18; (with_reducible refine (lives05_any _).mono ?_); rintro e w' ⟨rfl, rfl⟩))
    go_ret
    exact ⟨rfl, rfl⟩

set_option maxHeartbeats 2000000 in
set_option maxRecDepth 20000 in
theorem sums_in (a b c k s p : Int) (z f : Bool) (w : World) (hc : I64 c)
    (HK : Hid (∀ w : World, Calls Try.prog 16 #[.int .i64 a, .int .i64 b, .int .i64 c] w fun e w' => e = .returned (.int .i64 k) ∧ w = w'))
    (HS : Hid (∀ w : World, Calls Try.prog 14 #[.int .i64 a, .int .i64 b] w fun e w' => e = .returned (.tuple #[.int .i64 s, .bool z]) ∧ w = w'))
    (HP : Hid (∀ w : World, Calls Try.prog 15 #[.int .i64 a, .int .i64 b] w fun e w' => e = .returned (.tuple #[.int .i64 p, .bool f]) ∧ w = w'))
    (HX : Hid (∀ w : World, Calls Try.prog 17 #[.int .i64 a] w fun e w' => e = .returned (.bool true) ∧ w = w')) (HY : Hid (∀ w : World, Calls Try.prog 17 #[.int .i64 b] w fun e w' => e = .returned (.bool true) ∧ w = w'))
    (HZ : Hid (∀ w : World, Calls Try.prog 17 #[.int .i64 (a + b)] w fun e w' => e = .returned (.bool z) ∧ w = w')) (HF : Hid (∀ w : World, Calls Try.prog 19 #[.int .i64 a, .int .i64 b] w fun e w' => e = .returned (.bool f) ∧ w = w'))
    (hk : (a < b ∧ k = b) ∨ (¬ a < b ∧ c < a ∧ k = c) ∨ (¬ a < b ∧ ¬ c < a ∧ k = a))
    (ha : -9007199254740991 ≤ a ∧ a ≤ 9007199254740991) (hb : -9007199254740991 ≤ b ∧ b ≤ 9007199254740991)
    (hs : (z = true ∧ s = a + b) ∨ (z = false ∧ s = 0)) (hp : (f = true ∧ p = a * b ∧ -9007199254740991 ≤ a * b ∧ a * b ≤ 9007199254740991) ∨ (f = false ∧ p = 0)) :
    Calls Try.prog 4 #[.int .i64 a, .int .i64 b, .int .i64 c] w fun e w' => e = .returned (.bool true) ∧ w = w' := by
  obtain ⟨a1, a2⟩ := ha
  obtain ⟨b1, b2⟩ := hb
  rcases hk with ⟨h1, rfl⟩ | ⟨h1, h2, rfl⟩ | ⟨h1, h2, rfl⟩ <;> rcases hs with ⟨rfl, rfl⟩ | ⟨rfl, rfl⟩ <;> rcases hp with ⟨rfl, rfl, p1, p2⟩ | ⟨rfl, rfl⟩
  all_goals
    go_enter Try.func4, Try.ntmps4
    go_wp2_with (first | (go_at_call 14; (with_reducible refine (HS.out _).mono ?_); rintro e w' ⟨rfl, rfl⟩) | (go_at_call 15; (with_reducible refine (HP.out _).mono ?_); rintro e w' ⟨rfl, rfl⟩) | (go_at_call 16; (with_reducible refine (HK.out _).mono ?_); rintro e w' ⟨rfl, rfl⟩) | (go_at_call 17; (with_reducible refine (HX.out _).mono ?_); rintro e w' ⟨rfl, rfl⟩) | (go_at_call 17; (with_reducible refine (HY.out _).mono ?_); rintro e w' ⟨rfl, rfl⟩) | (go_at_call 17; (with_reducible refine (HZ.out _).mono ?_); rintro e w' ⟨rfl, rfl⟩) | (go_at_call 19; (with_reducible refine (HF.out _).mono ?_); rintro e w' ⟨rfl, rfl⟩) | (go_at_call 18; (with_reducible refine (lives05_any _).mono ?_); rintro e w' ⟨rfl, rfl⟩))
    go_ret
    exact ⟨rfl, rfl⟩

theorem decimalSums_walk (a b c : Int) (w : World) (ha : I64 a) (hb : I64 b) (hc : I64 c) :
    Calls Try.prog 4 #[.int .i64 a, .int .i64 b, .int .i64 c] w fun e w' => e = .returned (.bool true) ∧ Below w.heap.size w w' := by
  have HS := fun w => Add_any a b w ha hb
  have HP := fun w => Times_any a b w ha hb
  have HK := fun w => Clamp_any a b c w
  have hk : (a < b ∧ (if a < b then b else if c < a then c else a) = b) ∨ (¬ a < b ∧ c < a ∧ (if a < b then b else if c < a then c else a) = c) ∨ (¬ a < b ∧ ¬ c < a ∧ (if a < b then b else if c < a then c else a) = a) := by
    by_cases h1 : a < b
    · exact .inl ⟨h1, if_pos h1⟩
    · right
      rw [if_neg h1]
      by_cases h2 : c < a
      · exact .inl ⟨h1, h2, if_pos h2⟩
      · exact .inr ⟨h1, h2, if_neg h2⟩
  generalize (if a < b then b else if c < a then c else a) = k at *
  have fin : ∀ {w : World}, (Calls Try.prog 4 #[.int .i64 a, .int .i64 b, .int .i64 c] w fun e w' => e = .returned (.bool true) ∧ w = w') → Calls Try.prog 4 #[.int .i64 a, .int .i64 b, .int .i64 c] w fun e w' => e = .returned (.bool true) ∧ Below w.heap.size w w' :=
    fun h => h.mono fun e w' ⟨he, hw⟩ => ⟨he, by subst hw; exact Below.refl _ _⟩
  have HX := fun w => rIn_any a w
  have HY := fun w => rIn_any b w
  cases hx : inB a
  · have e1 : addB a b = false := by unfold addB; rw [hx]; rfl
    have e2 : mulB a b = false := by unfold mulB; rw [hx]; rfl
    rw [e1] at HS
    rw [e2] at HP
    rw [hx] at HX
    exact fin (sums_out a b c k false (inB b) w ha hb hc (Lib.hid HK) (Lib.hid HS) (Lib.hid HP) (Lib.hid HX) (Lib.hid HY) hk (.inl rfl))
  · rw [hx] at HX
    cases hy : inB b
    · have e1 : addB a b = false := by unfold addB; rw [hx, hy]; rfl
      have e2 : mulB a b = false := by unfold mulB; rw [hx, hy]; rfl
      rw [e1] at HS
      rw [e2] at HP
      rw [hy] at HY
      exact fin (sums_out a b c k true false w ha hb hc (Lib.hid HK) (Lib.hid HS) (Lib.hid HP) (Lib.hid HX) (Lib.hid HY) hk (.inr ⟨rfl, rfl⟩))
    · rw [hy] at HY
      have e1 : addB a b = inB (a + b) := by unfold addB; rw [hx, hy]; rfl
      have e2 : mulB a b = fitsB a b := by unfold mulB; rw [hx, hy]; rfl
      rw [e1] at HS
      rw [e2] at HP
      refine fin (sums_in a b c k _ _ _ _ w hc (Lib.hid HK) (Lib.hid HS) (Lib.hid HP) (Lib.hid HX) (Lib.hid HY) (Lib.hid (fun w => rIn_any (a + b) w)) (Lib.hid (fun w => rFits_any a b w hx hy)) hk (inB_true hx) (inB_true hy) ?_ ?_)
      · cases h : inB (a + b)
        · exact .inr ⟨rfl, rfl⟩
        · exact .inl ⟨rfl, rfl⟩
      · cases h : fitsB a b
        · exact .inr ⟨rfl, rfl⟩
        · exact .inl ⟨rfl, rfl, (fits_mul h).1, (fits_mul h).2⟩

end Go.Proofs.Ythmiadbeiggmlaa
