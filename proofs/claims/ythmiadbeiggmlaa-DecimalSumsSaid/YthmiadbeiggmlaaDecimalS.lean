/-
  Walks of package decimal: sums and products.
-/
import Derived.Test.YthmiadbeiggmlaaLive05
import Derived.Test.YthmiadbeiggmlaaShelf
import Derived.Deep.DeepCutAuto
namespace Go.Proofs.Ythmiadbeiggmlaa
open Go.RowKit
set_option linter.unusedSimpArgs false
set_option linter.unusedVariables false

/-- A number is not too far from 0. -/
def inB (n : Int) : Bool := decide (-9007199254740991 ≤ n) && decide (n ≤ 9007199254740991)

/-- A number is one of 64 bits. -/
def I64 (n : Int) : Prop := -9223372036854775808 ≤ n ∧ n ≤ 9223372036854775807

theorem inB_true {n : Int} (h : inB n = true) : -9007199254740991 ≤ n ∧ n ≤ 9007199254740991 := by
  unfold inB at h; rw [Bool.and_eq_true, decide_eq_true_eq, decide_eq_true_eq] at h; exact h

theorem inB_mk {n : Int} (h1 : -9007199254740991 ≤ n) (h2 : n ≤ 9007199254740991) : inB n = true := by
  unfold inB; rw [decide_eq_true h1, decide_eq_true h2]; rfl

theorem in_any (n : Int) (w : World) : Calls Try.prog 51 #[.int .i64 n] w fun e w' => e = .returned (.bool (inB n)) ∧ w = w' := by
  unfold inB
  by_cases h1 : -9007199254740991 ≤ n
  · by_cases h2 : n ≤ 9007199254740991
    · go_enter Try.func51, Try.ntmps51
      go_wp2
      go_ret
      exact ⟨ret_bool (by simp [*]), rfl⟩
    · go_enter Try.func51, Try.ntmps51
      go_wp2
      go_ret
      exact ⟨ret_bool (by simp [*]), rfl⟩
  · go_enter Try.func51, Try.ntmps51
    go_wp2
    go_ret
    exact ⟨ret_bool (by simp; omega), rfl⟩

theorem rIn_any (n : Int) (w : World) : Calls Try.prog 17 #[.int .i64 n] w fun e w' => e = .returned (.bool (inB n)) ∧ w = w' := by
  unfold inB
  by_cases h1 : -9007199254740991 ≤ n
  · by_cases h2 : n ≤ 9007199254740991
    · go_enter Try.func17, Try.ntmps17
      go_wp2
      go_ret
      exact ⟨ret_bool (by simp [*]), rfl⟩
    · go_enter Try.func17, Try.ntmps17
      go_wp2
      go_ret
      exact ⟨ret_bool (by simp [*]), rfl⟩
  · go_enter Try.func17, Try.ntmps17
    go_wp2
    go_ret
    exact ⟨ret_bool (by simp; omega), rfl⟩

theorem size_any (n : Int) (w : World) (h : inB n = true) : Calls Try.prog 53 #[.int .i64 n] w fun e w' => e = .returned (.int .u64 (n.natAbs : Int)) ∧ w = w' := by
  obtain ⟨h1, h2⟩ := inB_true h
  clear h
  by_cases h0 : n < 0
  · go_enter Try.func53, Try.ntmps53
    go_wp2
    go_ret
    exact ⟨ret_int (by omega), rfl⟩
  · go_enter Try.func53, Try.ntmps53
    go_wp2
    go_ret
    exact ⟨ret_int (by omega), rfl⟩

/-- A product is not too far from 0. -/
def fitsB (a b : Int) : Bool := decide (a.natAbs * b.natAbs ≤ 9007199254740991)

theorem fits_mul {a b : Int} (h : fitsB a b = true) : -9007199254740991 ≤ a * b ∧ a * b ≤ 9007199254740991 := by
  unfold fitsB at h
  rw [decide_eq_true_eq, ← Int.natAbs_mul] at h
  omega

theorem Clamp_any (n a b : Int) (w : World) : Calls Try.prog 16 #[.int .i64 n, .int .i64 a, .int .i64 b] w fun e w' => e = .returned (.int .i64 (if n < a then a else if b < n then b else n)) ∧ w = w' := by
  by_cases h1 : n < a
  · rw [if_pos h1]
    go_enter Try.func16, Try.ntmps16
    go_wp2
    go_ret
    exact ⟨rfl, rfl⟩
  · rw [if_neg h1]
    by_cases h2 : b < n
    · rw [if_pos h2]
      go_enter Try.func16, Try.ntmps16
      go_wp2
      go_ret
      exact ⟨rfl, rfl⟩
    · rw [if_neg h2]
      go_enter Try.func16, Try.ntmps16
      go_wp2
      go_ret
      exact ⟨rfl, rfl⟩

/-- The sum, if there is one. -/
def addB (a b : Int) : Bool := inB a && inB b && inB (a + b)

theorem Add_any (a b : Int) (w : World) (ha : I64 a) (hb : I64 b) : Calls Try.prog 14 #[.int .i64 a, .int .i64 b] w fun e w' => e = .returned (.tuple #[.int .i64 (if addB a b = true then a + b else 0), .bool (addB a b)]) ∧ w = w' := by
  have A := Lib.hid in_any
  unfold addB
  have HA := Lib.hid (fun w => in_any a w)
  have HB := Lib.hid (fun w => in_any b w)
  cases h1 : inB a
  · rw [h1] at HA
    go_enter Try.func14, Try.ntmps14
    go_wp2_with (first | (go_at_call 51; (with_reducible refine (HA.out _).mono ?_); rintro e w' ⟨rfl, rfl⟩))
    go_ret2
    exact ⟨rfl, rfl⟩
  · rw [h1] at HA
    have b1 := inB_true h1
    cases h2 : inB b
    · rw [h2] at HB
      go_enter Try.func14, Try.ntmps14
      go_wp2_with (first | (go_at_call 51; (with_reducible refine (HA.out _).mono ?_); rintro e w' ⟨rfl, rfl⟩) | (go_at_call 51; (with_reducible refine (HB.out _).mono ?_); rintro e w' ⟨rfl, rfl⟩))
      go_ret2
      exact ⟨rfl, rfl⟩
    · rw [h2] at HB
      have b2 := inB_true h2
      have HC := Lib.hid (fun w => in_any (a + b) w)
      obtain ⟨b3, b4⟩ := b1
      obtain ⟨b5, b6⟩ := b2
      cases h3 : inB (a + b)
      · rw [h3] at HC
        clear h1 h2 h3
        go_enter Try.func14, Try.ntmps14
        go_wp2_with (first | (go_at_call 51; (with_reducible refine (HA.out _).mono ?_); rintro e w' ⟨rfl, rfl⟩) | (go_at_call 51; (with_reducible refine (HB.out _).mono ?_); rintro e w' ⟨rfl, rfl⟩) | (go_at_call 51; (with_reducible refine (HC.out _).mono ?_); rintro e w' ⟨rfl, rfl⟩))
        go_ret2
        exact ⟨rfl, rfl⟩
      · rw [h3] at HC
        clear h1 h2 h3
        go_enter Try.func14, Try.ntmps14
        go_wp2_with (first | (go_at_call 51; (with_reducible refine (HA.out _).mono ?_); rintro e w' ⟨rfl, rfl⟩) | (go_at_call 51; (with_reducible refine (HB.out _).mono ?_); rintro e w' ⟨rfl, rfl⟩) | (go_at_call 51; (with_reducible refine (HC.out _).mono ?_); rintro e w' ⟨rfl, rfl⟩))
        go_ret2
        exact ⟨rfl, rfl⟩

/-- The product, if there is one. -/
def mulB (a b : Int) : Bool := inB a && inB b && fitsB a b

theorem natAbs_le {a : Int} (h : inB a = true) : a.natAbs ≤ 9007199254740991 := by
  have := inB_true h; omega

theorem Times_any (a b : Int) (w : World) (ha : I64 a) (hb : I64 b) : Calls Try.prog 15 #[.int .i64 a, .int .i64 b] w fun e w' => e = .returned (.tuple #[.int .i64 (if mulB a b = true then a * b else 0), .bool (mulB a b)]) ∧ w = w' := by
  unfold mulB
  have HA := Lib.hid (fun w => in_any a w)
  have HB := Lib.hid (fun w => in_any b w)
  cases h1 : inB a
  · rw [h1] at HA
    go_enter Try.func15, Try.ntmps15
    go_wp2_with (first | (go_at_call 51; (with_reducible refine (HA.out _).mono ?_); rintro e w' ⟨rfl, rfl⟩))
    go_ret2
    exact ⟨rfl, rfl⟩
  · rw [h1] at HA
    cases h2 : inB b
    · rw [h2] at HB
      go_enter Try.func15, Try.ntmps15
      go_wp2_with (first | (go_at_call 51; (with_reducible refine (HA.out _).mono ?_); rintro e w' ⟨rfl, rfl⟩) | (go_at_call 51; (with_reducible refine (HB.out _).mono ?_); rintro e w' ⟨rfl, rfl⟩))
      go_ret2
      exact ⟨rfl, rfl⟩
    · rw [h2] at HB
      have S1 := Lib.hid (fun w => size_any a w h1)
      have S2 := Lib.hid (fun w => size_any b w h2)
      have n1 := natAbs_le h1
      have n2 := natAbs_le h2
      have hm := fits_mul (a := a) (b := b)
      have hp : a.natAbs * b.natAbs ≤ 9007199254740991 * 9007199254740991 := Nat.mul_le_mul n1 n2
      have CM : Hid (∀ w : World, Calls Try.prog 52 #[.int .u64 (a.natAbs : Int), .int .u64 (b.natAbs : Int)] w fun e w' => e = .returned (.tuple #[.int .u64 ((a.natAbs * b.natAbs / 18446744073709551616 : Nat) : Int), .int .u64 ((a.natAbs * b.natAbs % 18446744073709551616 : Nat) : Int)]) ∧ w = w') := Lib.hid (fun w => by
        have := Try.bits_Mul64 a.natAbs b.natAbs (by omega) (by omega) w
        exact this.mono fun e w' ⟨he, hw⟩ => ⟨he, hw.symm⟩)
      unfold fitsB at hm ⊢
      generalize a.natAbs = x at *
      generalize b.natAbs = y at *
      generalize x * y = p at *
      by_cases hf : p ≤ 9007199254740991
      · rw [show p / 18446744073709551616 = 0 by omega, show p % 18446744073709551616 = p by omega] at CM
        rw [decide_eq_true hf] at hm ⊢
        obtain ⟨m1, m2⟩ := hm rfl
        clear h1 h2 n1 n2 hp hm
        generalize hab : a * b = ab at *
        have HAB := Lib.hid hab
        clear hab
        go_enter Try.func15, Try.ntmps15
        go_upto_region 6 with (first | (go_at_call 51; (with_reducible refine (HA.out _).mono ?_); rintro e w' ⟨rfl, rfl⟩) | (go_at_call 51; (with_reducible refine (HB.out _).mono ?_); rintro e w' ⟨rfl, rfl⟩) | (go_at_call 53; (with_reducible refine (S1.out _).mono ?_); rintro e w' ⟨rfl, rfl⟩) | (go_at_call 53; (with_reducible refine (S2.out _).mono ?_); rintro e w' ⟨rfl, rfl⟩) | (go_at_call 52; (with_reducible refine (CM.out _).mono ?_); rintro e w' ⟨rfl, rfl⟩))
        have hab := HAB.out
        subst hab
        go_wp2_with fail
        go_ret2
        exact ⟨rfl, rfl⟩
      · rw [decide_eq_false hf] at hm ⊢
        clear h1 h2 hm n1 n2
        by_cases hq : p / 18446744073709551616 = 0
        · have hlow : 9007199254740991 < p % 18446744073709551616 := by omega
          rw [hq] at CM
          clear hq hf hp
          generalize p % 18446744073709551616 = l at *
          go_enter Try.func15, Try.ntmps15
          go_wp2_with (first | (go_at_call 51; (with_reducible refine (HA.out _).mono ?_); rintro e w' ⟨rfl, rfl⟩) | (go_at_call 51; (with_reducible refine (HB.out _).mono ?_); rintro e w' ⟨rfl, rfl⟩) | (go_at_call 53; (with_reducible refine (S1.out _).mono ?_); rintro e w' ⟨rfl, rfl⟩) | (go_at_call 53; (with_reducible refine (S2.out _).mono ?_); rintro e w' ⟨rfl, rfl⟩) | (go_at_call 52; (with_reducible refine (CM.out _).mono ?_); rintro e w' ⟨rfl, rfl⟩))
          go_ret2
          exact ⟨rfl, rfl⟩
        · generalize p / 18446744073709551616 = q at *
          generalize p % 18446744073709551616 = l at *
          clear hf hp
          go_enter Try.func15, Try.ntmps15
          go_wp2_with (first | (go_at_call 51; (with_reducible refine (HA.out _).mono ?_); rintro e w' ⟨rfl, rfl⟩) | (go_at_call 51; (with_reducible refine (HB.out _).mono ?_); rintro e w' ⟨rfl, rfl⟩) | (go_at_call 53; (with_reducible refine (S1.out _).mono ?_); rintro e w' ⟨rfl, rfl⟩) | (go_at_call 53; (with_reducible refine (S2.out _).mono ?_); rintro e w' ⟨rfl, rfl⟩) | (go_at_call 52; (with_reducible refine (CM.out _).mono ?_); rintro e w' ⟨rfl, rfl⟩))
          go_ret2
          exact ⟨rfl, rfl⟩

theorem fits_div (x y : Nat) (hy : y ≠ 0) : decide (x * y ≤ 9007199254740991) = decide (x ≤ 9007199254740991 / y) := by
  rw [decide_eq_decide, Nat.le_div_iff_mul_le (Nat.pos_of_ne_zero hy)]

set_option maxRecDepth 20000 in
theorem rFits_any (a b : Int) (w : World) (ha : inB a = true) (hb : inB b = true) : Calls Try.prog 19 #[.int .i64 a, .int .i64 b] w fun e w' => e = .returned (.bool (fitsB a b)) ∧ w = w' := by
  obtain ⟨a1, a2⟩ := inB_true ha
  obtain ⟨b1, b2⟩ := inB_true hb
  clear ha hb
  unfold fitsB
  by_cases hb0 : b = 0
  · subst hb0
    by_cases h1 : a < 0
    · go_enter Try.func19, Try.ntmps19
      go_wp2
      go_ret
      exact ⟨ret_bool (by simp), rfl⟩
    · go_enter Try.func19, Try.ntmps19
      go_wp2
      go_ret
      exact ⟨ret_bool (by simp), rfl⟩
  · obtain ⟨x, hx⟩ : ∃ x : Nat, a.natAbs = x := ⟨_, rfl⟩
    obtain ⟨y, hy⟩ : ∃ y : Nat, b.natAbs = y := ⟨_, rfl⟩
    have hF := fits_div x y (by omega)
    rw [hx, hy, hF]
    have HQ : Hid ((9007199254740991 : Int) / (y : Int) = ((9007199254740991 / y : Nat) : Int)) := Lib.hid rfl
    have hy0 : 0 < (y : Int) := by omega
    clear hF
    have ea : a = (x : Int) ∨ (a = -(x : Int) ∧ 0 < (x : Int)) := by omega
    have eb : b = (y : Int) ∨ b = -(y : Int) := by omega
    clear hx hy hb0
    rcases ea with rfl | ⟨rfl, hx0⟩ <;> rcases eb with rfl | rfl
    all_goals
      go_enter Try.func19, Try.ntmps19
      go_wp2
      go_ret
      refine ⟨ret_bool ?_, rfl⟩
      show (((y : Int) == 0) || decide ((x : Int) ≤ (9007199254740991 : Int) / (y : Int))) = _
      rw [beq_eq_false_iff_ne.2 (by omega : (y : Int) ≠ 0), Bool.false_or]
      rw [HQ.out]
      exact decide_eq_decide.2 (by omega)

end Go.Proofs.Ythmiadbeiggmlaa
