/-
  The plain law of a status's text: it is read as it was.
-/
import Derived.Test.YtjlemghmpnkncaaDoorStatPlain
import Derived.Test.YtjlemghmpnkncaaDoorDecimalTP
namespace Go.Proofs.YtjlemghmpnkncaaDoor
open Go.RowKit
set_option linter.unusedSimpArgs false
set_option linter.unusedVariables false

/-- A digit's byte. -/
def dg (n : Nat) : UInt8 := UInt8.ofNat (48 + n)

theorem dg_digit : ∀ n : Fin 10, isDigit (dg n.val) = true ∧ ((dg n.val).toNat : Int) - 48 = n.val := by decide +kernel

theorem dec_one : ∀ n : Fin 10, Lib.decDigits n.val = [dg n.val] := by decide +kernel

theorem dec_three : ∀ n : Fin 1000, 100 ≤ n.val → Lib.decDigits n.val = [dg (n.val / 100), dg (n.val / 10 % 10), dg (n.val % 10)] := by decide +kernel

/-- A good status's text. -/
def lineL (a b c : Nat) (r : List UInt8) : List UInt8 :=
  72 :: 84 :: 84 :: 80 :: 47 :: dg a :: 46 :: dg b :: 32 :: dg (c / 100) :: dg (c / 10 % 10) :: dg (c % 10) :: (if r = [] then [] else 32 :: r)

theorem line_back (a b c : Nat) (r : List UInt8) (ha : a ≤ 9) (hb : b ≤ 9) (hc : 100 ≤ c) (hc2 : c ≤ 999) (hr : reasonB ⟨r.toArray⟩ = true) :
    refR ⟨(lineL a b c r).toArray⟩ = some ((a : Int), (b : Int), (c : Int), r) := by
  have hL : (⟨(lineL a b c r).toArray⟩ : ByteArray).data.toList = lineL a b c r := by simp
  have da := dg_digit ⟨a, by omega⟩
  have db := dg_digit ⟨b, by omega⟩
  have d1 := dg_digit ⟨c / 100, by omega⟩
  have d2 := dg_digit ⟨c / 10 % 10, by omega⟩
  have d3 := dg_digit ⟨c % 10, by omega⟩
  simp only at da db d1 d2 d3
  have hh : headOk ⟨(lineL a b c r).toArray⟩ = true := by
    unfold headOk prefB Lib.hasPrefix
    rw [Lib.size_eq, hL]
    unfold lineL
    simp [headT, List.isPrefixOf, da.1, db.1]
  have h48 : dg (c / 100) ≠ 48 := fun e => by
    have := d1.2
    rw [e] at this
    have h2 : ((48 : UInt8).toNat : Int) = 48 := rfl
    omega
  have h32 : (dg (c / 100) == 32) = false := by
    rw [beq_eq_false_iff_ne]
    intro e
    rw [e] at d1
    exact absurd d1.1 (by decide)
  have hz : r.length = (⟨r.toArray⟩ : ByteArray).size := by simp [Lib.size_eq]
  unfold reasonB at hr
  rw [Bool.and_eq_true] at hr
  have hq : quoL r = true := by simpa using hr.2
  have hhd : ∀ x l, r = x :: l → isTab x = false := by
    intro x l e
    subst e
    have hpos : 0 < (⟨(x :: l).toArray⟩ : ByteArray).size := by rw [← hz]; simp
    have h1 := hr.1
    rw [dif_pos hpos] at h1
    have hx : (⟨(x :: l).toArray⟩ : ByteArray)[0] = x := rfl
    rw [hx] at h1
    simp at h1
    exact h1.1
  have htab : (if r = [] then [] else 32 :: r).dropWhile isTab = r := by
    cases r with
    | nil => rfl
    | cons x l =>
      rw [if_neg (by simp), List.dropWhile_cons, if_pos (by decide), List.dropWhile_cons, if_neg (by rw [hhd x l rfl]; simp)]
  unfold refR
  rw [if_pos hh, hL]
  have hd : (lineL a b c r).drop 8 = 32 :: dg (c / 100) :: dg (c / 10 % 10) :: dg (c % 10) :: (if r = [] then [] else 32 :: r) := rfl
  rw [hd, List.dropWhile_cons, if_pos (by decide), List.dropWhile_cons, if_neg (by rw [h32]; simp)]
  unfold refS
  rw [if_neg (by rw [run_three, d1.1, d2.1, d3.1]; simp)]
  show (if dg (c / 100) = 48 then none else if (if r = [] then [] else 32 :: r) ≠ [] ∧ (if r = [] then [] else 32 :: r).getD 0 0 ≠ 32 then none else if quoL ((if r = [] then [] else 32 :: r).dropWhile isTab) = false then none else some ((((dg a).toNat : Int) - 48), (((dg b).toNat : Int) - 48), (100 : Int) * (((dg (c / 100)).toNat : Int) - 48) + (10 : Int) * (((dg (c / 10 % 10)).toNat : Int) - 48) + (((dg (c % 10)).toNat : Int) - 48), (if r = [] then [] else 32 :: r).dropWhile isTab)) = _
  rw [if_neg h48, htab, da.2, db.2, d1.2, d2.2, d3.2, hq]
  rw [if_neg (by
    rintro ⟨h1, h2⟩
    by_cases h : r = []
    · rw [if_pos h] at h1; exact h1 rfl
    · rw [if_neg h] at h2; exact h2 rfl), if_neg (by simp)]
  have hn : (100 : Int) * ((c / 100 : Nat) : Int) + (10 : Int) * ((c / 10 % 10 : Nat) : Int) + ((c % 10 : Nat) : Int) = c := by omega
  rw [hn]

end Go.Proofs.YtjlemghmpnkncaaDoor
