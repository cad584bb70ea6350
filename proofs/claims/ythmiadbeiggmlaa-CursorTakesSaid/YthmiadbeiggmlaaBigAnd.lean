/-
  In plain Lean: the last two bits of a number.
-/
import Derived.Test.YthmiadbeiggmlaaBase
import Derived.IntWalk
namespace Go.Proofs.Ythmiadbeiggmlaa
set_option linter.unusedSimpArgs false
set_option linter.unusedVariables false

theorem and_three (x : Int) : bits .and .i64 x 3 = 0 ∨ bits .and .i64 x 3 = 1 ∨ bits .and .i64 x 3 = 2 ∨ bits .and .i64 x 3 = 3 := by
  have h : (BitVec.ofInt 64 x &&& BitVec.ofInt 64 3).toNat < 4 := by
    rw [BitVec.toNat_and]
    have : (BitVec.ofInt 64 3).toNat = 3 := by decide
    rw [this]
    exact Nat.lt_of_le_of_lt Nat.and_le_right (by decide)
  have e : bits .and .i64 x 3 = IntKind.i64.wrap ((BitVec.ofInt 64 x &&& BitVec.ofInt 64 3).toNat : Int) := rfl
  rw [e, IntWalk.i64_in _ (by omega)]
  omega

end Go.Proofs.Ythmiadbeiggmlaa
