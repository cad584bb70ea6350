/-
  Walks of package class and its reference: the functions on texts.
-/
import Derived.Test.YtigclegknofhmaaDoorClassA
import Derived.Test.YtigclegknofhmaaDoorBytesMem
import Derived.Test.YtigclegknofhmaaDoorTextsPlain
import Derived.Laws.IdiomStrings
import Derived.Conc.MuLone
import Derived.Deep.QuietTactic
import Derived.BigQuiet
namespace Go.Proofs.YtigclegknofhmaaDoor
open Go.RowKit
set_option linter.unusedSimpArgs false
set_option linter.unusedVariables false

theorem Cut_any (s : ByteArray) (n : Nat) (w : World) (hs : s.size ≤ maxLen) (hn : (n : Int) ≤ 100000) :
    Calls Tryd.prog 41 #[.string s, .int .i64 n] w fun e w' => e = .returned (.string (cutB s n)) ∧ w = w' := by
  unfold maxLen at hs
  unfold cutB
  by_cases h : n < s.size
  · rw [if_pos h]
    go_enter Tryd.func41, Tryd.ntmps41
    go_wp2
    go_ret
    exact ⟨rfl, rfl⟩
  · rw [if_neg h]
    go_enter Tryd.func41, Tryd.ntmps41
    go_wp2
    go_ret
    exact ⟨rfl, rfl⟩

theorem Cut_100 (s : ByteArray) (w : World) (hs : s.size ≤ maxLen) :
    Calls Tryd.prog 41 #[.string s, .int .i64 100] w fun e w' => e = .returned (.string (cutB s 100)) ∧ w = w' :=
  Cut_any s 100 w hs (by decide)

/-- Function K asks a byte whether p holds of it, and turns nothing. -/
def FnPure (K : FuncId) (p : UInt8 → Bool) : Prop :=
  (∀ (args : Array Value) (w : World), (callFunc K args).run Tryd.prog w = .ok (.enter K args) w) ∧
    ∀ (b : UInt8) (w : World), Calls Tryd.prog K #[.int .u8 b.toNat] w fun e w' => e = .returned (.bool (p b)) ∧ w = w'

theorem fnDigit : FnPure 64 isDigit :=
  ⟨fun args w => MuLone.run_callFunc_enter Tryd.func64 (by kernel_rfl) rfl args w, Digit_any⟩

end Go.Proofs.YtigclegknofhmaaDoor
