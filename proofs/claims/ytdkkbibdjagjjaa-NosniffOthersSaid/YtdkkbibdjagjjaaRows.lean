/-
  No cell of these rows narrows 'for every input' (looked for: loops, veiled, ifaces, maps, wideKeys, modest, calm, conditions, laid).
  DERIVED. THE GIVEN ROWS OF THIS SEAT. 3 by the template 'for every input the law returns true; each argument reads behind the call as it read before'; 0 by the template 'total and deterministic' (their statements: YtdkkbibdjagjjaaTotals.lean).
  GIVEN WITH THE SEED: the statements are not yours to turn. If you find one false, say at which input.
  Laid BY PROGRAM, IN A SANDBOX (cutbox-rows.mjs): the forced cells as the released guide's own fill.sh prints them over the translation e3db984b7a028707… (all of the seat's roots in one cut). By AI agents, Wed Nov 11 2026. No macro, syntax, notation, axiom, sorry.
-/
import Derived.Test.YtdkkbibdjagjjaaChecked
import GoSem.Claim
import GoSem.ClaimJoined
import GoSem.ClaimMapViews
import Derived.JoinedTies
import Derived.KernelRfl
namespace Go.Proofs.Ytdkkbibdjagjjaa
/- THE CELL 'sum', in the pinned program and in every row, IS THE sha256 OF THE DUMP (.gsa) THAT YtdkkbibdjagjjaaProg.lean LOADS. Nothing in Lean hashes anything: it is a label: what it is worth is what the hold of that sum in a sandbox is worth. -/
noncomputable def Try.pinned : Pinned := { name := "ytdkkbibdjagjjaa", sum := "e3db984b7a028707d9720a60e0a68a9a6aa0c206cdb5f8b743d1da6037799923", checked := Try.checked }
namespace Rows
def none {H : Type} : Left H := { results := [], args := [] }

/-- 'tidegatelaw23.NosniffTells': WHATEVER THE INPUT: true; the input reads as it did. -/
def nosniffTellsSpec : ChangeSpec := { name := "nosniffTells", fn := fun _ => fun
  | [d] => { results := [.lit (.bool true)], args := [d] }
  | _ => none }
def nosniffTellsRow : OpenClaim := { program := "ytdkkbibdjagjjaa", sum := "e3db984b7a028707d9720a60e0a68a9a6aa0c206cdb5f8b743d1da6037799923", func := "tidegate/tidegatelaw23.NosniffTells", spec := "nosniffTells", inPlace := ["internal/abi.NoEscape", "internal/bytealg.MakeNoZero", "internal/bytealg.IndexByteString"], unfollowed := true, recurses := true, apart := false }
def NosniffTellsSaid : Prop := nosniffTellsRow.holds Try.pinned (OpenSpec.ofChange nosniffTellsSpec)

/-- ITS FALSE NEIGHBOUR: 'it returns false'. Refute it at one input. -/
def nosniffTellsWrong : ChangeSpec := { name := "nosniffTells", fn := fun _ => fun
  | [d] => { results := [.lit (.bool false)], args := [d] }
  | _ => none }
def NosniffTellsWrongFalsely : Prop := nosniffTellsRow.holds Try.pinned (OpenSpec.ofChange nosniffTellsWrong)

/-- 'tidegatelaw11.CombineSteps': WHATEVER THE INPUT: true; the input reads as it did. -/
def combineStepsSpec : ChangeSpec := { name := "combineSteps", fn := fun _ => fun
  | [d1, d2, d3] => { results := [.lit (.bool true)], args := [d1, d2, d3] }
  | _ => none }
def combineStepsRow : OpenClaim := { program := "ytdkkbibdjagjjaa", sum := "e3db984b7a028707d9720a60e0a68a9a6aa0c206cdb5f8b743d1da6037799923", func := "tidegate/tidegatelaw11.CombineSteps", spec := "combineSteps", inPlace := ["internal/bytealg.IndexByteString", "internal/abi.NoEscape", "internal/bytealg.MakeNoZero"], unfollowed := true, recurses := true, apart := false }
def CombineStepsSaid : Prop := combineStepsRow.holds Try.pinned (OpenSpec.ofChange combineStepsSpec)

/-- ITS FALSE NEIGHBOUR: 'it returns false'. Refute it at one input. -/
def combineStepsWrong : ChangeSpec := { name := "combineSteps", fn := fun _ => fun
  | [d1, d2, d3] => { results := [.lit (.bool false)], args := [d1, d2, d3] }
  | _ => none }
def CombineStepsWrongFalsely : Prop := combineStepsRow.holds Try.pinned (OpenSpec.ofChange combineStepsWrong)

/-- 'tidegatelaw23.NosniffOthers': WHATEVER THE INPUT: true; the input reads as it did. -/
def nosniffOthersSpec : ChangeSpec := { name := "nosniffOthers", fn := fun _ => fun
  | [d1, d2] => { results := [.lit (.bool true)], args := [d1, d2] }
  | _ => none }
def nosniffOthersRow : OpenClaim := { program := "ytdkkbibdjagjjaa", sum := "e3db984b7a028707d9720a60e0a68a9a6aa0c206cdb5f8b743d1da6037799923", func := "tidegate/tidegatelaw23.NosniffOthers", spec := "nosniffOthers", inPlace := ["internal/abi.NoEscape", "internal/bytealg.MakeNoZero", "internal/bytealg.IndexByteString"], unfollowed := true, recurses := true, apart := false }
def NosniffOthersSaid : Prop := nosniffOthersRow.holds Try.pinned (OpenSpec.ofChange nosniffOthersSpec)

/-- ITS FALSE NEIGHBOUR: 'it returns false'. Refute it at one input. -/
def nosniffOthersWrong : ChangeSpec := { name := "nosniffOthers", fn := fun _ => fun
  | [d1, d2] => { results := [.lit (.bool false)], args := [d1, d2] }
  | _ => none }
def NosniffOthersWrongFalsely : Prop := nosniffOthersRow.holds Try.pinned (OpenSpec.ofChange nosniffOthersWrong)

/- THE SECOND FORM. 'bulk': how many values and letters a reading holds, each counted each time it is reached (what is shared counts as often as it is met; a slice's spare places count too). A statement '..UptoSaid' is the law's where the arguments, and the package variables that the reading takes, are together of bulk at most 1048576: NARROWER than '..Said'. Prove '..Said' where nothing that the law and all that it calls make is longer than what came in: it says more and counts as full. Else prove '..UptoSaid'. A law counts once. -/
mutual
def uptoBulk {H : Type} : DataW H → Nat
  | .lit (.string bytes) => bytes.length + 1
  | .lit _ => 1
  | .nil => 1
  | .ptr d => uptoBulk d + 1
  | .slice elems spare => uptoBulkAll elems + uptoBulkAll spare + 1
  | .agg parts => uptoBulkAll parts + 1
  | .iface _ d => uptoBulk d + 1
  | .map entries => uptoBulkEntries entries + 1
  | .held _ => 1
def uptoBulkAll {H : Type} : List (DataW H) → Nat
  | [] => 0
  | d :: r => uptoBulk d + uptoBulkAll r
def uptoBulkEntries {H : Type} : List (Lit × DataW H) → Nat
  | [] => 0
  | x :: r => uptoBulkEntry x + uptoBulkEntries r
def uptoBulkEntry {H : Type} : Lit × DataW H → Nat
  | (.string bytes, d) => bytes.length + uptoBulk d + 1
  | (_, d) => uptoBulk d + 1
 end
def uptoSmall : (H : Type) → List (DataW H) → Bool := fun _ ds => decide (uptoBulkAll ds ≤ 1048576)
def OpenSpec.upto (s : _root_.Go.ChangeSpec) : _root_.Go.OpenSpec := { _root_.Go.OpenSpec.ofChange s with cond := some uptoSmall }

/-- 'tidegatelaw23.NosniffTells', WHERE WHAT IT READS IS OF BULK AT MOST 1048576: true; the input reads as it did. -/
def nosniffTellsUptoRow : OpenClaim := { program := "ytdkkbibdjagjjaa", sum := "e3db984b7a028707d9720a60e0a68a9a6aa0c206cdb5f8b743d1da6037799923", func := "tidegate/tidegatelaw23.NosniffTells", spec := "nosniffTells", inPlace := ["internal/abi.NoEscape", "internal/bytealg.MakeNoZero", "internal/bytealg.IndexByteString"], unfollowed := true, recurses := true, apart := false, narrowed := true }
def NosniffTellsUptoSaid : Prop := nosniffTellsUptoRow.holds Try.pinned (OpenSpec.upto nosniffTellsSpec)

/-- 'tidegatelaw11.CombineSteps', WHERE WHAT IT READS IS OF BULK AT MOST 1048576: true; the input reads as it did. -/
def combineStepsUptoRow : OpenClaim := { program := "ytdkkbibdjagjjaa", sum := "e3db984b7a028707d9720a60e0a68a9a6aa0c206cdb5f8b743d1da6037799923", func := "tidegate/tidegatelaw11.CombineSteps", spec := "combineSteps", inPlace := ["internal/bytealg.IndexByteString", "internal/abi.NoEscape", "internal/bytealg.MakeNoZero"], unfollowed := true, recurses := true, apart := false, narrowed := true }
def CombineStepsUptoSaid : Prop := combineStepsUptoRow.holds Try.pinned (OpenSpec.upto combineStepsSpec)

/-- 'tidegatelaw23.NosniffOthers', WHERE WHAT IT READS IS OF BULK AT MOST 1048576: true; the input reads as it did. -/
def nosniffOthersUptoRow : OpenClaim := { program := "ytdkkbibdjagjjaa", sum := "e3db984b7a028707d9720a60e0a68a9a6aa0c206cdb5f8b743d1da6037799923", func := "tidegate/tidegatelaw23.NosniffOthers", spec := "nosniffOthers", inPlace := ["internal/abi.NoEscape", "internal/bytealg.MakeNoZero", "internal/bytealg.IndexByteString"], unfollowed := true, recurses := true, apart := false, narrowed := true }
def NosniffOthersUptoSaid : Prop := nosniffOthersUptoRow.holds Try.pinned (OpenSpec.upto nosniffOthersSpec)

end Rows
end Go.Proofs.Ytdkkbibdjagjjaa
