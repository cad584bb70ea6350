/-
  No cell of these rows narrows 'for every input' (looked for: loops, veiled, ifaces, maps, wideKeys, modest, calm, conditions, laid).
  DERIVED. THE GIVEN ROWS OF THIS SEAT. 3 by the template 'for every input the law returns true; each argument reads behind the call as it read before'; 0 by the template 'total and deterministic' (their statements: YtdkkbibdjagjjaaGreatTotals.lean).
  GIVEN WITH THE SEED: the statements are not yours to turn. If you find one false, say at which input.
  Laid BY PROGRAM, IN A SANDBOX (cutbox-rows.mjs): the forced cells as the released guide's own fill.sh prints them over the translation 0a2dc6ed12c13509… (all of the seat's roots in one cut). By AI agents, Wed Nov 11 2026. No macro, syntax, notation, axiom, sorry.
-/
import Derived.Test.YtdkkbibdjagjjaaGreatChecked
import GoSem.Claim
import GoSem.ClaimJoined
import GoSem.ClaimMapViews
import Derived.JoinedTies
import Derived.KernelRfl
namespace Go.Proofs.YtdkkbibdjagjjaaGreat
/- THE CELL 'sum', in the pinned program and in every row, IS THE sha256 OF THE DUMP (.gsa) THAT YtdkkbibdjagjjaaGreatProg.lean LOADS. Nothing in Lean hashes anything: it is a label: what it is worth is what the hold of that sum in a sandbox is worth. -/
noncomputable def Tryz.pinned : Pinned := { name := "ytdkkbibdjagjjaagreat", sum := "0a2dc6ed12c13509d86155cadae6ffa6fccedc5c4b8c2958cca9d9d128bb4afb", checked := Tryz.checked }
namespace Rows
def none {H : Type} : Left H := { results := [], args := [] }

/-- 'tidegatelaw11.CombineParts': WHATEVER THE INPUT: true; the input reads as it did. -/
def combinePartsSpec : ChangeSpec := { name := "combineParts", fn := fun _ => fun
  | [d] => { results := [.lit (.bool true)], args := [d] }
  | _ => none }
def combinePartsRow : OpenClaim := { program := "ytdkkbibdjagjjaagreat", sum := "0a2dc6ed12c13509d86155cadae6ffa6fccedc5c4b8c2958cca9d9d128bb4afb", func := "tidegate/tidegatelaw11.CombineParts", spec := "combineParts", inPlace := ["internal/abi.NoEscape", "internal/bytealg.MakeNoZero", "internal/bytealg.IndexByteString"], unfollowed := true, recurses := true, apart := false }
def CombinePartsSaid : Prop := combinePartsRow.holds Tryz.pinned (OpenSpec.ofChange combinePartsSpec)

/-- ITS FALSE NEIGHBOUR: 'it returns false'. Refute it at one input. -/
def combinePartsWrong : ChangeSpec := { name := "combineParts", fn := fun _ => fun
  | [d] => { results := [.lit (.bool false)], args := [d] }
  | _ => none }
def CombinePartsWrongFalsely : Prop := combinePartsRow.holds Tryz.pinned (OpenSpec.ofChange combinePartsWrong)

/-- 'tidegatelaw11.CombineExtracts': WHATEVER THE INPUT: true; the input reads as it did. -/
def combineExtractsSpec : ChangeSpec := { name := "combineExtracts", fn := fun _ => fun
  | [d] => { results := [.lit (.bool true)], args := [d] }
  | _ => none }
def combineExtractsRow : OpenClaim := { program := "ytdkkbibdjagjjaagreat", sum := "0a2dc6ed12c13509d86155cadae6ffa6fccedc5c4b8c2958cca9d9d128bb4afb", func := "tidegate/tidegatelaw11.CombineExtracts", spec := "combineExtracts", inPlace := ["internal/abi.NoEscape", "internal/bytealg.MakeNoZero", "internal/bytealg.IndexByteString"], unfollowed := true, recurses := true, apart := false }
def CombineExtractsSaid : Prop := combineExtractsRow.holds Tryz.pinned (OpenSpec.ofChange combineExtractsSpec)

/-- ITS FALSE NEIGHBOUR: 'it returns false'. Refute it at one input. -/
def combineExtractsWrong : ChangeSpec := { name := "combineExtracts", fn := fun _ => fun
  | [d] => { results := [.lit (.bool false)], args := [d] }
  | _ => none }
def CombineExtractsWrongFalsely : Prop := combineExtractsRow.holds Tryz.pinned (OpenSpec.ofChange combineExtractsWrong)

/-- 'tidegatelaw23.NosniffSaid': WHATEVER THE INPUT: true; the input reads as it did. -/
def nosniffSaidSpec : ChangeSpec := { name := "nosniffSaid", fn := fun _ => fun
  | [d] => { results := [.lit (.bool true)], args := [d] }
  | _ => none }
def nosniffSaidRow : OpenClaim := { program := "ytdkkbibdjagjjaagreat", sum := "0a2dc6ed12c13509d86155cadae6ffa6fccedc5c4b8c2958cca9d9d128bb4afb", func := "tidegate/tidegatelaw23.NosniffSaid", spec := "nosniffSaid", inPlace := ["internal/abi.NoEscape", "internal/bytealg.MakeNoZero", "internal/bytealg.IndexByteString"], unfollowed := true, recurses := true, apart := false }
def NosniffSaidSaid : Prop := nosniffSaidRow.holds Tryz.pinned (OpenSpec.ofChange nosniffSaidSpec)

/-- ITS FALSE NEIGHBOUR: 'it returns false'. Refute it at one input. -/
def nosniffSaidWrong : ChangeSpec := { name := "nosniffSaid", fn := fun _ => fun
  | [d] => { results := [.lit (.bool false)], args := [d] }
  | _ => none }
def NosniffSaidWrongFalsely : Prop := nosniffSaidRow.holds Tryz.pinned (OpenSpec.ofChange nosniffSaidWrong)

/- THE SECOND FORM. 'bulk': how many values and letters a reading holds, each counted each time it is reached (what is shared counts as often as it is met; a slice's spare places count too). A statement '..UptoSaid' is the law's where the arguments, and the package variables that the reading takes, are together of bulk at most 1048576: NARROWER than '..Said'. Prove '..Said' where nothing that the law and all that it calls make is longer than what came in: it says more and counts as full. Else prove '..UptoSaid'. A law counts once. -/
mutual
def uptoBulk {H : Type} : DataW H → Nat
  | .lit (.string bytes) => bytes.length + 1
  | .lit _ => 1
  | .nil => 1
  | .ptr d => uptoBulk d + 1
  | .slice elems spare => uptoBulkAll elems + uptoBulkAll spare + 1
  | .agg parts => uptoBulkAll parts + 1
  | .iface _ d => uptoBulk d + 1
  | .map entries => uptoBulkEntries entries + 1
  | .held _ => 1
def uptoBulkAll {H : Type} : List (DataW H) → Nat
  | [] => 0
  | d :: r => uptoBulk d + uptoBulkAll r
def uptoBulkEntries {H : Type} : List (Lit × DataW H) → Nat
  | [] => 0
  | x :: r => uptoBulkEntry x + uptoBulkEntries r
def uptoBulkEntry {H : Type} : Lit × DataW H → Nat
  | (.string bytes, d) => bytes.length + uptoBulk d + 1
  | (_, d) => uptoBulk d + 1
 end
def uptoSmall : (H : Type) → List (DataW H) → Bool := fun _ ds => decide (uptoBulkAll ds ≤ 1048576)
def OpenSpec.upto (s : _root_.Go.ChangeSpec) : _root_.Go.OpenSpec := { _root_.Go.OpenSpec.ofChange s with cond := some uptoSmall }

/-- 'tidegatelaw11.CombineParts', WHERE WHAT IT READS IS OF BULK AT MOST 1048576: true; the input reads as it did. -/
def combinePartsUptoRow : OpenClaim := { program := "ytdkkbibdjagjjaagreat", sum := "0a2dc6ed12c13509d86155cadae6ffa6fccedc5c4b8c2958cca9d9d128bb4afb", func := "tidegate/tidegatelaw11.CombineParts", spec := "combineParts", inPlace := ["internal/abi.NoEscape", "internal/bytealg.MakeNoZero", "internal/bytealg.IndexByteString"], unfollowed := true, recurses := true, apart := false, narrowed := true }
def CombinePartsUptoSaid : Prop := combinePartsUptoRow.holds Tryz.pinned (OpenSpec.upto combinePartsSpec)

/-- 'tidegatelaw11.CombineExtracts', WHERE WHAT IT READS IS OF BULK AT MOST 1048576: true; the input reads as it did. -/
def combineExtractsUptoRow : OpenClaim := { program := "ytdkkbibdjagjjaagreat", sum := "0a2dc6ed12c13509d86155cadae6ffa6fccedc5c4b8c2958cca9d9d128bb4afb", func := "tidegate/tidegatelaw11.CombineExtracts", spec := "combineExtracts", inPlace := ["internal/abi.NoEscape", "internal/bytealg.MakeNoZero", "internal/bytealg.IndexByteString"], unfollowed := true, recurses := true, apart := false, narrowed := true }
def CombineExtractsUptoSaid : Prop := combineExtractsUptoRow.holds Tryz.pinned (OpenSpec.upto combineExtractsSpec)

/-- 'tidegatelaw23.NosniffSaid', WHERE WHAT IT READS IS OF BULK AT MOST 1048576: true; the input reads as it did. -/
def nosniffSaidUptoRow : OpenClaim := { program := "ytdkkbibdjagjjaagreat", sum := "0a2dc6ed12c13509d86155cadae6ffa6fccedc5c4b8c2958cca9d9d128bb4afb", func := "tidegate/tidegatelaw23.NosniffSaid", spec := "nosniffSaid", inPlace := ["internal/abi.NoEscape", "internal/bytealg.MakeNoZero", "internal/bytealg.IndexByteString"], unfollowed := true, recurses := true, apart := false, narrowed := true }
def NosniffSaidUptoSaid : Prop := nosniffSaidUptoRow.holds Tryz.pinned (OpenSpec.upto nosniffSaidSpec)

end Rows
end Go.Proofs.YtdkkbibdjagjjaaGreat
