/-
  No cell of these rows narrows 'for every input' (looked for: loops, veiled, ifaces, maps, wideKeys, modest, calm, conditions, laid).
  DERIVED. THE GIVEN ROWS OF THIS SEAT. 5 by the template 'for every input the law returns true; each argument reads behind the call as it read before'; 0 by the template 'total and deterministic' (their statements: YtjlemghmpnkncaaTotals.lean).
  GIVEN WITH THE SEED: the statements are not yours to turn. If you find one false, say at which input.
  Laid BY PROGRAM, IN A SANDBOX (cutbox-rows.mjs): the forced cells as the released guide's own fill.sh prints them over the translation 992fb5b8027045dd… (all of the seat's roots in one cut). By AI agents, Wed Nov 11 2026. No macro, syntax, notation, axiom, sorry.
-/
import Derived.Test.YtjlemghmpnkncaaChecked
import GoSem.Claim
import GoSem.ClaimJoined
import GoSem.ClaimMapViews
import Derived.JoinedTies
import Derived.KernelRfl
namespace Go.Proofs.Ytjlemghmpnkncaa
/- THE CELL 'sum', in the pinned program and in every row, IS THE sha256 OF THE DUMP (.gsa) THAT YtjlemghmpnkncaaProg.lean LOADS. Nothing in Lean hashes anything: it is a label: what it is worth is what the hold of that sum in a sandbox is worth. -/
noncomputable def Try.pinned : Pinned := { name := "ytjlemghmpnkncaa", sum := "992fb5b8027045dd8900bd5f429b1e21795b11222da99fbfa4a6309c2c7e534c", checked := Try.checked }
namespace Rows
def none {H : Type} : Left H := { results := [], args := [] }

/-- 'tidegatelaw35.PartialLearns': WHATEVER THE INPUT: true; the input reads as it did. -/
def partialLearnsSpec : ChangeSpec := { name := "partialLearns", fn := fun _ => fun
  | [d1, d2, d3] => { results := [.lit (.bool true)], args := [d1, d2, d3] }
  | _ => none }
def partialLearnsRow : OpenClaim := { program := "ytjlemghmpnkncaa", sum := "992fb5b8027045dd8900bd5f429b1e21795b11222da99fbfa4a6309c2c7e534c", func := "tidegate/tidegatelaw35.PartialLearns", spec := "partialLearns", apart := false }
def PartialLearnsSaid : Prop := partialLearnsRow.holds Try.pinned (OpenSpec.ofChange partialLearnsSpec)

/-- ITS FALSE NEIGHBOUR: 'it returns false'. Refute it at one input. -/
def partialLearnsWrong : ChangeSpec := { name := "partialLearns", fn := fun _ => fun
  | [d1, d2, d3] => { results := [.lit (.bool false)], args := [d1, d2, d3] }
  | _ => none }
def PartialLearnsWrongFalsely : Prop := partialLearnsRow.holds Try.pinned (OpenSpec.ofChange partialLearnsWrong)

/-- 'tidegatelaw25.StatusReads': WHATEVER THE INPUT: true; the input reads as it did. -/
def statusReadsSpec : ChangeSpec := { name := "statusReads", fn := fun _ => fun
  | [d] => { results := [.lit (.bool true)], args := [d] }
  | _ => none }
def statusReadsRow : OpenClaim := { program := "ytjlemghmpnkncaa", sum := "992fb5b8027045dd8900bd5f429b1e21795b11222da99fbfa4a6309c2c7e534c", func := "tidegate/tidegatelaw25.StatusReads", spec := "statusReads", unfollowed := true, recurses := true, apart := false }
def StatusReadsSaid : Prop := statusReadsRow.holds Try.pinned (OpenSpec.ofChange statusReadsSpec)

/-- ITS FALSE NEIGHBOUR: 'it returns false'. Refute it at one input. -/
def statusReadsWrong : ChangeSpec := { name := "statusReads", fn := fun _ => fun
  | [d] => { results := [.lit (.bool false)], args := [d] }
  | _ => none }
def StatusReadsWrongFalsely : Prop := statusReadsRow.holds Try.pinned (OpenSpec.ofChange statusReadsWrong)

/-- 'tidegatelaw24.RangesFits': WHATEVER THE INPUT: true; the input reads as it did. -/
def rangesFitsSpec : ChangeSpec := { name := "rangesFits", fn := fun _ => fun
  | [d1, d2] => { results := [.lit (.bool true)], args := [d1, d2] }
  | _ => none }
def rangesFitsRow : OpenClaim := { program := "ytjlemghmpnkncaa", sum := "992fb5b8027045dd8900bd5f429b1e21795b11222da99fbfa4a6309c2c7e534c", func := "tidegate/tidegatelaw24.RangesFits", spec := "rangesFits", unfollowed := true, recurses := true, apart := false }
def RangesFitsSaid : Prop := rangesFitsRow.holds Try.pinned (OpenSpec.ofChange rangesFitsSpec)

/-- ITS FALSE NEIGHBOUR: 'it returns false'. Refute it at one input. -/
def rangesFitsWrong : ChangeSpec := { name := "rangesFits", fn := fun _ => fun
  | [d1, d2] => { results := [.lit (.bool false)], args := [d1, d2] }
  | _ => none }
def RangesFitsWrongFalsely : Prop := rangesFitsRow.holds Try.pinned (OpenSpec.ofChange rangesFitsWrong)

/-- 'tidegatelaw24.RangesOf': WHATEVER THE INPUT: true; the input reads as it did. -/
def rangesOfSpec : ChangeSpec := { name := "rangesOf", fn := fun _ => fun
  | [d] => { results := [.lit (.bool true)], args := [d] }
  | _ => none }
def rangesOfRow : OpenClaim := { program := "ytjlemghmpnkncaa", sum := "992fb5b8027045dd8900bd5f429b1e21795b11222da99fbfa4a6309c2c7e534c", func := "tidegate/tidegatelaw24.RangesOf", spec := "rangesOf", unfollowed := true, recurses := true, apart := false }
def RangesOfSaid : Prop := rangesOfRow.holds Try.pinned (OpenSpec.ofChange rangesOfSpec)

/-- ITS FALSE NEIGHBOUR: 'it returns false'. Refute it at one input. -/
def rangesOfWrong : ChangeSpec := { name := "rangesOf", fn := fun _ => fun
  | [d] => { results := [.lit (.bool false)], args := [d] }
  | _ => none }
def RangesOfWrongFalsely : Prop := rangesOfRow.holds Try.pinned (OpenSpec.ofChange rangesOfWrong)

/-- 'tidegatelaw24.RangesReads': WHATEVER THE INPUT: true; the input reads as it did. -/
def rangesReadsSpec : ChangeSpec := { name := "rangesReads", fn := fun _ => fun
  | [d] => { results := [.lit (.bool true)], args := [d] }
  | _ => none }
def rangesReadsRow : OpenClaim := { program := "ytjlemghmpnkncaa", sum := "992fb5b8027045dd8900bd5f429b1e21795b11222da99fbfa4a6309c2c7e534c", func := "tidegate/tidegatelaw24.RangesReads", spec := "rangesReads", unfollowed := true, recurses := true, apart := false }
def RangesReadsSaid : Prop := rangesReadsRow.holds Try.pinned (OpenSpec.ofChange rangesReadsSpec)

/-- ITS FALSE NEIGHBOUR: 'it returns false'. Refute it at one input. -/
def rangesReadsWrong : ChangeSpec := { name := "rangesReads", fn := fun _ => fun
  | [d] => { results := [.lit (.bool false)], args := [d] }
  | _ => none }
def RangesReadsWrongFalsely : Prop := rangesReadsRow.holds Try.pinned (OpenSpec.ofChange rangesReadsWrong)

/- THE SECOND FORM. 'bulk': how many values and letters a reading holds, each counted each time it is reached (what is shared counts as often as it is met; a slice's spare places count too). A statement '..UptoSaid' is the law's where the arguments, and the package variables that the reading takes, are together of bulk at most 1048576: NARROWER than '..Said'. Prove '..Said' where nothing that the law and all that it calls make is longer than what came in: it says more and counts as full. Else prove '..UptoSaid'. A law counts once. -/
mutual
def uptoBulk {H : Type} : DataW H → Nat
  | .lit (.string bytes) => bytes.length + 1
  | .lit _ => 1
  | .nil => 1
  | .ptr d => uptoBulk d + 1
  | .slice elems spare => uptoBulkAll elems + uptoBulkAll spare + 1
  | .agg parts => uptoBulkAll parts + 1
  | .iface _ d => uptoBulk d + 1
  | .map entries => uptoBulkEntries entries + 1
  | .held _ => 1
def uptoBulkAll {H : Type} : List (DataW H) → Nat
  | [] => 0
  | d :: r => uptoBulk d + uptoBulkAll r
def uptoBulkEntries {H : Type} : List (Lit × DataW H) → Nat
  | [] => 0
  | x :: r => uptoBulkEntry x + uptoBulkEntries r
def uptoBulkEntry {H : Type} : Lit × DataW H → Nat
  | (.string bytes, d) => bytes.length + uptoBulk d + 1
  | (_, d) => uptoBulk d + 1
 end
def uptoSmall : (H : Type) → List (DataW H) → Bool := fun _ ds => decide (uptoBulkAll ds ≤ 1048576)
def OpenSpec.upto (s : _root_.Go.ChangeSpec) : _root_.Go.OpenSpec := { _root_.Go.OpenSpec.ofChange s with cond := some uptoSmall }

/-- 'tidegatelaw35.PartialLearns', WHERE WHAT IT READS IS OF BULK AT MOST 1048576: true; the input reads as it did. -/
def partialLearnsUptoRow : OpenClaim := { program := "ytjlemghmpnkncaa", sum := "992fb5b8027045dd8900bd5f429b1e21795b11222da99fbfa4a6309c2c7e534c", func := "tidegate/tidegatelaw35.PartialLearns", spec := "partialLearns", apart := false, narrowed := true }
def PartialLearnsUptoSaid : Prop := partialLearnsUptoRow.holds Try.pinned (OpenSpec.upto partialLearnsSpec)

/-- 'tidegatelaw25.StatusReads', WHERE WHAT IT READS IS OF BULK AT MOST 1048576: true; the input reads as it did. -/
def statusReadsUptoRow : OpenClaim := { program := "ytjlemghmpnkncaa", sum := "992fb5b8027045dd8900bd5f429b1e21795b11222da99fbfa4a6309c2c7e534c", func := "tidegate/tidegatelaw25.StatusReads", spec := "statusReads", unfollowed := true, recurses := true, apart := false, narrowed := true }
def StatusReadsUptoSaid : Prop := statusReadsUptoRow.holds Try.pinned (OpenSpec.upto statusReadsSpec)

/-- 'tidegatelaw24.RangesFits', WHERE WHAT IT READS IS OF BULK AT MOST 1048576: true; the input reads as it did. -/
def rangesFitsUptoRow : OpenClaim := { program := "ytjlemghmpnkncaa", sum := "992fb5b8027045dd8900bd5f429b1e21795b11222da99fbfa4a6309c2c7e534c", func := "tidegate/tidegatelaw24.RangesFits", spec := "rangesFits", unfollowed := true, recurses := true, apart := false, narrowed := true }
def RangesFitsUptoSaid : Prop := rangesFitsUptoRow.holds Try.pinned (OpenSpec.upto rangesFitsSpec)

/-- 'tidegatelaw24.RangesOf', WHERE WHAT IT READS IS OF BULK AT MOST 1048576: true; the input reads as it did. -/
def rangesOfUptoRow : OpenClaim := { program := "ytjlemghmpnkncaa", sum := "992fb5b8027045dd8900bd5f429b1e21795b11222da99fbfa4a6309c2c7e534c", func := "tidegate/tidegatelaw24.RangesOf", spec := "rangesOf", unfollowed := true, recurses := true, apart := false, narrowed := true }
def RangesOfUptoSaid : Prop := rangesOfUptoRow.holds Try.pinned (OpenSpec.upto rangesOfSpec)

/-- 'tidegatelaw24.RangesReads', WHERE WHAT IT READS IS OF BULK AT MOST 1048576: true; the input reads as it did. -/
def rangesReadsUptoRow : OpenClaim := { program := "ytjlemghmpnkncaa", sum := "992fb5b8027045dd8900bd5f429b1e21795b11222da99fbfa4a6309c2c7e534c", func := "tidegate/tidegatelaw24.RangesReads", spec := "rangesReads", unfollowed := true, recurses := true, apart := false, narrowed := true }
def RangesReadsUptoSaid : Prop := rangesReadsUptoRow.holds Try.pinned (OpenSpec.upto rangesReadsSpec)

end Rows
end Go.Proofs.Ytjlemghmpnkncaa
