/-
  No cell of these rows narrows 'for every input' (looked for: loops, veiled, ifaces, maps, wideKeys, modest, calm, conditions, laid).
  DERIVED. THE GIVEN ROWS OF THIS SEAT. 12 by the template 'for every input the law returns true; each argument reads behind the call as it read before'; 0 by the template 'total and deterministic' (their statements: YtgdhemhapfpkiaaTotals.lean).
  GIVEN WITH THE SEED: the statements are not yours to turn. If you find one false, say at which input.
  Laid BY PROGRAM, IN A SANDBOX (cutbox-rows.mjs): the forced cells as the released guide's own fill.sh prints them over the translation 00f8a8e4ef6669e7… (all of the seat's roots in one cut). By AI agents, Wed Nov 11 2026. No macro, syntax, notation, axiom, sorry.
-/
import Derived.Test.YtgdhemhapfpkiaaChecked
import GoSem.Claim
import GoSem.ClaimJoined
import GoSem.ClaimMapViews
import Derived.JoinedTies
import Derived.KernelRfl
namespace Go.Proofs.Ytgdhemhapfpkiaa
/- THE CELL 'sum', in the pinned program and in every row, IS THE sha256 OF THE DUMP (.gsa) THAT YtgdhemhapfpkiaaProg.lean LOADS. Nothing in Lean hashes anything: it is a label: what it is worth is what the hold of that sum in a sandbox is worth. -/
noncomputable def Try.pinned : Pinned := { name := "ytgdhemhapfpkiaa", sum := "00f8a8e4ef6669e788e7f222b7e13b8580492764d18e73ca945ac8972882f2bb", checked := Try.checked }
namespace Rows
def none {H : Type} : Left H := { results := [], args := [] }

/-- 'tidegatelaw01.TrapInner': WHATEVER THE INPUT: true; the input reads as it did. -/
def trapInnerSpec : ChangeSpec := { name := "trapInner", fn := fun _ => fun
  | [d] => { results := [.lit (.bool true)], args := [d] }
  | _ => none }
def trapInnerRow : OpenClaim := { program := "ytgdhemhapfpkiaa", sum := "00f8a8e4ef6669e788e7f222b7e13b8580492764d18e73ca945ac8972882f2bb", func := "tidegate/tidegatelaw01.TrapInner", spec := "trapInner", unfollowed := true, recurses := true, apart := false }
def TrapInnerSaid : Prop := trapInnerRow.holds Try.pinned (OpenSpec.ofChange trapInnerSpec)

/-- ITS FALSE NEIGHBOUR: 'it returns false'. Refute it at one input. -/
def trapInnerWrong : ChangeSpec := { name := "trapInner", fn := fun _ => fun
  | [d] => { results := [.lit (.bool false)], args := [d] }
  | _ => none }
def TrapInnerWrongFalsely : Prop := trapInnerRow.holds Try.pinned (OpenSpec.ofChange trapInnerWrong)

/-- 'tidegatelaw01.TrapAll': WHATEVER THE INPUT: true; the input reads as it did. -/
def trapAllSpec : ChangeSpec := { name := "trapAll", fn := fun _ => fun
  | [d1, d2, d3] => { results := [.lit (.bool true)], args := [d1, d2, d3] }
  | _ => none }
def trapAllRow : OpenClaim := { program := "ytgdhemhapfpkiaa", sum := "00f8a8e4ef6669e788e7f222b7e13b8580492764d18e73ca945ac8972882f2bb", func := "tidegate/tidegatelaw01.TrapAll", spec := "trapAll", unfollowed := true, recurses := true, apart := false }
def TrapAllSaid : Prop := trapAllRow.holds Try.pinned (OpenSpec.ofChange trapAllSpec)

/-- ITS FALSE NEIGHBOUR: 'it returns false'. Refute it at one input. -/
def trapAllWrong : ChangeSpec := { name := "trapAll", fn := fun _ => fun
  | [d1, d2, d3] => { results := [.lit (.bool false)], args := [d1, d2, d3] }
  | _ => none }
def TrapAllWrongFalsely : Prop := trapAllRow.holds Try.pinned (OpenSpec.ofChange trapAllWrong)

/-- 'tidegatelaw03.ClassCounts': WHATEVER THE INPUT: true; the input reads as it did. -/
def classCountsSpec : ChangeSpec := { name := "classCounts", fn := fun _ => fun
  | [d] => { results := [.lit (.bool true)], args := [d] }
  | _ => none }
def classCountsRow : OpenClaim := { program := "ytgdhemhapfpkiaa", sum := "00f8a8e4ef6669e788e7f222b7e13b8580492764d18e73ca945ac8972882f2bb", func := "tidegate/tidegatelaw03.ClassCounts", spec := "classCounts", inPlace := ["internal/bytealg.IndexByteString"], unfollowed := true, recurses := true, apart := false }
def ClassCountsSaid : Prop := classCountsRow.holds Try.pinned (OpenSpec.ofChange classCountsSpec)

/-- ITS FALSE NEIGHBOUR: 'it returns false'. Refute it at one input. -/
def classCountsWrong : ChangeSpec := { name := "classCounts", fn := fun _ => fun
  | [d] => { results := [.lit (.bool false)], args := [d] }
  | _ => none }
def ClassCountsWrongFalsely : Prop := classCountsRow.holds Try.pinned (OpenSpec.ofChange classCountsWrong)

/-- 'tidegatelaw01.TrapCatches': WHATEVER THE INPUT: true; the input reads as it did. -/
def trapCatchesSpec : ChangeSpec := { name := "trapCatches", fn := fun _ => fun
  | [d] => { results := [.lit (.bool true)], args := [d] }
  | _ => none }
def trapCatchesRow : OpenClaim := { program := "ytgdhemhapfpkiaa", sum := "00f8a8e4ef6669e788e7f222b7e13b8580492764d18e73ca945ac8972882f2bb", func := "tidegate/tidegatelaw01.TrapCatches", spec := "trapCatches", unfollowed := true, recurses := true, apart := false }
def TrapCatchesSaid : Prop := trapCatchesRow.holds Try.pinned (OpenSpec.ofChange trapCatchesSpec)

/-- ITS FALSE NEIGHBOUR: 'it returns false'. Refute it at one input. -/
def trapCatchesWrong : ChangeSpec := { name := "trapCatches", fn := fun _ => fun
  | [d] => { results := [.lit (.bool false)], args := [d] }
  | _ => none }
def TrapCatchesWrongFalsely : Prop := trapCatchesRow.holds Try.pinned (OpenSpec.ofChange trapCatchesWrong)

/-- 'tidegatelaw05.DecimalReads': WHATEVER THE INPUT: true; the input reads as it did. -/
def decimalReadsSpec : ChangeSpec := { name := "decimalReads", fn := fun _ => fun
  | [d] => { results := [.lit (.bool true)], args := [d] }
  | _ => none }
def decimalReadsRow : OpenClaim := { program := "ytgdhemhapfpkiaa", sum := "00f8a8e4ef6669e788e7f222b7e13b8580492764d18e73ca945ac8972882f2bb", func := "tidegate/tidegatelaw05.DecimalReads", spec := "decimalReads", apart := false }
def DecimalReadsSaid : Prop := decimalReadsRow.holds Try.pinned (OpenSpec.ofChange decimalReadsSpec)

/-- ITS FALSE NEIGHBOUR: 'it returns false'. Refute it at one input. -/
def decimalReadsWrong : ChangeSpec := { name := "decimalReads", fn := fun _ => fun
  | [d] => { results := [.lit (.bool false)], args := [d] }
  | _ => none }
def DecimalReadsWrongFalsely : Prop := decimalReadsRow.holds Try.pinned (OpenSpec.ofChange decimalReadsWrong)

/-- 'tidegatelaw01.TrapMust': WHATEVER THE INPUT: true; the input reads as it did. -/
def trapMustSpec : ChangeSpec := { name := "trapMust", fn := fun _ => fun
  | [d] => { results := [.lit (.bool true)], args := [d] }
  | _ => none }
def trapMustRow : OpenClaim := { program := "ytgdhemhapfpkiaa", sum := "00f8a8e4ef6669e788e7f222b7e13b8580492764d18e73ca945ac8972882f2bb", func := "tidegate/tidegatelaw01.TrapMust", spec := "trapMust", unfollowed := true, recurses := true, apart := false }
def TrapMustSaid : Prop := trapMustRow.holds Try.pinned (OpenSpec.ofChange trapMustSpec)

/-- ITS FALSE NEIGHBOUR: 'it returns false'. Refute it at one input. -/
def trapMustWrong : ChangeSpec := { name := "trapMust", fn := fun _ => fun
  | [d] => { results := [.lit (.bool false)], args := [d] }
  | _ => none }
def TrapMustWrongFalsely : Prop := trapMustRow.holds Try.pinned (OpenSpec.ofChange trapMustWrong)

/-- 'tidegatelaw01.TrapFirst': WHATEVER THE INPUT: true; the input reads as it did. -/
def trapFirstSpec : ChangeSpec := { name := "trapFirst", fn := fun _ => fun
  | [d1, d2] => { results := [.lit (.bool true)], args := [d1, d2] }
  | _ => none }
def trapFirstRow : OpenClaim := { program := "ytgdhemhapfpkiaa", sum := "00f8a8e4ef6669e788e7f222b7e13b8580492764d18e73ca945ac8972882f2bb", func := "tidegate/tidegatelaw01.TrapFirst", spec := "trapFirst", unfollowed := true, recurses := true, apart := false }
def TrapFirstSaid : Prop := trapFirstRow.holds Try.pinned (OpenSpec.ofChange trapFirstSpec)

/-- ITS FALSE NEIGHBOUR: 'it returns false'. Refute it at one input. -/
def trapFirstWrong : ChangeSpec := { name := "trapFirst", fn := fun _ => fun
  | [d1, d2] => { results := [.lit (.bool false)], args := [d1, d2] }
  | _ => none }
def TrapFirstWrongFalsely : Prop := trapFirstRow.holds Try.pinned (OpenSpec.ofChange trapFirstWrong)

/-- 'tidegatelaw01.TrapNil': WHATEVER THE INPUT: true; the input reads as it did. -/
def trapNilSpec : ChangeSpec := { name := "trapNil", fn := fun _ => fun
  | [d] => { results := [.lit (.bool true)], args := [d] }
  | _ => none }
def trapNilRow : OpenClaim := { program := "ytgdhemhapfpkiaa", sum := "00f8a8e4ef6669e788e7f222b7e13b8580492764d18e73ca945ac8972882f2bb", func := "tidegate/tidegatelaw01.TrapNil", spec := "trapNil", unfollowed := true, recurses := true, apart := false }
def TrapNilSaid : Prop := trapNilRow.holds Try.pinned (OpenSpec.ofChange trapNilSpec)

/-- ITS FALSE NEIGHBOUR: 'it returns false'. Refute it at one input. -/
def trapNilWrong : ChangeSpec := { name := "trapNil", fn := fun _ => fun
  | [d] => { results := [.lit (.bool false)], args := [d] }
  | _ => none }
def TrapNilWrongFalsely : Prop := trapNilRow.holds Try.pinned (OpenSpec.ofChange trapNilWrong)

/-- 'tidegatelaw03.ClassBytes': WHATEVER THE INPUT: true; the input reads as it did. -/
def classBytesSpec : ChangeSpec := { name := "classBytes", fn := fun _ => fun
  | [d] => { results := [.lit (.bool true)], args := [d] }
  | _ => none }
def classBytesRow : OpenClaim := { program := "ytgdhemhapfpkiaa", sum := "00f8a8e4ef6669e788e7f222b7e13b8580492764d18e73ca945ac8972882f2bb", func := "tidegate/tidegatelaw03.ClassBytes", spec := "classBytes", inPlace := ["internal/bytealg.IndexByteString"], apart := false }
def ClassBytesSaid : Prop := classBytesRow.holds Try.pinned (OpenSpec.ofChange classBytesSpec)

/-- ITS FALSE NEIGHBOUR: 'it returns false'. Refute it at one input. -/
def classBytesWrong : ChangeSpec := { name := "classBytes", fn := fun _ => fun
  | [d] => { results := [.lit (.bool false)], args := [d] }
  | _ => none }
def ClassBytesWrongFalsely : Prop := classBytesRow.holds Try.pinned (OpenSpec.ofChange classBytesWrong)

/-- 'tidegatelaw03.ClassTexts': WHATEVER THE INPUT: true; the input reads as it did. -/
def classTextsSpec : ChangeSpec := { name := "classTexts", fn := fun _ => fun
  | [d1, d2] => { results := [.lit (.bool true)], args := [d1, d2] }
  | _ => none }
def classTextsRow : OpenClaim := { program := "ytgdhemhapfpkiaa", sum := "00f8a8e4ef6669e788e7f222b7e13b8580492764d18e73ca945ac8972882f2bb", func := "tidegate/tidegatelaw03.ClassTexts", spec := "classTexts", inPlace := ["internal/bytealg.IndexByteString"], unfollowed := true, recurses := true, apart := false }
def ClassTextsSaid : Prop := classTextsRow.holds Try.pinned (OpenSpec.ofChange classTextsSpec)

/-- ITS FALSE NEIGHBOUR: 'it returns false'. Refute it at one input. -/
def classTextsWrong : ChangeSpec := { name := "classTexts", fn := fun _ => fun
  | [d1, d2] => { results := [.lit (.bool false)], args := [d1, d2] }
  | _ => none }
def ClassTextsWrongFalsely : Prop := classTextsRow.holds Try.pinned (OpenSpec.ofChange classTextsWrong)

/-- 'tidegatelaw35.PartialNext': WHATEVER THE INPUT: true; the input reads as it did. -/
def partialNextSpec : ChangeSpec := { name := "partialNext", fn := fun _ => fun
  | [d1, d2] => { results := [.lit (.bool true)], args := [d1, d2] }
  | _ => none }
def partialNextRow : OpenClaim := { program := "ytgdhemhapfpkiaa", sum := "00f8a8e4ef6669e788e7f222b7e13b8580492764d18e73ca945ac8972882f2bb", func := "tidegate/tidegatelaw35.PartialNext", spec := "partialNext", apart := false }
def PartialNextSaid : Prop := partialNextRow.holds Try.pinned (OpenSpec.ofChange partialNextSpec)

/-- ITS FALSE NEIGHBOUR: 'it returns false'. Refute it at one input. -/
def partialNextWrong : ChangeSpec := { name := "partialNext", fn := fun _ => fun
  | [d1, d2] => { results := [.lit (.bool false)], args := [d1, d2] }
  | _ => none }
def PartialNextWrongFalsely : Prop := partialNextRow.holds Try.pinned (OpenSpec.ofChange partialNextWrong)

/-- 'tidegatelaw06.MaskTags': WHATEVER THE INPUT: true; the input reads as it did. -/
def maskTagsSpec : ChangeSpec := { name := "maskTags", fn := fun _ => fun
  | [d1, d2, d3] => { results := [.lit (.bool true)], args := [d1, d2, d3] }
  | _ => none }
def maskTagsRow : OpenClaim := { program := "ytgdhemhapfpkiaa", sum := "00f8a8e4ef6669e788e7f222b7e13b8580492764d18e73ca945ac8972882f2bb", func := "tidegate/tidegatelaw06.MaskTags", spec := "maskTags", inPlace := ["internal/bytealg.IndexByteString"], unfollowed := true, recurses := true, apart := false }
def MaskTagsSaid : Prop := maskTagsRow.holds Try.pinned (OpenSpec.ofChange maskTagsSpec)

/-- ITS FALSE NEIGHBOUR: 'it returns false'. Refute it at one input. -/
def maskTagsWrong : ChangeSpec := { name := "maskTags", fn := fun _ => fun
  | [d1, d2, d3] => { results := [.lit (.bool false)], args := [d1, d2, d3] }
  | _ => none }
def MaskTagsWrongFalsely : Prop := maskTagsRow.holds Try.pinned (OpenSpec.ofChange maskTagsWrong)

/- THE SECOND FORM. 'bulk': how many values and letters a reading holds, each counted each time it is reached (what is shared counts as often as it is met; a slice's spare places count too). A statement '..UptoSaid' is the law's where the arguments, and the package variables that the reading takes, are together of bulk at most 1048576: NARROWER than '..Said'. Prove '..Said' where nothing that the law and all that it calls make is longer than what came in: it says more and counts as full. Else prove '..UptoSaid'. A law counts once. -/
mutual
def uptoBulk {H : Type} : DataW H → Nat
  | .lit (.string bytes) => bytes.length + 1
  | .lit _ => 1
  | .nil => 1
  | .ptr d => uptoBulk d + 1
  | .slice elems spare => uptoBulkAll elems + uptoBulkAll spare + 1
  | .agg parts => uptoBulkAll parts + 1
  | .iface _ d => uptoBulk d + 1
  | .map entries => uptoBulkEntries entries + 1
  | .held _ => 1
def uptoBulkAll {H : Type} : List (DataW H) → Nat
  | [] => 0
  | d :: r => uptoBulk d + uptoBulkAll r
def uptoBulkEntries {H : Type} : List (Lit × DataW H) → Nat
  | [] => 0
  | x :: r => uptoBulkEntry x + uptoBulkEntries r
def uptoBulkEntry {H : Type} : Lit × DataW H → Nat
  | (.string bytes, d) => bytes.length + uptoBulk d + 1
  | (_, d) => uptoBulk d + 1
 end
def uptoSmall : (H : Type) → List (DataW H) → Bool := fun _ ds => decide (uptoBulkAll ds ≤ 1048576)
def OpenSpec.upto (s : _root_.Go.ChangeSpec) : _root_.Go.OpenSpec := { _root_.Go.OpenSpec.ofChange s with cond := some uptoSmall }

/-- 'tidegatelaw01.TrapInner', WHERE WHAT IT READS IS OF BULK AT MOST 1048576: true; the input reads as it did. -/
def trapInnerUptoRow : OpenClaim := { program := "ytgdhemhapfpkiaa", sum := "00f8a8e4ef6669e788e7f222b7e13b8580492764d18e73ca945ac8972882f2bb", func := "tidegate/tidegatelaw01.TrapInner", spec := "trapInner", unfollowed := true, recurses := true, apart := false, narrowed := true }
def TrapInnerUptoSaid : Prop := trapInnerUptoRow.holds Try.pinned (OpenSpec.upto trapInnerSpec)

/-- 'tidegatelaw01.TrapAll', WHERE WHAT IT READS IS OF BULK AT MOST 1048576: true; the input reads as it did. -/
def trapAllUptoRow : OpenClaim := { program := "ytgdhemhapfpkiaa", sum := "00f8a8e4ef6669e788e7f222b7e13b8580492764d18e73ca945ac8972882f2bb", func := "tidegate/tidegatelaw01.TrapAll", spec := "trapAll", unfollowed := true, recurses := true, apart := false, narrowed := true }
def TrapAllUptoSaid : Prop := trapAllUptoRow.holds Try.pinned (OpenSpec.upto trapAllSpec)

/-- 'tidegatelaw03.ClassCounts', WHERE WHAT IT READS IS OF BULK AT MOST 1048576: true; the input reads as it did. -/
def classCountsUptoRow : OpenClaim := { program := "ytgdhemhapfpkiaa", sum := "00f8a8e4ef6669e788e7f222b7e13b8580492764d18e73ca945ac8972882f2bb", func := "tidegate/tidegatelaw03.ClassCounts", spec := "classCounts", inPlace := ["internal/bytealg.IndexByteString"], unfollowed := true, recurses := true, apart := false, narrowed := true }
def ClassCountsUptoSaid : Prop := classCountsUptoRow.holds Try.pinned (OpenSpec.upto classCountsSpec)

/-- 'tidegatelaw01.TrapCatches', WHERE WHAT IT READS IS OF BULK AT MOST 1048576: true; the input reads as it did. -/
def trapCatchesUptoRow : OpenClaim := { program := "ytgdhemhapfpkiaa", sum := "00f8a8e4ef6669e788e7f222b7e13b8580492764d18e73ca945ac8972882f2bb", func := "tidegate/tidegatelaw01.TrapCatches", spec := "trapCatches", unfollowed := true, recurses := true, apart := false, narrowed := true }
def TrapCatchesUptoSaid : Prop := trapCatchesUptoRow.holds Try.pinned (OpenSpec.upto trapCatchesSpec)

/-- 'tidegatelaw05.DecimalReads', WHERE WHAT IT READS IS OF BULK AT MOST 1048576: true; the input reads as it did. -/
def decimalReadsUptoRow : OpenClaim := { program := "ytgdhemhapfpkiaa", sum := "00f8a8e4ef6669e788e7f222b7e13b8580492764d18e73ca945ac8972882f2bb", func := "tidegate/tidegatelaw05.DecimalReads", spec := "decimalReads", apart := false, narrowed := true }
def DecimalReadsUptoSaid : Prop := decimalReadsUptoRow.holds Try.pinned (OpenSpec.upto decimalReadsSpec)

/-- 'tidegatelaw01.TrapMust', WHERE WHAT IT READS IS OF BULK AT MOST 1048576: true; the input reads as it did. -/
def trapMustUptoRow : OpenClaim := { program := "ytgdhemhapfpkiaa", sum := "00f8a8e4ef6669e788e7f222b7e13b8580492764d18e73ca945ac8972882f2bb", func := "tidegate/tidegatelaw01.TrapMust", spec := "trapMust", unfollowed := true, recurses := true, apart := false, narrowed := true }
def TrapMustUptoSaid : Prop := trapMustUptoRow.holds Try.pinned (OpenSpec.upto trapMustSpec)

/-- 'tidegatelaw01.TrapFirst', WHERE WHAT IT READS IS OF BULK AT MOST 1048576: true; the input reads as it did. -/
def trapFirstUptoRow : OpenClaim := { program := "ytgdhemhapfpkiaa", sum := "00f8a8e4ef6669e788e7f222b7e13b8580492764d18e73ca945ac8972882f2bb", func := "tidegate/tidegatelaw01.TrapFirst", spec := "trapFirst", unfollowed := true, recurses := true, apart := false, narrowed := true }
def TrapFirstUptoSaid : Prop := trapFirstUptoRow.holds Try.pinned (OpenSpec.upto trapFirstSpec)

/-- 'tidegatelaw01.TrapNil', WHERE WHAT IT READS IS OF BULK AT MOST 1048576: true; the input reads as it did. -/
def trapNilUptoRow : OpenClaim := { program := "ytgdhemhapfpkiaa", sum := "00f8a8e4ef6669e788e7f222b7e13b8580492764d18e73ca945ac8972882f2bb", func := "tidegate/tidegatelaw01.TrapNil", spec := "trapNil", unfollowed := true, recurses := true, apart := false, narrowed := true }
def TrapNilUptoSaid : Prop := trapNilUptoRow.holds Try.pinned (OpenSpec.upto trapNilSpec)

/-- 'tidegatelaw03.ClassBytes', WHERE WHAT IT READS IS OF BULK AT MOST 1048576: true; the input reads as it did. -/
def classBytesUptoRow : OpenClaim := { program := "ytgdhemhapfpkiaa", sum := "00f8a8e4ef6669e788e7f222b7e13b8580492764d18e73ca945ac8972882f2bb", func := "tidegate/tidegatelaw03.ClassBytes", spec := "classBytes", inPlace := ["internal/bytealg.IndexByteString"], apart := false, narrowed := true }
def ClassBytesUptoSaid : Prop := classBytesUptoRow.holds Try.pinned (OpenSpec.upto classBytesSpec)

/-- 'tidegatelaw03.ClassTexts', WHERE WHAT IT READS IS OF BULK AT MOST 1048576: true; the input reads as it did. -/
def classTextsUptoRow : OpenClaim := { program := "ytgdhemhapfpkiaa", sum := "00f8a8e4ef6669e788e7f222b7e13b8580492764d18e73ca945ac8972882f2bb", func := "tidegate/tidegatelaw03.ClassTexts", spec := "classTexts", inPlace := ["internal/bytealg.IndexByteString"], unfollowed := true, recurses := true, apart := false, narrowed := true }
def ClassTextsUptoSaid : Prop := classTextsUptoRow.holds Try.pinned (OpenSpec.upto classTextsSpec)

/-- 'tidegatelaw35.PartialNext', WHERE WHAT IT READS IS OF BULK AT MOST 1048576: true; the input reads as it did. -/
def partialNextUptoRow : OpenClaim := { program := "ytgdhemhapfpkiaa", sum := "00f8a8e4ef6669e788e7f222b7e13b8580492764d18e73ca945ac8972882f2bb", func := "tidegate/tidegatelaw35.PartialNext", spec := "partialNext", apart := false, narrowed := true }
def PartialNextUptoSaid : Prop := partialNextUptoRow.holds Try.pinned (OpenSpec.upto partialNextSpec)

/-- 'tidegatelaw06.MaskTags', WHERE WHAT IT READS IS OF BULK AT MOST 1048576: true; the input reads as it did. -/
def maskTagsUptoRow : OpenClaim := { program := "ytgdhemhapfpkiaa", sum := "00f8a8e4ef6669e788e7f222b7e13b8580492764d18e73ca945ac8972882f2bb", func := "tidegate/tidegatelaw06.MaskTags", spec := "maskTags", inPlace := ["internal/bytealg.IndexByteString"], unfollowed := true, recurses := true, apart := false, narrowed := true }
def MaskTagsUptoSaid : Prop := maskTagsUptoRow.holds Try.pinned (OpenSpec.upto maskTagsSpec)

end Rows
end Go.Proofs.Ytgdhemhapfpkiaa
