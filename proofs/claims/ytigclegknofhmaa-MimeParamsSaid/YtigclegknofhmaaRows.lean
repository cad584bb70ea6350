/-
  No cell of these rows narrows 'for every input' (looked for: loops, veiled, ifaces, maps, wideKeys, modest, calm, conditions, laid).
  DERIVED. THE GIVEN ROWS OF THIS SEAT. 5 by the template 'for every input the law returns true; each argument reads behind the call as it read before'; 0 by the template 'total and deterministic' (their statements: YtigclegknofhmaaTotals.lean).
  GIVEN WITH THE SEED: the statements are not yours to turn. If you find one false, say at which input.
  Laid BY PROGRAM, IN A SANDBOX (cutbox-rows.mjs): the forced cells as the released guide's own fill.sh prints them over the translation 65602aa9aff1f6aa… (all of the seat's roots in one cut). By AI agents, Wed Nov 11 2026. No macro, syntax, notation, axiom, sorry.
-/
import Derived.Test.YtigclegknofhmaaChecked
import GoSem.Claim
import GoSem.ClaimJoined
import GoSem.ClaimMapViews
import Derived.JoinedTies
import Derived.KernelRfl
namespace Go.Proofs.Ytigclegknofhmaa
/- THE CELL 'sum', in the pinned program and in every row, IS THE sha256 OF THE DUMP (.gsa) THAT YtigclegknofhmaaProg.lean LOADS. Nothing in Lean hashes anything: it is a label: what it is worth is what the hold of that sum in a sandbox is worth. -/
noncomputable def Try.pinned : Pinned := { name := "ytigclegknofhmaa", sum := "65602aa9aff1f6aad618e0eacaeb6dca601c1ab607fc26abc205a16726f67668", checked := Try.checked }
namespace Rows
def none {H : Type} : Left H := { results := [], args := [] }

/-- 'tidegatelaw04.QuotedReads': WHATEVER THE INPUT: true; the input reads as it did. -/
def quotedReadsSpec : ChangeSpec := { name := "quotedReads", fn := fun _ => fun
  | [d1, d2] => { results := [.lit (.bool true)], args := [d1, d2] }
  | _ => none }
def quotedReadsRow : OpenClaim := { program := "ytigclegknofhmaa", sum := "65602aa9aff1f6aad618e0eacaeb6dca601c1ab607fc26abc205a16726f67668", func := "tidegate/tidegatelaw04.QuotedReads", spec := "quotedReads", inPlace := ["internal/abi.NoEscape", "internal/bytealg.IndexByteString"], unfollowed := true, recurses := true, apart := false }
def QuotedReadsSaid : Prop := quotedReadsRow.holds Try.pinned (OpenSpec.ofChange quotedReadsSpec)

/-- ITS FALSE NEIGHBOUR: 'it returns false'. Refute it at one input. -/
def quotedReadsWrong : ChangeSpec := { name := "quotedReads", fn := fun _ => fun
  | [d1, d2] => { results := [.lit (.bool false)], args := [d1, d2] }
  | _ => none }
def QuotedReadsWrongFalsely : Prop := quotedReadsRow.holds Try.pinned (OpenSpec.ofChange quotedReadsWrong)

/-- 'tidegatelaw04.QuotedBack': WHATEVER THE INPUT: true; the input reads as it did. -/
def quotedBackSpec : ChangeSpec := { name := "quotedBack", fn := fun _ => fun
  | [d1, d2] => { results := [.lit (.bool true)], args := [d1, d2] }
  | _ => none }
def quotedBackRow : OpenClaim := { program := "ytigclegknofhmaa", sum := "65602aa9aff1f6aad618e0eacaeb6dca601c1ab607fc26abc205a16726f67668", func := "tidegate/tidegatelaw04.QuotedBack", spec := "quotedBack", inPlace := ["internal/abi.NoEscape", "internal/bytealg.IndexByteString"], unfollowed := true, recurses := true, apart := false }
def QuotedBackSaid : Prop := quotedBackRow.holds Try.pinned (OpenSpec.ofChange quotedBackSpec)

/-- ITS FALSE NEIGHBOUR: 'it returns false'. Refute it at one input. -/
def quotedBackWrong : ChangeSpec := { name := "quotedBack", fn := fun _ => fun
  | [d1, d2] => { results := [.lit (.bool false)], args := [d1, d2] }
  | _ => none }
def QuotedBackWrongFalsely : Prop := quotedBackRow.holds Try.pinned (OpenSpec.ofChange quotedBackWrong)

/-- 'tidegatelaw10.MimeParams': WHATEVER THE INPUT: true; the input reads as it did. -/
def mimeParamsSpec : ChangeSpec := { name := "mimeParams", fn := fun _ => fun
  | [d1, d2, d3] => { results := [.lit (.bool true)], args := [d1, d2, d3] }
  | _ => none }
def mimeParamsRow : OpenClaim := { program := "ytigclegknofhmaa", sum := "65602aa9aff1f6aad618e0eacaeb6dca601c1ab607fc26abc205a16726f67668", func := "tidegate/tidegatelaw10.MimeParams", spec := "mimeParams", inPlace := ["internal/bytealg.IndexByteString", "internal/abi.NoEscape"], unfollowed := true, recurses := true, apart := false }
def MimeParamsSaid : Prop := mimeParamsRow.holds Try.pinned (OpenSpec.ofChange mimeParamsSpec)

/-- ITS FALSE NEIGHBOUR: 'it returns false'. Refute it at one input. -/
def mimeParamsWrong : ChangeSpec := { name := "mimeParams", fn := fun _ => fun
  | [d1, d2, d3] => { results := [.lit (.bool false)], args := [d1, d2, d3] }
  | _ => none }
def MimeParamsWrongFalsely : Prop := mimeParamsRow.holds Try.pinned (OpenSpec.ofChange mimeParamsWrong)

/-- 'tidegatelaw10.MimeParses': WHATEVER THE INPUT: true; the input reads as it did. -/
def mimeParsesSpec : ChangeSpec := { name := "mimeParses", fn := fun _ => fun
  | [d] => { results := [.lit (.bool true)], args := [d] }
  | _ => none }
def mimeParsesRow : OpenClaim := { program := "ytigclegknofhmaa", sum := "65602aa9aff1f6aad618e0eacaeb6dca601c1ab607fc26abc205a16726f67668", func := "tidegate/tidegatelaw10.MimeParses", spec := "mimeParses", inPlace := ["internal/bytealg.IndexByteString", "internal/abi.NoEscape"], unfollowed := true, recurses := true, apart := false }
def MimeParsesSaid : Prop := mimeParsesRow.holds Try.pinned (OpenSpec.ofChange mimeParsesSpec)

/-- ITS FALSE NEIGHBOUR: 'it returns false'. Refute it at one input. -/
def mimeParsesWrong : ChangeSpec := { name := "mimeParses", fn := fun _ => fun
  | [d] => { results := [.lit (.bool false)], args := [d] }
  | _ => none }
def MimeParsesWrongFalsely : Prop := mimeParsesRow.holds Try.pinned (OpenSpec.ofChange mimeParsesWrong)

/-- 'tidegatelaw10.MimeWrites': WHATEVER THE INPUT: true; the input reads as it did. -/
def mimeWritesSpec : ChangeSpec := { name := "mimeWrites", fn := fun _ => fun
  | [d1, d2] => { results := [.lit (.bool true)], args := [d1, d2] }
  | _ => none }
def mimeWritesRow : OpenClaim := { program := "ytigclegknofhmaa", sum := "65602aa9aff1f6aad618e0eacaeb6dca601c1ab607fc26abc205a16726f67668", func := "tidegate/tidegatelaw10.MimeWrites", spec := "mimeWrites", inPlace := ["internal/bytealg.IndexByteString", "internal/abi.NoEscape"], unfollowed := true, recurses := true, apart := false }
def MimeWritesSaid : Prop := mimeWritesRow.holds Try.pinned (OpenSpec.ofChange mimeWritesSpec)

/-- ITS FALSE NEIGHBOUR: 'it returns false'. Refute it at one input. -/
def mimeWritesWrong : ChangeSpec := { name := "mimeWrites", fn := fun _ => fun
  | [d1, d2] => { results := [.lit (.bool false)], args := [d1, d2] }
  | _ => none }
def MimeWritesWrongFalsely : Prop := mimeWritesRow.holds Try.pinned (OpenSpec.ofChange mimeWritesWrong)

/- THE SECOND FORM. 'bulk': how many values and letters a reading holds, each counted each time it is reached (what is shared counts as often as it is met; a slice's spare places count too). A statement '..UptoSaid' is the law's where the arguments, and the package variables that the reading takes, are together of bulk at most 1048576: NARROWER than '..Said'. Prove '..Said' where nothing that the law and all that it calls make is longer than what came in: it says more and counts as full. Else prove '..UptoSaid'. A law counts once. -/
mutual
def uptoBulk {H : Type} : DataW H → Nat
  | .lit (.string bytes) => bytes.length + 1
  | .lit _ => 1
  | .nil => 1
  | .ptr d => uptoBulk d + 1
  | .slice elems spare => uptoBulkAll elems + uptoBulkAll spare + 1
  | .agg parts => uptoBulkAll parts + 1
  | .iface _ d => uptoBulk d + 1
  | .map entries => uptoBulkEntries entries + 1
  | .held _ => 1
def uptoBulkAll {H : Type} : List (DataW H) → Nat
  | [] => 0
  | d :: r => uptoBulk d + uptoBulkAll r
def uptoBulkEntries {H : Type} : List (Lit × DataW H) → Nat
  | [] => 0
  | x :: r => uptoBulkEntry x + uptoBulkEntries r
def uptoBulkEntry {H : Type} : Lit × DataW H → Nat
  | (.string bytes, d) => bytes.length + uptoBulk d + 1
  | (_, d) => uptoBulk d + 1
 end
def uptoSmall : (H : Type) → List (DataW H) → Bool := fun _ ds => decide (uptoBulkAll ds ≤ 1048576)
def OpenSpec.upto (s : _root_.Go.ChangeSpec) : _root_.Go.OpenSpec := { _root_.Go.OpenSpec.ofChange s with cond := some uptoSmall }

/-- 'tidegatelaw04.QuotedReads', WHERE WHAT IT READS IS OF BULK AT MOST 1048576: true; the input reads as it did. -/
def quotedReadsUptoRow : OpenClaim := { program := "ytigclegknofhmaa", sum := "65602aa9aff1f6aad618e0eacaeb6dca601c1ab607fc26abc205a16726f67668", func := "tidegate/tidegatelaw04.QuotedReads", spec := "quotedReads", inPlace := ["internal/abi.NoEscape", "internal/bytealg.IndexByteString"], unfollowed := true, recurses := true, apart := false, narrowed := true }
def QuotedReadsUptoSaid : Prop := quotedReadsUptoRow.holds Try.pinned (OpenSpec.upto quotedReadsSpec)

/-- 'tidegatelaw04.QuotedBack', WHERE WHAT IT READS IS OF BULK AT MOST 1048576: true; the input reads as it did. -/
def quotedBackUptoRow : OpenClaim := { program := "ytigclegknofhmaa", sum := "65602aa9aff1f6aad618e0eacaeb6dca601c1ab607fc26abc205a16726f67668", func := "tidegate/tidegatelaw04.QuotedBack", spec := "quotedBack", inPlace := ["internal/abi.NoEscape", "internal/bytealg.IndexByteString"], unfollowed := true, recurses := true, apart := false, narrowed := true }
def QuotedBackUptoSaid : Prop := quotedBackUptoRow.holds Try.pinned (OpenSpec.upto quotedBackSpec)

/-- 'tidegatelaw10.MimeParams', WHERE WHAT IT READS IS OF BULK AT MOST 1048576: true; the input reads as it did. -/
def mimeParamsUptoRow : OpenClaim := { program := "ytigclegknofhmaa", sum := "65602aa9aff1f6aad618e0eacaeb6dca601c1ab607fc26abc205a16726f67668", func := "tidegate/tidegatelaw10.MimeParams", spec := "mimeParams", inPlace := ["internal/bytealg.IndexByteString", "internal/abi.NoEscape"], unfollowed := true, recurses := true, apart := false, narrowed := true }
def MimeParamsUptoSaid : Prop := mimeParamsUptoRow.holds Try.pinned (OpenSpec.upto mimeParamsSpec)

/-- 'tidegatelaw10.MimeParses', WHERE WHAT IT READS IS OF BULK AT MOST 1048576: true; the input reads as it did. -/
def mimeParsesUptoRow : OpenClaim := { program := "ytigclegknofhmaa", sum := "65602aa9aff1f6aad618e0eacaeb6dca601c1ab607fc26abc205a16726f67668", func := "tidegate/tidegatelaw10.MimeParses", spec := "mimeParses", inPlace := ["internal/bytealg.IndexByteString", "internal/abi.NoEscape"], unfollowed := true, recurses := true, apart := false, narrowed := true }
def MimeParsesUptoSaid : Prop := mimeParsesUptoRow.holds Try.pinned (OpenSpec.upto mimeParsesSpec)

/-- 'tidegatelaw10.MimeWrites', WHERE WHAT IT READS IS OF BULK AT MOST 1048576: true; the input reads as it did. -/
def mimeWritesUptoRow : OpenClaim := { program := "ytigclegknofhmaa", sum := "65602aa9aff1f6aad618e0eacaeb6dca601c1ab607fc26abc205a16726f67668", func := "tidegate/tidegatelaw10.MimeWrites", spec := "mimeWrites", inPlace := ["internal/bytealg.IndexByteString", "internal/abi.NoEscape"], unfollowed := true, recurses := true, apart := false, narrowed := true }
def MimeWritesUptoSaid : Prop := mimeWritesUptoRow.holds Try.pinned (OpenSpec.upto mimeWritesSpec)

end Rows
end Go.Proofs.Ytigclegknofhmaa
