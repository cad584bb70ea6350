/-
  No cell of these rows narrows 'for every input' (looked for: loops, veiled, ifaces, maps, wideKeys, modest, calm, conditions, laid).
  DERIVED. THE GIVEN ROWS OF THIS SEAT. 8 by the template 'for every input the law returns true; each argument reads behind the call as it read before'; 0 by the template 'total and deterministic' (their statements: YthmiadbeiggmlaaTotals.lean).
  GIVEN WITH THE SEED: the statements are not yours to turn. If you find one false, say at which input.
  Laid BY PROGRAM, IN A SANDBOX (cutbox-rows.mjs): the forced cells as the released guide's own fill.sh prints them over the translation 8f22172298e0d7ad… (all of the seat's roots in one cut). By AI agents, Wed Nov 11 2026. No macro, syntax, notation, axiom, sorry.
-/
import Derived.Test.YthmiadbeiggmlaaChecked
import GoSem.Claim
import GoSem.ClaimJoined
import GoSem.ClaimMapViews
import Derived.JoinedTies
import Derived.KernelRfl
namespace Go.Proofs.Ythmiadbeiggmlaa
/- THE CELL 'sum', in the pinned program and in every row, IS THE sha256 OF THE DUMP (.gsa) THAT YthmiadbeiggmlaaProg.lean LOADS. Nothing in Lean hashes anything: it is a label: what it is worth is what the hold of that sum in a sandbox is worth. -/
noncomputable def Try.pinned : Pinned := { name := "ythmiadbeiggmlaa", sum := "8f22172298e0d7ad9c2176c58c933295b93106d0559c143cedd64131bdf61874", checked := Try.checked }
namespace Rows
def none {H : Type} : Left H := { results := [], args := [] }

/-- 'tidegatelaw02.CursorSubs': WHATEVER THE INPUT: true; the input reads as it did. -/
def cursorSubsSpec : ChangeSpec := { name := "cursorSubs", fn := fun _ => fun
  | [d1, d2, d3] => { results := [.lit (.bool true)], args := [d1, d2, d3] }
  | _ => none }
def cursorSubsRow : OpenClaim := { program := "ythmiadbeiggmlaa", sum := "8f22172298e0d7ad9c2176c58c933295b93106d0559c143cedd64131bdf61874", func := "tidegate/tidegatelaw02.CursorSubs", spec := "cursorSubs", unfollowed := true, recurses := true, apart := false }
def CursorSubsSaid : Prop := cursorSubsRow.holds Try.pinned (OpenSpec.ofChange cursorSubsSpec)

/-- ITS FALSE NEIGHBOUR: 'it returns false'. Refute it at one input. -/
def cursorSubsWrong : ChangeSpec := { name := "cursorSubs", fn := fun _ => fun
  | [d1, d2, d3] => { results := [.lit (.bool false)], args := [d1, d2, d3] }
  | _ => none }
def CursorSubsWrongFalsely : Prop := cursorSubsRow.holds Try.pinned (OpenSpec.ofChange cursorSubsWrong)

/-- 'tidegatelaw05.DecimalSums': WHATEVER THE INPUT: true; the input reads as it did. -/
def decimalSumsSpec : ChangeSpec := { name := "decimalSums", fn := fun _ => fun
  | [d1, d2, d3] => { results := [.lit (.bool true)], args := [d1, d2, d3] }
  | _ => none }
def decimalSumsRow : OpenClaim := { program := "ythmiadbeiggmlaa", sum := "8f22172298e0d7ad9c2176c58c933295b93106d0559c143cedd64131bdf61874", func := "tidegate/tidegatelaw05.DecimalSums", spec := "decimalSums", apart := false }
def DecimalSumsSaid : Prop := decimalSumsRow.holds Try.pinned (OpenSpec.ofChange decimalSumsSpec)

/-- ITS FALSE NEIGHBOUR: 'it returns false'. Refute it at one input. -/
def decimalSumsWrong : ChangeSpec := { name := "decimalSums", fn := fun _ => fun
  | [d1, d2, d3] => { results := [.lit (.bool false)], args := [d1, d2, d3] }
  | _ => none }
def DecimalSumsWrongFalsely : Prop := decimalSumsRow.holds Try.pinned (OpenSpec.ofChange decimalSumsWrong)

/-- 'tidegatelaw02.CursorTakes': WHATEVER THE INPUT: true; the input reads as it did. -/
def cursorTakesSpec : ChangeSpec := { name := "cursorTakes", fn := fun _ => fun
  | [d1, d2] => { results := [.lit (.bool true)], args := [d1, d2] }
  | _ => none }
def cursorTakesRow : OpenClaim := { program := "ythmiadbeiggmlaa", sum := "8f22172298e0d7ad9c2176c58c933295b93106d0559c143cedd64131bdf61874", func := "tidegate/tidegatelaw02.CursorTakes", spec := "cursorTakes", unfollowed := true, recurses := true, apart := false }
def CursorTakesSaid : Prop := cursorTakesRow.holds Try.pinned (OpenSpec.ofChange cursorTakesSpec)

/-- ITS FALSE NEIGHBOUR: 'it returns false'. Refute it at one input. -/
def cursorTakesWrong : ChangeSpec := { name := "cursorTakes", fn := fun _ => fun
  | [d1, d2] => { results := [.lit (.bool false)], args := [d1, d2] }
  | _ => none }
def CursorTakesWrongFalsely : Prop := cursorTakesRow.holds Try.pinned (OpenSpec.ofChange cursorTakesWrong)

/-- 'tidegatelaw16.Mp4Grows': WHATEVER THE INPUT: true; the input reads as it did. -/
def mp4GrowsSpec : ChangeSpec := { name := "mp4Grows", fn := fun _ => fun
  | [d1, d2] => { results := [.lit (.bool true)], args := [d1, d2] }
  | _ => none }
def mp4GrowsRow : OpenClaim := { program := "ythmiadbeiggmlaa", sum := "8f22172298e0d7ad9c2176c58c933295b93106d0559c143cedd64131bdf61874", func := "tidegate/tidegatelaw16.Mp4Grows", spec := "mp4Grows", unfollowed := true, recurses := true, apart := false }
def Mp4GrowsSaid : Prop := mp4GrowsRow.holds Try.pinned (OpenSpec.ofChange mp4GrowsSpec)

/-- ITS FALSE NEIGHBOUR: 'it returns false'. Refute it at one input. -/
def mp4GrowsWrong : ChangeSpec := { name := "mp4Grows", fn := fun _ => fun
  | [d1, d2] => { results := [.lit (.bool false)], args := [d1, d2] }
  | _ => none }
def Mp4GrowsWrongFalsely : Prop := mp4GrowsRow.holds Try.pinned (OpenSpec.ofChange mp4GrowsWrong)

/-- 'tidegatelaw16.Mp4Tells': WHATEVER THE INPUT: true; the input reads as it did. -/
def mp4TellsSpec : ChangeSpec := { name := "mp4Tells", fn := fun _ => fun
  | [d] => { results := [.lit (.bool true)], args := [d] }
  | _ => none }
def mp4TellsRow : OpenClaim := { program := "ythmiadbeiggmlaa", sum := "8f22172298e0d7ad9c2176c58c933295b93106d0559c143cedd64131bdf61874", func := "tidegate/tidegatelaw16.Mp4Tells", spec := "mp4Tells", unfollowed := true, recurses := true, apart := false }
def Mp4TellsSaid : Prop := mp4TellsRow.holds Try.pinned (OpenSpec.ofChange mp4TellsSpec)

/-- ITS FALSE NEIGHBOUR: 'it returns false'. Refute it at one input. -/
def mp4TellsWrong : ChangeSpec := { name := "mp4Tells", fn := fun _ => fun
  | [d] => { results := [.lit (.bool false)], args := [d] }
  | _ => none }
def Mp4TellsWrongFalsely : Prop := mp4TellsRow.holds Try.pinned (OpenSpec.ofChange mp4TellsWrong)

/-- 'tidegatelaw02.CursorRuns': WHATEVER THE INPUT: true; the input reads as it did. -/
def cursorRunsSpec : ChangeSpec := { name := "cursorRuns", fn := fun _ => fun
  | [d1, d2] => { results := [.lit (.bool true)], args := [d1, d2] }
  | _ => none }
def cursorRunsRow : OpenClaim := { program := "ythmiadbeiggmlaa", sum := "8f22172298e0d7ad9c2176c58c933295b93106d0559c143cedd64131bdf61874", func := "tidegate/tidegatelaw02.CursorRuns", spec := "cursorRuns", inPlace := ["internal/bytealg.IndexByteString"], unfollowed := true, recurses := true, apart := false }
def CursorRunsSaid : Prop := cursorRunsRow.holds Try.pinned (OpenSpec.ofChange cursorRunsSpec)

/-- ITS FALSE NEIGHBOUR: 'it returns false'. Refute it at one input. -/
def cursorRunsWrong : ChangeSpec := { name := "cursorRuns", fn := fun _ => fun
  | [d1, d2] => { results := [.lit (.bool false)], args := [d1, d2] }
  | _ => none }
def CursorRunsWrongFalsely : Prop := cursorRunsRow.holds Try.pinned (OpenSpec.ofChange cursorRunsWrong)

/-- 'tidegatelaw02.CursorNone': WHATEVER THE INPUT: true; the input reads as it did. -/
def cursorNoneSpec : ChangeSpec := { name := "cursorNone", fn := fun _ => fun
  | [d] => { results := [.lit (.bool true)], args := [d] }
  | _ => none }
def cursorNoneRow : OpenClaim := { program := "ythmiadbeiggmlaa", sum := "8f22172298e0d7ad9c2176c58c933295b93106d0559c143cedd64131bdf61874", func := "tidegate/tidegatelaw02.CursorNone", spec := "cursorNone", inPlace := ["internal/bytealg.IndexByteString"], unfollowed := true, recurses := true, apart := false }
def CursorNoneSaid : Prop := cursorNoneRow.holds Try.pinned (OpenSpec.ofChange cursorNoneSpec)

/-- ITS FALSE NEIGHBOUR: 'it returns false'. Refute it at one input. -/
def cursorNoneWrong : ChangeSpec := { name := "cursorNone", fn := fun _ => fun
  | [d] => { results := [.lit (.bool false)], args := [d] }
  | _ => none }
def CursorNoneWrongFalsely : Prop := cursorNoneRow.holds Try.pinned (OpenSpec.ofChange cursorNoneWrong)

/-- 'tidegatelaw16.Mp4Boxes': WHATEVER THE INPUT: true; the input reads as it did. -/
def mp4BoxesSpec : ChangeSpec := { name := "mp4Boxes", fn := fun _ => fun
  | [d1, d2] => { results := [.lit (.bool true)], args := [d1, d2] }
  | _ => none }
def mp4BoxesRow : OpenClaim := { program := "ythmiadbeiggmlaa", sum := "8f22172298e0d7ad9c2176c58c933295b93106d0559c143cedd64131bdf61874", func := "tidegate/tidegatelaw16.Mp4Boxes", spec := "mp4Boxes", unfollowed := true, recurses := true, apart := false }
def Mp4BoxesSaid : Prop := mp4BoxesRow.holds Try.pinned (OpenSpec.ofChange mp4BoxesSpec)

/-- ITS FALSE NEIGHBOUR: 'it returns false'. Refute it at one input. -/
def mp4BoxesWrong : ChangeSpec := { name := "mp4Boxes", fn := fun _ => fun
  | [d1, d2] => { results := [.lit (.bool false)], args := [d1, d2] }
  | _ => none }
def Mp4BoxesWrongFalsely : Prop := mp4BoxesRow.holds Try.pinned (OpenSpec.ofChange mp4BoxesWrong)

/- THE SECOND FORM. 'bulk': how many values and letters a reading holds, each counted each time it is reached (what is shared counts as often as it is met; a slice's spare places count too). A statement '..UptoSaid' is the law's where the arguments, and the package variables that the reading takes, are together of bulk at most 1048576: NARROWER than '..Said'. Prove '..Said' where nothing that the law and all that it calls make is longer than what came in: it says more and counts as full. Else prove '..UptoSaid'. A law counts once. -/
mutual
def uptoBulk {H : Type} : DataW H → Nat
  | .lit (.string bytes) => bytes.length + 1
  | .lit _ => 1
  | .nil => 1
  | .ptr d => uptoBulk d + 1
  | .slice elems spare => uptoBulkAll elems + uptoBulkAll spare + 1
  | .agg parts => uptoBulkAll parts + 1
  | .iface _ d => uptoBulk d + 1
  | .map entries => uptoBulkEntries entries + 1
  | .held _ => 1
def uptoBulkAll {H : Type} : List (DataW H) → Nat
  | [] => 0
  | d :: r => uptoBulk d + uptoBulkAll r
def uptoBulkEntries {H : Type} : List (Lit × DataW H) → Nat
  | [] => 0
  | x :: r => uptoBulkEntry x + uptoBulkEntries r
def uptoBulkEntry {H : Type} : Lit × DataW H → Nat
  | (.string bytes, d) => bytes.length + uptoBulk d + 1
  | (_, d) => uptoBulk d + 1
 end
def uptoSmall : (H : Type) → List (DataW H) → Bool := fun _ ds => decide (uptoBulkAll ds ≤ 1048576)
def OpenSpec.upto (s : _root_.Go.ChangeSpec) : _root_.Go.OpenSpec := { _root_.Go.OpenSpec.ofChange s with cond := some uptoSmall }

/-- 'tidegatelaw02.CursorSubs', WHERE WHAT IT READS IS OF BULK AT MOST 1048576: true; the input reads as it did. -/
def cursorSubsUptoRow : OpenClaim := { program := "ythmiadbeiggmlaa", sum := "8f22172298e0d7ad9c2176c58c933295b93106d0559c143cedd64131bdf61874", func := "tidegate/tidegatelaw02.CursorSubs", spec := "cursorSubs", unfollowed := true, recurses := true, apart := false, narrowed := true }
def CursorSubsUptoSaid : Prop := cursorSubsUptoRow.holds Try.pinned (OpenSpec.upto cursorSubsSpec)

/-- 'tidegatelaw05.DecimalSums', WHERE WHAT IT READS IS OF BULK AT MOST 1048576: true; the input reads as it did. -/
def decimalSumsUptoRow : OpenClaim := { program := "ythmiadbeiggmlaa", sum := "8f22172298e0d7ad9c2176c58c933295b93106d0559c143cedd64131bdf61874", func := "tidegate/tidegatelaw05.DecimalSums", spec := "decimalSums", apart := false, narrowed := true }
def DecimalSumsUptoSaid : Prop := decimalSumsUptoRow.holds Try.pinned (OpenSpec.upto decimalSumsSpec)

/-- 'tidegatelaw02.CursorTakes', WHERE WHAT IT READS IS OF BULK AT MOST 1048576: true; the input reads as it did. -/
def cursorTakesUptoRow : OpenClaim := { program := "ythmiadbeiggmlaa", sum := "8f22172298e0d7ad9c2176c58c933295b93106d0559c143cedd64131bdf61874", func := "tidegate/tidegatelaw02.CursorTakes", spec := "cursorTakes", unfollowed := true, recurses := true, apart := false, narrowed := true }
def CursorTakesUptoSaid : Prop := cursorTakesUptoRow.holds Try.pinned (OpenSpec.upto cursorTakesSpec)

/-- 'tidegatelaw16.Mp4Grows', WHERE WHAT IT READS IS OF BULK AT MOST 1048576: true; the input reads as it did. -/
def mp4GrowsUptoRow : OpenClaim := { program := "ythmiadbeiggmlaa", sum := "8f22172298e0d7ad9c2176c58c933295b93106d0559c143cedd64131bdf61874", func := "tidegate/tidegatelaw16.Mp4Grows", spec := "mp4Grows", unfollowed := true, recurses := true, apart := false, narrowed := true }
def Mp4GrowsUptoSaid : Prop := mp4GrowsUptoRow.holds Try.pinned (OpenSpec.upto mp4GrowsSpec)

/-- 'tidegatelaw16.Mp4Tells', WHERE WHAT IT READS IS OF BULK AT MOST 1048576: true; the input reads as it did. -/
def mp4TellsUptoRow : OpenClaim := { program := "ythmiadbeiggmlaa", sum := "8f22172298e0d7ad9c2176c58c933295b93106d0559c143cedd64131bdf61874", func := "tidegate/tidegatelaw16.Mp4Tells", spec := "mp4Tells", unfollowed := true, recurses := true, apart := false, narrowed := true }
def Mp4TellsUptoSaid : Prop := mp4TellsUptoRow.holds Try.pinned (OpenSpec.upto mp4TellsSpec)

/-- 'tidegatelaw02.CursorRuns', WHERE WHAT IT READS IS OF BULK AT MOST 1048576: true; the input reads as it did. -/
def cursorRunsUptoRow : OpenClaim := { program := "ythmiadbeiggmlaa", sum := "8f22172298e0d7ad9c2176c58c933295b93106d0559c143cedd64131bdf61874", func := "tidegate/tidegatelaw02.CursorRuns", spec := "cursorRuns", inPlace := ["internal/bytealg.IndexByteString"], unfollowed := true, recurses := true, apart := false, narrowed := true }
def CursorRunsUptoSaid : Prop := cursorRunsUptoRow.holds Try.pinned (OpenSpec.upto cursorRunsSpec)

/-- 'tidegatelaw02.CursorNone', WHERE WHAT IT READS IS OF BULK AT MOST 1048576: true; the input reads as it did. -/
def cursorNoneUptoRow : OpenClaim := { program := "ythmiadbeiggmlaa", sum := "8f22172298e0d7ad9c2176c58c933295b93106d0559c143cedd64131bdf61874", func := "tidegate/tidegatelaw02.CursorNone", spec := "cursorNone", inPlace := ["internal/bytealg.IndexByteString"], unfollowed := true, recurses := true, apart := false, narrowed := true }
def CursorNoneUptoSaid : Prop := cursorNoneUptoRow.holds Try.pinned (OpenSpec.upto cursorNoneSpec)

/-- 'tidegatelaw16.Mp4Boxes', WHERE WHAT IT READS IS OF BULK AT MOST 1048576: true; the input reads as it did. -/
def mp4BoxesUptoRow : OpenClaim := { program := "ythmiadbeiggmlaa", sum := "8f22172298e0d7ad9c2176c58c933295b93106d0559c143cedd64131bdf61874", func := "tidegate/tidegatelaw16.Mp4Boxes", spec := "mp4Boxes", unfollowed := true, recurses := true, apart := false, narrowed := true }
def Mp4BoxesUptoSaid : Prop := mp4BoxesUptoRow.holds Try.pinned (OpenSpec.upto mp4BoxesSpec)

end Rows
end Go.Proofs.Ythmiadbeiggmlaa
