/-
  No cell of these rows narrows 'for every input' (looked for: loops, veiled, ifaces, maps, wideKeys, modest, calm, conditions, laid).
  DERIVED. THE GIVEN ROWS OF THIS SEAT. 13 by the template 'for every input the law returns true; each argument reads behind the call as it read before'; 0 by the template 'total and deterministic' (their statements: YtcpjokjfjhhndaaTotals.lean).
  GIVEN WITH THE SEED: the statements are not yours to turn. If you find one false, say at which input.
  Laid BY PROGRAM, IN A SANDBOX (cutbox-rows.mjs): the forced cells as the released guide's own fill.sh prints them over the translation 12658765f4f413dd… (all of the seat's roots in one cut). By AI agents, Wed Nov 11 2026. No macro, syntax, notation, axiom, sorry.
-/
import Derived.Test.YtcpjokjfjhhndaaChecked
import GoSem.Claim
import GoSem.ClaimJoined
import GoSem.ClaimMapViews
import Derived.JoinedTies
import Derived.KernelRfl
namespace Go.Proofs.Ytcpjokjfjhhndaa
/- THE CELL 'sum', in the pinned program and in every row, IS THE sha256 OF THE DUMP (.gsa) THAT YtcpjokjfjhhndaaProg.lean LOADS. Nothing in Lean hashes anything: it is a label: what it is worth is what the hold of that sum in a sandbox is worth. -/
noncomputable def Try.pinned : Pinned := { name := "ytcpjokjfjhhndaa", sum := "12658765f4f413ddad36f8d1b261d715f6c1c5124da0bb843ca0172363491c6a", checked := Try.checked }
namespace Rows
def none {H : Type} : Left H := { results := [], args := [] }

/-- 'tidegatelaw06.MaskFirst': WHATEVER THE INPUT: true; the input reads as it did. -/
def maskFirstSpec : ChangeSpec := { name := "maskFirst", fn := fun _ => fun
  | [d1, d2] => { results := [.lit (.bool true)], args := [d1, d2] }
  | _ => none }
def maskFirstRow : OpenClaim := { program := "ytcpjokjfjhhndaa", sum := "12658765f4f413ddad36f8d1b261d715f6c1c5124da0bb843ca0172363491c6a", func := "tidegate/tidegatelaw06.MaskFirst", spec := "maskFirst", inPlace := ["internal/bytealg.IndexByteString"], unfollowed := true, recurses := true, apart := false }
def MaskFirstSaid : Prop := maskFirstRow.holds Try.pinned (OpenSpec.ofChange maskFirstSpec)

/-- ITS FALSE NEIGHBOUR: 'it returns false'. Refute it at one input. -/
def maskFirstWrong : ChangeSpec := { name := "maskFirst", fn := fun _ => fun
  | [d1, d2] => { results := [.lit (.bool false)], args := [d1, d2] }
  | _ => none }
def MaskFirstWrongFalsely : Prop := maskFirstRow.holds Try.pinned (OpenSpec.ofChange maskFirstWrong)

/-- 'tidegatelaw06.MaskMatches': WHATEVER THE INPUT: true; the input reads as it did. -/
def maskMatchesSpec : ChangeSpec := { name := "maskMatches", fn := fun _ => fun
  | [d1, d2, d3] => { results := [.lit (.bool true)], args := [d1, d2, d3] }
  | _ => none }
def maskMatchesRow : OpenClaim := { program := "ytcpjokjfjhhndaa", sum := "12658765f4f413ddad36f8d1b261d715f6c1c5124da0bb843ca0172363491c6a", func := "tidegate/tidegatelaw06.MaskMatches", spec := "maskMatches", inPlace := ["internal/bytealg.IndexByteString"], unfollowed := true, recurses := true, apart := false }
def MaskMatchesSaid : Prop := maskMatchesRow.holds Try.pinned (OpenSpec.ofChange maskMatchesSpec)

/-- ITS FALSE NEIGHBOUR: 'it returns false'. Refute it at one input. -/
def maskMatchesWrong : ChangeSpec := { name := "maskMatches", fn := fun _ => fun
  | [d1, d2, d3] => { results := [.lit (.bool false)], args := [d1, d2, d3] }
  | _ => none }
def MaskMatchesWrongFalsely : Prop := maskMatchesRow.holds Try.pinned (OpenSpec.ofChange maskMatchesWrong)

/-- 'tidegatelaw14.MediaChunks': WHATEVER THE INPUT: true; the input reads as it did. -/
def mediaChunksSpec : ChangeSpec := { name := "mediaChunks", fn := fun _ => fun
  | [d] => { results := [.lit (.bool true)], args := [d] }
  | _ => none }
def mediaChunksRow : OpenClaim := { program := "ytcpjokjfjhhndaa", sum := "12658765f4f413ddad36f8d1b261d715f6c1c5124da0bb843ca0172363491c6a", func := "tidegate/tidegatelaw14.MediaChunks", spec := "mediaChunks", inPlace := ["internal/bytealg.IndexByteString"], unfollowed := true, recurses := true, apart := false }
def MediaChunksSaid : Prop := mediaChunksRow.holds Try.pinned (OpenSpec.ofChange mediaChunksSpec)

/-- ITS FALSE NEIGHBOUR: 'it returns false'. Refute it at one input. -/
def mediaChunksWrong : ChangeSpec := { name := "mediaChunks", fn := fun _ => fun
  | [d] => { results := [.lit (.bool false)], args := [d] }
  | _ => none }
def MediaChunksWrongFalsely : Prop := mediaChunksRow.holds Try.pinned (OpenSpec.ofChange mediaChunksWrong)

/-- 'tidegatelaw14.MediaTable': WHATEVER THE INPUT: true; the input reads as it did. -/
def mediaTableSpec : ChangeSpec := { name := "mediaTable", fn := fun _ => fun
  | [d1, d2] => { results := [.lit (.bool true)], args := [d1, d2] }
  | _ => none }
def mediaTableRow : OpenClaim := { program := "ytcpjokjfjhhndaa", sum := "12658765f4f413ddad36f8d1b261d715f6c1c5124da0bb843ca0172363491c6a", func := "tidegate/tidegatelaw14.MediaTable", spec := "mediaTable", inPlace := ["internal/bytealg.IndexByteString"], unfollowed := true, recurses := true, apart := false }
def MediaTableSaid : Prop := mediaTableRow.holds Try.pinned (OpenSpec.ofChange mediaTableSpec)

/-- ITS FALSE NEIGHBOUR: 'it returns false'. Refute it at one input. -/
def mediaTableWrong : ChangeSpec := { name := "mediaTable", fn := fun _ => fun
  | [d1, d2] => { results := [.lit (.bool false)], args := [d1, d2] }
  | _ => none }
def MediaTableWrongFalsely : Prop := mediaTableRow.holds Try.pinned (OpenSpec.ofChange mediaTableWrong)

/-- 'tidegatelaw14.MediaApart': WHATEVER THE INPUT: true; the input reads as it did. -/
def mediaApartSpec : ChangeSpec := { name := "mediaApart", fn := fun _ => fun
  | [d] => { results := [.lit (.bool true)], args := [d] }
  | _ => none }
def mediaApartRow : OpenClaim := { program := "ytcpjokjfjhhndaa", sum := "12658765f4f413ddad36f8d1b261d715f6c1c5124da0bb843ca0172363491c6a", func := "tidegate/tidegatelaw14.MediaApart", spec := "mediaApart", inPlace := ["internal/bytealg.IndexByteString"], unfollowed := true, recurses := true, apart := false }
def MediaApartSaid : Prop := mediaApartRow.holds Try.pinned (OpenSpec.ofChange mediaApartSpec)

/-- ITS FALSE NEIGHBOUR: 'it returns false'. Refute it at one input. -/
def mediaApartWrong : ChangeSpec := { name := "mediaApart", fn := fun _ => fun
  | [d] => { results := [.lit (.bool false)], args := [d] }
  | _ => none }
def MediaApartWrongFalsely : Prop := mediaApartRow.holds Try.pinned (OpenSpec.ofChange mediaApartWrong)

/-- 'tidegatelaw14.MediaTypes': WHATEVER THE INPUT: true; the input reads as it did. -/
def mediaTypesSpec : ChangeSpec := { name := "mediaTypes", fn := fun _ => fun
  | [d] => { results := [.lit (.bool true)], args := [d] }
  | _ => none }
def mediaTypesRow : OpenClaim := { program := "ytcpjokjfjhhndaa", sum := "12658765f4f413ddad36f8d1b261d715f6c1c5124da0bb843ca0172363491c6a", func := "tidegate/tidegatelaw14.MediaTypes", spec := "mediaTypes", inPlace := ["internal/bytealg.IndexByteString"], unfollowed := true, recurses := true, apart := false }
def MediaTypesSaid : Prop := mediaTypesRow.holds Try.pinned (OpenSpec.ofChange mediaTypesSpec)

/-- ITS FALSE NEIGHBOUR: 'it returns false'. Refute it at one input. -/
def mediaTypesWrong : ChangeSpec := { name := "mediaTypes", fn := fun _ => fun
  | [d] => { results := [.lit (.bool false)], args := [d] }
  | _ => none }
def MediaTypesWrongFalsely : Prop := mediaTypesRow.holds Try.pinned (OpenSpec.ofChange mediaTypesWrong)

/-- 'tidegatelaw15.PackTypes': WHATEVER THE INPUT: true; the input reads as it did. -/
def packTypesSpec : ChangeSpec := { name := "packTypes", fn := fun _ => fun
  | [d] => { results := [.lit (.bool true)], args := [d] }
  | _ => none }
def packTypesRow : OpenClaim := { program := "ytcpjokjfjhhndaa", sum := "12658765f4f413ddad36f8d1b261d715f6c1c5124da0bb843ca0172363491c6a", func := "tidegate/tidegatelaw15.PackTypes", spec := "packTypes", inPlace := ["internal/bytealg.MakeNoZero", "internal/bytealg.IndexByteString"], unfollowed := true, recurses := true, apart := false }
def PackTypesSaid : Prop := packTypesRow.holds Try.pinned (OpenSpec.ofChange packTypesSpec)

/-- ITS FALSE NEIGHBOUR: 'it returns false'. Refute it at one input. -/
def packTypesWrong : ChangeSpec := { name := "packTypes", fn := fun _ => fun
  | [d] => { results := [.lit (.bool false)], args := [d] }
  | _ => none }
def PackTypesWrongFalsely : Prop := packTypesRow.holds Try.pinned (OpenSpec.ofChange packTypesWrong)

/-- 'tidegatelaw15.PackTables': WHATEVER THE INPUT: true; the input reads as it did. -/
def packTablesSpec : ChangeSpec := { name := "packTables", fn := fun _ => fun
  | [d] => { results := [.lit (.bool true)], args := [d] }
  | _ => none }
def packTablesRow : OpenClaim := { program := "ytcpjokjfjhhndaa", sum := "12658765f4f413ddad36f8d1b261d715f6c1c5124da0bb843ca0172363491c6a", func := "tidegate/tidegatelaw15.PackTables", spec := "packTables", inPlace := ["internal/bytealg.MakeNoZero", "internal/bytealg.IndexByteString"], unfollowed := true, recurses := true, apart := false }
def PackTablesSaid : Prop := packTablesRow.holds Try.pinned (OpenSpec.ofChange packTablesSpec)

/-- ITS FALSE NEIGHBOUR: 'it returns false'. Refute it at one input. -/
def packTablesWrong : ChangeSpec := { name := "packTables", fn := fun _ => fun
  | [d] => { results := [.lit (.bool false)], args := [d] }
  | _ => none }
def PackTablesWrongFalsely : Prop := packTablesRow.holds Try.pinned (OpenSpec.ofChange packTablesWrong)

/-- 'tidegatelaw15.PackMembers': WHATEVER THE INPUT: true; the input reads as it did. -/
def packMembersSpec : ChangeSpec := { name := "packMembers", fn := fun _ => fun
  | [d] => { results := [.lit (.bool true)], args := [d] }
  | _ => none }
def packMembersRow : OpenClaim := { program := "ytcpjokjfjhhndaa", sum := "12658765f4f413ddad36f8d1b261d715f6c1c5124da0bb843ca0172363491c6a", func := "tidegate/tidegatelaw15.PackMembers", spec := "packMembers", inPlace := ["internal/bytealg.MakeNoZero", "internal/bytealg.IndexByteString"], unfollowed := true, recurses := true, apart := false }
def PackMembersSaid : Prop := packMembersRow.holds Try.pinned (OpenSpec.ofChange packMembersSpec)

/-- ITS FALSE NEIGHBOUR: 'it returns false'. Refute it at one input. -/
def packMembersWrong : ChangeSpec := { name := "packMembers", fn := fun _ => fun
  | [d] => { results := [.lit (.bool false)], args := [d] }
  | _ => none }
def PackMembersWrongFalsely : Prop := packMembersRow.holds Try.pinned (OpenSpec.ofChange packMembersWrong)

/-- 'tidegatelaw15.PackCounts': WHATEVER THE INPUT: true; the input reads as it did. -/
def packCountsSpec : ChangeSpec := { name := "packCounts", fn := fun _ => fun
  | [d] => { results := [.lit (.bool true)], args := [d] }
  | _ => none }
def packCountsRow : OpenClaim := { program := "ytcpjokjfjhhndaa", sum := "12658765f4f413ddad36f8d1b261d715f6c1c5124da0bb843ca0172363491c6a", func := "tidegate/tidegatelaw15.PackCounts", spec := "packCounts", inPlace := ["internal/bytealg.MakeNoZero", "internal/bytealg.IndexByteString"], unfollowed := true, recurses := true, apart := false }
def PackCountsSaid : Prop := packCountsRow.holds Try.pinned (OpenSpec.ofChange packCountsSpec)

/-- ITS FALSE NEIGHBOUR: 'it returns false'. Refute it at one input. -/
def packCountsWrong : ChangeSpec := { name := "packCounts", fn := fun _ => fun
  | [d] => { results := [.lit (.bool false)], args := [d] }
  | _ => none }
def PackCountsWrongFalsely : Prop := packCountsRow.holds Try.pinned (OpenSpec.ofChange packCountsWrong)

/-- 'tidegatelaw13.ImageTable': WHATEVER THE INPUT: true; the input reads as it did. -/
def imageTableSpec : ChangeSpec := { name := "imageTable", fn := fun _ => fun
  | [d1, d2] => { results := [.lit (.bool true)], args := [d1, d2] }
  | _ => none }
def imageTableRow : OpenClaim := { program := "ytcpjokjfjhhndaa", sum := "12658765f4f413ddad36f8d1b261d715f6c1c5124da0bb843ca0172363491c6a", func := "tidegate/tidegatelaw13.ImageTable", spec := "imageTable", inPlace := ["internal/abi.NoEscape", "internal/bytealg.MakeNoZero", "internal/bytealg.IndexByteString"], unfollowed := true, recurses := true, apart := false }
def ImageTableSaid : Prop := imageTableRow.holds Try.pinned (OpenSpec.ofChange imageTableSpec)

/-- ITS FALSE NEIGHBOUR: 'it returns false'. Refute it at one input. -/
def imageTableWrong : ChangeSpec := { name := "imageTable", fn := fun _ => fun
  | [d1, d2] => { results := [.lit (.bool false)], args := [d1, d2] }
  | _ => none }
def ImageTableWrongFalsely : Prop := imageTableRow.holds Try.pinned (OpenSpec.ofChange imageTableWrong)

/-- 'tidegatelaw13.ImageTypes': WHATEVER THE INPUT: true; the input reads as it did. -/
def imageTypesSpec : ChangeSpec := { name := "imageTypes", fn := fun _ => fun
  | [d] => { results := [.lit (.bool true)], args := [d] }
  | _ => none }
def imageTypesRow : OpenClaim := { program := "ytcpjokjfjhhndaa", sum := "12658765f4f413ddad36f8d1b261d715f6c1c5124da0bb843ca0172363491c6a", func := "tidegate/tidegatelaw13.ImageTypes", spec := "imageTypes", inPlace := ["internal/abi.NoEscape", "internal/bytealg.MakeNoZero", "internal/bytealg.IndexByteString"], unfollowed := true, recurses := true, apart := false }
def ImageTypesSaid : Prop := imageTypesRow.holds Try.pinned (OpenSpec.ofChange imageTypesSpec)

/-- ITS FALSE NEIGHBOUR: 'it returns false'. Refute it at one input. -/
def imageTypesWrong : ChangeSpec := { name := "imageTypes", fn := fun _ => fun
  | [d] => { results := [.lit (.bool false)], args := [d] }
  | _ => none }
def ImageTypesWrongFalsely : Prop := imageTypesRow.holds Try.pinned (OpenSpec.ofChange imageTypesWrong)

/-- 'tidegatelaw13.ImageGrows': WHATEVER THE INPUT: true; the input reads as it did. -/
def imageGrowsSpec : ChangeSpec := { name := "imageGrows", fn := fun _ => fun
  | [d1, d2] => { results := [.lit (.bool true)], args := [d1, d2] }
  | _ => none }
def imageGrowsRow : OpenClaim := { program := "ytcpjokjfjhhndaa", sum := "12658765f4f413ddad36f8d1b261d715f6c1c5124da0bb843ca0172363491c6a", func := "tidegate/tidegatelaw13.ImageGrows", spec := "imageGrows", inPlace := ["internal/abi.NoEscape", "internal/bytealg.MakeNoZero", "internal/bytealg.IndexByteString"], unfollowed := true, recurses := true, apart := false }
def ImageGrowsSaid : Prop := imageGrowsRow.holds Try.pinned (OpenSpec.ofChange imageGrowsSpec)

/-- ITS FALSE NEIGHBOUR: 'it returns false'. Refute it at one input. -/
def imageGrowsWrong : ChangeSpec := { name := "imageGrows", fn := fun _ => fun
  | [d1, d2] => { results := [.lit (.bool false)], args := [d1, d2] }
  | _ => none }
def ImageGrowsWrongFalsely : Prop := imageGrowsRow.holds Try.pinned (OpenSpec.ofChange imageGrowsWrong)

/- THE SECOND FORM. 'bulk': how many values and letters a reading holds, each counted each time it is reached (what is shared counts as often as it is met; a slice's spare places count too). A statement '..UptoSaid' is the law's where the arguments, and the package variables that the reading takes, are together of bulk at most 1048576: NARROWER than '..Said'. Prove '..Said' where nothing that the law and all that it calls make is longer than what came in: it says more and counts as full. Else prove '..UptoSaid'. A law counts once. -/
mutual
def uptoBulk {H : Type} : DataW H → Nat
  | .lit (.string bytes) => bytes.length + 1
  | .lit _ => 1
  | .nil => 1
  | .ptr d => uptoBulk d + 1
  | .slice elems spare => uptoBulkAll elems + uptoBulkAll spare + 1
  | .agg parts => uptoBulkAll parts + 1
  | .iface _ d => uptoBulk d + 1
  | .map entries => uptoBulkEntries entries + 1
  | .held _ => 1
def uptoBulkAll {H : Type} : List (DataW H) → Nat
  | [] => 0
  | d :: r => uptoBulk d + uptoBulkAll r
def uptoBulkEntries {H : Type} : List (Lit × DataW H) → Nat
  | [] => 0
  | x :: r => uptoBulkEntry x + uptoBulkEntries r
def uptoBulkEntry {H : Type} : Lit × DataW H → Nat
  | (.string bytes, d) => bytes.length + uptoBulk d + 1
  | (_, d) => uptoBulk d + 1
 end
def uptoSmall : (H : Type) → List (DataW H) → Bool := fun _ ds => decide (uptoBulkAll ds ≤ 1048576)
def OpenSpec.upto (s : _root_.Go.ChangeSpec) : _root_.Go.OpenSpec := { _root_.Go.OpenSpec.ofChange s with cond := some uptoSmall }

/-- 'tidegatelaw06.MaskFirst', WHERE WHAT IT READS IS OF BULK AT MOST 1048576: true; the input reads as it did. -/
def maskFirstUptoRow : OpenClaim := { program := "ytcpjokjfjhhndaa", sum := "12658765f4f413ddad36f8d1b261d715f6c1c5124da0bb843ca0172363491c6a", func := "tidegate/tidegatelaw06.MaskFirst", spec := "maskFirst", inPlace := ["internal/bytealg.IndexByteString"], unfollowed := true, recurses := true, apart := false, narrowed := true }
def MaskFirstUptoSaid : Prop := maskFirstUptoRow.holds Try.pinned (OpenSpec.upto maskFirstSpec)

/-- 'tidegatelaw06.MaskMatches', WHERE WHAT IT READS IS OF BULK AT MOST 1048576: true; the input reads as it did. -/
def maskMatchesUptoRow : OpenClaim := { program := "ytcpjokjfjhhndaa", sum := "12658765f4f413ddad36f8d1b261d715f6c1c5124da0bb843ca0172363491c6a", func := "tidegate/tidegatelaw06.MaskMatches", spec := "maskMatches", inPlace := ["internal/bytealg.IndexByteString"], unfollowed := true, recurses := true, apart := false, narrowed := true }
def MaskMatchesUptoSaid : Prop := maskMatchesUptoRow.holds Try.pinned (OpenSpec.upto maskMatchesSpec)

/-- 'tidegatelaw14.MediaChunks', WHERE WHAT IT READS IS OF BULK AT MOST 1048576: true; the input reads as it did. -/
def mediaChunksUptoRow : OpenClaim := { program := "ytcpjokjfjhhndaa", sum := "12658765f4f413ddad36f8d1b261d715f6c1c5124da0bb843ca0172363491c6a", func := "tidegate/tidegatelaw14.MediaChunks", spec := "mediaChunks", inPlace := ["internal/bytealg.IndexByteString"], unfollowed := true, recurses := true, apart := false, narrowed := true }
def MediaChunksUptoSaid : Prop := mediaChunksUptoRow.holds Try.pinned (OpenSpec.upto mediaChunksSpec)

/-- 'tidegatelaw14.MediaTable', WHERE WHAT IT READS IS OF BULK AT MOST 1048576: true; the input reads as it did. -/
def mediaTableUptoRow : OpenClaim := { program := "ytcpjokjfjhhndaa", sum := "12658765f4f413ddad36f8d1b261d715f6c1c5124da0bb843ca0172363491c6a", func := "tidegate/tidegatelaw14.MediaTable", spec := "mediaTable", inPlace := ["internal/bytealg.IndexByteString"], unfollowed := true, recurses := true, apart := false, narrowed := true }
def MediaTableUptoSaid : Prop := mediaTableUptoRow.holds Try.pinned (OpenSpec.upto mediaTableSpec)

/-- 'tidegatelaw14.MediaApart', WHERE WHAT IT READS IS OF BULK AT MOST 1048576: true; the input reads as it did. -/
def mediaApartUptoRow : OpenClaim := { program := "ytcpjokjfjhhndaa", sum := "12658765f4f413ddad36f8d1b261d715f6c1c5124da0bb843ca0172363491c6a", func := "tidegate/tidegatelaw14.MediaApart", spec := "mediaApart", inPlace := ["internal/bytealg.IndexByteString"], unfollowed := true, recurses := true, apart := false, narrowed := true }
def MediaApartUptoSaid : Prop := mediaApartUptoRow.holds Try.pinned (OpenSpec.upto mediaApartSpec)

/-- 'tidegatelaw14.MediaTypes', WHERE WHAT IT READS IS OF BULK AT MOST 1048576: true; the input reads as it did. -/
def mediaTypesUptoRow : OpenClaim := { program := "ytcpjokjfjhhndaa", sum := "12658765f4f413ddad36f8d1b261d715f6c1c5124da0bb843ca0172363491c6a", func := "tidegate/tidegatelaw14.MediaTypes", spec := "mediaTypes", inPlace := ["internal/bytealg.IndexByteString"], unfollowed := true, recurses := true, apart := false, narrowed := true }
def MediaTypesUptoSaid : Prop := mediaTypesUptoRow.holds Try.pinned (OpenSpec.upto mediaTypesSpec)

/-- 'tidegatelaw15.PackTypes', WHERE WHAT IT READS IS OF BULK AT MOST 1048576: true; the input reads as it did. -/
def packTypesUptoRow : OpenClaim := { program := "ytcpjokjfjhhndaa", sum := "12658765f4f413ddad36f8d1b261d715f6c1c5124da0bb843ca0172363491c6a", func := "tidegate/tidegatelaw15.PackTypes", spec := "packTypes", inPlace := ["internal/bytealg.MakeNoZero", "internal/bytealg.IndexByteString"], unfollowed := true, recurses := true, apart := false, narrowed := true }
def PackTypesUptoSaid : Prop := packTypesUptoRow.holds Try.pinned (OpenSpec.upto packTypesSpec)

/-- 'tidegatelaw15.PackTables', WHERE WHAT IT READS IS OF BULK AT MOST 1048576: true; the input reads as it did. -/
def packTablesUptoRow : OpenClaim := { program := "ytcpjokjfjhhndaa", sum := "12658765f4f413ddad36f8d1b261d715f6c1c5124da0bb843ca0172363491c6a", func := "tidegate/tidegatelaw15.PackTables", spec := "packTables", inPlace := ["internal/bytealg.MakeNoZero", "internal/bytealg.IndexByteString"], unfollowed := true, recurses := true, apart := false, narrowed := true }
def PackTablesUptoSaid : Prop := packTablesUptoRow.holds Try.pinned (OpenSpec.upto packTablesSpec)

/-- 'tidegatelaw15.PackMembers', WHERE WHAT IT READS IS OF BULK AT MOST 1048576: true; the input reads as it did. -/
def packMembersUptoRow : OpenClaim := { program := "ytcpjokjfjhhndaa", sum := "12658765f4f413ddad36f8d1b261d715f6c1c5124da0bb843ca0172363491c6a", func := "tidegate/tidegatelaw15.PackMembers", spec := "packMembers", inPlace := ["internal/bytealg.MakeNoZero", "internal/bytealg.IndexByteString"], unfollowed := true, recurses := true, apart := false, narrowed := true }
def PackMembersUptoSaid : Prop := packMembersUptoRow.holds Try.pinned (OpenSpec.upto packMembersSpec)

/-- 'tidegatelaw15.PackCounts', WHERE WHAT IT READS IS OF BULK AT MOST 1048576: true; the input reads as it did. -/
def packCountsUptoRow : OpenClaim := { program := "ytcpjokjfjhhndaa", sum := "12658765f4f413ddad36f8d1b261d715f6c1c5124da0bb843ca0172363491c6a", func := "tidegate/tidegatelaw15.PackCounts", spec := "packCounts", inPlace := ["internal/bytealg.MakeNoZero", "internal/bytealg.IndexByteString"], unfollowed := true, recurses := true, apart := false, narrowed := true }
def PackCountsUptoSaid : Prop := packCountsUptoRow.holds Try.pinned (OpenSpec.upto packCountsSpec)

/-- 'tidegatelaw13.ImageTable', WHERE WHAT IT READS IS OF BULK AT MOST 1048576: true; the input reads as it did. -/
def imageTableUptoRow : OpenClaim := { program := "ytcpjokjfjhhndaa", sum := "12658765f4f413ddad36f8d1b261d715f6c1c5124da0bb843ca0172363491c6a", func := "tidegate/tidegatelaw13.ImageTable", spec := "imageTable", inPlace := ["internal/abi.NoEscape", "internal/bytealg.MakeNoZero", "internal/bytealg.IndexByteString"], unfollowed := true, recurses := true, apart := false, narrowed := true }
def ImageTableUptoSaid : Prop := imageTableUptoRow.holds Try.pinned (OpenSpec.upto imageTableSpec)

/-- 'tidegatelaw13.ImageTypes', WHERE WHAT IT READS IS OF BULK AT MOST 1048576: true; the input reads as it did. -/
def imageTypesUptoRow : OpenClaim := { program := "ytcpjokjfjhhndaa", sum := "12658765f4f413ddad36f8d1b261d715f6c1c5124da0bb843ca0172363491c6a", func := "tidegate/tidegatelaw13.ImageTypes", spec := "imageTypes", inPlace := ["internal/abi.NoEscape", "internal/bytealg.MakeNoZero", "internal/bytealg.IndexByteString"], unfollowed := true, recurses := true, apart := false, narrowed := true }
def ImageTypesUptoSaid : Prop := imageTypesUptoRow.holds Try.pinned (OpenSpec.upto imageTypesSpec)

/-- 'tidegatelaw13.ImageGrows', WHERE WHAT IT READS IS OF BULK AT MOST 1048576: true; the input reads as it did. -/
def imageGrowsUptoRow : OpenClaim := { program := "ytcpjokjfjhhndaa", sum := "12658765f4f413ddad36f8d1b261d715f6c1c5124da0bb843ca0172363491c6a", func := "tidegate/tidegatelaw13.ImageGrows", spec := "imageGrows", inPlace := ["internal/abi.NoEscape", "internal/bytealg.MakeNoZero", "internal/bytealg.IndexByteString"], unfollowed := true, recurses := true, apart := false, narrowed := true }
def ImageGrowsUptoSaid : Prop := imageGrowsUptoRow.holds Try.pinned (OpenSpec.upto imageGrowsSpec)

end Rows
end Go.Proofs.Ytcpjokjfjhhndaa
