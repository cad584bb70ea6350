/-
  DERIVED. GIVEN WITH THE SEED: THE CARDS: each row of YtjlemghmpnkncaaDoorRows.lean that lists a variable, with what it lists TIED to the program's text (the seventh form; the later family's looks); each row that meets fmt, with fmt's text TOLD by the authors' own Lean function (tested against real Go, not proved from fmt's source: count such statements apart). THE CARD IS WHAT COUNTS. Prove the row's statement (the work); the ties are given (YtjlemghmpnkncaaDoorTie.lean); close each card by the builder's one call (the guide's Derived/Test/ToyasCard.lean, 'card_holds'). Laid BY PROGRAM, IN A SANDBOX (cutbox-door.mjs). By AI agents, Wed Nov 11 2026. No macro, syntax, notation, axiom, sorry.
-/
import Derived.Test.YtjlemghmpnkncaaDoorRows
import GoSem.ClaimSeven
namespace Go.Proofs.YtjlemghmpnkncaaDoor
namespace Rows

/-- THE TIED CARD OF 'tidegatelaw25.StatusClasses'. -/
def statusClassesCard : Claim7 := { stood := { row := statusClassesRow, standIns := [], harness := (true, "40e2d7a17c7bede6098c4b701d042cb61b673e21c7f7d143dbd7219aaea1a5b3"), looks := true }, kinds := [], alts := [], laidByText := true, laidKinds := [.listed, .data], laidTests := true, laidLooks := .later }
def StatusClassesCardSaid : Prop := Claim7.holds Tryd.pinned (.plain (OpenSpec.ofChange statusClassesSpec)) statusClassesCard

/-- THE TIED CARD OF 'tidegatelaw25.StatusWrites'. -/
def statusWritesCard : Claim7 := { stood := { row := statusWritesRow, standIns := [], harness := (true, "40e2d7a17c7bede6098c4b701d042cb61b673e21c7f7d143dbd7219aaea1a5b3"), looks := true }, kinds := [], alts := [], laidByText := true, laidKinds := [.data, .data, .data], laidTests := true, laidLooks := .later }
def StatusWritesCardSaid : Prop := Claim7.holds Tryd.pinned (.plain (OpenSpec.ofChange statusWritesSpec)) statusWritesCard

/-- THE TIED CARD OF 'tidegatelaw24.RangesWrites'. -/
def rangesWritesCard : Claim7 := { stood := { row := rangesWritesRow, standIns := [], harness := (true, "40e2d7a17c7bede6098c4b701d042cb61b673e21c7f7d143dbd7219aaea1a5b3"), looks := true }, kinds := [], alts := [], laidByText := true, laidKinds := [.data, .data, .data], laidTests := true, laidLooks := .later }
def RangesWritesCardSaid : Prop := Claim7.holds Tryd.pinned (.plain (OpenSpec.ofChange rangesWritesSpec)) rangesWritesCard

/-- THE SECOND FORM's CARD OF 'tidegatelaw25.StatusClasses'. -/
def statusClassesUptoCard : Claim7 := { stood := { row := statusClassesUptoRow, standIns := [], harness := (true, "40e2d7a17c7bede6098c4b701d042cb61b673e21c7f7d143dbd7219aaea1a5b3"), looks := true }, kinds := [], alts := [], laidByText := true, laidKinds := [.listed, .data], laidTests := true, laidLooks := .later }
def StatusClassesUptoCardSaid : Prop := Claim7.holds Tryd.pinned (.plain (OpenSpec.upto statusClassesSpec)) statusClassesUptoCard

/-- THE SECOND FORM's CARD OF 'tidegatelaw25.StatusWrites'. -/
def statusWritesUptoCard : Claim7 := { stood := { row := statusWritesUptoRow, standIns := [], harness := (true, "40e2d7a17c7bede6098c4b701d042cb61b673e21c7f7d143dbd7219aaea1a5b3"), looks := true }, kinds := [], alts := [], laidByText := true, laidKinds := [.data, .data, .data], laidTests := true, laidLooks := .later }
def StatusWritesUptoCardSaid : Prop := Claim7.holds Tryd.pinned (.plain (OpenSpec.upto statusWritesSpec)) statusWritesUptoCard

/-- THE SECOND FORM's CARD OF 'tidegatelaw24.RangesWrites'. -/
def rangesWritesUptoCard : Claim7 := { stood := { row := rangesWritesUptoRow, standIns := [], harness := (true, "40e2d7a17c7bede6098c4b701d042cb61b673e21c7f7d143dbd7219aaea1a5b3"), looks := true }, kinds := [], alts := [], laidByText := true, laidKinds := [.data, .data, .data], laidTests := true, laidLooks := .later }
def RangesWritesUptoCardSaid : Prop := Claim7.holds Tryd.pinned (.plain (OpenSpec.upto rangesWritesSpec)) rangesWritesUptoCard
end Rows
end Go.Proofs.YtjlemghmpnkncaaDoor
