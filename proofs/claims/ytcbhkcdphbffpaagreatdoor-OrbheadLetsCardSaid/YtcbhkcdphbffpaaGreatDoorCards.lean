/-
  DERIVED. GIVEN WITH THE SEED: THE CARDS: each row of YtcbhkcdphbffpaaGreatDoorRows.lean that lists a variable, with what it lists TIED to the program's text (the seventh form; the later family's looks); each row that meets fmt, with fmt's text TOLD by the authors' own Lean function (tested against real Go, not proved from fmt's source: count such statements apart). THE CARD IS WHAT COUNTS. Prove the row's statement (the work); the ties are given (YtcbhkcdphbffpaaGreatDoorTie.lean); close each card by the builder's one call (the guide's Derived/Test/ToyasCard.lean, 'card_holds'). Laid BY PROGRAM, IN A SANDBOX (cutbox-door.mjs). By AI agents, Wed Nov 11 2026. No macro, syntax, notation, axiom, sorry.
-/
import Derived.Test.YtcbhkcdphbffpaaGreatDoorRows
import GoSem.ClaimSeven
namespace Go.Proofs.YtcbhkcdphbffpaaGreatDoor
namespace Rows

/-- THE TIED CARD OF 'tidegatelaw30.OrbheadOf'. -/
def orbheadOfCard : Claim7 := { stood := { row := orbheadOfRow, standIns := [], harness := (true, "65c4956ee63c776b09518e4cde38003b212c38e08813a932d829d019c1932f7f"), looks := true }, kinds := [], alts := [], laidByText := true, laidKinds := [.listed, .data], laidTests := true, laidLooks := .later }
def OrbheadOfCardSaid : Prop := Claim7.holds Tryz.pinned (.plain (OpenSpec.ofChange orbheadOfSpec)) orbheadOfCard

/-- THE TIED CARD OF 'tidegatelaw30.OrbheadLets'. -/
def orbheadLetsCard : Claim7 := { stood := { row := orbheadLetsRow, standIns := [], harness := (true, "65c4956ee63c776b09518e4cde38003b212c38e08813a932d829d019c1932f7f"), looks := true }, kinds := [], alts := [], laidByText := true, laidKinds := [.listed, .data], laidTests := true, laidLooks := .later }
def OrbheadLetsCardSaid : Prop := Claim7.holds Tryz.pinned (.plain (OpenSpec.ofChange orbheadLetsSpec)) orbheadLetsCard

/-- THE TIED CARD OF 'tidegatelaw30.OrbheadParts'. -/
def orbheadPartsCard : Claim7 := { stood := { row := orbheadPartsRow, standIns := [], harness := (true, "65c4956ee63c776b09518e4cde38003b212c38e08813a932d829d019c1932f7f"), looks := true }, kinds := [], alts := [], laidByText := true, laidKinds := [.listed, .data], laidTests := true, laidLooks := .later }
def OrbheadPartsCardSaid : Prop := Claim7.holds Tryz.pinned (.plain (OpenSpec.ofChange orbheadPartsSpec)) orbheadPartsCard

/-- THE SECOND FORM's CARD OF 'tidegatelaw30.OrbheadOf'. -/
def orbheadOfUptoCard : Claim7 := { stood := { row := orbheadOfUptoRow, standIns := [], harness := (true, "65c4956ee63c776b09518e4cde38003b212c38e08813a932d829d019c1932f7f"), looks := true }, kinds := [], alts := [], laidByText := true, laidKinds := [.listed, .data], laidTests := true, laidLooks := .later }
def OrbheadOfUptoCardSaid : Prop := Claim7.holds Tryz.pinned (.plain (OpenSpec.upto orbheadOfSpec)) orbheadOfUptoCard

/-- THE SECOND FORM's CARD OF 'tidegatelaw30.OrbheadLets'. -/
def orbheadLetsUptoCard : Claim7 := { stood := { row := orbheadLetsUptoRow, standIns := [], harness := (true, "65c4956ee63c776b09518e4cde38003b212c38e08813a932d829d019c1932f7f"), looks := true }, kinds := [], alts := [], laidByText := true, laidKinds := [.listed, .data], laidTests := true, laidLooks := .later }
def OrbheadLetsUptoCardSaid : Prop := Claim7.holds Tryz.pinned (.plain (OpenSpec.upto orbheadLetsSpec)) orbheadLetsUptoCard

/-- THE SECOND FORM's CARD OF 'tidegatelaw30.OrbheadParts'. -/
def orbheadPartsUptoCard : Claim7 := { stood := { row := orbheadPartsUptoRow, standIns := [], harness := (true, "65c4956ee63c776b09518e4cde38003b212c38e08813a932d829d019c1932f7f"), looks := true }, kinds := [], alts := [], laidByText := true, laidKinds := [.listed, .data], laidTests := true, laidLooks := .later }
def OrbheadPartsUptoCardSaid : Prop := Claim7.holds Tryz.pinned (.plain (OpenSpec.upto orbheadPartsSpec)) orbheadPartsUptoCard
end Rows
end Go.Proofs.YtcbhkcdphbffpaaGreatDoor
