/-
  DERIVED. GIVEN WITH THE SEED: THE CARDS: each row of YtigclegknofhmaaDoorRows.lean that lists a variable, with what it lists TIED to the program's text (the seventh form; the later family's looks); each row that meets fmt, with fmt's text TOLD by the authors' own Lean function (tested against real Go, not proved from fmt's source: count such statements apart). THE CARD IS WHAT COUNTS. Prove the row's statement (the work); the ties are given (YtigclegknofhmaaDoorTie.lean); close each card by the builder's one call (the guide's Derived/Test/ToyasCard.lean, 'card_holds'). Laid BY PROGRAM, IN A SANDBOX (cutbox-door.mjs). By AI agents, Wed Nov 11 2026. No macro, syntax, notation, axiom, sorry.
-/
import Derived.Test.YtigclegknofhmaaDoorRows
import GoSem.ClaimSeven
namespace Go.Proofs.YtigclegknofhmaaDoor
namespace Rows

/-- THE TIED CARD OF 'tidegatelaw12.GroupKinds'. -/
def groupKindsCard : Claim7 := { stood := { row := groupKindsRow, standIns := [], harness := (true, "428a70f9129cf9e2672c5c28cba614219814fe7ea8495c1a5c27e5ec8911d98e"), looks := false }, kinds := [], alts := [], laidByText := true, laidKinds := [.listed, .data], laidTests := true, laidLooks := .later }
def GroupKindsCardSaid : Prop := Claim7.holds Tryd.pinned (.plain (OpenSpec.ofChange groupKindsSpec)) groupKindsCard

/-- THE TIED CARD OF 'tidegatelaw12.GroupMedia'. -/
def groupMediaCard : Claim7 := { stood := { row := groupMediaRow, standIns := [], harness := (true, "428a70f9129cf9e2672c5c28cba614219814fe7ea8495c1a5c27e5ec8911d98e"), looks := false }, kinds := [], alts := [], laidByText := true, laidKinds := [.listed, .data], laidTests := true, laidLooks := .later }
def GroupMediaCardSaid : Prop := Claim7.holds Tryd.pinned (.plain (OpenSpec.ofChange groupMediaSpec)) groupMediaCard

/-- THE TIED CARD OF 'tidegatelaw05.DecimalTexts'. -/
def decimalTextsCard : Claim7 := { stood := { row := decimalTextsRow, standIns := [], harness := (true, "428a70f9129cf9e2672c5c28cba614219814fe7ea8495c1a5c27e5ec8911d98e"), looks := false }, kinds := [], alts := [], laidByText := true, laidKinds := [.data, .data, .data], laidTests := true, laidLooks := .later }
def DecimalTextsCardSaid : Prop := Claim7.holds Tryd.pinned (.plain (OpenSpec.ofChange decimalTextsSpec)) decimalTextsCard

/-- THE TIED CARD OF 'tidegatelaw12.GroupLists'. -/
def groupListsCard : Claim7 := { stood := { row := groupListsRow, standIns := [], harness := (true, "428a70f9129cf9e2672c5c28cba614219814fe7ea8495c1a5c27e5ec8911d98e"), looks := false }, kinds := [], alts := [], laidByText := true, laidKinds := [.listed, .data], laidTests := true, laidLooks := .later }
def GroupListsCardSaid : Prop := Claim7.holds Tryd.pinned (.plain (OpenSpec.ofChange groupListsSpec)) groupListsCard

/-- THE SECOND FORM's CARD OF 'tidegatelaw12.GroupKinds'. -/
def groupKindsUptoCard : Claim7 := { stood := { row := groupKindsUptoRow, standIns := [], harness := (true, "428a70f9129cf9e2672c5c28cba614219814fe7ea8495c1a5c27e5ec8911d98e"), looks := false }, kinds := [], alts := [], laidByText := true, laidKinds := [.listed, .data], laidTests := true, laidLooks := .later }
def GroupKindsUptoCardSaid : Prop := Claim7.holds Tryd.pinned (.plain (OpenSpec.upto groupKindsSpec)) groupKindsUptoCard

/-- THE SECOND FORM's CARD OF 'tidegatelaw12.GroupMedia'. -/
def groupMediaUptoCard : Claim7 := { stood := { row := groupMediaUptoRow, standIns := [], harness := (true, "428a70f9129cf9e2672c5c28cba614219814fe7ea8495c1a5c27e5ec8911d98e"), looks := false }, kinds := [], alts := [], laidByText := true, laidKinds := [.listed, .data], laidTests := true, laidLooks := .later }
def GroupMediaUptoCardSaid : Prop := Claim7.holds Tryd.pinned (.plain (OpenSpec.upto groupMediaSpec)) groupMediaUptoCard

/-- THE SECOND FORM's CARD OF 'tidegatelaw05.DecimalTexts'. -/
def decimalTextsUptoCard : Claim7 := { stood := { row := decimalTextsUptoRow, standIns := [], harness := (true, "428a70f9129cf9e2672c5c28cba614219814fe7ea8495c1a5c27e5ec8911d98e"), looks := false }, kinds := [], alts := [], laidByText := true, laidKinds := [.data, .data, .data], laidTests := true, laidLooks := .later }
def DecimalTextsUptoCardSaid : Prop := Claim7.holds Tryd.pinned (.plain (OpenSpec.upto decimalTextsSpec)) decimalTextsUptoCard

/-- THE SECOND FORM's CARD OF 'tidegatelaw12.GroupLists'. -/
def groupListsUptoCard : Claim7 := { stood := { row := groupListsUptoRow, standIns := [], harness := (true, "428a70f9129cf9e2672c5c28cba614219814fe7ea8495c1a5c27e5ec8911d98e"), looks := false }, kinds := [], alts := [], laidByText := true, laidKinds := [.listed, .data], laidTests := true, laidLooks := .later }
def GroupListsUptoCardSaid : Prop := Claim7.holds Tryd.pinned (.plain (OpenSpec.upto groupListsSpec)) groupListsUptoCard
end Rows
end Go.Proofs.YtigclegknofhmaaDoor
