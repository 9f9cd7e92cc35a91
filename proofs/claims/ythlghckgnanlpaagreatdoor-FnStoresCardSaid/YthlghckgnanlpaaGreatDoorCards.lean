/-
  DERIVED. GIVEN WITH THE SEED: THE CARDS: each row of YthlghckgnanlpaaGreatDoorRows.lean that lists a variable, with what it lists TIED to the program's text (the seventh form; the later family's looks); each row that meets fmt, with fmt's text TOLD by the authors' own Lean function (tested against real Go, not proved from fmt's source: count such statements apart). THE CARD IS WHAT COUNTS. Prove the row's statement (the work); the ties are given (YthlghckgnanlpaaGreatDoorTie.lean); close each card by the builder's one call (the guide's Derived/Test/ToyasCard.lean, 'card_holds'). Laid BY PROGRAM, IN A SANDBOX (cutbox-door.mjs). By AI agents, Wed Nov 11 2026. No macro, syntax, notation, axiom, sorry.
-/
import Derived.Test.YthlghckgnanlpaaGreatDoorRows
import GoSem.ClaimSeven
namespace Go.Proofs.YthlghckgnanlpaaGreatDoor
namespace Rows

/-- THE TIED CARD OF 'laws.FnInk'. -/
def fnInkCard : Claim7 := { stood := { row := fnInkRow, standIns := [], harness := (true, "00e2698d828c446cf3aa74638b276850451084458f15901ce8c3ecdcb349fc25"), looks := true }, kinds := [], alts := [], laidByText := true, laidKinds := [.data, .data, .data, .data, .sentinel, .sentinel, .pinned], laidTests := true, laidLooks := .later }
def FnInkCardSaid : Prop := Claim7.holds Tryz.pinned (.plain (OpenSpec.ofChange fnInkSpec)) fnInkCard

/-- THE TIED CARD OF 'laws.FnFiles'. -/
def fnFilesCard : Claim7 := { stood := { row := fnFilesRow, standIns := [], harness := (true, "00e2698d828c446cf3aa74638b276850451084458f15901ce8c3ecdcb349fc25"), looks := true }, kinds := [], alts := [], laidByText := true, laidKinds := [.data, .data, .data, .data, .sentinel, .sentinel, .pinned], laidTests := true, laidLooks := .later }
def FnFilesCardSaid : Prop := Claim7.holds Tryz.pinned (.plain (OpenSpec.ofChange fnFilesSpec)) fnFilesCard

/-- THE TIED CARD OF 'laws.FnFeatTurns'. -/
def fnFeatTurnsCard : Claim7 := { stood := { row := fnFeatTurnsRow, standIns := [], harness := (true, "00e2698d828c446cf3aa74638b276850451084458f15901ce8c3ecdcb349fc25"), looks := true }, kinds := [], alts := [], laidByText := true, laidKinds := [.data, .data, .data, .data, .sentinel, .sentinel, .pinned], laidTests := true, laidLooks := .later }
def FnFeatTurnsCardSaid : Prop := Claim7.holds Tryz.pinned (.plain (OpenSpec.ofChange fnFeatTurnsSpec)) fnFeatTurnsCard

/-- THE TIED CARD OF 'laws.FnStores'. -/
def fnStoresCard : Claim7 := { stood := { row := fnStoresRow, standIns := [], harness := (true, "00e2698d828c446cf3aa74638b276850451084458f15901ce8c3ecdcb349fc25"), looks := true }, kinds := [], alts := [], laidByText := true, laidKinds := [.data, .data, .data, .data, .sentinel, .sentinel, .pinned], laidTests := true, laidLooks := .later }
def FnStoresCardSaid : Prop := Claim7.holds Tryz.pinned (.plain (OpenSpec.ofChange fnStoresSpec)) fnStoresCard

/-- THE TIED CARD OF 'laws.FnModels'. -/
def fnModelsCard : Claim7 := { stood := { row := fnModelsRow, standIns := [], harness := (true, "00e2698d828c446cf3aa74638b276850451084458f15901ce8c3ecdcb349fc25"), looks := true }, kinds := [], alts := [], laidByText := true, laidKinds := [.data, .data, .data, .data, .sentinel, .sentinel, .pinned], laidTests := true, laidLooks := .later }
def FnModelsCardSaid : Prop := Claim7.holds Tryz.pinned (.plain (OpenSpec.ofChange fnModelsSpec)) fnModelsCard

/-- THE SECOND FORM's CARD OF 'laws.FnInk'. -/
def fnInkUptoCard : Claim7 := { stood := { row := fnInkUptoRow, standIns := [], harness := (true, "00e2698d828c446cf3aa74638b276850451084458f15901ce8c3ecdcb349fc25"), looks := true }, kinds := [], alts := [], laidByText := true, laidKinds := [.data, .data, .data, .data, .sentinel, .sentinel, .pinned], laidTests := true, laidLooks := .later }
def FnInkUptoCardSaid : Prop := Claim7.holds Tryz.pinned (.plain (OpenSpec.upto fnInkSpec)) fnInkUptoCard

/-- THE SECOND FORM's CARD OF 'laws.FnFiles'. -/
def fnFilesUptoCard : Claim7 := { stood := { row := fnFilesUptoRow, standIns := [], harness := (true, "00e2698d828c446cf3aa74638b276850451084458f15901ce8c3ecdcb349fc25"), looks := true }, kinds := [], alts := [], laidByText := true, laidKinds := [.data, .data, .data, .data, .sentinel, .sentinel, .pinned], laidTests := true, laidLooks := .later }
def FnFilesUptoCardSaid : Prop := Claim7.holds Tryz.pinned (.plain (OpenSpec.upto fnFilesSpec)) fnFilesUptoCard

/-- THE SECOND FORM's CARD OF 'laws.FnFeatTurns'. -/
def fnFeatTurnsUptoCard : Claim7 := { stood := { row := fnFeatTurnsUptoRow, standIns := [], harness := (true, "00e2698d828c446cf3aa74638b276850451084458f15901ce8c3ecdcb349fc25"), looks := true }, kinds := [], alts := [], laidByText := true, laidKinds := [.data, .data, .data, .data, .sentinel, .sentinel, .pinned], laidTests := true, laidLooks := .later }
def FnFeatTurnsUptoCardSaid : Prop := Claim7.holds Tryz.pinned (.plain (OpenSpec.upto fnFeatTurnsSpec)) fnFeatTurnsUptoCard

/-- THE SECOND FORM's CARD OF 'laws.FnStores'. -/
def fnStoresUptoCard : Claim7 := { stood := { row := fnStoresUptoRow, standIns := [], harness := (true, "00e2698d828c446cf3aa74638b276850451084458f15901ce8c3ecdcb349fc25"), looks := true }, kinds := [], alts := [], laidByText := true, laidKinds := [.data, .data, .data, .data, .sentinel, .sentinel, .pinned], laidTests := true, laidLooks := .later }
def FnStoresUptoCardSaid : Prop := Claim7.holds Tryz.pinned (.plain (OpenSpec.upto fnStoresSpec)) fnStoresUptoCard

/-- THE SECOND FORM's CARD OF 'laws.FnModels'. -/
def fnModelsUptoCard : Claim7 := { stood := { row := fnModelsUptoRow, standIns := [], harness := (true, "00e2698d828c446cf3aa74638b276850451084458f15901ce8c3ecdcb349fc25"), looks := true }, kinds := [], alts := [], laidByText := true, laidKinds := [.data, .data, .data, .data, .sentinel, .sentinel, .pinned], laidTests := true, laidLooks := .later }
def FnModelsUptoCardSaid : Prop := Claim7.holds Tryz.pinned (.plain (OpenSpec.upto fnModelsSpec)) fnModelsUptoCard
end Rows
end Go.Proofs.YthlghckgnanlpaaGreatDoor
