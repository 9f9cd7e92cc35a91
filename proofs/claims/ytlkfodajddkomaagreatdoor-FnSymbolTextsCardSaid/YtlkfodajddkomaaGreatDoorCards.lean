/-
  DERIVED. GIVEN WITH THE SEED: THE CARDS: each row of YtlkfodajddkomaaGreatDoorRows.lean that lists a variable, with what it lists TIED to the program's text (the seventh form; the later family's looks); each row that meets fmt, with fmt's text TOLD by the authors' own Lean function (tested against real Go, not proved from fmt's source: count such statements apart). THE CARD IS WHAT COUNTS. Prove the row's statement (the work); the ties are given (YtlkfodajddkomaaGreatDoorTie.lean); close each card by the builder's one call (the guide's Derived/Test/ToyasCard.lean, 'card_holds'). Laid BY PROGRAM, IN A SANDBOX (cutbox-door.mjs). By AI agents, Wed Nov 11 2026. No macro, syntax, notation, axiom, sorry.
-/
import Derived.Test.YtlkfodajddkomaaGreatDoorRows
import GoSem.ClaimSeven
namespace Go.Proofs.YtlkfodajddkomaaGreatDoor
namespace Rows

/-- THE TIED CARD OF 'laws.FnSymbolTexts'. -/
def fnSymbolTextsCard : Claim7 := { stood := { row := fnSymbolTextsRow, standIns := [], harness := (true, "8c611766e236f014e9088464c9255734cd113f4ff03b9a8d0940cb580fb8f7ec"), looks := true }, kinds := [], alts := [], laidByText := true, laidKinds := [.data, .data, .data, .data, .sentinel, .sentinel, .pinned], laidTests := true, laidLooks := .later }
def FnSymbolTextsCardSaid : Prop := Claim7.holds Tryz.pinned (.plain (OpenSpec.ofChange fnSymbolTextsSpec)) fnSymbolTextsCard

/-- THE SECOND FORM's CARD OF 'laws.FnSymbolTexts'. -/
def fnSymbolTextsUptoCard : Claim7 := { stood := { row := fnSymbolTextsUptoRow, standIns := [], harness := (true, "8c611766e236f014e9088464c9255734cd113f4ff03b9a8d0940cb580fb8f7ec"), looks := true }, kinds := [], alts := [], laidByText := true, laidKinds := [.data, .data, .data, .data, .sentinel, .sentinel, .pinned], laidTests := true, laidLooks := .later }
def FnSymbolTextsUptoCardSaid : Prop := Claim7.holds Tryz.pinned (.plain (OpenSpec.upto fnSymbolTextsSpec)) fnSymbolTextsUptoCard
end Rows
end Go.Proofs.YtlkfodajddkomaaGreatDoor
