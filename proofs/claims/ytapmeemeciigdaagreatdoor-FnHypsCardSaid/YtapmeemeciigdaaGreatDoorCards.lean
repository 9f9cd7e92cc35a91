/-
  DERIVED. GIVEN WITH THE SEED: THE CARDS: each row of YtapmeemeciigdaaGreatDoorRows.lean that lists a variable, with what it lists TIED to the program's text (the seventh form; the later family's looks); each row that meets fmt, with fmt's text TOLD by the authors' own Lean function (tested against real Go, not proved from fmt's source: count such statements apart). THE CARD IS WHAT COUNTS. Prove the row's statement (the work); the ties are given (YtapmeemeciigdaaGreatDoorTie.lean); close each card by the builder's one call (the guide's Derived/Test/ToyasCard.lean, 'card_holds'). Laid BY PROGRAM, IN A SANDBOX (cutbox-door.mjs). By AI agents, Wed Nov 11 2026. No macro, syntax, notation, axiom, sorry.
-/
import Derived.Test.YtapmeemeciigdaaGreatDoorRows
import GoSem.ClaimSeven
namespace Go.Proofs.YtapmeemeciigdaaGreatDoor
namespace Rows

/-- THE TIED CARD OF 'laws.FnHyps'. -/
def fnHypsCard : Claim7 := { stood := { row := fnHypsRow, standIns := [], harness := (true, "7d20879a5ae9b48ea7e8246f90deaf32a5b86507eeeabf6e62238e13eb0ba75e"), looks := true }, kinds := [], alts := [], laidByText := true, laidKinds := [.data, .data, .data, .data, .sentinel, .sentinel, .pinned], laidTests := true, laidLooks := .later }
def FnHypsCardSaid : Prop := Claim7.holds Tryz.pinned (.plain (OpenSpec.ofChange fnHypsSpec)) fnHypsCard

/-- THE SECOND FORM's CARD OF 'laws.FnHyps'. -/
def fnHypsUptoCard : Claim7 := { stood := { row := fnHypsUptoRow, standIns := [], harness := (true, "7d20879a5ae9b48ea7e8246f90deaf32a5b86507eeeabf6e62238e13eb0ba75e"), looks := true }, kinds := [], alts := [], laidByText := true, laidKinds := [.data, .data, .data, .data, .sentinel, .sentinel, .pinned], laidTests := true, laidLooks := .later }
def FnHypsUptoCardSaid : Prop := Claim7.holds Tryz.pinned (.plain (OpenSpec.upto fnHypsSpec)) fnHypsUptoCard
end Rows
end Go.Proofs.YtapmeemeciigdaaGreatDoor
