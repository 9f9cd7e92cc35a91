/-
  DERIVED. GIVEN WITH THE SEED: THE CARDS: each row of YtblhhmcplocepaaGreatDoorRows.lean that lists a variable, with what it lists TIED to the program's text (the seventh form; the later family's looks); each row that meets fmt, with fmt's text TOLD by the authors' own Lean function (tested against real Go, not proved from fmt's source: count such statements apart). THE CARD IS WHAT COUNTS. Prove the row's statement (the work); the ties are given (YtblhhmcplocepaaGreatDoorTie.lean); close each card by the builder's one call (the guide's Derived/Test/ToyasCard.lean, 'card_holds'). Laid BY PROGRAM, IN A SANDBOX (cutbox-door.mjs). By AI agents, Wed Nov 11 2026. No macro, syntax, notation, axiom, sorry.
-/
import Derived.Test.YtblhhmcplocepaaGreatDoorRows
import GoSem.ClaimSeven
namespace Go.Proofs.YtblhhmcplocepaaGreatDoor
namespace Rows

/-- THE TIED CARD OF 'laws.FnTraining'. -/
def fnTrainingCard : Claim7 := { stood := { row := fnTrainingRow, standIns := [], harness := (true, "e6a8a850f03118941968b47ef2ce195975a84d1f07d622235fccfef23f844bcd"), looks := true }, kinds := [], alts := [], laidByText := true, laidKinds := [.data, .data, .data, .data, .sentinel, .sentinel, .pinned], laidTests := true, laidLooks := .later }
def FnTrainingCardSaid : Prop := Claim7.holds Tryz.pinned (.plain (OpenSpec.ofChange fnTrainingSpec)) fnTrainingCard

/-- THE SECOND FORM's CARD OF 'laws.FnTraining'. -/
def fnTrainingUptoCard : Claim7 := { stood := { row := fnTrainingUptoRow, standIns := [], harness := (true, "e6a8a850f03118941968b47ef2ce195975a84d1f07d622235fccfef23f844bcd"), looks := true }, kinds := [], alts := [], laidByText := true, laidKinds := [.data, .data, .data, .data, .sentinel, .sentinel, .pinned], laidTests := true, laidLooks := .later }
def FnTrainingUptoCardSaid : Prop := Claim7.holds Tryz.pinned (.plain (OpenSpec.upto fnTrainingSpec)) fnTrainingUptoCard
end Rows
end Go.Proofs.YtblhhmcplocepaaGreatDoor
