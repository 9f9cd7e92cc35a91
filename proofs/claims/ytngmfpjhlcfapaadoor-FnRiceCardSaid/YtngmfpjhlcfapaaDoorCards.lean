/-
  DERIVED. GIVEN WITH THE SEED: THE CARDS: each row of YtngmfpjhlcfapaaDoorRows.lean that lists a variable, with what it lists TIED to the program's text (the seventh form; the later family's looks); each row that meets fmt, with fmt's text TOLD by the authors' own Lean function (tested against real Go, not proved from fmt's source: count such statements apart). THE CARD IS WHAT COUNTS. Prove the row's statement (the work); the ties are given (YtngmfpjhlcfapaaDoorTie.lean); close each card by the builder's one call (the guide's Derived/Test/ToyasCard.lean, 'card_holds'). Laid BY PROGRAM, IN A SANDBOX (cutbox-door.mjs). By AI agents, Wed Nov 11 2026. No macro, syntax, notation, axiom, sorry.
-/
import Derived.Test.YtngmfpjhlcfapaaDoorRows
import GoSem.ClaimSeven
namespace Go.Proofs.YtngmfpjhlcfapaaDoor
namespace Rows

/-- THE TIED CARD OF 'laws.FnFractions'. -/
def fnFractionsCard : Claim7 := { stood := { row := fnFractionsRow, standIns := [], harness := (true, "200c645e61c385db44e779e8ce5c2c80f486ddfb2cabbd1accf484105d8b4827"), looks := false }, kinds := [], alts := [], laidByText := true, laidKinds := [.data, .data, .data], laidTests := true, laidLooks := .later }
def FnFractionsCardSaid : Prop := Claim7.holds Tryd.pinned (.plain (OpenSpec.ofChange fnFractionsSpec)) fnFractionsCard

/-- THE TIED CARD OF 'laws.FnRice'. -/
def fnRiceCard : Claim7 := { stood := { row := fnRiceRow, standIns := [], harness := (true, "200c645e61c385db44e779e8ce5c2c80f486ddfb2cabbd1accf484105d8b4827"), looks := false }, kinds := [], alts := [], laidByText := true, laidKinds := [.data, .pinned], laidTests := true, laidLooks := .later }
def FnRiceCardSaid : Prop := Claim7.holds Tryd.pinned (.plain (OpenSpec.ofChange fnRiceSpec)) fnRiceCard

/-- THE SECOND FORM's CARD OF 'laws.FnFractions'. -/
def fnFractionsUptoCard : Claim7 := { stood := { row := fnFractionsUptoRow, standIns := [], harness := (true, "200c645e61c385db44e779e8ce5c2c80f486ddfb2cabbd1accf484105d8b4827"), looks := false }, kinds := [], alts := [], laidByText := true, laidKinds := [.data, .data, .data], laidTests := true, laidLooks := .later }
def FnFractionsUptoCardSaid : Prop := Claim7.holds Tryd.pinned (.plain (OpenSpec.upto fnFractionsSpec)) fnFractionsUptoCard

/-- THE SECOND FORM's CARD OF 'laws.FnRice'. -/
def fnRiceUptoCard : Claim7 := { stood := { row := fnRiceUptoRow, standIns := [], harness := (true, "200c645e61c385db44e779e8ce5c2c80f486ddfb2cabbd1accf484105d8b4827"), looks := false }, kinds := [], alts := [], laidByText := true, laidKinds := [.data, .pinned], laidTests := true, laidLooks := .later }
def FnRiceUptoCardSaid : Prop := Claim7.holds Tryd.pinned (.plain (OpenSpec.upto fnRiceSpec)) fnRiceUptoCard
end Rows
end Go.Proofs.YtngmfpjhlcfapaaDoor
