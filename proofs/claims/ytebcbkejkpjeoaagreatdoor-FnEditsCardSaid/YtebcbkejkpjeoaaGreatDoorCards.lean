/-
  DERIVED. GIVEN WITH THE SEED: THE CARDS: each row of YtebcbkejkpjeoaaGreatDoorRows.lean that lists a variable, with what it lists TIED to the program's text (the seventh form; the later family's looks); each row that meets fmt, with fmt's text TOLD by the authors' own Lean function (tested against real Go, not proved from fmt's source: count such statements apart). THE CARD IS WHAT COUNTS. Prove the row's statement (the work); the ties are given (YtebcbkejkpjeoaaGreatDoorTie.lean); close each card by the builder's one call (the guide's Derived/Test/ToyasCard.lean, 'card_holds'). Laid BY PROGRAM, IN A SANDBOX (cutbox-door.mjs). By AI agents, Wed Nov 11 2026. No macro, syntax, notation, axiom, sorry.
-/
import Derived.Test.YtebcbkejkpjeoaaGreatDoorRows
import GoSem.ClaimSeven
namespace Go.Proofs.YtebcbkejkpjeoaaGreatDoor
namespace Rows

/-- THE TIED CARD OF 'laws.FnGestures'. -/
def fnGesturesCard : Claim7 := { stood := { row := fnGesturesRow, standIns := [], harness := (true, "b9bd33f494e9a51198a3b03feb3e48ed423639fc2108cf0e88b89cbd7982b181"), looks := false }, kinds := [], alts := [], laidByText := true, laidKinds := [.data, .pinned], laidTests := true, laidLooks := .later }
def FnGesturesCardSaid : Prop := Claim7.holds Tryz.pinned (.plain (OpenSpec.ofChange fnGesturesSpec)) fnGesturesCard

/-- THE TIED CARD OF 'laws.FnEdits'. -/
def fnEditsCard : Claim7 := { stood := { row := fnEditsRow, standIns := [], harness := (true, "b9bd33f494e9a51198a3b03feb3e48ed423639fc2108cf0e88b89cbd7982b181"), looks := false }, kinds := [], alts := [], laidByText := true, laidKinds := [.data, .pinned], laidTests := true, laidLooks := .later }
def FnEditsCardSaid : Prop := Claim7.holds Tryz.pinned (.plain (OpenSpec.ofChange fnEditsSpec)) fnEditsCard

/-- THE SECOND FORM's CARD OF 'laws.FnGestures'. -/
def fnGesturesUptoCard : Claim7 := { stood := { row := fnGesturesUptoRow, standIns := [], harness := (true, "b9bd33f494e9a51198a3b03feb3e48ed423639fc2108cf0e88b89cbd7982b181"), looks := false }, kinds := [], alts := [], laidByText := true, laidKinds := [.data, .pinned], laidTests := true, laidLooks := .later }
def FnGesturesUptoCardSaid : Prop := Claim7.holds Tryz.pinned (.plain (OpenSpec.upto fnGesturesSpec)) fnGesturesUptoCard

/-- THE SECOND FORM's CARD OF 'laws.FnEdits'. -/
def fnEditsUptoCard : Claim7 := { stood := { row := fnEditsUptoRow, standIns := [], harness := (true, "b9bd33f494e9a51198a3b03feb3e48ed423639fc2108cf0e88b89cbd7982b181"), looks := false }, kinds := [], alts := [], laidByText := true, laidKinds := [.data, .pinned], laidTests := true, laidLooks := .later }
def FnEditsUptoCardSaid : Prop := Claim7.holds Tryz.pinned (.plain (OpenSpec.upto fnEditsSpec)) fnEditsUptoCard
end Rows
end Go.Proofs.YtebcbkejkpjeoaaGreatDoor
