/-
  DERIVED. GIVEN WITH THE SEED: THE CARDS: each row of YtebcbkejkpjeoaaDoorRows.lean that lists a variable, with what it lists TIED to the program's text (the seventh form; the later family's looks); each row that meets fmt, with fmt's text TOLD by the authors' own Lean function (tested against real Go, not proved from fmt's source: count such statements apart). THE CARD IS WHAT COUNTS. Prove the row's statement (the work); the ties are given (YtebcbkejkpjeoaaDoorTie.lean); close each card by the builder's one call (the guide's Derived/Test/ToyasCard.lean, 'card_holds'). Laid BY PROGRAM, IN A SANDBOX (cutbox-door.mjs). By AI agents, Wed Nov 11 2026. No macro, syntax, notation, axiom, sorry.
-/
import Derived.Test.YtebcbkejkpjeoaaDoorRows
import GoSem.ClaimSeven
namespace Go.Proofs.YtebcbkejkpjeoaaDoor
namespace Rows

/-- THE TIED CARD OF 'laws.FnBits'. -/
def fnBitsCard : Claim7 := { stood := { row := fnBitsRow, standIns := [], harness := (true, "bdffe88b6a2c8d91469ffe3ec0b0f67dd312609ebd5c33682978ab5718548083"), looks := false }, kinds := [], alts := [], laidByText := true, laidKinds := [.data, .pinned], laidTests := true, laidLooks := .later }
def FnBitsCardSaid : Prop := Claim7.holds Tryd.pinned (.plain (OpenSpec.ofChange fnBitsSpec)) fnBitsCard

/-- THE TIED CARD OF 'laws.FnRunGestures'. -/
def fnRunGesturesCard : Claim7 := { stood := { row := fnRunGesturesRow, standIns := [], harness := (true, "bdffe88b6a2c8d91469ffe3ec0b0f67dd312609ebd5c33682978ab5718548083"), looks := false }, kinds := [], alts := [], laidByText := true, laidKinds := [.data, .pinned], laidTests := true, laidLooks := .later }
def FnRunGesturesCardSaid : Prop := Claim7.holds Tryd.pinned (.plain (OpenSpec.ofChange fnRunGesturesSpec)) fnRunGesturesCard

/-- THE SECOND FORM's CARD OF 'laws.FnBits'. -/
def fnBitsUptoCard : Claim7 := { stood := { row := fnBitsUptoRow, standIns := [], harness := (true, "bdffe88b6a2c8d91469ffe3ec0b0f67dd312609ebd5c33682978ab5718548083"), looks := false }, kinds := [], alts := [], laidByText := true, laidKinds := [.data, .pinned], laidTests := true, laidLooks := .later }
def FnBitsUptoCardSaid : Prop := Claim7.holds Tryd.pinned (.plain (OpenSpec.upto fnBitsSpec)) fnBitsUptoCard

/-- THE SECOND FORM's CARD OF 'laws.FnRunGestures'. -/
def fnRunGesturesUptoCard : Claim7 := { stood := { row := fnRunGesturesUptoRow, standIns := [], harness := (true, "bdffe88b6a2c8d91469ffe3ec0b0f67dd312609ebd5c33682978ab5718548083"), looks := false }, kinds := [], alts := [], laidByText := true, laidKinds := [.data, .pinned], laidTests := true, laidLooks := .later }
def FnRunGesturesUptoCardSaid : Prop := Claim7.holds Tryd.pinned (.plain (OpenSpec.upto fnRunGesturesSpec)) fnRunGesturesUptoCard
end Rows
end Go.Proofs.YtebcbkejkpjeoaaDoor
