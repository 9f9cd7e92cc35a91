/-
  DERIVED. GIVEN WITH THE SEED: THE CARDS: each row of YtmchblafmhpegaaDoorRows.lean that lists a variable, with what it lists TIED to the program's text (the seventh form; the later family's looks); each row that meets fmt, with fmt's text TOLD by the authors' own Lean function (tested against real Go, not proved from fmt's source: count such statements apart). THE CARD IS WHAT COUNTS. Prove the row's statement (the work); the ties are given (YtmchblafmhpegaaDoorTie.lean); close each card by the builder's one call (the guide's Derived/Test/ToyasCard.lean, 'card_holds'). Laid BY PROGRAM, IN A SANDBOX (cutbox-door.mjs). By AI agents, Wed Nov 11 2026. No macro, syntax, notation, axiom, sorry.
-/
import Derived.Test.YtmchblafmhpegaaDoorRows
import GoSem.ClaimSeven
namespace Go.Proofs.YtmchblafmhpegaaDoor
namespace Rows

/-- THE TIED CARD OF 'laws.FnExactValidCellRow'. -/
def fnExactValidCellRowCard : Claim7 := { stood := { row := fnExactValidCellRowRow, standIns := [], harness := (true, "3d85031d4e7652fe12aee05d9dc01959ff45425cfa39b8ff73c24344072cdb05"), looks := false }, kinds := [], alts := [], laidByText := true, laidKinds := [.data, .pinned], laidTests := true, laidLooks := .later }
def FnExactValidCellRowCardSaid : Prop := Claim7.holds Tryd.pinned (.plain (OpenSpec.ofChange fnExactValidCellRowSpec)) fnExactValidCellRowCard

/-- THE TIED CARD OF 'laws.FnExactCellAt'. -/
def fnExactCellAtCard : Claim7 := { stood := { row := fnExactCellAtRow, standIns := [], harness := (true, "3d85031d4e7652fe12aee05d9dc01959ff45425cfa39b8ff73c24344072cdb05"), looks := false }, kinds := [], alts := [], laidByText := true, laidKinds := [.data, .pinned], laidTests := true, laidLooks := .later }
def FnExactCellAtCardSaid : Prop := Claim7.holds Tryd.pinned (.plain (OpenSpec.ofChange fnExactCellAtSpec)) fnExactCellAtCard

/-- THE TIED CARD OF 'laws.FnExactApplyEdit'. -/
def fnExactApplyEditCard : Claim7 := { stood := { row := fnExactApplyEditRow, standIns := [], harness := (true, "3d85031d4e7652fe12aee05d9dc01959ff45425cfa39b8ff73c24344072cdb05"), looks := false }, kinds := [], alts := [], laidByText := true, laidKinds := [.data, .pinned], laidTests := true, laidLooks := .later }
def FnExactApplyEditCardSaid : Prop := Claim7.holds Tryd.pinned (.plain (OpenSpec.ofChange fnExactApplyEditSpec)) fnExactApplyEditCard

/-- THE TIED CARD OF 'laws.FnExactInverseEdit'. -/
def fnExactInverseEditCard : Claim7 := { stood := { row := fnExactInverseEditRow, standIns := [], harness := (true, "3d85031d4e7652fe12aee05d9dc01959ff45425cfa39b8ff73c24344072cdb05"), looks := false }, kinds := [], alts := [], laidByText := true, laidKinds := [.data, .pinned], laidTests := true, laidLooks := .later }
def FnExactInverseEditCardSaid : Prop := Claim7.holds Tryd.pinned (.plain (OpenSpec.ofChange fnExactInverseEditSpec)) fnExactInverseEditCard

/-- THE TIED CARD OF 'laws.FnExactEditOf'. -/
def fnExactEditOfCard : Claim7 := { stood := { row := fnExactEditOfRow, standIns := [], harness := (true, "3d85031d4e7652fe12aee05d9dc01959ff45425cfa39b8ff73c24344072cdb05"), looks := false }, kinds := [], alts := [], laidByText := true, laidKinds := [.data, .pinned], laidTests := true, laidLooks := .later }
def FnExactEditOfCardSaid : Prop := Claim7.holds Tryd.pinned (.plain (OpenSpec.ofChange fnExactEditOfSpec)) fnExactEditOfCard

/-- THE TIED CARD OF 'laws.FnExactRunGestures'. -/
def fnExactRunGesturesCard : Claim7 := { stood := { row := fnExactRunGesturesRow, standIns := [], harness := (true, "3d85031d4e7652fe12aee05d9dc01959ff45425cfa39b8ff73c24344072cdb05"), looks := false }, kinds := [], alts := [], laidByText := true, laidKinds := [.data, .pinned], laidTests := true, laidLooks := .later }
def FnExactRunGesturesCardSaid : Prop := Claim7.holds Tryd.pinned (.plain (OpenSpec.ofChange fnExactRunGesturesSpec)) fnExactRunGesturesCard

/-- THE SECOND FORM's CARD OF 'laws.FnExactValidCellRow'. -/
def fnExactValidCellRowUptoCard : Claim7 := { stood := { row := fnExactValidCellRowUptoRow, standIns := [], harness := (true, "3d85031d4e7652fe12aee05d9dc01959ff45425cfa39b8ff73c24344072cdb05"), looks := false }, kinds := [], alts := [], laidByText := true, laidKinds := [.data, .pinned], laidTests := true, laidLooks := .later }
def FnExactValidCellRowUptoCardSaid : Prop := Claim7.holds Tryd.pinned (.plain (OpenSpec.upto fnExactValidCellRowSpec)) fnExactValidCellRowUptoCard

/-- THE SECOND FORM's CARD OF 'laws.FnExactCellAt'. -/
def fnExactCellAtUptoCard : Claim7 := { stood := { row := fnExactCellAtUptoRow, standIns := [], harness := (true, "3d85031d4e7652fe12aee05d9dc01959ff45425cfa39b8ff73c24344072cdb05"), looks := false }, kinds := [], alts := [], laidByText := true, laidKinds := [.data, .pinned], laidTests := true, laidLooks := .later }
def FnExactCellAtUptoCardSaid : Prop := Claim7.holds Tryd.pinned (.plain (OpenSpec.upto fnExactCellAtSpec)) fnExactCellAtUptoCard

/-- THE SECOND FORM's CARD OF 'laws.FnExactApplyEdit'. -/
def fnExactApplyEditUptoCard : Claim7 := { stood := { row := fnExactApplyEditUptoRow, standIns := [], harness := (true, "3d85031d4e7652fe12aee05d9dc01959ff45425cfa39b8ff73c24344072cdb05"), looks := false }, kinds := [], alts := [], laidByText := true, laidKinds := [.data, .pinned], laidTests := true, laidLooks := .later }
def FnExactApplyEditUptoCardSaid : Prop := Claim7.holds Tryd.pinned (.plain (OpenSpec.upto fnExactApplyEditSpec)) fnExactApplyEditUptoCard

/-- THE SECOND FORM's CARD OF 'laws.FnExactInverseEdit'. -/
def fnExactInverseEditUptoCard : Claim7 := { stood := { row := fnExactInverseEditUptoRow, standIns := [], harness := (true, "3d85031d4e7652fe12aee05d9dc01959ff45425cfa39b8ff73c24344072cdb05"), looks := false }, kinds := [], alts := [], laidByText := true, laidKinds := [.data, .pinned], laidTests := true, laidLooks := .later }
def FnExactInverseEditUptoCardSaid : Prop := Claim7.holds Tryd.pinned (.plain (OpenSpec.upto fnExactInverseEditSpec)) fnExactInverseEditUptoCard

/-- THE SECOND FORM's CARD OF 'laws.FnExactEditOf'. -/
def fnExactEditOfUptoCard : Claim7 := { stood := { row := fnExactEditOfUptoRow, standIns := [], harness := (true, "3d85031d4e7652fe12aee05d9dc01959ff45425cfa39b8ff73c24344072cdb05"), looks := false }, kinds := [], alts := [], laidByText := true, laidKinds := [.data, .pinned], laidTests := true, laidLooks := .later }
def FnExactEditOfUptoCardSaid : Prop := Claim7.holds Tryd.pinned (.plain (OpenSpec.upto fnExactEditOfSpec)) fnExactEditOfUptoCard

/-- THE SECOND FORM's CARD OF 'laws.FnExactRunGestures'. -/
def fnExactRunGesturesUptoCard : Claim7 := { stood := { row := fnExactRunGesturesUptoRow, standIns := [], harness := (true, "3d85031d4e7652fe12aee05d9dc01959ff45425cfa39b8ff73c24344072cdb05"), looks := false }, kinds := [], alts := [], laidByText := true, laidKinds := [.data, .pinned], laidTests := true, laidLooks := .later }
def FnExactRunGesturesUptoCardSaid : Prop := Claim7.holds Tryd.pinned (.plain (OpenSpec.upto fnExactRunGesturesSpec)) fnExactRunGesturesUptoCard
end Rows
end Go.Proofs.YtmchblafmhpegaaDoor
