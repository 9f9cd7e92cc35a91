/-
  NARROWER THAN 'FOR EVERY INPUT', by the rows' own cells (each row's printed sentence says how): FnExactValidCellRow: laid · FnExactCellAt: laid · FnExactApplyEdit: laid · FnExactInverseEdit: laid · FnExactEditOf: laid · FnExactRunGestures: laid.
  DERIVED. THE GIVEN ROWS OF THIS SEAT. 6 by the template 'for every input the law returns true; each argument reads behind the call as it read before'; 0 by the template 'total and deterministic' (their statements: YtmchblafmhpegaaDoorTotals.lean).
  GIVEN WITH THE SEED: the statements are not yours to turn. If you find one false, say at which input.
  Laid BY PROGRAM, IN A SANDBOX (cutbox-rows.mjs): the forced cells as the released guide's own fill.sh prints them over the translation 2cd7b7f826dd4a8c… (all of the seat's roots in one cut). By AI agents, Wed Nov 11 2026. No macro, syntax, notation, axiom, sorry.
-/
import Derived.Test.YtmchblafmhpegaaDoorChecked
import GoSem.PinnedTables
import GoSem.Claim
import GoSem.ClaimJoined
import GoSem.ClaimMapViews
import Derived.JoinedTies
import Derived.KernelRfl
namespace Go.Proofs.YtmchblafmhpegaaDoor
/- THE CELL 'sum', in the pinned program and in every row, IS THE sha256 OF THE DUMP (.gsa) THAT YtmchblafmhpegaaDoorProg.lean LOADS. Nothing in Lean hashes anything: it is a label: what it is worth is what the hold of that sum in a sandbox is worth. -/
noncomputable def Tryd.pinned : Pinned := { name := "ytmchblafmhpegaadoor", sum := "2cd7b7f826dd4a8cdf2591da38d5b81d55cccc5294291078e88329eb9e0ecb26", checked := Tryd.checked }
namespace Rows
def none {H : Type} : Left H := { results := [], args := [] }

/- WHAT THE LISTED PACKAGE-LEVEL VARIABLES READ AS WHEN THE CALL BEGINS. Each datum BY PROGRAM (the guide's laid-datum.mjs) off the statement by which the dump's own 'gosem.cut.vars' lays the variable. In a bare row this is a premise. The card (YtmchblafmhpegaaDoorCards.lean) ties it to the program's text. -/
def laid_unicode_utf8_acceptRanges {H : Type} : DataW H := .agg [.agg [.lit (.int .u8 128), .lit (.int .u8 191)], .agg [.lit (.int .u8 160), .lit (.int .u8 191)], .agg [.lit (.int .u8 128), .lit (.int .u8 159)], .agg [.lit (.int .u8 144), .lit (.int .u8 191)], .agg [.lit (.int .u8 128), .lit (.int .u8 143)], .agg [.lit (.int .u8 0), .lit (.int .u8 0)], .agg [.lit (.int .u8 0), .lit (.int .u8 0)], .agg [.lit (.int .u8 0), .lit (.int .u8 0)], .agg [.lit (.int .u8 0), .lit (.int .u8 0)], .agg [.lit (.int .u8 0), .lit (.int .u8 0)], .agg [.lit (.int .u8 0), .lit (.int .u8 0)], .agg [.lit (.int .u8 0), .lit (.int .u8 0)], .agg [.lit (.int .u8 0), .lit (.int .u8 0)], .agg [.lit (.int .u8 0), .lit (.int .u8 0)], .agg [.lit (.int .u8 0), .lit (.int .u8 0)], .agg [.lit (.int .u8 0), .lit (.int .u8 0)]]
/-- One of Go's own tables, pinned by name: the form's constant. -/
def laid_unicode_utf8_first : DataW Unit := Go.Pinned.utf8First

/-- 'laws.FnExactValidCellRow': WHATEVER THE INPUT: true; the input reads as it did. -/
def fnExactValidCellRowSpec : ChangeSpec := { name := "fnExactValidCellRow", fn := fun _ => fun
  | [d] => { results := [.lit (.bool true)], args := [d] }
  | _ => none }
def fnExactValidCellRowRow : OpenClaim := { program := "ytmchblafmhpegaadoor", sum := "2cd7b7f826dd4a8cdf2591da38d5b81d55cccc5294291078e88329eb9e0ecb26", func := "loop.example/g00918/laws.FnExactValidCellRow", spec := "fnExactValidCellRow", inPlace := ["internal/bytealg.IndexByteString", "internal/bytealg.IndexString"], named := ["unicode/utf8.first", "unicode/utf8.acceptRanges", "internal/bytealg.MaxLen"], apart := false, laid := [("unicode/utf8.acceptRanges", laid_unicode_utf8_acceptRanges), ("unicode/utf8.first", laid_unicode_utf8_first)] }
def FnExactValidCellRowSaid : Prop := fnExactValidCellRowRow.holds Tryd.pinned (OpenSpec.ofChange fnExactValidCellRowSpec)

/-- ITS FALSE NEIGHBOUR: 'it returns false'. Refute it at one input. -/
def fnExactValidCellRowWrong : ChangeSpec := { name := "fnExactValidCellRow", fn := fun _ => fun
  | [d] => { results := [.lit (.bool false)], args := [d] }
  | _ => none }
def FnExactValidCellRowWrongFalsely : Prop := fnExactValidCellRowRow.holds Tryd.pinned (OpenSpec.ofChange fnExactValidCellRowWrong)

/-- 'laws.FnExactCellAt': WHATEVER THE INPUT: true; the input reads as it did. -/
def fnExactCellAtSpec : ChangeSpec := { name := "fnExactCellAt", fn := fun _ => fun
  | [d1, d2] => { results := [.lit (.bool true)], args := [d1, d2] }
  | _ => none }
def fnExactCellAtRow : OpenClaim := { program := "ytmchblafmhpegaadoor", sum := "2cd7b7f826dd4a8cdf2591da38d5b81d55cccc5294291078e88329eb9e0ecb26", func := "loop.example/g00918/laws.FnExactCellAt", spec := "fnExactCellAt", inPlace := ["internal/bytealg.IndexByteString", "internal/bytealg.IndexString"], named := ["unicode/utf8.first", "unicode/utf8.acceptRanges", "internal/bytealg.MaxLen"], apart := false, laid := [("unicode/utf8.acceptRanges", laid_unicode_utf8_acceptRanges), ("unicode/utf8.first", laid_unicode_utf8_first)] }
def FnExactCellAtSaid : Prop := fnExactCellAtRow.holds Tryd.pinned (OpenSpec.ofChange fnExactCellAtSpec)

/-- ITS FALSE NEIGHBOUR: 'it returns false'. Refute it at one input. -/
def fnExactCellAtWrong : ChangeSpec := { name := "fnExactCellAt", fn := fun _ => fun
  | [d1, d2] => { results := [.lit (.bool false)], args := [d1, d2] }
  | _ => none }
def FnExactCellAtWrongFalsely : Prop := fnExactCellAtRow.holds Tryd.pinned (OpenSpec.ofChange fnExactCellAtWrong)

/-- 'laws.FnExactApplyEdit': WHATEVER THE INPUT: true; the input reads as it did. -/
def fnExactApplyEditSpec : ChangeSpec := { name := "fnExactApplyEdit", fn := fun _ => fun
  | [d1, d2, d3] => { results := [.lit (.bool true)], args := [d1, d2, d3] }
  | _ => none }
def fnExactApplyEditRow : OpenClaim := { program := "ytmchblafmhpegaadoor", sum := "2cd7b7f826dd4a8cdf2591da38d5b81d55cccc5294291078e88329eb9e0ecb26", func := "loop.example/g00918/laws.FnExactApplyEdit", spec := "fnExactApplyEdit", inPlace := ["internal/bytealg.IndexByteString", "internal/bytealg.IndexString"], named := ["unicode/utf8.first", "unicode/utf8.acceptRanges", "internal/bytealg.MaxLen"], apart := false, laid := [("unicode/utf8.acceptRanges", laid_unicode_utf8_acceptRanges), ("unicode/utf8.first", laid_unicode_utf8_first)] }
def FnExactApplyEditSaid : Prop := fnExactApplyEditRow.holds Tryd.pinned (OpenSpec.ofChange fnExactApplyEditSpec)

/-- ITS FALSE NEIGHBOUR: 'it returns false'. Refute it at one input. -/
def fnExactApplyEditWrong : ChangeSpec := { name := "fnExactApplyEdit", fn := fun _ => fun
  | [d1, d2, d3] => { results := [.lit (.bool false)], args := [d1, d2, d3] }
  | _ => none }
def FnExactApplyEditWrongFalsely : Prop := fnExactApplyEditRow.holds Tryd.pinned (OpenSpec.ofChange fnExactApplyEditWrong)

/-- 'laws.FnExactInverseEdit': WHATEVER THE INPUT: true; the input reads as it did. -/
def fnExactInverseEditSpec : ChangeSpec := { name := "fnExactInverseEdit", fn := fun _ => fun
  | [d1, d2, d3] => { results := [.lit (.bool true)], args := [d1, d2, d3] }
  | _ => none }
def fnExactInverseEditRow : OpenClaim := { program := "ytmchblafmhpegaadoor", sum := "2cd7b7f826dd4a8cdf2591da38d5b81d55cccc5294291078e88329eb9e0ecb26", func := "loop.example/g00918/laws.FnExactInverseEdit", spec := "fnExactInverseEdit", inPlace := ["internal/bytealg.IndexByteString", "internal/bytealg.IndexString"], named := ["unicode/utf8.first", "unicode/utf8.acceptRanges", "internal/bytealg.MaxLen"], apart := false, laid := [("unicode/utf8.acceptRanges", laid_unicode_utf8_acceptRanges), ("unicode/utf8.first", laid_unicode_utf8_first)] }
def FnExactInverseEditSaid : Prop := fnExactInverseEditRow.holds Tryd.pinned (OpenSpec.ofChange fnExactInverseEditSpec)

/-- ITS FALSE NEIGHBOUR: 'it returns false'. Refute it at one input. -/
def fnExactInverseEditWrong : ChangeSpec := { name := "fnExactInverseEdit", fn := fun _ => fun
  | [d1, d2, d3] => { results := [.lit (.bool false)], args := [d1, d2, d3] }
  | _ => none }
def FnExactInverseEditWrongFalsely : Prop := fnExactInverseEditRow.holds Tryd.pinned (OpenSpec.ofChange fnExactInverseEditWrong)

/-- 'laws.FnExactEditOf': WHATEVER THE INPUT: true; the input reads as it did. -/
def fnExactEditOfSpec : ChangeSpec := { name := "fnExactEditOf", fn := fun _ => fun
  | [d1, d2] => { results := [.lit (.bool true)], args := [d1, d2] }
  | _ => none }
def fnExactEditOfRow : OpenClaim := { program := "ytmchblafmhpegaadoor", sum := "2cd7b7f826dd4a8cdf2591da38d5b81d55cccc5294291078e88329eb9e0ecb26", func := "loop.example/g00918/laws.FnExactEditOf", spec := "fnExactEditOf", inPlace := ["internal/bytealg.IndexByteString", "internal/bytealg.IndexString"], named := ["unicode/utf8.first", "unicode/utf8.acceptRanges", "internal/bytealg.MaxLen"], apart := false, laid := [("unicode/utf8.acceptRanges", laid_unicode_utf8_acceptRanges), ("unicode/utf8.first", laid_unicode_utf8_first)] }
def FnExactEditOfSaid : Prop := fnExactEditOfRow.holds Tryd.pinned (OpenSpec.ofChange fnExactEditOfSpec)

/-- ITS FALSE NEIGHBOUR: 'it returns false'. Refute it at one input. -/
def fnExactEditOfWrong : ChangeSpec := { name := "fnExactEditOf", fn := fun _ => fun
  | [d1, d2] => { results := [.lit (.bool false)], args := [d1, d2] }
  | _ => none }
def FnExactEditOfWrongFalsely : Prop := fnExactEditOfRow.holds Tryd.pinned (OpenSpec.ofChange fnExactEditOfWrong)

/-- 'laws.FnExactRunGestures': WHATEVER THE INPUT: true; the input reads as it did. -/
def fnExactRunGesturesSpec : ChangeSpec := { name := "fnExactRunGestures", fn := fun _ => fun
  | [d1, d2, d3] => { results := [.lit (.bool true)], args := [d1, d2, d3] }
  | _ => none }
def fnExactRunGesturesRow : OpenClaim := { program := "ytmchblafmhpegaadoor", sum := "2cd7b7f826dd4a8cdf2591da38d5b81d55cccc5294291078e88329eb9e0ecb26", func := "loop.example/g00918/laws.FnExactRunGestures", spec := "fnExactRunGestures", inPlace := ["internal/bytealg.IndexByteString", "internal/bytealg.IndexString"], named := ["unicode/utf8.first", "unicode/utf8.acceptRanges", "internal/bytealg.MaxLen"], apart := false, laid := [("unicode/utf8.acceptRanges", laid_unicode_utf8_acceptRanges), ("unicode/utf8.first", laid_unicode_utf8_first)] }
def FnExactRunGesturesSaid : Prop := fnExactRunGesturesRow.holds Tryd.pinned (OpenSpec.ofChange fnExactRunGesturesSpec)

/-- ITS FALSE NEIGHBOUR: 'it returns false'. Refute it at one input. -/
def fnExactRunGesturesWrong : ChangeSpec := { name := "fnExactRunGestures", fn := fun _ => fun
  | [d1, d2, d3] => { results := [.lit (.bool false)], args := [d1, d2, d3] }
  | _ => none }
def FnExactRunGesturesWrongFalsely : Prop := fnExactRunGesturesRow.holds Tryd.pinned (OpenSpec.ofChange fnExactRunGesturesWrong)

/- THE SECOND FORM. 'bulk': how many values and letters a reading holds, each counted each time it is reached (what is shared counts as often as it is met; a slice's spare places count too). A statement '..UptoSaid' is the law's where the arguments, and the package variables that the reading takes, are together of bulk at most 1048576: NARROWER than '..Said'. Prove '..Said' where nothing that the law and all that it calls make is longer than what came in: it says more and counts as full. Else prove '..UptoSaid'. A law counts once. -/
mutual
def uptoBulk {H : Type} : DataW H → Nat
  | .lit (.string bytes) => bytes.length + 1
  | .lit _ => 1
  | .nil => 1
  | .ptr d => uptoBulk d + 1
  | .slice elems spare => uptoBulkAll elems + uptoBulkAll spare + 1
  | .agg parts => uptoBulkAll parts + 1
  | .iface _ d => uptoBulk d + 1
  | .map entries => uptoBulkEntries entries + 1
  | .held _ => 1
def uptoBulkAll {H : Type} : List (DataW H) → Nat
  | [] => 0
  | d :: r => uptoBulk d + uptoBulkAll r
def uptoBulkEntries {H : Type} : List (Lit × DataW H) → Nat
  | [] => 0
  | x :: r => uptoBulkEntry x + uptoBulkEntries r
def uptoBulkEntry {H : Type} : Lit × DataW H → Nat
  | (.string bytes, d) => bytes.length + uptoBulk d + 1
  | (_, d) => uptoBulk d + 1
 end
def uptoSmall : (H : Type) → List (DataW H) → Bool := fun _ ds => decide (uptoBulkAll ds ≤ 1048576)
def OpenSpec.upto (s : _root_.Go.ChangeSpec) : _root_.Go.OpenSpec := { _root_.Go.OpenSpec.ofChange s with cond := some uptoSmall }

/-- 'laws.FnExactValidCellRow', WHERE WHAT IT READS IS OF BULK AT MOST 1048576: true; the input reads as it did. -/
def fnExactValidCellRowUptoRow : OpenClaim := { program := "ytmchblafmhpegaadoor", sum := "2cd7b7f826dd4a8cdf2591da38d5b81d55cccc5294291078e88329eb9e0ecb26", func := "loop.example/g00918/laws.FnExactValidCellRow", spec := "fnExactValidCellRow", inPlace := ["internal/bytealg.IndexByteString", "internal/bytealg.IndexString"], named := ["unicode/utf8.first", "unicode/utf8.acceptRanges", "internal/bytealg.MaxLen"], apart := false, laid := [("unicode/utf8.acceptRanges", laid_unicode_utf8_acceptRanges), ("unicode/utf8.first", laid_unicode_utf8_first)], narrowed := true }
def FnExactValidCellRowUptoSaid : Prop := fnExactValidCellRowUptoRow.holds Tryd.pinned (OpenSpec.upto fnExactValidCellRowSpec)

/-- 'laws.FnExactCellAt', WHERE WHAT IT READS IS OF BULK AT MOST 1048576: true; the input reads as it did. -/
def fnExactCellAtUptoRow : OpenClaim := { program := "ytmchblafmhpegaadoor", sum := "2cd7b7f826dd4a8cdf2591da38d5b81d55cccc5294291078e88329eb9e0ecb26", func := "loop.example/g00918/laws.FnExactCellAt", spec := "fnExactCellAt", inPlace := ["internal/bytealg.IndexByteString", "internal/bytealg.IndexString"], named := ["unicode/utf8.first", "unicode/utf8.acceptRanges", "internal/bytealg.MaxLen"], apart := false, laid := [("unicode/utf8.acceptRanges", laid_unicode_utf8_acceptRanges), ("unicode/utf8.first", laid_unicode_utf8_first)], narrowed := true }
def FnExactCellAtUptoSaid : Prop := fnExactCellAtUptoRow.holds Tryd.pinned (OpenSpec.upto fnExactCellAtSpec)

/-- 'laws.FnExactApplyEdit', WHERE WHAT IT READS IS OF BULK AT MOST 1048576: true; the input reads as it did. -/
def fnExactApplyEditUptoRow : OpenClaim := { program := "ytmchblafmhpegaadoor", sum := "2cd7b7f826dd4a8cdf2591da38d5b81d55cccc5294291078e88329eb9e0ecb26", func := "loop.example/g00918/laws.FnExactApplyEdit", spec := "fnExactApplyEdit", inPlace := ["internal/bytealg.IndexByteString", "internal/bytealg.IndexString"], named := ["unicode/utf8.first", "unicode/utf8.acceptRanges", "internal/bytealg.MaxLen"], apart := false, laid := [("unicode/utf8.acceptRanges", laid_unicode_utf8_acceptRanges), ("unicode/utf8.first", laid_unicode_utf8_first)], narrowed := true }
def FnExactApplyEditUptoSaid : Prop := fnExactApplyEditUptoRow.holds Tryd.pinned (OpenSpec.upto fnExactApplyEditSpec)

/-- 'laws.FnExactInverseEdit', WHERE WHAT IT READS IS OF BULK AT MOST 1048576: true; the input reads as it did. -/
def fnExactInverseEditUptoRow : OpenClaim := { program := "ytmchblafmhpegaadoor", sum := "2cd7b7f826dd4a8cdf2591da38d5b81d55cccc5294291078e88329eb9e0ecb26", func := "loop.example/g00918/laws.FnExactInverseEdit", spec := "fnExactInverseEdit", inPlace := ["internal/bytealg.IndexByteString", "internal/bytealg.IndexString"], named := ["unicode/utf8.first", "unicode/utf8.acceptRanges", "internal/bytealg.MaxLen"], apart := false, laid := [("unicode/utf8.acceptRanges", laid_unicode_utf8_acceptRanges), ("unicode/utf8.first", laid_unicode_utf8_first)], narrowed := true }
def FnExactInverseEditUptoSaid : Prop := fnExactInverseEditUptoRow.holds Tryd.pinned (OpenSpec.upto fnExactInverseEditSpec)

/-- 'laws.FnExactEditOf', WHERE WHAT IT READS IS OF BULK AT MOST 1048576: true; the input reads as it did. -/
def fnExactEditOfUptoRow : OpenClaim := { program := "ytmchblafmhpegaadoor", sum := "2cd7b7f826dd4a8cdf2591da38d5b81d55cccc5294291078e88329eb9e0ecb26", func := "loop.example/g00918/laws.FnExactEditOf", spec := "fnExactEditOf", inPlace := ["internal/bytealg.IndexByteString", "internal/bytealg.IndexString"], named := ["unicode/utf8.first", "unicode/utf8.acceptRanges", "internal/bytealg.MaxLen"], apart := false, laid := [("unicode/utf8.acceptRanges", laid_unicode_utf8_acceptRanges), ("unicode/utf8.first", laid_unicode_utf8_first)], narrowed := true }
def FnExactEditOfUptoSaid : Prop := fnExactEditOfUptoRow.holds Tryd.pinned (OpenSpec.upto fnExactEditOfSpec)

/-- 'laws.FnExactRunGestures', WHERE WHAT IT READS IS OF BULK AT MOST 1048576: true; the input reads as it did. -/
def fnExactRunGesturesUptoRow : OpenClaim := { program := "ytmchblafmhpegaadoor", sum := "2cd7b7f826dd4a8cdf2591da38d5b81d55cccc5294291078e88329eb9e0ecb26", func := "loop.example/g00918/laws.FnExactRunGestures", spec := "fnExactRunGestures", inPlace := ["internal/bytealg.IndexByteString", "internal/bytealg.IndexString"], named := ["unicode/utf8.first", "unicode/utf8.acceptRanges", "internal/bytealg.MaxLen"], apart := false, laid := [("unicode/utf8.acceptRanges", laid_unicode_utf8_acceptRanges), ("unicode/utf8.first", laid_unicode_utf8_first)], narrowed := true }
def FnExactRunGesturesUptoSaid : Prop := fnExactRunGesturesUptoRow.holds Tryd.pinned (OpenSpec.upto fnExactRunGesturesSpec)

end Rows
end Go.Proofs.YtmchblafmhpegaaDoor
