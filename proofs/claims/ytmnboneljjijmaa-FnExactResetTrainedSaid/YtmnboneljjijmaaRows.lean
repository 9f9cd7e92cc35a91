/-
  No cell of these rows narrows 'for every input' (looked for: loops, veiled, ifaces, maps, wideKeys, modest, calm, conditions, laid).
  DERIVED. THE GIVEN ROWS OF THIS SEAT. 8 by the template 'for every input the law returns true; each argument reads behind the call as it read before'; 0 by the template 'total and deterministic' (their statements: YtmnboneljjijmaaTotals.lean).
  GIVEN WITH THE SEED: the statements are not yours to turn. If you find one false, say at which input.
  Laid BY PROGRAM, IN A SANDBOX (cutbox-rows.mjs): the forced cells as the released guide's own fill.sh prints them over the translation 1d5631bb02ecc4ae… (all of the seat's roots in one cut). By AI agents, Wed Nov 11 2026. No macro, syntax, notation, axiom, sorry.
-/
import Derived.Test.YtmnboneljjijmaaChecked
import GoSem.Claim
import GoSem.ClaimJoined
import GoSem.ClaimMapViews
import Derived.JoinedTies
import Derived.KernelRfl
namespace Go.Proofs.Ytmnboneljjijmaa
/- THE CELL 'sum', in the pinned program and in every row, IS THE sha256 OF THE DUMP (.gsa) THAT YtmnboneljjijmaaProg.lean LOADS. Nothing in Lean hashes anything: it is a label: what it is worth is what the hold of that sum in a sandbox is worth. -/
noncomputable def Try.pinned : Pinned := { name := "ytmnboneljjijmaa", sum := "1d5631bb02ecc4aed4d75f4daa5592256a3541edd8ebd6a134a3aa4e4f6b2ee0", checked := Try.checked }
namespace Rows
def none {H : Type} : Left H := { results := [], args := [] }

/-- 'laws.FnExactShiftOf': WHATEVER THE INPUT: true; the input reads as it did. -/
def fnExactShiftOfSpec : ChangeSpec := { name := "fnExactShiftOf", fn := fun _ => fun
  | [d] => { results := [.lit (.bool true)], args := [d] }
  | _ => none }
def fnExactShiftOfRow : OpenClaim := { program := "ytmnboneljjijmaa", sum := "1d5631bb02ecc4aed4d75f4daa5592256a3541edd8ebd6a134a3aa4e4f6b2ee0", func := "loop.example/g00918/laws.FnExactShiftOf", spec := "fnExactShiftOf", inPlace := ["internal/bytealg.IndexByteString", "internal/bytealg.IndexString"], unfollowed := true, recurses := true, named := ["internal/bytealg.MaxLen"], apart := false }
def FnExactShiftOfSaid : Prop := fnExactShiftOfRow.holds Try.pinned (OpenSpec.ofChange fnExactShiftOfSpec)

/-- ITS FALSE NEIGHBOUR: 'it returns false'. Refute it at one input. -/
def fnExactShiftOfWrong : ChangeSpec := { name := "fnExactShiftOf", fn := fun _ => fun
  | [d] => { results := [.lit (.bool false)], args := [d] }
  | _ => none }
def FnExactShiftOfWrongFalsely : Prop := fnExactShiftOfRow.holds Try.pinned (OpenSpec.ofChange fnExactShiftOfWrong)

/-- 'laws.FnExactStartTrained': WHATEVER THE INPUT: true; the input reads as it did. -/
def fnExactStartTrainedSpec : ChangeSpec := { name := "fnExactStartTrained", fn := fun _ => fun
  | [d] => { results := [.lit (.bool true)], args := [d] }
  | _ => none }
def fnExactStartTrainedRow : OpenClaim := { program := "ytmnboneljjijmaa", sum := "1d5631bb02ecc4aed4d75f4daa5592256a3541edd8ebd6a134a3aa4e4f6b2ee0", func := "loop.example/g00918/laws.FnExactStartTrained", spec := "fnExactStartTrained", inPlace := ["internal/bytealg.IndexByteString", "internal/bytealg.IndexString"], unfollowed := true, recurses := true, named := ["internal/bytealg.MaxLen"], apart := false }
def FnExactStartTrainedSaid : Prop := fnExactStartTrainedRow.holds Try.pinned (OpenSpec.ofChange fnExactStartTrainedSpec)

/-- ITS FALSE NEIGHBOUR: 'it returns false'. Refute it at one input. -/
def fnExactStartTrainedWrong : ChangeSpec := { name := "fnExactStartTrained", fn := fun _ => fun
  | [d] => { results := [.lit (.bool false)], args := [d] }
  | _ => none }
def FnExactStartTrainedWrongFalsely : Prop := fnExactStartTrainedRow.holds Try.pinned (OpenSpec.ofChange fnExactStartTrainedWrong)

/-- 'laws.FnExactValidWriter': WHATEVER THE INPUT: true; the input reads as it did. -/
def fnExactValidWriterSpec : ChangeSpec := { name := "fnExactValidWriter", fn := fun _ => fun
  | [d] => { results := [.lit (.bool true)], args := [d] }
  | _ => none }
def fnExactValidWriterRow : OpenClaim := { program := "ytmnboneljjijmaa", sum := "1d5631bb02ecc4aed4d75f4daa5592256a3541edd8ebd6a134a3aa4e4f6b2ee0", func := "loop.example/g00918/laws.FnExactValidWriter", spec := "fnExactValidWriter", inPlace := ["internal/bytealg.IndexByteString", "internal/bytealg.IndexString"], unfollowed := true, recurses := true, named := ["internal/bytealg.MaxLen"], apart := false }
def FnExactValidWriterSaid : Prop := fnExactValidWriterRow.holds Try.pinned (OpenSpec.ofChange fnExactValidWriterSpec)

/-- ITS FALSE NEIGHBOUR: 'it returns false'. Refute it at one input. -/
def fnExactValidWriterWrong : ChangeSpec := { name := "fnExactValidWriter", fn := fun _ => fun
  | [d] => { results := [.lit (.bool false)], args := [d] }
  | _ => none }
def FnExactValidWriterWrongFalsely : Prop := fnExactValidWriterRow.holds Try.pinned (OpenSpec.ofChange fnExactValidWriterWrong)

/-- 'laws.FnExactResetTrained': WHATEVER THE INPUT: true; the input reads as it did. -/
def fnExactResetTrainedSpec : ChangeSpec := { name := "fnExactResetTrained", fn := fun _ => fun
  | [d] => { results := [.lit (.bool true)], args := [d] }
  | _ => none }
def fnExactResetTrainedRow : OpenClaim := { program := "ytmnboneljjijmaa", sum := "1d5631bb02ecc4aed4d75f4daa5592256a3541edd8ebd6a134a3aa4e4f6b2ee0", func := "loop.example/g00918/laws.FnExactResetTrained", spec := "fnExactResetTrained", inPlace := ["internal/bytealg.IndexByteString", "internal/bytealg.IndexString"], unfollowed := true, recurses := true, named := ["internal/bytealg.MaxLen"], apart := false }
def FnExactResetTrainedSaid : Prop := fnExactResetTrainedRow.holds Try.pinned (OpenSpec.ofChange fnExactResetTrainedSpec)

/-- ITS FALSE NEIGHBOUR: 'it returns false'. Refute it at one input. -/
def fnExactResetTrainedWrong : ChangeSpec := { name := "fnExactResetTrained", fn := fun _ => fun
  | [d] => { results := [.lit (.bool false)], args := [d] }
  | _ => none }
def FnExactResetTrainedWrongFalsely : Prop := fnExactResetTrainedRow.holds Try.pinned (OpenSpec.ofChange fnExactResetTrainedWrong)

/-- 'laws.FnExactGestureOf': WHATEVER THE INPUT: true; the input reads as it did. -/
def fnExactGestureOfSpec : ChangeSpec := { name := "fnExactGestureOf", fn := fun _ => fun
  | [d] => { results := [.lit (.bool true)], args := [d] }
  | _ => none }
def fnExactGestureOfRow : OpenClaim := { program := "ytmnboneljjijmaa", sum := "1d5631bb02ecc4aed4d75f4daa5592256a3541edd8ebd6a134a3aa4e4f6b2ee0", func := "loop.example/g00918/laws.FnExactGestureOf", spec := "fnExactGestureOf", apart := false }
def FnExactGestureOfSaid : Prop := fnExactGestureOfRow.holds Try.pinned (OpenSpec.ofChange fnExactGestureOfSpec)

/-- ITS FALSE NEIGHBOUR: 'it returns false'. Refute it at one input. -/
def fnExactGestureOfWrong : ChangeSpec := { name := "fnExactGestureOf", fn := fun _ => fun
  | [d] => { results := [.lit (.bool false)], args := [d] }
  | _ => none }
def FnExactGestureOfWrongFalsely : Prop := fnExactGestureOfRow.holds Try.pinned (OpenSpec.ofChange fnExactGestureOfWrong)

/-- 'laws.FnExactWriterOfStore': WHATEVER THE INPUT: true; the input reads as it did. -/
def fnExactWriterOfStoreSpec : ChangeSpec := { name := "fnExactWriterOfStore", fn := fun _ => fun
  | [d] => { results := [.lit (.bool true)], args := [d] }
  | _ => none }
def fnExactWriterOfStoreRow : OpenClaim := { program := "ytmnboneljjijmaa", sum := "1d5631bb02ecc4aed4d75f4daa5592256a3541edd8ebd6a134a3aa4e4f6b2ee0", func := "loop.example/g00918/laws.FnExactWriterOfStore", spec := "fnExactWriterOfStore", inPlace := ["internal/bytealg.IndexByteString", "internal/bytealg.IndexString"], unfollowed := true, recurses := true, named := ["internal/bytealg.MaxLen"], apart := false }
def FnExactWriterOfStoreSaid : Prop := fnExactWriterOfStoreRow.holds Try.pinned (OpenSpec.ofChange fnExactWriterOfStoreSpec)

/-- ITS FALSE NEIGHBOUR: 'it returns false'. Refute it at one input. -/
def fnExactWriterOfStoreWrong : ChangeSpec := { name := "fnExactWriterOfStore", fn := fun _ => fun
  | [d] => { results := [.lit (.bool false)], args := [d] }
  | _ => none }
def FnExactWriterOfStoreWrongFalsely : Prop := fnExactWriterOfStoreRow.holds Try.pinned (OpenSpec.ofChange fnExactWriterOfStoreWrong)

/-- 'laws.FnExactStoreOfWriter': WHATEVER THE INPUT: true; the input reads as it did. -/
def fnExactStoreOfWriterSpec : ChangeSpec := { name := "fnExactStoreOfWriter", fn := fun _ => fun
  | [d] => { results := [.lit (.bool true)], args := [d] }
  | _ => none }
def fnExactStoreOfWriterRow : OpenClaim := { program := "ytmnboneljjijmaa", sum := "1d5631bb02ecc4aed4d75f4daa5592256a3541edd8ebd6a134a3aa4e4f6b2ee0", func := "loop.example/g00918/laws.FnExactStoreOfWriter", spec := "fnExactStoreOfWriter", inPlace := ["internal/bytealg.IndexByteString", "internal/bytealg.IndexString"], unfollowed := true, recurses := true, named := ["internal/bytealg.MaxLen"], apart := false }
def FnExactStoreOfWriterSaid : Prop := fnExactStoreOfWriterRow.holds Try.pinned (OpenSpec.ofChange fnExactStoreOfWriterSpec)

/-- ITS FALSE NEIGHBOUR: 'it returns false'. Refute it at one input. -/
def fnExactStoreOfWriterWrong : ChangeSpec := { name := "fnExactStoreOfWriter", fn := fun _ => fun
  | [d] => { results := [.lit (.bool false)], args := [d] }
  | _ => none }
def FnExactStoreOfWriterWrongFalsely : Prop := fnExactStoreOfWriterRow.holds Try.pinned (OpenSpec.ofChange fnExactStoreOfWriterWrong)

/-- 'laws.FnExactAdaptTrained': WHATEVER THE INPUT: true; the input reads as it did. -/
def fnExactAdaptTrainedSpec : ChangeSpec := { name := "fnExactAdaptTrained", fn := fun _ => fun
  | [d1, d2, d3, d4] => { results := [.lit (.bool true)], args := [d1, d2, d3, d4] }
  | _ => none }
def fnExactAdaptTrainedRow : OpenClaim := { program := "ytmnboneljjijmaa", sum := "1d5631bb02ecc4aed4d75f4daa5592256a3541edd8ebd6a134a3aa4e4f6b2ee0", func := "loop.example/g00918/laws.FnExactAdaptTrained", spec := "fnExactAdaptTrained", inPlace := ["internal/bytealg.IndexByteString", "internal/bytealg.IndexString"], unfollowed := true, recurses := true, named := ["internal/bytealg.MaxLen"], apart := false }
def FnExactAdaptTrainedSaid : Prop := fnExactAdaptTrainedRow.holds Try.pinned (OpenSpec.ofChange fnExactAdaptTrainedSpec)

/-- ITS FALSE NEIGHBOUR: 'it returns false'. Refute it at one input. -/
def fnExactAdaptTrainedWrong : ChangeSpec := { name := "fnExactAdaptTrained", fn := fun _ => fun
  | [d1, d2, d3, d4] => { results := [.lit (.bool false)], args := [d1, d2, d3, d4] }
  | _ => none }
def FnExactAdaptTrainedWrongFalsely : Prop := fnExactAdaptTrainedRow.holds Try.pinned (OpenSpec.ofChange fnExactAdaptTrainedWrong)

/- THE SECOND FORM. 'bulk': how many values and letters a reading holds, each counted each time it is reached (what is shared counts as often as it is met; a slice's spare places count too). A statement '..UptoSaid' is the law's where the arguments, and the package variables that the reading takes, are together of bulk at most 1048576: NARROWER than '..Said'. Prove '..Said' where nothing that the law and all that it calls make is longer than what came in: it says more and counts as full. Else prove '..UptoSaid'. A law counts once. -/
mutual
def uptoBulk {H : Type} : DataW H → Nat
  | .lit (.string bytes) => bytes.length + 1
  | .lit _ => 1
  | .nil => 1
  | .ptr d => uptoBulk d + 1
  | .slice elems spare => uptoBulkAll elems + uptoBulkAll spare + 1
  | .agg parts => uptoBulkAll parts + 1
  | .iface _ d => uptoBulk d + 1
  | .map entries => uptoBulkEntries entries + 1
  | .held _ => 1
def uptoBulkAll {H : Type} : List (DataW H) → Nat
  | [] => 0
  | d :: r => uptoBulk d + uptoBulkAll r
def uptoBulkEntries {H : Type} : List (Lit × DataW H) → Nat
  | [] => 0
  | x :: r => uptoBulkEntry x + uptoBulkEntries r
def uptoBulkEntry {H : Type} : Lit × DataW H → Nat
  | (.string bytes, d) => bytes.length + uptoBulk d + 1
  | (_, d) => uptoBulk d + 1
 end
def uptoSmall : (H : Type) → List (DataW H) → Bool := fun _ ds => decide (uptoBulkAll ds ≤ 1048576)
def OpenSpec.upto (s : _root_.Go.ChangeSpec) : _root_.Go.OpenSpec := { _root_.Go.OpenSpec.ofChange s with cond := some uptoSmall }

/-- 'laws.FnExactShiftOf', WHERE WHAT IT READS IS OF BULK AT MOST 1048576: true; the input reads as it did. -/
def fnExactShiftOfUptoRow : OpenClaim := { program := "ytmnboneljjijmaa", sum := "1d5631bb02ecc4aed4d75f4daa5592256a3541edd8ebd6a134a3aa4e4f6b2ee0", func := "loop.example/g00918/laws.FnExactShiftOf", spec := "fnExactShiftOf", inPlace := ["internal/bytealg.IndexByteString", "internal/bytealg.IndexString"], unfollowed := true, recurses := true, named := ["internal/bytealg.MaxLen"], apart := false, narrowed := true }
def FnExactShiftOfUptoSaid : Prop := fnExactShiftOfUptoRow.holds Try.pinned (OpenSpec.upto fnExactShiftOfSpec)

/-- 'laws.FnExactStartTrained', WHERE WHAT IT READS IS OF BULK AT MOST 1048576: true; the input reads as it did. -/
def fnExactStartTrainedUptoRow : OpenClaim := { program := "ytmnboneljjijmaa", sum := "1d5631bb02ecc4aed4d75f4daa5592256a3541edd8ebd6a134a3aa4e4f6b2ee0", func := "loop.example/g00918/laws.FnExactStartTrained", spec := "fnExactStartTrained", inPlace := ["internal/bytealg.IndexByteString", "internal/bytealg.IndexString"], unfollowed := true, recurses := true, named := ["internal/bytealg.MaxLen"], apart := false, narrowed := true }
def FnExactStartTrainedUptoSaid : Prop := fnExactStartTrainedUptoRow.holds Try.pinned (OpenSpec.upto fnExactStartTrainedSpec)

/-- 'laws.FnExactValidWriter', WHERE WHAT IT READS IS OF BULK AT MOST 1048576: true; the input reads as it did. -/
def fnExactValidWriterUptoRow : OpenClaim := { program := "ytmnboneljjijmaa", sum := "1d5631bb02ecc4aed4d75f4daa5592256a3541edd8ebd6a134a3aa4e4f6b2ee0", func := "loop.example/g00918/laws.FnExactValidWriter", spec := "fnExactValidWriter", inPlace := ["internal/bytealg.IndexByteString", "internal/bytealg.IndexString"], unfollowed := true, recurses := true, named := ["internal/bytealg.MaxLen"], apart := false, narrowed := true }
def FnExactValidWriterUptoSaid : Prop := fnExactValidWriterUptoRow.holds Try.pinned (OpenSpec.upto fnExactValidWriterSpec)

/-- 'laws.FnExactResetTrained', WHERE WHAT IT READS IS OF BULK AT MOST 1048576: true; the input reads as it did. -/
def fnExactResetTrainedUptoRow : OpenClaim := { program := "ytmnboneljjijmaa", sum := "1d5631bb02ecc4aed4d75f4daa5592256a3541edd8ebd6a134a3aa4e4f6b2ee0", func := "loop.example/g00918/laws.FnExactResetTrained", spec := "fnExactResetTrained", inPlace := ["internal/bytealg.IndexByteString", "internal/bytealg.IndexString"], unfollowed := true, recurses := true, named := ["internal/bytealg.MaxLen"], apart := false, narrowed := true }
def FnExactResetTrainedUptoSaid : Prop := fnExactResetTrainedUptoRow.holds Try.pinned (OpenSpec.upto fnExactResetTrainedSpec)

/-- 'laws.FnExactGestureOf', WHERE WHAT IT READS IS OF BULK AT MOST 1048576: true; the input reads as it did. -/
def fnExactGestureOfUptoRow : OpenClaim := { program := "ytmnboneljjijmaa", sum := "1d5631bb02ecc4aed4d75f4daa5592256a3541edd8ebd6a134a3aa4e4f6b2ee0", func := "loop.example/g00918/laws.FnExactGestureOf", spec := "fnExactGestureOf", apart := false, narrowed := true }
def FnExactGestureOfUptoSaid : Prop := fnExactGestureOfUptoRow.holds Try.pinned (OpenSpec.upto fnExactGestureOfSpec)

/-- 'laws.FnExactWriterOfStore', WHERE WHAT IT READS IS OF BULK AT MOST 1048576: true; the input reads as it did. -/
def fnExactWriterOfStoreUptoRow : OpenClaim := { program := "ytmnboneljjijmaa", sum := "1d5631bb02ecc4aed4d75f4daa5592256a3541edd8ebd6a134a3aa4e4f6b2ee0", func := "loop.example/g00918/laws.FnExactWriterOfStore", spec := "fnExactWriterOfStore", inPlace := ["internal/bytealg.IndexByteString", "internal/bytealg.IndexString"], unfollowed := true, recurses := true, named := ["internal/bytealg.MaxLen"], apart := false, narrowed := true }
def FnExactWriterOfStoreUptoSaid : Prop := fnExactWriterOfStoreUptoRow.holds Try.pinned (OpenSpec.upto fnExactWriterOfStoreSpec)

/-- 'laws.FnExactStoreOfWriter', WHERE WHAT IT READS IS OF BULK AT MOST 1048576: true; the input reads as it did. -/
def fnExactStoreOfWriterUptoRow : OpenClaim := { program := "ytmnboneljjijmaa", sum := "1d5631bb02ecc4aed4d75f4daa5592256a3541edd8ebd6a134a3aa4e4f6b2ee0", func := "loop.example/g00918/laws.FnExactStoreOfWriter", spec := "fnExactStoreOfWriter", inPlace := ["internal/bytealg.IndexByteString", "internal/bytealg.IndexString"], unfollowed := true, recurses := true, named := ["internal/bytealg.MaxLen"], apart := false, narrowed := true }
def FnExactStoreOfWriterUptoSaid : Prop := fnExactStoreOfWriterUptoRow.holds Try.pinned (OpenSpec.upto fnExactStoreOfWriterSpec)

/-- 'laws.FnExactAdaptTrained', WHERE WHAT IT READS IS OF BULK AT MOST 1048576: true; the input reads as it did. -/
def fnExactAdaptTrainedUptoRow : OpenClaim := { program := "ytmnboneljjijmaa", sum := "1d5631bb02ecc4aed4d75f4daa5592256a3541edd8ebd6a134a3aa4e4f6b2ee0", func := "loop.example/g00918/laws.FnExactAdaptTrained", spec := "fnExactAdaptTrained", inPlace := ["internal/bytealg.IndexByteString", "internal/bytealg.IndexString"], unfollowed := true, recurses := true, named := ["internal/bytealg.MaxLen"], apart := false, narrowed := true }
def FnExactAdaptTrainedUptoSaid : Prop := fnExactAdaptTrainedUptoRow.holds Try.pinned (OpenSpec.upto fnExactAdaptTrainedSpec)

end Rows
end Go.Proofs.Ytmnboneljjijmaa
