/-
  No cell of these rows narrows 'for every input' (looked for: loops, veiled, ifaces, maps, wideKeys, modest, calm, conditions, laid).
  DERIVED. THE GIVEN ROWS OF THIS SEAT. 5 by the template 'for every input the law returns true; each argument reads behind the call as it read before'; 0 by the template 'total and deterministic' (their statements: YtjfopofcbopfjaaTotals.lean).
  GIVEN WITH THE SEED: the statements are not yours to turn. If you find one false, say at which input.
  Laid BY PROGRAM, IN A SANDBOX (cutbox-rows.mjs): the forced cells as the released guide's own fill.sh prints them over the translation e0e89dc9150178d2… (all of the seat's roots in one cut). By AI agents, Wed Nov 11 2026. No macro, syntax, notation, axiom, sorry.
-/
import Derived.Test.YtjfopofcbopfjaaChecked
import GoSem.Claim
import GoSem.ClaimJoined
import GoSem.ClaimMapViews
import Derived.JoinedTies
import Derived.KernelRfl
namespace Go.Proofs.Ytjfopofcbopfjaa
/- THE CELL 'sum', in the pinned program and in every row, IS THE sha256 OF THE DUMP (.gsa) THAT YtjfopofcbopfjaaProg.lean LOADS. Nothing in Lean hashes anything: it is a label: what it is worth is what the hold of that sum in a sandbox is worth. -/
noncomputable def Try.pinned : Pinned := { name := "ytjfopofcbopfjaa", sum := "e0e89dc9150178d2ae5f3d0c2568e5753089743cf22499d913c4327bb67b635b", checked := Try.checked }
namespace Rows
def none {H : Type} : Left H := { results := [], args := [] }

/-- 'laws.FnExactGestureName': WHATEVER THE INPUT: true; the input reads as it did. -/
def fnExactGestureNameSpec : ChangeSpec := { name := "fnExactGestureName", fn := fun _ => fun
  | [d] => { results := [.lit (.bool true)], args := [d] }
  | _ => none }
def fnExactGestureNameRow : OpenClaim := { program := "ytjfopofcbopfjaa", sum := "e0e89dc9150178d2ae5f3d0c2568e5753089743cf22499d913c4327bb67b635b", func := "loop.example/g00918/laws.FnExactGestureName", spec := "fnExactGestureName", apart := false }
def FnExactGestureNameSaid : Prop := fnExactGestureNameRow.holds Try.pinned (OpenSpec.ofChange fnExactGestureNameSpec)

/-- ITS FALSE NEIGHBOUR: 'it returns false'. Refute it at one input. -/
def fnExactGestureNameWrong : ChangeSpec := { name := "fnExactGestureName", fn := fun _ => fun
  | [d] => { results := [.lit (.bool false)], args := [d] }
  | _ => none }
def FnExactGestureNameWrongFalsely : Prop := fnExactGestureNameRow.holds Try.pinned (OpenSpec.ofChange fnExactGestureNameWrong)

/-- 'laws.FnExactSameTrained': WHATEVER THE INPUT: true; the input reads as it did. -/
def fnExactSameTrainedSpec : ChangeSpec := { name := "fnExactSameTrained", fn := fun _ => fun
  | [d1, d2] => { results := [.lit (.bool true)], args := [d1, d2] }
  | _ => none }
def fnExactSameTrainedRow : OpenClaim := { program := "ytjfopofcbopfjaa", sum := "e0e89dc9150178d2ae5f3d0c2568e5753089743cf22499d913c4327bb67b635b", func := "loop.example/g00918/laws.FnExactSameTrained", spec := "fnExactSameTrained", apart := false }
def FnExactSameTrainedSaid : Prop := fnExactSameTrainedRow.holds Try.pinned (OpenSpec.ofChange fnExactSameTrainedSpec)

/-- ITS FALSE NEIGHBOUR: 'it returns false'. Refute it at one input. -/
def fnExactSameTrainedWrong : ChangeSpec := { name := "fnExactSameTrained", fn := fun _ => fun
  | [d1, d2] => { results := [.lit (.bool false)], args := [d1, d2] }
  | _ => none }
def FnExactSameTrainedWrongFalsely : Prop := fnExactSameTrainedRow.holds Try.pinned (OpenSpec.ofChange fnExactSameTrainedWrong)

/-- 'laws.FnExactReversalsOf': WHATEVER THE INPUT: true; the input reads as it did. -/
def fnExactReversalsOfSpec : ChangeSpec := { name := "fnExactReversalsOf", fn := fun _ => fun
  | [d] => { results := [.lit (.bool true)], args := [d] }
  | _ => none }
def fnExactReversalsOfRow : OpenClaim := { program := "ytjfopofcbopfjaa", sum := "e0e89dc9150178d2ae5f3d0c2568e5753089743cf22499d913c4327bb67b635b", func := "loop.example/g00918/laws.FnExactReversalsOf", spec := "fnExactReversalsOf", apart := false }
def FnExactReversalsOfSaid : Prop := fnExactReversalsOfRow.holds Try.pinned (OpenSpec.ofChange fnExactReversalsOfSpec)

/-- ITS FALSE NEIGHBOUR: 'it returns false'. Refute it at one input. -/
def fnExactReversalsOfWrong : ChangeSpec := { name := "fnExactReversalsOf", fn := fun _ => fun
  | [d] => { results := [.lit (.bool false)], args := [d] }
  | _ => none }
def FnExactReversalsOfWrongFalsely : Prop := fnExactReversalsOfRow.holds Try.pinned (OpenSpec.ofChange fnExactReversalsOfWrong)

/-- 'laws.FnExactSameWriter': WHATEVER THE INPUT: true; the input reads as it did. -/
def fnExactSameWriterSpec : ChangeSpec := { name := "fnExactSameWriter", fn := fun _ => fun
  | [d1, d2] => { results := [.lit (.bool true)], args := [d1, d2] }
  | _ => none }
def fnExactSameWriterRow : OpenClaim := { program := "ytjfopofcbopfjaa", sum := "e0e89dc9150178d2ae5f3d0c2568e5753089743cf22499d913c4327bb67b635b", func := "loop.example/g00918/laws.FnExactSameWriter", spec := "fnExactSameWriter", unfollowed := true, recurses := true, apart := false }
def FnExactSameWriterSaid : Prop := fnExactSameWriterRow.holds Try.pinned (OpenSpec.ofChange fnExactSameWriterSpec)

/-- ITS FALSE NEIGHBOUR: 'it returns false'. Refute it at one input. -/
def fnExactSameWriterWrong : ChangeSpec := { name := "fnExactSameWriter", fn := fun _ => fun
  | [d1, d2] => { results := [.lit (.bool false)], args := [d1, d2] }
  | _ => none }
def FnExactSameWriterWrongFalsely : Prop := fnExactSameWriterRow.holds Try.pinned (OpenSpec.ofChange fnExactSameWriterWrong)

/-- 'laws.FnExactValidTrained': WHATEVER THE INPUT: true; the input reads as it did. -/
def fnExactValidTrainedSpec : ChangeSpec := { name := "fnExactValidTrained", fn := fun _ => fun
  | [d] => { results := [.lit (.bool true)], args := [d] }
  | _ => none }
def fnExactValidTrainedRow : OpenClaim := { program := "ytjfopofcbopfjaa", sum := "e0e89dc9150178d2ae5f3d0c2568e5753089743cf22499d913c4327bb67b635b", func := "loop.example/g00918/laws.FnExactValidTrained", spec := "fnExactValidTrained", inPlace := ["internal/bytealg.IndexByteString", "internal/bytealg.IndexString"], unfollowed := true, recurses := true, named := ["internal/bytealg.MaxLen"], apart := false }
def FnExactValidTrainedSaid : Prop := fnExactValidTrainedRow.holds Try.pinned (OpenSpec.ofChange fnExactValidTrainedSpec)

/-- ITS FALSE NEIGHBOUR: 'it returns false'. Refute it at one input. -/
def fnExactValidTrainedWrong : ChangeSpec := { name := "fnExactValidTrained", fn := fun _ => fun
  | [d] => { results := [.lit (.bool false)], args := [d] }
  | _ => none }
def FnExactValidTrainedWrongFalsely : Prop := fnExactValidTrainedRow.holds Try.pinned (OpenSpec.ofChange fnExactValidTrainedWrong)

/- THE SECOND FORM. 'bulk': how many values and letters a reading holds, each counted each time it is reached (what is shared counts as often as it is met; a slice's spare places count too). A statement '..UptoSaid' is the law's where the arguments, and the package variables that the reading takes, are together of bulk at most 1048576: NARROWER than '..Said'. Prove '..Said' where nothing that the law and all that it calls make is longer than what came in: it says more and counts as full. Else prove '..UptoSaid'. A law counts once. -/
mutual
def uptoBulk {H : Type} : DataW H → Nat
  | .lit (.string bytes) => bytes.length + 1
  | .lit _ => 1
  | .nil => 1
  | .ptr d => uptoBulk d + 1
  | .slice elems spare => uptoBulkAll elems + uptoBulkAll spare + 1
  | .agg parts => uptoBulkAll parts + 1
  | .iface _ d => uptoBulk d + 1
  | .map entries => uptoBulkEntries entries + 1
  | .held _ => 1
def uptoBulkAll {H : Type} : List (DataW H) → Nat
  | [] => 0
  | d :: r => uptoBulk d + uptoBulkAll r
def uptoBulkEntries {H : Type} : List (Lit × DataW H) → Nat
  | [] => 0
  | x :: r => uptoBulkEntry x + uptoBulkEntries r
def uptoBulkEntry {H : Type} : Lit × DataW H → Nat
  | (.string bytes, d) => bytes.length + uptoBulk d + 1
  | (_, d) => uptoBulk d + 1
 end
def uptoSmall : (H : Type) → List (DataW H) → Bool := fun _ ds => decide (uptoBulkAll ds ≤ 1048576)
def OpenSpec.upto (s : _root_.Go.ChangeSpec) : _root_.Go.OpenSpec := { _root_.Go.OpenSpec.ofChange s with cond := some uptoSmall }

/-- 'laws.FnExactGestureName', WHERE WHAT IT READS IS OF BULK AT MOST 1048576: true; the input reads as it did. -/
def fnExactGestureNameUptoRow : OpenClaim := { program := "ytjfopofcbopfjaa", sum := "e0e89dc9150178d2ae5f3d0c2568e5753089743cf22499d913c4327bb67b635b", func := "loop.example/g00918/laws.FnExactGestureName", spec := "fnExactGestureName", apart := false, narrowed := true }
def FnExactGestureNameUptoSaid : Prop := fnExactGestureNameUptoRow.holds Try.pinned (OpenSpec.upto fnExactGestureNameSpec)

/-- 'laws.FnExactSameTrained', WHERE WHAT IT READS IS OF BULK AT MOST 1048576: true; the input reads as it did. -/
def fnExactSameTrainedUptoRow : OpenClaim := { program := "ytjfopofcbopfjaa", sum := "e0e89dc9150178d2ae5f3d0c2568e5753089743cf22499d913c4327bb67b635b", func := "loop.example/g00918/laws.FnExactSameTrained", spec := "fnExactSameTrained", apart := false, narrowed := true }
def FnExactSameTrainedUptoSaid : Prop := fnExactSameTrainedUptoRow.holds Try.pinned (OpenSpec.upto fnExactSameTrainedSpec)

/-- 'laws.FnExactReversalsOf', WHERE WHAT IT READS IS OF BULK AT MOST 1048576: true; the input reads as it did. -/
def fnExactReversalsOfUptoRow : OpenClaim := { program := "ytjfopofcbopfjaa", sum := "e0e89dc9150178d2ae5f3d0c2568e5753089743cf22499d913c4327bb67b635b", func := "loop.example/g00918/laws.FnExactReversalsOf", spec := "fnExactReversalsOf", apart := false, narrowed := true }
def FnExactReversalsOfUptoSaid : Prop := fnExactReversalsOfUptoRow.holds Try.pinned (OpenSpec.upto fnExactReversalsOfSpec)

/-- 'laws.FnExactSameWriter', WHERE WHAT IT READS IS OF BULK AT MOST 1048576: true; the input reads as it did. -/
def fnExactSameWriterUptoRow : OpenClaim := { program := "ytjfopofcbopfjaa", sum := "e0e89dc9150178d2ae5f3d0c2568e5753089743cf22499d913c4327bb67b635b", func := "loop.example/g00918/laws.FnExactSameWriter", spec := "fnExactSameWriter", unfollowed := true, recurses := true, apart := false, narrowed := true }
def FnExactSameWriterUptoSaid : Prop := fnExactSameWriterUptoRow.holds Try.pinned (OpenSpec.upto fnExactSameWriterSpec)

/-- 'laws.FnExactValidTrained', WHERE WHAT IT READS IS OF BULK AT MOST 1048576: true; the input reads as it did. -/
def fnExactValidTrainedUptoRow : OpenClaim := { program := "ytjfopofcbopfjaa", sum := "e0e89dc9150178d2ae5f3d0c2568e5753089743cf22499d913c4327bb67b635b", func := "loop.example/g00918/laws.FnExactValidTrained", spec := "fnExactValidTrained", inPlace := ["internal/bytealg.IndexByteString", "internal/bytealg.IndexString"], unfollowed := true, recurses := true, named := ["internal/bytealg.MaxLen"], apart := false, narrowed := true }
def FnExactValidTrainedUptoSaid : Prop := fnExactValidTrainedUptoRow.holds Try.pinned (OpenSpec.upto fnExactValidTrainedSpec)

end Rows
end Go.Proofs.Ytjfopofcbopfjaa
