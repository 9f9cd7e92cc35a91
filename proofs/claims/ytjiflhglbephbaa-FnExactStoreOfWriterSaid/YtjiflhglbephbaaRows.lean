/-
  No cell of these rows narrows 'for every input' (looked for: loops, veiled, ifaces, maps, wideKeys, modest, calm, conditions, laid).
  DERIVED. THE GIVEN ROWS OF THIS SEAT. 2 by the template 'for every input the law returns true; each argument reads behind the call as it read before'; 0 by the template 'total and deterministic' (their statements: YtjiflhglbephbaaTotals.lean).
  GIVEN WITH THE SEED: the statements are not yours to turn. If you find one false, say at which input.
  Laid BY PROGRAM, IN A SANDBOX (cutbox-rows.mjs): the forced cells as the released guide's own fill.sh prints them over the translation 4b99a4495dcdddb3… (all of the seat's roots in one cut). By AI agents, Wed Nov 11 2026. No macro, syntax, notation, axiom, sorry.
-/
import Derived.Test.YtjiflhglbephbaaChecked
import GoSem.Claim
import GoSem.ClaimJoined
import GoSem.ClaimMapViews
import Derived.JoinedTies
import Derived.KernelRfl
namespace Go.Proofs.Ytjiflhglbephbaa
/- THE CELL 'sum', in the pinned program and in every row, IS THE sha256 OF THE DUMP (.gsa) THAT YtjiflhglbephbaaProg.lean LOADS. Nothing in Lean hashes anything: it is a label: what it is worth is what the hold of that sum in a sandbox is worth. -/
noncomputable def Try.pinned : Pinned := { name := "ytjiflhglbephbaa", sum := "4b99a4495dcdddb36573538fe801e80d420add8a6b88419836dc5c73a8afffad", checked := Try.checked }
namespace Rows
def none {H : Type} : Left H := { results := [], args := [] }

/-- 'laws.FnExactWriterOfStore': WHATEVER THE INPUT: true; the input reads as it did. -/
def fnExactWriterOfStoreSpec : ChangeSpec := { name := "fnExactWriterOfStore", fn := fun _ => fun
  | [d] => { results := [.lit (.bool true)], args := [d] }
  | _ => none }
def fnExactWriterOfStoreRow : OpenClaim := { program := "ytjiflhglbephbaa", sum := "4b99a4495dcdddb36573538fe801e80d420add8a6b88419836dc5c73a8afffad", func := "loop.example/g00918/laws.FnExactWriterOfStore", spec := "fnExactWriterOfStore", inPlace := ["internal/bytealg.IndexByteString", "internal/bytealg.IndexString"], unfollowed := true, recurses := true, named := ["internal/bytealg.MaxLen"], apart := false }
def FnExactWriterOfStoreSaid : Prop := fnExactWriterOfStoreRow.holds Try.pinned (OpenSpec.ofChange fnExactWriterOfStoreSpec)

/-- ITS FALSE NEIGHBOUR: 'it returns false'. Refute it at one input. -/
def fnExactWriterOfStoreWrong : ChangeSpec := { name := "fnExactWriterOfStore", fn := fun _ => fun
  | [d] => { results := [.lit (.bool false)], args := [d] }
  | _ => none }
def FnExactWriterOfStoreWrongFalsely : Prop := fnExactWriterOfStoreRow.holds Try.pinned (OpenSpec.ofChange fnExactWriterOfStoreWrong)

/-- 'laws.FnExactStoreOfWriter': WHATEVER THE INPUT: true; the input reads as it did. -/
def fnExactStoreOfWriterSpec : ChangeSpec := { name := "fnExactStoreOfWriter", fn := fun _ => fun
  | [d] => { results := [.lit (.bool true)], args := [d] }
  | _ => none }
def fnExactStoreOfWriterRow : OpenClaim := { program := "ytjiflhglbephbaa", sum := "4b99a4495dcdddb36573538fe801e80d420add8a6b88419836dc5c73a8afffad", func := "loop.example/g00918/laws.FnExactStoreOfWriter", spec := "fnExactStoreOfWriter", inPlace := ["internal/bytealg.IndexByteString", "internal/bytealg.IndexString"], unfollowed := true, recurses := true, named := ["internal/bytealg.MaxLen"], apart := false }
def FnExactStoreOfWriterSaid : Prop := fnExactStoreOfWriterRow.holds Try.pinned (OpenSpec.ofChange fnExactStoreOfWriterSpec)

/-- ITS FALSE NEIGHBOUR: 'it returns false'. Refute it at one input. -/
def fnExactStoreOfWriterWrong : ChangeSpec := { name := "fnExactStoreOfWriter", fn := fun _ => fun
  | [d] => { results := [.lit (.bool false)], args := [d] }
  | _ => none }
def FnExactStoreOfWriterWrongFalsely : Prop := fnExactStoreOfWriterRow.holds Try.pinned (OpenSpec.ofChange fnExactStoreOfWriterWrong)

/- THE SECOND FORM. 'bulk': how many values and letters a reading holds, each counted each time it is reached (what is shared counts as often as it is met; a slice's spare places count too). A statement '..UptoSaid' is the law's where the arguments, and the package variables that the reading takes, are together of bulk at most 1048576: NARROWER than '..Said'. Prove '..Said' where nothing that the law and all that it calls make is longer than what came in: it says more and counts as full. Else prove '..UptoSaid'. A law counts once. -/
mutual
def uptoBulk {H : Type} : DataW H → Nat
  | .lit (.string bytes) => bytes.length + 1
  | .lit _ => 1
  | .nil => 1
  | .ptr d => uptoBulk d + 1
  | .slice elems spare => uptoBulkAll elems + uptoBulkAll spare + 1
  | .agg parts => uptoBulkAll parts + 1
  | .iface _ d => uptoBulk d + 1
  | .map entries => uptoBulkEntries entries + 1
  | .held _ => 1
def uptoBulkAll {H : Type} : List (DataW H) → Nat
  | [] => 0
  | d :: r => uptoBulk d + uptoBulkAll r
def uptoBulkEntries {H : Type} : List (Lit × DataW H) → Nat
  | [] => 0
  | x :: r => uptoBulkEntry x + uptoBulkEntries r
def uptoBulkEntry {H : Type} : Lit × DataW H → Nat
  | (.string bytes, d) => bytes.length + uptoBulk d + 1
  | (_, d) => uptoBulk d + 1
 end
def uptoSmall : (H : Type) → List (DataW H) → Bool := fun _ ds => decide (uptoBulkAll ds ≤ 1048576)
def OpenSpec.upto (s : _root_.Go.ChangeSpec) : _root_.Go.OpenSpec := { _root_.Go.OpenSpec.ofChange s with cond := some uptoSmall }

/-- 'laws.FnExactWriterOfStore', WHERE WHAT IT READS IS OF BULK AT MOST 1048576: true; the input reads as it did. -/
def fnExactWriterOfStoreUptoRow : OpenClaim := { program := "ytjiflhglbephbaa", sum := "4b99a4495dcdddb36573538fe801e80d420add8a6b88419836dc5c73a8afffad", func := "loop.example/g00918/laws.FnExactWriterOfStore", spec := "fnExactWriterOfStore", inPlace := ["internal/bytealg.IndexByteString", "internal/bytealg.IndexString"], unfollowed := true, recurses := true, named := ["internal/bytealg.MaxLen"], apart := false, narrowed := true }
def FnExactWriterOfStoreUptoSaid : Prop := fnExactWriterOfStoreUptoRow.holds Try.pinned (OpenSpec.upto fnExactWriterOfStoreSpec)

/-- 'laws.FnExactStoreOfWriter', WHERE WHAT IT READS IS OF BULK AT MOST 1048576: true; the input reads as it did. -/
def fnExactStoreOfWriterUptoRow : OpenClaim := { program := "ytjiflhglbephbaa", sum := "4b99a4495dcdddb36573538fe801e80d420add8a6b88419836dc5c73a8afffad", func := "loop.example/g00918/laws.FnExactStoreOfWriter", spec := "fnExactStoreOfWriter", inPlace := ["internal/bytealg.IndexByteString", "internal/bytealg.IndexString"], unfollowed := true, recurses := true, named := ["internal/bytealg.MaxLen"], apart := false, narrowed := true }
def FnExactStoreOfWriterUptoSaid : Prop := fnExactStoreOfWriterUptoRow.holds Try.pinned (OpenSpec.upto fnExactStoreOfWriterSpec)

end Rows
end Go.Proofs.Ytjiflhglbephbaa
