/- Sorting an array of the call's own: the shelf's contract of the sort as a contract over trees. Plain lemmas on the model. No conditions. -/
import Derived.Test.YtecdjaknbiekkaaGreatDoorAxP
import Derived.Sort.Row
import Derived.Sort.Grow
namespace Go.Proofs.YtecdjaknbiekkaaGreatDoor.Ax
open Go.RowKit
set_option linter.unusedVariables false
set_option linter.unusedSimpArgs false
theorem RelT.val_of {w : World} {S : Bool → Nat → Prop} {v x : Value} (h : RelT w S (.val v) x) : x = v := by cases h; rfl
end Go.Proofs.YtecdjaknbiekkaaGreatDoor.Ax
