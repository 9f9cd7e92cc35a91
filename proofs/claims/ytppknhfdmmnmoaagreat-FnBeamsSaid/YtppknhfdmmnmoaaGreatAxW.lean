/- What the worlds of this seat's calls bear: nothing is asked. No conditions. -/
import Derived.Test.YtppknhfdmmnmoaaGreatRows
namespace Go.Proofs.YtppknhfdmmnmoaaGreat.Ax
open Go
/-- What is known of the package-level variables. -/
def WX (_ : World) : Prop := True
theorem WX_free : ∀ w, WX w := fun _ => trivial
end Go.Proofs.YtppknhfdmmnmoaaGreat.Ax
