/- What the worlds of this seat's calls bear: nothing is asked. No conditions. -/
import Derived.Test.YtnlfghpgfjlblaaDoorRows
namespace Go.Proofs.YtnlfghpgfjlblaaDoor.Ax
open Go
def WX (_:World):Prop:=True
theorem WX_free:∀w,WX w:=fun _=>trivial
end Go.Proofs.YtnlfghpgfjlblaaDoor.Ax
