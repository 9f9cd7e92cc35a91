/- What the worlds of this seat's calls bear: nothing is asked. No conditions. -/
import Derived.Test.YtfafngbbaplknaaRows
namespace Go.Proofs.Ytfafngbbaplknaa.Ax
open Go
def WX (_:World):Prop:=True
theorem WX_free:∀w,WX w:=fun _=>trivial
end Go.Proofs.Ytfafngbbaplknaa.Ax
