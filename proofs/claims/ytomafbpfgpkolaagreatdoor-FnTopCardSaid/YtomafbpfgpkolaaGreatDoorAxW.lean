/- What the worlds of this seat's calls bear: nothing is asked. No conditions. -/
import Derived.Test.YtomafbpfgpkolaaGreatDoorRows
namespace Go.Proofs.YtomafbpfgpkolaaGreatDoor.Ax
open Go
def WX (_:World):Prop:=True
theorem WX_free:∀w,WX w:=fun _=>trivial
end Go.Proofs.YtomafbpfgpkolaaGreatDoor.Ax
