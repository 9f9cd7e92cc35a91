/- More plain lemmas on memory. No conditions. -/
import Derived.Test.YtnlfghpgfjlblaaDoorMem
import Derived.Lib.QuietBelow
namespace Go.Proofs.YtnlfghpgfjlblaaDoor
open Go.RowKit
set_option linter.unusedVariables false
theorem kc {B:Nat} {w w1:World} {b o:Nat} {u:Value} (hb:Below B w w1) (hlt:b<B) (h:w.cell? ⟨b,o,none⟩=some u):w1.cell? ⟨b,o,none⟩=some u:=(hb.cell (p:=⟨b,o,none⟩) hlt).trans h
theorem Rep.drew_ {α:Type} (R:Rep α) {w:World} {cs:List Value} {x:α} (h:R.rel w (Old w) cs x):R.rel w.drew (Old w.drew) cs x:=R.keep h fun b hb=>⟨rfl,hb⟩
theorem Rep.drewN_ {α:Type} (R:Rep α) {w:World} {cs:List Value} {x:α} (h:R.rel w (Old w) cs x) (n:Nat):R.rel (w.drewN n) (Old (w.drewN n)) cs x:=R.keep h fun b hb=>⟨rfl,hb⟩
theorem At.drew_ {α:Type} {R:Rep α} {w:World} {b o:Nat} {cs:List Value} {x:α} (h:At R w (Old w) b o cs x):At R w.drew (Old w.drew) b o cs x:=
 ⟨h.1,R.keep h.2.1 fun b hb=>⟨rfl,hb⟩,h.2.2⟩
def Quiet (w:World) (v:Value) (e:Ending) (w':World):Prop:=e= .returned v∧∃n,w'=w.drewN n
theorem Quiet.below {w w':World} {v:Value} {e:Ending} (h:Quiet w v e w'):e= .returned v∧Below w.heap.size w w':=by
 obtain ⟨rfl,n,rfl⟩:=h
 exact ⟨rfl,Zqt (Below.refl _ _) n⟩
end Go.Proofs.YtnlfghpgfjlblaaDoor
