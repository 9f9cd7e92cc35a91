/- The abstract run: branches that meet again. Plain lemmas on the model. No conditions. -/
import Derived.Test.YtfafngbbaplknaaAxO
namespace Go.Proofs.Ytfafngbbaplknaa.Ax
open Go.RowKit
set_option linter.unusedVariables false
set_option linter.unusedSimpArgs false
section
variable {P : Program} {B : Base} {nt : Nat} {σ : St}
variable {lent : List Nat} {R : Type} {Q : R → Base → Exit → Act → World → Prop} {Φ : R → Prop}
def CutF {X:Type} (Φ:R→Prop) (inv:X→Prop):R⊕X→Prop
 | .inl r=>Φ r
 | .inr y=>inv y
theorem x_cut {X:Type} {x y:Code} (S:X→St) (inv:X→Prop) (h1:XW P lent nt x σ (Zqa nt S Q) (CutF Φ inv)) (h2:∀z,inv z→XW P lent nt y (S z) Q Φ):XW P lent nt (.seq x y) σ Q Φ:=by
 obtain ⟨r,hr,h1⟩:=h1
 cases r with
 |inl r=>exact ⟨r,hr,fun B hB=>Zai fun a w hs=>wp_mono (h1 B hB a w hs) fun e a w hq=>by cases e<;>first|exact hq|exact (show False from hq).elim⟩
 |inr z=>
  obtain ⟨r,hr2,h2⟩:=h2 z hr
  exact ⟨r,hr2,fun B hB=>Zai fun a w hs=>wp_mono (h1 B hB a w hs) fun e a w hq=>by cases e<;>first|exact h2 B hB a w hq|exact (show False from hq).elim⟩
theorem Zip {X:Type} {S:X→St} {inv:X→Prop} (y:X) (hs:σ=S y) (hi:inv y):XE lent nt .normal σ (Zqa nt S Q) (CutF Φ inv):=
 ⟨.inr y,hi,fun B hB a w h=>by subst hs;exact h⟩
end
end Go.Proofs.Ytfafngbbaplknaa.Ax
