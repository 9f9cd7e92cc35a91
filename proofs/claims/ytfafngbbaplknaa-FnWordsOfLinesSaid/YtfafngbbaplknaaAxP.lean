/- The abstract run: contracts under other names of their objects. Plain lemmas. No conditions. -/
import Derived.Test.YtfafngbbaplknaaAxO
namespace Go.Proofs.Ytfafngbbaplknaa.Ax
open Go.RowKit
set_option linter.unusedVariables false
set_option linter.unusedSimpArgs false
def swp (a b i:Nat):Nat:=bif Nat.beq i a then b else bif Nat.beq i b then a else i
theorem Zid (a b i:Nat):swp a b (swp a b i)=i:=by
 unfold swp
 by_cases h1:i=a
 ·subst h1
  by_cases h2:b=i
  ·subst h2;simp
  ·have:Nat.beq b i=false:=Bool.eq_false_iff.2 fun h=>h2 (Nat.eq_of_beq_eq_true h)
   simp [this]
 ·have e1:Nat.beq i a=false:=Bool.eq_false_iff.2 fun h=>h1 (Nat.eq_of_beq_eq_true h)
  by_cases h2:i=b
  ·subst h2;simp [e1]
  ·have e2:Nat.beq i b=false:=Bool.eq_false_iff.2 fun h=>h2 (Nat.eq_of_beq_eq_true h)
   simp [e1,e2]
mutual
theorem AV.ren_ren (a b:Nat):∀x:AV,(x.ren (swp a b)).ren (swp a b)=x
 | .agg cs=>by simp only [AV.ren];rw [AV.renL_renL a b cs]
 | .tup cs=>by simp only [AV.ren];rw [AV.renL_renL a b cs]
 | .fn f cs=>by simp only [AV.ren];rw [AV.renL_renL a b cs]
 | .ref i o=>by simp only [AV.ren];rw [Zid]
 | .elt i s k j=>by simp only [AV.ren];rw [Zid]
 | .arr i=>by simp only [AV.ren];rw [Zid]
 | .row i p=>by simp only [AV.ren];rw [Zid]
 | .relt i p s k j=>by simp only [AV.ren];rw [Zid]
 | .mapr i=>by simp only [AV.ren];rw [Zid]
 | .win i o n=>by simp only [AV.ren];rw [Zid]
 | .any=>rfl
 | .val v=>rfl
 | .sl fr sz n f=>rfl
 | .e0=>rfl
 | .ptr fr cs=>rfl
 | .nilq n=>rfl
theorem AV.renL_renL (a b:Nat):∀cs:List AV,AV.renL (swp a b) (AV.renL (swp a b) cs)=cs
 | []=>rfl
 |x::r=>by simp only [AV.renL];rw [AV.ren_ren a b x,AV.renL_renL a b r]
end
section
variable {B : Base} {κ : Nat → Value} {w : World} (a b : Nat)
end
end Go.Proofs.Ytfafngbbaplknaa.Ax
