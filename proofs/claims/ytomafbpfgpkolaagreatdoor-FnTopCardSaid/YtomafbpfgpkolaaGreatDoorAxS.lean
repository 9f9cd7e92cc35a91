/- Sorting an array of the call's own: the shelf's contract of the sort as a contract over trees. Plain lemmas on the model. No conditions. -/
import Derived.Test.YtomafbpfgpkolaaGreatDoorAxP
import Derived.Sort.Row
import Derived.Sort.Grow
namespace Go.Proofs.YtomafbpfgpkolaaGreatDoor.Ax
open Go.RowKit
set_option linter.unusedVariables false
set_option linter.unusedSimpArgs false
theorem Zku {α:Type} [Inhabited α] {enc:α→List AV} {xs ys:List α} {n:Nat} {f g:Nat→List AV} (hn:n=xs.length) (hf:∀i,i<xs.length→f i=enc (at_ xs i)) (hg:∀i,i<ys.length→g i=enc (at_ ys i)) (i:Nat) (hi:i<(xs++ys).length):
  Zhc n f g i=enc (at_ (xs++ys) i):=by
 subst hn
 rw [List.length_append] at hi
 by_cases h:i<xs.length
 ·rw [Znl h,Zty h];exact hf i h
 ·rw [Zlw (by omega),Zpd (by omega)];exact hg _ (by omega)
theorem RelT.val_of {w:World} {S:Bool→Nat→Prop} {v x:Value} (h:RelT w S (.val v) x):x=v:=by cases h;rfl
end Go.Proofs.YtomafbpfgpkolaaGreatDoor.Ax
