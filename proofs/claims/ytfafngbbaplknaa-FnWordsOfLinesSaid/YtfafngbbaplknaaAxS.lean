/- Sorting an array of the call's own: the shelf's contract of the sort as a contract over trees. Plain lemmas on the model. No conditions. -/
import Derived.Test.YtfafngbbaplknaaAxP
import Derived.Sort.Row
import Derived.Sort.Grow
namespace Go.Proofs.Ytfafngbbaplknaa.Ax
open Go.RowKit
set_option linter.unusedVariables false
set_option linter.unusedSimpArgs false
theorem Zpi {α:Type} [Inhabited α] {enc:α→List AV} {xs ys:List α} {n:Nat} {f g:Nat→List AV} (hn:n=xs.length) (hf:∀i,i<xs.length→f i=enc (at_ xs i)) (hg:∀i,i<ys.length→g i=enc (at_ ys i)) (i:Nat) (hi:i<(xs++ys).length):
  Zeg n f g i=enc (at_ (xs++ys) i):=by
 subst hn
 rw [List.length_append] at hi
 by_cases h:i<xs.length
 ·rw [Zdk h,Zcr h];exact hf i h
 ·rw [Zdg (by omega),Zcc (by omega)];exact hg _ (by omega)
theorem Zxw {α:Type} [Inhabited α] {enc:α→List AV} {zs:List α} {k j:Nat} {y:α} {us:List AV} {f:Nat→List AV} (hf:∀i,i<zs.length→f i=enc (at_ zs i)) (hk:k<zs.length) (hx:spl (enc (at_ zs k)) j us=enc y) (i:Nat) (hi:i<(zs.set k y).length):
  (fun q=>bif Nat.beq q k then spl (f k) j us else f q) i=enc (at_ (zs.set k y) i):=by
 rw [List.length_set] at hi
 show (bif Nat.beq i k then spl (f k) j us else f i)=_
 by_cases h:i=k
 ·subst h
  rw [Nat.beq_refl,cond_true,hf i hk,hx]
  simp [at_,hk]
 ·have b:Nat.beq i k=false:=Bool.eq_false_iff.2 fun e=>h (Nat.eq_of_beq_eq_true e)
  have h':¬ k=i:=fun e=>h e.symm
  rw [b,cond_false,hf i hi]
  simp [at_,List.getElem?_set,h']
theorem RelT.val_of {w:World} {S:Bool→Nat→Prop} {v x:Value} (h:RelT w S (.val v) x):x=v:=by cases h;rfl
end Go.Proofs.Ytfafngbbaplknaa.Ax
