/- The abstract run: short names, and lists as slices. Plain lemmas. No conditions. -/
import Derived.Test.YtfafngbbaplknaaAxL
namespace Go.Proofs.Ytfafngbbaplknaa.Ax
open Go.RowKit
set_option linter.unusedVariables false
set_option linter.unusedSimpArgs false
abbrev I (n:Int):AV:= .val (.int .i64 n)
abbrev Bv (b:Bool):AV:= .val (.bool b)
abbrev Zfj:AV:= .val (.slice none 0 0)
def Zmp:AV→Value
 | .val v=>v
 |_=>undef
def at_ {α:Type} [Inhabited α] (xs:List α) (i:Nat):α:=xs.getD i default
def Zeo (cells:List AV) (sz:Nat) (q:Nat):List AV:=(cells.drop (q*sz)).take sz
theorem Zaf {n:Int} (h1:-9223372036854775808≤n) (h2:n≤9223372036854775807):inR .i64 n:=⟨h1,h2⟩
theorem Zfr {n:Int} (h1:0≤n) (h2:n≤18446744073709551615):inR .u64 n:=⟨h1,h2⟩
theorem Zak {P:Program} {f:FuncId} {a:List AV} {fr:Bool} {e b:Bool} (h:e=b) (c:Con P f a fr (Bv e)):Con P f a fr (Bv b):=by subst h;exact c
mutual
def Zdb:AV→Prop
 | .sl _ _ n f=>n≤9223372036854775807∧∀i,i<n→Zfv (f i)
 | .ptr _ cs=>Zfv cs
 | .agg cs=>Zfv cs
 | .tup cs=>Zfv cs
 | .fn _ cs=>Zfv cs
 |_=>True
def Zfv:List AV→Prop
 | []=>True
 |a::r=>Zdb a∧Zfv r
end
theorem Zgf:∀ {cs:List AV},(∀(j:Nat) (u:AV),cs[j]? =some u→Zdb u)→Zfv cs
 | [],_=>trivial
 |a::r,h=>⟨h 0 a rfl,Zgf fun j u hj=>h (j+1) u (by simpa using hj)⟩
theorem RelT.lens {w:World} {S:Bool→Nat→Prop} {a:AV} {v:Value} (h:RelT w S a v):Zdb a:=by
 have hex:∀ {cs:List AV} {vs:Array Value} {j:Nat} {u:AV},cs.length=vs.size→cs[j]? =some u→vs[j]? =some (vs.getD j undef):=fun {cs vs j u} hl hj=>by
  have:=(List.getElem?_eq_some_iff.1 hj).1
  rw [hl] at this
  simp [Array.getElem?_eq_getElem this]
 induction h with
 |any v=>trivial
 |val v=>trivial
 |agg cs vs h1 _ ih=>exact Zgf fun j u hj=>ih j u _ hj (hex h1 hj)
 |tup cs vs h1 _ ih=>exact Zgf fun j u hj=>ih j u _ hj (hex h1 hj)
 |fn f cs vs h1 _ ih=>exact Zgf fun j u hj=>ih j u _ hj (hex h1 hj)
 |sl fr sz n f b o c g hb h1 h2 h3 h4 _ ih=>exact ⟨by unfold maxLen at h2;omega,fun i hi=>Zgf fun j u hj=>ih i j u hi hj⟩
 |sl0 fr sz f A c h=>exact ⟨by omega,fun i hi=>by omega⟩
 |e0 A=>trivial
 |nilq n b h=>trivial
 |ptr fr cs b o g hb h1 _ ih=>exact Zgf fun j u hj=>ih j u hj
theorem Rel.lens {κ:Nat→Value} {w:World} {S:Bool→Nat→Prop} {a:AV} {v:Value} (h:Rel κ w S a v):Zdb a:=by
 have hex:∀ {cs:List AV} {vs:Array Value} {j:Nat} {u:AV},cs.length=vs.size→cs[j]? =some u→vs[j]? =some (vs.getD j undef):=fun {cs vs j u} hl hj=>by
  have:=(List.getElem?_eq_some_iff.1 hj).1
  rw [hl] at this
  simp [Array.getElem?_eq_getElem this]
 induction h with
 |tree a v h=>exact h.lens
 |agg cs vs h1 _ ih=>exact Zgf fun j u hj=>ih j u _ hj (hex h1 hj)
 |tup cs vs h1 _ ih=>exact Zgf fun j u hj=>ih j u _ hj (hex h1 hj)
 |fn f cs vs h1 _ ih=>exact Zgf fun j u hj=>ih j u _ hj (hex h1 hj)
 |ref=>trivial
 |elt=>trivial
 |arr=>trivial
 |row=>trivial
 |relt=>trivial
 |mapr=>trivial
 |win=>trivial
theorem Zbt {P:Program} {B:Base} {nt:Nat} {c:Code} {σ:St} {Q:Exit→Act→World→Prop} {x:AV} (t:Nat) (h:σ.tm t=x) (k:Zdb x→AW P B nt c σ Q):AW P B nt c σ Q:=fun a w hs=>by
 obtain ⟨κ,hm,hr⟩:=hs.ex
 have h0:=hr t
 rw [h] at h0
 exact k h0.lens a w hs
section
variable {α : Type} [Inhabited α]
theorem Zee {xs:List α} {i:Nat} (h:i<xs.length):at_ xs i=xs[i]:=by simp [at_,List.getElem?_eq_getElem h]
theorem Zcr {xs ys:List α} {i:Nat} (h:i<xs.length):at_ (xs++ys) i=at_ xs i:=by simp [at_,List.getElem?_append_left h]
theorem Zcc {xs ys:List α} {i:Nat} (h:xs.length≤i):at_ (xs++ys) i=at_ ys (i-xs.length):=by simp [at_,List.getElem?_append_right h]
theorem Zko {enc:α→List AV} {xs:List α} {k i:Nat} (h:i<(xs.take k).length):Zoi 0 (fun i=>enc (at_ xs i)) i=enc (at_ (xs.take k) i):=by
 have:i<k:=by simp at h;omega
 simp [Zoi,at_,List.getElem?_take,this]
theorem Zkp {enc:α→List AV} {xs:List α} {l i:Nat} (h:i<(xs.drop l).length):Zoi l (fun i=>enc (at_ xs i)) i=enc (at_ (xs.drop l) i):=by
 simp [Zoi,at_]
theorem Zdm {enc:α→List AV} {xs:List α} {x:α} {g:Nat→List AV} (hx:g 0=enc x) (i:Nat) (hi:i<(xs++[x]).length):Zeg xs.length (fun i=>enc (at_ xs i)) g i=enc (at_ (xs++[x]) i):=by
 by_cases h:i<xs.length
 ·rw [Zdk h,Zcr h]
 ·have e:i=xs.length:=by simp at hi;omega
  subst e
  rw [Zdg (Nat.le_refl _),Nat.sub_self,hx,Zcc (Nat.le_refl _)]
  simp [at_]
theorem Zwg {enc:α→List AV} {xs ys:List α} (i:Nat) (hi:i<(xs++ys).length):Zeg xs.length (fun i=>enc (at_ xs i)) (fun i=>enc (at_ ys i)) i=enc (at_ (xs++ys) i):=by
 by_cases h:i<xs.length
 ·rw [Zdk h,Zcr h]
 ·rw [Zdg (by omega),Zcc (by omega)]
theorem cat_nil {f g:Nat→List AV} (i:Nat):Zeg 0 f g i=g i:=by rw [Zdg (Nat.zero_le _),Nat.sub_zero]
theorem Zrw {enc:α→List AV} {xs:List α} {k:Nat} {x:α} {cs:List AV} (hx:cs=enc x) (i:Nat) (hi:i<(xs.set k x).length):(fun q=>bif Nat.beq q k then cs else enc (at_ xs q)) i=enc (at_ (xs.set k x) i):=by
 have hi':i<xs.length:=by simpa using hi
 by_cases h:i=k
 ·subst h
  simp [hx,at_,hi']
 ·have:Nat.beq i k=false:=Bool.eq_false_iff.2 fun e=>h (Nat.eq_of_beq_eq_true e)
  have h':¬ k=i:=fun e=>h e.symm
  simp [this,at_,List.getElem?_set,h']
theorem Zwh {enc:α→List AV} {n:Nat} {x:α} {cs:List AV} (hx:cs=enc x) (i:Nat) (hi:i<(List.replicate n x).length):(fun _:Nat=>cs) i=enc (at_ (List.replicate n x) i):=by
 have hi':i<n:=by simpa using hi
 simp [hx,at_,List.getElem?_replicate,hi']
end
end Go.Proofs.Ytfafngbbaplknaa.Ax
