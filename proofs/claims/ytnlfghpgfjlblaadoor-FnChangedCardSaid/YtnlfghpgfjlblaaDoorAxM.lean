/- The abstract run: short names, and lists as slices. Plain lemmas. No conditions. -/
import Derived.Test.YtnlfghpgfjlblaaDoorAxL
namespace Go.Proofs.YtnlfghpgfjlblaaDoor.Ax
open Go.RowKit
set_option linter.unusedVariables false
set_option linter.unusedSimpArgs false
abbrev I (n:Int):AV:= .val (.int .i64 n)
abbrev Bv (b:Bool):AV:= .val (.bool b)
abbrev Sv (s:ByteArray):AV:= .val (.string s)
abbrev Zcb:AV:= .val (.slice none 0 0)
def Ztu:AV→Value
 | .val v=>v
 |_=>undef
def at_ {α:Type} [Inhabited α] (xs:List α) (i:Nat):α:=xs.getD i default
def Ziq (cells:List AV) (sz:Nat) (q:Nat):List AV:=(cells.drop (q*sz)).take sz
theorem Zad {n:Int} (h1:-9223372036854775808≤n) (h2:n≤9223372036854775807):inR .i64 n:=⟨h1,h2⟩
theorem Zvg {n:Int} (h1:0≤n) (h2:n≤255):inR .u8 n:=⟨h1,h2⟩
theorem Zqu {n:Int} (h1:0≤n) (h2:n≤18446744073709551615):inR .u64 n:=⟨h1,h2⟩
theorem Zbd {P:Program} {f:FuncId} {a:List AV} {fr:Bool} {e b:Bool} (h:e=b) (c:Con P f a fr (Bv e)):Con P f a fr (Bv b):=by subst h;exact c
mutual
def Zhp:AV→Prop
 | .sl _ _ n f=>n≤9223372036854775807∧∀i,i<n→Zot (f i)
 | .ptr _ cs=>Zot cs
 | .agg cs=>Zot cs
 | .tup cs=>Zot cs
 | .fn _ cs=>Zot cs
 |_=>True
def Zot:List AV→Prop
 | []=>True
 |a::r=>Zhp a∧Zot r
end
theorem Zgi:∀ {cs:List AV},(∀(j:Nat) (u:AV),cs[j]? =some u→Zhp u)→Zot cs
 | [],_=>trivial
 |a::r,h=>⟨h 0 a rfl,Zgi fun j u hj=>h (j+1) u (by simpa using hj)⟩
theorem RelT.lens {w:World} {S:Bool→Nat→Prop} {a:AV} {v:Value} (h:RelT w S a v):Zhp a:=by
 have hex:∀ {cs:List AV} {vs:Array Value} {j:Nat} {u:AV},cs.length=vs.size→cs[j]? =some u→vs[j]? =some (vs.getD j undef):=fun {cs vs j u} hl hj=>by
  have:=(List.getElem?_eq_some_iff.1 hj).1
  rw [hl] at this
  simp [Array.getElem?_eq_getElem this]
 induction h with
 |any v=>trivial
 |val v=>trivial
 |agg cs vs h1 _ ih=>exact Zgi fun j u hj=>ih j u _ hj (hex h1 hj)
 |tup cs vs h1 _ ih=>exact Zgi fun j u hj=>ih j u _ hj (hex h1 hj)
 |fn f cs vs h1 _ ih=>exact Zgi fun j u hj=>ih j u _ hj (hex h1 hj)
 |sl fr sz n f b o c g hb h1 h2 h3 h4 _ ih=>exact ⟨by unfold maxLen at h2;omega,fun i hi=>Zgi fun j u hj=>ih i j u hi hj⟩
 |sl0 fr sz f A c h=>exact ⟨by omega,fun i hi=>by omega⟩
 |e0 A=>trivial
 |nilq n b h=>trivial
 |ptr fr cs b o g hb h1 _ ih=>exact Zgi fun j u hj=>ih j u hj
theorem Rel.lens {κ:Nat→Value} {w:World} {S:Bool→Nat→Prop} {a:AV} {v:Value} (h:Rel κ w S a v):Zhp a:=by
 have hex:∀ {cs:List AV} {vs:Array Value} {j:Nat} {u:AV},cs.length=vs.size→cs[j]? =some u→vs[j]? =some (vs.getD j undef):=fun {cs vs j u} hl hj=>by
  have:=(List.getElem?_eq_some_iff.1 hj).1
  rw [hl] at this
  simp [Array.getElem?_eq_getElem this]
 induction h with
 |tree a v h=>exact h.lens
 |agg cs vs h1 _ ih=>exact Zgi fun j u hj=>ih j u _ hj (hex h1 hj)
 |tup cs vs h1 _ ih=>exact Zgi fun j u hj=>ih j u _ hj (hex h1 hj)
 |fn f cs vs h1 _ ih=>exact Zgi fun j u hj=>ih j u _ hj (hex h1 hj)
 |ref=>trivial
 |elt=>trivial
 |arr=>trivial
 |row=>trivial
 |relt=>trivial
 |mapr=>trivial
 |win=>trivial
theorem Zfe {P:Program} {B:Base} {nt:Nat} {c:Code} {σ:St} {Q:Exit→Act→World→Prop} {x:AV} (t:Nat) (h:σ.tm t=x) (k:Zhp x→AW P B nt c σ Q):AW P B nt c σ Q:=fun a w hs=>by
 obtain ⟨κ,hm,hr⟩:=hs.ex
 have h0:=hr t
 rw [h] at h0
 exact k h0.lens a w hs
section
variable {α : Type} [Inhabited α]
theorem Zgr {xs:List α} {i:Nat} (h:i<xs.length):at_ xs i=xs[i]:=by simp [at_,List.getElem?_eq_getElem h]
theorem Zqv {xs ys:List α} {i:Nat} (h:i<xs.length):at_ (xs++ys) i=at_ xs i:=by simp [at_,List.getElem?_append_left h]
theorem Znc {xs ys:List α} {i:Nat} (h:xs.length≤i):at_ (xs++ys) i=at_ ys (i-xs.length):=by simp [at_,List.getElem?_append_right h]
theorem cut_take {enc:α→List AV} {xs:List α} {k i:Nat} (h:i<(xs.take k).length):cutF 0 (fun i=>enc (at_ xs i)) i=enc (at_ (xs.take k) i):=by
 have:i<k:=by simp at h;omega
 simp [cutF,at_,List.getElem?_take,this]
theorem Zen {enc:α→List AV} {xs:List α} {x:α} {g:Nat→List AV} (hx:g 0=enc x) (i:Nat) (hi:i<(xs++[x]).length):Zhi xs.length (fun i=>enc (at_ xs i)) g i=enc (at_ (xs++[x]) i):=by
 by_cases h:i<xs.length
 ·rw [Zkd h,Zqv h]
 ·have e:i=xs.length:=by simp at hi;omega
  subst e
  rw [Zke (Nat.le_refl _),Nat.sub_self,hx,Znc (Nat.le_refl _)]
  simp [at_]
theorem Zvl {enc:α→List AV} {xs:List α} {k:Nat} {x:α} {cs:List AV} (hx:cs=enc x) (i:Nat) (hi:i<(xs.set k x).length):(fun q=>bif Nat.beq q k then cs else enc (at_ xs q)) i=enc (at_ (xs.set k x) i):=by
 have hi':i<xs.length:=by simpa using hi
 by_cases h:i=k
 ·subst h
  simp [hx,at_,hi']
 ·have:Nat.beq i k=false:=Bool.eq_false_iff.2 fun e=>h (Nat.eq_of_beq_eq_true e)
  have h':¬ k=i:=fun e=>h e.symm
  simp [this,at_,List.getElem?_set,h']
theorem Zpk {enc:α→List AV} {n:Nat} {x:α} {cs:List AV} (hx:cs=enc x) (i:Nat) (hi:i<(List.replicate n x).length):(fun _:Nat=>cs) i=enc (at_ (List.replicate n x) i):=by
 have hi':i<n:=by simpa using hi
 simp [hx,at_,List.getElem?_replicate,hi']
end
end Go.Proofs.YtnlfghpgfjlblaaDoor.Ax
