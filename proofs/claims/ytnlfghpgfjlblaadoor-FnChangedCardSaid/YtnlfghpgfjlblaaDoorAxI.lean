/- The abstract run: contracts of functions, and one operation. Plain lemmas on the model. No conditions. -/
import Derived.Test.YtnlfghpgfjlblaaDoorAxIB
import Derived.Sort.Row
import Derived.Sort.Grow
namespace Go.Proofs.YtnlfghpgfjlblaaDoor.Ax
open Go.RowKit
set_option linter.unusedVariables false
set_option linter.unusedSimpArgs false
def SR (fr:Bool) (B:Base) (κ:Nat→Value) (ob:Nat→Option Ob) (w:World):Bool→Nat→Prop:=fun t b=>SS B κ ob w (fr||t) b
def Zao (P:Program) (f:FuncId) (args:List AV) (obs:Nat→Option Ob) (fr:Bool) (res:AV) (obs':Nat→Option Ob):Prop:=
 ∀(B:Base) (vals:List Value),(∀i,B.bo i=(obs i).isSome)→MS B B.κ0 obs B.w0→RelL B.κ0 B.w0 (fun _ b=>b<B.w0.heap.size∧B.A b∧∀i,obs i≠none→¬ Blk (B.κ0 i) b) args vals→
  Calls P f vals.toArray B.w0 fun e w'=>∃v κ',e= .returned v∧MS B κ' obs' w'∧Rel κ' w' (SR fr B κ' obs' w') res v
def Zdl:Nat→Option Ob:=fun _=>none
def Con (P:Program) (f:FuncId) (args:List AV) (fr:Bool) (res:AV):Prop:=Zao P f args Zdl fr res Zdl
def Conj:List Prop→Prop
 | []=>True
 |p::r=>p∧Conj r
theorem Conj.all:∀ {l:List Prop},Conj l→∀p∈l,p
 | [],_,p,hp=>by simp at hp
 |q::l,h,p,hp=>by
  rcases List.mem_cons.1 hp with e|hp
  ·subst e;exact h.1
  ·exact Conj.all h.2 p hp
def Zac:List (Nat×Ob)→Nat→Option Ob
 | [],_=>none
 |(j,o)::r,i=>bif Nat.beq i j then some o else Zac r i
theorem Zdg {O:List (Nat×Ob)} {i:Nat} {o:Ob} (h:Zac O i=some o):(i,o)∈O:=by
 induction O with
 |nil=>cases h
 |cons p O ih=>
  obtain ⟨j,o'⟩:=p
  simp only [Zac] at h
  cases hb:Nat.beq i j with
  |true=>have:=Nat.eq_of_beq_eq_true hb;subst this;simp only [hb,cond_true,Option.some.injEq] at h;subst h;simp
  |false=>simp only [hb,cond_false] at h;exact List.mem_cons_of_mem _ (ih h)
def Zed (ob:Nat→Option Ob) (fv:Bool):Ob→Ob→Prop
 | .box cs,.box cs'=>leL ob fv cs cs'
 | .arr sz n f,.arr sz' n' f'=>sz=sz'∧n=n'∧∀i,i<n'→f i=f' i∨(AV.idsL (f' i)=[]∧leL (fun _=>none) false (f i) (f' i))
 | .arr sz n f,.oar _ sz' n' f'=>sz=sz'∧n=n'∧∀i,i<n'→f i=f' i
 | .oar _ sz n f,.arr sz' n' f'=>sz=sz'∧n=n'∧∀i,i<n'→AV.idsL (f' i)=[]∧leL ob fv (f i) (f' i)
 | .oar L sz n f,.oar L' sz' n' f'=>L.all (fun i=>L'.contains i)=true∧sz=sz'∧n=n'∧∀i,i<n'→f i=f' i∨(AV.idsL (f' i)=[]∧leL ob fv (f i) (f' i))
 | .fam N sz m g,.fam N' sz' m' g'=>N=N'∧sz=sz'∧∀p,p<N'→m p=m' p∧∀i,i<m' p→g p i=g' p i∨(AV.idsL (g' p i)=[]∧leL (fun _=>none) false (g p i) (g' p i))
 |_,_=>False
theorem ArrG.cells {R R':AV→Value→Prop} {w:World} {sz n:Nat} {f f':Nat→List AV} {v:Value} (h:ArrG R w sz n f v)
  (hf:∀p,p<n→∀vs:List Value,(f p).length=vs.length→(∀(j:Nat) (u:AV) (x:Value),(f p)[j]? =some u→vs[j]? =some x→R u x)→(f' p).length=vs.length∧∀(j:Nat) (u:AV) (x:Value),(f' p)[j]? =some u→vs[j]? =some x→R' u x):ArrG R' w sz n f' v:=by
 rcases h with h|⟨b,cur,e,c,rfl,h0,h1,h2,h3,h4,h5⟩
 ·exact .inl h
 ·refine .inr ⟨b,cur,e,c,rfl,h0,h1,h2,h3,h4,fun i hi=> ?_⟩
  have hvs:=hf i hi ((List.range sz).map fun q=>cur.getD (i*sz+q) undef) (by simp [(h5 i hi).1]) fun j u x hj hx=>by
   obtain ⟨y,hy,_,hr⟩:=(h5 i hi).2 j u hj
   have hjs:j<sz:=by rw [←(h5 i hi).1];exact (List.getElem?_eq_some_iff.1 hj).1
   simp [hjs,hy] at hx;subst hx;exact hr
  have hl':(f' i).length=sz:=by simpa using hvs.1
  refine ⟨hl',fun j u hj=> ?_⟩
  have hjs:j<sz:=by rw [←hl'];exact (List.getElem?_eq_some_iff.1 hj).1
  obtain ⟨y,hy,ho,_⟩:=(h5 i hi).2 j _ (List.getElem?_eq_getElem (by rw [(h5 i hi).1];exact hjs))
  exact ⟨y,hy,ho,hvs.2 j u y hj (by simp [hjs,hy])⟩
theorem ObRel.le {B:Base} {κ:Nat→Value} {ob obr:Nat→Option Ob} {w:World} {fv:Bool} {S':Bool→Nat→Prop} (hm:MS B κ ob w) (hsub:∀i o,obr i=some o→ob i=some o) (hS:∀fr b,SS B κ ob w fr b→S' fr b)
  (hF:∀i o b,obr i=some o→Blk (κ i) b→S' false b∧(fv=true→S' true b)) {o o':Ob} {v:Value} (h:ObRel κ w (SS B κ ob w) o v) (hl:Zed obr fv o o'):ObRel κ w S' o' v:=by
 have tree:∀(f f':Nat→List AV) (n:Nat),(∀i,i<n→f i=f' i∨(AV.idsL (f' i)=[]∧leL (fun _=>none) false (f i) (f' i)))→∀p,p<n→∀vs:List Value,(f p).length=vs.length→(∀(j:Nat) (u:AV) (x:Value),(f p)[j]? =some u→vs[j]? =some x→RelT w (SS B κ ob w) u x)→
   (f' p).length=vs.length∧∀(j:Nat) (u:AV) (x:Value),(f' p)[j]? =some u→vs[j]? =some x→RelT w S' u x:=fun f f' n hf p hp vs hl hr=>by
  rcases hf p hp with e|⟨e0,e⟩
  ·rw [←e];exact ⟨hl,fun j u x hj hx=>(hr j u x hj hx).keep fun fr b hb=>⟨rfl,hS fr b hb⟩⟩
  ·have hh:=Zcc (obr:=fun _=>none) (fv:=false) hm (fun _ _ h=>by cases h) hS (fun _ _ _ h=>by cases h) (f' p) _ _ ⟨hl,fun j u x hj hx=> .tree _ _ (hr j u x hj hx)⟩ e
   exact ⟨hh.1,fun j u x hj hx=>(hh.2 j u x hj hx).toT (AV.idsL_all e0 hj)⟩
 cases o with
 |box cs=>
  cases o' with
  |box cs'=>
   obtain ⟨b,cur,e,rfl,h1,h2,h3⟩:=h
   have:=Zcc hm hsub hS hF cs' cs cur.toList ⟨by simpa using h2,fun j u x hj hx=>h3 j u x hj (by simpa using hx)⟩ hl
   exact ⟨b,cur,e,rfl,h1,by simpa using this.1,fun j u x hj hx=>this.2 j u x hj (by simpa using hx)⟩
  |_=>exact hl.elim
 |arr sz n f=>
  cases o' with
  |arr sz' n' f'=>
   obtain ⟨rfl,rfl,hf⟩:=hl
   exact ArrG.cells h (tree f f' n hf)
  |oar L' sz' n' f'=>
   obtain ⟨rfl,rfl,hf⟩:=hl
   refine ⟨fun i hi q hq=> ?_,ArrG.cells h fun p hp vs hl hr=> ?_⟩
   ·rw [←hf i hi,ArrG.ids_nil h hi] at hq;cases hq
   ·rw [←hf p hp];exact ⟨hl,fun j u x hj hx=> .tree _ _ ((hr j u x hj hx).keep fun fr b hb=>⟨rfl,hS fr b hb⟩)⟩
  |_=>exact hl.elim
 |oar L sz n f=>
  cases o' with
  |arr sz' n' f'=>
   obtain ⟨rfl,rfl,hf⟩:=hl
   refine ArrG.cells h.2 fun p hp vs hl hr=> ?_
   have hh:=Zcc hm hsub hS hF (f' p) _ _ ⟨hl,hr⟩ (hf p hp).2
   exact ⟨hh.1,fun j u x hj hx=>(hh.2 j u x hj hx).toT (AV.idsL_all (hf p hp).1 hj)⟩
  |oar L' sz' n' f'=>
   obtain ⟨hLL,rfl,rfl,hf⟩:=hl
   refine ⟨fun i hi q hq=> ?_,ArrG.cells h.2 fun p hp vs hl hr=> ?_⟩
   ·rcases hf i hi with e|⟨e0,e⟩
    ·rw [←e] at hq
     simpa using List.all_eq_true.1 hLL q (h.1 i hi q hq)
    ·rw [e0] at hq;cases hq
   ·rcases hf p hp with e|⟨e0,e⟩
    ·rw [←e];exact ⟨hl,fun j u x hj hx=>(hr j u x hj hx).keep (fun fr b hb=>⟨rfl,hS fr b hb⟩) fun _ _=>rfl⟩
    ·exact Zcc hm hsub hS hF (f' p) _ _ ⟨hl,hr⟩ e
  |_=>exact hl.elim
 |fam N sz m g=>
  cases o' with
  |fam N' sz' m' g'=>
   obtain ⟨rfl,rfl,hf⟩:=hl
   obtain ⟨vs,rfl,h1,h2,h3⟩:=h
   refine ⟨vs,rfl,h1,fun p r hp=> ?_,h3⟩
   have hpN:p<N:=by rw [←h1];exact (Array.getElem?_eq_some_iff.1 hp).1
   have:=h2 p r hp
   rw [(hf p hpN).1] at this
   exact ArrG.cells this (tree (g p) (g' p) _ (hf p hpN).2)
  |_=>exact hl.elim
 |set ks=>cases o'<;>exact hl.elim
 |bld e j=>cases o'<;>exact hl.elim
 |buf e r t=>cases o'<;>exact hl.elim
 |sit s p=>cases o'<;>exact hl.elim
 |byt t=>cases o'<;>exact hl.elim
mutual
def Zah (t:Bool):AV→Prop
 | .sl fr _ n f=>fr=t∧∀i,i<n→Zae t (f i)
 | .ptr fr cs=>fr=t∧Zae t cs
 | .agg cs=>Zae t cs
 | .tup cs=>Zae t cs
 | .fn _ cs=>Zae t cs
 |_=>True
def Zae (t:Bool):List AV→Prop
 | []=>True
 | [a]=>Zah t a
 |a::b::r=>Zah t a∧Zae t (b::r)
end
theorem Zbh {t:Bool} :∀ {cs:List AV},Zae t cs→∀ {j:Nat} {u:AV},cs[j]? =some u→Zah t u
 | [],_,j,u,h=>by simp at h
 | [a],ht,j,u,h=>by
  cases j with
  |zero=>simp at h;subst h;simpa [Zae] using ht
  |succ j=>simp at h
 |a::b::r,ht,j,u,h=>by
  simp only [Zae] at ht
  cases j with
  |zero=>simp at h;subst h;exact ht.1
  |succ j=>exact Zbh ht.2 (by simpa using h)
theorem RelT.retag {w:World} {S S':Bool→Nat→Prop} {t:Bool} (hS:∀b,S t b→S' t b) {a:AV} {v:Value} (h:RelT w S a v) (ht:Zah t a):RelT w S' a v:=by
 induction h with
 |any v=>exact .any v
 |val v=>exact .val v
 |agg cs vs h1 _ ih=>simp only [Zah] at ht;exact .agg cs vs h1 fun i a v ha hv=>ih i a v ha hv (Zbh ht ha)
 |tup cs vs h1 _ ih=>simp only [Zah] at ht;exact .tup cs vs h1 fun i a v ha hv=>ih i a v ha hv (Zbh ht ha)
 |fn f cs vs h1 _ ih=>simp only [Zah] at ht;exact .fn f cs vs h1 fun i a v ha hv=>ih i a v ha hv (Zbh ht ha)
 |sl fr sz n f b o c g hb h1 h2 h3 h4 _ ih=>
  simp only [Zah] at ht
  obtain ⟨rfl,ht⟩:=ht
  exact .sl fr sz n f b o c g (hS b hb) h1 h2 h3 h4 fun i j u hi hj=>ih i j u hi hj (Zbh (ht i hi) hj)
 |sl0 fr sz f A c h=>exact .sl0 fr sz f A c h
 |e0 A=>exact .e0 A
 |nilq n b h=>exact .nilq n b h
 |ptr fr cs b o g hb h1 _ ih=>
  simp only [Zah] at ht
  obtain ⟨rfl,ht⟩:=ht
  exact .ptr fr cs b o g (hS b hb) h1 fun j u hj=>ih j u hj (Zbh ht hj)
theorem Zeb {α:Type} {o:Option α} (h:o≠none):o.isSome=true:=by cases o with|none=>exact absurd rfl h|some _=>rfl
theorem Zcg {α:Type} {o:Option α} (h:o.isSome=true):o≠none:=by cases o with|none=>cases h|some _=>exact fun e=>by cases e
def Zdd (L:List (Nat×Ob×Ob)):List (Nat×Ob):=L.map fun p=>(p.1,p.2.1)
def Zax (L:List (Nat×Ob×Ob)):List (Nat×Ob):=L.map fun p=>(p.1,p.2.2)
def Zai (t:Bool):Ob→Prop
 | .box cs=>Zae t cs
 | .arr _ n f=>∀i,i<n→Zae t (f i)
 | .oar _ _ n f=>∀i,i<n→Zae t (f i)
 | .fam N _ m g=>∀p,p<N→∀i,i<m p→Zae t (g p i)
 | .set _=>True
 | .bld _ _=>True
 | .buf _ _ _=>True
 | .sit _ _=>True
 | .byt _=>True
def Zdh (ob:Nat→Option Ob):List (Nat×Ob×Ob)→List Prop
 | []=>[]
 |(i,o,_)::r=>(match ob i with
  |some o1=>(o1=o∨Zed Zdl true o1 o)∧Zai false o
  |none=>False)::Zdh ob r
def Zvz (L:List (Nat×Ob×Ob)):Bool:=L.all fun p=>(Ob.ids p.2.1).isEmpty&&(Ob.ids p.2.2).isEmpty
def wrL (L:List (Nat×Ob×Ob)) (G:List (Nat×Ob)):List (Nat×Option Ob):=(Zax L++G).map fun p=>(p.1,some p.2)
theorem Zay:∀ {A G:List (Nat×Ob)} {i:Nat},Zac (A++G) i=match Zac A i with|some o=>some o|none=>Zac G i
 | [],G,i=>rfl
 |p::r,G,i=>by
  simp only [List.cons_append,Zac]
  cases Nat.beq i p.1
  ·exact Zay
  ·rfl
theorem Zbv:∀ {A:List (Nat×Ob)} {i:Nat},(Zac A i).isSome=(A.map (·.1)).contains i
 | [],i=>rfl
 |p::r,i=>by
  simp only [Zac,List.map_cons,List.contains_cons]
  cases h:Nat.beq i p.1 with
  |true=>have:=Nat.eq_of_beq_eq_true h;simp [this]
  |false=>
   have:(i==p.1)=false:=by rw [beq_eq_false_iff_ne];intro e;subst e;simp at h
   rw [this];exact Zbv
theorem Zia:∀ {A:List (Nat×Ob)} {ob:Nat→Option Ob} {i:Nat},Zce ob (A.map fun p=>(p.1,some p.2)) i=match Zac A i with|some o=>some o|none=>ob i
 | [],ob,i=>rfl
 |p::r,ob,i=>by
  simp only [List.map_cons,Zce,Zac]
  cases Nat.beq i p.1
  ·exact Zia
  ·rfl
theorem Znh {L:List (Nat×Ob×Ob)} {i:Nat} :(Zac (Zdd L) i).isSome=(Zac (Zax L) i).isSome:=by
 induction L with
 |nil=>rfl
 |cons p r ih=>
  simp only [Zdd,Zax,List.map_cons,Zac] at ih⊢
  cases Nat.beq i p.1
  ·exact ih
  ·rfl
theorem Zkk {ob:Nat→Option Ob} :∀ {L:List (Nat×Ob×Ob)},(∀p∈Zdh ob L,p)→∀ {i:Nat} {o:Ob},Zac (Zdd L) i=some o→∃o1,ob i=some o1∧(o1=o∨Zed Zdl true o1 o)∧Zai false o
 | [],_,i,o,h=>by cases h
 |(j,oj,pj)::r,hc,i,o,h=>by
  simp only [Zdd,List.map_cons,Zac] at h
  cases hb:Nat.beq i j with
  |true=>
   simp only [hb,cond_true,Option.some.injEq] at h
   subst h
   obtain rfl:=Nat.eq_of_beq_eq_true hb
   have:=hc _ (by simp only [Zdh];exact List.mem_cons_self)
   split at this
   ·rename_i o1 ho;exact ⟨o1,ho,this⟩
   ·exact this.elim
  |false=>
   simp only [hb,cond_false] at h
   exact Zkk (L:=r) (fun p hp=>hc p (by simp only [Zdh];exact List.mem_cons_of_mem _ hp)) h
def Zsr (L:List (Nat×Ob×Ob)):Bool:=L.all fun p=>(Ob.ids p.2.1).all (fun i=>(L.map (·.1)).contains i)&&(Ob.ids p.2.2).all (fun i=>(L.map (·.1)).contains i)
theorem Zwa {L:List (Nat×Ob×Ob)} :(Zax L).map (·.1)=L.map (·.1):=by simp [Zax,List.map_map,Function.comp]
theorem Zwb {L:List (Nat×Ob×Ob)} (h:Zsr L=true) {i:Nat} {o:Ob} (e:Zac (Zax L) i=some o) {q:Nat} (hq:q∈o.ids):(Zac (Zax L) q).isSome=true:=by
 have hm:=Zdg e
 unfold Zax at hm
 obtain ⟨p,hp,hpe⟩:=List.mem_map.1 hm
 cases hpe
 have:=List.all_eq_true.1 h p hp
 simp only [Bool.and_eq_true] at this
 have:=List.all_eq_true.1 this.2 q hq
 rw [Zbv,Zwa];exact this
theorem Rel.retagO {κ:Nat→Value} {w:World} {S S':Bool→Nat→Prop} {t:Bool} (hS:∀b,S t b→S' t b) {a:AV} {v:Value} (h:Rel κ w S a v) (ht:Zah t a):Rel κ w S' a v:=by
 induction h with
 |tree a v h=>exact .tree _ _ (h.retag hS ht)
 |agg cs vs h1 _ ih=>exact .agg _ vs h1 fun i a v ha hv=>ih i a v ha hv (Zbh ht ha)
 |tup cs vs h1 _ ih=>exact .tup _ vs h1 fun i a v ha hv=>ih i a v ha hv (Zbh ht ha)
 |fn f cs vs h1 _ ih=>exact .fn f _ vs h1 fun i a v ha hv=>ih i a v ha hv (Zbh ht ha)
 |ref i off b h=>exact .ref i off b h
 |elt i sz k j b n c h=>exact .elt i sz k j b n c h
 |arr i A n c h=>exact .arr i A n c h
 |row i p vs A n c h h'=>exact .row i p vs A n c h h'
 |relt i p sz k j b n c vs h h'=>exact .relt i p sz k j b n c vs h h'
 |mapr i r h=>exact .mapr i r h
 |win i o n b M c h h'=>exact .win i o n b M c h h'
theorem ObRel.retagO {κ:Nat→Value} {w:World} {S S':Bool→Nat→Prop} {t:Bool} {o:Ob} {v:Value} (hS:∀b,S t b→S' t b) (h:ObRel κ w S o v) (ht:Zai t o):ObRel κ w S' o v:=by
 cases o with
 |box cs=>
  obtain ⟨b,cur,e,rfl,h1,h2,h3⟩:=h
  exact ⟨b,cur,e,rfl,h1,h2,fun j u x hj hx=>(h3 j u x hj hx).retagO hS (Zbh ht hj)⟩
 |arr sz n f=>exact ArrG.mono h (fun _ _=>rfl) fun i j u x hi' hj hr=>hr.retag hS (Zbh (ht i hi') hj)
 |oar L sz n f=>exact ⟨h.1,ArrG.mono h.2 (fun _ _=>rfl) fun i j u x hi' hj hr=>hr.retagO hS (Zbh (ht i hi') hj)⟩
 |fam N sz m g=>
  obtain ⟨vs,rfl,h1,h2,h3⟩:=h
  exact ⟨vs,rfl,h1,fun p r hp=>ArrG.mono (h2 p r hp) (fun _ _=>rfl) fun i j u x hi' hj hr=>hr.retag hS (Zbh (ht p (by rw [←h1];exact (Array.getElem?_eq_some_iff.1 hp).1) i hi') hj),h3⟩
 |set ks=>exact h
 |bld e j=>exact h
 |buf e r t=>exact h
 |sit s p=>exact h
 |byt t=>exact h
theorem Zwc {L:List (Nat×Ob×Ob)} (h:Zvz L=true) {i:Nat} {o:Ob} :(Zac (Zdd L) i=some o→o.ids=[])∧(Zac (Zax L) i=some o→o.ids=[]):=by
 induction L with
 |nil=>exact ⟨fun h=>(by cases h),fun h=>(by cases h)⟩
 |cons p r ih=>
  simp only [Zvz,List.all_cons,Bool.and_eq_true] at h ih
  have ih:=ih h.2
  simp only [Zdd,Zax,List.map_cons,Zac] at ih⊢
  cases Nat.beq i p.1
  ·exact ih
  ·simp only [cond_true,Option.some.injEq]
   exact ⟨fun e=>by subst e;simpa using h.1.1,fun e=>by subst e;simpa using h.1.2⟩
theorem ObRel.retag {κ κ':Nat→Value} {w:World} {S S':Bool→Nat→Prop} {t:Bool} {o:Ob} {v:Value} (hS:∀b,S t b→S' t b) (h:ObRel κ w S o v) (hi:o.ids=[]) (ht:Zai t o):ObRel κ' w S' o v:=by
 cases o with
 |box cs=>
  obtain ⟨b,cur,e,rfl,h1,h2,h3⟩:=h
  exact ⟨b,cur,e,rfl,h1,h2,fun j u x hj hx=> .tree _ _ (((h3 j u x hj hx).toT (AV.idsL_all hi hj)).retag hS (Zbh ht hj))⟩
 |arr sz n f=>exact ArrG.mono h (fun _ _=>rfl) fun i j u x hi' hj hr=>hr.retag hS (Zbh (ht i hi') hj)
 |oar L sz n f=>
  refine ⟨h.1,ArrG.mono h.2 (fun _ _=>rfl) fun i j u x hi' hj hr=> .tree _ _ ((hr.toT ?_).retag hS (Zbh (ht i hi') hj))⟩
  have hL:L=[]:=hi
  cases hids:u.ids with
  |nil=>rfl
  |cons q r=>have:=h.1 i hi' q (AV.idsL_in hj (by rw [hids];simp));rw [hL] at this;cases this
 |fam N sz m g=>
  obtain ⟨vs,rfl,h1,h2,h3⟩:=h
  exact ⟨vs,rfl,h1,fun p r hp=>ArrG.mono (h2 p r hp) (fun _ _=>rfl) fun i j u x hi' hj hr=>hr.retag hS (Zbh (ht p (by rw [←h1];exact (Array.getElem?_eq_some_iff.1 hp).1) i hi') hj),h3⟩
 |set ks=>exact h
 |bld e j=>cases hi
 |buf e r t=>exact h
 |sit s p=>exact h
 |byt t=>exact h
theorem lend_use {P:Program} {f:FuncId} {args:List AV} {args':List (Bool×AV)} {fr:Bool} {res:AV} {L:List (Nat×Ob×Ob)} {G:List (Nat×Ob)} (hcon:Zao P f (args'.map (·.2)) (Zac (Zdd L)) fr res (Zac (Zax L++G))) (hb:Zsr L=true)
  (hG:G.all (fun p=>(Ob.ids p.2).all (fun i=>((Zax L++G).map (·.1)).contains i))=true) (hres:res.ids.all (fun i=>((Zax L++G).map (·.1)).contains i)=true)
  {B:Base} {κ:Nat→Value} {ob obr:Nat→Option Ob} {w:World} (hm:MS B κ ob w) (hn:∀i∈G.map (·.1),Zes B ob i)
  (hsub:∀i o,obr i=some o→ob i=some o) {vals:List Value} (hr:RelL κ w (SS B κ ob w) args vals) (hle:∀p∈Zet Zdl true args args',p) (hl:∀p∈Zdh obr L,p):
  Calls P f vals.toArray w fun e w'=>∃v,e= .returned v∧Good B κ ob w (G.map (·.1)) {r:=res,wr:=wrL L G} v w':=by
 have hpre:∀i o,Zac (Zdd L) i=some o→∃o1,ob i=some o1∧(o1=o∨Zed Zdl true o1 o)∧Zai false o:=fun i o h=>by
  obtain ⟨o1,h1,h2⟩:=Zkk hl h
  exact ⟨o1,hsub i o1 h1,h2⟩
 have hpn:∀i,Zac (Zdd L) i≠none→ob i≠none:=fun i h=>by
  cases e:Zac (Zdd L) i with
  |none=>exact absurd e h
  |some o=>obtain ⟨o1,h1,_⟩:=hpre i o e;rw [h1];simp
 have hpp:∀i,Zac (Zax L) i≠none↔Zac (Zdd L) i≠none:=fun i=>by
  have:=Znh (L:=L) (i:=i)
  cases h1:Zac (Zdd L) i<;>cases h2:Zac (Zax L) i<;>simp [h1,h2] at this⊢
 have hgn:∀i,Zac G i≠none→Zes B ob i:=fun i h=>hn i (by have:=Zeb h;rw [Zbv] at this;simpa using this)
 -- the given ones are none of the lent
 have hgl:∀i,Zac G i≠none→Zac (Zdd L) i=none:=fun i h=>by
  cases e:Zac (Zdd L) i with
  |none=>rfl
  |some o=>exact absurd (hgn i h).1 (hpn i (by rw [e];simp))
 have hall:∀i,Zac (Zax L++G) i≠none→Zac (Zdd L) i≠none∨Zac G i≠none:=fun i h=>by
  rw [Zay] at h
  cases e:Zac (Zax L) i with
  |none=>rw [e] at h;exact .inr h
  |some o=>exact .inl ((hpp i).1 (by rw [e];simp))
 have hallL:∀i,Zac (Zdd L) i≠none→Zac (Zax L++G) i≠none:=fun i h=>by
  rw [Zay]
  cases e:Zac (Zax L) i with
  |none=>exact absurd e ((hpp i).2 h)
  |some o=>simp
 have hS1:∀t b,SS B κ ob w t b→b<w.heap.size∧SS B κ ob w false b∧∀i,Zac (Zdd L) i≠none→¬ Blk (κ i) b:=fun t b h=>⟨h.1,h.fr (fun e=>by cases e),fun i hi=>h.2.2 i (hpn i hi)⟩
 have hB:=hcon ⟨w,fun i=>(Zac (Zdd L) i).isSome,κ,fun b=>SS B κ ob w false b,fun _=>False⟩ vals (fun _=>rfl)
  ⟨Kept.refl _ _,fun i o h=>by
    obtain ⟨o1,h1,h2,h3⟩:=hpre i o h
    have h4:ObRel κ w (SS B κ ob w) o (κ i):=by
     rcases h2 with rfl|h2
     ·exact hm.obj i _ h1
     ·exact (hm.obj i _ h1).le hm (obr:=Zdl) (fun _ _ h=>by cases h) (fun _ _ h=>h) (fun _ _ _ h=>by cases h) h2
    exact h4.retagO (t:=false) (fun b hb=>⟨hb.1,⟨fun h=>(by cases h),fun _=>hb⟩,fun j hj=>hb.2.2 j (hpn j hj)⟩) h3,
   fun i b h hbk=>⟨(hm.ownb i b (hpn i h) hbk).1,.inr (Zeb h)⟩,fun i j b hi hj=>hm.inj i j b (hpn i hi) (hpn j hj),fun i _=>rfl,fun w' hk=>hm.glob w' (hm.kept.heap hk.os hk.tape hk.output hk.size fun k hk1 hk2=>hk.block k (Nat.lt_of_lt_of_le hk1 hm.kept.size) fun hq_=>hq_.elim (fun ⟨i,hi,hbk⟩=>by
    rcases (hm.ownb i k (hpn i (Zcg hi)) hbk).2 with (h|h)|h
    ·omega
    ·exact hk2 (.inr h)
    ·exact hk2 (.inl ⟨i,h,by rw [←hm.lent i h];exact hbk⟩)) False.elim)⟩
  (Zdw hm (obr:=Zdl) (fun i o h=>by cases h) hS1 (fun i o b hi=>by cases hi) _ _ _ hr hle)
 refine hB.mono fun e w' ⟨v,κ',he,hm',hv⟩=>⟨v,he,?_⟩
 have hk:=hm'.kept
 have hsz:w.heap.size≤w'.heap.size:=hk.size
 have hκ:∀i,Zac (Zdd L) i≠none→κ' i=κ i:=fun i hi=>hm'.lent i (Zeb hi)
 have hnm:∀b,(∀i,ob i≠none→¬ Blk (κ i) b)→b<w.heap.size→w'.heap[b]? =w.heap[b]? :=fun b h hlt=>hk.block b hlt fun hq_=>hq_.elim (fun ⟨i,hi,hbk⟩=>h i (hpn i (Zcg hi)) hbk) False.elim
 obtain ⟨κ2,hκ2⟩:∃κ2:Nat→Value,∀i,κ2 i=if (Zac G i).isSome then κ' i else κ i:=⟨_,fun _=>rfl⟩
 have k1:∀i,ob i≠none→κ2 i=κ i:=fun i h=>by
  rw [hκ2,if_neg]
  intro e
  exact h (hgn i (Zcg e)).1
 have k2:∀i,Zac (Zax L++G) i≠none→κ2 i=κ' i:=fun i h=>by
  rcases hall i h with h|h
  ·rw [k1 i (hpn i h),hκ i h]
  ·rw [hκ2,if_pos (Zeb h)]
 have hgb:∀i b,Zac G i≠none→Blk (κ2 i) b→w.heap.size≤b∧b<w'.heap.size:=fun i b h hbk=>by
  have h0:Zac (Zax L++G) i≠none:=by
   rw [Zay]
   cases e:Zac (Zax L) i with
   |none=>exact h
   |some o=>simp
  rw [k2 i h0] at hbk
  have:=hm'.ownb i b h0 hbk
  refine ⟨?_,this.1⟩
  rcases this.2 with (e|e)|e
  ·exact e
  ·exact e.elim
  ·exact absurd (hgl i h) (Zcg e)
 have happ:∀i,Zce ob (wrL L G) i≠none→ob i≠none∨Zac G i≠none:=fun i h=>by
  rw [wrL,Zia] at h
  cases e:Zac (Zax L++G) i with
  |none=>rw [e] at h;exact .inl h
  |some o=>
   rcases hall i (by rw [e];simp) with h'|h'
   ·exact .inl (hpn i h')
   ·exact .inr h'
 have hob:∀i b,ob i≠none→Blk (κ2 i) b→b<w.heap.size:=fun i b h hbk=>by rw [k1 i h] at hbk;exact (hm.ownb i b h hbk).1
 have hS2:∀t b,SS ⟨w,fun i=>(Zac (Zdd L) i).isSome,κ,fun b=>SS B κ ob w false b,fun _=>False⟩ κ' (Zac (Zax L++G)) w' t b→SS B κ2 (Zce ob (wrL L G)) w' t b:=fun t b h=>by
  refine ⟨h.1,⟨fun ht=> .inl (Nat.le_trans hm.kept.size ((h.2.1.1 ht).elim id False.elim)),fun hlt=> ?_⟩,fun i hi hbk=> ?_⟩
  ·exact (h.2.1.2 (fun q=>q.elim (fun q=>hlt (.inl (Nat.le_trans hm.kept.size q))) False.elim)).2.1.2 hlt
  ·rcases happ i hi with h1|h1
   ·have hlt:=hob i b h1 hbk
    rw [k1 i h1] at hbk
    exact (h.2.1.2 (fun q=>q.elim (fun q=>absurd hlt (Nat.not_lt.2 q)) False.elim)).2.2 i h1 hbk
   ·have h0:Zac (Zax L++G) i≠none:=by
     rw [Zay]
     cases e:Zac (Zax L) i with
     |none=>exact h1
     |some o=>simp
    rw [k2 i h0] at hbk
    exact h.2.2 i h0 hbk
 have hS3:∀t b,SS B κ ob w t b→w'.heap[b]? =w.heap[b]? ∧SS B κ2 (Zce ob (wrL L G)) w' t b:=fun t b h=>⟨hnm b h.2.2 h.1,Nat.lt_of_lt_of_le h.1 hsz,h.2.1,fun i hi hbk=>by
  rcases happ i hi with h1|h1
  ·rw [k1 i h1] at hbk;exact h.2.2 i h1 hbk
  ·have:=(hgb i b h1 hbk).1
   have:=h.1
   omega⟩
 refine ⟨κ2,fun i hi=> ?_,⟨hm.kept.heap hk.os hk.tape hk.output hsz fun k hk1 hk2=>hk.block k (Nat.lt_of_lt_of_le hk1 hm.kept.size) fun hq_=>hq_.elim (fun ⟨i,hi,hbk⟩=> ?_) False.elim,fun i o ho=> ?_,fun i b hi hbk=> ?_,fun i j b hi hj hbi hbj=> ?_,fun i hi=> ?_,hm.glob⟩,?_,hS3⟩
 ·rw [hκ2,if_neg]
  intro e
  rw [Zbv] at e
  exact hi (by simpa using e)
 ·rcases (hm.ownb i k (hpn i (Zcg hi)) hbk).2 with (h|h)|h
  ·omega
  ·exact hk2 (.inr h)
  ·exact hk2 (.inl ⟨i,h,by rw [←hm.lent i h];exact hbk⟩)
 ·rw [wrL,Zia] at ho
  cases e:Zac (Zax L++G) i with
  |some o'=>
   rw [e] at ho
   cases ho
   rw [k2 i (by rw [e];simp)]
   refine (hm'.obj i _ e).keep (fun _ _=>rfl) (fun t b hb=>⟨rfl,hS2 t b hb⟩) fun q hq=>k2 q ?_
   rw [Zay] at e
   cases e1:Zac (Zax L) i with
   |some o1=>
    rw [e1] at e;cases e
    have hqs:=Zwb hb e1 hq
    rw [Zay]
    cases e2:Zac (Zax L) q with
    |none=>rw [e2] at hqs;cases hqs
    |some o2=>simp
   |none=>
    rw [e1] at e
    have:=List.all_eq_true.1 (List.all_eq_true.1 hG (i,o) (Zdg e)) q hq
    rw [←Zbv] at this
    exact Zcg this
  |none=>
   rw [e] at ho
   have ho:ob i=some o:=ho
   have hne:ob i≠none:=by rw [ho];simp
   rw [k1 i hne]
   refine (hm.obj i o ho).keep (fun b hbk=> ?_) hS3 fun q hq=> ?_
   ·exact hk.block b (hm.ownb i b hne hbk).1 fun hq_=>hq_.elim (fun ⟨j,hj,hjb⟩=>by
     have hj':Zac (Zdd L) j≠none:=Zcg hj
     have:=hm.inj i j b hne (hpn j hj') hbk hjb
     subst this
     exact hallL i hj' e) False.elim
   ·rw [hκ2,if_neg]
    intro e
    exact (hgn q (Zcg e)).2.2 i o ho hq
 ·rcases happ i hi with h1|h1
  ·rw [k1 i h1] at hbk
   exact ⟨Nat.lt_of_lt_of_le (hm.ownb i b h1 hbk).1 hsz,(hm.ownb i b h1 hbk).2⟩
  ·have:=hgb i b h1 hbk
   exact ⟨this.2,.inl (.inl (Nat.le_trans hm.kept.size this.1))⟩
 ·rcases happ i hi with h1|h1<;>rcases happ j hj with h2|h2
  ·rw [k1 i h1] at hbi;rw [k1 j h2] at hbj;exact hm.inj i j b h1 h2 hbi hbj
  ·have:=hob i b h1 hbi;have:=(hgb j b h2 hbj).1;omega
  ·have:=hob j b h2 hbj;have:=(hgb i b h1 hbi).1;omega
  ·have hg:∀i,Zac G i≠none→Zac (Zax L++G) i≠none:=fun i h=>by
    rw [Zay]
    cases e:Zac (Zax L) i with
    |none=>exact h
    |some o=>simp
   rw [k2 i (hg i h1)] at hbi;rw [k2 j (hg j h2)] at hbj
   exact hm'.inj i j b (hg i h1) (hg j h2) hbi hbj
 ·rw [hκ2,if_neg]
  ·exact hm.lent i hi
  ·intro e
   have:=(hgn i (Zcg e)).2.1
   rw [hi] at this;cases this
 ·refine hv.keep (fun t b h=>⟨rfl,hS2 t b ⟨h.1,⟨fun ht=>h.2.1.1 (by simp [ht]),h.2.1.2⟩,h.2.2⟩⟩) fun i hi=>k2 i ?_
  have:=List.all_eq_true.1 hres i hi
  rw [←Zbv] at this
  exact Zcg this
def obX (ob:Nat→Option Ob) (L:List (Nat×Ob×Ob)) (i:Nat):Option Ob:=bif (L.map (·.1)).contains i then none else ob i
theorem Zss {ob:Nat→Option Ob} {L:List (Nat×Ob×Ob)} {i:Nat} {o:Ob} (h:obX ob L i=some o):ob i=some o∧Zac (Zdd L) i=none:=by
 unfold obX at h
 cases hc:(L.map (·.1)).contains i with
 |true=>rw [hc] at h;cases h
 |false=>
  rw [hc] at h
  refine ⟨h,?_⟩
  cases e:Zac (Zdd L) i with
  |none=>rfl
  |some o1=>
   have h2:=@Zbv (Zdd L) i
   rw [e] at h2
   have:(Zdd L).map (·.1)=L.map (·.1):=by simp [Zdd]
   rw [this,hc] at h2;cases h2
def Zps:List (Nat×Ob)→Prop
 | []=>True
 |p::r=>Zai true p.2∧Zps r
theorem Zme:∀ {l:List (Nat×Ob)},Zps l→∀p∈l,Zai true p.2
 |q::r,h,p,hp=>by
  rcases List.mem_cons.1 hp with e|hp
  ·subst e;exact h.1
  ·exact Zme h.2 p hp
theorem Zwd {l:List (Nat×Ob)} (h:Zps l) {i:Nat} {o:Ob} (e:Zac l i=some o):Zai true o:=Zme h _ (Zdg e)
theorem Rel.retagK {κ κ':Nat→Value} {w:World} {S S':Bool→Nat→Prop} {t:Bool} (hS:∀b,S t b→S' t b) {a:AV} {v:Value} (h:Rel κ w S a v) (ht:Zah t a) (hκ:∀i,i∈a.ids→κ' i=κ i):Rel κ' w S' a v:=by
 induction h with
 |tree a v h=>exact .tree _ _ (h.retag hS ht)
 |agg cs vs h1 h2 ih=>exact .agg cs vs h1 fun i a v hi hv=>ih i a v hi hv (Zbh ht hi) fun q hq=>hκ q (AV.idsL_in hi hq)
 |tup cs vs h1 h2 ih=>exact .tup cs vs h1 fun i a v hi hv=>ih i a v hi hv (Zbh ht hi) fun q hq=>hκ q (AV.idsL_in hi hq)
 |fn f cs vs h1 h2 ih=>exact .fn f cs vs h1 fun i a v hi hv=>ih i a v hi hv (Zbh ht hi) fun q hq=>hκ q (AV.idsL_in hi hq)
 |ref i off b h=>exact .ref i off b (by rw [hκ i (by simp [AV.ids])];exact h)
 |elt i sz k j b n c h=>exact .elt i sz k j b n c (by rw [hκ i (by simp [AV.ids])];exact h)
 |arr i A n c h=>exact .arr i A n c (by rw [hκ i (by simp [AV.ids])];exact h)
 |row i p vs A n c h h'=>exact .row i p vs A n c (by rw [hκ i (by simp [AV.ids])];exact h) h'
 |relt i p sz k j b n c vs h h'=>exact .relt i p sz k j b n c vs (by rw [hκ i (by simp [AV.ids])];exact h) h'
 |mapr i r h=>exact .mapr i r (by rw [hκ i (by simp [AV.ids])];exact h)
 |win i o n b M c h h'=>exact .win i o n b M c (by rw [hκ i (by simp [AV.ids])];exact h) h'
theorem Zwe {P:Program} {f:FuncId} {args:List AV} {args':List (Bool×AV)} {fr:Bool} {res:AV} {L:List (Nat×Ob×Ob)} {G:List (Nat×Ob)} (hcon:Zao P f (args'.map (·.2)) (Zac (Zdd L)) fr res (Zac (Zax L++G))) (hb:Zvz L=true)
  (hG:G.all (fun p=>(Ob.ids p.2).all (fun i=>((Zax L++G).map (·.1)).contains i))=true) (htag:Zps (Zax L++G)) (hrt:Zah true res) (hres:res.ids.all (fun i=>((Zax L++G).map (·.1)).contains i)=true)
  {B:Base} {κ:Nat→Value} {ob obr:Nat→Option Ob} {w:World} (hm:MS B κ ob w) (hn:∀i∈G.map (·.1),Zes B ob i)
  (hsub:∀i o,obr i=some o→ob i=some o) {vals:List Value} (hr:RelL κ w (SS B κ ob w) args vals) (hle:∀p∈Zet (obX obr L) true args args',p) (hl:∀p∈Zdh obr L,p):
  Calls P f vals.toArray w fun e w'=>∃v,e= .returned v∧Good B κ ob w (G.map (·.1)) {r:=res,wr:=wrL L G} v w':=by
 have hpre:∀i o,Zac (Zdd L) i=some o→∃o1,ob i=some o1∧(o1=o∨Zed Zdl true o1 o)∧Zai false o:=fun i o h=>by
  obtain ⟨o1,h1,h2⟩:=Zkk hl h
  exact ⟨o1,hsub i o1 h1,h2⟩
 have hpn:∀i,Zac (Zdd L) i≠none→ob i≠none:=fun i h=>by
  cases e:Zac (Zdd L) i with
  |none=>exact absurd e h
  |some o=>obtain ⟨o1,h1,_⟩:=hpre i o e;rw [h1];simp
 have hpp:∀i,Zac (Zax L) i≠none↔Zac (Zdd L) i≠none:=fun i=>by
  have:=Znh (L:=L) (i:=i)
  cases h1:Zac (Zdd L) i<;>cases h2:Zac (Zax L) i<;>simp [h1,h2] at this⊢
 have hgn:∀i,Zac G i≠none→Zes B ob i:=fun i h=>hn i (by have:=Zeb h;rw [Zbv] at this;simpa using this)
 -- the given ones are none of the lent
 have hgl:∀i,Zac G i≠none→Zac (Zdd L) i=none:=fun i h=>by
  cases e:Zac (Zdd L) i with
  |none=>rfl
  |some o=>exact absurd (hgn i h).1 (hpn i (by rw [e];simp))
 have hall:∀i,Zac (Zax L++G) i≠none→Zac (Zdd L) i≠none∨Zac G i≠none:=fun i h=>by
  rw [Zay] at h
  cases e:Zac (Zax L) i with
  |none=>rw [e] at h;exact .inr h
  |some o=>exact .inl ((hpp i).1 (by rw [e];simp))
 have hallL:∀i,Zac (Zdd L) i≠none→Zac (Zax L++G) i≠none:=fun i h=>by
  rw [Zay]
  cases e:Zac (Zax L) i with
  |none=>exact absurd e ((hpp i).2 h)
  |some o=>simp
 have hS1:∀(t:Bool) b,SS B κ ob w t b→b<w.heap.size∧(SS B κ ob w false b∨∃i,ob i≠none∧Zac (Zdd L) i=none∧Blk (κ i) b)∧∀i,Zac (Zdd L) i≠none→¬ Blk (κ i) b:=fun t b h=>⟨h.1,.inl (h.fr (fun e=>by cases e)),fun i hi=>h.2.2 i (hpn i hi)⟩
 have hB:=hcon ⟨w,fun i=>(Zac (Zdd L) i).isSome,κ,fun b=>SS B κ ob w false b∨∃i,ob i≠none∧Zac (Zdd L) i=none∧Blk (κ i) b,fun _=>False⟩ vals (fun _=>rfl)
  ⟨Kept.refl _ _,fun i o h=>by
    obtain ⟨o1,h1,h2,h3⟩:=hpre i o h
    have h4:ObRel κ w (SS B κ ob w) o (κ i):=by
     rcases h2 with rfl|h2
     ·exact hm.obj i _ h1
     ·exact (hm.obj i _ h1).le hm (obr:=Zdl) (fun _ _ h=>by cases h) (fun _ _ h=>h) (fun _ _ _ h=>by cases h) h2
    exact h4.retag (t:=false) (fun b hb=>⟨hb.1,⟨fun h=>(by cases h),fun _=> .inl hb⟩,fun j hj=>hb.2.2 j (hpn j hj)⟩) ((Zwc hb).1 h) h3,
   fun i b h hbk=>⟨(hm.ownb i b (hpn i h) hbk).1,.inr (Zeb h)⟩,fun i j b hi hj=>hm.inj i j b (hpn i hi) (hpn j hj),fun i _=>rfl,fun w' hk=>hm.glob w' (hm.kept.heap hk.os hk.tape hk.output hk.size fun k hk1 hk2=>hk.block k (Nat.lt_of_lt_of_le hk1 hm.kept.size) fun hq_=>hq_.elim (fun ⟨i,hi,hbk⟩=>by
    rcases (hm.ownb i k (hpn i (Zcg hi)) hbk).2 with (h|h)|h
    ·omega
    ·exact hk2 (.inr h)
    ·exact hk2 (.inl ⟨i,h,by rw [←hm.lent i h];exact hbk⟩)) False.elim)⟩
  (Zdw hm (obr:=obX obr L) (fun i o h=>hsub i o (Zss h).1) hS1 (fun i o b hi hbk=>by
   have hx:=Zss hi
   have hne:ob i≠none:=by rw [hsub i o hx.1];simp
   have h':∀_:Bool,b<w.heap.size∧(SS B κ ob w false b∨∃i,ob i≠none∧Zac (Zdd L) i=none∧Blk (κ i) b)∧∀i,Zac (Zdd L) i≠none→¬ Blk (κ i) b:=fun _=>⟨(hm.ownb i b hne hbk).1,.inr ⟨i,hne,hx.2,hbk⟩,fun j hj hjb=>by
    have:=hm.inj i j b hne (hpn j hj) hbk hjb
    subst this
    exact hj hx.2⟩
   exact ⟨h' false,fun _=>h' true⟩) _ _ _ hr hle)
 refine hB.mono fun e w' ⟨v,κ',he,hm',hv⟩=>⟨v,he,?_⟩
 have hk:=hm'.kept
 have hsz:w.heap.size≤w'.heap.size:=hk.size
 have hκ:∀i,Zac (Zdd L) i≠none→κ' i=κ i:=fun i hi=>hm'.lent i (Zeb hi)
 have hnm:∀b,(∀i,ob i≠none→¬ Blk (κ i) b)→b<w.heap.size→w'.heap[b]? =w.heap[b]? :=fun b h hlt=>hk.block b hlt fun hq_=>hq_.elim (fun ⟨i,hi,hbk⟩=>h i (hpn i (Zcg hi)) hbk) False.elim
 obtain ⟨κ2,hκ2⟩:∃κ2:Nat→Value,∀i,κ2 i=if (Zac G i).isSome then κ' i else κ i:=⟨_,fun _=>rfl⟩
 have k1:∀i,ob i≠none→κ2 i=κ i:=fun i h=>by
  rw [hκ2,if_neg]
  intro e
  exact h (hgn i (Zcg e)).1
 have k2:∀i,Zac (Zax L++G) i≠none→κ2 i=κ' i:=fun i h=>by
  rcases hall i h with h|h
  ·rw [k1 i (hpn i h),hκ i h]
  ·rw [hκ2,if_pos (Zeb h)]
 have hgb:∀i b,Zac G i≠none→Blk (κ2 i) b→w.heap.size≤b∧b<w'.heap.size:=fun i b h hbk=>by
  have h0:Zac (Zax L++G) i≠none:=by
   rw [Zay]
   cases e:Zac (Zax L) i with
   |none=>exact h
   |some o=>simp
  rw [k2 i h0] at hbk
  have:=hm'.ownb i b h0 hbk
  refine ⟨?_,this.1⟩
  rcases this.2 with (e|e)|e
  ·exact e
  ·exact e.elim
  ·exact absurd (hgl i h) (Zcg e)
 have happ:∀i,Zce ob (wrL L G) i≠none→ob i≠none∨Zac G i≠none:=fun i h=>by
  rw [wrL,Zia] at h
  cases e:Zac (Zax L++G) i with
  |none=>rw [e] at h;exact .inl h
  |some o=>
   rcases hall i (by rw [e];simp) with h'|h'
   ·exact .inl (hpn i h')
   ·exact .inr h'
 have hob:∀i b,ob i≠none→Blk (κ2 i) b→b<w.heap.size:=fun i b h hbk=>by rw [k1 i h] at hbk;exact (hm.ownb i b h hbk).1
 have hS2:∀b,SS ⟨w,fun i=>(Zac (Zdd L) i).isSome,κ,fun b=>SS B κ ob w false b∨∃i,ob i≠none∧Zac (Zdd L) i=none∧Blk (κ i) b,fun _=>False⟩ κ' (Zac (Zax L++G)) w' true b→SS B κ2 (Zce ob (wrL L G)) w' true b:=fun b h=>by
  have hge:w.heap.size≤b:=(h.2.1.1 rfl).elim id False.elim
  have hgN:B.N b:= .inl (Nat.le_trans hm.kept.size hge)
  refine ⟨h.1,⟨fun _=>hgN,fun hlt=>absurd hgN hlt⟩,fun i hi hbk=> ?_⟩
  rcases happ i hi with h1|h1
  ·have hlt:=hob i b h1 hbk
   omega
  ·have h0:Zac (Zax L++G) i≠none:=by
    rw [Zay]
    cases e:Zac (Zax L) i with
    |none=>exact h1
    |some o=>simp
   rw [k2 i h0] at hbk
   exact h.2.2 i h0 hbk
 have hS3:∀t b,SS B κ ob w t b→w'.heap[b]? =w.heap[b]? ∧SS B κ2 (Zce ob (wrL L G)) w' t b:=fun t b h=>⟨hnm b h.2.2 h.1,Nat.lt_of_lt_of_le h.1 hsz,h.2.1,fun i hi hbk=>by
  rcases happ i hi with h1|h1
  ·rw [k1 i h1] at hbk;exact h.2.2 i h1 hbk
  ·have:=(hgb i b h1 hbk).1
   have:=h.1
   omega⟩
 refine ⟨κ2,fun i hi=> ?_,⟨hm.kept.heap hk.os hk.tape hk.output hsz fun k hk1 hk2=>hk.block k (Nat.lt_of_lt_of_le hk1 hm.kept.size) fun hq_=>hq_.elim (fun ⟨i,hi,hbk⟩=> ?_) False.elim,fun i o ho=> ?_,fun i b hi hbk=> ?_,fun i j b hi hj hbi hbj=> ?_,fun i hi=> ?_,hm.glob⟩,?_,hS3⟩
 ·rw [hκ2,if_neg]
  intro e
  rw [Zbv] at e
  exact hi (by simpa using e)
 ·rcases (hm.ownb i k (hpn i (Zcg hi)) hbk).2 with (h|h)|h
  ·omega
  ·exact hk2 (.inr h)
  ·exact hk2 (.inl ⟨i,h,by rw [←hm.lent i h];exact hbk⟩)
 ·rw [wrL,Zia] at ho
  cases e:Zac (Zax L++G) i with
  |some o'=>
   rw [e] at ho
   cases ho
   rw [k2 i (by rw [e];simp)]
   refine ((hm'.obj i _ e).retagO (t:=true) hS2 (Zwd htag e)).keep (fun _ _=>rfl) (fun t b hb=>⟨rfl,hb⟩) fun q hq=>(k2 q ?_)
   rw [Zay] at e
   cases e1:Zac (Zax L) i with
   |some o1=>rw [e1] at e;cases e;rw [(Zwc hb).2 e1] at hq;cases hq
   |none=>
    rw [e1] at e
    have:=List.all_eq_true.1 (List.all_eq_true.1 hG (i,o) (Zdg e)) q hq
    rw [←Zbv] at this
    exact Zcg this
  |none=>
   rw [e] at ho
   have ho:ob i=some o:=ho
   have hne:ob i≠none:=by rw [ho];simp
   rw [k1 i hne]
   refine (hm.obj i o ho).keep (fun b hbk=> ?_) hS3 fun q hq=> ?_
   ·exact hk.block b (hm.ownb i b hne hbk).1 fun hq_=>hq_.elim (fun ⟨j,hj,hjb⟩=>by
     have hj':Zac (Zdd L) j≠none:=Zcg hj
     have:=hm.inj i j b hne (hpn j hj') hbk hjb
     subst this
     exact hallL i hj' e) False.elim
   ·rw [hκ2,if_neg]
    intro e
    exact (hgn q (Zcg e)).2.2 i o ho hq
 ·rcases happ i hi with h1|h1
  ·rw [k1 i h1] at hbk
   exact ⟨Nat.lt_of_lt_of_le (hm.ownb i b h1 hbk).1 hsz,(hm.ownb i b h1 hbk).2⟩
  ·have:=hgb i b h1 hbk
   exact ⟨this.2,.inl (.inl (Nat.le_trans hm.kept.size this.1))⟩
 ·rcases happ i hi with h1|h1<;>rcases happ j hj with h2|h2
  ·rw [k1 i h1] at hbi;rw [k1 j h2] at hbj;exact hm.inj i j b h1 h2 hbi hbj
  ·have:=hob i b h1 hbi;have:=(hgb j b h2 hbj).1;omega
  ·have:=hob j b h2 hbj;have:=(hgb i b h1 hbi).1;omega
  ·have hg:∀i,Zac G i≠none→Zac (Zax L++G) i≠none:=fun i h=>by
    rw [Zay]
    cases e:Zac (Zax L) i with
    |none=>exact h
    |some o=>simp
   rw [k2 i (hg i h1)] at hbi;rw [k2 j (hg j h2)] at hbj
   exact hm'.inj i j b (hg i h1) (hg j h2) hbi hbj
 ·rw [hκ2,if_neg]
  ·exact hm.lent i hi
  ·intro e
   have:=(hgn i (Zcg e)).2.1
   rw [hi] at this;cases this
 ·refine hv.retagK (t:=true) (fun b h=>hS2 b ⟨h.1,⟨fun _=>h.2.1.1 (by simp),h.2.1.2⟩,h.2.2⟩) hrt fun i hi=>k2 i ?_
  have:=List.all_eq_true.1 hres i hi
  rw [←Zbv] at this
  exact Zcg this
theorem con_use {P:Program} {f:FuncId} {args:List AV} {args':List (Bool×AV)} {fr:Bool} {res:AV} (hcon:Con P f (args'.map (·.2)) fr res) (hids:AV.idsL (args'.map (·.2))=[]) (hres:res.ids=[]) {B:Base} {κ:Nat→Value} {ob obr:Nat→Option Ob} {w:World} (hm:MS B κ ob w)
  (hsub:∀i o,obr i=some o→ob i=some o) {vals:List Value} (hr:RelL κ w (SS B κ ob w) args vals) (hle:∀p∈Zet (bif fr then obr else Zdl) true args args',p) (news:List Nat):
  Calls P f vals.toArray w fun e w'=>∃v,e= .returned v∧Good B κ ob w news {r:=res} v w':=by
 have hA:∃A:Nat→Prop,(∀t b,SS B κ ob w t b→A b)∧(fr=true→∀b,A b)∧(fr=false→∀b,b<w.heap.size→A b→SS B κ ob w false b):=by
  cases fr
  ·exact ⟨fun b=>SS B κ ob w false b,fun t b h=>h.fr (fun e=>by cases e),fun h=>(by cases h),fun _ b _ h=>h⟩
  ·exact ⟨fun _=>True,fun _ _ _=>trivial,fun _ _=>trivial,fun h=>by cases h⟩
 obtain ⟨A,hA1,hA2,hA3⟩:=hA
 have hB:=hcon ⟨w,fun _=>false,κ,A,fun _=>False⟩ vals (fun _=>rfl) ⟨Kept.refl _ _,fun i o h=>(by cases h),fun i b h=>absurd rfl h,fun i j b h=>absurd rfl h,fun i h=>(by cases h),fun w' hk=>hm.glob w' (hm.kept.heap hk.os hk.tape hk.output hk.size fun k hk1 _=>hk.block k (Nat.lt_of_lt_of_le hk1 hm.kept.size) fun hq_=>hq_.elim (fun ⟨i,hi,_⟩=>by cases hi) False.elim)⟩
  (Zdw hm (obr:=bif fr then obr else Zdl) (fun i o h=>by cases fr<;>simp [Zdl] at h;exact hsub i o h) (fun t b hb=>⟨hb.1,hA1 t b hb,fun i h=>absurd rfl h⟩) (fun i o b hi hb=>by
   cases fr
   ·simp [Zdl] at hi
   ·have hob:=hsub i o (by simpa using hi)
    have:=(hm.ownb i b (by rw [hob];simp) hb).1
    exact ⟨⟨this,hA2 rfl b,fun i h=>absurd rfl h⟩,fun _=>⟨this,hA2 rfl b,fun i h=>absurd rfl h⟩⟩) _ _ _ hr hle)
 refine hB.mono fun e w' ⟨v,κ',he,hm',hv⟩=>⟨v,he,?_⟩
 have hk:Kept w (fun _=>False) w':=⟨hm'.kept.os,hm'.kept.tape,hm'.kept.output,hm'.kept.size,fun k hk _=>hm'.kept.block k hk fun hq_=>hq_.elim (fun ⟨i,hi,_⟩=>by cases hi) False.elim⟩
 refine ⟨κ,fun _ _=>rfl,hm.world hk,.tree _ _ ((hv.toT hres).keep fun t b hb=>⟨rfl,?_⟩),SS.world hk⟩
 have hsz:=hm.kept.size
 show SS B κ ob w' t b
 by_cases hlt:b<w.heap.size
 ·have hfr:fr=false:=by
   cases fr with
   |false=>rfl
   |true=>
    have:w.heap.size≤b:=(hb.2.1.1 rfl).elim id False.elim
    omega
  have ht:t=false:=by
   cases t with
   |false=>rfl
   |true=>
    have:w.heap.size≤b:=(hb.2.1.1 (by simp)).elim id False.elim
    omega
  subst ht
  have:=hA3 hfr b hlt (hb.2.1.2 (fun q=>q.elim (fun q=>absurd hlt (Nat.not_lt.2 q)) False.elim))
  exact ⟨hb.1,this.2⟩
 ·have hgN:B.N b:= .inl (by omega)
  exact ⟨hb.1,⟨fun _=>hgN,fun h=>absurd hgN h⟩,fun i hi hbk=>hlt (hm.ownb i b hi hbk).1⟩
def Zrc (P:Program) (src dst:TypeId) (an:Ans) (x:AV):Option Out:=
 match P.underlying src,P.underlying dst,x with
 |some _,some (.int k),.val (.int _ n)=>match an with
  | .n=>some {r:= .val (.int k n),c:=some (inR k n)}
  | .wrap=>some {r:= .val (.int k (k.wrap n))}
  |_=>none
 |some _,some .string,.val (.string s)=>some {r:= .val (.string s)}
 |_,_,_=>none
theorem Zrd {P:Program} {src dst:TypeId} {an:Ans} {x:AV} {out:Out} (h:Zrc P src dst an x=some out) (hc:out.cond) {κ:Nat→Value} {S:Bool→Nat→Prop} {w:World} {vx:Value} (hx:Rel κ w S x vx):
  out.wr=[]∧∃v,Rel κ w S out.r v∧(convert src dst vx).run P w= .ok v w:=by
 unfold Zrc at h
 split at h
 ·rename_i d k k0 n h1 h2
  obtain rfl:=hx.val_of
  split at h<;>simp only [Option.some.injEq,reduceCtorEq] at h<;>subst h
  ·exact ⟨rfl,_,Rel.of_val _,by simp [convert,run_underlying h1,run_underlying h2,Conv.intToInt,Zft hc]⟩
  ·exact ⟨rfl,_,Rel.of_val _,by simp [convert,run_underlying h1,run_underlying h2,Conv.intToInt]⟩
 ·rename_i d s h1 h2
  obtain rfl:=hx.val_of
  cases h
  exact ⟨rfl,_,Rel.of_val _,by simp [convert,run_underlying h1,run_underlying h2]⟩
 ·cases h
def Zwf (mx:Bool) (k:IntKind):Int→List AV→Option Int
 |n,[]=>some n
 |n,.val (.int _ m)::r=>Zwf mx k (bif mx then max n m else min n m) r
 |_,_=>none
def Zim (mx:Bool):List AV→Option Out
 | .val (.int k n)::r=>match Zwf mx k n r with
  |some m=>some {r:= .val (.int k m)}
  |none=>none
 |_=>none
theorem Zpt {P:Program} {w:World} {κ:Nat→Value} {S:Bool→Nat→Prop} (mx:Bool) (k:IntKind):∀(r:List AV) (vs:List Value) (n m:Int),RelL κ w S r vs→Zwf mx k n r=some m→
  (vs.foldlM (bif mx then Builtin.max2 else Builtin.min2) (.int k n)).run P w= .ok (.int k m) w
 | [],vs,n,m,h,hf=>by
  have:=h.1
  cases vs with
  |nil=>simp only [Zwf,Option.some.injEq] at hf;subst hf;rfl
  |cons _ _=>simp at this
 |a::r,vs,n,m,h,hf=>by
  cases vs with
  |nil=>have:=h.1;simp at this
  |cons v vs=>
   unfold Zwf at hf
   split at hf
   ·rename_i e;cases e
   ·rename_i n _ k' q r' e
    cases e
    have hv:=(h.2 0 _ v rfl rfl).val_of
    subst hv
    have ih:=Zpt (P:=P) mx k r vs _ m ⟨by have:=h.1;simpa using this,fun j u x hj hx=>h.2 (j+1) u x (by simpa using hj) (by simpa using hx)⟩ hf
    simp only [List.foldlM_cons,Sem.run_bind]
    cases mx
    ·have hm2:∀n:Int,(Builtin.min2 (.int k n) (.int k' q)).run P w= .ok (.int k (min n q)) w:=fun n=>by
      simp only [Builtin.min2,Sem.run_pure]
      congr 2
      omega
     simp only [cond_false] at ih⊢
     rw [hm2]
     exact ih
    ·have hm2:∀n:Int,(Builtin.max2 (.int k n) (.int k' q)).run P w= .ok (.int k (max n q)) w:=fun n=>by
      simp only [Builtin.max2,Sem.run_pure]
      congr 2
      omega
     simp only [cond_true] at ih⊢
     rw [hm2]
     exact ih
   ·cases hf
theorem Zin {P:Program} {w:World} {κ:Nat→Value} {S:Bool→Nat→Prop} {mx:Bool} {xs:List AV} {vs:Array Value} {out:Out} (h:Zim mx xs=some out) (hr:RelL κ w S xs vs.toList) (ts:Array TypeId) (ty:TypeId):
  out.wr=[]∧∃v,Rel κ w S out.r v∧((bif mx then Builtin.max_ else Builtin.min_) ts ty vs).run P w= .ok v w:=by
 unfold Zim at h
 split at h
 ·rename_i k n r
  split at h
  ·rename_i m hf
   cases h
   refine ⟨rfl,_,Rel.of_val _,?_⟩
   obtain ⟨l⟩:=vs
   cases l with
   |nil=>have:=hr.1;simp at this
   |cons v vs=>
    have hv:=(hr.2 0 _ v rfl rfl).val_of
    subst hv
    have:=Zpt (P:=P) mx k r vs n m ⟨by have:=hr.1;simpa using this,fun j u x hj hx=>hr.2 (j+1) u x (by simpa using hj) (by simpa using hx)⟩ hf
    cases mx
    ·exact this
    ·exact this
  ·cases h
 ·cases h
def nilOut (x:AV):Option Out:=
 match x with
 | .ptr _ _=>some {r:=x}
 | .ref _ _=>some {r:=x}
 | .elt _ _ _ _=>some {r:=x}
 | .relt _ _ _ _ _=>some {r:=x}
 |_=>none
def Zmf (x:AV) (i:Nat):Option Out:=
 match x with
 | .tup cs=>match cs[i]? with
  |some a=>some {r:=a}
  |none=>none
 |_=>none
def Zwg (c a b:AV):Option Out:=
 match c with
 | .val (.bool true)=>some {r:=a}
 | .val (.bool false)=>some {r:=b}
 |_=>none
def Zbq (P:Program) (f:FuncId):Bool:=match P.funcs[f]? with
 |some fn=>fn.body.isSome&& !(fn.name== "runtime.NumGoroutine")
 |none=>false
theorem Zji {P:Program} {id:FuncId} {ρ:Operand→Value} {f:Operand} {args:Array Operand} {ts:Array TypeId} {vs:Array Value} {w:World} {dst:Option Nat} {type:TypeId} {pos:String} {after:Array Edge} {guard:Option (Nat×Bool)} (b1:Zbq P id=true) (hv:ρ f= .func (.func id) #[] vs):
  (execOp ρ ⟨dst,.call ⟨.value f,args,ts⟩,type,pos,after,guard⟩).run P w= .ok (.enter id (args.map ρ++vs)) w:=by
 unfold Zbq at b1
 split at b1
 ·rename_i fn hfn
  simp only [Bool.and_eq_true,Bool.not_eq_true'] at b1
  obtain ⟨d1,d2⟩:=b1
  have d1':fn.body≠none:=by intro hbd;rw [hbd] at d1;cases d1
  have d2':¬ fn.name= "runtime.NumGoroutine" :=by simpa using d2
  simp [execOp,resolve,hv,Deferred.ofValue,invoke,callFunc,hfn,d1',d2']
 ·cases b1
def Zcr (lent ids:List Nat):List AV→List Nat
 | []=>[]
 | .arr i::r=>bif lent.contains i||ids.contains i then Zcr lent ids r else i::Zcr lent ids r
 |_::r=>Zcr lent ids r
theorem Zeu {lent ids:List Nat} :∀ {al:List AV} {i:Nat},i∈Zcr lent ids al→lent.contains i=false∧ids.contains i=false
 | [],i,h=>by simp [Zcr] at h
 |a::r,i,h=>by
  cases a with
  |arr j=>
   simp only [Zcr] at h
   cases hb:lent.contains j||ids.contains j with
   |true=>rw [hb] at h;exact Zeu h
   |false=>
    rw [hb] at h
    simp only [cond_false,List.mem_cons] at h
    rcases h with rfl|h
    ·simpa [Bool.or_eq_false_iff] using hb
    ·exact Zeu h
  |_=>simp only [Zcr] at h;exact Zeu h
def obK (ob:Nat→Option Ob) (K:List Nat) (i:Nat):Option Ob:=bif K.contains i then none else ob i
theorem Zgj {ob:Nat→Option Ob} {K:List Nat} {i:Nat} {o:Ob} (h:obK ob K i=some o):ob i=some o∧i∉K:=by
 unfold obK at h
 cases hb:K.contains i with
 |true=>rw [hb] at h;cases h
 |false=>rw [hb] at h;exact ⟨h,by simpa using hb⟩
def frzA (ob:Nat→Option Ob) (K:List Nat):AV→AV
 | .arr i=>bif K.contains i then (match ob i with
  |some (.arr sz n f)=> .sl true sz n f
  |_=> .any) else .arr i
 |a=>a
theorem MS.freezeK {B:Base} {κ:Nat→Value} {ob:Nat→Option Ob} {w:World} (hm:MS B κ ob w) {K:List Nat} (hK:∀i∈K,B.bo i=false):
  MS B κ (obK ob K) w∧(∀(i sz n:Nat) (f:Nat→List AV),i∈K→ob i=some (.arr sz n f)→RelT w (SS B κ (obK ob K) w) (.sl true sz n f) (κ i))∧∀fr b,SS B κ ob w fr b→w.heap[b]? =w.heap[b]? ∧SS B κ (obK ob K) w fr b:=by
 have hl:∀j,obK ob K j≠none→ob j≠none∧j∉K:=fun j hj=>by
  cases e:obK ob K j with
  |none=>exact absurd e hj
  |some o=>have:=Zgj e;exact ⟨by rw [this.1];simp,this.2⟩
 have hfr:=SS.drop (B:=B) (κ:=κ) (w:=w) fun j hj=>(hl j hj).1
 refine ⟨hm.drop fun j o ho=>⟨o,(Zgj ho).1,id⟩,fun i sz n f hiK hi=> ?_,hfr⟩
 have hobj:=hm.obj i _ hi
 generalize hv:κ i=v at hobj
 rcases hobj with ⟨rfl,A,rfl⟩|⟨b,cur,e',c,rfl,q0,q1,q2,q3,q4,q5⟩
 ·exact .sl0 _ _ _ _ _ (Nat.zero_le _)
 ·have hbk:Blk (κ i) b:=by rw [hv];simp [Zbx,blk];omega
  have hne:ob i≠none:=by rw [hi];simp
  have hge:B.N b:=by
   rcases (hm.ownb i b hne hbk).2 with h'|hj
   ·exact h'
   ·rw [hK i hiK] at hj;cases hj
  refine .sl true sz n f b 0 c (fun p q=>cur.getD (p*sz+q) undef) ⟨(hm.ownb i b hne hbk).1,⟨fun _=>hge,fun h=>absurd hge h⟩,fun j hj hb=> ?_⟩ q2 q4 (fun p hp=>(q5 p hp).1) (fun p q hp hq=> ?_) fun p j u hp hj=> ?_
  ·have e:=hm.inj j i b (hl j hj).1 hne hb hbk
   subst e
   exact (hl j hj).2 hiK
  ·obtain ⟨x,hx,ho,_⟩:=(q5 p hp).2 q _ (List.getElem?_eq_getElem (by rw [(q5 p hp).1];exact hq))
   rw [cell_of_row w b _ cur e' (0,0) q1,Nat.zero_add]
   simp [hx,ho]
  ·obtain ⟨y,hy,_,hr⟩:=(q5 p hp).2 j u hj
   have:cur.getD (p*sz+j) undef=y:=by simp [hy]
   show RelT w _ u (cur.getD (p*sz+j) undef)
   rw [this]
   exact hr.keep hfr
theorem Zst {B:Base} {κ:Nat→Value} {ob obr:Nat→Option Ob} {w:World} {K:List Nat} (hsub:∀i o,obr i=some o→ob i=some o)
  (hT:∀(i sz n:Nat) (f:Nat→List AV),i∈K→ob i=some (.arr sz n f)→RelT w (SS B κ (obK ob K) w) (.sl true sz n f) (κ i)) (hS:∀fr b,SS B κ ob w fr b→w.heap[b]? =w.heap[b]? ∧SS B κ (obK ob K) w fr b)
  {al:List AV} {vs:List Value} (h:RelL κ w (SS B κ ob w) al vs):RelL κ w (SS B κ (obK ob K) w) (al.map (frzA obr K)) vs:=by
 refine ⟨by simpa using h.1,fun j u x hj hx=> ?_⟩
 rw [List.getElem?_map,Option.map_eq_some_iff] at hj
 obtain ⟨a,ha,rfl⟩:=hj
 have hr:=h.2 j a x ha hx
 have hk:Rel κ w (SS B κ (obK ob K) w) a x:=hr.keep hS fun _ _=>rfl
 cases a with
 |arr i=>
  simp only [frzA]
  cases hb:K.contains i with
  |false=>exact hk
  |true=>
   simp only [cond_true]
   split
   ·rename_i sz n f ho
    rw [hr.arr_of]
    exact .tree _ _ (hT i sz n f (by simpa using hb) (hsub _ _ ho))
   ·exact .tree _ _ (.any _)
 |_=>exact hk
theorem Zjv {ob:Nat→Option Ob} :∀ {A C:List (Nat×Option Ob)},Zce ob (A++C)=Zce (Zce ob C) A
 | [],C=>rfl
 |(j,o)::r,C=>by
  funext i
  simp only [List.cons_append,Zce]
  rw [Zjv]
theorem Zjw {ob:Nat→Option Ob} :∀ {K:List Nat},Zce ob (K.map fun i=>(i,none))=obK ob K
 | []=>by funext i;simp [Zce,obK]
 |j::r=>by
  funext i
  simp only [List.map_cons,Zce]
  rw [Zjw]
  unfold obK
  by_cases e:i=j
  ·subst e;simp
  ·have h1:Nat.beq i j=false:=Bool.eq_false_iff.2 fun h=>e (Nat.eq_of_beq_eq_true h)
   have h2:(i==j)=false:=beq_eq_false_iff_ne.2 e
   simp [h1,e]
def MovOK (P:Program) (id:FuncId) (n m:Nat) (f g:Nat→List AV) (a b:Int):Prop:=
 1≤n∧m≤n∧(∀i,i<n→∃z,f i=[.val z])∧(∀i,i<m→(g i).length=1)∧∀(k c:Nat) (cur:Array Value) (e:TypeId) (w:World),w.heap[k]? =some (.cells cur e (0,0))→n≤c→c≤cur.size→c≤maxLen→(∀i,i<n→∃z,f i=[.val z]∧cur[i]? =some z)→
  Calls P id #[.slice (some ⟨k,0,none⟩) n c,.int .i64 a,.int .i64 b] w fun q w'=>q= .returned (.slice (some ⟨k,0,none⟩) m c)∧w'.os=w.os∧w'.tape=w.tape∧w'.output=w.output∧w'.heap.size=w.heap.size∧(∀b',b'≠k→w'.heap[b']? =w.heap[b']?)∧∃cur',w'.heap[k]? =some (.cells cur' e (0,0))∧cur'.size=cur.size∧∀i,i<m→∃z,g i=[.val z]∧cur'[i]? =some z∧z.oneCell'=true
theorem mov_use {P:Program} {id:FuncId} {i j n m:Nat} {f g:Nat→List AV} {a b:Int} (hM:MovOK P id n m f g a b) {B:Base} {κ:Nat→Value} {ob:Nat→Option Ob} {w:World} (hm:MS B κ ob w) (hi:ob i=some (.arr 1 n f)) (hb:B.bo i=false) (hn:Zes B ob j) (c:Option Prop):
  Calls P id #[κ i,.int .i64 a,.int .i64 b] w fun q w'=>∃v,q= .returned v∧Good B κ ob w [j] {r:= .arr j,wr:=[(j,some (.arr 1 m g)),(i,none)],c:=c} v w':=by
 obtain ⟨h1,h2,hF,hG,hC⟩:=hM
 have hij:i≠j:=fun e=>by rw [e,hn.1] at hi;cases hi
 have ho:ArrRel w (SS B κ ob w) 1 n f (κ i):=hm.obj i _ hi
 have hne:ob i≠none:=by rw [hi];simp
 rcases ho with ⟨h0,_⟩|⟨k,cur,e,cp,hv,q0,q1,q2,q3,q4,q5⟩
 ·omega
 ·have hbk:Blk (κ i) k:=by rw [hv];simp [Zbx,blk];omega
  have hkw:k<w.heap.size:=(hm.ownb i k hne hbk).1
  rw [hv]
  refine (hC k cp cur e w q1 q2 (by omega) q4 fun p hp=> ?_).mono ?_
  ·obtain ⟨z,hz⟩:=hF p hp
   obtain ⟨x,hx,_,hr⟩:=(q5 p hp).2 0 (.val z) (by rw [hz];rfl)
   rw [Nat.mul_one,Nat.add_zero] at hx
   refine ⟨z,hz,?_⟩
   rw [hx]
   cases hr
   rfl
  ·rintro q w' ⟨rfl,r1,r2,r3,r4,r5,cur',r6,r7,r8⟩
   have hap:∀l,Zce ob [(j,some (Ob.arr 1 m g)),(i,none)] l=if l=j then some (.arr 1 m g) else if l=i then none else ob l:=fun l=>by
    by_cases e1:l=j
    ·subst e1;simp [Zce]
    ·have b1:Nat.beq l j=false:=Bool.eq_false_iff.2 fun h=>e1 (Nat.eq_of_beq_eq_true h)
     by_cases e2:l=i
     ·subst e2;simp [Zce,e1,b1]
     ·have b2:Nat.beq l i=false:=Bool.eq_false_iff.2 fun h=>e2 (Nat.eq_of_beq_eq_true h)
      simp [Zce,e1,b1,e2,b2]
   have hBv:∀b',Blk (Value.slice (some ⟨k,0,none⟩) m cp) b'↔b'=k:=fun b'=>by
    rw [Zbx]
    simp only [blk]
    rw [if_neg (by omega)]
    simp only [Option.some.injEq]
    exact ⟨fun h=>h.symm,fun h=>h.symm⟩
   have hp:=MS.put (ob':=Zce ob [(j,some (.arr 1 m g)),(i,none)]) (w':=w') hm j (.arr 1 m g) (.slice (some ⟨k,0,none⟩) m cp) (by rw [hap,if_pos rfl])
    (fun l hl hl'=>by
     rw [hap,if_neg hl] at hl'⊢
     by_cases e2:l=i
     ·rw [if_pos e2] at hl';exact absurd rfl hl'
     ·rw [if_neg e2])
    (fun h=>absurd hn.1 h)
    (fun b' hb'=>by
     rw [hBv] at hb'
     subst hb'
     exact ⟨.inr ⟨i,hne,.inr ⟨by rw [hap,if_neg hij,if_pos rfl],hb⟩,hbk⟩,by omega⟩)
    r1 r2 r3 (by omega)
    (fun b' _ hb'=>r5 b' fun e=>hb' ((hBv b').2 e))
    (fun _ l o hl ho=>hn.2.2 l o (by
     rw [hap,if_neg hl] at ho
     by_cases e2:l=i
     ·rw [if_pos e2] at ho;cases ho
     ·rw [if_neg e2] at ho;exact ho))
    (fun h=>by rw [hn.2.1] at h;cases h)
    (fun _=> .inr ⟨k,cur',e,cp,rfl,q0,r6,by omega,by omega,q4,fun p hp=>⟨hG p hp,fun l u hu=>by
     obtain ⟨z,hz,hz1,hz2⟩:=r8 p hp
     have hl0:l=0:=by
      cases l with
      |zero=>rfl
      |succ l=>rw [hz] at hu;simp at hu
     subst hl0
     rw [hz] at hu
     simp only [List.getElem?_cons_zero,Option.some.injEq] at hu
     subst hu
     exact ⟨z,by rw [Nat.mul_one,Nat.add_zero];exact hz1,hz2,.val _⟩⟩⟩)
   exact ⟨_,rfl,Zfl κ j (.slice (some ⟨k,0,none⟩) m cp),fun l hl=>Zbi _ _ (by simpa using hl),hp.1,.arr _ _ _ _ (Zav _ _ _),hp.2⟩
def SrwOK (P:Program) (id:FuncId) (o N:Nat) (f g:Nat→List AV) (n:Nat):Prop:=
 0<n∧o+n≤N∧∃zs zs':Array Int,zs.size=n∧zs'.size=n∧(∀p,p<n→f (o+p)=[.val (.int .i64 zs[p]!)])∧(∀p,p<N→g p=if o≤p∧p<o+n then [.val (.int .i64 zs'[p-o]!)] else f p)∧
  ∀(blk off cap:Nat) (w:World),Go.Sort.Holds (Value.int .i64) w blk off zs→blk<w.heap.size→Calls P id #[.slice (some ⟨blk,off,none⟩) n cap] w fun e w'=>e= .returned (.tuple #[])∧∃m os,w'=Go.Sort.grow (Go.Sort.putRow (Value.int .i64) (Go.Sort.ahead w m) blk off zs') os
theorem srw_use {P:Program} {id:FuncId} {i o N n:Nat} {f g:Nat→List AV} (hM:SrwOK P id o N f g n) {B:Base} {κ:Nat→Value} {ob:Nat→Option Ob} {w:World} (hm:MS B κ ob w) (hi:ob i=some (.arr 1 N f)) {v:Value} (hv:Rel κ w (SS B κ ob w) (.win i o n) v) (c:Option Prop):
  Calls P id #[v] w fun q w'=>∃x,q= .returned x∧Good B κ ob w [] {r:= .tup [],wr:=[(i,some (.arr 1 N g))],c:=c} x w':=by
 obtain ⟨hn0,hnN,zs,zs',hz,hz',hF,hG,hC⟩:=hM
 have hne:ob i≠none:=by rw [hi];simp
 have ho:ArrRel w (SS B κ ob w) 1 N f (κ i):=hm.obj i _ hi
 cases hv with
 |tree _ _ h=>cases h
 |win _ _ _ b M cp hκ hoM=>
  rw [hκ] at ho
  rcases ho with ⟨h0,_⟩|⟨b',cur,e,cp',e1,q0,q1,q2,q3,q4,q5⟩
  ·omega
  ·cases e1
   have hbk:Blk (κ i) b:=by rw [hκ];exact .inl (by simp [blk];omega)
   have hkw:b<w.heap.size:=(hm.ownb i b hne hbk).1
   have hcell:∀p,p<n→cur[o+p]? =some (.int .i64 zs[p]!):=fun p hp=>by
    obtain ⟨x,hx,_,hr⟩:=(q5 (o+p) (by omega)).2 0 (.val (.int .i64 zs[p]!)) (by rw [hF p hp];rfl)
    rw [Nat.mul_one,Nat.add_zero] at hx
    rw [hx,(Rel.tree (κ:=κ) _ _ hr).val_of]
   have hHolds:Go.Sort.Holds (Value.int .i64) w b o zs:=fun p hp=>by
    refine ⟨?_,by simp [World.frozen?,q1]⟩
    have:=hcell p (by omega)
    simp only [World.cell?,q1]
    rw [if_neg (by simp)]
    exact this
   refine (hC b o (cp-o) w hHolds hkw).mono ?_
   rintro q w' ⟨rfl,m,os,rfl⟩
   have hsz:(Go.Sort.grow (Go.Sort.putRow (Value.int .i64) (Go.Sort.ahead w m) b o zs') os).heap.size=w.heap.size+os.size:=by
    simp [Go.Sort.grow,Go.Sort.putRow,Go.Sort.mapBlock,Go.Sort.ahead]
   have hblock:∀k,k<w.heap.size→k≠b→(Go.Sort.grow (Go.Sort.putRow (Value.int .i64) (Go.Sort.ahead w m) b o zs') os).heap[k]? =w.heap[k]? :=fun k hk hkb=>by
    simp [Go.Sort.grow,Go.Sort.putRow,Go.Sort.mapBlock,Go.Sort.ahead,Array.getElem?_append,Array.getElem?_modify,Array.getElem_modify,hk,Ne.symm hkb]
   have hthis:(Go.Sort.grow (Go.Sort.putRow (Value.int .i64) (Go.Sort.ahead w m) b o zs') os).heap[b]? =some (.cells (Go.Sort.putCells (Value.int .i64) o zs' cur) e (0,0)):=by
    have q1':=q1
    rw [Array.getElem?_eq_getElem hkw] at q1'
    simp only [Option.some.injEq] at q1'
    simp [Go.Sort.grow,Go.Sort.putRow,Go.Sort.mapBlock,Go.Sort.ahead,Array.getElem?_append,Array.getElem?_modify,Array.getElem_modify,hkw,q1',Go.Sort.onCells]
   have hap:∀l,Zce ob [(i,some (Ob.arr 1 N g))] l=if l=i then some (.arr 1 N g) else ob l:=fun l=>by
    by_cases e1:l=i
    ·subst e1;simp [Zce]
    ·have b1:Nat.beq l i=false:=Bool.eq_false_iff.2 fun h=>e1 (Nat.eq_of_beq_eq_true h)
     simp [Zce,e1,b1]
   have hBv:∀b',Blk (κ i) b'↔b'=b:=fun b'=>by
    rw [hκ,Zbx]
    simp only [blk]
    rw [if_neg (by omega)]
    simp only [Option.some.injEq]
    exact ⟨fun h=>h.symm,fun h=>h.symm⟩
   have hp:=MS.put (ob':=Zce ob [(i,some (.arr 1 N g))]) (w':=Go.Sort.grow (Go.Sort.putRow (Value.int .i64) (Go.Sort.ahead w m) b o zs') os) hm i (.arr 1 N g) (κ i) (by rw [hap,if_pos rfl])
    (fun l hl _=>by rw [hap,if_neg hl])
    (fun _=>rfl)
    (fun b' hb'=>by
     have hb2:=(hBv b').1 hb'
     subst hb2
     exact ⟨.inr ⟨i,hne,.inl rfl,hbk⟩,by rw [hsz];omega⟩)
    rfl rfl rfl (by rw [hsz];omega)
    (fun b' hb'' hb'=>hblock b' hb'' fun e=>hb' ((hBv b').2 e))
    (fun h=>absurd h hne)
    (fun _=>rfl)
    (fun hk=>by
     rw [hκ] at hk⊢
     refine .inr ⟨b,_,e,cp,rfl,q0,hthis,q2,by simpa [Go.Sort.putCells] using q3,q4,fun p hp=> ?_⟩
     have hpc:p<cur.size:=by omega
     rw [hG p hp]
     split
     ·rename_i hw
      refine ⟨rfl,fun l u hu=> ?_⟩
      have hl0:l=0:=by
       cases l with
       |zero=>rfl
       |succ l=>simp at hu
      subst hl0
      simp only [List.getElem?_cons_zero,Option.some.injEq] at hu
      subst hu
      refine ⟨_,?_,rfl,.val _⟩
      unfold Go.Sort.putCells
      rw [Nat.mul_one,Nat.add_zero,Array.getElem?_mapIdx,Array.getElem?_eq_getElem hpc,Option.map_some,if_pos ⟨hw.1,by omega⟩]
     ·rename_i hw
      refine ⟨(q5 p hp).1,fun l u hu=> ?_⟩
      obtain ⟨x,hx1,hx2,hx3⟩:=(q5 p hp).2 l u hu
      refine ⟨x,?_,hx2,hx3.keep hk⟩
      have hl0:l<1:=by rw [←(q5 p hp).1];exact (List.getElem?_eq_some_iff.1 hu).1
      obtain rfl:l=0:=by omega
      rw [Nat.mul_one,Nat.add_zero] at hx1⊢
      unfold Go.Sort.putCells
      rw [Array.getElem?_mapIdx,hx1,Option.map_some,if_neg (by omega)])
   have hκ':Zfl κ i (κ i)=κ:=funext fun l=>by
    by_cases e1:l=i
    ·subst e1;exact Zav _ _ _
    ·exact Zbi _ _ e1
   rw [hκ'] at hp
   exact ⟨_,rfl,κ,fun _ _=>rfl,hp.1,.tup _ _ rfl (fun i a v h=>by simp at h),hp.2⟩
def MvcOK (P:Program) (id:FuncId) (kc n m:Nat) (f g:Nat→List AV) (vs:List Value):Prop:=
 1≤n∧(∀i,i<m→(g i).length=kc)∧∀(R:AV→Value→Prop),(∀z,R (.val z) z)→(∀z x,R (.val z) x→x=z)→∀(k c:Nat) (cur:Array Value) (e:TypeId) (w:World),w.heap[k]? =some (.cells cur e (0,0))→n≤c→c*kc≤cur.size→c≤maxLen→
  (∀i,i<n→(f i).length=kc∧∀(j:Nat) (u:AV),(f i)[j]? =some u→∃x,cur[i*kc+j]? =some x∧x.oneCell'=true∧R u x)→
  Calls P id (Value.slice (some ⟨k,0,none⟩) n c::vs).toArray w fun q w'=>∃(k' c':Nat) (cur':Array Value),q= .returned (.slice (some ⟨k',0,none⟩) m c')∧w'.os=w.os∧w'.tape=w.tape∧w'.output=w.output∧w.heap.size≤w'.heap.size∧(k'=k∨k'=w.heap.size)∧k'<w'.heap.size∧
   (∀b',b'<w.heap.size→b'≠k'→w'.heap[b']? =w.heap[b']?)∧w'.heap[k']? =some (.cells cur' e (0,0))∧0<c'∧m≤c'∧c'*kc≤cur'.size∧c'≤maxLen∧
   ∀i,i<m→∀(j:Nat) (u:AV),(g i)[j]? =some u→∃x,cur'[i*kc+j]? =some x∧x.oneCell'=true∧R u x
theorem mvc_use {P:Program} {id:FuncId} {i j kc n m:Nat} {f g:Nat→List AV} {vs:List Value} (hM:MvcOK P id kc n m f g vs) {B:Base} {κ:Nat→Value} {ob:Nat→Option Ob} {w:World} (hm:MS B κ ob w) (hi:ob i=some (.arr kc n f)) (hb:B.bo i=false) (hn:Zes B ob j) (c:Option Prop):
  Calls P id (κ i::vs).toArray w fun q w'=>∃v,q= .returned v∧Good B κ ob w [j] {r:= .arr j,wr:=[(j,some (.arr kc m g)),(i,none)],c:=c} v w':=by
 obtain ⟨h1,hG,hC⟩:=hM
 have hij:i≠j:=fun e=>by rw [e,hn.1] at hi;cases hi
 have ho:ArrRel w (SS B κ ob w) kc n f (κ i):=hm.obj i _ hi
 have hne:ob i≠none:=by rw [hi];simp
 rcases ho with ⟨h0,_⟩|⟨k,cur,e,cp,hv,q0,q1,q2,q3,q4,q5⟩
 ·omega
 ·have hbk:Blk (κ i) k:=by rw [hv];simp [Zbx,blk];omega
  have hkw:k<w.heap.size:=(hm.ownb i k hne hbk).1
  rw [hv]
  refine (hC (RelT w (SS B κ ob w)) (fun z=> .val z) (fun z x h=>by cases h;rfl) k cp cur e w q1 q2 q3 q4 q5).mono ?_
  rintro q w' ⟨k',c',cur',rfl,r1,r2,r3,r4,r4b,r4c,r5,r6,r0,r7,r7b,r7c,r8⟩
  have hap:∀l,Zce ob [(j,some (Ob.arr kc m g)),(i,none)] l=if l=j then some (.arr kc m g) else if l=i then none else ob l:=fun l=>by
   by_cases e1:l=j
   ·subst e1;simp [Zce]
   ·have b1:Nat.beq l j=false:=Bool.eq_false_iff.2 fun h=>e1 (Nat.eq_of_beq_eq_true h)
    by_cases e2:l=i
    ·subst e2;simp [Zce,e1,b1]
    ·have b2:Nat.beq l i=false:=Bool.eq_false_iff.2 fun h=>e2 (Nat.eq_of_beq_eq_true h)
     simp [Zce,e1,b1,e2,b2]
  have hBv:∀b',Blk (Value.slice (some ⟨k',0,none⟩) m c') b'↔b'=k':=fun b'=>by
   rw [Zbx]
   simp only [blk]
   rw [if_neg (by omega)]
   simp only [Option.some.injEq]
   exact ⟨fun h=>h.symm,fun h=>h.symm⟩
  have hp:=MS.put (ob':=Zce ob [(j,some (.arr kc m g)),(i,none)]) (w':=w') hm j (.arr kc m g) (.slice (some ⟨k',0,none⟩) m c') (by rw [hap,if_pos rfl])
   (fun l hl hl'=>by
    rw [hap,if_neg hl] at hl'⊢
    by_cases e2:l=i
    ·rw [if_pos e2] at hl';exact absurd rfl hl'
    ·rw [if_neg e2])
   (fun h=>absurd hn.1 h)
   (fun b' hb'=>by
    rw [hBv] at hb'
    subst hb'
    refine ⟨?_,r4c⟩
    rcases r4b with e|e
    ·exact .inr ⟨i,hne,.inr ⟨by rw [hap,if_neg hij,if_pos rfl],hb⟩,by rw [e];exact hbk⟩
    ·exact .inl e)
   r1 r2 r3 r4
   (fun b' hb'' hb'=>r5 b' hb'' fun e=>hb' ((hBv b').2 e))
   (fun _ l o hl ho=>hn.2.2 l o (by
    rw [hap,if_neg hl] at ho
    by_cases e2:l=i
    ·rw [if_pos e2] at ho;cases ho
    ·rw [if_neg e2] at ho;exact ho))
   (fun h=>by rw [hn.2.1] at h;cases h)
   (fun hk=> .inr ⟨k',cur',e,c',rfl,r0,r6,r7,r7b,r7c,fun p hp=>⟨hG p hp,fun l u hu=>by
    obtain ⟨x,hx1,hx2,hx3⟩:=r8 p hp l u hu
    exact ⟨x,hx1,hx2,hx3.keep hk⟩⟩⟩)
  exact ⟨_,rfl,Zfl κ j (.slice (some ⟨k',0,none⟩) m c'),fun l hl=>Zbi _ _ (by simpa using hl),hp.1,.arr _ _ _ _ (Zav _ _ _),hp.2⟩
def CallC (P:Program) (f:FuncId) (ln:List Nat) (args:List AV) (obs:Nat→Option Ob) (fr:Bool) (res:AV) (obs':Nat→Option Ob):Prop:=
 ∀(B:Base) (vals:List Value),(∀i,B.bo i=ln.contains i)→MS B B.κ0 obs B.w0→RelL B.κ0 B.w0 (fun _ b=>b<B.w0.heap.size∧B.A b∧∀i,obs i≠none→¬ Blk (B.κ0 i) b) args vals→
  Calls P f vals.toArray B.w0 fun e w'=>∃v κ',e= .returned v∧MS B κ' obs' w'∧Rel κ' w' (SR fr B κ' obs' w') res v
def selfL (C:List (Nat×Ob)):List (Nat×Ob×Ob):=C.map fun p=>(p.1,p.2,p.2)
theorem Zpu:∀C:List (Nat×Ob),Zdd (selfL C)=C
 | []=>rfl
 |(i,o)::r=>by show (i,o)::Zdd (selfL r)=_;rw [Zpu r]
theorem Zwh {P:Program} {f:FuncId} {args:List AV} {args':List (Bool×AV)} {fr:Bool} {res:AV} {L:List (Nat×Ob×Ob)} {C G:List (Nat×Ob)} (hcon:CallC P f (L.map (·.1)) (args'.map (·.2)) (Zac (Zdd L++C)) fr res (Zac (Zax L++G)))
  (hb:(Zax L).all (fun p=>(Ob.ids p.2).all (fun i=>((Zax L++G).map (·.1)).contains i))=true)
  (hG:G.all (fun p=>(Ob.ids p.2).all (fun i=>((Zax L++G).map (·.1)).contains i))=true) (hres:res.ids.all (fun i=>((Zax L++G).map (·.1)).contains i)=true)
  (hC:C.all (fun p=> !((L.map (·.1)).contains p.1)&& !((G.map (·.1)).contains p.1))=true)
  {B:Base} {κ:Nat→Value} {ob obr:Nat→Option Ob} {w:World} (hm:MS B κ ob w) (hBo:∀i∈C.map (·.1),B.bo i=false) (hn:∀i∈G.map (·.1),Zes B ob i)
  (hsub:∀i o,obr i=some o→ob i=some o) {vals:List Value} (hr:RelL κ w (SS B κ ob w) args vals) (hle:∀p∈Zet Zdl true args args',p) (hl:∀p∈Zdh obr L,p) (hlc:∀p∈Zdh obr (selfL C),p):
  Calls P f vals.toArray w fun e w'=>∃v,e= .returned v∧Good B κ ob w (G.map (·.1)) {r:=res,wr:=wrL L G++(C.map (·.1)).map fun i=>(i,none)} v w':=by
 have kpre:(Zdd L).map (·.1)=L.map (·.1):=by simp [Zdd]
 have hbo:∀i,(L.map (·.1)).contains i=(Zac (Zdd L) i).isSome:=fun i=>by rw [Zbv,kpre]
 have hsplit:∀i,Zac (Zdd L++C) i≠none→Zac (Zdd L) i≠none∨Zac C i≠none:=fun i h=>by
  rw [Zay] at h
  cases e:Zac (Zdd L) i with
  |none=>rw [e] at h;exact .inr h
  |some o=>exact .inl (by simp)
 have hln:∀i,Zac (Zdd L) i≠none→Zac (Zdd L++C) i≠none:=fun i h=>by
  rw [Zay]
  cases e:Zac (Zdd L) i with
  |none=>exact absurd e h
  |some o=>simp
 have hcn0:∀i,Zac C i≠none→B.bo i=false∧Zac (Zdd L) i=none∧Zac G i=none:=fun i h=>by
  have hk:=Zeb h
  rw [Zbv,List.contains_iff_mem] at hk
  refine ⟨hBo i hk,?_⟩
  obtain ⟨p,hp,rfl⟩:=List.mem_map.1 hk
  have:=List.all_eq_true.1 hC p hp
  simp only [Bool.and_eq_true,Bool.not_eq_true'] at this
  constructor
  ·cases e:Zac (Zdd L) p.1 with
   |none=>rfl
   |some o=>have h2:=hbo p.1;rw [this.1,e] at h2;cases h2
  ·cases e:Zac G p.1 with
   |none=>rfl
   |some o=>have h2:=Zbv (A:=G) (i:=p.1);rw [this.2,e] at h2;cases h2
 have hcl:∀i,Zac C i≠none→Zac (Zdd L++C) i≠none:=fun i h=>by
  rw [Zay,(hcn0 i h).2.1];exact h
 have hpre:∀i o,Zac (Zdd L++C) i=some o→∃o1,ob i=some o1∧(o1=o∨Zed Zdl true o1 o)∧Zai false o:=fun i o h=>by
  rw [Zay] at h
  cases e:Zac (Zdd L) i with
  |some o'=>
   rw [e] at h;cases h
   obtain ⟨o1,h1,h2⟩:=Zkk hl e
   exact ⟨o1,hsub i o1 h1,h2⟩
  |none=>
   rw [e] at h
   obtain ⟨o1,h1,h2⟩:=Zkk hlc (i:=i) (o:=o) (by rw [Zpu];exact h)
   exact ⟨o1,hsub i o1 h1,h2⟩
 have hpn:∀i,Zac (Zdd L++C) i≠none→ob i≠none:=fun i h=>by
  cases e:Zac (Zdd L++C) i with
  |none=>exact absurd e h
  |some o=>obtain ⟨o1,h1,_⟩:=hpre i o e;rw [h1];simp
 have hpp:∀i,Zac (Zax L) i≠none↔Zac (Zdd L) i≠none:=fun i=>by
  have:=Znh (L:=L) (i:=i)
  cases h1:Zac (Zdd L) i<;>cases h2:Zac (Zax L) i<;>simp [h1,h2] at this⊢
 have hgn:∀i,Zac G i≠none→Zes B ob i:=fun i h=>hn i (by have:=Zeb h;rw [Zbv] at this;simpa using this)
 have hgl:∀i,Zac G i≠none→Zac (Zdd L) i=none:=fun i h=>by
  cases e:Zac (Zdd L) i with
  |none=>rfl
  |some o=>exact absurd (hgn i h).1 (hpn i (hln i (by rw [e];simp)))
 have hall:∀i,Zac (Zax L++G) i≠none→Zac (Zdd L) i≠none∨Zac G i≠none:=fun i h=>by
  rw [Zay] at h
  cases e:Zac (Zax L) i with
  |none=>rw [e] at h;exact .inr h
  |some o=>exact .inl ((hpp i).1 (by rw [e];simp))
 have hallL:∀i,Zac (Zdd L) i≠none→Zac (Zax L++G) i≠none:=fun i h=>by
  rw [Zay]
  cases e:Zac (Zax L) i with
  |none=>exact absurd e ((hpp i).2 h)
  |some o=>simp
 have hg2:∀i,Zac G i≠none→Zac (Zax L++G) i≠none:=fun i h=>by
  rw [Zay]
  cases e:Zac (Zax L) i with
  |none=>exact h
  |some o=>simp
 obtain ⟨B1,hB1⟩:∃B1:Base,B1=⟨w,fun i=>(L.map (·.1)).contains i,κ,fun b=>SS B κ ob w false b,fun b=>∃i,Zac C i≠none∧Blk (κ i) b⟩:=⟨_,rfl⟩
 have b1w:B1.w0=w:=by rw [hB1]
 have b1o:∀i,B1.bo i=(L.map (·.1)).contains i:=fun i=>by rw [hB1]
 have b1k:B1.κ0=κ:=by rw [hB1]
 have b1A:∀b,B1.A b↔SS B κ ob w false b:=fun b=>by rw [hB1]
 have b1F:∀b,B1.F b↔∃i,Zac C i≠none∧Blk (κ i) b:=fun b=>by rw [hB1]
 -- what may be written is some object's
 have hMo:∀k,B1.M k→∃i,Zac (Zdd L++C) i≠none∧Blk (κ i) k:=fun k h=>by
  rcases h with ⟨i,hi,hbk⟩|h
  ·rw [b1o,hbo] at hi;rw [b1k] at hbk;exact ⟨i,hln i (Zcg hi),hbk⟩
  ·obtain ⟨i,hi,hbk⟩:=(b1F k).1 h;exact ⟨i,hcl i hi,hbk⟩
 have hMM:∀k,k<B.w0.heap.size→¬ B.M k→¬ B1.M k:=fun k h1 h2 h3=>by
  obtain ⟨i,hi,hbk⟩:=hMo k h3
  rcases (hm.ownb i k (hpn i hi) hbk).2 with (h|h)|h
  ·omega
  ·exact h2 (.inr h)
  ·exact h2 (.inl ⟨i,h,by rw [←hm.lent i h];exact hbk⟩)
 have hNN:∀b,B1.N b→B.N b:=fun b h=>by
  rcases h with h|h
  ·rw [b1w] at h;exact .inl (Nat.le_trans hm.kept.size h)
  ·obtain ⟨i,hi,hbk⟩:=(b1F b).1 h
   rcases (hm.ownb i b (hpn i (hcl i hi)) hbk).2 with h|h
   ·exact h
   ·rw [(hcn0 i hi).1] at h;cases h
 have hS1:∀t b,SS B κ ob w t b→b<w.heap.size∧B1.A b∧∀i,Zac (Zdd L++C) i≠none→¬ Blk (κ i) b:=fun t b h=>⟨h.1,(b1A b).2 (h.fr (fun e=>by cases e)),fun i hi=>h.2.2 i (hpn i hi)⟩
 have hms:MS B1 κ (Zac (Zdd L++C)) w:=by
  refine ⟨by rw [b1w];exact Kept.refl _ _,fun i o h=> ?_,fun i b h hbk=>⟨(hm.ownb i b (hpn i h) hbk).1,?_⟩,fun i j b hi hj=>hm.inj i j b (hpn i hi) (hpn j hj),fun i _=>by rw [b1k],fun w' hk=> ?_⟩
  ·obtain ⟨o1,h1,h2,h3⟩:=hpre i o h
   have h4:ObRel κ w (SS B κ ob w) o (κ i):=by
    rcases h2 with rfl|h2
    ·exact hm.obj i _ h1
    ·exact (hm.obj i _ h1).le hm (obr:=Zdl) (fun _ _ h=>by cases h) (fun _ _ h=>h) (fun _ _ _ h=>by cases h) h2
   exact h4.retagO (t:=false) (fun b hb=>⟨hb.1,⟨fun h=>(by cases h),fun _=>(b1A b).2 hb⟩,fun j hj=>hb.2.2 j (hpn j hj)⟩) h3
  ·rcases hsplit i h with h|h
   ·right;rw [b1o,hbo];exact Zeb h
   ·exact .inl (.inr ((b1F b).2 ⟨i,h,hbk⟩))
  ·rw [b1w] at hk
   exact hm.glob w' (hm.kept.heap hk.os hk.tape hk.output hk.size fun k hk1 hk2=>hk.block k (Nat.lt_of_lt_of_le hk1 hm.kept.size) (hMM k hk1 hk2))
 have hcall:=hcon B1 vals b1o (by rw [b1w,b1k];exact hms) (by rw [b1w,b1k];exact Zdw hm (obr:=Zdl) (fun i o h=>by cases h) hS1 (fun i o b hi=>by cases hi) _ _ _ hr hle)
 rw [b1w] at hcall
 refine hcall.mono fun e w' ⟨v,κ',he,hm',hv⟩=>⟨v,he,?_⟩
 have hk:=hm'.kept
 rw [b1w] at hk
 have hsz:w.heap.size≤w'.heap.size:=hk.size
 have hκ:∀i,Zac (Zdd L) i≠none→κ' i=κ i:=fun i hi=>by
  have:=hm'.lent i (by rw [b1o,hbo];exact Zeb hi)
  rw [b1k] at this;exact this
 have hnm:∀b,(∀i,ob i≠none→¬ Blk (κ i) b)→b<w.heap.size→w'.heap[b]? =w.heap[b]? :=fun b h hlt=>hk.block b hlt fun hq_=>by
  obtain ⟨i,hi,hbk⟩:=hMo b hq_
  exact h i (hpn i hi) hbk
 obtain ⟨κ2,hκ2⟩:∃κ2:Nat→Value,∀i,κ2 i=if (Zac G i).isSome then κ' i else κ i:=⟨_,fun _=>rfl⟩
 have k1:∀i,ob i≠none→κ2 i=κ i:=fun i h=>by
  rw [hκ2,if_neg]
  intro e
  exact h (hgn i (Zcg e)).1
 have k2:∀i,Zac (Zax L++G) i≠none→κ2 i=κ' i:=fun i h=>by
  rcases hall i h with h|h
  ·rw [k1 i (hpn i (hln i h)),hκ i h]
  ·rw [hκ2,if_pos (Zeb h)]
 have hgb:∀i b,Zac G i≠none→Blk (κ2 i) b→B1.N b∧b<w'.heap.size:=fun i b h hbk=>by
  rw [k2 i (hg2 i h)] at hbk
  have:=hm'.ownb i b (hg2 i h) hbk
  refine ⟨?_,this.1⟩
  rcases this.2 with e|e
  ·exact e
  ·rw [b1o,hbo] at e;exact absurd (hgl i h) (Zcg e)
 have hK:∀i,i∈C.map (·.1)↔Zac C i≠none:=fun i=>by
  rw [←List.contains_iff_mem,←Zbv]
  exact ⟨fun h=>Zcg h,fun h=>Zeb h⟩
 have appO_app0:Zce ob (wrL L G++(C.map (·.1)).map fun i=>(i,none))=Zce (obK ob (C.map (·.1))) (wrL L G):=by rw [Zjv,Zjw]
 obtain ⟨ob1,hob1⟩:∃ob1,ob1=obK ob (C.map (·.1)):=⟨_,rfl⟩
 have ob1s:∀i o,ob1 i=some o→ob i=some o∧Zac C i=none:=fun i o h=>by
  rw [hob1] at h
  have:=Zgj h
  refine ⟨this.1,Classical.byContradiction fun q=>this.2 ((hK i).2 q)⟩
 have happ:∀i,Zce ob1 (wrL L G) i≠none→(ob i≠none∧Zac C i=none)∨Zac G i≠none:=fun i h=>by
  rw [wrL,Zia] at h
  cases e:Zac (Zax L++G) i with
  |none=>
   rw [e] at h
   cases e2:ob1 i with
   |none=>exact absurd e2 h
   |some o=>have:=ob1s i o e2;exact .inl ⟨by rw [this.1];simp,this.2⟩
  |some o=>
   rcases hall i (by rw [e];simp) with h'|h'
   ·refine .inl ⟨hpn i (hln i h'),Classical.byContradiction fun q=>h' (hcn0 i q).2.1⟩
   ·exact .inr h'
 have hob:∀i b,ob i≠none→Blk (κ2 i) b→b<w.heap.size:=fun i b h hbk=>by rw [k1 i h] at hbk;exact (hm.ownb i b h hbk).1
 -- a block of the call's own is none of an object that stays
 have hNo:∀i b,ob i≠none→Zac C i=none→Blk (κ i) b→¬ B1.N b:=fun i b h1 h2 h3 h4=>by
  rcases h4 with h4|h4
  ·rw [b1w] at h4;have:=(hm.ownb i b h1 h3).1;omega
  ·obtain ⟨j,hj,hjb⟩:=(b1F b).1 h4
   have:=hm.inj i j b h1 (hpn j (hcl j hj)) h3 hjb
   subst this
   exact hj h2
 have hS2:∀t b,SS B1 κ' (Zac (Zax L++G)) w' t b→SS B κ2 (Zce ob1 (wrL L G)) w' t b:=fun t b h=>by
  refine ⟨h.1,⟨fun ht=>hNN b (h.2.1.1 ht),fun hlt=> ?_⟩,fun i hi hbk=> ?_⟩
  ·exact ((b1A b).1 (h.2.1.2 fun q=>hlt (hNN b q))).2.1.2 hlt
  ·rcases happ i hi with ⟨h1,h1c⟩|h1
   ·rw [k1 i h1] at hbk
    exact ((b1A b).1 (h.2.1.2 (hNo i b h1 h1c hbk))).2.2 i h1 hbk
   ·rw [k2 i (hg2 i h1)] at hbk
    exact h.2.2 i (hg2 i h1) hbk
 have hS3:∀t b,SS B κ ob w t b→w'.heap[b]? =w.heap[b]? ∧SS B κ2 (Zce ob1 (wrL L G)) w' t b:=fun t b h=>⟨hnm b h.2.2 h.1,Nat.lt_of_lt_of_le h.1 hsz,h.2.1,fun i hi hbk=>by
  rcases happ i hi with ⟨h1,_⟩|h1
  ·rw [k1 i h1] at hbk;exact h.2.2 i h1 hbk
  ·rcases (hgb i b h1 hbk).1 with q|q
   ·rw [b1w] at q;have:=h.1;omega
   ·obtain ⟨j,hj,hjb⟩:=(b1F b).1 q
    exact h.2.2 j (hpn j (hcl j hj)) hjb⟩
 refine ⟨κ2,fun i hi=> ?_,⟨hm.kept.heap hk.os hk.tape hk.output hsz fun k hk1 hk2=>hk.block k (Nat.lt_of_lt_of_le hk1 hm.kept.size) (hMM k hk1 hk2),fun i o ho=> ?_,fun i b hi hbk=> ?_,fun i j b hi hj hbi hbj=> ?_,fun i hi=> ?_,hm.glob⟩,?_,?_⟩
 ·rw [hκ2,if_neg]
  intro e
  rw [Zbv] at e
  exact hi (by simpa using e)
 ·rw [appO_app0,←hob1] at ho⊢
  rw [wrL,Zia] at ho
  cases e:Zac (Zax L++G) i with
  |some o'=>
   rw [e] at ho
   cases ho
   rw [k2 i (by rw [e];simp)]
   refine (hm'.obj i _ e).keep (fun _ _=>rfl) (fun t b hb=>⟨rfl,hS2 t b hb⟩) fun q hq=>k2 q ?_
   rw [Zay] at e
   have hkey:((Zax L++G).map (·.1)).contains q=true:=by
    cases e1:Zac (Zax L) i with
    |some o1=>
     rw [e1] at e;cases e
     exact List.all_eq_true.1 (List.all_eq_true.1 hb (i,o) (Zdg e1)) q hq
    |none=>
     rw [e1] at e
     exact List.all_eq_true.1 (List.all_eq_true.1 hG (i,o) (Zdg e)) q hq
   rw [←Zbv] at hkey
   exact Zcg hkey
  |none=>
   rw [e] at ho
   obtain ⟨ho,hcn⟩:=ob1s i o ho
   have hne:ob i≠none:=by rw [ho];simp
   rw [k1 i hne]
   refine (hm.obj i o ho).keep (fun b hbk=> ?_) hS3 fun q hq=> ?_
   ·exact hk.block b (hm.ownb i b hne hbk).1 fun hq_=>by
     obtain ⟨j,hj,hjb⟩:=hMo b hq_
     have:=hm.inj i j b hne (hpn j hj) hbk hjb
     subst this
     rcases hsplit i hj with h|h
     ·exact hallL i h e
     ·exact h hcn
   ·rw [hκ2,if_neg]
    intro e
    exact (hgn q (Zcg e)).2.2 i o ho hq
 ·rw [appO_app0,←hob1] at hi
  rcases happ i hi with ⟨h1,_⟩|h1
  ·rw [k1 i h1] at hbk
   exact ⟨Nat.lt_of_lt_of_le (hm.ownb i b h1 hbk).1 hsz,(hm.ownb i b h1 hbk).2⟩
  ·have:=hgb i b h1 hbk
   exact ⟨this.2,.inl (hNN b this.1)⟩
 ·rw [appO_app0,←hob1] at hi hj
  rcases happ i hi with ⟨h1,c1⟩|h1<;>rcases happ j hj with ⟨h2,c2⟩|h2
  ·rw [k1 i h1] at hbi;rw [k1 j h2] at hbj;exact hm.inj i j b h1 h2 hbi hbj
  ·rw [k1 i h1] at hbi;exact absurd (hgb j b h2 hbj).1 (hNo i b h1 c1 hbi)
  ·rw [k1 j h2] at hbj;exact absurd (hgb i b h1 hbi).1 (hNo j b h2 c2 hbj)
  ·rw [k2 i (hg2 i h1)] at hbi;rw [k2 j (hg2 j h2)] at hbj
   exact hm'.inj i j b (hg2 i h1) (hg2 j h2) hbi hbj
 ·rw [hκ2,if_neg]
  ·exact hm.lent i hi
  ·intro e
   have:=(hgn i (Zcg e)).2.1
   rw [hi] at this;cases this
 ·rw [appO_app0,←hob1]
  refine hv.keep (fun t b h=>⟨rfl,hS2 t b ⟨h.1,⟨fun ht=>h.2.1.1 (by simp [ht]),h.2.1.2⟩,h.2.2⟩⟩) fun i hi=>k2 i ?_
  have:=List.all_eq_true.1 hres i hi
  rw [←Zbv] at this
  exact Zcg this
 ·rw [appO_app0,←hob1];exact hS3
def Zwi (P:Program) (lent:List Nat) (an:Ans) (ob:Nat→Option Ob) (f:AV) (args:List AV):Option Out:=
 match an,f with
 | .call args' fr res,.fn id caps=>(let A:=Zwj (args++caps) args'
   bif Zbq P id&&(AV.idsL (A.map (·.2))).isEmpty&&(AV.ids res).isEmpty then
   some {r:=res,c:=some (Conj (Con P id (A.map (·.2)) fr res::Zex (bif fr then ob else Zdl) true (args++caps) args'))} else none)
 | .lend L G args' fr res,.fn id caps=>bif Zbq P id&&Zsr L&&(G.all (fun p=>(Ob.ids p.2).all (fun i=>((Zax L++G).map (·.1)).contains i))&&(AV.ids res).all (fun i=>((Zax L++G).map (·.1)).contains i)) then
   (let K:=Zcr lent (L.map (·.1)) (args++caps)
   some {r:=res,wr:=wrL L G++K.map fun i=>(i,none),c:=some (Conj (Zao P id ((Zwj ((args++caps).map (frzA ob K)) args').map (·.2)) (Zac (Zdd L)) fr res (Zac (Zax L++G))::(Zex Zdl true ((args++caps).map (frzA ob K)) args'++Zdh (obK ob K) L)))}) else none
 | .lendT L G args' fr res,.fn id caps=>bif Zbq P id&&Zvz L&&(G.all (fun p=>(Ob.ids p.2).all (fun i=>((Zax L++G).map (·.1)).contains i))&&(AV.ids res).all (fun i=>((Zax L++G).map (·.1)).contains i)) then
   some {r:=res,wr:=wrL L G,c:=some (Conj (Zao P id ((Zwj (args++caps) args').map (·.2)) (Zac (Zdd L)) fr res (Zac (Zax L++G))::Zps (Zax L++G)::Zah true res::(Zex (obX ob L) true (args++caps) args'++Zdh ob L)))} else none
 | .lendc L C G args' fr res,.fn id caps=>bif Zbq P id&&(C.all (fun p=> !(lent.contains p.1))&&(C.all (fun p=> !((L.map (·.1)).contains p.1)&& !((G.map (·.1)).contains p.1))&&((Zax L).all (fun p=>(Ob.ids p.2).all (fun i=>((Zax L++G).map (·.1)).contains i))&&(G.all (fun p=>(Ob.ids p.2).all (fun i=>((Zax L++G).map (·.1)).contains i))&&(AV.ids res).all (fun i=>((Zax L++G).map (·.1)).contains i))))) then
   (let K:=Zcr lent (L.map (·.1)++C.map (·.1)) (args++caps)
   some {r:=res,wr:=wrL L G++(C.map (·.1)).map (fun i=>(i,none))++K.map fun i=>(i,none),c:=some (Conj (CallC P id (L.map (·.1)) ((Zwj ((args++caps).map (frzA ob K)) args').map (·.2)) (Zac (Zdd L++C)) fr res (Zac (Zax L++G))::(Zex Zdl true ((args++caps).map (frzA ob K)) args'++(Zdh (obK ob K) L++Zdh (obK ob K) (selfL C)))))}) else none
 | .mov i j n m f g a b,.fn id caps=>bif Zbq P id&& !(lent.contains i)&&caps.isEmpty then
   match ob i with
   |some o=>some {r:= .arr j,wr:=[(j,some (.arr 1 m g)),(i,none)],c:=some (args=[.arr i,.val (.int .i64 a),.val (.int .i64 b)]∧o= .arr 1 n f∧MovOK P id n m f g a b)}
   |none=>none
  else none
 | .srw i o N f g n,.fn id caps=>bif Zbq P id&&caps.isEmpty then
   match ob i with
   |some o1=>some {r:= .tup [],wr:=[(i,some (.arr 1 N g))],c:=some (args=[.win i o n]∧o1= .arr 1 N f∧SrwOK P id o N f g n)}
   |none=>none
  else none
 | .movc i j kc n m f g vs,.fn id caps=>bif Zbq P id&& !(lent.contains i)&&caps.isEmpty then
   match ob i with
   |some o=>some {r:= .arr j,wr:=[(j,some (.arr kc m g)),(i,none)],c:=some (args= .arr i::vs.map .val∧o= .arr kc n f∧MvcOK P id kc n m f g vs)}
   |none=>none
  else none
 | .bw i j j' x r' s,.fn id caps=>bif Zbq P id&&(!(lent.contains i)&& !(lent.contains j))&&caps.isEmpty then
   match ob i,ob j with
   |some (.bld e q),some (.buf eb r t)=>bif Nat.beq q j then some {r:= .any,wr:=[(j',some (.buf eb r' (t++s))),(i,some (.bld e j')),(j,none)],c:=some (args=[.ref i 0,.val x]∧Zuu P id e eb x r t r' s)} else none
   |_,_=>none
  else none
 | .bs i j,.fn id caps=>bif Zbq P id&&(!(lent.contains i)&& !(lent.contains j))&&caps.isEmpty then
   match ob i,ob j with
   |some (.bld e q),some (.buf eb r t)=>bif Nat.beq q j then some {r:= .val (.string t),wr:=[(i,none),(j,none)],c:=some (args=[.ref i 0]∧BsOK P id e eb)} else none
   |_,_=>none
  else none
 |_,_=>none
def ownA (lent:List Nat):AV→Bool
 | .arr i=> !(lent.contains i)
 |_=>true
def Zmg (P:Program) (lent:List Nat) (b:Builtin) (ts:Array TypeId) (an:Ans) (ob:Nat→Option Ob) (args:List AV):Option Out:=
 match b,ts.toList,args with
 | .len,[t],[x]=>Zwk P t ob x
 | .append,[t,t2],[s,x]=>bif ownA lent s then Zkl P t t2 an ob s x else none
 | .max,_,xs=>Zim true xs
 | .min,_,xs=>Zim false xs
 |_,_,_=>none
def opRun (P:Program) (lent:List Nat) (o:Op) (an:Ans) (ev:Operand→AV) (ob:Nat→Option Ob):Option Out:=
 match o with
 | .move x=>some {r:=ev x}
 | .assign x=>some {r:=ev x}
 | .pick c a b=>Zwg (ev c) (ev a) (ev b)
 | .alloc e=>match an with
  | .newb i j eb=>Zre P e i j eb
  |_=>match Zpv P e with
   |some z=>Zsu an z true
   |none=>none
 | .box _ x=>match Zdx (ev x) with
  |some cs=>Zsu an cs true
  |none=>none
 | .build t parts=>Zni P t (parts.toList.map fun p=>(p.1,ev p.2))
 | .buildSlice t n parts=>Zwl P t an n (parts.toList.map fun p=>(p.1,ev p.2))
 | .load t a=>Zwm P t an ob (ev a)
 | .store t a x=>Znj P t ob (ev a) (ev x)
 | .nilCheck x=>nilOut (ev x)
 | .binOp op t x y _=>binA P op an t (ev x) (ev y)
 | .unOp op _ x=>unA op an (ev x)
 | .convert src dst x=>match Zrc P src dst an (ev x) with
  |some u=>some u
  |none=>Zwn P src dst an ob (ev x)
 | .makeSlice t l c=>Zrf P t an (ev l) (ev c)
 | .slice t x lo hi mx=>match an with
  | .nn=>Zrg P t ob (ev x) (lo.map ev) (hi.map ev) (mx.map ev)
  | .winq=>Zwo P t ob (ev x) (lo.map ev) (hi.map ev) (mx.map ev)
  |_=>Znk P t (ownA lent (ev x)) ob (ev x) (lo.map ev) (hi.map ev) (mx.map ev)
 | .fieldAddr s x f=>Zgy P s (ev x) f
 | .field s x f=>Znl P s (ev x) f
 | .indexAddr t x i=>Zgz P t ob (ev x) (ev i)
 | .index t x i=>Znm P t (ev x) (ev i)
 | .extract x i=>Zmf (ev x) i
 | .makeFunc fn first caps=>match fn with
  | .func f=>bif first.isEmpty then some {r:= .fn f (caps.toList.map ev)} else none
  |_=>none
 | .makeMap _ r=>Zhk (r.map ev) an
 | .lookup t x ix ok=>Zkm P t an ob (ev x) (ev ix) ok
 | .mapUpdate t m k x=>Zkn P t ob (ev m) (ev k) (ev x)
 | .range t x=>Znn P t an (ev x)
 | .next it str=>Zrh an str ob (ev it)
 | .call c=>match c.callee with
  | .value f=>Zwi P lent an ob (ev f) (c.args.toList.map ev)
  | .builtin b=>Zmg P lent b c.argTypes an ob (c.args.toList.map ev)
  |_=>none
 |_=>none
theorem Zec {κ:Nat→Value} {w:World} {S:Bool→Nat→Prop} {ev:Operand→AV} {ρ:Operand→Value} (hev:∀x,Rel κ w S (ev x) (ρ x)) (xs:List Operand):RelL κ w S (xs.map ev) (xs.map ρ):=by
 induction xs with
 |nil=>exact .nil
 |cons x xs ih=>exact .cons (hev x) ih
theorem op_ok {P:Program} {lent:List Nat} {o:Oper} {an:Ans} {ev:Operand→AV} {ρ:Operand→Value} {B:Base} {κ:Nat→Value} {ob obr:Nat→Option Ob} {w:World} {out:Out} (hr:opRun P lent o.op an ev obr=some out) (hc:out.cond)
  (hm:MS B κ ob w) (hsub:∀i o,obr i=some o→ob i=some o) (hB:∀i,B.bo i=lent.contains i) (hn:∀i∈an.news,Zes B ob i) (hev:∀x,Rel κ w (SS B κ ob w) (ev x) (ρ x)):
  Does P o ρ w fun v w'=>Good B κ ob w an.news out v w':=by
 have plain:∀ {v:Value},out.wr=[]→Rel κ w (SS B κ ob w) out.r v→Good B κ ob w an.news out v w:=fun {v} h1 h2=>by
  obtain ⟨r,wr,c⟩:=out
  simp only at h1
  subst h1
  exact Good.pure hm _ h2
 obtain ⟨dst,op,type,pos,after,guard⟩:=o
 cases op<;>simp only [opRun,reduceCtorEq] at hr
 case move x=>cases hr;exact .inl ⟨_,w,rfl,plain rfl (hev x)⟩
 case assign x=>cases hr;exact .inl ⟨_,w,rfl,plain rfl (hev x)⟩
 case pick c a b=>
  have hcv:=hev c
  unfold Zwg at hr
  split at hr
  ·rename_i hb;rw [hb] at hcv;cases hr;exact .inl ⟨_,w,by simp [execOp,hcv.val_of,asBool],plain rfl (hev a)⟩
  ·rename_i hb;rw [hb] at hcv;cases hr;exact .inl ⟨_,w,by simp [execOp,hcv.val_of,asBool],plain rfl (hev b)⟩
  ·cases hr
 case alloc e=>
  split at hr
  ·rename_i i j eb
   obtain ⟨v,w',h1,h2⟩:=Zri (P:=P) hm hn hr
   exact .inl ⟨v,w',by simp [execOp,h1],h2⟩
  ·split at hr
   ·rename_i z hz
    obtain ⟨zv,hz1,rfl⟩:=Zha hz
    exact .inl ⟨_,_,by simp [execOp,Instr.alloc,hz1,newVar,newRow],Zsv hm hn e (RelL.vals _) hr⟩
   ·cases hr
 case box e x=>
  split at hr
  ·rename_i cs hcs
   exact .inl ⟨_,_,by simp [execOp,Instr.box,newVar,newRow],Zsv hm hn e (Zel (hev x) hcs) hr⟩
  ·cases hr
 case build t parts=>
  obtain ⟨h1,v,h2,h3⟩:=Zpw (P:=P) hev hr
  exact .inl ⟨v,w,by simp [execOp,h3],plain h1 h2⟩
 case buildSlice t n parts=>
  obtain ⟨v,w',h1,h2⟩:=Ztv (P:=P) hm hn hev hr
  exact .inl ⟨v,w',by simp [execOp,h1],h2⟩
 case load t a=>
  obtain ⟨h1,v,h2,h3⟩:=Ztw (P:=P) hm hsub (hev a) hr hc
  exact .inl ⟨v,w,by simp [execOp,h3],plain h1 h2⟩
 case store t a x=>
  obtain ⟨w',h1,κ',h2,h3⟩:=Zpx (P:=P) hm hsub (hev a) (hev x) hr hc
  exact .inr (.inl ⟨w',by simp [execOp,h1],κ',fun i _=>h2 i (by simp),h3⟩)
 case nilCheck x=>
  have hx:=hev x
  unfold nilOut at hr
  split at hr
  ·rename_i hb
   cases hr
   rw [hb] at hx
   refine .inl ⟨ρ x,w,?_,plain rfl (by rw [hb];exact hx)⟩
   cases hx with
   |tree _ _ h=>generalize hv:ρ x=v at h;cases h;simp [execOp,hv]
  ·rename_i hb
   cases hr
   rw [hb] at hx
   refine .inl ⟨ρ x,w,?_,plain rfl (by rw [hb];exact hx)⟩
   generalize hv:ρ x=v at hx
   cases hx with
   |tree _ _ h=>cases h
   |ref=>simp [execOp,hv]
  ·rename_i hb
   cases hr
   rw [hb] at hx
   refine .inl ⟨ρ x,w,?_,plain rfl (by rw [hb];exact hx)⟩
   generalize hv:ρ x=v at hx
   cases hx with
   |tree _ _ h=>cases h
   |elt=>simp [execOp,hv]
  ·rename_i hb
   cases hr
   rw [hb] at hx
   refine .inl ⟨ρ x,w,?_,plain rfl (by rw [hb];exact hx)⟩
   generalize hv:ρ x=v at hx
   cases hx with
   |tree _ _ h=>cases h
   |relt=>simp [execOp,hv]
  ·cases hr
 case binOp op t x y ty=>
  obtain ⟨h1,v,h2,h3⟩:=run_binA (P:=P) hr hc (hev x) (hev y) x y
  refine .inl ⟨v,w,?_,plain h1 (.tree _ _ h2)⟩
  show (Sem.run P (do pure (Next.value (←(do eqGuard op t x y (ρ x) (ρ y);binOp op t (ρ x) (ρ y):Sem Value)))) w)=_
  rw [Sem.run_bind,h3]
  rfl
 case unOp op t x=>
  obtain ⟨h1,v,h2,h3⟩:=run_unA (P:=P) hr hc (hev x)
  exact .inl ⟨v,w,by simp [execOp,h3],plain h1 (by rw [h2];exact Rel.of_val v)⟩
 case convert src dst x=>
  split at hr
  ·rename_i u hu
   cases hr
   obtain ⟨h1,v,h2,h3⟩:=Zrd (P:=P) hu hc (hev x)
   exact .inl ⟨v,w,by simp [execOp,h3],plain h1 h2⟩
  ·obtain ⟨v,w',h1,h2⟩:=Ztx (P:=P) hm hsub (hev x) hr hc hn
   exact .inl ⟨v,w',by simp [execOp,h1],h2⟩
 case makeMap t r=>
  obtain ⟨v,w',h1,h2⟩:=Zlr (P:=P) (t:=t) (ρ:=ρ) hr hm hn
  exact .inl ⟨v,w',by simp [execOp,h1],h2⟩
 case lookup t x ix ok=>
  obtain ⟨h1,v,h2,h3⟩:=Zno (P:=P) hr hc hm hsub (hev x) (hev ix)
  exact .inl ⟨v,w,by simp [execOp,h2],plain h1 h3⟩
 case mapUpdate t m k x=>
  obtain ⟨w',h1,h2⟩:=Znp (P:=P) hr hc hm hsub (hev m) (hev k) (hev x) an.news
  exact .inr (.inl ⟨w',by simp [execOp,h1],h2⟩)
 case range t x=>
  obtain ⟨v,w',h1,h2⟩:=Zpy (P:=P) hr hm hn (hev x)
  exact .inl ⟨v,w',by simp [execOp,h1],h2⟩
 case next it str=>
  obtain ⟨v,w',h1,h2⟩:=Zrj (P:=P) (ty:=type) hr hc hm hsub (hev it) an.news
  exact .inl ⟨v,w',by simp [execOp,h1],h2⟩
 case makeSlice t l c=>
  obtain ⟨v,w',h1,h2⟩:=Zrk (P:=P) hm hn (hev l) (hev c) hr hc
  exact .inl ⟨v,w',by simp [execOp,h1],h2⟩
 case slice t x lo hi mx=>
  have hopt:∀(z:Option Operand) (a:AV),z.map ev=some a→∃v,z.map ρ=some v∧Rel κ w (SS B κ ob w) a v:=fun z a h=>by
   cases z with
   |none=>cases h
   |some z=>cases h;exact ⟨_,rfl,hev z⟩
  have hopt0:∀(z:Option Operand),z.map ev=none→z.map ρ=none:=fun z h=>by cases z<;>first|rfl|cases h
  split at hr
  ·obtain ⟨v,h1,h2⟩:=Zrl (P:=P) hm hsub (hev x) (hopt lo) (hopt0 lo) (hopt hi) (hopt0 hi) (hopt0 mx) hr hc []
   exact .inl ⟨v,w,by simp [execOp,h1],h2⟩
  ·obtain ⟨v,h1,h2⟩:=Zty (P:=P) hm hsub (hev x) (hopt lo) (hopt0 lo) (hopt hi) (hopt0 hi) (hopt0 mx) hr hc []
   exact .inl ⟨v,w,by simp [execOp,h1],h2⟩
  ·obtain ⟨v,h1,h2⟩:=Zpz (P:=P) hm hsub (fun h j e=>by rw [hB];rw [e] at h;simpa [ownA] using h) (hev x) (hopt lo) (hopt0 lo) (hopt hi) (hopt0 hi) (hopt mx) (hopt0 mx) hr hc an.news
   exact .inl ⟨v,w,by simp [execOp,h1],h2⟩
 case fieldAddr s x f=>
  obtain ⟨h1,v,h2,h3⟩:=Zjo (P:=P) (hev x) hr
  exact .inl ⟨v,w,by simp [execOp,h3],plain h1 h2⟩
 case field s x f=>
  obtain ⟨h1,v,h2,h3⟩:=Zqa (P:=P) (hev x) hr
  exact .inl ⟨v,w,by simp [execOp,h3],plain h1 h2⟩
 case indexAddr t x i=>
  obtain ⟨h1,v,h2,h3⟩:=Zjp (P:=P) hm hsub (hev x) (hev i) hr hc
  exact .inl ⟨v,w,by simp [execOp,h3],plain h1 h2⟩
 case index t x i=>
  obtain ⟨h1,v,h2,h3⟩:=Zqb (P:=P) (hev x) (hev i) hr hc
  exact .inl ⟨v,w,by simp [execOp,h3],plain h1 h2⟩
 case extract x i=>
  have hx:=hev x
  unfold Zmf at hr
  split at hr
  ·rename_i cs hb
   split at hr
   ·rename_i a ha
    cases hr
    rw [hb] at hx
    obtain ⟨vs,hv,hrel⟩:=hx.tup_of
    obtain ⟨v,h1,h2⟩:=hrel.at_ ha
    rw [Array.getElem?_toList] at h1
    exact .inl ⟨v,w,by simp [execOp,Instr.extract,hv,h1],plain rfl h2⟩
   ·cases hr
  ·cases hr
 case makeFunc fn first caps=>
  split at hr
  ·rename_i f
   cases hb:first.isEmpty with
   |false=>simp [hb] at hr
   |true=>
    simp only [hb,cond_true,Option.some.injEq] at hr
    subst hr
    have he:first=#[]:=by simpa using hb
    refine .inl ⟨.func (.func f) #[] (caps.map ρ),w,by simp [execOp,Instr.makeFunc,he],plain rfl ?_⟩
    have:=Zec hev caps.toList
    exact .fn f _ _ (by simp) fun i a v ha hv=>this.2 i a v ha (by simpa using hv)
  ·cases hr
 case call c=>
  obtain ⟨callee,args,ts⟩:=c
  cases callee<;>simp only [reduceCtorEq] at hr
  case value f=>
   have hf:=hev f
   unfold Zwi at hr
   split at hr
   ·rename_i args' fr res id caps hb
    rw [hb] at hf
    obtain ⟨vs,hv,hrel⟩:=hf.fn_of
    obtain ⟨A,hA⟩:∃A,A=Zwj (args.toList.map ev++caps) args':=⟨_,rfl⟩
    simp only [←hA] at hr
    cases hbb:(Zbq P id&&(AV.idsL (A.map (·.2))).isEmpty&&(AV.ids res).isEmpty) with
    |false=>simp [hbb] at hr
    |true=>
     simp only [hbb,cond_true,Option.some.injEq] at hr
     subst hr
     simp only [Bool.and_eq_true,List.isEmpty_iff] at hbb
     obtain ⟨⟨b1,b2⟩,b3⟩:=hbb
     have hca:=Conj.all hc
     have c1:=hca _ List.mem_cons_self
     have c2:=Zfd (fun p hp=>hca p (List.mem_cons_of_mem _ hp))
     rw [←hA] at c2
     refine .inr (.inr ⟨id,args.map ρ++vs,w,?_,?_⟩)
     ·unfold Zbq at b1
      split at b1
      ·rename_i fn hfn
       simp only [Bool.and_eq_true,Bool.not_eq_true'] at b1
       obtain ⟨d1,d2⟩:=b1
       have d1':fn.body≠none:=by intro hbd;rw [hbd] at d1;cases d1
       have d2':¬ fn.name= "runtime.NumGoroutine" :=by simpa using d2
       simp [execOp,resolve,hv,Deferred.ofValue,invoke,callFunc,hfn,d1',d2']
      ·cases b1
     ·have:=con_use (news:=(Ans.call args' fr res).news) c1 b2 b3 hm hsub ((Zec hev args.toList).append hrel) c2
      have e:(args.toList.map ρ++vs.toList).toArray=args.map ρ++vs:=by apply Array.ext';simp
      rw [e] at this
      exact this
   ·rename_i L G args' fr res id caps hb
    rw [hb] at hf
    obtain ⟨vs,hv,hrel⟩:=hf.fn_of
    cases hbb:(Zbq P id&&Zsr L&&(G.all (fun p=>(Ob.ids p.2).all (fun i=>((Zax L++G).map (·.1)).contains i))&&(AV.ids res).all (fun i=>((Zax L++G).map (·.1)).contains i))) with
    |false=>rw [hbb] at hr;cases hr
    |true=>
     rw [hbb] at hr
     simp only [cond_true,Option.some.injEq] at hr
     subst hr
     simp only [Bool.and_eq_true] at hbb
     obtain ⟨⟨b1,b2⟩,b3⟩:=hbb
     have hca:=Conj.all hc
     have c1:=hca _ List.mem_cons_self
     have c2:=fun p hp=>hca p (List.mem_cons_of_mem _ hp)
     refine .inr (.inr ⟨id,args.map ρ++vs,w,?_,?_⟩)
     ·unfold Zbq at b1
      split at b1
      ·rename_i fn hfn
       simp only [Bool.and_eq_true,Bool.not_eq_true'] at b1
       obtain ⟨d1,d2⟩:=b1
       have d1':fn.body≠none:=by intro hbd;rw [hbd] at d1;cases d1
       have d2':¬ fn.name= "runtime.NumGoroutine" :=by simpa using d2
       simp [execOp,resolve,hv,Deferred.ofValue,invoke,callFunc,hfn,d1',d2']
      ·cases b1
     ·obtain ⟨K,hK⟩:∃K,K=Zcr lent (L.map (·.1)) (args.toList.map ev++caps):=⟨_,rfl⟩
      rw [←hK] at c1 c2
      obtain ⟨m1,m2,m3⟩:=hm.freezeK (K:=K) (fun i hi=>by rw [hB];exact (Zeu (hK▸hi)).1)
      have:=lend_use (obr:=obK obr K) c1 b2 b3.1 b3.2 m1 (fun i hi=>⟨by unfold obK;rw [(hn i hi).1];cases K.contains i<;>rfl,(hn i hi).2.1,fun j o ho=>(hn i hi).2.2 j o (Zgj ho).1⟩)
       (fun i o h=>by
        have h':=Zgj h
        unfold obK
        have hc':K.contains i=false:=by simpa using h'.2
        rw [hc'];exact hsub i o h'.1) (Zst hsub m2 m3 ((Zec hev args.toList).append hrel)) (Zfd (fun p hp=>c2 p (List.mem_append_left _ hp))) (fun p hp=>c2 p (List.mem_append_right _ hp))
      have e:(args.toList.map ρ++vs.toList).toArray=args.map ρ++vs:=by apply Array.ext';simp
      rw [e] at this
      have hE:Zce ob (wrL L G++K.map fun i=>(i,none))=Zce (obK ob K) (wrL L G):=by rw [Zjv,Zjw]
      refine this.mono ?_
      rintro e w' ⟨v,he,κ',g1,g2,g3,g4⟩
      refine ⟨v,he,κ',g1,?_,?_,?_⟩
      ·show MS B κ' (Zce ob (wrL L G++(Zcr lent (L.map (·.1)) (args.toList.map ev++caps)).map fun i=>(i,none))) w'
       rw [←hK,hE];exact g2
      ·show Rel κ' w' (SS B κ' (Zce ob (wrL L G++(Zcr lent (L.map (·.1)) (args.toList.map ev++caps)).map fun i=>(i,none))) w') res v
       rw [←hK,hE];exact g3
      ·intro t b hb
       have h1:=m3 t b hb
       have h2:=g4 t b h1.2
       refine ⟨h2.1,?_⟩
       show SS B κ' (Zce ob (wrL L G++(Zcr lent (L.map (·.1)) (args.toList.map ev++caps)).map fun i=>(i,none))) w' t b
       rw [←hK,hE];exact h2.2
   ·rename_i L G args' fr res id caps hb
    rw [hb] at hf
    obtain ⟨vs,hv,hrel⟩:=hf.fn_of
    cases hbb:(Zbq P id&&Zvz L&&(G.all (fun p=>(Ob.ids p.2).all (fun i=>((Zax L++G).map (·.1)).contains i))&&(AV.ids res).all (fun i=>((Zax L++G).map (·.1)).contains i))) with
    |false=>rw [hbb] at hr;cases hr
    |true=>
     rw [hbb] at hr
     simp only [cond_true,Option.some.injEq] at hr
     subst hr
     simp only [Bool.and_eq_true] at hbb
     obtain ⟨⟨b1,b2⟩,b3⟩:=hbb
     have hca:=Conj.all hc
     have c1:=hca _ List.mem_cons_self
     have ct:=hca _ (List.mem_cons_of_mem _ List.mem_cons_self)
     have cr:=hca _ (List.mem_cons_of_mem _ (List.mem_cons_of_mem _ List.mem_cons_self))
     have c2:=fun p hp=>hca p (List.mem_cons_of_mem _ (List.mem_cons_of_mem _ (List.mem_cons_of_mem _ hp)))
     refine .inr (.inr ⟨id,args.map ρ++vs,w,?_,?_⟩)
     ·unfold Zbq at b1
      split at b1
      ·rename_i fn hfn
       simp only [Bool.and_eq_true,Bool.not_eq_true'] at b1
       obtain ⟨d1,d2⟩:=b1
       have d1':fn.body≠none:=by intro hbd;rw [hbd] at d1;cases d1
       have d2':¬ fn.name= "runtime.NumGoroutine" :=by simpa using d2
       simp [execOp,resolve,hv,Deferred.ofValue,invoke,callFunc,hfn,d1',d2']
      ·cases b1
     ·have:=Zwe (obr:=obr) c1 b2 b3.1 ct cr b3.2 hm hn hsub ((Zec hev args.toList).append hrel) (Zfd (fun p hp=>c2 p (List.mem_append_left _ hp))) (fun p hp=>c2 p (List.mem_append_right _ hp))
      have e:(args.toList.map ρ++vs.toList).toArray=args.map ρ++vs:=by apply Array.ext';simp
      rw [e] at this
      exact this
   ·rename_i L C G args' fr res id caps hb
    rw [hb] at hf
    obtain ⟨vs,hv,hrel⟩:=hf.fn_of
    cases hbb:(Zbq P id&&(C.all (fun p=> !(lent.contains p.1))&&(C.all (fun p=> !((L.map (·.1)).contains p.1)&& !((G.map (·.1)).contains p.1))&&((Zax L).all (fun p=>(Ob.ids p.2).all (fun i=>((Zax L++G).map (·.1)).contains i))&&(G.all (fun p=>(Ob.ids p.2).all (fun i=>((Zax L++G).map (·.1)).contains i))&&(AV.ids res).all (fun i=>((Zax L++G).map (·.1)).contains i)))))) with
    |false=>rw [hbb] at hr;cases hr
    |true=>
     rw [hbb] at hr
     simp only [cond_true,Option.some.injEq] at hr
     subst hr
     rw [Bool.and_eq_true,Bool.and_eq_true,Bool.and_eq_true,Bool.and_eq_true,Bool.and_eq_true] at hbb
     obtain ⟨b1,bC1,bC2,b2,b3⟩:=hbb
     have hca:=Conj.all hc
     have c1:=hca _ List.mem_cons_self
     have c2:=fun p hp=>hca p (List.mem_cons_of_mem _ hp)
     refine .inr (.inr ⟨id,args.map ρ++vs,w,?_,?_⟩)
     ·unfold Zbq at b1
      split at b1
      ·rename_i fn hfn
       simp only [Bool.and_eq_true,Bool.not_eq_true'] at b1
       obtain ⟨d1,d2⟩:=b1
       have d1':fn.body≠none:=by intro hbd;rw [hbd] at d1;cases d1
       have d2':¬ fn.name= "runtime.NumGoroutine" :=by simpa using d2
       simp [execOp,resolve,hv,Deferred.ofValue,invoke,callFunc,hfn,d1',d2']
      ·cases b1
     ·obtain ⟨K,hK⟩:∃K,K=Zcr lent (L.map (·.1)++C.map (·.1)) (args.toList.map ev++caps):=⟨_,rfl⟩
      rw [←hK] at c1 c2
      obtain ⟨m1,m2,m3⟩:=hm.freezeK (K:=K) (fun i hi=>by rw [hB];exact (Zeu (hK▸hi)).1)
      have:=Zwh (obr:=obK obr K) c1 b2 b3.1 b3.2 bC2 m1 (fun i hi=>by obtain ⟨p,hp,rfl⟩:=List.mem_map.1 hi;have q:=List.all_eq_true.1 bC1 p hp;rw [hB];simpa using q) (fun i hi=>⟨by unfold obK;rw [(hn i hi).1];cases K.contains i<;>rfl,(hn i hi).2.1,fun j o ho=>(hn i hi).2.2 j o (Zgj ho).1⟩)
       (fun i o h=>by
        have h':=Zgj h
        unfold obK
        have hc':K.contains i=false:=by simpa using h'.2
        rw [hc'];exact hsub i o h'.1) (Zst hsub m2 m3 ((Zec hev args.toList).append hrel)) (Zfd (fun p hp=>c2 p (List.mem_append_left _ hp))) (fun p hp=>c2 p (List.mem_append_right _ (List.mem_append_left _ hp))) (fun p hp=>c2 p (List.mem_append_right _ (List.mem_append_right _ hp)))
      have e:(args.toList.map ρ++vs.toList).toArray=args.map ρ++vs:=by apply Array.ext';simp
      rw [e] at this
      have hE:Zce ob (wrL L G++(C.map (·.1)).map (fun i=>(i,none))++K.map fun i=>(i,none))=Zce (obK ob K) (wrL L G++(C.map (·.1)).map fun i=>(i,none)):=by rw [Zjv,Zjw]
      refine this.mono ?_
      rintro e w' ⟨v,he,κ',g1,g2,g3,g4⟩
      refine ⟨v,he,κ',g1,?_,?_,?_⟩
      ·show MS B κ' (Zce ob (wrL L G++(C.map (·.1)).map (fun i=>(i,none))++(Zcr lent (L.map (·.1)++C.map (·.1)) (args.toList.map ev++caps)).map fun i=>(i,none))) w'
       rw [←hK,hE];exact g2
      ·show Rel κ' w' (SS B κ' (Zce ob (wrL L G++(C.map (·.1)).map (fun i=>(i,none))++(Zcr lent (L.map (·.1)++C.map (·.1)) (args.toList.map ev++caps)).map fun i=>(i,none))) w') res v
       rw [←hK,hE];exact g3
      ·intro t b hb
       have h1:=m3 t b hb
       have h2:=g4 t b h1.2
       refine ⟨h2.1,?_⟩
       show SS B κ' (Zce ob (wrL L G++(C.map (·.1)).map (fun i=>(i,none))++(Zcr lent (L.map (·.1)++C.map (·.1)) (args.toList.map ev++caps)).map fun i=>(i,none))) w' t b
       rw [←hK,hE];exact h2.2
   ·rename_i i j n m f' g' a' b' id caps hb
    rw [hb] at hf
    obtain ⟨vs,hv,hrel⟩:=hf.fn_of
    cases hbb:(Zbq P id&& !(lent.contains i)&&caps.isEmpty) with
    |false=>rw [hbb] at hr;cases hr
    |true=>
     rw [hbb] at hr
     simp only [cond_true] at hr
     simp only [Bool.and_eq_true,Bool.not_eq_true',List.isEmpty_iff] at hbb
     obtain ⟨⟨b1,b2⟩,b3⟩:=hbb
     subst b3
     have hvs:vs=#[]:=by
      have:=hrel.1
      simpa using this.symm
     subst hvs
     split at hr
     ·rename_i o hoi
      simp only [Option.some.injEq] at hr
      subst hr
      obtain ⟨c1,c2,c3⟩:=hc
      subst c2
      refine .inr (.inr ⟨id,args.map ρ++#[],w,?_,?_⟩)
      ·unfold Zbq at b1
       split at b1
       ·rename_i fn hfn
        simp only [Bool.and_eq_true,Bool.not_eq_true'] at b1
        obtain ⟨d1,d2⟩:=b1
        have d1':fn.body≠none:=by intro hbd;rw [hbd] at d1;cases d1
        have d2':¬ fn.name= "runtime.NumGoroutine" :=by simpa using d2
        simp [execOp,resolve,hv,Deferred.ofValue,invoke,callFunc,hfn,d1',d2']
       ·cases b1
      ·have hra:=Zec hev args.toList
       rw [c1] at hra
       have e:args.map ρ++#[]=#[κ i,.int .i64 a',.int .i64 b']:=by
        apply Array.ext'
        rw [Array.append_empty,Array.toList_map]
        have hl:=hra.1
        match hq:args.toList.map ρ,hl,hra with
        | [x,y,z],_,hra=>
         have h0:=(hra.2 0 _ x rfl rfl).arr_of
         have h1:=(hra.2 1 _ y rfl rfl).val_of
         have h2:=(hra.2 2 _ z rfl rfl).val_of
         rw [h0,h1,h2]
       rw [e]
       exact mov_use c3 hm (hsub _ _ hoi) (by rw [hB];exact b2) (hn j (by simp [Ans.news])) _
     ·cases hr
   ·rename_i i o0 N f' g' n id caps hb
    rw [hb] at hf
    obtain ⟨vs,hv,hrel⟩:=hf.fn_of
    cases hbb:(Zbq P id&&caps.isEmpty) with
    |false=>rw [hbb] at hr;cases hr
    |true=>
     rw [hbb] at hr
     simp only [cond_true] at hr
     simp only [Bool.and_eq_true,List.isEmpty_iff] at hbb
     obtain ⟨b1,b3⟩:=hbb
     subst b3
     have hvs:vs=#[]:=by
      have:=hrel.1
      simpa using this.symm
     subst hvs
     split at hr
     ·rename_i o1 hoi
      simp only [Option.some.injEq] at hr
      subst hr
      obtain ⟨c1,c2,c3⟩:=hc
      subst c2
      refine .inr (.inr ⟨id,args.map ρ++#[],w,?_,?_⟩)
      ·unfold Zbq at b1
       split at b1
       ·rename_i fn hfn
        simp only [Bool.and_eq_true,Bool.not_eq_true'] at b1
        obtain ⟨d1,d2⟩:=b1
        have d1':fn.body≠none:=by intro hbd;rw [hbd] at d1;cases d1
        have d2':¬ fn.name= "runtime.NumGoroutine" :=by simpa using d2
        simp [execOp,resolve,hv,Deferred.ofValue,invoke,callFunc,hfn,d1',d2']
       ·cases b1
      ·have hra:=Zec hev args.toList
       rw [c1] at hra
       obtain ⟨x,hx,hxr⟩:∃x,args.map ρ++#[]=#[x]∧Rel κ w (SS B κ ob w) (.win i o0 n) x:=by
        have hl:=hra.1
        match hq:args.toList.map ρ,hl,hra with
        | [x],_,hra=>exact ⟨x,by apply Array.ext';rw [Array.append_empty,Array.toList_map,hq],hra.2 0 _ x rfl rfl⟩
       rw [hx]
       exact srw_use c3 hm (hsub _ _ hoi) hxr _
     ·cases hr
   ·rename_i i j kc n m f' g' xs' id caps hb
    rw [hb] at hf
    obtain ⟨vs,hv,hrel⟩:=hf.fn_of
    cases hbb:(Zbq P id&& !(lent.contains i)&&caps.isEmpty) with
    |false=>rw [hbb] at hr;cases hr
    |true=>
     rw [hbb] at hr
     simp only [cond_true] at hr
     simp only [Bool.and_eq_true,Bool.not_eq_true',List.isEmpty_iff] at hbb
     obtain ⟨⟨b1,b2⟩,b3⟩:=hbb
     subst b3
     have hvs:vs=#[]:=by
      have:=hrel.1
      simpa using this.symm
     subst hvs
     split at hr
     ·rename_i o hoi
      simp only [Option.some.injEq] at hr
      subst hr
      obtain ⟨c1,c2,c3⟩:=hc
      subst c2
      refine .inr (.inr ⟨id,args.map ρ++#[],w,?_,?_⟩)
      ·unfold Zbq at b1
       split at b1
       ·rename_i fn hfn
        simp only [Bool.and_eq_true,Bool.not_eq_true'] at b1
        obtain ⟨d1,d2⟩:=b1
        have d1':fn.body≠none:=by intro hbd;rw [hbd] at d1;cases d1
        have d2':¬ fn.name= "runtime.NumGoroutine" :=by simpa using d2
        simp [execOp,resolve,hv,Deferred.ofValue,invoke,callFunc,hfn,d1',d2']
       ·cases b1
      ·have hra:=Zec hev args.toList
       rw [c1] at hra
       have e:args.map ρ++#[]=(κ i::xs').toArray:=by
        apply Array.ext'
        rw [Array.append_empty,Array.toList_map]
        have hl:=hra.1
        match hq:args.toList.map ρ,hl,hra with
        |y::ys,hl,hra=>
         have h0:=(hra.2 0 _ y rfl rfl).arr_of
         rw [h0]
         have hys:ys=xs':=by
          have hl2:xs'.length=ys.length:=by simpa using hl
          refine List.ext_getElem hl2.symm fun t h1 h2=> ?_
          have:=hra.2 (t+1) (.val xs'[t]) ys[t] (by simp [h2]) (by simp [h1])
          exact this.val_of
         rw [hys]
       rw [e]
       exact mvc_use c3 hm (hsub _ _ hoi) (by rw [hB];exact b2) (hn j (by simp [Ans.news])) _
     ·cases hr
   ·rename_i i j j' xv r' s id caps hb
    rw [hb] at hf
    obtain ⟨vs,hv,hrel⟩:=hf.fn_of
    cases hbb:(Zbq P id&&(!(lent.contains i)&& !(lent.contains j))&&caps.isEmpty) with
    |false=>rw [hbb] at hr;cases hr
    |true=>
     rw [hbb] at hr
     simp only [cond_true] at hr
     simp only [Bool.and_eq_true,Bool.not_eq_true',List.isEmpty_iff] at hbb
     obtain ⟨⟨b1,b2,b2'⟩,b3⟩:=hbb
     subst b3
     have hvs:vs=#[]:=by
      have:=hrel.1
      simpa using this.symm
     subst hvs
     split at hr
     ·rename_i e q eb r t hoi hoj
      cases hq:Nat.beq q j with
      |false=>rw [hq] at hr;cases hr
      |true=>
      rw [hq] at hr
      have hq':=Nat.eq_of_beq_eq_true hq
      subst hq'
      simp only [cond_true,Option.some.injEq] at hr
      subst hr
      obtain ⟨c1,c2⟩:=hc
      refine .inr (.inr ⟨id,args.map ρ++#[],w,Zji b1 hv,?_⟩)
      have hra:=Zec hev args.toList
      rw [c1] at hra
      have e:args.map ρ++#[]=#[κ i,xv]:=by
       apply Array.ext'
       rw [Array.append_empty,Array.toList_map]
       have hl:=hra.1
       match hq:args.toList.map ρ,hl,hra with
       | [x,y],_,hra=>
        have h0:=(hra.2 0 _ x rfl rfl).ref0_of
        have h1:=(hra.2 1 _ y rfl rfl).val_of
        rw [h0,h1]
      rw [e]
      exact bw_use c2 hm (hsub _ _ hoi) (hsub _ _ hoj) (by rw [hB];exact b2) (by rw [hB];exact b2') (hn j' (by simp [Ans.news])) _
     ·cases hr
   ·rename_i i j id caps hb
    rw [hb] at hf
    obtain ⟨vs,hv,hrel⟩:=hf.fn_of
    cases hbb:(Zbq P id&&(!(lent.contains i)&& !(lent.contains j))&&caps.isEmpty) with
    |false=>rw [hbb] at hr;cases hr
    |true=>
     rw [hbb] at hr
     simp only [cond_true] at hr
     simp only [Bool.and_eq_true,Bool.not_eq_true',List.isEmpty_iff] at hbb
     obtain ⟨⟨b1,b2,b2'⟩,b3⟩:=hbb
     subst b3
     have hvs:vs=#[]:=by
      have:=hrel.1
      simpa using this.symm
     subst hvs
     split at hr
     ·rename_i e q eb r t hoi hoj
      cases hq:Nat.beq q j with
      |false=>rw [hq] at hr;cases hr
      |true=>
      rw [hq] at hr
      have hq':=Nat.eq_of_beq_eq_true hq
      subst hq'
      simp only [cond_true,Option.some.injEq] at hr
      subst hr
      obtain ⟨c1,c2⟩:=hc
      refine .inr (.inr ⟨id,args.map ρ++#[],w,Zji b1 hv,?_⟩)
      have hra:=Zec hev args.toList
      rw [c1] at hra
      have e:args.map ρ++#[]=#[κ i]:=by
       apply Array.ext'
       rw [Array.append_empty,Array.toList_map]
       have hl:=hra.1
       match hq:args.toList.map ρ,hl,hra with
       | [x],_,hra=>
        have h0:=(hra.2 0 _ x rfl rfl).ref0_of
        rw [h0]
      rw [e]
      exact bs_use c2 hm (hsub _ _ hoi) (hsub _ _ hoj) (by rw [hB];exact b2') _ _
     ·cases hr
   ·cases hr
  case builtin b=>
   have hargs:=Zec hev args.toList
   unfold Zmg at hr
   obtain ⟨tl⟩:=ts
   obtain ⟨al⟩:=args
   split at hr
   ·rename_i t x h1 h2
    simp only at h1 h2
    subst h1
    obtain ⟨xo,rfl⟩:∃xo,al=[xo]:=by
     cases al with
     |nil=>simp at h2
     |cons a l=>cases l with
      |nil=>exact ⟨a,rfl⟩
      |cons _ _=>simp at h2
    simp at h2
    subst h2
    obtain ⟨e1,v,e2,e3⟩:=Ztz (P:=P) (ty:=type) hm hsub (hev xo) hr hc
    exact .inl ⟨v,w,by simp [execOp,resolve,invoke,builtin,e3],plain e1 e2⟩
   ·rename_i t t2 s x h1 h2
    simp only at h1 h2
    subst h1
    obtain ⟨so,xo,rfl⟩:∃so xo,al=[so,xo]:=by
     cases al with
     |nil=>simp at h2
     |cons a l=>cases l with
      |nil=>simp at h2
      |cons b l=>cases l with
       |nil=>exact ⟨a,b,rfl⟩
       |cons _ _=>simp at h2
    simp at h2
    obtain ⟨rfl,rfl⟩:=h2
    cases hw:ownA lent (ev so) with
    |false=>rw [hw] at hr;cases hr
    |true=>
    rw [hw] at hr
    simp only [cond_true] at hr
    obtain ⟨v,w',e1,e2⟩:=Znq (P:=P) (ty:=type) hm hsub hn (fun j e=>by rw [hB];rw [e] at hw;simpa [ownA] using hw) (hev so) (hev xo) hr hc
    exact .inl ⟨v,w',by simp [execOp,resolve,invoke,builtin,e1],e2⟩
   ·obtain ⟨e1,v,e2,e3⟩:=Zin (P:=P) (w:=w) (mx:=true) (vs:=(al.map ρ).toArray) hr (by simpa using hargs) tl.toArray type
    simp only [cond_true] at e3
    exact .inl ⟨v,w,by simp [execOp,resolve,invoke,builtin,e3],plain e1 e2⟩
   ·obtain ⟨e1,v,e2,e3⟩:=Zin (P:=P) (w:=w) (mx:=false) (vs:=(al.map ρ).toArray) hr (by simpa using hargs) tl.toArray type
    simp only [cond_false] at e3
    exact .inl ⟨v,w,by simp [execOp,resolve,invoke,builtin,e3],plain e1 e2⟩
   ·cases hr
end Go.Proofs.YtnlfghpgfjlblaaDoor.Ax
