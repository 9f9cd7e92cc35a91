/- The abstract run: when a state's value serves for a wanted one; cutting slices; conversions; calls. Plain lemmas on the model. No conditions. -/
import Derived.Test.YtnlfghpgfjlblaaDoorAxG
namespace Go.Proofs.YtnlfghpgfjlblaaDoor.Ax
open Go.RowKit
set_option linter.unusedVariables false
set_option linter.unusedSimpArgs false
mutual
def le (ob:Nat→Option Ob) (fv:Bool):AV→AV→Prop
 |_,.any=>True
 |x,.val v'=>match x with
  | .val v=>v=v'
  |_=>False
 |x,.agg cs'=>match x with
  | .agg cs=>leL ob fv cs cs'
  |_=>False
 |x,.tup cs'=>match x with
  | .tup cs=>leL ob fv cs cs'
  |_=>False
 |x,.fn f' cs'=>match x with
  | .fn f cs=>f=f'∧leL ob fv cs cs'
  | .val v=>cs'=[]∧v= .func (.func f') #[] #[]
  |_=>False
 |x,.e0=>match x with
  | .e0=>True
  | .val v=>v= .slice none 0 0
  |_=>False
 |x,.sl fr' sz' n' f'=>match x with
  | .sl fr sz n f=>(fr'=true→fr=true)∧sz=sz'∧n=n'∧∀i,i<n'→f i=f' i∨(AV.idsL (f' i)=[]∧leL (fun _=>none) false (f i) (f' i))
  | .e0=>n'=0
  | .val v=>n'=0∧v= .slice none 0 0
  | .arr i=>match ob i with
   |some (.arr sz n f)=>(fr'=true→fv=true)∧sz=sz'∧n=n'∧∀i,i<n'→f i=f' i∨(AV.idsL (f' i)=[]∧leL (fun _=>none) false (f i) (f' i))
   |some (.oar _ sz n f)=>(fr'=true→fv=true)∧sz=sz'∧n=n'∧∀i,i<n'→AV.idsL (f' i)=[]∧leL ob fv (f i) (f' i)
   |_=>False
  | .win i o n=>match ob i with
   |some (.arr sz N f)=>(fr'=true→fv=true)∧sz=1∧sz'=1∧n=n'∧∀i,i<n'→f (o+i)=f' i∨(AV.idsL (f' i)=[]∧leL (fun _=>none) false (f (o+i)) (f' i))
   |_=>False
  | .row i p=>match ob i with
   |some (.fam N sz m g)=>(fr'=true→fv=true)∧p<N∧sz=sz'∧m p=n'∧∀i,i<n'→g p i=f' i∨(AV.idsL (f' i)=[]∧leL (fun _=>none) false (g p i) (f' i))
   |_=>False
  |_=>False
 |x,.ptr fr' cs'=>match x with
  | .ptr fr cs=>(fr'=true→fr=true)∧AV.idsL cs'=[]∧leL ob fv cs cs'
  | .ref i off=>match ob i with
   |some (.box cs)=>(fr'=true→fv=true)∧AV.idsL cs'=[]∧leL ob fv (cs.drop off) cs'
   |_=>False
  | .elt i sz k j=>match ob i with
   |some (.arr sz' n f)=>(fr'=true→fv=true)∧sz=sz'∧k<n∧AV.idsL cs'=[]∧leL ob fv ((f k).drop j) cs'
   |some (.oar _ sz' n f)=>(fr'=true→fv=true)∧sz=sz'∧k<n∧AV.idsL cs'=[]∧leL ob fv ((f k).drop j) cs'
   |_=>False
  | .relt i p sz k j=>match ob i with
   |some (.fam N sz' m g)=>(fr'=true→fv=true)∧sz=sz'∧(p<N∧k<m p)∧AV.idsL cs'=[]∧leL ob fv ((g p k).drop j) cs'
   |_=>False
  |_=>False
 |x,.nilq n'=>match x with
  | .nilq n=>n=n'
  |_=>False
 |x,.ref i' o'=>match x with
  | .ref i o=>i=i'∧o=o'
  |_=>False
 |x,.elt i' s' k' j'=>match x with
  | .elt i s k j=>i=i'∧s=s'∧k=k'∧j=j'
  |_=>False
 |x,.arr i'=>match x with
  | .arr i=>i=i'
  |_=>False
 |x,.row i' p'=>match x with
  | .row i p=>i=i'∧p=p'
  |_=>False
 |x,.relt i' p' s' k' j'=>match x with
  | .relt i p s k j=>i=i'∧p=p'∧s=s'∧k=k'∧j=j'
  |_=>False
 |x,.mapr i'=>match x with
  | .mapr i=>i=i'
  |_=>False
 |x,.win i' o' n'=>match x with
  | .win i o n=>i=i'∧o=o'∧n=n'
  |_=>False
def leL (ob:Nat→Option Ob) (fv:Bool):List AV→List AV→Prop
 |x,[]=>x=[]
 |x,a'::r'=>match x with
  |a::r=>le ob fv a a'∧leL ob fv r r'
  | []=>False
end
theorem SS.fr {B:Base} {κ:Nat→Value} {ob:Nat→Option Ob} {w:World} {fr fr':Bool} {b:Nat} (h:SS B κ ob w fr b) (hf:fr'=true→fr=true):SS B κ ob w fr' b:=⟨h.1,⟨fun e=>h.2.1.1 (hf e),h.2.1.2⟩,h.2.2⟩
section
variable {B : Base} {κ : Nat → Value} {ob : Nat → Option Ob} {w : World} {S' : Bool → Nat → Prop}
theorem RelL.toRel {S:Bool→Nat→Prop} {cs:List AV} {vs:Array Value} (h1:cs.length=vs.size) (h2:∀(i:Nat) (a:AV) (v:Value),cs[i]? =some a→vs[i]? =some v→Rel κ w S a v):RelL κ w S cs vs.toList:=
 ⟨by simpa using h1,fun j u x hj hx=>h2 j u x hj (by simpa using hx)⟩
theorem Rel.fn_of {S:Bool→Nat→Prop} {f:FuncId} {cs:List AV} {v:Value} (h:Rel κ w S (.fn f cs) v):∃vs:Array Value,v= .func (.func f) #[] vs∧RelL κ w S cs vs.toList:=by
 cases h with
 |tree _ _ h=>cases h with|fn _ _ vs h1 h2=>exact ⟨vs,rfl,RelL.toRel h1 fun i a v ha hv=> .tree _ _ (h2 i a v ha hv)⟩
 |fn _ _ vs h1 h2=>exact ⟨vs,rfl,RelL.toRel h1 h2⟩
theorem Zko {R:AV→Value→Prop} {sz n:Nat} {f f':Nat→List AV} {A:Option Addr} {n2 c2:Nat} (hobj:ArrG R w sz n f (.slice A n2 c2)) (fr':Bool) (hS:∀b,blk (.slice A n2 c2)=some b→S' fr' b)
  (hf:∀p,p<n→∀vs:List Value,(f p).length=vs.length→(∀(j:Nat) (u:AV) (x:Value),(f p)[j]? =some u→vs[j]? =some x→R u x)→(f' p).length=vs.length∧∀(j:Nat) (u:AV) (x:Value),(f' p)[j]? =some u→vs[j]? =some x→RelT w S' u x):
  RelT w S' (.sl fr' sz n f') (.slice A n2 c2):=by
 rcases hobj with ⟨e0,A',e1⟩|⟨b,cur,e',c,e1,q0,q1,q2,q3,q4,q5⟩
 ·subst e0;cases e1;exact .sl0 _ _ _ _ _ (Nat.zero_le _)
 ·cases e1
  have hg:∀p q,p<n→q<sz→w.cell? ⟨b,0+p*sz+q,none⟩=some (cur.getD (p*sz+q) undef)∧(cur.getD (p*sz+q) undef).oneCell'=true:=fun p q hp hq=>by
   obtain ⟨x,hx,ho,_⟩:=(q5 p hp).2 q _ (List.getElem?_eq_getElem (by rw [(q5 p hp).1];exact hq))
   rw [cell_of_row w b _ cur e' (0,0) q1,Nat.zero_add]
   simp [hx,ho]
  have hvs:=fun p hp=>hf p hp ((List.range sz).map fun q=>cur.getD (p*sz+q) undef) (by simp [(q5 p hp).1]) fun j u x hj hx=>by
   obtain ⟨y,hy,_,hr⟩:=(q5 p hp).2 j u hj
   have hjs:j<sz:=by rw [←(q5 p hp).1];exact (List.getElem?_eq_some_iff.1 hj).1
   simp [hjs,hy] at hx;subst hx;exact hr
  refine .sl fr' sz n f' b 0 _ (fun p q=>cur.getD (p*sz+q) undef) (hS b (by simp [blk];omega)) q2 q4 (fun p hp=>by simpa using (hvs p hp).1) hg fun p j u hp hj=> ?_
  have hl:=(hvs p hp).1
  have hjs:j<sz:=by simp at hl;rw [←hl];exact (List.getElem?_eq_some_iff.1 hj).1
  exact (hvs p hp).2 j u _ hj (by simp [hjs])
theorem win_tree {R:AV→Value→Prop} {N n o:Nat} {f f':Nat→List AV} {b M c:Nat} (hobj:ArrG R w 1 N f (.slice (some ⟨b,0,none⟩) M c)) (hn:o+n≤M) (fr':Bool) (hS:∀b',blk (.slice (some ⟨b,0,none⟩) M c)=some b'→S' fr' b')
  (hf:∀p,p<n→∀vs:List Value,(f (o+p)).length=vs.length→(∀(j:Nat) (u:AV) (x:Value),(f (o+p))[j]? =some u→vs[j]? =some x→R u x)→(f' p).length=vs.length∧∀(j:Nat) (u:AV) (x:Value),(f' p)[j]? =some u→vs[j]? =some x→RelT w S' u x):
  RelT w S' (.sl fr' 1 n f') (.slice (some ⟨b,o,none⟩) n (c-o)):=by
 rcases hobj with ⟨e0,A',e1⟩|⟨b,cur,e',c,e1,q0,q1,q2,q3,q4,q5⟩
 ·cases e1
  obtain rfl:n=0:=by omega
  exact .sl0 _ _ _ _ _ (by omega)
 ·cases e1
  have hg:∀p q,p<n→q<1→w.cell? ⟨b,o+p*1+q,none⟩=some (cur.getD ((o+p)*1+q) undef)∧(cur.getD ((o+p)*1+q) undef).oneCell'=true:=fun p q hp hq=>by
   obtain ⟨x,hx,ho,_⟩:=(q5 (o+p) (by omega)).2 q _ (List.getElem?_eq_getElem (by rw [(q5 (o+p) (by omega)).1];exact hq))
   rw [cell_of_row w b _ cur e' (0,0) q1,show o+p*1+q=(o+p)*1+q by omega]
   simp only [Array.getD_eq_getD_getElem?,hx]
   exact ⟨rfl,ho⟩
  have hvs:=fun p hp=>hf p hp ((List.range 1).map fun q=>cur.getD ((o+p)*1+q) undef) (by simp [(q5 (o+p) (by omega)).1]) fun j u x hj hx=>by
   obtain ⟨y,hy,_,hr⟩:=(q5 (o+p) (by omega)).2 j u hj
   have hjs:j<1:=by rw [←(q5 (o+p) (by omega)).1];exact (List.getElem?_eq_some_iff.1 hj).1
   rw [List.getElem?_map,List.getElem?_range hjs] at hx
   simp only [Option.map_some,Option.some.injEq,Array.getD_eq_getD_getElem?,hy,Option.getD_some] at hx
   subst hx;exact hr
  refine .sl fr' 1 n f' b o _ (fun p q=>cur.getD ((o+p)*1+q) undef) (hS b (by simp [blk];omega)) (by omega) (by omega) (fun p hp=>by simpa using (hvs p hp).1) hg fun p j u hp hj=> ?_
  have hl:=(hvs p hp).1
  have hjs:j<1:=by simp at hl;rw [←hl];exact (List.getElem?_eq_some_iff.1 hj).1
  exact (hvs p hp).2 j u _ hj (by rw [List.getElem?_map,List.getElem?_range hjs];rfl)
mutual
theorem Zju {obr:Nat→Option Ob} {fv:Bool} (hm:MS B κ ob w) (hsub:∀i o,obr i=some o→ob i=some o) (hS:∀fr b,SS B κ ob w fr b→S' fr b) (hF:∀i o b,obr i=some o→Blk (κ i) b→S' false b∧(fv=true→S' true b)):
  ∀(a' a:AV) (v:Value),Rel κ w (SS B κ ob w) a v→le obr fv a a'→Rel κ w S' a' v
 | .any,a,v,h,hl=> .tree _ _ (.any _)
 | .val v',a,v,h,hl=>by
  cases a<;>simp only [le] at hl
  obtain rfl:=hl
  obtain rfl:=h.val_of
  exact Rel.of_val _
 | .agg cs',a,v,h,hl=>by
  cases a<;>simp only [le] at hl
  obtain ⟨vs,rfl,hr⟩:=h.agg_of
  exact (Zcc hm hsub hS hF cs' _ _ hr hl).agg
 | .tup cs',a,v,h,hl=>by
  cases a<;>simp only [le] at hl
  obtain ⟨vs,rfl,hr⟩:=h.tup_of
  exact (Zcc hm hsub hS hF cs' _ _ hr hl).tup
 | .fn f' cs',a,v,h,hl=>by
  cases a<;>simp only [le] at hl
  ·obtain ⟨rfl,rfl⟩:=hl
   obtain rfl:=h.val_of
   exact .fn _ [] #[] rfl fun i a v ha=>by simp at ha
  ·obtain ⟨rfl,hl⟩:=hl
   obtain ⟨vs,rfl,hr⟩:=h.fn_of
   have:=Zcc hm hsub hS hF cs' _ _ hr hl
   exact .fn _ _ _ (by simpa using this.1) fun i a v ha hv=>this.2 i a v ha (by simpa using hv)
 | .e0,a,v,h,hl=>by
  cases a<;>simp only [le] at hl
  ·subst hl;obtain rfl:=h.val_of;exact .tree _ _ (.e0 _)
  ·cases h with
   |tree _ _ h=>cases h with|e0 A=>exact .tree _ _ (.e0 A)
 | .sl fr' sz' n' f',a,v,h,hl=>by
  cases a<;>simp only [le] at hl
  ·obtain ⟨rfl,rfl⟩:=hl;obtain rfl:=h.val_of;exact .tree _ _ (.sl0 _ _ _ _ _ (Nat.zero_le _))
  ·rename_i fr sz n f
   obtain ⟨h1,rfl,rfl,h2⟩:=hl
   cases h with
   |tree _ _ h=>cases h with
    |sl _ _ _ _ b o c g hb a1 a2 a3 a4 a5=>
     have hrl:∀i,i<n→RelL κ w (SS B κ ob w) (f i) ((List.range sz).map (g i)):=fun i hi=>⟨by simp [a3 i hi],fun j u x hj hx=>by
      have hjs:j<sz:=by rw [←a3 i hi];exact (List.getElem?_eq_some_iff.1 hj).1
      simp [hjs] at hx;subst hx;exact .tree _ _ (a5 i j u hi hj)⟩
     refine .tree _ _ (.sl fr' sz n f' b o c g (hS _ _ (hb.fr h1)) a1 a2 (fun i hi=> ?_) a4 fun i j u hi hj=> ?_)
     ·rcases h2 i hi with e|⟨_,e⟩
      ·rw [←e];exact a3 i hi
      ·have:=(Zcc (obr:=fun _=>none) (fv:=false) hm (fun _ _ h=>by cases h) hS (fun _ _ _ h=>by cases h) (f' i) _ _ (hrl i hi) e).1;simpa using this
     ·rcases h2 i hi with e|⟨e0,e⟩
      ·rw [←e] at hj;exact (a5 i j u hi hj).keep fun fr b hb=>⟨rfl,hS fr b hb⟩
      ·have hh:=Zcc (obr:=fun _=>none) (fv:=false) hm (fun _ _ h=>by cases h) hS (fun _ _ _ h=>by cases h) (f' i) _ _ (hrl i hi) e
       have hjs:j<sz:=by have:=hh.1;simp at this;rw [←this];exact (List.getElem?_eq_some_iff.1 hj).1
       exact (hh.2 j u (g i j) hj (by simp [hjs])).toT (AV.idsL_all e0 hj)
    |sl0 _ _ _ A c hc=>exact .tree _ _ (.sl0 _ _ _ A c hc)
  ·subst hl
   cases h with
   |tree _ _ h=>cases h with|e0 A=>exact .tree _ _ (.sl0 _ _ _ A 0 (Nat.zero_le _))
  ·rename_i i
   split at hl
   ·rename_i sz n f hoi
    obtain ⟨h1,rfl,rfl,h2⟩:=hl
    cases h with
    |tree _ _ h=>cases h
    |arr _ A n2 c2 hκ=>
     have hobj:ArrG (RelT w (SS B κ ob w)) w sz n f (κ i):=hm.obj i _ (hsub i _ hoi)
     rw [hκ] at hobj
     refine .tree _ _ (Zko hobj fr' (fun b hb=> ?_) fun p hp vs hl hr=> ?_)
     ·have hF':=hF i _ b hoi (by rw [hκ];exact .inl hb)
      cases fr' with|false=>exact hF'.1|true=>exact hF'.2 (h1 rfl)
     ·rcases h2 p hp with e|⟨e0,e⟩
      ·rw [←e];exact ⟨hl,fun j u x hj hx=>(hr j u x hj hx).keep fun fr b hb=>⟨rfl,hS fr b hb⟩⟩
      ·have hh:=Zcc (obr:=fun _=>none) (fv:=false) hm (fun _ _ h=>by cases h) hS (fun _ _ _ h=>by cases h) (f' p) _ _ ⟨hl,fun j u x hj hx=> .tree _ _ (hr j u x hj hx)⟩ e
       exact ⟨hh.1,fun j u x hj hx=>(hh.2 j u x hj hx).toT (AV.idsL_all e0 hj)⟩
   ·rename_i L sz n f hoi
    obtain ⟨h1,rfl,rfl,h2⟩:=hl
    cases h with
    |tree _ _ h=>cases h
    |arr _ A n2 c2 hκ=>
     have hobj:ArrG (Rel κ w (SS B κ ob w)) w sz n f (κ i):=(hm.obj i _ (hsub i _ hoi)).2
     rw [hκ] at hobj
     refine .tree _ _ (Zko hobj fr' (fun b hb=> ?_) fun p hp vs hl hr=> ?_)
     ·have hF':=hF i _ b hoi (by rw [hκ];exact .inl hb)
      cases fr' with|false=>exact hF'.1|true=>exact hF'.2 (h1 rfl)
     ·have hh:=Zcc hm hsub hS hF (f' p) _ _ ⟨hl,hr⟩ (h2 p hp).2
      exact ⟨hh.1,fun j u x hj hx=>(hh.2 j u x hj hx).toT (AV.idsL_all (h2 p hp).1 hj)⟩
   ·exact hl.elim
  ·rename_i i p
   split at hl
   ·rename_i N sz m g hoi
    obtain ⟨h1,hpN,rfl,rfl,h2⟩:=hl
    cases h with
    |tree _ _ h=>cases h
    |row _ _ vs0 A n2 c2 hκ hvs=>
     obtain ⟨vs',d1,d2,d3,d4⟩:=hm.obj i _ (hsub i _ hoi)
     rw [hκ] at d1
     cases d1
     have hobj:ArrG (RelT w (SS B κ ob w)) w sz (m p) (g p) (.slice A n2 c2):=d3 p _ hvs
     refine .tree _ _ (Zko hobj fr' (fun b hb=> ?_) fun q hp vs hl hr=> ?_)
     ·have hF':=hF i _ b hoi (by rw [hκ];exact .inr ⟨_,rfl,p,_,hvs,hb⟩)
      cases fr' with|false=>exact hF'.1|true=>exact hF'.2 (h1 rfl)
     ·rcases h2 q hp with e|⟨e0,e⟩
      ·rw [←e];exact ⟨hl,fun j u x hj hx=>(hr j u x hj hx).keep fun fr b hb=>⟨rfl,hS fr b hb⟩⟩
      ·have hh:=Zcc (obr:=fun _=>none) (fv:=false) hm (fun _ _ h=>by cases h) hS (fun _ _ _ h=>by cases h) (f' q) _ _ ⟨hl,fun j u x hj hx=> .tree _ _ (hr j u x hj hx)⟩ e
       exact ⟨hh.1,fun j u x hj hx=>(hh.2 j u x hj hx).toT (AV.idsL_all e0 hj)⟩
   ·exact hl.elim
  ·rename_i i o n
   split at hl
   ·rename_i sz N f hoi
    obtain ⟨h1,rfl,rfl,rfl,h2⟩:=hl
    cases h with
    |tree _ _ h=>cases h
    |win _ _ _ b M c hκ hn=>
     have hobj:ArrG (RelT w (SS B κ ob w)) w 1 N f (κ i):=hm.obj i _ (hsub i _ hoi)
     rw [hκ] at hobj
     refine .tree _ _ (win_tree hobj hn fr' (fun b hb=> ?_) fun p hp vs hl hr=> ?_)
     ·have hF':=hF i _ b hoi (by rw [hκ];exact .inl hb)
      cases fr' with|false=>exact hF'.1|true=>exact hF'.2 (h1 rfl)
     ·rcases h2 p hp with e|⟨e0,e⟩
      ·rw [←e];exact ⟨hl,fun j u x hj hx=>(hr j u x hj hx).keep fun fr b hb=>⟨rfl,hS fr b hb⟩⟩
      ·have hh:=Zcc (obr:=fun _=>none) (fv:=false) hm (fun _ _ h=>by cases h) hS (fun _ _ _ h=>by cases h) (f' p) _ _ ⟨hl,fun j u x hj hx=> .tree _ _ (hr j u x hj hx)⟩ e
       exact ⟨hh.1,fun j u x hj hx=>(hh.2 j u x hj hx).toT (AV.idsL_all e0 hj)⟩
   ·exact hl.elim
 | .ptr fr' cs',a,v,h,hl=>by
  cases a<;>simp only [le] at hl
  ·rename_i fr cs
   obtain ⟨h1,h2,h3⟩:=hl
   cases h with
   |tree _ _ h=>cases h with
    |ptr _ _ b o g hb a1 a2=>
     have hrl:RelL κ w (SS B κ ob w) cs ((List.range cs.length).map g):=⟨by simp,fun j u x hj hx=>by
      have hjs:=(List.getElem?_eq_some_iff.1 hj).1
      simp [hjs] at hx;subst hx;exact .tree _ _ (a2 j u hj)⟩
     have hh:=Zcc hm hsub hS hF cs' _ _ hrl h3
     have hn:cs'.length=cs.length:=by simpa using hh.1
     refine .tree _ _ (.ptr fr' cs' b o g (hS _ _ (hb.fr h1)) (fun j hj=>a1 j (by omega)) fun j u hj=> ?_)
     have hjs:=(List.getElem?_eq_some_iff.1 hj).1
     exact (hh.2 j u (g j) hj (by rw [List.getElem?_map,List.getElem?_range (by omega)];rfl)).toT (AV.idsL_all h2 hj)
  ·rename_i i off
   split at hl
   ·rename_i cs hoi
    obtain ⟨h1,h2,h3⟩:=hl
    obtain ⟨b,o,g,rfl,c1,c2⟩:=Zek (c:=none) hm hsub h (by simp [Zfg,hoi];rfl) trivial
    have hrl:RelL κ w (SS B κ ob w) (cs.drop off) ((List.range (cs.drop off).length).map g):=⟨by simp,fun j u x hj hx=>by
     have hjs:=(List.getElem?_eq_some_iff.1 hj).1
     rw [List.getElem?_map,List.getElem?_range hjs] at hx
     cases hx
     exact c2 j u hj⟩
    have hh:=Zcc hm hsub hS hF cs' _ _ hrl h3
    have hn:cs'.length=(cs.drop off).length:=by simpa using hh.1
    have hbk:Blk (κ i) b:=by
     cases h with
     |tree _ _ h=>cases h
     |ref _ _ _ hκ=>rw [hκ];exact .inl rfl
    have hF':=hF i _ b hoi hbk
    refine .tree _ _ (.ptr fr' cs' b o g (by cases fr' with|false=>exact hF'.1|true=>exact hF'.2 (h1 rfl)) (fun j hj=>c1 j (by omega)) fun j u hj=> ?_)
    have hjs:=(List.getElem?_eq_some_iff.1 hj).1
    exact (hh.2 j u (g j) hj (by rw [List.getElem?_map,List.getElem?_range (by omega)];rfl)).toT (AV.idsL_all h2 hj)
   ·exact hl.elim
  ·rename_i i sz k q
   split at hl
   ·rename_i sz' n f hoi
    obtain ⟨h1,rfl,hk,h2,h3⟩:=hl
    obtain ⟨b,o,g,rfl,c1,c2⟩:=Zek (c:=some (k<n)) hm hsub h (by simp [Zfg,hoi];rfl) hk
    have hrl:RelL κ w (SS B κ ob w) ((f k).drop q) ((List.range ((f k).drop q).length).map g):=⟨by simp,fun j u x hj hx=>by
     have hjs:=(List.getElem?_eq_some_iff.1 hj).1
     rw [List.getElem?_map,List.getElem?_range hjs] at hx
     cases hx
     exact c2 j u hj⟩
    have hh:=Zcc hm hsub hS hF cs' _ _ hrl h3
    have hn:cs'.length=((f k).drop q).length:=by simpa using hh.1
    have hobj:=hm.obj i _ (hsub i _ hoi)
    have hbk:Blk (κ i) b:=by
     cases h with
     |tree _ _ h=>cases h
     |elt _ _ _ _ _ n1 c3 hκ=>
      rw [hκ] at hobj⊢
      rcases hobj with ⟨e0,A',e1⟩|⟨b,cur,e',c,e1,q0,_⟩
      ·omega
      ·cases e1;exact .inl (by simp [blk];omega)
    have hF':=hF i _ b hoi hbk
    refine .tree _ _ (.ptr fr' cs' b o g (by cases fr' with|false=>exact hF'.1|true=>exact hF'.2 (h1 rfl)) (fun j hj=>c1 j (by omega)) fun j u hj=> ?_)
    have hjs:=(List.getElem?_eq_some_iff.1 hj).1
    exact (hh.2 j u (g j) hj (by rw [List.getElem?_map,List.getElem?_range (by omega)];rfl)).toT (AV.idsL_all h2 hj)
   ·rename_i L sz' n f hoi
    obtain ⟨h1,rfl,hk,h2,h3⟩:=hl
    obtain ⟨b,o,g,rfl,c1,c2⟩:=Zek (c:=some (k<n)) hm hsub h (by simp [Zfg,hoi];rfl) hk
    have hrl:RelL κ w (SS B κ ob w) ((f k).drop q) ((List.range ((f k).drop q).length).map g):=⟨by simp,fun j u x hj hx=>by
     have hjs:=(List.getElem?_eq_some_iff.1 hj).1
     rw [List.getElem?_map,List.getElem?_range hjs] at hx
     cases hx
     exact c2 j u hj⟩
    have hh:=Zcc hm hsub hS hF cs' _ _ hrl h3
    have hn:cs'.length=((f k).drop q).length:=by simpa using hh.1
    have hobj:=(hm.obj i _ (hsub i _ hoi)).2
    have hbk:Blk (κ i) b:=by
     cases h with
     |tree _ _ h=>cases h
     |elt _ _ _ _ _ n1 c3 hκ=>
      rw [hκ] at hobj⊢
      rcases hobj with ⟨e0,A',e1⟩|⟨b,cur,e',c,e1,q0,_⟩
      ·omega
      ·cases e1;exact .inl (by simp [blk];omega)
    have hF':=hF i _ b hoi hbk
    refine .tree _ _ (.ptr fr' cs' b o g (by cases fr' with|false=>exact hF'.1|true=>exact hF'.2 (h1 rfl)) (fun j hj=>c1 j (by omega)) fun j u hj=> ?_)
    have hjs:=(List.getElem?_eq_some_iff.1 hj).1
    exact (hh.2 j u (g j) hj (by rw [List.getElem?_map,List.getElem?_range (by omega)];rfl)).toT (AV.idsL_all h2 hj)
   ·exact hl.elim
  ·rename_i i p0 sz k q
   split at hl
   ·rename_i N sz' m gg hoi
    obtain ⟨h1,rfl,hk,h2,h3⟩:=hl
    obtain ⟨b,o,g,rfl,c1,c2⟩:=Zek (c:=some (p0<N∧k<m p0)) hm hsub h (by simp [Zfg,hoi];rfl) hk
    have hrl:RelL κ w (SS B κ ob w) ((gg p0 k).drop q) ((List.range ((gg p0 k).drop q).length).map g):=⟨by simp,fun j u x hj hx=>by
     have hjs:=(List.getElem?_eq_some_iff.1 hj).1
     rw [List.getElem?_map,List.getElem?_range hjs] at hx
     cases hx
     exact c2 j u hj⟩
    have hh:=Zcc hm hsub hS hF cs' _ _ hrl h3
    have hn:cs'.length=((gg p0 k).drop q).length:=by simpa using hh.1
    have hbk:Blk (κ i) b:=by
     cases h with
     |tree _ _ h=>cases h
     |relt _ _ _ _ _ _ n1 c3 vs hκ hvs=>
      obtain ⟨vs',d1,d2,d3,d4⟩:=hm.obj i _ (hsub i _ hoi)
      rw [hκ] at d1
      cases d1
      rw [hκ]
      refine .inr ⟨_,rfl,p0,_,hvs,?_⟩
      rcases d3 p0 _ hvs with ⟨e0,A',e1⟩|⟨b,cur,e',c,e1,q0,_⟩
      ·omega
      ·cases e1;simp [blk];omega
    have hF':=hF i _ b hoi hbk
    refine .tree _ _ (.ptr fr' cs' b o g (by cases fr' with|false=>exact hF'.1|true=>exact hF'.2 (h1 rfl)) (fun j hj=>c1 j (by omega)) fun j u hj=> ?_)
    have hjs:=(List.getElem?_eq_some_iff.1 hj).1
    exact (hh.2 j u (g j) hj (by rw [List.getElem?_map,List.getElem?_range (by omega)];rfl)).toT (AV.idsL_all h2 hj)
   ·exact hl.elim
 | .nilq n',a,v,h,hl=>by
  cases a<;>simp only [le] at hl
  subst hl
  cases h with
  |tree _ _ h=>cases h with|nilq _ b hb=>exact .tree _ _ (.nilq _ b hb)
 | .ref i' o',a,v,h,hl=>by
  cases a<;>simp only [le] at hl
  obtain ⟨rfl,rfl⟩:=hl
  cases h with
  |tree _ _ h=>cases h
  |ref _ _ b hκ=>exact .ref _ _ b hκ
 | .elt i' s' k' j',a,v,h,hl=>by
  cases a<;>simp only [le] at hl
  obtain ⟨rfl,rfl,rfl,rfl⟩:=hl
  cases h with
  |tree _ _ h=>cases h
  |elt _ _ _ _ b n c hκ=>exact .elt _ _ _ _ b n c hκ
 | .arr i',a,v,h,hl=>by
  cases a<;>simp only [le] at hl
  subst hl
  cases h with
  |tree _ _ h=>cases h
  |arr _ A n c hκ=>exact .arr _ A n c hκ
 | .row i' p',a,v,h,hl=>by
  cases a<;>simp only [le] at hl
  obtain ⟨rfl,rfl⟩:=hl
  cases h with
  |tree _ _ h=>cases h
  |row _ _ vs A n c hκ hvs=>exact .row _ _ vs A n c hκ hvs
 | .relt i' p' s' k' j',a,v,h,hl=>by
  cases a<;>simp only [le] at hl
  obtain ⟨rfl,rfl,rfl,rfl,rfl⟩:=hl
  cases h with
  |tree _ _ h=>cases h
  |relt _ _ _ _ _ b n c vs hκ hvs=>exact .relt _ _ _ _ _ b n c vs hκ hvs
 | .mapr i',a,v,h,hl=>by
  cases a<;>simp only [le] at hl
  subst hl
  cases h with
  |tree _ _ h=>cases h
  |mapr _ r hκ=>exact .mapr _ r hκ
 | .win i' o' n',a,v,h,hl=>by
  cases a<;>simp only [le] at hl
  obtain ⟨rfl,rfl,rfl⟩:=hl
  cases h with
  |tree _ _ h=>cases h
  |win _ _ _ b M c hκ hn=>exact .win _ _ _ b M c hκ hn
theorem Zcc {obr:Nat→Option Ob} {fv:Bool} (hm:MS B κ ob w) (hsub:∀i o,obr i=some o→ob i=some o) (hS:∀fr b,SS B κ ob w fr b→S' fr b) (hF:∀i o b,obr i=some o→Blk (κ i) b→S' false b∧(fv=true→S' true b)):
  ∀(cs' cs:List AV) (vs:List Value),RelL κ w (SS B κ ob w) cs vs→leL obr fv cs cs'→RelL κ w S' cs' vs
 | [],cs,vs,h,hl=>by
  simp only [leL] at hl
  subst hl
  have:=h.1
  cases vs with
  |nil=>exact .nil
  |cons _ _=>simp at this
 |a'::r',cs,vs,h,hl=>by
  cases cs with
  |nil=>simp only [leL] at hl
  |cons a r=>
   simp only [leL] at hl
   cases vs with
   |nil=>have:=h.1;simp at this
   |cons x xs=>
    exact .cons (Zju hm hsub hS hF a' a x (h.2 0 a x rfl rfl) hl.1) (Zcc hm hsub hS hF r' r xs ⟨by have:=h.1;simpa using this,fun j u y hj hy=>h.2 (j+1) u y (by simpa using hj) (by simpa using hy)⟩ hl.2)
end
end
def Zet (ob:Nat→Option Ob) (fv:Bool):List AV→List (Bool×AV)→List Prop
 | [],[]=>[]
 |a::r,(true,a')::r'=>(a=a')::Zet ob fv r r'
 |a::r,(false,a')::r'=>le ob fv a a'::Zet ob fv r r'
 |_,_=>[False]
theorem Zdw {B:Base} {κ:Nat→Value} {ob obr:Nat→Option Ob} {w:World} {fv:Bool} {S':Bool→Nat→Prop} (hm:MS B κ ob w) (hsub:∀i o,obr i=some o→ob i=some o) (hS:∀fr b,SS B κ ob w fr b→S' fr b)
  (hF:∀i o b,obr i=some o→Blk (κ i) b→S' false b∧(fv=true→S' true b)):∀(cs:List AV) (cs':List (Bool×AV)) (vs:List Value),RelL κ w (SS B κ ob w) cs vs→(∀p∈Zet obr fv cs cs',p)→RelL κ w S' (cs'.map (·.2)) vs
 | [],[],vs,h,hl=>⟨h.1,fun j u x hj=>by simp at hj⟩
 | [],_::_,vs,h,hl=>(hl False (by simp [Zet])).elim
 |_::_,[],vs,h,hl=>(hl False (by simp [Zet])).elim
 |a::r,(b,a')::r',[],h,hl=>by have:=h.1;simp at this
 |a::r,(b,a')::r',x::xs,h,hl=>by
  have h0:=h.2 0 a x rfl rfl
  have htl:RelL κ w (SS B κ ob w) r xs:=⟨by have:=h.1;simpa using this,fun j u y hj hy=>h.2 (j+1) u y (by simpa using hj) (by simpa using hy)⟩
  cases b with
  |true=>
   refine .cons ?_ (Zdw hm hsub hS hF r r' xs htl fun p hp=>hl p (by simp [Zet,hp]))
   have e:a=a':=hl (a=a') (by simp [Zet])
   rw [←e];exact h0.keep (fun fr b hb=>⟨rfl,hS fr b hb⟩) fun _ _=>rfl
  |false=>
   refine .cons ?_ (Zdw hm hsub hS hF r r' xs htl fun p hp=>hl p (by simp [Zet,hp]))
   exact Zju hm hsub hS hF a' a x h0 (hl (le obr fv a a') (by simp [Zet]))
def Zwj:List AV→List (Bool×AV)→List (Bool×AV)
 |a::r,(true,_)::r'=>(true,a)::Zwj r r'
 |_::r,(false,a')::r'=>(false,a')::Zwj r r'
 |_,l=>l
def Zex (ob:Nat→Option Ob) (fv:Bool):List AV→List (Bool×AV)→List Prop
 | [],[]=>[]
 |_::r,(true,_)::r'=>Zex ob fv r r'
 |a::r,(false,a')::r'=>le ob fv a a'::Zex ob fv r r'
 |_,_=>[False]
theorem Zfd {ob:Nat→Option Ob} {fv:Bool} :∀ {cs:List AV} {cs':List (Bool×AV)},(∀p∈Zex ob fv cs cs',p)→∀p∈Zet ob fv cs (Zwj cs cs'),p
 | [],[],_=>fun p hp=>by simp [Zwj,Zet] at hp
 | [],(b,a')::r',h=>(h False (by simp [Zex])).elim
 |a::r,[],h=>(h False (by simp [Zex])).elim
 |a::r,(true,a')::r',h=>fun p hp=>by
  simp only [Zwj,Zet,List.mem_cons] at hp
  rcases hp with rfl|hp
  ·first|rfl|trivial
  ·exact Zfd (cs:=r) (cs':=r') (fun q hq=>h q (by simpa [Zex] using hq)) p hp
 |a::r,(false,a')::r',h=>fun p hp=>by
  simp only [Zwj,Zet,List.mem_cons] at hp
  rcases hp with rfl|hp
  ·exact h _ (by simp [Zex])
  ·exact Zfd (cs:=r) (cs':=r') (fun q hq=>h q (by simp [Zex,hq])) p hp
def Zgk:Option AV→Int→Option Int
 |none,d=>some d
 |some (.val (.int _ k)),_=>some k
 |_,_=>none
def Zio:Option AV→Bool
 |none=>true
 |_=>false
def Zey:Option AV→Bool
 |some (.val (.int _ 0))=>true
 |_=>false
def cutF (l:Nat) (f:Nat→List AV) (q:Nat):List AV:=f (l+q)
def Znk (P:Program) (t:TypeId) (pu:Bool) (ob:Nat→Option Ob) (x:AV) (lo hi mx:Option AV):Option Out:=
 match P.underlying t,x with
 |some .string,.val (.string s)=>match Zgk lo 0,Zgk hi s.size,Zio mx with
  |some l,some h,true=>some {r:= .val (.string (s.extract l.toNat h.toNat)),c:=some (0≤l∧l≤h∧h≤s.size)}
  |_,_,_=>none
 |some (.slice e),.sl fr sz n f=>match Zgk lo 0,Zgk hi n,Zio mx,Zds P e with
  |some l,some h,true,some m=>bif Nat.beq m sz then some {r:= .sl fr sz (h.toNat-l.toNat) (cutF l.toNat f),c:=some (0≤l∧l≤h∧h≤n)} else none
  |some 0,_,false,some _=>bif Zey hi&&Zey mx then some {r:= .e0} else none
  |_,_,_,_=>none
 |some (.slice e),.arr i=>match ob i with
  |some (.arr sz n f)=>match Zgk lo 0,Zgk hi n,Zio mx,Zds P e with
   |some l,some h,true,some m=>bif Nat.beq m sz&&pu then some {r:= .sl true sz (h.toNat-l.toNat) (cutF l.toNat f),wr:=[(i,none)],c:=some (0≤l∧l≤h∧h≤n)} else none
   |some 0,_,false,some _=>bif Zey hi&&Zey mx then some {r:= .e0} else none
   |_,_,_,_=>none
  |_=>none
 |some (.slice e),.e0=>match Zds P e with
  |some _=>bif Zey hi&&Zey mx&&Zio lo then some {r:= .e0} else none
  |none=>none
 |_,_=>none
theorem Zhb (P:Program) (w:World) (k:IntKind) (i:Int) (y:Nat) (code:BoundsCode) (h0:0≤i) (h1:i≤y):(Instr.sliceBound (.int k i) y code).run P w= .ok i.toNat w:=by
 simp [Instr.sliceBound,asIntOf,h0,h1]
theorem Zfz {P:Program} {w:World} {κ:Nat→Value} {S:Bool→Nat→Prop} (b:Bool) (n c:Nat) {lo hi:Option AV} {vlo vhi:Option Value} {l h:Int} (hl:Zgk lo 0=some l) (hh:Zgk hi n=some h)
  (rl:∀a,lo=some a→∃v,vlo=some v∧Rel κ w S a v) (rl0:lo=none→vlo=none) (rh:∀a,hi=some a→∃v,vhi=some v∧Rel κ w S a v) (rh0:hi=none→vhi=none)
  (h0:0≤l) (h1:l≤h) (h2:h≤n) (hc:n≤c):(Instr.sliceBounds b n c vlo vhi none).run P w= .ok (l.toNat,h.toNat,c) w:=by
 have hhi:∃v,vhi=v∧((v=none∧h=n)∨∃k,v=some (.int k h)):=by
  cases hi with
  |none=>simp [Zgk] at hh;exact ⟨_,rh0 rfl,.inl ⟨rfl,hh.symm⟩⟩
  |some a=>
   obtain ⟨v,hv,hr⟩:=rh a rfl
   unfold Zgk at hh
   split at hh
   ·cases‹some a=none›
   ·rename_i k q _ e
    cases e
    cases hh
    exact ⟨_,hv,.inr ⟨_,by rw [hr.val_of]⟩⟩
   ·cases hh
 have hlo:∃v,vlo=v∧((v=none∧l=0)∨∃k,v=some (.int k l)):=by
  cases lo with
  |none=>simp [Zgk] at hl;exact ⟨_,rl0 rfl,.inl ⟨rfl,hl.symm⟩⟩
  |some a=>
   obtain ⟨v,hv,hr⟩:=rl a rfl
   unfold Zgk at hl
   split at hl
   ·cases‹some a=none›
   ·rename_i k q _ e
    cases e
    cases hl
    exact ⟨_,hv,.inr ⟨_,by rw [hr.val_of]⟩⟩
   ·cases hl
 obtain ⟨_,rfl,e1⟩:=hhi
 obtain ⟨_,rfl,e2⟩:=hlo
 have c1:h≤c:=by omega
 have c2:l≤(h.toNat:Nat):=by omega
 rcases e1 with ⟨rfl,rfl⟩|⟨k1,rfl⟩<;>rcases e2 with ⟨rfl,rfl⟩|⟨k2,rfl⟩
 ·simp [Instr.sliceBounds]
 ·have:=Zhb P w k2 l n .sliceB h0 (by omega)
  simp [Instr.sliceBounds,this]
 ·have b1:=fun code=>Zhb P w k1 h c code (by omega) c1
  simp [Instr.sliceBounds,b1]
 ·have b1:=fun code=>Zhb P w k1 h c code (by omega) c1
  have b2:=Zhb P w k2 l h.toNat .sliceB h0 c2
  simp [Instr.sliceBounds,b1,b2]
theorem Znu {P:Program} {w:World} {κ:Nat→Value} {S:Bool→Nat→Prop} (n c:Nat) {lo hi mx:Option AV} {vlo vhi vmx:Option Value} (hl:Zgk lo 0=some 0) (hh:Zey hi=true) (hmx:Zey mx=true)
  (rl:∀a,lo=some a→∃v,vlo=some v∧Rel κ w S a v) (rl0:lo=none→vlo=none) (rh:∀a,hi=some a→∃v,vhi=some v∧Rel κ w S a v) (rm:∀a,mx=some a→∃v,vmx=some v∧Rel κ w S a v):
  (Instr.sliceBounds true n c vlo vhi vmx).run P w= .ok (0,0,0) w:=by
 have hz:∀(x:Option AV) (vx:Option Value),Zey x=true→(∀a,x=some a→∃v,vx=some v∧Rel κ w S a v)→∃k,vx=some (.int k 0):=fun x vx hx hr=>by
  unfold Zey at hx
  split at hx
  ·obtain ⟨v,hv,hrel⟩:=hr _ rfl
   exact ⟨_,by rw [hv,hrel.val_of]⟩
  ·cases hx
 obtain ⟨k1,rfl⟩:=hz _ _ hh rh
 obtain ⟨k2,rfl⟩:=hz _ _ hmx rm
 have b:=fun k y code=>Zhb P w k 0 y code (Int.le_refl _) (Int.natCast_nonneg _)
 simp only [Int.toNat_zero] at b
 cases lo with
 |none=>rw [rl0 rfl];simp [Instr.sliceBounds,b]
 |some a=>
  obtain ⟨v,hv,hr⟩:=rl a rfl
  subst hv
  unfold Zgk at hl
  split at hl
  ·cases‹some a=none›
  ·rename_i e
   cases e
   cases hl
   rw [hr.val_of]
   simp [Instr.sliceBounds,b]
  ·cases hl
theorem Zkp {P:Program} {w:World} {S:Bool→Nat→Prop} {t e:TypeId} {m:Nat} (hu:P.underlying t=some (.slice e)) (hs:Zds P e=some m) {fr:Bool} {n:Nat} {f:Nat→List AV} {vx:Value} (hx:RelT w S (.sl fr m n f) vx)
  {vlo vhi:Option Value} {l h:Int} (hb:∀c,n≤c→(Instr.sliceBounds true n c vlo vhi none).run P w= .ok (l.toNat,h.toNat,c) w) (h0:0≤l) (h1:l≤h) (h2:h≤n):
  ∃v,RelT w S (.sl fr m (h.toNat-l.toNat) (cutF l.toNat f)) v∧(Instr.sliceAt t vx vlo vhi none).run P w= .ok v w:=by
 cases hx with
 |sl _ _ _ _ b o c g hS a1 a2 a3 a4 a5=>
  have hrun:(Instr.sliceAt t (.slice (some ⟨b,o,none⟩) n c) vlo vhi none).run P w= .ok (.slice (if c=l.toNat then some ⟨b,o,none⟩ else some ⟨b,o+l.toNat*m,none⟩) (h.toNat-l.toNat) (c-l.toNat)) w:=by
   simp [Instr.sliceAt,Instr.slice,run_underlying hu,hb c a1,Zaz hs,Zdj]
  refine ⟨_,?_,hrun⟩
  by_cases he:c=l.toNat
  ·rw [if_pos he,show h.toNat-l.toNat=0 by omega]
   exact .sl0 _ _ _ _ _ (by omega)
  ·rw [if_neg he]
   refine .sl fr m _ _ b (o+l.toNat*m) _ (fun i j=>g (l.toNat+i) j) hS (by omega) (by omega) (fun i hi=>a3 _ (by omega)) (fun i j hi hj=> ?_) fun i j u hi hj=>a5 _ j u (by omega) hj
   have:=a4 (l.toNat+i) j (by omega) hj
   rw [Nat.add_mul,←Nat.add_assoc] at this
   exact this
 |sl0 _ _ _ A c hc=>
  have:l.toNat=0:=by omega
  have h0':h.toNat=0:=by omega
  have hrun:(Instr.sliceAt t (.slice A 0 c) vlo vhi none).run P w= .ok (.slice (if c=0 then A else A.map (·.add (0*m))) 0 c) w:=by
   simp [Instr.sliceAt,Instr.slice,run_underlying hu,hb c (Nat.zero_le _),Zaz hs,this,h0']
  refine ⟨_,?_,hrun⟩
  rw [this,h0']
  exact .sl0 _ _ _ _ _ hc
theorem MS.freeze {B:Base} {κ:Nat→Value} {ob:Nat→Option Ob} {w:World} (hm:MS B κ ob w) {i sz n:Nat} {f:Nat→List AV} (hi:ob i=some (.arr sz n f)) (hpu:B.bo i=false):
  MS B κ (Zce ob [(i,none)]) w∧RelT w (SS B κ (Zce ob [(i,none)]) w) (.sl true sz n f) (κ i)∧∀fr b,SS B κ ob w fr b→w.heap[b]? =w.heap[b]? ∧SS B κ (Zce ob [(i,none)]) w fr b:=by
 have hl:∀j,Zce ob [(i,none)] j≠none→ob j≠none∧j≠i:=fun j hj=>by
  rw [Zaw] at hj
  by_cases e:j=i
  ·simp [e] at hj
  ·exact ⟨by simpa [e] using hj,e⟩
 have hfr:=SS.drop (B:=B) (κ:=κ) (w:=w) fun j hj=>(hl j hj).1
 refine ⟨hm.drop fun j o ho=> ?_,?_,hfr⟩
 ·rw [Zaw] at ho
  by_cases e:j=i
  ·simp [e] at ho
  ·exact ⟨o,by simpa [e] using ho,id⟩
 ·have hobj:=hm.obj i _ hi
  generalize hv:κ i=v at hobj
  rcases hobj with ⟨rfl,A,rfl⟩|⟨b,cur,e',c,rfl,q0,q1,q2,q3,q4,q5⟩
  ·exact .sl0 _ _ _ _ _ (Nat.zero_le _)
  ·have hbk:Blk (κ i) b:=by rw [hv];simp [Zbx,blk];omega
   have hne:ob i≠none:=by rw [hi];simp
   have hge:B.N b:=by
    rcases (hm.ownb i b hne hbk).2 with h'|hj
    ·exact h'
    ·rw [hpu] at hj;cases hj
   refine .sl true sz n f b 0 c (fun p q=>cur.getD (p*sz+q) undef) ⟨(hm.ownb i b hne hbk).1,⟨fun _=>hge,fun h=>absurd hge h⟩,fun j hj hb=> ?_⟩ q2 q4 (fun p hp=>(q5 p hp).1) (fun p q hp hq=> ?_) fun p j u hp hj=> ?_
   ·exact (hl j hj).2 (hm.inj j i b (hl j hj).1 hne hb hbk)
   ·obtain ⟨x,hx,ho,_⟩:=(q5 p hp).2 q _ (List.getElem?_eq_getElem (by rw [(q5 p hp).1];exact hq))
    rw [cell_of_row w b _ cur e' (0,0) q1,Nat.zero_add]
    simp [hx,ho]
   ·obtain ⟨y,hy,_,hr⟩:=(q5 p hp).2 j u hj
    have:cur.getD (p*sz+j) undef=y:=by simp [hy]
    show RelT w _ u (cur.getD (p*sz+j) undef)
    rw [this]
    exact hr.keep hfr
theorem Rel.arr_of {κ:Nat→Value} {w:World} {S:Bool→Nat→Prop} {i:Nat} {v:Value} (h:Rel κ w S (.arr i) v):v=κ i:=by
 cases h with
 |tree _ _ h=>cases h
 |arr _ A n c hκ=>exact hκ.symm
def Zwo (P:Program) (t:TypeId) (ob:Nat→Option Ob) (x:AV) (lo hi mx:Option AV):Option Out:=
 match P.underlying t,x with
 |some (.slice e),.arr i=>match ob i with
  |some (.arr 1 n f)=>match Zgk lo 0,Zgk hi n,Zio mx,Zds P e with
   |some l,some h,true,some 1=>some {r:= .win i l.toNat (h.toNat-l.toNat),c:=some (0≤l∧l<h∧h≤n)}
   |_,_,_,_=>none
  |_=>none
 |_,_=>none
theorem Zty {P:Program} {t:TypeId} {B:Base} {κ:Nat→Value} {ob obr:Nat→Option Ob} {w:World} (hm:MS B κ ob w) (hsub:∀i o,obr i=some o→ob i=some o) {x:AV} {lo hi mx:Option AV}
  {vx:Value} {vlo vhi vmx:Option Value} (hx:Rel κ w (SS B κ ob w) x vx) (rl:∀a,lo=some a→∃v,vlo=some v∧Rel κ w (SS B κ ob w) a v) (rl0:lo=none→vlo=none) (rh:∀a,hi=some a→∃v,vhi=some v∧Rel κ w (SS B κ ob w) a v)
  (rh0:hi=none→vhi=none) (rm0:mx=none→vmx=none) {out:Out} (ho:Zwo P t obr x lo hi mx=some out) (hc:out.cond) (news:List Nat):
  ∃v,(Instr.sliceAt t vx vlo vhi vmx).run P w= .ok v w∧Good B κ ob w news out v w:=by
 have hnm:Zio mx=true→vmx=none:=fun h=>by cases mx<;>simp [Zio] at h;exact rm0 rfl
 unfold Zwo at ho
 split at ho
 ·rename_i e i hu
  split at ho
  ·rename_i n f hoi
   have hκ:=hx.arr_of
   split at ho
   ·rename_i l h hl hh hmx hs
    cases ho
    obtain ⟨h0,h1,h2⟩:=hc
    rw [hnm hmx]
    have hobj:ArrRel w (SS B κ ob w) 1 n f (κ i):=hm.obj i _ (hsub i _ hoi)
    rcases hobj with ⟨e0,A,e1⟩|⟨b,cur,e',c,e1,q0,q1,q2,q3,q4,q5⟩
    ·omega
    ·rw [hκ,e1]
     have hb:=Zfz (P:=P) (w:=w) true n c hl hh rl rl0 rh rh0 h0 (by omega) h2 q2
     refine ⟨.slice (some ⟨b,l.toNat,none⟩) (h.toNat-l.toNat) (c-l.toNat),?_,Good.pure hm news (.win i _ _ b n c e1 (by omega))⟩
     have hne:¬ c=l.toNat:=by omega
     simp [Instr.sliceAt,Instr.slice,run_underlying hu,hb,Zaz hs,Zdj,hne]
   ·cases ho
  ·cases ho
 ·cases ho
theorem Zpz {P:Program} {t:TypeId} {pu:Bool} {B:Base} {κ:Nat→Value} {ob obr:Nat→Option Ob} {w:World} (hm:MS B κ ob w) (hsub:∀i o,obr i=some o→ob i=some o) {x:AV} (hpu:pu=true→∀j,x= .arr j→B.bo j=false) {lo hi mx:Option AV}
  {vx:Value} {vlo vhi vmx:Option Value} (hx:Rel κ w (SS B κ ob w) x vx) (rl:∀a,lo=some a→∃v,vlo=some v∧Rel κ w (SS B κ ob w) a v) (rl0:lo=none→vlo=none) (rh:∀a,hi=some a→∃v,vhi=some v∧Rel κ w (SS B κ ob w) a v)
  (rh0:hi=none→vhi=none) (rm:∀a,mx=some a→∃v,vmx=some v∧Rel κ w (SS B κ ob w) a v) (rm0:mx=none→vmx=none) {out:Out} (ho:Znk P t pu obr x lo hi mx=some out) (hc:out.cond) (news:List Nat):
  ∃v,(Instr.sliceAt t vx vlo vhi vmx).run P w= .ok v w∧Good B κ ob w news out v w:=by
 have hnm:Zio mx=true→vmx=none:=fun h=>by cases mx<;>simp [Zio] at h;exact rm0 rfl
 unfold Znk at ho
 split at ho
 ·rename_i s hu
  split at ho
  ·rename_i l h hl hh hmx
   cases ho
   obtain ⟨h0,h1,h2⟩:=hc
   obtain rfl:=hx.val_of
   rw [hnm hmx]
   have hb:=Zfz (P:=P) (w:=w) false s.size s.size hl hh rl rl0 rh rh0 h0 h1 h2 (Nat.le_refl _)
   refine ⟨_,?_,Good.pure hm news (Rel.of_val _)⟩
   simp [Instr.sliceAt,Instr.slice,run_underlying hu,hb]
  ·cases ho
 ·rename_i e fr sz n f hu
  split at ho
  ·rename_i l h m hl hh hmx hs
   cases hb:Nat.beq m sz with
   |false=>simp [hb] at ho
   |true=>
    simp only [hb,cond_true,Option.some.injEq] at ho
    have hms:=Nat.eq_of_beq_eq_true hb
    subst hms
    subst ho
    obtain ⟨h0,h1,h2⟩:=hc
    rw [hnm hmx]
    obtain ⟨v,r1,r2⟩:=Zkp (P:=P) hu hs (hx.toT rfl) (fun c hc=>Zfz true n c hl hh rl rl0 rh rh0 h0 h1 h2 hc) h0 h1 h2
    exact ⟨v,r2,Good.pure hm news (.tree _ _ r1)⟩
  ·rename_i hl hmx hs
   cases hb:(Zey hi&&Zey mx) with
   |false=>simp [hb] at ho
   |true=>
    simp only [hb,cond_true,Option.some.injEq] at ho
    subst ho
    simp only [Bool.and_eq_true] at hb
    have hz:=fun n c=>Znu (P:=P) (w:=w) n c hl hb.1 hb.2 rl rl0 rh rm
    cases hx.toT rfl with
    |sl _ _ _ _ b o c g=>
     exact ⟨.slice (some ⟨b,o,none⟩) 0 0,by simp [Instr.sliceAt,Instr.slice,run_underlying hu,hz,Zaz hs],Good.pure hm news (.tree _ _ (.e0 _))⟩
    |sl0 _ _ _ A c=>exact ⟨.slice A 0 0,by simp [Instr.sliceAt,Instr.slice,run_underlying hu,hz,Zaz hs],Good.pure hm news (.tree _ _ (.e0 _))⟩
  ·cases ho
 ·rename_i e i hu
  split at ho
  ·rename_i sz n f hoi
   have hκ:=hx.arr_of
   split at ho
   ·rename_i l h m hl hh hmx hs
    cases hb:(Nat.beq m sz&&pu) with
    |false=>simp [hb] at ho
    |true=>
     simp only [hb,cond_true,Option.some.injEq] at ho
     simp only [Bool.and_eq_true] at hb
     have hms:=Nat.eq_of_beq_eq_true hb.1
     subst hms
     subst ho
     obtain ⟨h0,h1,h2⟩:=hc
     rw [hnm hmx]
     obtain ⟨f1,f2,f3⟩:=hm.freeze (hsub i _ hoi) (hpu hb.2 i rfl)
     rw [←hκ] at f2
     obtain ⟨v,r1,r2⟩:=Zkp (P:=P) hu hs f2 (fun c hc=>Zfz true n c hl hh rl rl0 rh rh0 h0 h1 h2 hc) h0 h1 h2
     exact ⟨v,r2,κ,fun _ _=>rfl,f1,.tree _ _ r1,f3⟩
   ·rename_i hl hmx hs
    cases hb:(Zey hi&&Zey mx) with
    |false=>simp [hb] at ho
    |true=>
     simp only [hb,cond_true,Option.some.injEq] at ho
     subst ho
     simp only [Bool.and_eq_true] at hb
     have hz:=fun n c=>Znu (P:=P) (w:=w) n c hl hb.1 hb.2 rl rl0 rh rm
     cases hx with
     |tree _ _ h=>cases h
     |arr _ A n' c hκ=>exact ⟨.slice A 0 0,by simp [Instr.sliceAt,Instr.slice,run_underlying hu,hz,Zaz hs],Good.pure hm news (.tree _ _ (.e0 _))⟩
   ·cases ho
  ·cases ho
 ·rename_i e hu
  split at ho
  ·rename_i m hs
   cases hb:(Zey hi&&Zey mx&&Zio lo) with
   |false=>simp [hb] at ho
   |true=>
    simp only [hb,cond_true,Option.some.injEq] at ho
    subst ho
    simp only [Bool.and_eq_true] at hb
    have hl:Zgk lo 0=some 0:=by
     cases lo with
     |none=>rfl
     |some _=>have:=hb.2;simp [Zio] at this
    have hz:=fun n c=>Znu (P:=P) (w:=w) n c hl hb.1.1 hb.1.2 rl rl0 rh rm
    cases hx.toT rfl with
    |e0 A=>exact ⟨.slice A 0 0,by simp [Instr.sliceAt,Instr.slice,run_underlying hu,hz,Zaz hs],Good.pure hm news (.tree _ _ (.e0 _))⟩
  ·cases ho
 ·cases ho
def Zrg (P:Program) (t:TypeId) (ob:Nat→Option Ob) (x:AV) (lo hi mx:Option AV):Option Out:=
 match P.underlying t,x with
 |some (.slice e),.arr i=>match ob i with
  |some (.arr sz n _)=>match Zgk lo 0,Zgk hi n,Zio mx,Zds P e with
   |some l,some h,true,some m=>bif Nat.beq m sz then some {r:= .arr i,c:=some (l=0∧h=n)} else none
   |_,_,_,_=>none
  |_=>none
 |_,_=>none
theorem Zrl {P:Program} {t:TypeId} {B:Base} {κ:Nat→Value} {ob obr:Nat→Option Ob} {w:World} (hm:MS B κ ob w) (hsub:∀i o,obr i=some o→ob i=some o) {x:AV} {lo hi mx:Option AV}
  {vx:Value} {vlo vhi vmx:Option Value} (hx:Rel κ w (SS B κ ob w) x vx) (rl:∀a,lo=some a→∃v,vlo=some v∧Rel κ w (SS B κ ob w) a v) (rl0:lo=none→vlo=none) (rh:∀a,hi=some a→∃v,vhi=some v∧Rel κ w (SS B κ ob w) a v)
  (rh0:hi=none→vhi=none) (rm0:mx=none→vmx=none) {out:Out} (ho:Zrg P t obr x lo hi mx=some out) (hc:out.cond) (news:List Nat):
  ∃v,(Instr.sliceAt t vx vlo vhi vmx).run P w= .ok v w∧Good B κ ob w news out v w:=by
 have hnm:Zio mx=true→vmx=none:=fun h=>by cases mx<;>simp [Zio] at h;exact rm0 rfl
 unfold Zrg at ho
 split at ho
 ·rename_i e i hu
  split at ho
  ·rename_i sz n f hoi
   have hκ:=hx.arr_of
   split at ho
   ·rename_i l h m hl hh hmx hs
    cases hb:Nat.beq m sz with
    |false=>simp [hb] at ho
    |true=>
     simp only [hb,cond_true,Option.some.injEq] at ho
     subst ho
     obtain ⟨h0,h1⟩:=hc
     subst h0
     rw [hnm hmx]
     have hobj:=hm.obj i _ (hsub i _ hoi)
     rw [←hκ] at hobj
     have hbs:∀c,n≤c→(Instr.sliceBounds true n c vlo vhi none).run P w= .ok (0,n,c) w:=fun c hc=>by
      have:=Zfz (P:=P) (w:=w) true n c hl hh rl rl0 rh rh0 (Int.le_refl _) (by omega) (by omega) hc
      rw [show h.toNat=n by omega] at this
      exact this
     refine ⟨vx,?_,Good.pure hm news hx⟩
     rcases hobj with ⟨rfl,A,rfl⟩|⟨b,cur,e',c,rfl,q0,q1,q2,q3,q4,q5⟩
     ·simp [Instr.sliceAt,Instr.slice,run_underlying hu,hbs 0 (Nat.le_refl _),Zaz hs]
     ·simp [Instr.sliceAt,Instr.slice,run_underlying hu,hbs c q2,Zaz hs,Zdj]
   ·cases ho
  ·cases ho
 ·cases ho
end Go.Proofs.YtnlfghpgfjlblaaDoor.Ax
