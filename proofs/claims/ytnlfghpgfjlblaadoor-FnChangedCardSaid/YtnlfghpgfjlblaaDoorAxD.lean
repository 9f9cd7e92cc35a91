/- The abstract run's memory operations: addresses, loading, storing, new objects. Plain lemmas on the model. No conditions. -/
import Derived.Test.YtnlfghpgfjlblaaDoorAxC
namespace Go.Proofs.YtnlfghpgfjlblaaDoor.Ax
open Go.RowKit
set_option linter.unusedVariables false
set_option linter.unusedSimpArgs false
theorem AV.idsL_all {cs:List AV} (h:AV.idsL cs=[]) {i:Nat} {a:AV} (hi:cs[i]? =some a):a.ids=[]:=by
 induction cs generalizing i with
 |nil=>simp at hi
 |cons c r ih=>
  simp only [AV.idsL,List.append_eq_nil_iff] at h
  cases i with
  |zero=>simp at hi;subst hi;exact h.1
  |succ i=>exact ih h.2 (by simpa using hi)
theorem Rel.toT {κ:Nat→Value} {w:World} {S:Bool→Nat→Prop} {a:AV} {v:Value} (h:Rel κ w S a v) (hi:a.ids=[]):RelT w S a v:=by
 induction h with
 |tree a v h=>exact h
 |agg cs vs h1 _ ih=>exact .agg cs vs h1 fun i a v ha hv=>ih i a v ha hv (AV.idsL_all hi ha)
 |tup cs vs h1 _ ih=>exact .tup cs vs h1 fun i a v ha hv=>ih i a v ha hv (AV.idsL_all hi ha)
 |fn f cs vs h1 _ ih=>exact .fn f cs vs h1 fun i a v ha hv=>ih i a v ha hv (AV.idsL_all hi ha)
 |ref i off b h=>simp [AV.ids] at hi
 |elt i sz k j b n c h=>simp [AV.ids] at hi
 |arr i A n c h=>simp [AV.ids] at hi
 |row i p vs A n c h h'=>simp [AV.ids] at hi
 |relt i p sz k j b n c vs h h'=>simp [AV.ids] at hi
 |mapr i r h=>simp [AV.ids] at hi
 |win i o n b M c h h'=>simp [AV.ids] at hi
theorem AV.idsL_nil {cs:List AV} (h:∀(i:Nat) (a:AV),cs[i]? =some a→a.ids=[]):AV.idsL cs=[]:=by
 induction cs with
 |nil=>rfl
 |cons c r ih=>simp only [AV.idsL,h 0 c rfl,List.nil_append];exact ih fun i a hi=>h (i+1) a (by simpa using hi)
theorem RelT.ids_nil {w:World} {S:Bool→Nat→Prop} {a:AV} {v:Value} (h:RelT w S a v):a.ids=[]:=by
 induction h with
 |agg cs vs h1 _ ih=>exact AV.idsL_nil fun i a ha=>ih i a _ ha (Array.getElem?_eq_getElem (by rw [←h1];exact (List.getElem?_eq_some_iff.1 ha).1))
 |tup cs vs h1 _ ih=>exact AV.idsL_nil fun i a ha=>ih i a _ ha (Array.getElem?_eq_getElem (by rw [←h1];exact (List.getElem?_eq_some_iff.1 ha).1))
 |fn f cs vs h1 _ ih=>exact AV.idsL_nil fun i a ha=>ih i a _ ha (Array.getElem?_eq_getElem (by rw [←h1];exact (List.getElem?_eq_some_iff.1 ha).1))
 |_=>rfl
theorem ArrG.ids_nil {w:World} {S:Bool→Nat→Prop} {sz n:Nat} {f:Nat→List AV} {v:Value} (h:ArrG (RelT w S) w sz n f v) {i:Nat} (hi:i<n):AV.idsL (f i)=[]:=by
 rcases h with ⟨h,_⟩|⟨b,cur,e,c,rfl,h0,h1,h2,h3,h4,h5⟩
 ·omega
 ·exact AV.idsL_nil fun j u hj=>by obtain ⟨x,_,_,hr⟩:=(h5 i hi).2 j u hj;exact hr.ids_nil
theorem Zdj (b o k:Nat):(⟨b,o,none⟩:Addr).add k=⟨b,o+k,none⟩:=by unfold Addr.add;split<;>simp_all
def Zfg (ob:Nat→Option Ob):AV→Option (List AV×Option Prop)
 | .ptr _ cs=>some (cs,none)
 | .ref i off=>match ob i with
  |some (.box cs)=>some (cs.drop off,none)
  |_=>none
 | .elt i sz k j=>match ob i with
  |some (.arr sz' n f)=>bif Nat.beq sz sz' then some ((f k).drop j,some (k<n)) else none
  |some (.oar _ sz' n f)=>bif Nat.beq sz sz' then some ((f k).drop j,some (k<n)) else none
  |some (.byt t)=>bif Nat.beq sz 1&&Nat.beq j 0 then some ([.val (.int .u8 (bAt t k))],some (k<t.size)) else none
  |_=>none
 | .relt i p sz k j=>match ob i with
  |some (.fam N sz' m g)=>bif Nat.beq sz sz' then some ((g p k).drop j,some (p<N∧k<m p)) else none
  |_=>none
 |_=>none
theorem Ziz {R:AV→Value→Prop} {w:World} {sz n:Nat} {f:Nat→List AV} {b n' c':Nat} (h:ArrG R w sz n f (.slice (some ⟨b,0,none⟩) n' c')) {k:Nat} (hk:k<n) (j:Nat):
  ∃g:Nat→Value,(∀q,q<((f k).drop j).length→w.cell? ⟨b,k*sz+j+q,none⟩=some (g q))∧∀(q:Nat) (u:AV),((f k).drop j)[q]? =some u→R u (g q):=by
 rcases h with ⟨h0,_⟩|⟨b',cur,e,c,e1,h0,h1,h2,h3,h4,h5⟩
 ·omega
 ·cases e1
  obtain ⟨hl,hcell⟩:=h5 k hk
  refine ⟨fun q=>cur.getD (k*sz+j+q) undef,fun q hq=> ?_,fun q u hq=> ?_⟩
  ·simp [hl] at hq
   obtain ⟨u,hu⟩:∃u,(f k)[j+q]? =some u:=⟨_,List.getElem?_eq_getElem (by omega)⟩
   obtain ⟨x,hx,_,_⟩:=hcell _ u hu
   rw [cell_of_row w b _ cur e (0,0) h1]
   rw [←Nat.add_assoc] at hx
   rw [hx]
   simp [hx]
  ·have hq':(f k)[j+q]? =some u:=by simpa using hq
   obtain ⟨x,hx,_,hr⟩:=hcell _ u hq'
   rw [←Nat.add_assoc] at hx
   have:cur.getD (k*sz+j+q) undef=x:=by simp [hx]
   show R u (cur.getD (k*sz+j+q) undef)
   rw [this]
   exact hr
theorem Zek {B:Base} {κ:Nat→Value} {ob obr:Nat→Option Ob} {w:World} (hm:MS B κ ob w) (hsub:∀i o,obr i=some o→ob i=some o) {a:AV} {v:Value} (h:Rel κ w (SS B κ ob w) a v)
  {cs:List AV} {c:Option Prop} (hc:Zfg obr a=some (cs,c)) (hcc:(Out.mk .any [] c).cond):∃(b o:Nat) (g:Nat→Value),v= .pointer (some ⟨b,o,none⟩)∧(∀j,j<cs.length→w.cell? ⟨b,o+j,none⟩=some (g j))∧
   ∀(j:Nat) (u:AV),cs[j]? =some u→Rel κ w (SS B κ ob w) u (g j):=by
 cases a with
 |ptr fr cs'=>
  cases hc
  cases h with
  |tree _ _ h=>cases h with
   |ptr fr cs b o g hS h1 h2=>exact ⟨b,o,g,rfl,h1,fun j u hj=> .tree _ _ (h2 j u hj)⟩
 |ref i off=>
  simp only [Zfg] at hc
  split at hc
  ·rename_i cs0 ho
   cases hc
   cases h with
   |tree _ _ h=>cases h
   |ref _ _ b hκ=>
    obtain ⟨b',cur,e,e1,h1,h2,h3⟩:=hm.obj i _ (hsub i _ ho)
    rw [hκ] at e1
    cases e1
    refine ⟨b,off,fun j=>cur.getD (off+j) undef,rfl,fun j hj=> ?_,fun j u hj=> ?_⟩
    ·simp at hj
     rw [cell_of_row w b _ cur e (0,0) h1]
     simp [Array.getD,show off+j<cur.size by omega]
    ·have hj':cs0[off+j]? =some u:=by simpa using hj
     have hlt:=(List.getElem?_eq_some_iff.1 hj').1
     exact h3 _ u _ hj' (by simp [Array.getD,show off+j<cur.size by omega])
  ·cases hc
 |elt i sz k j=>
  simp only [Zfg] at hc
  split at hc
  ·rename_i sz' n f ho
   cases hb:Nat.beq sz sz' with
   |false=>simp [hb] at hc
   |true=>
    simp only [hb,cond_true,Option.some.injEq,Prod.mk.injEq] at hc
    obtain ⟨rfl,rfl⟩:=hc
    have hsz:=Nat.eq_of_beq_eq_true hb
    subst hsz
    cases h with
    |tree _ _ h=>cases h
    |elt _ _ _ _ b n' c' hκ=>
     have hobj:=hm.obj i _ (hsub i _ ho)
     rw [hκ] at hobj
     obtain ⟨g,g1,g2⟩:=Ziz hobj (k:=k) hcc j
     exact ⟨b,k*sz+j,g,rfl,g1,fun q u hq=> .tree _ _ (g2 q u hq)⟩
  ·rename_i L sz' n f ho
   cases hb:Nat.beq sz sz' with
   |false=>simp [hb] at hc
   |true=>
    simp only [hb,cond_true,Option.some.injEq,Prod.mk.injEq] at hc
    obtain ⟨rfl,rfl⟩:=hc
    have hsz:=Nat.eq_of_beq_eq_true hb
    subst hsz
    cases h with
    |tree _ _ h=>cases h
    |elt _ _ _ _ b n' c' hκ=>
     have hobj:=(hm.obj i _ (hsub i _ ho)).2
     rw [hκ] at hobj
     obtain ⟨g,g1,g2⟩:=Ziz hobj (k:=k) hcc j
     exact ⟨b,k*sz+j,g,rfl,g1,g2⟩
  ·rename_i t ho
   cases hb:(Nat.beq sz 1&&Nat.beq j 0) with
   |false=>simp [hb] at hc
   |true=>
    simp only [hb,cond_true,Option.some.injEq,Prod.mk.injEq] at hc
    obtain ⟨rfl,rfl⟩:=hc
    simp only [Bool.and_eq_true,Nat.beq_eq] at hb
    obtain ⟨rfl,rfl⟩:=hb
    cases h with
    |tree _ _ h=>cases h
    |elt _ _ _ _ b n' c' hκ=>
     obtain ⟨b',cur,e,c,e1,h0,h1,h2,h3,h4,h5⟩:=hm.obj i _ (hsub i _ ho)
     rw [hκ] at e1
     cases e1
     refine ⟨b,k*1+0,fun _=> .int .u8 (bAt t k),rfl,fun q hq=> ?_,fun q u hq=> ?_⟩
     ·have:q=0:=by simpa using hq
      subst this
      rw [cell_of_row w b _ cur e _ h1]
      simpa using h5 k hcc
     ·cases q with
      |zero=>simp at hq;subst hq;exact Rel.of_val _
      |succ q=>simp at hq
  ·cases hc
 |relt i p sz k j=>
  simp only [Zfg] at hc
  split at hc
  ·rename_i N sz' m g ho
   cases hb:Nat.beq sz sz' with
   |false=>simp [hb] at hc
   |true=>
    simp only [hb,cond_true,Option.some.injEq,Prod.mk.injEq] at hc
    obtain ⟨rfl,rfl⟩:=hc
    have hsz:=Nat.eq_of_beq_eq_true hb
    subst hsz
    cases h with
    |tree _ _ h=>cases h
    |relt _ _ _ _ _ b n' c' vs hκ hvs=>
     obtain ⟨vs',e1,e2,e3,e4⟩:=hm.obj i _ (hsub i _ ho)
     rw [hκ] at e1
     cases e1
     obtain ⟨g,g1,g2⟩:=Ziz (e3 p _ hvs) (k:=k) hcc.2 j
     exact ⟨b,k*sz+j,g,rfl,g1,fun q u hq=> .tree _ _ (g2 q u hq)⟩
  ·cases hc
 |_=>cases hc
def Zkt (P:Program) (t:TypeId) (ob:Nat→Option Ob) (a:AV):Option Out:=
 match Zfg ob a with
 |some (cs,c)=>match Zlp P t cs with
  |some r=>some {r:=r,c:=c}
  |none=>none
 |none=>none
theorem Zic {P:Program} {t:TypeId} {B:Base} {κ:Nat→Value} {ob obr:Nat→Option Ob} {w:World} (hm:MS B κ ob w) (hsub:∀i o,obr i=some o→ob i=some o) {a:AV} {va:Value} (h:Rel κ w (SS B κ ob w) a va)
  {out:Out} (ho:Zkt P t obr a=some out) (hc:out.cond):out.wr=[]∧∃v,Rel κ w (SS B κ ob w) out.r v∧(Instr.loadAt t va).run P w= .ok v w:=by
 unfold Zkt at ho
 split at ho
 ·rename_i cs c h1
  split at ho
  ·rename_i r h2
   cases ho
   obtain ⟨b,o,g,rfl,h3,h4⟩:=Zek hm hsub h h1 hc
   obtain ⟨v,h5,h6⟩:=Zkh (P:=P) h2 b o g h3 h4
   exact ⟨rfl,v,h6,by simp [Instr.loadAt,Instr.sureAddr,h5]⟩
  ·cases ho
 ·cases ho
def asL:AV→List AV
 | .agg us=>us
 |u=>[u]
def Zwm (P:Program) (t:TypeId) (an:Ans) (ob:Nat→Option Ob) (a:AV):Option Out:=
 match an with
 | .as u=>match Zfg ob a with
  |some (cs,some c)=>match Zlp P t (asL u) with
   |some r=>some {r:=r,c:=some (c∧cs=asL u)}
   |none=>none
  |some (cs,none)=>match Zlp P t (asL u) with
   |some r=>some {r:=r,c:=some (cs=asL u)}
   |none=>none
  |none=>none
 |_=>Zkt P t ob a
theorem Ztw {P:Program} {t:TypeId} {B:Base} {κ:Nat→Value} {ob obr:Nat→Option Ob} {w:World} (hm:MS B κ ob w) (hsub:∀i o,obr i=some o→ob i=some o) {a:AV} {va:Value} (h:Rel κ w (SS B κ ob w) a va)
  {an:Ans} {out:Out} (ho:Zwm P t an obr a=some out) (hc:out.cond):out.wr=[]∧∃v,Rel κ w (SS B κ ob w) out.r v∧(Instr.loadAt t va).run P w= .ok v w:=by
 unfold Zwm at ho
 split at ho
 ·split at ho
  ·rename_i cs c h1
   split at ho
   ·rename_i r h2
    cases ho
    obtain ⟨hc1,rfl⟩:=hc
    exact Zic (out:= {r:=r,c:=some c}) hm hsub h (by unfold Zkt;rw [h1];simp only [h2]) hc1
   ·cases ho
  ·rename_i cs h1
   split at ho
   ·rename_i r h2
    cases ho
    have hc1:cs=asL _:=hc
    subst hc1
    exact Zic (out:= {r:=r,c:=none}) hm hsub h (by unfold Zkt;rw [h1];simp only [h2]) trivial
   ·cases ho
  ·cases ho
 ·exact Zic hm hsub h ho hc
theorem Zaw (ob:Nat→Option Ob) (i:Nat) (o:Option Ob) (j:Nat):Zce ob [(i,o)] j=if j=i then o else ob j:=by
 simp only [Zce]
 by_cases h:j=i
 ·subst h;simp
 ·have:Nat.beq j i=false:=Bool.eq_false_iff.2 fun e=>h (Nat.eq_of_beq_eq_true e)
  simp [this,h]
def Zes (B:Base) (ob:Nat→Option Ob) (i:Nat):Prop:=ob i=none∧B.bo i=false∧∀j o,ob j=some o→i∉o.ids
theorem Znz {B:Base} {κ:Nat→Value} {ob:Nat→Option Ob} {w:World} (hm:MS B κ ob w) {i:Nat} (hn:Zes B ob i) (o:Ob) (cur:Array Value) (e:TypeId) (v:Value) (hv:∀b,Blk v b→b=w.heap.size)
  (hobj:∀(κ':Nat→Value) (S':Bool→Nat→Prop),(∀fr b,SS B κ ob w fr b→(w.alloc (.cells cur e)).heap[b]? =w.heap[b]? ∧S' fr b)→(∀k,k≠i→κ' k=κ k)→ObRel κ' (w.alloc (.cells cur e)) S' o v)
  (r:AV) (hr:∀(κ':Nat→Value) w' S',κ' i=v→Rel κ' w' S' r v) (c:Option Prop):Good B κ ob w [i] {r:=r,wr:=[(i,some o)],c:=c} v (w.alloc (.cells cur e)):=by
 have hp:=MS.put (ob':=Zce ob [(i,some o)]) (w':=w.alloc (.cells cur e)) hm i o v (by simp [Zaw]) (fun j hj _=>by simp [Zaw,hj]) (fun h=>absurd hn.1 h)
  (fun b hb=>⟨.inl (hv b hb),by rw [hv b hb];simp⟩) rfl rfl rfl (by simp) (fun b hb _=>Go.heap_alloc_old w _ hb)
  (fun _ j oj hj ho=>hn.2.2 j oj (by simpa [Zaw,hj] using ho)) (fun h=>by rw [hn.2.1] at h;cases h)
  (fun hfr=>hobj _ _ hfr fun k hk=>Zbi _ _ hk)
 refine ⟨_,fun k hk=>Zbi _ _ (by simpa using hk),hp.1,hr _ _ _ (Zav _ _ _),hp.2⟩
def Zpv (P:Program) (e:TypeId):Option (List AV):=match P.info? e with
 |some i=>match i.zero with
  |some z=>some (z.cells.toList.map .val)
  |none=>none
 |none=>none
theorem Zha {P:Program} {e:TypeId} {cs:List AV} (h:Zpv P e=some cs):∃z:Value,(∀w,(zeroValue e).run P w= .ok z w)∧cs=z.cells.toList.map .val:=by
 unfold Zpv at h
 split at h
 ·rename_i i hi
  split at h
  ·rename_i z hz
   cases h
   exact ⟨z,fun w=>by simp [zeroValue,typeInfo,hi,hz],rfl⟩
  ·cases h
 ·cases h
def Zsu (an:Ans) (cs:List AV) (tree:Bool):Option Out:=
 match an with
 | .new i=>bif (AV.idsL cs).any (Nat.beq i) then none else some {r:= .ref i 0,wr:=[(i,some (.box cs))]}
 |_=>none
theorem mem_any {i:Nat} {l:List Nat} (h:l.any (Nat.beq i)=false):i∉l:=by
 intro hi
 rw [List.any_eq_false] at h
 exact h i hi (by simp)
theorem Zsv {B:Base} {κ:Nat→Value} {ob:Nat→Option Ob} {w:World} (hm:MS B κ ob w) {an:Ans} (hn:∀i∈an.news,Zes B ob i) {cs:List AV} {cur:Array Value} (e:TypeId) (hc:RelL κ w (SS B κ ob w) cs cur.toList)
  {tree:Bool} {out:Out} (ho:Zsu an cs tree=some out):Good B κ ob w an.news out (.pointer (some ⟨w.heap.size,0,none⟩)) (w.alloc (.cells cur e)):=by
 unfold Zsu at ho
 split at ho
 ·rename_i i
  cases hb:(AV.idsL cs).any (Nat.beq i) with
  |true=>simp [hb] at ho
  |false=>
   simp only [hb,cond_false,Option.some.injEq] at ho
   subst ho
   refine Znz hm (hn i (by simp [Ans.news])) (.box cs) cur e _ (fun b hb=>by simp [Ziu,blk] at hb;exact hb.symm) (fun κ' S' hk hk'=> ?_) _ (fun κ' w' S' h=> .ref i 0 _ h) _
   refine ⟨_,cur,e,rfl,heap_alloc_new w _,by simpa using hc.1,fun j u x hj hx=>(hc.2 j u x hj (by simpa using hx)).keep hk fun q hq=>hk' q fun e=>AV.idsL_mem hj (mem_any hb) (e▸hq)⟩
 ·cases ho
def Zqg (an:Ans) (sz n:Nat) (f:Nat→List AV) (c:Option Prop):Option Out:=
 match an with
 | .new i=>some {r:= .arr i,wr:=[(i,some (.arr sz n f))],c:=c}
 |_=>none
def Zww (an:Ans) (L:List Nat) (sz n:Nat) (f:Nat→List AV) (c:Option Prop):Option Out:=
 match an with
 | .new i=>some {r:= .arr i,wr:=[(i,some (.oar L sz n f))],c:=c}
 |_=>none
theorem good_oar {B:Base} {κ:Nat→Value} {ob:Nat→Option Ob} {w:World} (hm:MS B κ ob w) {an:Ans} (hn:∀i∈an.news,Zes B ob i) {L:List Nat} {sz n cap:Nat} {f:Nat→List AV} {cur:Array Value} (e:TypeId) {c:Option Prop}
  (hL:∀i,i<n→∀q,q∈AV.idsL (f i)→q∈L) (hnL:∀i∈an.news,i∉L)
  (hnc:n≤cap) (hcm:cap≤maxLen) (hsize:cap*sz≤cur.size) (hcells:∀i,i<n→(f i).length=sz∧∀(j:Nat) (u:AV),(f i)[j]? =some u→∃x,cur[i*sz+j]? =some x∧x.oneCell'=true∧Rel κ w (SS B κ ob w) u x)
  {out:Out} (ho:Zww an L sz n f c=some out):Good B κ ob w an.news out (.slice (some ⟨w.heap.size,0,none⟩) n cap) (w.alloc (.cells cur e)):=by
 unfold Zww at ho
 split at ho
 ·rename_i i
  cases ho
  refine Znz hm (hn i (by simp [Ans.news])) (.oar L sz n f) cur e _ (fun b hb=>by simp [Zbx,blk] at hb;exact hb.2.symm) (fun κ' S' hk hk'=>⟨hL,?_⟩) _ (fun κ' w' S' h=> .arr i _ _ _ h) _
  by_cases h0:cap=0
  ·exact .inl ⟨by omega,_,by rw [h0,show n=0 by omega]⟩
  ·refine .inr ⟨_,cur,e,cap,rfl,by omega,heap_alloc_new w _,hnc,hsize,hcm,fun k hkn=>⟨(hcells k hkn).1,fun j u hj=> ?_⟩⟩
   obtain ⟨x,hx,h1,hr⟩:=(hcells k hkn).2 j u hj
   exact ⟨x,hx,h1,hr.keep hk fun q hq=>hk' q fun e=>hnL i (by simp [Ans.news]) (e▸hL k hkn q (AV.idsL_in hj hq))⟩
 ·cases ho
theorem Zsz {B:Base} {κ:Nat→Value} {ob:Nat→Option Ob} {w:World} (hm:MS B κ ob w) {an:Ans} (hn:∀i∈an.news,Zes B ob i) {sz n cap:Nat} {f:Nat→List AV} {cur:Array Value} (e:TypeId) {c:Option Prop}
  (hnc:n≤cap) (hcm:cap≤maxLen) (hsize:cap*sz≤cur.size) (hcells:∀i,i<n→(f i).length=sz∧∀(j:Nat) (u:AV),(f i)[j]? =some u→∃x,cur[i*sz+j]? =some x∧x.oneCell'=true∧RelT w (SS B κ ob w) u x)
  {out:Out} (ho:Zqg an sz n f c=some out):Good B κ ob w an.news out (.slice (some ⟨w.heap.size,0,none⟩) n cap) (w.alloc (.cells cur e)):=by
 unfold Zqg at ho
 split at ho
 ·rename_i i
  cases ho
  refine Znz hm (hn i (by simp [Ans.news])) (.arr sz n f) cur e _ (fun b hb=>by simp [Zbx,blk] at hb;exact hb.2.symm) (fun κ' S' hk hk'=> ?_) _ (fun κ' w' S' h=> .arr i _ _ _ h) _
  by_cases h0:cap=0
  ·exact .inl ⟨by omega,_,by rw [h0,show n=0 by omega]⟩
  ·refine .inr ⟨_,cur,e,cap,rfl,by omega,heap_alloc_new w _,hnc,hsize,hcm,fun k hkn=>⟨(hcells k hkn).1,fun j u hj=> ?_⟩⟩
   obtain ⟨x,hx,h1,hr⟩:=(hcells k hkn).2 j u hj
   exact ⟨x,hx,h1,hr.keep hk⟩
 ·cases ho
def setF (f:Nat→List AV) (k j:Nat) (us:List AV) (q:Nat):List AV:=bif Nat.beq q k then spl (f k) j us else f q
def setB (s:ByteArray) (k:Nat) (v:Int):ByteArray:=⟨s.data.setIfInBounds k (UInt8.ofNat v.toNat)⟩
theorem Zfx (s:ByteArray) (k:Nat) (v:Int):(setB s k v).size=s.size:=by show (s.data.setIfInBounds k _).size=s.data.size;exact Array.size_setIfInBounds
theorem Zqs {s:ByteArray} {k:Nat} {v:Int} (hk:k<s.size) (hv:0≤v∧v≤255) (i:Nat):bAt (setB s k v) i=if i=k then v else bAt s i:=by
 have hk':k<s.data.toList.length:=by rw [Array.length_toList];exact hk
 have e:(setB s k v).data.toList=s.data.toList.set k (UInt8.ofNat v.toNat):=by show (s.data.setIfInBounds k _).toList=_;exact Array.toList_setIfInBounds
 unfold bAt
 rw [e,List.getD_eq_getElem?_getD,List.getD_eq_getElem?_getD,List.getElem?_set]
 by_cases h:i=k
 ·subst h
  rw [if_pos rfl,if_pos hk',if_pos rfl]
  simp only [Option.getD_some]
  have:(UInt8.ofNat v.toNat).toNat=v.toNat:=by simp [UInt8.toNat_ofNat];omega
  omega
 ·rw [if_neg (fun q=>h q.symm),if_neg h]
def Znj (P:Program) (t:TypeId) (ob:Nat→Option Ob) (a x:AV):Option Out:=
 match a,Zdx x,Zds P t with
 | .ref i off,some us,some n=>match ob i with
  |some (.box cs)=>bif us.all Zll&&Nat.beq us.length n&&Nat.ble (off+n) cs.length then some {r:= .any,wr:=[(i,some (.box (spl cs off us)))]} else none
  |_=>none
 | .elt i sz k j,some us,some m=>match ob i with
  |some (.arr sz' n f)=>bif us.all Zll&&Nat.beq us.length m&&Nat.ble (j+m) sz&&Nat.beq sz sz'&&(AV.idsL us).isEmpty then
    some {r:= .any,wr:=[(i,some (.arr sz n (fun q=>bif Nat.beq q k then spl (f k) j us else f q)))],c:=some (k<n)} else none
  |some (.oar L sz' n f)=>bif us.all Zll&&Nat.beq us.length m&&Nat.ble (j+m) sz&&Nat.beq sz sz' then
    some {r:= .any,wr:=[(i,some (.oar (L++AV.idsL us) sz n (fun q=>bif Nat.beq q k then spl (f k) j us else f q)))],c:=some (k<n)} else none
  |some (.byt t)=>match us,m with
   | [.val (.int .u8 v)],1=>bif Nat.beq sz 1&&Nat.beq j 0 then some {r:= .any,wr:=[(i,some (.byt (setB t k v)))],c:=some (k<t.size∧0≤v∧v≤255)} else none
   |_,_=>none
  |_=>none
 | .relt i p sz k j,some us,some m=>match ob i with
  |some (.fam N sz' mm g)=>bif us.all Zll&&Nat.beq us.length m&&Nat.ble (j+m) sz&&Nat.beq sz sz'&&(AV.idsL us).isEmpty then
    some {r:= .any,wr:=[(i,some (.fam N sz mm (fun q=>bif Nat.beq q p then (fun q=>bif Nat.beq q k then spl (g p k) j us else g p q) else g q)))],c:=some (p<N∧k<mm p)} else none
  |_=>none
 |_,_,_=>none
theorem Zja {P:Program} {t:TypeId} {m:Nat} (hs:Zds P t=some m) {R:AV→Value→Prop} {w:World} {sz n:Nat} {f:Nat→List AV} {b n' c':Nat} (h:ArrG R w sz n f (.slice (some ⟨b,0,none⟩) n' c')) {k j:Nat} (hk:k<n) (hj:j+m≤sz)
  {us:List AV} {vx:Value} (hl:us.length=vx.cells.toList.length) (hm:us.length=m) (hone:∀v∈vx.cells.toList,v.oneCell'=true):
  ∃w',(storeVar t ⟨b,k*sz+j,none⟩ vx).run P w= .ok () w'∧w'.heap.size=w.heap.size∧(∀q,q≠b→w'.heap[q]? =w.heap[q]?)∧w'.os=w.os∧w'.tape=w.tape∧w'.output=w.output∧blk (.slice (some ⟨b,0,none⟩) n' c')=some b∧
   ∀R':AV→Value→Prop,(∀(i p:Nat) (u:AV) (x:Value),i<n→(f i)[p]? =some u→R u x→R' u x)→(∀(p:Nat) (u:AV) (x:Value),us[p]? =some u→vx.cells.toList[p]? =some x→R' u x)→ArrG R' w' sz n (setF f k j us) (.slice (some ⟨b,0,none⟩) n' c'):=by
 rcases h with ⟨h0,_⟩|⟨b',cur,e,c,e1,h0,h1,h2,h3,h4,h5⟩
 ·omega
 ·cases e1
  have hin:k*sz+j+m≤cur.size:=by
   have:(k+1)*sz≤c'*sz:=Nat.mul_le_mul_right _ (by omega)
   rw [Nat.succ_mul] at this
   omega
  obtain ⟨w',r1,r2,r3,r4,r5,r6,r7⟩:=Zjj (P:=P) hs h1 (o:=k*sz+j) (v:=vx) (by rw [←hl];exact hm) hone hin
  refine ⟨w',r1,r3,r4,r5,r6,r7,by simp [blk];omega,fun R' hR hu=> ?_⟩
  refine .inr ⟨b,_,e,c',rfl,h0,r2,h2,by rw [Zkr];exact h3,h4,fun q hq=> ?_⟩
  have hfk:=(h5 k hk).1
  unfold setF
  by_cases eq:q=k
  ·subst eq
   simp only [Nat.beq_refl,cond_true]
   refine ⟨(Ziy (by omega)).trans hfk,fun p u hu'=> ?_⟩
   rw [Zwx (by omega)] at hu'
   have hget:=Zjx vx.cells.toList cur (q*sz+j) (by omega) (q*sz+p)
   by_cases hpj:j≤p∧p<j+us.length
   ·rw [if_pos hpj] at hu'
    obtain ⟨y,hy⟩:∃y,vx.cells.toList[p-j]? =some y:=⟨_,List.getElem?_eq_getElem (by omega)⟩
    rw [if_pos (by omega),show q*sz+p-(q*sz+j)=p-j by omega,hy] at hget
    exact ⟨y,hget,hone y (List.mem_of_getElem? hy),hu _ u y hu' hy⟩
   ·rw [if_neg hpj] at hu'
    obtain ⟨y,hy,ho1,hr⟩:=(h5 q hq).2 p u hu'
    have hplt:p<sz:=by rw [←hfk];exact (List.getElem?_eq_some_iff.1 hu').1
    rw [if_neg (by omega),hy] at hget
    exact ⟨y,hget,ho1,hR q p u y hq hu' hr⟩
  ·have hbq:Nat.beq q k=false:=Bool.eq_false_iff.2 fun e=>eq (Nat.eq_of_beq_eq_true e)
   simp only [hbq,cond_false]
   refine ⟨(h5 q hq).1,fun p u hu'=> ?_⟩
   obtain ⟨y,hy,ho1,hr⟩:=(h5 q hq).2 p u hu'
   have hplt:p<sz:=by rw [←(h5 q hq).1];exact (List.getElem?_eq_some_iff.1 hu').1
   have hget:=Zjx vx.cells.toList cur (k*sz+j) (by omega) (q*sz+p)
   rw [if_neg ?_,hy] at hget
   ·exact ⟨y,hget,ho1,hR q p u y hq hu' hr⟩
   ·rcases Nat.lt_or_ge q k with hlt|hge
    ·have:(q+1)*sz≤k*sz:=Nat.mul_le_mul_right _ (by omega)
     rw [Nat.succ_mul] at this
     omega
    ·have:(k+1)*sz≤q*sz:=Nat.mul_le_mul_right _ (by omega)
     rw [Nat.succ_mul] at this
     omega
theorem setF_ids {f:Nat→List AV} {k j:Nat} {us:List AV} {L:List Nat} {n:Nat} (hL:∀i,i<n→∀q,q∈AV.idsL (f i)→q∈L) (hk:k<n):∀i,i<n→∀q,q∈AV.idsL (setF f k j us i)→q∈L++AV.idsL us:=by
 have happ:∀(a b:List AV) (q:Nat),q∈AV.idsL (a++b)→q∈AV.idsL a∨q∈AV.idsL b:=by
  intro a b q
  induction a with
  |nil=>intro h;exact .inr h
  |cons x r ih=>intro h;simp only [List.cons_append,AV.idsL,List.mem_append] at h⊢;rcases h with h|h;exact .inl (.inl h);exact (ih h).imp .inr id
 have htk:∀(a:List AV) (n q:Nat),q∈AV.idsL (a.take n)→q∈AV.idsL a:=by
  intro a
  induction a with
  |nil=>intro n q h;simpa using h
  |cons x r ih=>intro n q h;cases n with
   |zero=>simp [AV.idsL] at h
   |succ n=>simp only [List.take_succ_cons,AV.idsL,List.mem_append] at h⊢;exact h.imp id (ih n q)
 have hdr:∀(a:List AV) (n q:Nat),q∈AV.idsL (a.drop n)→q∈AV.idsL a:=by
  intro a
  induction a with
  |nil=>intro n q h;simpa using h
  |cons x r ih=>intro n q h;cases n with
   |zero=>simpa using h
   |succ n=>simp only [List.drop_succ_cons] at h;simp only [AV.idsL,List.mem_append];exact .inr (ih n q h)
 intro i hi q hq
 unfold setF at hq
 cases hb:Nat.beq i k with
 |false=>rw [hb] at hq;exact List.mem_append_left _ (hL i hi q hq)
 |true=>
  rw [hb] at hq
  simp only [cond_true,spl] at hq
  rcases happ _ _ _ hq with h|h
  ·rcases happ _ _ _ h with h|h
   ·exact List.mem_append_left _ (hL k hk q (htk _ _ _ h))
   ·exact List.mem_append_right _ h
  ·exact List.mem_append_left _ (hL k hk q (hdr _ _ _ h))
theorem Zoa {κ:Nat→Value} {w:World} {S:Bool→Nat→Prop} {us:List AV} {vs:List Value} (h:RelL κ w S us vs) (ho:us.all Zll=true):∀v∈vs,v.oneCell'=true:=by
 intro v hv
 obtain ⟨j,hj,rfl⟩:=List.getElem_of_mem hv
 have hl:=h.1
 have hu:us[j]? =some us[j]:=List.getElem?_eq_getElem (by omega)
 exact Zjt (h.2 j _ _ hu (List.getElem?_eq_getElem hj)) (List.all_eq_true.1 ho _ (List.getElem_mem _))
theorem Zpx {P:Program} {t:TypeId} {B:Base} {κ:Nat→Value} {ob obr:Nat→Option Ob} {w:World} (hm:MS B κ ob w) (hsub:∀i o,obr i=some o→ob i=some o) {a x:AV} {va vx:Value}
  (ha:Rel κ w (SS B κ ob w) a va) (hx:Rel κ w (SS B κ ob w) x vx) {out:Out} (ho:Znj P t obr a x=some out) (hc:out.cond):
  ∃w',(Instr.storeAt t va vx).run P w= .ok () w'∧Good B κ ob w [] out undef w':=by
 unfold Znj at ho
 split at ho
 ·rename_i _ _ _ i off us n hus hs
  split at ho
  ·rename_i cs hoi
   cases hb:(us.all Zll&&Nat.beq us.length n&&Nat.ble (off+n) cs.length) with
   |false=>simp [hb] at ho
   |true=>
    simp only [hb,cond_true,Option.some.injEq] at ho
    subst ho
    simp only [Bool.and_eq_true,Nat.beq_eq,Nat.ble_eq] at hb
    obtain ⟨⟨b1,b2⟩,b3⟩:=hb
    have hobi:=hsub i _ hoi
    cases ha with
    |tree _ _ h=>cases h
    |ref _ _ b hκ=>
     obtain ⟨b',cur,e,e1,h1,h2,h3⟩:=hm.obj i _ hobi
     rw [hκ] at e1
     cases e1
     have hrel:=Zel hx hus
     have hlen:=hrel.1
     obtain ⟨w',r1,r2,r3,r4,r5,r6,r7⟩:=Zjj (P:=P) hs h1 (o:=off) (v:=vx) (by rw [←hlen];exact b2) (Zoa hrel b1) (by omega)
     refine ⟨w',by simp [Instr.storeAt,Instr.sureAddr,r1],?_⟩
     have hne:ob i≠none:=by rw [hobi];simp
     have hp:=MS.put (ob':=Zce ob [(i,some (.box (spl cs off us)))]) (w':=w') hm i (.box (spl cs off us)) (κ i) (by simp [Zaw]) (fun j hj _=>by simp [Zaw,hj]) (fun _=>rfl)
      (fun c hc'=>⟨.inr ⟨i,hne,.inl rfl,hc'⟩,by rw [r3];exact (hm.ownb i c hne hc').1⟩) r5 r6 r7 (by omega) (fun c _ hc'=>r4 c (fun e=>hc' (by rw [hκ,e];exact .inl rfl)))
      (fun h=>absurd h hne) (fun _=>rfl) (fun hfr=>by
       refine (fun (hh:∀v,v=κ i→ObRel _ _ _ _ v)=>hh _ rfl) ?_
       intro v hv
       rw [hκ] at hv
       subst hv
       have hrl:RelL κ w (SS B κ ob w) cs cur.toList:=⟨by simpa using h2,fun j u x hj hx=>h3 j u x hj (by simpa using hx)⟩
       have hspl:=Ztc (off:=off) hrl hrel (by omega)
       refine ⟨b,_,e,rfl,r2,by simpa using hspl.1,fun j u x hj hx=>(hspl.2 j u x hj (by simpa using hx)).keep hfr fun q _=> ?_⟩
       by_cases eq:q=i
       ·subst eq;rw [Zav,hκ]
       ·exact Zbi _ _ eq)
     have hκ':Zfl κ i (κ i)=κ:=by funext q;by_cases eq:q=i<;>simp [Zfl,eq]
     rw [hκ'] at hp
     exact ⟨κ,fun _ _=>rfl,hp.1,.tree _ _ (.any _),hp.2⟩
  ·cases ho
 ·rename_i _ _ _ i sz k j us m hus hs
  split at ho
  ·rename_i sz' n f hoi
   cases hb:(us.all Zll&&Nat.beq us.length m&&Nat.ble (j+m) sz&&Nat.beq sz sz'&&(AV.idsL us).isEmpty) with
   |false=>simp [hb] at ho
   |true=>
    simp only [hb,cond_true,Option.some.injEq] at ho
    subst ho
    simp only [Bool.and_eq_true,Nat.beq_eq,Nat.ble_eq,List.isEmpty_iff] at hb
    obtain ⟨⟨⟨⟨b1,b2⟩,b3⟩,b4⟩,b5⟩:=hb
    subst b4
    have hobi:=hsub i _ hoi
    have hkn:k<n:=hc
    cases ha with
    |tree _ _ h=>cases h
    |elt _ _ _ _ b n' c' hκ=>
     have hobj:=hm.obj i _ hobi
     rw [hκ] at hobj
     have hrel:=Zel hx hus
     obtain ⟨w',r1,r3,r4,r5,r6,r7,hbk,hfin⟩:=Zja (P:=P) hs hobj hkn b3 hrel.1 b2 (Zoa hrel b1)
     refine ⟨w',by simp [Instr.storeAt,Instr.sureAddr,r1],?_⟩
     have hne:ob i≠none:=by rw [hobi];simp
     have hp:=MS.put (ob':=Zce ob [(i,some (.arr sz n (fun q=>bif Nat.beq q k then spl (f k) j us else f q)))]) (w':=w') hm i (.arr sz n (fun q=>bif Nat.beq q k then spl (f k) j us else f q)) (κ i) (by simp [Zaw])
      (fun j hj _=>by simp [Zaw,hj]) (fun _=>rfl)
      (fun c hc'=>⟨.inr ⟨i,hne,.inl rfl,hc'⟩,by rw [r3];exact (hm.ownb i c hne hc').1⟩) r5 r6 r7 (by omega) (fun q _ hc'=>r4 q (fun e=>hc' (by rw [hκ,e];exact .inl hbk)))
      (fun h=>absurd h hne) (fun _=>rfl) (fun hfr=>by
       refine (fun (hh:∀v,v=κ i→ObRel _ _ _ _ v)=>hh _ rfl) ?_
       intro v hv
       rw [hκ] at hv
       subst hv
       exact hfin _ (fun _ _ u x _ _ hr=>hr.keep hfr) fun p u x hp hx=>((hrel.2 p u x hp hx).toT (AV.idsL_all b5 hp)).keep hfr)
     have hκ':Zfl κ i (κ i)=κ:=by funext q;by_cases eq:q=i<;>simp [Zfl,eq]
     rw [hκ'] at hp
     exact ⟨κ,fun _ _=>rfl,hp.1,.tree _ _ (.any _),hp.2⟩
  ·rename_i L sz' n f hoi
   cases hb:(us.all Zll&&Nat.beq us.length m&&Nat.ble (j+m) sz&&Nat.beq sz sz') with
   |false=>simp [hb] at ho
   |true=>
    simp only [hb,cond_true,Option.some.injEq] at ho
    subst ho
    simp only [Bool.and_eq_true,Nat.beq_eq,Nat.ble_eq] at hb
    obtain ⟨⟨⟨b1,b2⟩,b3⟩,b4⟩:=hb
    subst b4
    have hobi:=hsub i _ hoi
    have hkn:k<n:=hc
    cases ha with
    |tree _ _ h=>cases h
    |elt _ _ _ _ b n' c' hκ=>
     have hobj:=hm.obj i _ hobi
     rw [hκ] at hobj
     obtain ⟨hL,hobj⟩:=hobj
     have hrel:=Zel hx hus
     obtain ⟨w',r1,r3,r4,r5,r6,r7,hbk,hfin⟩:=Zja (P:=P) hs hobj hkn b3 hrel.1 b2 (Zoa hrel b1)
     refine ⟨w',by simp [Instr.storeAt,Instr.sureAddr,r1],?_⟩
     have hne:ob i≠none:=by rw [hobi];simp
     have hκ':Zfl κ i (κ i)=κ:=by funext q;by_cases eq:q=i<;>simp [Zfl,eq]
     have hp:=MS.put (ob':=Zce ob [(i,some (.oar (L++AV.idsL us) sz n (fun q=>bif Nat.beq q k then spl (f k) j us else f q)))]) (w':=w') hm i (.oar (L++AV.idsL us) sz n (fun q=>bif Nat.beq q k then spl (f k) j us else f q)) (κ i) (by simp [Zaw])
      (fun j hj _=>by simp [Zaw,hj]) (fun _=>rfl)
      (fun c hc'=>⟨.inr ⟨i,hne,.inl rfl,hc'⟩,by rw [r3];exact (hm.ownb i c hne hc').1⟩) r5 r6 r7 (by omega) (fun q _ hc'=>r4 q (fun e=>hc' (by rw [hκ,e];exact .inl hbk)))
      (fun h=>absurd h hne) (fun _=>rfl) (fun hfr=>by
       refine (fun (hh:∀v,v=κ i→ObRel _ _ _ _ v)=>hh _ rfl) ?_
       intro v hv
       rw [hκ] at hv
       subst hv
       exact ⟨setF_ids hL hkn,hfin _ (fun _ _ u x _ _ hr=>hr.keep hfr fun q _=>by by_cases eq:q=i<;>simp [Zfl,eq,hκ]) fun p u x hp hx=>(hrel.2 p u x hp hx).keep hfr fun q _=>by by_cases eq:q=i<;>simp [Zfl,eq,hκ]⟩)
     rw [hκ'] at hp
     exact ⟨κ,fun _ _=>rfl,hp.1,.tree _ _ (.any _),hp.2⟩
  ·rename_i t0 hoi
   split at ho
   ·rename_i v
    cases hb:(Nat.beq sz 1&&Nat.beq j 0) with
    |false=>simp [hb] at ho
    |true=>
     simp only [hb,cond_true,Option.some.injEq] at ho
     subst ho
     simp only [Bool.and_eq_true,Nat.beq_eq] at hb
     obtain ⟨rfl,rfl⟩:=hb
     have hobi:=hsub i _ hoi
     obtain ⟨hkn,hv0,hv1⟩:k<t0.size∧0≤v∧v≤255:=hc
     cases ha with
     |tree _ _ h=>cases h
     |elt _ _ _ _ b n' c' hκ=>
      have hobj:=hm.obj i _ hobi
      rw [hκ] at hobj
      obtain ⟨b',cur,e,c,e1,h0,h1,h2,h3,h4,h5⟩:=hobj
      cases e1
      have hrel:=Zel hx hus
      obtain ⟨y,hy⟩:∃y,vx.cells.toList=[y]:=List.length_eq_one_iff.1 hrel.1.symm
      have hy2:=hrel.2 0 _ y rfl (by rw [hy];rfl)
      obtain rfl:=hy2.val_of
      have hvx:vx.cells=#[.int .u8 v]:=Array.ext' (by rw [hy])
      obtain ⟨w',r1,r2,r3,r4,r5,r6,r7⟩:=Zob (P:=P) hs hvx rfl h1 (o:=k) (by dsimp only;omega) (by omega)
      refine ⟨w',by rw [Nat.mul_one,Nat.add_zero];simp [Instr.storeAt,Instr.sureAddr,r1],?_⟩
      have hne:ob i≠none:=by rw [hobi];simp
      have hbk:blk (.slice (some ⟨b,0,none⟩) t0.size c')=some b:=by simp [blk];omega
      have hp:=MS.put (ob':=Zce ob [(i,some (.byt (setB t0 k v)))]) (w':=w') hm i (.byt (setB t0 k v)) (κ i) (by simp [Zaw])
       (fun j hj _=>by simp [Zaw,hj]) (fun _=>rfl)
       (fun c hc'=>⟨.inr ⟨i,hne,.inl rfl,hc'⟩,by rw [r3];exact (hm.ownb i c hne hc').1⟩) r5 r6 r7 (by omega) (fun q _ hc'=>r4 q (fun e=>hc' (by rw [hκ,e];exact .inl hbk)))
       (fun h=>absurd h hne) (fun _=>rfl) (fun hfr=>by
        refine (fun (hh:∀v,v=κ i→ObRel _ _ _ _ v)=>hh _ rfl) ?_
        intro v' hv'
        rw [hκ] at hv'
        subst hv'
        refine ⟨b,_,e,c',by rw [Zfx],h0,by rw [Array.size_setIfInBounds];exact r2,by rw [Zfx];exact h2,by rw [Array.size_setIfInBounds];exact h3,h4,fun q hq=> ?_⟩
        rw [Zfx] at hq
        rw [Zqs hkn ⟨hv0,hv1⟩,Array.getElem?_setIfInBounds]
        by_cases e2:q=k
        ·subst e2
         rw [if_pos rfl,if_pos rfl,if_pos (by omega)]
        ·rw [if_neg (fun h=>e2 h.symm),if_neg e2];exact h5 q hq)
      have hκ':Zfl κ i (κ i)=κ:=by funext q;by_cases eq:q=i<;>simp [Zfl,eq]
      rw [hκ'] at hp
      exact ⟨κ,fun _ _=>rfl,hp.1,.tree _ _ (.any _),hp.2⟩
   ·cases ho
  ·cases ho
 ·rename_i _ _ _ i p sz k j us m hus hs
  split at ho
  ·rename_i N sz' mm g hoi
   cases hb:(us.all Zll&&Nat.beq us.length m&&Nat.ble (j+m) sz&&Nat.beq sz sz'&&(AV.idsL us).isEmpty) with
   |false=>simp [hb] at ho
   |true=>
    simp only [hb,cond_true,Option.some.injEq] at ho
    subst ho
    simp only [Bool.and_eq_true,Nat.beq_eq,Nat.ble_eq,List.isEmpty_iff] at hb
    obtain ⟨⟨⟨⟨b1,b2⟩,b3⟩,b4⟩,b5⟩:=hb
    subst b4
    have hobi:=hsub i _ hoi
    obtain ⟨hpN,hkn⟩:p<N∧k<mm p:=hc
    cases ha with
    |tree _ _ h=>cases h
    |relt _ _ _ _ _ b n' c' vs hκ hvs=>
     obtain ⟨vs',e1,e2,e3,e4⟩:=hm.obj i _ hobi
     rw [hκ] at e1
     cases e1
     have hrel:=Zel hx hus
     obtain ⟨w',r1,r3,r4,r5,r6,r7,hbk,hfin⟩:=Zja (P:=P) hs (e3 p _ hvs) hkn b3 hrel.1 b2 (Zoa hrel b1)
     refine ⟨w',by simp [Instr.storeAt,Instr.sureAddr,r1],?_⟩
     have hne:ob i≠none:=by rw [hobi];simp
     have hp:=MS.put (ob':=Zce ob [(i,some (.fam N sz mm (fun q=>bif Nat.beq q p then (fun q=>bif Nat.beq q k then spl (g p k) j us else g p q) else g q)))]) (w':=w') hm i (.fam N sz mm (fun q=>bif Nat.beq q p then (fun q=>bif Nat.beq q k then spl (g p k) j us else g p q) else g q)) (κ i) (by simp [Zaw])
      (fun j hj _=>by simp [Zaw,hj]) (fun _=>rfl)
      (fun c hc'=>⟨.inr ⟨i,hne,.inl rfl,hc'⟩,by rw [r3];exact (hm.ownb i c hne hc').1⟩) r5 r6 r7 (by omega) (fun q _ hc'=>r4 q (fun e=>hc' (by rw [hκ,e];exact .inr ⟨_,rfl,p,_,hvs,hbk⟩)))
      (fun h=>absurd h hne) (fun _=>rfl) (fun hfr=>by
       refine (fun (hh:∀v,v=κ i→ObRel _ _ _ _ v)=>hh _ rfl) ?_
       intro v hv
       rw [hκ] at hv
       subst hv
       refine ⟨vs,rfl,e2,fun q r hq=> ?_,e4⟩
       by_cases eq:q=p
       ·subst eq
        rw [hvs] at hq
        cases hq
        simp only [Nat.beq_refl,cond_true]
        exact hfin _ (fun _ _ u x _ _ hr=>hr.keep hfr) fun p u x hp hx=>((hrel.2 p u x hp hx).toT (AV.idsL_all b5 hp)).keep hfr
       ·have hbq:Nat.beq q p=false:=Bool.eq_false_iff.2 fun e=>eq (Nat.eq_of_beq_eq_true e)
        simp only [hbq,cond_false]
        exact (e3 q r hq).keep (fun c hc=>r4 c fun e=>eq (e4 q p r _ b hq hvs (e▸hc) hbk)) hfr)
     have hκ':Zfl κ i (κ i)=κ:=by funext q;by_cases eq:q=i<;>simp [Zfl,eq]
     rw [hκ'] at hp
     exact ⟨κ,fun _ _=>rfl,hp.1,.tree _ _ (.any _),hp.2⟩
  ·cases ho
 ·cases ho
end Go.Proofs.YtnlfghpgfjlblaaDoor.Ax
