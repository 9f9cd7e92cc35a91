/- The abstract run's memory operations: addresses, loading, storing, new objects. Plain lemmas on the model. No conditions. -/
import Derived.Test.YtfafngbbaplknaaAxC
namespace Go.Proofs.Ytfafngbbaplknaa.Ax
open Go.RowKit
set_option linter.unusedVariables false
set_option linter.unusedSimpArgs false
theorem AV.idsL_all {cs:List AV} (h:AV.idsL cs=[]) {i:Nat} {a:AV} (hi:cs[i]? =some a):a.ids=[]:=by
 induction cs generalizing i with
 |nil=>simp at hi
 |cons c r ih=>
  simp only [AV.idsL,List.append_eq_nil_iff] at h
  cases i with
  |zero=>simp at hi;subst hi;exact h.1
  |succ i=>exact ih h.2 (by simpa using hi)
theorem Rel.toT {κ:Nat→Value} {w:World} {S:Bool→Nat→Prop} {a:AV} {v:Value} (h:Rel κ w S a v) (hi:a.ids=[]):RelT w S a v:=by
 induction h with
 |tree a v h=>exact h
 |agg cs vs h1 _ ih=>exact .agg cs vs h1 fun i a v ha hv=>ih i a v ha hv (AV.idsL_all hi ha)
 |tup cs vs h1 _ ih=>exact .tup cs vs h1 fun i a v ha hv=>ih i a v ha hv (AV.idsL_all hi ha)
 |fn f cs vs h1 _ ih=>exact .fn f cs vs h1 fun i a v ha hv=>ih i a v ha hv (AV.idsL_all hi ha)
 |ref i off b h=>simp [AV.ids] at hi
 |elt i sz k j b n c h=>simp [AV.ids] at hi
 |arr i A n c h=>simp [AV.ids] at hi
 |row i p vs A n c h h'=>simp [AV.ids] at hi
 |relt i p sz k j b n c vs h h'=>simp [AV.ids] at hi
 |mapr i r h=>simp [AV.ids] at hi
 |win i o n b M c h h'=>simp [AV.ids] at hi
theorem AV.idsL_nil {cs:List AV} (h:∀(i:Nat) (a:AV),cs[i]? =some a→a.ids=[]):AV.idsL cs=[]:=by
 induction cs with
 |nil=>rfl
 |cons c r ih=>simp only [AV.idsL,h 0 c rfl,List.nil_append];exact ih fun i a hi=>h (i+1) a (by simpa using hi)
theorem RelT.ids_nil {w:World} {S:Bool→Nat→Prop} {a:AV} {v:Value} (h:RelT w S a v):a.ids=[]:=by
 induction h with
 |agg cs vs h1 _ ih=>exact AV.idsL_nil fun i a ha=>ih i a _ ha (Array.getElem?_eq_getElem (by rw [←h1];exact (List.getElem?_eq_some_iff.1 ha).1))
 |tup cs vs h1 _ ih=>exact AV.idsL_nil fun i a ha=>ih i a _ ha (Array.getElem?_eq_getElem (by rw [←h1];exact (List.getElem?_eq_some_iff.1 ha).1))
 |fn f cs vs h1 _ ih=>exact AV.idsL_nil fun i a ha=>ih i a _ ha (Array.getElem?_eq_getElem (by rw [←h1];exact (List.getElem?_eq_some_iff.1 ha).1))
 |_=>rfl
theorem ArrG.ids_nil {w:World} {S:Bool→Nat→Prop} {sz n:Nat} {f:Nat→List AV} {v:Value} (h:ArrG (RelT w S) w sz n f v) {i:Nat} (hi:i<n):AV.idsL (f i)=[]:=by
 rcases h with ⟨h,_⟩|⟨b,cur,e,c,rfl,h0,h1,h2,h3,h4,h5⟩
 ·omega
 ·exact AV.idsL_nil fun j u hj=>by obtain ⟨x,_,_,hr⟩:=(h5 i hi).2 j u hj;exact hr.ids_nil
theorem Zdt (b o k:Nat):(⟨b,o,none⟩:Addr).add k=⟨b,o+k,none⟩:=by unfold Addr.add;split<;>simp_all
def Zfc (ob:Nat→Option Ob):AV→Option (List AV×Option Prop)
 | .ptr _ cs=>some (cs,none)
 | .ref i off=>match ob i with
  |some (.box cs)=>some (cs.drop off,none)
  |_=>none
 | .elt i sz k j=>match ob i with
  |some (.arr sz' n f)=>bif Nat.beq sz sz' then some ((f k).drop j,some (k<n)) else none
  |some (.oar _ sz' n f)=>bif Nat.beq sz sz' then some ((f k).drop j,some (k<n)) else none
  |_=>none
 | .relt i p sz k j=>match ob i with
  |some (.fam N sz' m g)=>bif Nat.beq sz sz' then some ((g p k).drop j,some (p<N∧k<m p)) else none
  |_=>none
 |_=>none
theorem Zjv {R:AV→Value→Prop} {w:World} {sz n:Nat} {f:Nat→List AV} {b n' c':Nat} (h:ArrG R w sz n f (.slice (some ⟨b,0,none⟩) n' c')) {k:Nat} (hk:k<n) (j:Nat):
  ∃g:Nat→Value,(∀q,q<((f k).drop j).length→w.cell? ⟨b,k*sz+j+q,none⟩=some (g q))∧∀(q:Nat) (u:AV),((f k).drop j)[q]? =some u→R u (g q):=by
 rcases h with ⟨h0,_⟩|⟨b',cur,e,c,e1,h0,h1,h2,h3,h4,h5⟩
 ·omega
 ·cases e1
  obtain ⟨hl,hcell⟩:=h5 k hk
  refine ⟨fun q=>cur.getD (k*sz+j+q) undef,fun q hq=> ?_,fun q u hq=> ?_⟩
  ·simp [hl] at hq
   obtain ⟨u,hu⟩:∃u,(f k)[j+q]? =some u:=⟨_,List.getElem?_eq_getElem (by omega)⟩
   obtain ⟨x,hx,_,_⟩:=hcell _ u hu
   rw [cell_of_row w b _ cur e (0,0) h1]
   rw [←Nat.add_assoc] at hx
   rw [hx]
   simp [hx]
  ·have hq':(f k)[j+q]? =some u:=by simpa using hq
   obtain ⟨x,hx,_,hr⟩:=hcell _ u hq'
   rw [←Nat.add_assoc] at hx
   have:cur.getD (k*sz+j+q) undef=x:=by simp [hx]
   show R u (cur.getD (k*sz+j+q) undef)
   rw [this]
   exact hr
theorem Zej {B:Base} {κ:Nat→Value} {ob obr:Nat→Option Ob} {w:World} (hm:MS B κ ob w) (hsub:∀i o,obr i=some o→ob i=some o) {a:AV} {v:Value} (h:Rel κ w (SS B κ ob w) a v)
  {cs:List AV} {c:Option Prop} (hc:Zfc obr a=some (cs,c)) (hcc:(Out.mk .any [] c).cond):∃(b o:Nat) (g:Nat→Value),v= .pointer (some ⟨b,o,none⟩)∧(∀j,j<cs.length→w.cell? ⟨b,o+j,none⟩=some (g j))∧
   ∀(j:Nat) (u:AV),cs[j]? =some u→Rel κ w (SS B κ ob w) u (g j):=by
 cases a with
 |ptr fr cs'=>
  cases hc
  cases h with
  |tree _ _ h=>cases h with
   |ptr fr cs b o g hS h1 h2=>exact ⟨b,o,g,rfl,h1,fun j u hj=> .tree _ _ (h2 j u hj)⟩
 |ref i off=>
  simp only [Zfc] at hc
  split at hc
  ·rename_i cs0 ho
   cases hc
   cases h with
   |tree _ _ h=>cases h
   |ref _ _ b hκ=>
    obtain ⟨b',cur,e,e1,h1,h2,h3⟩:=hm.obj i _ (hsub i _ ho)
    rw [hκ] at e1
    cases e1
    refine ⟨b,off,fun j=>cur.getD (off+j) undef,rfl,fun j hj=> ?_,fun j u hj=> ?_⟩
    ·simp at hj
     rw [cell_of_row w b _ cur e (0,0) h1]
     simp [Array.getD,show off+j<cur.size by omega]
    ·have hj':cs0[off+j]? =some u:=by simpa using hj
     have hlt:=(List.getElem?_eq_some_iff.1 hj').1
     exact h3 _ u _ hj' (by simp [Array.getD,show off+j<cur.size by omega])
  ·cases hc
 |elt i sz k j=>
  simp only [Zfc] at hc
  split at hc
  ·rename_i sz' n f ho
   cases hb:Nat.beq sz sz' with
   |false=>simp [hb] at hc
   |true=>
    simp only [hb,cond_true,Option.some.injEq,Prod.mk.injEq] at hc
    obtain ⟨rfl,rfl⟩:=hc
    have hsz:=Nat.eq_of_beq_eq_true hb
    subst hsz
    cases h with
    |tree _ _ h=>cases h
    |elt _ _ _ _ b n' c' hκ=>
     have hobj:=hm.obj i _ (hsub i _ ho)
     rw [hκ] at hobj
     obtain ⟨g,g1,g2⟩:=Zjv hobj (k:=k) hcc j
     exact ⟨b,k*sz+j,g,rfl,g1,fun q u hq=> .tree _ _ (g2 q u hq)⟩
  ·rename_i L sz' n f ho
   cases hb:Nat.beq sz sz' with
   |false=>simp [hb] at hc
   |true=>
    simp only [hb,cond_true,Option.some.injEq,Prod.mk.injEq] at hc
    obtain ⟨rfl,rfl⟩:=hc
    have hsz:=Nat.eq_of_beq_eq_true hb
    subst hsz
    cases h with
    |tree _ _ h=>cases h
    |elt _ _ _ _ b n' c' hκ=>
     have hobj:=(hm.obj i _ (hsub i _ ho)).2
     rw [hκ] at hobj
     obtain ⟨g,g1,g2⟩:=Zjv hobj (k:=k) hcc j
     exact ⟨b,k*sz+j,g,rfl,g1,g2⟩
  ·cases hc
 |relt i p sz k j=>
  simp only [Zfc] at hc
  split at hc
  ·rename_i N sz' m g ho
   cases hb:Nat.beq sz sz' with
   |false=>simp [hb] at hc
   |true=>
    simp only [hb,cond_true,Option.some.injEq,Prod.mk.injEq] at hc
    obtain ⟨rfl,rfl⟩:=hc
    have hsz:=Nat.eq_of_beq_eq_true hb
    subst hsz
    cases h with
    |tree _ _ h=>cases h
    |relt _ _ _ _ _ b n' c' vs hκ hvs=>
     obtain ⟨vs',e1,e2,e3,e4⟩:=hm.obj i _ (hsub i _ ho)
     rw [hκ] at e1
     cases e1
     obtain ⟨g,g1,g2⟩:=Zjv (e3 p _ hvs) (k:=k) hcc.2 j
     exact ⟨b,k*sz+j,g,rfl,g1,fun q u hq=> .tree _ _ (g2 q u hq)⟩
  ·cases hc
 |_=>cases hc
def Zpf (P:Program) (t:TypeId) (ob:Nat→Option Ob) (a:AV):Option Out:=
 match Zfc ob a with
 |some (cs,c)=>match Zol P t cs with
  |some r=>some {r:=r,c:=c}
  |none=>none
 |none=>none
theorem Zlt {P:Program} {t:TypeId} {B:Base} {κ:Nat→Value} {ob obr:Nat→Option Ob} {w:World} (hm:MS B κ ob w) (hsub:∀i o,obr i=some o→ob i=some o) {a:AV} {va:Value} (h:Rel κ w (SS B κ ob w) a va)
  {out:Out} (ho:Zpf P t obr a=some out) (hc:out.cond):out.wr=[]∧∃v,Rel κ w (SS B κ ob w) out.r v∧(Instr.loadAt t va).run P w= .ok v w:=by
 unfold Zpf at ho
 split at ho
 ·rename_i cs c h1
  split at ho
  ·rename_i r h2
   cases ho
   obtain ⟨b,o,g,rfl,h3,h4⟩:=Zej hm hsub h h1 hc
   obtain ⟨v,h5,h6⟩:=Zlh (P:=P) h2 b o g h3 h4
   exact ⟨rfl,v,h6,by simp [Instr.loadAt,Instr.sureAddr,h5]⟩
  ·cases ho
 ·cases ho
def asL:AV→List AV
 | .agg us=>us
 |u=>[u]
def Zxh (P:Program) (t:TypeId) (an:Ans) (ob:Nat→Option Ob) (a:AV):Option Out:=
 match an with
 | .as u=>match Zfc ob a with
  |some (cs,some c)=>match Zol P t (asL u) with
   |some r=>some {r:=r,c:=some (c∧cs=asL u)}
   |none=>none
  |_=>none
 |_=>Zpf P t ob a
theorem Zvc {P:Program} {t:TypeId} {B:Base} {κ:Nat→Value} {ob obr:Nat→Option Ob} {w:World} (hm:MS B κ ob w) (hsub:∀i o,obr i=some o→ob i=some o) {a:AV} {va:Value} (h:Rel κ w (SS B κ ob w) a va)
  {an:Ans} {out:Out} (ho:Zxh P t an obr a=some out) (hc:out.cond):out.wr=[]∧∃v,Rel κ w (SS B κ ob w) out.r v∧(Instr.loadAt t va).run P w= .ok v w:=by
 unfold Zxh at ho
 split at ho
 ·split at ho
  ·rename_i cs c h1
   split at ho
   ·rename_i r h2
    cases ho
    obtain ⟨hc1,rfl⟩:=hc
    exact Zlt (out:= {r:=r,c:=some c}) hm hsub h (by unfold Zpf;rw [h1];simp only [h2]) hc1
   ·cases ho
  ·cases ho
 ·exact Zlt hm hsub h ho hc
theorem Zbk (ob:Nat→Option Ob) (i:Nat) (o:Option Ob) (j:Nat):Zcj ob [(i,o)] j=if j=i then o else ob j:=by
 simp only [Zcj]
 by_cases h:j=i
 ·subst h;simp
 ·have:Nat.beq j i=false:=Bool.eq_false_iff.2 fun e=>h (Nat.eq_of_beq_eq_true e)
  simp [this,h]
def Zet (B:Base) (ob:Nat→Option Ob) (i:Nat):Prop:=ob i=none∧B.bo i=false∧∀j o,ob j=some o→i∉o.ids
theorem Zpg {B:Base} {κ:Nat→Value} {ob:Nat→Option Ob} {w:World} (hm:MS B κ ob w) {i:Nat} (hn:Zet B ob i) (o:Ob) (cur:Array Value) (e:TypeId) (v:Value) (hv:∀b,Blk v b→b=w.heap.size)
  (hobj:∀(κ':Nat→Value) (S':Bool→Nat→Prop),(∀fr b,SS B κ ob w fr b→(w.alloc (.cells cur e)).heap[b]? =w.heap[b]? ∧S' fr b)→(∀k,k≠i→κ' k=κ k)→ObRel κ' (w.alloc (.cells cur e)) S' o v)
  (r:AV) (hr:∀(κ':Nat→Value) w' S',κ' i=v→Rel κ' w' S' r v) (c:Option Prop):Good B κ ob w [i] {r:=r,wr:=[(i,some o)],c:=c} v (w.alloc (.cells cur e)):=by
 have hp:=MS.put (ob':=Zcj ob [(i,some o)]) (w':=w.alloc (.cells cur e)) hm i o v (by simp [Zbk]) (fun j hj _=>by simp [Zbk,hj]) (fun h=>absurd hn.1 h)
  (fun b hb=>⟨.inl (hv b hb),by rw [hv b hb];simp⟩) rfl rfl rfl (by simp) (fun b hb _=>Go.heap_alloc_old w _ hb)
  (fun _ j oj hj ho=>hn.2.2 j oj (by simpa [Zbk,hj] using ho)) (fun h=>by rw [hn.2.1] at h;cases h)
  (fun hfr=>hobj _ _ hfr fun k hk=>Zbb _ _ hk)
 refine ⟨_,fun k hk=>Zbb _ _ (by simpa using hk),hp.1,hr _ _ _ (Zay _ _ _),hp.2⟩
def Zqn (P:Program) (e:TypeId):Option (List AV):=match P.info? e with
 |some i=>match i.zero with
  |some z=>some (z.cells.toList.map .val)
  |none=>none
 |none=>none
theorem Zhc {P:Program} {e:TypeId} {cs:List AV} (h:Zqn P e=some cs):∃z:Value,(∀w,(zeroValue e).run P w= .ok z w)∧cs=z.cells.toList.map .val:=by
 unfold Zqn at h
 split at h
 ·rename_i i hi
  split at h
  ·rename_i z hz
   cases h
   exact ⟨z,fun w=>by simp [zeroValue,typeInfo,hi,hz],rfl⟩
  ·cases h
 ·cases h
def Ztv (an:Ans) (cs:List AV) (tree:Bool):Option Out:=
 match an with
 | .new i=>bif (AV.idsL cs).any (Nat.beq i) then none else some {r:= .ref i 0,wr:=[(i,some (.box cs))]}
 |_=>none
theorem mem_any {i:Nat} {l:List Nat} (h:l.any (Nat.beq i)=false):i∉l:=by
 intro hi
 rw [List.any_eq_false] at h
 exact h i hi (by simp)
theorem Ztw {B:Base} {κ:Nat→Value} {ob:Nat→Option Ob} {w:World} (hm:MS B κ ob w) {an:Ans} (hn:∀i∈an.news,Zet B ob i) {cs:List AV} {cur:Array Value} (e:TypeId) (hc:RelL κ w (SS B κ ob w) cs cur.toList)
  {tree:Bool} {out:Out} (ho:Ztv an cs tree=some out):Good B κ ob w an.news out (.pointer (some ⟨w.heap.size,0,none⟩)) (w.alloc (.cells cur e)):=by
 unfold Ztv at ho
 split at ho
 ·rename_i i
  cases hb:(AV.idsL cs).any (Nat.beq i) with
  |true=>simp [hb] at ho
  |false=>
   simp only [hb,cond_false,Option.some.injEq] at ho
   subst ho
   refine Zpg hm (hn i (by simp [Ans.news])) (.box cs) cur e _ (fun b hb=>by simp [Zjq,blk] at hb;exact hb.symm) (fun κ' S' hk hk'=> ?_) _ (fun κ' w' S' h=> .ref i 0 _ h) _
   refine ⟨_,cur,e,rfl,heap_alloc_new w _,by simpa using hc.1,fun j u x hj hx=>(hc.2 j u x hj (by simpa using hx)).keep hk fun q hq=>hk' q fun e=>AV.idsL_mem hj (mem_any hb) (e▸hq)⟩
 ·cases ho
def Zra (an:Ans) (sz n:Nat) (f:Nat→List AV) (c:Option Prop):Option Out:=
 match an with
 | .new i=>some {r:= .arr i,wr:=[(i,some (.arr sz n f))],c:=c}
 |_=>none
def Zxr (an:Ans) (L:List Nat) (sz n:Nat) (f:Nat→List AV) (c:Option Prop):Option Out:=
 match an with
 | .new i=>some {r:= .arr i,wr:=[(i,some (.oar L sz n f))],c:=c}
 |_=>none
theorem good_oar {B:Base} {κ:Nat→Value} {ob:Nat→Option Ob} {w:World} (hm:MS B κ ob w) {an:Ans} (hn:∀i∈an.news,Zet B ob i) {L:List Nat} {sz n cap:Nat} {f:Nat→List AV} {cur:Array Value} (e:TypeId) {c:Option Prop}
  (hL:∀i,i<n→∀q,q∈AV.idsL (f i)→q∈L) (hnL:∀i∈an.news,i∉L)
  (hnc:n≤cap) (hcm:cap≤maxLen) (hsize:cap*sz≤cur.size) (hcells:∀i,i<n→(f i).length=sz∧∀(j:Nat) (u:AV),(f i)[j]? =some u→∃x,cur[i*sz+j]? =some x∧x.oneCell'=true∧Rel κ w (SS B κ ob w) u x)
  {out:Out} (ho:Zxr an L sz n f c=some out):Good B κ ob w an.news out (.slice (some ⟨w.heap.size,0,none⟩) n cap) (w.alloc (.cells cur e)):=by
 unfold Zxr at ho
 split at ho
 ·rename_i i
  cases ho
  refine Zpg hm (hn i (by simp [Ans.news])) (.oar L sz n f) cur e _ (fun b hb=>by simp [Zbs,blk] at hb;exact hb.2.symm) (fun κ' S' hk hk'=>⟨hL,?_⟩) _ (fun κ' w' S' h=> .arr i _ _ _ h) _
  by_cases h0:cap=0
  ·exact .inl ⟨by omega,_,by rw [h0,show n=0 by omega]⟩
  ·refine .inr ⟨_,cur,e,cap,rfl,by omega,heap_alloc_new w _,hnc,hsize,hcm,fun k hkn=>⟨(hcells k hkn).1,fun j u hj=> ?_⟩⟩
   obtain ⟨x,hx,h1,hr⟩:=(hcells k hkn).2 j u hj
   exact ⟨x,hx,h1,hr.keep hk fun q hq=>hk' q fun e=>hnL i (by simp [Ans.news]) (e▸hL k hkn q (AV.idsL_in hj hq))⟩
 ·cases ho
theorem Zua {B:Base} {κ:Nat→Value} {ob:Nat→Option Ob} {w:World} (hm:MS B κ ob w) {an:Ans} (hn:∀i∈an.news,Zet B ob i) {sz n cap:Nat} {f:Nat→List AV} {cur:Array Value} (e:TypeId) {c:Option Prop}
  (hnc:n≤cap) (hcm:cap≤maxLen) (hsize:cap*sz≤cur.size) (hcells:∀i,i<n→(f i).length=sz∧∀(j:Nat) (u:AV),(f i)[j]? =some u→∃x,cur[i*sz+j]? =some x∧x.oneCell'=true∧RelT w (SS B κ ob w) u x)
  {out:Out} (ho:Zra an sz n f c=some out):Good B κ ob w an.news out (.slice (some ⟨w.heap.size,0,none⟩) n cap) (w.alloc (.cells cur e)):=by
 unfold Zra at ho
 split at ho
 ·rename_i i
  cases ho
  refine Zpg hm (hn i (by simp [Ans.news])) (.arr sz n f) cur e _ (fun b hb=>by simp [Zbs,blk] at hb;exact hb.2.symm) (fun κ' S' hk hk'=> ?_) _ (fun κ' w' S' h=> .arr i _ _ _ h) _
  by_cases h0:cap=0
  ·exact .inl ⟨by omega,_,by rw [h0,show n=0 by omega]⟩
  ·refine .inr ⟨_,cur,e,cap,rfl,by omega,heap_alloc_new w _,hnc,hsize,hcm,fun k hkn=>⟨(hcells k hkn).1,fun j u hj=> ?_⟩⟩
   obtain ⟨x,hx,h1,hr⟩:=(hcells k hkn).2 j u hj
   exact ⟨x,hx,h1,hr.keep hk⟩
 ·cases ho
def setF (f:Nat→List AV) (k j:Nat) (us:List AV) (q:Nat):List AV:=bif Nat.beq q k then spl (f k) j us else f q
def Zoq (P:Program) (t:TypeId) (ob:Nat→Option Ob) (a x:AV):Option Out:=
 match a,Zdw x,Zdy P t with
 | .ref i off,some us,some n=>match ob i with
  |some (.box cs)=>bif us.all Zmk&&Nat.beq us.length n&&Nat.ble (off+n) cs.length then some {r:= .any,wr:=[(i,some (.box (spl cs off us)))]} else none
  |_=>none
 | .elt i sz k j,some us,some m=>match ob i with
  |some (.arr sz' n f)=>bif us.all Zmk&&Nat.beq us.length m&&Nat.ble (j+m) sz&&Nat.beq sz sz'&&(AV.idsL us).isEmpty then
    some {r:= .any,wr:=[(i,some (.arr sz n (fun q=>bif Nat.beq q k then spl (f k) j us else f q)))],c:=some (k<n)} else none
  |some (.oar L sz' n f)=>bif us.all Zmk&&Nat.beq us.length m&&Nat.ble (j+m) sz&&Nat.beq sz sz' then
    some {r:= .any,wr:=[(i,some (.oar (L++AV.idsL us) sz n (fun q=>bif Nat.beq q k then spl (f k) j us else f q)))],c:=some (k<n)} else none
  |_=>none
 | .relt i p sz k j,some us,some m=>match ob i with
  |some (.fam N sz' mm g)=>bif us.all Zmk&&Nat.beq us.length m&&Nat.ble (j+m) sz&&Nat.beq sz sz'&&(AV.idsL us).isEmpty then
    some {r:= .any,wr:=[(i,some (.fam N sz mm (fun q=>bif Nat.beq q p then (fun q=>bif Nat.beq q k then spl (g p k) j us else g p q) else g q)))],c:=some (p<N∧k<mm p)} else none
  |_=>none
 |_,_,_=>none
theorem Zjw {P:Program} {t:TypeId} {m:Nat} (hs:Zdy P t=some m) {R:AV→Value→Prop} {w:World} {sz n:Nat} {f:Nat→List AV} {b n' c':Nat} (h:ArrG R w sz n f (.slice (some ⟨b,0,none⟩) n' c')) {k j:Nat} (hk:k<n) (hj:j+m≤sz)
  {us:List AV} {vx:Value} (hl:us.length=vx.cells.toList.length) (hm:us.length=m) (hone:∀v∈vx.cells.toList,v.oneCell'=true):
  ∃w',(storeVar t ⟨b,k*sz+j,none⟩ vx).run P w= .ok () w'∧w'.heap.size=w.heap.size∧(∀q,q≠b→w'.heap[q]? =w.heap[q]?)∧w'.os=w.os∧w'.tape=w.tape∧w'.output=w.output∧blk (.slice (some ⟨b,0,none⟩) n' c')=some b∧
   ∀R':AV→Value→Prop,(∀(i p:Nat) (u:AV) (x:Value),i<n→(f i)[p]? =some u→R u x→R' u x)→(∀(p:Nat) (u:AV) (x:Value),us[p]? =some u→vx.cells.toList[p]? =some x→R' u x)→ArrG R' w' sz n (setF f k j us) (.slice (some ⟨b,0,none⟩) n' c'):=by
 rcases h with ⟨h0,_⟩|⟨b',cur,e,c,e1,h0,h1,h2,h3,h4,h5⟩
 ·omega
 ·cases e1
  have hin:k*sz+j+m≤cur.size:=by
   have:(k+1)*sz≤c'*sz:=Nat.mul_le_mul_right _ (by omega)
   rw [Nat.succ_mul] at this
   omega
  obtain ⟨w',r1,r2,r3,r4,r5,r6,r7⟩:=Zkg (P:=P) hs h1 (o:=k*sz+j) (v:=vx) (by rw [←hl];exact hm) hone hin
  refine ⟨w',r1,r3,r4,r5,r6,r7,by simp [blk];omega,fun R' hR hu=> ?_⟩
  refine .inr ⟨b,_,e,c',rfl,h0,r2,h2,by rw [Zlr];exact h3,h4,fun q hq=> ?_⟩
  have hfk:=(h5 k hk).1
  unfold setF
  by_cases eq:q=k
  ·subst eq
   simp only [Nat.beq_refl,cond_true]
   refine ⟨(Zju (by omega)).trans hfk,fun p u hu'=> ?_⟩
   rw [Zxs (by omega)] at hu'
   have hget:=Zkt vx.cells.toList cur (q*sz+j) (by omega) (q*sz+p)
   by_cases hpj:j≤p∧p<j+us.length
   ·rw [if_pos hpj] at hu'
    obtain ⟨y,hy⟩:∃y,vx.cells.toList[p-j]? =some y:=⟨_,List.getElem?_eq_getElem (by omega)⟩
    rw [if_pos (by omega),show q*sz+p-(q*sz+j)=p-j by omega,hy] at hget
    exact ⟨y,hget,hone y (List.mem_of_getElem? hy),hu _ u y hu' hy⟩
   ·rw [if_neg hpj] at hu'
    obtain ⟨y,hy,ho1,hr⟩:=(h5 q hq).2 p u hu'
    have hplt:p<sz:=by rw [←hfk];exact (List.getElem?_eq_some_iff.1 hu').1
    rw [if_neg (by omega),hy] at hget
    exact ⟨y,hget,ho1,hR q p u y hq hu' hr⟩
  ·have hbq:Nat.beq q k=false:=Bool.eq_false_iff.2 fun e=>eq (Nat.eq_of_beq_eq_true e)
   simp only [hbq,cond_false]
   refine ⟨(h5 q hq).1,fun p u hu'=> ?_⟩
   obtain ⟨y,hy,ho1,hr⟩:=(h5 q hq).2 p u hu'
   have hplt:p<sz:=by rw [←(h5 q hq).1];exact (List.getElem?_eq_some_iff.1 hu').1
   have hget:=Zkt vx.cells.toList cur (k*sz+j) (by omega) (q*sz+p)
   rw [if_neg ?_,hy] at hget
   ·exact ⟨y,hget,ho1,hR q p u y hq hu' hr⟩
   ·rcases Nat.lt_or_ge q k with hlt|hge
    ·have:(q+1)*sz≤k*sz:=Nat.mul_le_mul_right _ (by omega)
     rw [Nat.succ_mul] at this
     omega
    ·have:(k+1)*sz≤q*sz:=Nat.mul_le_mul_right _ (by omega)
     rw [Nat.succ_mul] at this
     omega
theorem setF_ids {f:Nat→List AV} {k j:Nat} {us:List AV} {L:List Nat} {n:Nat} (hL:∀i,i<n→∀q,q∈AV.idsL (f i)→q∈L) (hk:k<n):∀i,i<n→∀q,q∈AV.idsL (setF f k j us i)→q∈L++AV.idsL us:=by
 have happ:∀(a b:List AV) (q:Nat),q∈AV.idsL (a++b)→q∈AV.idsL a∨q∈AV.idsL b:=by
  intro a b q
  induction a with
  |nil=>intro h;exact .inr h
  |cons x r ih=>intro h;simp only [List.cons_append,AV.idsL,List.mem_append] at h⊢;rcases h with h|h;exact .inl (.inl h);exact (ih h).imp .inr id
 have htk:∀(a:List AV) (n q:Nat),q∈AV.idsL (a.take n)→q∈AV.idsL a:=by
  intro a
  induction a with
  |nil=>intro n q h;simpa using h
  |cons x r ih=>intro n q h;cases n with
   |zero=>simp [AV.idsL] at h
   |succ n=>simp only [List.take_succ_cons,AV.idsL,List.mem_append] at h⊢;exact h.imp id (ih n q)
 have hdr:∀(a:List AV) (n q:Nat),q∈AV.idsL (a.drop n)→q∈AV.idsL a:=by
  intro a
  induction a with
  |nil=>intro n q h;simpa using h
  |cons x r ih=>intro n q h;cases n with
   |zero=>simpa using h
   |succ n=>simp only [List.drop_succ_cons] at h;simp only [AV.idsL,List.mem_append];exact .inr (ih n q h)
 intro i hi q hq
 unfold setF at hq
 cases hb:Nat.beq i k with
 |false=>rw [hb] at hq;exact List.mem_append_left _ (hL i hi q hq)
 |true=>
  rw [hb] at hq
  simp only [cond_true,spl] at hq
  rcases happ _ _ _ hq with h|h
  ·rcases happ _ _ _ h with h|h
   ·exact List.mem_append_left _ (hL k hk q (htk _ _ _ h))
   ·exact List.mem_append_right _ h
  ·exact List.mem_append_left _ (hL k hk q (hdr _ _ _ h))
theorem Zph {κ:Nat→Value} {w:World} {S:Bool→Nat→Prop} {us:List AV} {vs:List Value} (h:RelL κ w S us vs) (ho:us.all Zmk=true):∀v∈vs,v.oneCell'=true:=by
 intro v hv
 obtain ⟨j,hj,rfl⟩:=List.getElem_of_mem hv
 have hl:=h.1
 have hu:us[j]? =some us[j]:=List.getElem?_eq_getElem (by omega)
 exact Zkn (h.2 j _ _ hu (List.getElem?_eq_getElem hj)) (List.all_eq_true.1 ho _ (List.getElem_mem _))
theorem Zqp {P:Program} {t:TypeId} {B:Base} {κ:Nat→Value} {ob obr:Nat→Option Ob} {w:World} (hm:MS B κ ob w) (hsub:∀i o,obr i=some o→ob i=some o) {a x:AV} {va vx:Value}
  (ha:Rel κ w (SS B κ ob w) a va) (hx:Rel κ w (SS B κ ob w) x vx) {out:Out} (ho:Zoq P t obr a x=some out) (hc:out.cond):
  ∃w',(Instr.storeAt t va vx).run P w= .ok () w'∧Good B κ ob w [] out undef w':=by
 unfold Zoq at ho
 split at ho
 ·rename_i _ _ _ i off us n hus hs
  split at ho
  ·rename_i cs hoi
   cases hb:(us.all Zmk&&Nat.beq us.length n&&Nat.ble (off+n) cs.length) with
   |false=>simp [hb] at ho
   |true=>
    simp only [hb,cond_true,Option.some.injEq] at ho
    subst ho
    simp only [Bool.and_eq_true,Nat.beq_eq,Nat.ble_eq] at hb
    obtain ⟨⟨b1,b2⟩,b3⟩:=hb
    have hobi:=hsub i _ hoi
    cases ha with
    |tree _ _ h=>cases h
    |ref _ _ b hκ=>
     obtain ⟨b',cur,e,e1,h1,h2,h3⟩:=hm.obj i _ hobi
     rw [hκ] at e1
     cases e1
     have hrel:=Zey hx hus
     have hlen:=hrel.1
     obtain ⟨w',r1,r2,r3,r4,r5,r6,r7⟩:=Zkg (P:=P) hs h1 (o:=off) (v:=vx) (by rw [←hlen];exact b2) (Zph hrel b1) (by omega)
     refine ⟨w',by simp [Instr.storeAt,Instr.sureAddr,r1],?_⟩
     have hne:ob i≠none:=by rw [hobi];simp
     have hp:=MS.put (ob':=Zcj ob [(i,some (.box (spl cs off us)))]) (w':=w') hm i (.box (spl cs off us)) (κ i) (by simp [Zbk]) (fun j hj _=>by simp [Zbk,hj]) (fun _=>rfl)
      (fun c hc'=>⟨.inr ⟨i,hne,.inl rfl,hc'⟩,by rw [r3];exact (hm.ownb i c hne hc').1⟩) r5 r6 r7 (by omega) (fun c _ hc'=>r4 c (fun e=>hc' (by rw [hκ,e];exact .inl rfl)))
      (fun h=>absurd h hne) (fun _=>rfl) (fun hfr=>by
       refine (fun (hh:∀v,v=κ i→ObRel _ _ _ _ v)=>hh _ rfl) ?_
       intro v hv
       rw [hκ] at hv
       subst hv
       have hrl:RelL κ w (SS B κ ob w) cs cur.toList:=⟨by simpa using h2,fun j u x hj hx=>h3 j u x hj (by simpa using hx)⟩
       have hspl:=Zud (off:=off) hrl hrel (by omega)
       refine ⟨b,_,e,rfl,r2,by simpa using hspl.1,fun j u x hj hx=>(hspl.2 j u x hj (by simpa using hx)).keep hfr fun q _=> ?_⟩
       by_cases eq:q=i
       ·subst eq;rw [Zay,hκ]
       ·exact Zbb _ _ eq)
     have hκ':Zev κ i (κ i)=κ:=by funext q;by_cases eq:q=i<;>simp [Zev,eq]
     rw [hκ'] at hp
     exact ⟨κ,fun _ _=>rfl,hp.1,.tree _ _ (.any _),hp.2⟩
  ·cases ho
 ·rename_i _ _ _ i sz k j us m hus hs
  split at ho
  ·rename_i sz' n f hoi
   cases hb:(us.all Zmk&&Nat.beq us.length m&&Nat.ble (j+m) sz&&Nat.beq sz sz'&&(AV.idsL us).isEmpty) with
   |false=>simp [hb] at ho
   |true=>
    simp only [hb,cond_true,Option.some.injEq] at ho
    subst ho
    simp only [Bool.and_eq_true,Nat.beq_eq,Nat.ble_eq,List.isEmpty_iff] at hb
    obtain ⟨⟨⟨⟨b1,b2⟩,b3⟩,b4⟩,b5⟩:=hb
    subst b4
    have hobi:=hsub i _ hoi
    have hkn:k<n:=hc
    cases ha with
    |tree _ _ h=>cases h
    |elt _ _ _ _ b n' c' hκ=>
     have hobj:=hm.obj i _ hobi
     rw [hκ] at hobj
     have hrel:=Zey hx hus
     obtain ⟨w',r1,r3,r4,r5,r6,r7,hbk,hfin⟩:=Zjw (P:=P) hs hobj hkn b3 hrel.1 b2 (Zph hrel b1)
     refine ⟨w',by simp [Instr.storeAt,Instr.sureAddr,r1],?_⟩
     have hne:ob i≠none:=by rw [hobi];simp
     have hp:=MS.put (ob':=Zcj ob [(i,some (.arr sz n (fun q=>bif Nat.beq q k then spl (f k) j us else f q)))]) (w':=w') hm i (.arr sz n (fun q=>bif Nat.beq q k then spl (f k) j us else f q)) (κ i) (by simp [Zbk])
      (fun j hj _=>by simp [Zbk,hj]) (fun _=>rfl)
      (fun c hc'=>⟨.inr ⟨i,hne,.inl rfl,hc'⟩,by rw [r3];exact (hm.ownb i c hne hc').1⟩) r5 r6 r7 (by omega) (fun q _ hc'=>r4 q (fun e=>hc' (by rw [hκ,e];exact .inl hbk)))
      (fun h=>absurd h hne) (fun _=>rfl) (fun hfr=>by
       refine (fun (hh:∀v,v=κ i→ObRel _ _ _ _ v)=>hh _ rfl) ?_
       intro v hv
       rw [hκ] at hv
       subst hv
       exact hfin _ (fun _ _ u x _ _ hr=>hr.keep hfr) fun p u x hp hx=>((hrel.2 p u x hp hx).toT (AV.idsL_all b5 hp)).keep hfr)
     have hκ':Zev κ i (κ i)=κ:=by funext q;by_cases eq:q=i<;>simp [Zev,eq]
     rw [hκ'] at hp
     exact ⟨κ,fun _ _=>rfl,hp.1,.tree _ _ (.any _),hp.2⟩
  ·rename_i L sz' n f hoi
   cases hb:(us.all Zmk&&Nat.beq us.length m&&Nat.ble (j+m) sz&&Nat.beq sz sz') with
   |false=>simp [hb] at ho
   |true=>
    simp only [hb,cond_true,Option.some.injEq] at ho
    subst ho
    simp only [Bool.and_eq_true,Nat.beq_eq,Nat.ble_eq] at hb
    obtain ⟨⟨⟨b1,b2⟩,b3⟩,b4⟩:=hb
    subst b4
    have hobi:=hsub i _ hoi
    have hkn:k<n:=hc
    cases ha with
    |tree _ _ h=>cases h
    |elt _ _ _ _ b n' c' hκ=>
     have hobj:=hm.obj i _ hobi
     rw [hκ] at hobj
     obtain ⟨hL,hobj⟩:=hobj
     have hrel:=Zey hx hus
     obtain ⟨w',r1,r3,r4,r5,r6,r7,hbk,hfin⟩:=Zjw (P:=P) hs hobj hkn b3 hrel.1 b2 (Zph hrel b1)
     refine ⟨w',by simp [Instr.storeAt,Instr.sureAddr,r1],?_⟩
     have hne:ob i≠none:=by rw [hobi];simp
     have hκ':Zev κ i (κ i)=κ:=by funext q;by_cases eq:q=i<;>simp [Zev,eq]
     have hp:=MS.put (ob':=Zcj ob [(i,some (.oar (L++AV.idsL us) sz n (fun q=>bif Nat.beq q k then spl (f k) j us else f q)))]) (w':=w') hm i (.oar (L++AV.idsL us) sz n (fun q=>bif Nat.beq q k then spl (f k) j us else f q)) (κ i) (by simp [Zbk])
      (fun j hj _=>by simp [Zbk,hj]) (fun _=>rfl)
      (fun c hc'=>⟨.inr ⟨i,hne,.inl rfl,hc'⟩,by rw [r3];exact (hm.ownb i c hne hc').1⟩) r5 r6 r7 (by omega) (fun q _ hc'=>r4 q (fun e=>hc' (by rw [hκ,e];exact .inl hbk)))
      (fun h=>absurd h hne) (fun _=>rfl) (fun hfr=>by
       refine (fun (hh:∀v,v=κ i→ObRel _ _ _ _ v)=>hh _ rfl) ?_
       intro v hv
       rw [hκ] at hv
       subst hv
       exact ⟨setF_ids hL hkn,hfin _ (fun _ _ u x _ _ hr=>hr.keep hfr fun q _=>by by_cases eq:q=i<;>simp [Zev,eq,hκ]) fun p u x hp hx=>(hrel.2 p u x hp hx).keep hfr fun q _=>by by_cases eq:q=i<;>simp [Zev,eq,hκ]⟩)
     rw [hκ'] at hp
     exact ⟨κ,fun _ _=>rfl,hp.1,.tree _ _ (.any _),hp.2⟩
  ·cases ho
 ·rename_i _ _ _ i p sz k j us m hus hs
  split at ho
  ·rename_i N sz' mm g hoi
   cases hb:(us.all Zmk&&Nat.beq us.length m&&Nat.ble (j+m) sz&&Nat.beq sz sz'&&(AV.idsL us).isEmpty) with
   |false=>simp [hb] at ho
   |true=>
    simp only [hb,cond_true,Option.some.injEq] at ho
    subst ho
    simp only [Bool.and_eq_true,Nat.beq_eq,Nat.ble_eq,List.isEmpty_iff] at hb
    obtain ⟨⟨⟨⟨b1,b2⟩,b3⟩,b4⟩,b5⟩:=hb
    subst b4
    have hobi:=hsub i _ hoi
    obtain ⟨hpN,hkn⟩:p<N∧k<mm p:=hc
    cases ha with
    |tree _ _ h=>cases h
    |relt _ _ _ _ _ b n' c' vs hκ hvs=>
     obtain ⟨vs',e1,e2,e3,e4⟩:=hm.obj i _ hobi
     rw [hκ] at e1
     cases e1
     have hrel:=Zey hx hus
     obtain ⟨w',r1,r3,r4,r5,r6,r7,hbk,hfin⟩:=Zjw (P:=P) hs (e3 p _ hvs) hkn b3 hrel.1 b2 (Zph hrel b1)
     refine ⟨w',by simp [Instr.storeAt,Instr.sureAddr,r1],?_⟩
     have hne:ob i≠none:=by rw [hobi];simp
     have hp:=MS.put (ob':=Zcj ob [(i,some (.fam N sz mm (fun q=>bif Nat.beq q p then (fun q=>bif Nat.beq q k then spl (g p k) j us else g p q) else g q)))]) (w':=w') hm i (.fam N sz mm (fun q=>bif Nat.beq q p then (fun q=>bif Nat.beq q k then spl (g p k) j us else g p q) else g q)) (κ i) (by simp [Zbk])
      (fun j hj _=>by simp [Zbk,hj]) (fun _=>rfl)
      (fun c hc'=>⟨.inr ⟨i,hne,.inl rfl,hc'⟩,by rw [r3];exact (hm.ownb i c hne hc').1⟩) r5 r6 r7 (by omega) (fun q _ hc'=>r4 q (fun e=>hc' (by rw [hκ,e];exact .inr ⟨_,rfl,p,_,hvs,hbk⟩)))
      (fun h=>absurd h hne) (fun _=>rfl) (fun hfr=>by
       refine (fun (hh:∀v,v=κ i→ObRel _ _ _ _ v)=>hh _ rfl) ?_
       intro v hv
       rw [hκ] at hv
       subst hv
       refine ⟨vs,rfl,e2,fun q r hq=> ?_,e4⟩
       by_cases eq:q=p
       ·subst eq
        rw [hvs] at hq
        cases hq
        simp only [Nat.beq_refl,cond_true]
        exact hfin _ (fun _ _ u x _ _ hr=>hr.keep hfr) fun p u x hp hx=>((hrel.2 p u x hp hx).toT (AV.idsL_all b5 hp)).keep hfr
       ·have hbq:Nat.beq q p=false:=Bool.eq_false_iff.2 fun e=>eq (Nat.eq_of_beq_eq_true e)
        simp only [hbq,cond_false]
        exact (e3 q r hq).keep (fun c hc=>r4 c fun e=>eq (e4 q p r _ b hq hvs (e▸hc) hbk)) hfr)
     have hκ':Zev κ i (κ i)=κ:=by funext q;by_cases eq:q=i<;>simp [Zev,eq]
     rw [hκ'] at hp
     exact ⟨κ,fun _ _=>rfl,hp.1,.tree _ _ (.any _),hp.2⟩
  ·cases ho
 ·cases ho
end Go.Proofs.Ytfafngbbaplknaa.Ax
