/- The abstract run's slices: appending and cutting; conversions. Plain lemmas on the model. No conditions. -/
import Derived.Test.YtnlfghpgfjlblaaDoorAxF
namespace Go.Proofs.YtnlfghpgfjlblaaDoor.Ax
open Go.RowKit
set_option linter.unusedVariables false
set_option linter.unusedSimpArgs false
def Zuw (ob:Nat→Option Ob) (sz:Nat):AV→Option (Nat×(Nat→List AV))
 | .sl _ sz' n f=>bif Nat.beq sz sz' then some (n,f) else none
 | .arr j=>match ob j with
  |some (.arr sz' n f)=>bif Nat.beq sz sz' then some (n,f) else none
  |_=>none
 | .e0=>some (0,fun _=>[])
 | .val (.slice _ 0 _)=>some (0,fun _=>[])
 |_=>none
def FlatG (R:AV→Value→Prop) (sz n:Nat) (f:Nat→List AV) (news:List Value):Prop:=
 news.length=n*sz∧∀i,i<n→(f i).length=sz∧∀(j:Nat) (u:AV),(f i)[j]? =some u→∃x,news[i*sz+j]? =some x∧x.oneCell'=true∧R u x
def Flat (w:World) (S:Bool→Nat→Prop) (sz n:Nat) (f:Nat→List AV) (news:List Value):Prop:=FlatG (RelT w S) sz n f news
theorem Znv {i n sz j:Nat} (hi:i<n) (hj:j<sz):i*sz+j<n*sz:=by
 have:(i+1)*sz≤n*sz:=Nat.mul_le_mul_right _ (by omega)
 rw [Nat.succ_mul] at this
 omega
theorem Zhc {P : Program} {R : AV → Value → Prop} {w : World} {sz n : Nat} (hsz : 0 < sz) {f : Nat → List AV} {A : Option Addr} {n2 c2 : Nat} (hobj : ArrG R w sz n f (.slice A n2 c2)) : n2 = n ∧ ∃ news, FlatG R sz n f news ∧ (∀ v ∈ news, v.oneCell' = true) ∧
      ∀w':World,w'.heap=w.heap→(Builtin.firstCells sz n (.slice A n2 c2)).run P w'= .ok news.toArray w':=by
  rcases hobj with ⟨e0,A',e1⟩|⟨b,cur,e',c,e1,h0,h1,h2,h3,h4,h5⟩
  · subst e0
    cases e1
    exact ⟨rfl,[],⟨by simp,fun i hi=>absurd hi (Nat.not_lt_zero _)⟩,by simp,fun w' _=>by cases A<;>simp [Builtin.firstCells,loadCells,loadCellsFrom]⟩
  · cases e1
    have hle:n*sz≤cur.size:=Nat.le_trans (Nat.mul_le_mul_right _ h2) h3
    have hlen:(cur.toList.take (n*sz)).length=n*sz:=by simp;omega
    have hone:∀q,q<n*sz→∃x,cur[q]? =some x∧x.oneCell'=true:=fun q hq=>by
      have a1:q/sz<n:=Nat.div_lt_of_lt_mul (by rw [Nat.mul_comm];exact hq)
      have a2:q % sz<sz:=Nat.mod_lt _ hsz
      have a3:q/sz*sz+q % sz=q:=by rw [Nat.mul_comm];exact Nat.div_add_mod q sz
      obtain ⟨b1,b2⟩:=h5 _ a1
      obtain ⟨x,hx,ho,_⟩:=b2 (q % sz) _ (List.getElem?_eq_getElem (by omega))
      rw [a3] at hx
      exact ⟨x,hx,ho⟩
    refine ⟨rfl,cur.toList.take (n*sz),⟨hlen,fun i hi=>⟨(h5 i hi).1,fun q u hq=> ?_⟩⟩,fun v hv=> ?_,fun w' hw'=> ?_⟩
    · obtain ⟨x,hx,ho,hr⟩:=(h5 i hi).2 q u hq
      have hqs:q<sz:=by rw [←(h5 i hi).1];exact (List.getElem?_eq_some_iff.1 hq).1
      exact ⟨x,by rw [List.getElem?_take,if_pos (Znv hi hqs)];simpa using hx,ho,hr⟩
    · obtain ⟨q,hq,rfl⟩:=List.getElem_of_mem hv
      rw [hlen] at hq
      obtain ⟨x,hx,ho⟩:=hone q hq
      have:(cur.toList.take (n*sz))[q]=x:=by
        have h9:(cur.toList.take (n*sz))[q]? =some x:=by rw [List.getElem?_take,if_pos hq];simpa using hx
        rw [List.getElem?_eq_getElem (by omega)] at h9
        exact Option.some.inj h9
      rw [this];exact ho
    · refine run_firstCells_some (P:=P) w' sz n _ n c2 _ hlen fun q v hq=> ?_
      rw [List.getElem?_take] at hq
      split at hq
      · rw [Zdj,cell_of_row w' b _ cur e' (0,0) (by rw [hw'];exact h1),Nat.zero_add]
        simpa using hq
      · cases hq
theorem Znt {P:Program} {B:Base} {κ:Nat→Value} {ob obr:Nat→Option Ob} {w:World} (hm:MS B κ ob w) (hsub:∀i o,obr i=some o→ob i=some o) {x:AV} {vx:Value} (hx:Rel κ w (SS B κ ob w) x vx)
  {sz n:Nat} (hsz:0<sz) {f:Nat→List AV} (h:Zuw obr sz x=some (n,f)):∃A c news,vx= .slice A n c∧Flat w (SS B κ ob w) sz n f news∧(∀v∈news,v.oneCell'=true)∧
   ∀w':World,w'.heap=w.heap→(Builtin.firstCells sz n vx).run P w'= .ok news.toArray w':=by
 have hzero:∀(A:Option Addr) (c:Nat) (f:Nat→List AV),∃A' c' news,(Value.slice A 0 c)= .slice A' 0 c'∧Flat w (SS B κ ob w) sz 0 f news∧(∀v∈news,v.oneCell'=true)∧
   ∀w':World,w'.heap=w.heap→(Builtin.firstCells sz 0 (.slice A 0 c)).run P w'= .ok news.toArray w':=fun A c f=>
  ⟨A,c,[],rfl,⟨by simp,fun i hi=>absurd hi (Nat.not_lt_zero _)⟩,by simp,fun w' _=>by cases A<;>simp [Builtin.firstCells,loadCells,loadCellsFrom]⟩
 cases x with
 |sl fr sz' n' f'=>
  simp only [Zuw] at h
  cases hb:Nat.beq sz sz' with
  |false=>simp [hb] at h
  |true=>
   simp only [hb,cond_true,Option.some.injEq,Prod.mk.injEq] at h
   obtain ⟨rfl,rfl⟩:=h
   have e:=Nat.eq_of_beq_eq_true hb
   subst e
   cases hx with
   |tree _ _ hx=>cases hx with
    |sl _ _ _ _ b o c g hS a1 a2 a3 a4 a5=>
     have hlen:((List.range (n'*sz)).map fun q=>g (q/sz) (q % sz)).length=n'*sz:=by simp
     have hq:∀q,q<n'*sz→q/sz<n'∧q % sz<sz∧q/sz*sz+q % sz=q:=fun q hq=>
      ⟨Nat.div_lt_of_lt_mul (by rw [Nat.mul_comm];exact hq),Nat.mod_lt _ hsz,by rw [Nat.mul_comm];exact Nat.div_add_mod q sz⟩
     refine ⟨_,c,(List.range (n'*sz)).map fun q=>g (q/sz) (q % sz),rfl,⟨hlen,fun i hi=>⟨a3 i hi,fun j u hj=> ?_⟩⟩,fun v hv=> ?_,fun w' hw'=> ?_⟩
     ·have hjs:j<sz:=by rw [←a3 i hi];exact (List.getElem?_eq_some_iff.1 hj).1
      refine ⟨g i j,?_,(a4 i j hi hjs).2,a5 i j u hi hj⟩
      have hdiv:(i*sz+j)/sz=i:=by rw [Nat.add_comm,Nat.add_mul_div_right _ _ hsz,Nat.div_eq_of_lt hjs,Nat.zero_add]
      simp [Znv hi hjs,hdiv,Zsx i sz j hjs]
     ·obtain ⟨q,hq',rfl⟩:=List.mem_map.1 hv
      have:=hq q (List.mem_range.1 hq')
      exact (a4 _ _ this.1 this.2.1).2
     ·refine run_firstCells_some (P:=P) w' sz n' _ n' c _ hlen fun j v hj=> ?_
      simp only [List.getElem?_map,List.getElem?_range,Option.map_eq_some_iff] at hj
      obtain ⟨q,hj,rfl⟩:=hj
      have hjl:j<n'*sz:=by
       by_cases hlt:j<n'*sz
       ·exact hlt
       ·rw [List.getElem?_eq_none (by simp;omega)] at hj;cases hj
      rw [List.getElem?_range hjl] at hj
      cases hj
      have:=hq j hjl
      rw [Zdj,World.cell?_of_block (w:=w) (by rw [hw'])]
      have h4:=(a4 _ _ this.1 this.2.1).1
      rw [Nat.add_assoc,this.2.2] at h4
      exact h4
    |sl0=>exact hzero _ _ _
 |arr j=>
  simp only [Zuw] at h
  split at h
  ·rename_i sz' n' f' hoj
   cases hb:Nat.beq sz sz' with
   |false=>simp [hb] at h
   |true=>
    simp only [hb,cond_true,Option.some.injEq,Prod.mk.injEq] at h
    obtain ⟨rfl,rfl⟩:=h
    have e:=Nat.eq_of_beq_eq_true hb
    subst e
    cases hx with
    |tree _ _ hx=>cases hx
    |arr _ A n2 c2 hκ=>
     have hobj:=hm.obj j _ (hsub j _ hoj)
     rw [hκ] at hobj
     obtain ⟨rfl,news,q1,q2,q3⟩:=Zhc (P:=P) hsz hobj
     exact ⟨_,_,news,rfl,q1,q2,q3⟩
  ·cases h
 |e0=>
  cases h
  cases hx with
  |tree _ _ hx=>cases hx with
   |e0=>exact hzero _ _ _
 |val v=>
  obtain rfl:=hx.val_of
  cases vx with
  |slice A n' c=>
   cases n' with
   |zero=>simp only [Zuw,Option.some.injEq,Prod.mk.injEq] at h;obtain ⟨rfl,rfl⟩:=h;exact hzero _ _ _
   |succ _=>simp [Zuw] at h
  |_=>simp [Zuw] at h
 |_=>simp [Zuw] at h
def Zws (ob:Nat→Option Ob) (sz:Nat):AV→Option (Nat×(Nat→List AV)×Option Nat)
 | .e0=>some (0,fun _=>[],none)
 | .val (.slice _ 0 0)=>some (0,fun _=>[],none)
 | .arr j=>match ob j with
  |some (.arr sz' n f)=>bif Nat.beq sz sz' then some (n,f,some j) else none
  |_=>none
 |_=>none
theorem Zsy {ob:Nat→Option Ob} {sz n j:Nat} {s:AV} {f:Nat→List AV} (h:Zws ob sz s=some (n,f,some j)):s= .arr j:=by
 unfold Zws at h
 split at h
 ·cases h
 ·cases h
 ·split at h
  ·rename_i k sz' n f ho
   cases hb:Nat.beq sz sz' with
   |false=>rw [hb] at h;cases h
   |true=>rw [hb] at h;cases h;rfl
  ·cases h
 ·cases h
def Zhi (n:Nat) (f g:Nat→List AV) (k:Nat):List AV:=bif Nat.blt k n then f k else g (k-n)
theorem Zkd {n:Nat} {f g:Nat→List AV} {k:Nat} (h:k<n):Zhi n f g k=f k:=by
 have:Nat.blt k n=true:=by simpa [Nat.blt_eq] using h
 simp [Zhi,this]
theorem Zke {n:Nat} {f g:Nat→List AV} {k:Nat} (h:n≤k):Zhi n f g k=g (k-n):=by
 have:Nat.blt k n=false:=by rw [Bool.eq_false_iff];intro h';rw [Nat.blt_eq] at h';omega
 simp [Zhi,this]
theorem FlatG.cat {R:AV→Value→Prop} {sz n m:Nat} {f g:Nat→List AV} {xs ys:List Value} (h:FlatG R sz n f xs) (h':FlatG R sz m g ys):FlatG R sz (n+m) (Zhi n f g) (xs++ys):=by
 refine ⟨by rw [List.length_append,h.1,h'.1,Nat.add_mul],fun i hi=> ?_⟩
 by_cases hlt:i<n
 ·rw [Zkd hlt]
  refine ⟨(h.2 i hlt).1,fun j u hj=> ?_⟩
  obtain ⟨x,hx,ho,hr⟩:=(h.2 i hlt).2 j u hj
  exact ⟨x,by rw [List.getElem?_append_left (List.getElem?_eq_some_iff.1 hx).1];exact hx,ho,hr⟩
 ·rw [Zke (by omega)]
  refine ⟨(h'.2 (i-n) (by omega)).1,fun j u hj=> ?_⟩
  obtain ⟨x,hx,ho,hr⟩:=(h'.2 (i-n) (by omega)).2 j u hj
  refine ⟨x,?_,ho,hr⟩
  have e:i*sz+j=n*sz+((i-n)*sz+j):=by
   have:i*sz=n*sz+(i-n)*sz:=by rw [←Nat.add_mul];congr 1;omega
   omega
  rw [e,List.getElem?_append_right (by rw [h.1];omega),h.1,Nat.add_sub_cancel_left]
  exact hx
theorem Zlt {P:Program} {t t2 ty e:TypeId} {i:TypeInfo} {z:Value} (ht:P.underlying t=some (.slice e)) (hi:P.info? e=some i) (hz:i.zero=some z)
  {base:Option Addr} {n c:Nat} {vx:Value} {m:Nat} (hvx:(∃(e2:TypeId) (A:Option Addr) (c2:Nat),P.underlying t2=some (.slice e2)∧vx= .slice A m c2)∨(P.underlying t2=some .string∧∃s:ByteArray,vx= .string s∧s.size=m)) {w:World} {olds news:List Value}
  (ho:∀w':World,w'.heap=w.heap→(Builtin.firstCells i.size n (.slice base n c)).run P w'= .ok olds.toArray w') (hn:∀w':World,w'.heap=w.heap→(Builtin.firstCells i.size m vx).run P w'= .ok news.toArray w')
  (hfit:(n+m)*i.bytes≤140737488355328) (h63:n+m≤9223372036854775807):
  (n+m≤c→(Builtin.append_ #[t,t2] ty #[.slice base n c,vx]).run P w=((match base with|some a=>(storeCells (a.add (n*i.size)) news:Sem Unit)|none=>pure ()).run P w).andThen fun _ w'=> .ok (.slice base (n+m) c) w')∧
  (¬ n+m≤c→(Builtin.append_ #[t,t2] ty #[.slice base n c,vx]).run P w= .ok (.slice (some ⟨w.heap.size,0,none⟩) (n+m) (grownCap w (n+m) c e))
    (w.drew.alloc (.cells (olds.toArray++news.toArray++Builtin.zeroCells z.cells (grownCap w (n+m) c e-(n+m))) e))):=by
 have hnw:=hn w rfl
 have hnd:=hn w.drew rfl
 have hod:=ho w.drew rfl
 rcases hvx with ⟨e2,A,c2,ht2,rfl⟩|⟨ht2,st,rfl,rfl⟩
 ·refine ⟨fun hle=> ?_,fun hle=> ?_⟩
  ·cases base<;>simp [Builtin.append_,run_underlying ht,run_underlying ht2,sizeOf,typeInfo,hi,Builtin.lenOf,hle,hnw]
  ·have h63':¬ (9223372036854775807<((n:Int)+(m:Int))):=by omega
   have h48':¬ (281474976710656<Builtin.nextslicecap (n+m) c*i.bytes):=by have:=growslice_fits (need:=n+m) (old:=c) (bytes:=i.bytes) (by omega) hfit;omega
   simp [Builtin.append_,run_underlying ht,run_underlying ht2,sizeOf,typeInfo,zeroValue,hi,hz,Builtin.lenOf,hle,h63',h48',Question.forced,hnd,hod,newRow,grownCap]
   congr 2
   apply Array.ext'
   simp [List.append_assoc]
 generalize hm:st.size=m at*
 refine ⟨fun hle=> ?_,fun hle=> ?_⟩
 ·cases base<;>simp [Builtin.append_,run_underlying ht,run_underlying ht2,sizeOf,typeInfo,hi,Builtin.lenOf,hm,hle,hnw]
 ·have h63':¬ (9223372036854775807<((n:Int)+(m:Int))):=by omega
  have h48':¬ (281474976710656<Builtin.nextslicecap (n+m) c*i.bytes):=by have:=growslice_fits (need:=n+m) (old:=c) (bytes:=i.bytes) (by omega) hfit;omega
  simp [Builtin.append_,run_underlying ht,run_underlying ht2,sizeOf,typeInfo,zeroValue,hi,hz,Builtin.lenOf,hm,hle,h63',h48',Question.forced,hnd,hod,newRow,grownCap]
  congr 2
  apply Array.ext'
  simp [List.append_assoc]
def Ziv:Option Nat→List (Nat×Option Ob)
 |some j=>[(j,none)]
 |none=>[]
theorem Zkq {P:Program} {t t2 ty e:TypeId} {i:TypeInfo} {z:Value} (hu:P.underlying t=some (.slice e)) (hi:P.info? e=some i) (hz:i.zero=some z) {vx:Value} {m:Nat} (hvx:(∃(e2:TypeId) (A:Option Addr) (c2:Nat),P.underlying t2=some (.slice e2)∧vx= .slice A m c2)∨(P.underlying t2=some .string∧∃s:ByteArray,vx= .string s∧s.size=m)) {B:Base} {κ:Nat→Value} {ob:Nat→Option Ob} {w:World} (hm:MS B κ ob w)
    {sz:Nat} (b1:1≤sz) (b3:z.cells.size=sz) (hisz:i.size=sz) {i':Nat} (hN:Zes B ob i') {i0:Option Nat} (hi0n:∀j,i0=some j→B.bo j=false) {base:Option Addr} {n c:Nat} {olds news:List Value} {f g:Nat→List AV} {R:AV→Value→Prop}
    (hflo:FlatG R sz n f olds) (hflat:FlatG R sz m g news) (hone:∀v∈news,v.oneCell'=true) (holds:∀w':World,w'.heap=w.heap→(Builtin.firstCells sz n (.slice base n c)).run P w'= .ok olds.toArray w')
    (hnews:∀w':World,w'.heap=w.heap→(Builtin.firstCells sz m vx).run P w'= .ok news.toArray w') (hcm:c≤maxLen)
    (hcase : (c = 0 ∧ n = 0) ∨ ∃ j b cur e', i0 = some j ∧ ob j ≠ none ∧ κ j = .slice base n c ∧ base = some ⟨b, 0, none⟩ ∧ 0 < c ∧ w.heap[b]? = some (.cells cur e' (0, 0)) ∧ n ≤ c ∧ c * sz ≤ cur.size ∧
                ∀q,q<n→(f q).length=sz∧∀(p:Nat) (u:AV),(f q)[p]? =some u→∃x,cur[q*sz+p]? =some x∧x.oneCell'=true∧R u x)
    (hfit:(n+m)*i.bytes≤140737488355328) (hle63:n+m≤140737488355328) {o:Ob} (hobj:∀(v:Value) (w':World) (S':Bool→Nat→Prop),(∀fr b,SS B κ ob w fr b→w'.heap[b]? =w.heap[b]? ∧S' fr b)→
      (∀R':AV→Value→Prop,(∀u x,R u x→R' u x)→ArrG R' w' sz (n+m) (Zhi n f g) v)→ObRel (Zfl κ i' v) w' S' o v) (cc:Option Prop):
    ∃v w',(Builtin.append_ #[t,t2] ty #[.slice base n c,vx]).run P w= .ok v w'∧Good B κ ob w [i'] {r:= .arr i',wr:=(i',some o)::Ziv i0,c:=cc} v w':=by
  have hgen:=Zlt (P:=P) (ty:=ty) hu hi hz hvx (w:=w) (olds:=olds) (news:=news) (by rw [hisz];exact holds) (by rw [hisz];exact hnews) hfit (by omega)
  -- the objects behind
  have hoth:∀j,j≠i'→Zce ob ((i',some o)::(Ziv i0)) j≠none→Zce ob ((i',some o)::(Ziv i0)) j=ob j:=by
    intro j hj hne
    have hbj:Nat.beq j i'=false:=Bool.eq_false_iff.2 fun e=>hj (Nat.eq_of_beq_eq_true e)
    cases i0 with
    |none=>simp [Zce,Ziv,hbj]
    |some k=>
      simp only [Zce,Ziv,hbj,cond_false] at hne⊢
      cases hbk:Nat.beq j k with
      |true=>simp [hbk] at hne
      |false=>simp
  have hi'':Zce ob ((i',some o)::(Ziv i0)) i'=some o:=by simp [Zce]
  have hgone:∀j,i0=some j→ob j≠none→Zce ob ((i',some o)::(Ziv i0)) j=none:=by
    intro j hj hne
    subst hj
    have:Nat.beq j i'=false:=Bool.eq_false_iff.2 fun e=>hne (by rw [Nat.eq_of_beq_eq_true e];exact hN.1)
    simp [Zce,Ziv,this]
  have hids:ob i'=none→∀j o2,j≠i'→Zce ob ((i',some o)::(Ziv i0)) j=some o2→i'∉o2.ids:=fun _ j o2 hj hjo=>
    hN.2.2 j o2 (by rw [←hoth j hj (by rw [hjo];simp)];exact hjo)
  have hcat:=hflo.cat hflat
  by_cases hroom:n+m≤c
  · have hr:=hgen.1 hroom
    rcases hcase with ⟨rfl,rfl⟩|⟨j,b,cur,e',hi0,hne,hκj,rfl,h0,h1,h2,h3,h5⟩
    · have hm0:m=0:=by omega
      subst hm0
      have hnn:news=[]:=List.eq_nil_of_length_eq_zero (by rw [hflat.1];simp)
      subst hnn
      have hr':(Builtin.append_ #[t,t2] ty #[.slice base 0 0,vx]).run P w= .ok (.slice base 0 0) w:=by
        rw [hr]
        cases base<;>simp [storeCells]
      refine ⟨_,w,hr',?_⟩
      have hp:=MS.put (w':=w) hm i' o (.slice base 0 0) hi'' hoth (fun h=>absurd hN.1 h) (fun b hb=>by exfalso;cases base<;>simp [Zbx,blk] at hb) rfl rfl rfl (Nat.le_refl _) (fun _ _ _=>rfl) hids
        (fun h=>by rw [hN.2.1] at h;cases h) (fun hfr=>hobj _ _ _ hfr fun R' hRR=> .inl ⟨rfl,base,rfl⟩)
      exact ⟨_,fun k hk=>Zbi _ _ (by simpa using hk),hp.1,.arr i' _ _ _ (Zav _ _ _),hp.2⟩
    · have hin:n*sz+news.length≤cur.size:=by
        rw [hflat.1,←Nat.add_mul]
        exact Nat.le_trans (Nat.mul_le_mul_right _ hroom) h3
      obtain ⟨w',r1,r2,r3,r4,r5,r6,r7⟩:=Zhs (P:=P) news w (n*sz) 0 cur h1 hone (by omega)
      refine ⟨.slice (some ⟨b,0,none⟩) (n+m) c,w',?_,?_⟩
      · rw [hr]
        simp only [Zdj,Nat.zero_add,hisz]
        rw [r1]
        rfl
      have hbk:Blk (κ j) b:=by rw [hκj];simp [Zbx,blk];omega
      have hp:=MS.put (w':=w') hm i' o (.slice (some ⟨b,0,none⟩) (n+m) c) hi'' hoth (fun h=>absurd hN.1 h)
        (fun q hq=>by
          have:b=q:=by simp [Zbx,blk] at hq;exact hq.2
          subst this
          exact ⟨.inr ⟨j,hne,.inr ⟨hgone j hi0 hne,hi0n j hi0⟩,hbk⟩,by rw [r3];exact (hm.ownb j b hne hbk).1⟩) r5 r6 r7 (by omega) (fun q _ hq=>r4 q fun e=>hq (by rw [e];simp [Zbx,blk];omega)) hids
        (fun h=>by rw [hN.2.1] at h;cases h) (fun hfr=>hobj _ _ _ hfr fun R' hRR=>by
          refine .inr ⟨b,_,e',c,rfl,h0,r2,hroom,by rw [Zkr];exact h3,hcm,fun q hq=> ?_⟩
          have hget:=fun p=>Zjx news cur (n*sz+0) (by omega) (q*sz+p)
          by_cases hqn:q<n
          · rw [Zkd hqn]
            refine ⟨(h5 q hqn).1,fun p u hu=> ?_⟩
            have hps:p<sz:=by rw [←(h5 q hqn).1];exact (List.getElem?_eq_some_iff.1 hu).1
            obtain ⟨y,hy,ho1,hr1⟩:=(h5 q hqn).2 p u hu
            have:=hget p
            rw [if_neg (by have:=Znv hqn hps;omega),hy] at this
            exact ⟨y,this,ho1,hRR _ _ hr1⟩
          · rw [Zke (by omega)]
            refine ⟨(hflat.2 (q-n) (by omega)).1,fun p u hu=> ?_⟩
            have hps:p<sz:=by rw [←(hflat.2 (q-n) (by omega)).1];exact (List.getElem?_eq_some_iff.1 hu).1
            obtain ⟨y,hy,ho1,hr1⟩:=(hflat.2 (q-n) (by omega)).2 p u hu
            have:=hget p
            have e:q*sz+p=n*sz+((q-n)*sz+p):=by
              have:q*sz=n*sz+(q-n)*sz:=by rw [←Nat.add_mul];congr 1;omega
              omega
            have hlt:=Znv (i:=q-n) (n:=m) (by omega) hps
            rw [if_pos (by rw [hflat.1];omega),show q*sz+p-(n*sz+0)=(q-n)*sz+p by omega,hy] at this
            exact ⟨y,this,ho1,hRR _ _ hr1⟩)
      exact ⟨_,fun k hk=>Zbi _ _ (by simpa using hk),hp.1,.arr i' _ _ _ (Zav _ _ _),hp.2⟩
  · have hr:=hgen.2 hroom
    refine ⟨_,_,hr,?_⟩
    have hge:=grownCap_ge w (n+m) c e
    have hcm':grownCap w (n+m) c e≤maxLen:=grownCap_le_maxLen w (n+m) c e (by unfold maxLen;omega)
    have hcl:(olds.toArray++news.toArray++Builtin.zeroCells z.cells (grownCap w (n+m) c e-(n+m))).size=grownCap w (n+m) c e*sz:=by
      simp only [Array.size_append,List.size_toArray,size_zeroCells,b3,hcat.1▸List.length_append]
      rw [←List.length_append,hcat.1,←Nat.add_mul]
      congr 1
      omega
    have h0:0<grownCap w (n+m) c e:=by omega
    have hp:=MS.put (w':=w.drew.alloc (.cells (olds.toArray++news.toArray++Builtin.zeroCells z.cells (grownCap w (n+m) c e-(n+m))) e)) hm i' o (.slice (some ⟨w.heap.size,0,none⟩) (n+m) (grownCap w (n+m) c e)) hi'' hoth (fun h=>absurd hN.1 h)
      (fun q hq=>by
        have:w.heap.size=q:=by simp [Zbx,blk] at hq;exact hq.2
        subst this
        exact ⟨.inl rfl,by simp⟩) rfl rfl rfl (by simp) (fun q hq _=>Go.heap_alloc_old w.drew _ hq) hids
      (fun h=>by rw [hN.2.1] at h;cases h) (fun hfr=>hobj _ _ _ hfr fun R' hRR=>by
        refine .inr ⟨w.heap.size,_,e,_,rfl,h0,heap_alloc_new w.drew _,hge,by rw [hcl];exact Nat.le_refl _,hcm',fun q hq=> ?_⟩
        refine ⟨(hcat.2 q hq).1,fun p u hu=> ?_⟩
        obtain ⟨y,hy,ho1,hr1⟩:=(hcat.2 q hq).2 p u hu
        refine ⟨y,?_,ho1,hRR _ _ hr1⟩
        have hlt:=(List.getElem?_eq_some_iff.1 hy).1
        rw [Array.getElem?_append_left (by simp at hlt⊢;omega)]
        simpa using hy)
    exact ⟨_,fun k hk=>Zbi _ _ (by simpa using hk),hp.1,.arr i' _ _ _ (Zav _ _ _),hp.2⟩
def Zks (P:Program) (t t2:TypeId) (an:Ans) (ob:Nat→Option Ob) (s x:AV):Option Out:=
 match Zqf P t,P.underlying t2,an with
 |some (e,sz),some (.slice _),.new i'=>match P.info? e,Zws ob sz s,Zuw ob sz x with
  |some i,some (n,f,i0),some (m,g)=>match i.zero with
   |some z=>bif Nat.ble 1 sz&&Nat.ble 1 i.bytes&&Nat.beq z.cells.size sz then some {r:= .arr i',wr:=(i',some (.arr sz (n+m) (Zhi n f g)))::(Ziv i0),c:=some ((n+m)*i.bytes≤140737488355328)} else none
   |none=>none
  |_,_,_=>none
 |_,_,_=>none
def Zfi (s:ByteArray) (i:Nat):List AV:=[.val (.int .u8 (bAt s i))]
theorem Zuc {P:Program} (s:ByteArray) (w:World):(Builtin.firstCells 1 s.size (.string s)).run P w= .ok ((s.data.toList.map fun b=>Value.int .u8 (b.toNat:Int)).toArray) w:=by
 have e:s.extract 0 s.size=s:=ByteArray.extract_zero_size
 have e2:(s.data.toList.map fun b=>Value.int .u8 (b.toNat:Int)).toArray=s.data.map fun b=>Value.int .u8 (b.toNat:Int):=by apply Array.ext';simp
 rw [e2]
 simp [Builtin.firstCells,e]
theorem Zwt {w:World} {S:Bool→Nat→Prop} (s:ByteArray):Flat w S 1 s.size (Zfi s) (s.data.toList.map fun b=>Value.int .u8 (b.toNat:Int))∧∀v∈(s.data.toList.map fun b=>Value.int .u8 (b.toNat:Int)),v.oneCell'=true:=by
 refine ⟨⟨?_,fun i hi=>⟨rfl,fun j u h=> ?_⟩⟩,fun v hv=> ?_⟩
 ·rw [List.length_map,Nat.mul_one];exact Array.length_toList
 ·cases j with
  |succ j=>simp [Zfi] at h
  |zero=>
   simp only [Zfi,List.getElem?_cons_zero,Option.some.injEq] at h
   subst h
   have hl:i<s.data.toList.length:=by rw [Array.length_toList];exact hi
   refine ⟨.int .u8 ((s.data.toList[i]'hl).toNat:Int),?_,rfl,?_⟩
   ·rw [Nat.mul_one,Nat.add_zero,List.getElem?_map,List.getElem?_eq_getElem hl];rfl
   ·have e:bAt s i=((s.data.toList[i]'hl).toNat:Int):=by unfold bAt;rw [List.getD_eq_getElem?_getD,List.getElem?_eq_getElem hl];rfl
    rw [e];exact .val _
 ·obtain ⟨b,_,rfl⟩:=List.mem_map.1 hv
  rfl
theorem Zmi {P:Program} {t t2 ty e:TypeId} {i:TypeInfo} {z:Value} (hu:P.underlying t=some (.slice e)) (hi:P.info? e=some i) (hz:i.zero=some z) {B:Base} {κ:Nat→Value} {ob obr:Nat→Option Ob} {w:World} (hm:MS B κ ob w) (hsub:∀i o,obr i=some o→ob i=some o) {i':Nat} (hN:Zes B ob i')
    {s:AV} {sz n m:Nat} {f g:Nat→List AV} {i0:Option Nat} (hd:Zws obr sz s=some (n,f,i0)) (hi0n:∀j,i0=some j→B.bo j=false) {vs vx:Value} (hs:Rel κ w (SS B κ ob w) s vs) (hvx:(∃(e2:TypeId) (A:Option Addr) (c2:Nat),P.underlying t2=some (.slice e2)∧vx= .slice A m c2)∨(P.underlying t2=some .string∧∃s:ByteArray,vx= .string s∧s.size=m)) {news:List Value} (hflat:Flat w (SS B κ ob w) sz m g news) (hone:∀v∈news,v.oneCell'=true)
    (hnews:∀w':World,w'.heap=w.heap→(Builtin.firstCells sz m vx).run P w'= .ok news.toArray w') (b1:1≤sz) (b3:z.cells.size=sz) (hisz:i.size=sz) (hfit:(n+m)*i.bytes≤140737488355328) (hle63:n+m≤140737488355328) (cc:Option Prop):
    ∃ v w', (Builtin.append_ #[t, t2] ty #[vs, vx]).run P w = .ok v w' ∧ Good B κ ob w [i'] { r := .arr i', wr := (i', some (.arr sz (n + m) (Zhi n f g))) :: Ziv i0, c := cc } v w' := by
          -- the slice that is appended to
          have hdst:∃base c olds,vs= .slice base n c∧Flat w (SS B κ ob w) sz n f olds∧(∀w':World,w'.heap=w.heap→(Builtin.firstCells sz n vs).run P w'= .ok olds.toArray w')∧c≤maxLen∧
              ((c=0∧n=0)∨∃j b cur e',i0=some j∧ob j≠none∧κ j= .slice base n c∧base=some ⟨b,0,none⟩∧0<c∧w.heap[b]? =some (.cells cur e' (0,0))∧n≤c∧c*sz≤cur.size∧
                ∀q,q<n→(f q).length=sz∧∀(p:Nat) (u:AV),(f q)[p]? =some u→∃x,cur[q*sz+p]? =some x∧x.oneCell'=true∧RelT w (SS B κ ob w) u x):=by
            have hzero:∀(A:Option Addr) (f:Nat→List AV),Flat w (SS B κ ob w) sz 0 f []∧∀w':World,w'.heap=w.heap→(Builtin.firstCells sz 0 (.slice A 0 0)).run P w'= .ok ([]:List Value).toArray w':=fun A f=>
              ⟨⟨by simp,fun i hi=>absurd hi (Nat.not_lt_zero _)⟩,fun w' _=>by cases A<;>simp [Builtin.firstCells,loadCells,loadCellsFrom]⟩
            cases s with
            |e0=>
              cases hd
              cases hs with
              |tree _ _ h=>cases h with
                |e0 A=>exact ⟨A,0,[],rfl,(hzero A _).1,(hzero A (fun _=>[])).2,Nat.zero_le _,.inl ⟨rfl,rfl⟩⟩
            |val v=>
              obtain rfl:=hs.val_of
              cases vs with
              |slice A n' c'=>
                cases n' with
                |zero=>
                  cases c' with
                  |zero=>simp only [Zws,Option.some.injEq,Prod.mk.injEq] at hd;obtain ⟨rfl,rfl,rfl⟩:=hd;exact ⟨A,0,[],rfl,(hzero A _).1,(hzero A (fun _=>[])).2,Nat.zero_le _,.inl ⟨rfl,rfl⟩⟩
                  |succ _=>simp [Zws] at hd
                |succ _=>simp [Zws] at hd
              |_=>simp [Zws] at hd
            |arr j=>
              simp only [Zws] at hd
              split at hd
              · rename_i sz' n' f' hoj
                cases hb':Nat.beq sz sz' with
                |false=>simp [hb'] at hd
                |true=>
                  simp only [hb',cond_true,Option.some.injEq,Prod.mk.injEq] at hd
                  obtain ⟨rfl,rfl,rfl⟩:=hd
                  have hs':=hs
                  obtain ⟨A',c',olds,rfl,q1,_,q3⟩:=Znt (P:=P) (x:= .arr j) (n:=n') (f:=f') hm hsub hs b1 (by simp [Zuw,hoj,hb'])
                  have ee:=Nat.eq_of_beq_eq_true hb'
                  subst ee
                  have hoj':=hsub j _ hoj
                  have hne:ob j≠none:=by rw [hoj'];simp
                  cases hs' with
                  |tree _ _ h=>cases h
                  |arr _ _ _ _ hκ=>
                    have hobj:=hm.obj j _ hoj'
                    rw [hκ] at hobj
                    rcases hobj with ⟨e0,A2,e1⟩|⟨b,cur,e',c,e1,h0,h1,h2,h3,h4,h5⟩
                    · cases e1
                      exact ⟨_,_,olds,rfl,q1,q3,Nat.zero_le _,.inl ⟨rfl,e0⟩⟩
                    · cases e1
                      exact ⟨_,_,olds,rfl,q1,q3,h4,.inr ⟨j,b,cur,e',rfl,hne,hκ,rfl,h0,h1,h2,h3,h5⟩⟩
              · cases hd
            |_=>simp [Zws] at hd
          obtain ⟨base,c,olds,rfl,hflo,holds,hcm,hcase⟩:=hdst
          exact Zkq (o:= .arr sz (n+m) (Zhi n f g)) hu hi hz hvx hm b1 b3 hisz hN hi0n hflo hflat hone holds hnews hcm hcase hfit hle63 (fun v w' S' hfr h=>h _ fun u x hr=>RelT.keep hr hfr) _
theorem Znw {P:Program} {t t2 ty:TypeId} {B:Base} {κ:Nat→Value} {ob obr:Nat→Option Ob} {w:World} (hm:MS B κ ob w) (hsub:∀i o,obr i=some o→ob i=some o) {an:Ans} (hn:∀i∈an.news,Zes B ob i)
  {s x:AV} (hnl:∀j,s= .arr j→B.bo j=false) {vs vx:Value} (hs:Rel κ w (SS B κ ob w) s vs) (hx:Rel κ w (SS B κ ob w) x vx) {out:Out} (ho:Zks P t t2 an obr s x=some out) (hc:out.cond):
  ∃v w',(Builtin.append_ #[t,t2] ty #[vs,vx]).run P w= .ok v w'∧Good B κ ob w an.news out v w':=by
 unfold Zks at ho
 split at ho
 ·rename_i e sz e2 i' he ht2
  obtain ⟨hu,hsz⟩:=Zev he
  split at ho
  ·rename_i i n f i0 m g hi hd hsr
   have hi0n:∀j,i0=some j→B.bo j=false:=fun j hj=>by subst hj;exact hnl j (Zsy hd)
   split at ho
   ·rename_i z hz
    cases hb:(Nat.ble 1 sz&&Nat.ble 1 i.bytes&&Nat.beq z.cells.size sz) with
    |false=>simp [hb] at ho
    |true=>
     simp only [hb,cond_true,Option.some.injEq] at ho
     subst ho
     simp only [Bool.and_eq_true,Nat.ble_eq,Nat.beq_eq] at hb
     obtain ⟨⟨b1,b2⟩,b3⟩:=hb
     have hisz:i.size=sz:=by simpa [Zds,hi] using hsz
     have hfit:(n+m)*i.bytes≤140737488355328:=hc
     have hle63:n+m≤140737488355328:=Nat.le_trans (Nat.le_mul_of_pos_right _ b2) hfit
     obtain ⟨A,c2,news,rfl,hflat,hone,hnews⟩:=Znt (P:=P) hm hsub hx b1 hsr
     have hN:=hn i' (by simp [Ans.news])
     exact Zmi hu hi hz hm hsub hN hd hi0n hs (.inl ⟨_,_,_,ht2,rfl⟩) hflat hone hnews b1 b3 hisz hfit hle63 _
   ·cases ho
  ·cases ho
 ·cases ho
def srcO (ob:Nat→Option Ob) (sz:Nat):AV→Option (Nat×(Nat→List AV)×List Nat)
 | .arr j=>match ob j with
  |some (.oar L sz' n f)=>bif Nat.beq sz sz' then some (n,f,L) else none
  |some (.arr sz' n f)=>bif Nat.beq sz sz' then some (n,f,[]) else none
  |_=>none
 |_=>none
def dstO (ob:Nat→Option Ob) (sz:Nat):AV→Option (Nat×(Nat→List AV)×Option Nat×List Nat)
 | .e0=>some (0,fun _=>[],none,[])
 | .val (.slice _ 0 0)=>some (0,fun _=>[],none,[])
 | .arr j=>match ob j with
  |some (.oar L sz' n f)=>bif Nat.beq sz sz' then some (n,f,some j,L) else none
  |_=>none
 |_=>none
theorem dstO_arr {ob:Nat→Option Ob} {sz n j:Nat} {s:AV} {f:Nat→List AV} {L:List Nat} (h:dstO ob sz s=some (n,f,some j,L)):s= .arr j:=by
 unfold dstO at h
 split at h
 ·cases h
 ·cases h
 ·split at h
  ·rename_i k L sz' n f ho
   cases hb:Nat.beq sz sz' with
   |false=>rw [hb] at h;cases h
   |true=>rw [hb] at h;cases h;rfl
  ·cases h
 ·cases h
def Ziw (P:Program) (t t2:TypeId) (an:Ans) (ob:Nat→Option Ob) (s x:AV):Option Out:=
 match Zqf P t,P.underlying t2,an with
 |some (e,sz),some (.slice _),.new i'=>match P.info? e,dstO ob sz s,srcO ob sz x with
  |some i,some (n,f,i0,L),some (m,g,L')=>match i.zero with
   |some z=>bif Nat.ble 1 sz&&Nat.ble 1 i.bytes&&Nat.beq z.cells.size sz then some {r:= .arr i',wr:=(i',some (.oar (L++L') sz (n+m) (Zhi n f g)))::(Ziv i0),c:=some ((n+m)*i.bytes≤140737488355328)} else none
   |none=>none
  |_,_,_=>none
 |_,_,_=>none
theorem Zlu {P:Program} {t t2 ty:TypeId} {B:Base} {κ:Nat→Value} {ob obr:Nat→Option Ob} {w:World} (hm:MS B κ ob w) (hsub:∀i o,obr i=some o→ob i=some o) {an:Ans} (hn:∀i∈an.news,Zes B ob i)
  {s x:AV} (hnl:∀j,s= .arr j→B.bo j=false) {vs vx:Value} (hs:Rel κ w (SS B κ ob w) s vs) (hx:Rel κ w (SS B κ ob w) x vx) {out:Out} (ho:Ziw P t t2 an obr s x=some out) (hc:out.cond):
  ∃v w',(Builtin.append_ #[t,t2] ty #[vs,vx]).run P w= .ok v w'∧Good B κ ob w an.news out v w':=by
 unfold Ziw at ho
 split at ho
 ·rename_i e sz e2 i' he ht2
  obtain ⟨hu,hsz⟩:=Zev he
  split at ho
  ·rename_i i n f i0 L m g L' hi hd hsr
   have hi0n:∀j,i0=some j→B.bo j=false:=fun j hj=>by subst hj;exact hnl j (dstO_arr hd)
   split at ho
   ·rename_i z hz
    cases hb:(Nat.ble 1 sz&&Nat.ble 1 i.bytes&&Nat.beq z.cells.size sz) with
    |false=>simp [hb] at ho
    |true=>
     simp only [hb,cond_true,Option.some.injEq] at ho
     subst ho
     simp only [Bool.and_eq_true,Nat.ble_eq,Nat.beq_eq] at hb
     obtain ⟨⟨b1,b2⟩,b3⟩:=hb
     have hisz:i.size=sz:=by simpa [Zds,hi] using hsz
     have hfit:(n+m)*i.bytes≤140737488355328:=hc
     have hle63:n+m≤140737488355328:=Nat.le_trans (Nat.le_mul_of_pos_right _ b2) hfit
     have hN:=hn i' (by simp [Ans.news])
     -- what is appended
     have hsrc:i'∉L'∧(∀q,q<m→∀a,a∈AV.idsL (g q)→a∈L')∧∃A c2,vx= .slice A m c2∧ArrG (fun u x=>Rel κ w (SS B κ ob w) u x∧i'∉u.ids) w sz m g (.slice A m c2):=by
      cases x with
      |arr j=>
       simp only [srcO] at hsr
       split at hsr
       ·rename_i L2 sz' n' f' hoj
        cases hb':Nat.beq sz sz' with
        |false=>simp [hb'] at hsr
        |true=>
         simp only [hb',cond_true,Option.some.injEq,Prod.mk.injEq] at hsr
         obtain ⟨rfl,rfl,rfl⟩:=hsr
         have ee:=Nat.eq_of_beq_eq_true hb'
         subst ee
         have hoj':=hsub j _ hoj
         have hnL:i'∉L2:=hN.2.2 j _ hoj'
         obtain ⟨hL,hobj⟩:=hm.obj j _ hoj'
         cases hx with
         |tree _ _ h=>cases h
         |arr _ A n2 c2 hκ=>
          rw [hκ] at hobj
          have e2:n2=n':=(Zhc (P:=P) b1 hobj).1
          subst e2
          exact ⟨hnL,hL,A,c2,rfl,hobj.mono (fun _ _=>rfl) fun q p u x hq hp hr=>⟨hr,fun h=>hnL (hL q hq _ (AV.idsL_in hp h))⟩⟩
       ·rename_i sz' n' f' hoj
        cases hb':Nat.beq sz sz' with
        |false=>simp [hb'] at hsr
        |true=>
         simp only [hb',cond_true,Option.some.injEq,Prod.mk.injEq] at hsr
         obtain ⟨rfl,rfl,rfl⟩:=hsr
         have ee:=Nat.eq_of_beq_eq_true hb'
         subst ee
         have hoj':=hsub j _ hoj
         have hobj:ArrG (RelT w (SS B κ ob w)) w sz n' f' (κ j):=hm.obj j _ hoj'
         cases hx with
         |tree _ _ h=>cases h
         |arr _ A n2 c2 hκ=>
          rw [hκ] at hobj
          have e2:n2=n':=(Zhc (P:=P) b1 hobj).1
          subst e2
          refine ⟨by simp,fun q hq a ha=> ?_,A,c2,rfl,hobj.mono (fun _ _=>rfl) fun q p u x hq hp hr=>⟨.tree _ _ hr,?_⟩⟩
          ·have:AV.idsL (f' q)=[]:=ArrG.ids_nil hobj hq
           rw [this] at ha;cases ha
          ·rw [hr.ids_nil];simp
       ·cases hsr
      |_=>simp [srcO] at hsr
     obtain ⟨hnL',hL',A,c2,rfl,hsA⟩:=hsrc
     obtain ⟨_,news,hflat,hone,hnews⟩:=Zhc (P:=P) b1 hsA
     -- the slice that is appended to
     have hdst:i'∉L∧(∀q,q<n→∀a,a∈AV.idsL (f q)→a∈L)∧∃base c olds,vs= .slice base n c∧FlatG (fun u x=>Rel κ w (SS B κ ob w) u x∧i'∉u.ids) sz n f olds∧(∀w':World,w'.heap=w.heap→(Builtin.firstCells sz n vs).run P w'= .ok olds.toArray w')∧c≤maxLen∧
       ((c=0∧n=0)∨∃j b cur e',i0=some j∧ob j≠none∧κ j= .slice base n c∧base=some ⟨b,0,none⟩∧0<c∧w.heap[b]? =some (.cells cur e' (0,0))∧n≤c∧c*sz≤cur.size∧
        ∀q,q<n→(f q).length=sz∧∀(p:Nat) (u:AV),(f q)[p]? =some u→∃x,cur[q*sz+p]? =some x∧x.oneCell'=true∧(Rel κ w (SS B κ ob w) u x∧i'∉u.ids)):=by
      have hzero:∀(A:Option Addr) (f:Nat→List AV),FlatG (fun u x=>Rel κ w (SS B κ ob w) u x∧i'∉u.ids) sz 0 f []∧∀w':World,w'.heap=w.heap→(Builtin.firstCells sz 0 (.slice A 0 0)).run P w'= .ok ([]:List Value).toArray w':=fun A f=>
       ⟨⟨by simp,fun i hi=>absurd hi (Nat.not_lt_zero _)⟩,fun w' _=>by cases A<;>simp [Builtin.firstCells,loadCells,loadCellsFrom]⟩
      have hno:∀(f:Nat→List AV) (L:List Nat) (q:Nat),q<0→∀a,a∈AV.idsL (f q)→a∈L:=fun f L q hq=>absurd hq (Nat.not_lt_zero _)
      cases s with
      |e0=>
       cases hd
       cases hs with
       |tree _ _ h=>cases h with
        |e0 A=>exact ⟨by simp,hno _ _,A,0,[],rfl,(hzero A _).1,(hzero A (fun _=>[])).2,Nat.zero_le _,.inl ⟨rfl,rfl⟩⟩
      |val v=>
       obtain rfl:=hs.val_of
       cases vs with
       |slice A n' c'=>
        cases n' with
        |zero=>
         cases c' with
         |zero=>simp only [dstO,Option.some.injEq,Prod.mk.injEq] at hd;obtain ⟨rfl,rfl,rfl,rfl⟩:=hd;exact ⟨by simp,hno _ _,A,0,[],rfl,(hzero A _).1,(hzero A (fun _=>[])).2,Nat.zero_le _,.inl ⟨rfl,rfl⟩⟩
         |succ _=>simp [dstO] at hd
        |succ _=>simp [dstO] at hd
       |_=>simp [dstO] at hd
      |arr j=>
       simp only [dstO] at hd
       split at hd
       ·rename_i L2 sz' n' f' hoj
        cases hb':Nat.beq sz sz' with
        |false=>simp [hb'] at hd
        |true=>
         simp only [hb',cond_true,Option.some.injEq,Prod.mk.injEq] at hd
         obtain ⟨rfl,rfl,rfl,rfl⟩:=hd
         have ee:=Nat.eq_of_beq_eq_true hb'
         subst ee
         have hoj':=hsub j _ hoj
         have hne:ob j≠none:=by rw [hoj'];simp
         have hnL:i'∉L2:=hN.2.2 j _ hoj'
         obtain ⟨hL,hobj⟩:=hm.obj j _ hoj'
         cases hs with
         |tree _ _ h=>cases h
         |arr _ A n2 c2 hκ=>
          rw [hκ] at hobj
          have hobj:ArrG (fun u x=>Rel κ w (SS B κ ob w) u x∧i'∉u.ids) w sz n' f' (.slice A n2 c2):=hobj.mono (fun _ _=>rfl) fun q p u x hq hp hr=>⟨hr,fun h=>hnL (hL q hq _ (AV.idsL_in hp h))⟩
          obtain ⟨e2,olds,q1,_,q3⟩:=Zhc (P:=P) b1 hobj
          subst e2
          refine ⟨hnL,hL,A,c2,olds,rfl,q1,q3,?_,?_⟩
          ·rcases hobj with ⟨e0,A2,e1⟩|⟨b,cur,e',c,e1,h0,h1,h2,h3,h4,h5⟩
           ·cases e1;exact Nat.zero_le _
           ·cases e1;exact h4
          ·rcases hobj with ⟨e0,A2,e1⟩|⟨b,cur,e',c,e1,h0,h1,h2,h3,h4,h5⟩
           ·cases e1;exact .inl ⟨rfl,e0⟩
           ·cases e1;exact .inr ⟨j,b,cur,e',rfl,hne,hκ,rfl,h0,h1,h2,h3,h5⟩
       ·cases hd
      |_=>simp [dstO] at hd
     obtain ⟨hnL,hL,base,c,olds,rfl,hflo,holds,hcm,hcase⟩:=hdst
     refine Zkq (o:= .oar (L++L') sz (n+m) (Zhi n f g)) hu hi hz (.inl ⟨_,_,_,ht2,rfl⟩) hm b1 b3 hisz hN hi0n hflo hflat hone holds hnews hcm hcase hfit hle63 (fun v w' S' hfr h=>⟨fun q hq a ha=> ?_,h _ fun u x hr=>hr.1.keep hfr fun a ha=>Zbi _ _ fun e=>hr.2 (e▸ha)⟩) _
     by_cases hqn:q<n
     ·rw [Zkd hqn] at ha;exact List.mem_append_left _ (hL q hqn a ha)
     ·rw [Zke (by omega)] at ha;exact List.mem_append_right _ (hL' (q-n) (by omega) a ha)
   ·cases ho
  ·cases ho
 ·cases ho
def Zix (P:Program) (t t2:TypeId) (an:Ans) (ob:Nat→Option Ob) (s x:AV):Option Out:=
 match Zqf P t,P.underlying t2,an with
 |some (e,sz),some .string,.new i'=>match P.info? e,Zws ob sz s,x with
  |some i,some (n,f,i0),.val (.string st)=>match i.zero with
   |some z=>bif Nat.beq sz 1&&Nat.beq i.bytes 1&&Nat.beq z.cells.size sz then some {r:= .arr i',wr:=(i',some (.arr sz (n+st.size) (Zhi n f (Zfi st))))::(Ziv i0),c:=some ((n+st.size)*i.bytes≤140737488355328)} else none
   |none=>none
  |_,_,_=>none
 |_,_,_=>none
theorem Zlv {P:Program} {t t2 ty:TypeId} {B:Base} {κ:Nat→Value} {ob obr:Nat→Option Ob} {w:World} (hm:MS B κ ob w) (hsub:∀i o,obr i=some o→ob i=some o) {an:Ans} (hn:∀i∈an.news,Zes B ob i)
  {s x:AV} (hnl:∀j,s= .arr j→B.bo j=false) {vs vx:Value} (hs:Rel κ w (SS B κ ob w) s vs) (hx:Rel κ w (SS B κ ob w) x vx) {out:Out} (ho:Zix P t t2 an obr s x=some out) (hc:out.cond):
  ∃v w',(Builtin.append_ #[t,t2] ty #[vs,vx]).run P w= .ok v w'∧Good B κ ob w an.news out v w':=by
 unfold Zix at ho
 split at ho
 ·rename_i e sz i' he ht2
  obtain ⟨hu,hsz⟩:=Zev he
  split at ho
  ·rename_i i n f i0 st hi hd
   have hi0n:∀j,i0=some j→B.bo j=false:=fun j hj=>by subst hj;exact hnl j (Zsy hd)
   split at ho
   ·rename_i z hz
    cases hb:(Nat.beq sz 1&&Nat.beq i.bytes 1&&Nat.beq z.cells.size sz) with
    |false=>simp [hb] at ho
    |true=>
     simp only [hb,cond_true,Option.some.injEq] at ho
     subst ho
     simp only [Bool.and_eq_true,Nat.beq_eq] at hb
     obtain ⟨⟨b1,b2⟩,b3⟩:=hb
     have hisz:i.size=sz:=by simpa [Zds,hi] using hsz
     have hfit:(n+st.size)*i.bytes≤140737488355328:=hc
     have hle63:n+st.size≤140737488355328:=by rw [b2,Nat.mul_one] at hfit;exact hfit
     obtain rfl:=hx.val_of
     have hN:=hn i' (by simp [Ans.news])
     subst b1
     have hfl:=Zwt (w:=w) (S:=SS B κ ob w) st
     exact Zmi hu hi hz hm hsub hN hd hi0n hs (.inr ⟨ht2,st,rfl,rfl⟩) hfl.1 hfl.2 (fun w' _=>Zuc st w') (Nat.le_refl 1) b3 hisz hfit hle63 _
   ·cases ho
  ·cases ho
 ·cases ho
def Zkl (P:Program) (t t2:TypeId) (an:Ans) (ob:Nat→Option Ob) (s x:AV):Option Out:=
 match Zks P t t2 an ob s x with
 |some u=>some u
 |none=>match Zix P t t2 an ob s x with
  |some u=>some u
  |none=>Ziw P t t2 an ob s x
theorem Znq {P:Program} {t t2 ty:TypeId} {B:Base} {κ:Nat→Value} {ob obr:Nat→Option Ob} {w:World} (hm:MS B κ ob w) (hsub:∀i o,obr i=some o→ob i=some o) {an:Ans} (hn:∀i∈an.news,Zes B ob i)
  {s x:AV} (hnl:∀j,s= .arr j→B.bo j=false) {vs vx:Value} (hs:Rel κ w (SS B κ ob w) s vs) (hx:Rel κ w (SS B κ ob w) x vx) {out:Out} (ho:Zkl P t t2 an obr s x=some out) (hc:out.cond):
  ∃v w',(Builtin.append_ #[t,t2] ty #[vs,vx]).run P w= .ok v w'∧Good B κ ob w an.news out v w':=by
 unfold Zkl at ho
 split at ho
 ·rename_i u hu
  cases ho
  exact Znw (P:=P) hm hsub hn hnl hs hx hu hc
 ·split at ho
  ·rename_i u hu
   cases ho
   exact Zlv (P:=P) hm hsub hn hnl hs hx hu hc
  exact Zlu (P:=P) hm hsub hn hnl hs hx ho hc
end Go.Proofs.YtnlfghpgfjlblaaDoor.Ax
