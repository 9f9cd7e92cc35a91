/- Tables of structures with one row, which is their last field: a row is taken out and put back; an empty slice in an element becomes an own array. Plain lemmas on the model. No conditions. -/
import Derived.Test.YtfafngbbaplknaaAxR
namespace Go.Proofs.Ytfafngbbaplknaa.Ax
open Go.RowKit
set_option linter.unusedVariables false
set_option linter.unusedSimpArgs false
theorem Zkv (a b:List AV):AV.idsL (a++b)=AV.idsL a++AV.idsL b:=by
 induction a with
 |nil=>rfl
 |cons x r ih=>simp [AV.idsL,ih]
theorem ids_of {cs:List AV} {j:Nat} {u:AV} (h:AV.idsL cs=[]) (hj:cs[j]? =some u):u.ids=[]:=by
 cases e:u.ids with
 |nil=>rfl
 |cons i r=>
  have:=AV.idsL_in hj (i:=i) (by rw [e];simp)
  rw [h] at this;simp at this
theorem Zix {κ κ':Nat→Value} {w:World} {S:Bool→Nat→Prop} {e:List AV} {u u':AV} {ws:List Value} (he:AV.idsL e=[]) (hl:(e++[u]).length=ws.length)
  (hc:∀(s:Nat) (v:AV) (x:Value),(e++[u])[s]? =some v→ws[s]? =some x→Rel κ w S v x) (hu:∀x,Rel κ w S u x→Rel κ' w S u' x):
  (e++[u']).length=ws.length∧∀(s:Nat) (v:AV) (x:Value),(e++[u'])[s]? =some v→ws[s]? =some x→Rel κ' w S v x:=by
 refine ⟨by simpa using hl,fun s v x hs hx=> ?_⟩
 by_cases h:s<e.length
 ·rw [List.getElem?_append_left h] at hs
  refine (hc s v x (by rw [List.getElem?_append_left h];exact hs) hx).keep (fun _ _ h=>⟨rfl,h⟩) fun i hi=> ?_
  rw [ids_of he hs] at hi;simp at hi
 ·have e1:s=e.length:=by
   have:=(List.getElem?_eq_some_iff.1 hs).1
   simp at this;omega
  subst e1
  simp at hs
  subst hs
  exact hu x (hc e.length u x (by simp) hx)
theorem Sim.takerowS {B:Base} {nt:Nat} {lent:List Nat} {T:List (Nat×AV)} {O:List (Nat×Ob)} {a:Act} {w:World} (hB:∀i,B.bo i=lent.contains i) (h:Sim B nt (mkS T O) a w) (i j F N sz n p:Nat) (L:List Nat) (m:Nat→Nat) (g:Nat→Nat→List AV) (f pr:Nat→List AV) (z:Nat)
  (hi:Zab O i=some (.oar L z n f)) (hF:Zab O F=some (.fam N sz m g)) (hp:p<N) (hf:∀q,q<n→f q=pr q++[.row F q]) (hpr:∀q,AV.idsL (pr q)=[]) (hck:Zgv lent [] O j F i=true) (hTT:∀t,Znr j F (Zcq T t).ids=true∨∃q,Zcq T t= .row F q∧q≠p):
  Sim B nt (mkS T ((j,.arr sz (m p) (g p))::(F,.fam N sz (Zcn p 0 m) (Zbi p (fun _=>[]) g))::(i,.oar [j,F] z n fun q=>bif Nat.beq q p then pr q++[.arr j] else pr q++[.row F q])::rmO j F i O)) a w:=by
 simp only [Zgv,Zie,Bool.and_eq_true,Bool.not_eq_true'] at hck
 obtain ⟨⟨⟨hlj,hlF⟩,hT,hO⟩,hj0⟩:=hck
 have hbj:B.bo j=false:=by rw [hB];exact hlj
 have hbF:B.bo F=false:=by rw [hB];exact hlF
 have hjn:Zab O j=none:=by
  cases e:Zab O j with
  |none=>rfl
  |some o=>have:=List.all_eq_true.1 hj0 _ (Zck e);simp at this
 have hjF:j≠F:=fun e=>by subst e;rw [hjn] at hF;cases hF
 have hij:i≠j:=fun e=>by subst e;rw [hjn] at hi;cases hi
 have hiF:i≠F:=fun e=>by subst e;rw [hi] at hF;cases hF
 obtain ⟨h1,h2,κ,hm,hr⟩:=h
 have oi:=hm.obj i _ hi
 obtain ⟨vs,e1,e2,e3,e4⟩:=hm.obj F _ hF
 subst e2
 have nF:Zab O F≠none:=by rw [hF];simp
 have ni:Zab O i≠none:=by rw [hi];simp
 obtain ⟨r0,hr0⟩:∃r0,vs[p]? =some r0:=⟨vs[p],Array.getElem?_eq_getElem hp⟩
 have or0:=e3 p r0 hr0
 obtain ⟨κ',hκ'⟩:∃κ',κ'=Zev (Zev κ F (.tuple (vs.setIfInBounds p (.slice none 0 0)))) j r0:=⟨_,rfl⟩
 have kj:κ' j=r0:=by rw [hκ'];exact Zay _ _ _
 have kF:κ' F= .tuple (vs.setIfInBounds p (.slice none 0 0)):=by rw [hκ',Zbb _ _ (fun e=>hjF e.symm)];exact Zay _ _ _
 have kne:∀i,i≠F→i≠j→κ' i=κ i:=fun i hi hi2=>by rw [hκ',Zbb _ _ hi2];exact Zbb _ _ hi
 have hset:∀q r,(vs.setIfInBounds p (.slice none 0 0))[q]? =some r→(q=p∧r= .slice none 0 0)∨(q≠p∧vs[q]? =some r):=fun q r hq=>by
  rw [Array.getElem?_setIfInBounds] at hq
  rcases Classical.em (p=q) with e|e
  ·rw [if_pos e] at hq
   rcases Classical.em (p<vs.size) with e2|e2
   ·rw [if_pos e2] at hq
    exact .inl ⟨e.symm,(Option.some.inj hq).symm⟩
   ·rw [if_neg e2] at hq;cases hq
  ·rw [if_neg e] at hq;exact .inr ⟨fun h=>e h.symm,hq⟩
 obtain ⟨O',hO'⟩:∃O',O'=(j,Ob.arr sz (m p) (g p))::(F,Ob.fam vs.size sz (Zcn p 0 m) (Zbi p (fun _=>[]) g))::(i,Ob.oar [j,F] z n fun q=>bif Nat.beq q p then pr q++[.arr j] else pr q++[.row F q])::rmO j F i O:=⟨_,rfl⟩
 have hlook:∀k o,Zab O' k=some o→(k=j∧o= .arr sz (m p) (g p))∨(k=F∧o= .fam vs.size sz (Zcn p 0 m) (Zbi p (fun _=>[]) g))∨(k=i∧o= .oar [j,F] z n fun q=>bif Nat.beq q p then pr q++[.arr j] else pr q++[.row F q])∨((k≠j∧k≠F∧k≠i)∧Zab O k=some o∧Znr j F o.ids=true):=fun k o ho=>by
  rw [hO'] at ho
  simp only [Zab] at ho
  cases hb0:Nat.beq k j with
  |true=>
   rw [hb0] at ho
   simp only [cond_true,Option.some.injEq] at ho
   exact .inl ⟨Nat.eq_of_beq_eq_true hb0,ho.symm⟩
  |false=>
  rw [hb0] at ho
  simp only [cond_false] at ho
  cases hb:Nat.beq k F with
  |true=>
   rw [hb] at ho
   simp only [cond_true,Option.some.injEq] at ho
   exact .inr (.inl ⟨Nat.eq_of_beq_eq_true hb,ho.symm⟩)
  |false=>
   rw [hb] at ho
   simp only [cond_false] at ho
   cases hb2:Nat.beq k i with
   |true=>
    rw [hb2] at ho
    simp only [cond_true,Option.some.injEq] at ho
    exact .inr (.inr (.inl ⟨Nat.eq_of_beq_eq_true hb2,ho.symm⟩))
   |false=>
    rw [hb2] at ho
    simp only [cond_false] at ho
    obtain ⟨q1,q2⟩:=Zns ho
    refine .inr (.inr (.inr ⟨q1,q2,?_⟩))
    have hmem:(k,o)∈rmO j F i O:=Zck ho
    exact List.all_eq_true.1 hO _ hmem
 have hlive:∀k,Zab O' k≠none→k=j∨k=F∨(k≠F∧k≠j∧Zab O k≠none):=fun k hk=>by
  cases e:Zab O' k with
  |none=>exact absurd e hk
  |some o=>
   rcases hlook k o e with ⟨q,_⟩|⟨q,_⟩|⟨q,_⟩|⟨q1,q2,_⟩
   ·exact .inl q
   ·exact .inr (.inl q)
   ·subst q;exact .inr (.inr ⟨hiF,hij,ni⟩)
   ·exact .inr (.inr ⟨q1.2.1,q1.1,by rw [q2];simp⟩)
 have hblkj:∀b,Blk r0 b→blk r0=some b:=fun b hb=>by
  rcases or0 with ⟨_,A,hA⟩|⟨b',cur,e,c,hv,_⟩
  ·rw [hA,Zbs] at hb;rw [hA];exact hb
  ·rw [hv,Zbs] at hb;rw [hv];exact hb
 have hjF0:∀b,Blk (κ' j) b→Blk (κ F) b:=fun b hb=>by
  rw [kj] at hb;rw [e1];exact .inr ⟨_,rfl,p,r0,hr0,hblkj b hb⟩
 have hFF0:∀b,Blk (κ' F) b→∃q r,q≠p∧vs[q]? =some r∧blk r=some b:=fun b hb=>by
  rw [kF,Zjp] at hb
  obtain ⟨q,r,hq,hr⟩:=hb
  rcases hset q r hq with ⟨_,rfl⟩|⟨q1,q2⟩
  ·simp [blk] at hr
  ·exact ⟨q,r,q1,q2,hr⟩
 have hFF:∀b,Blk (κ' F) b→Blk (κ F) b:=fun b hb=>by
  obtain ⟨q,r,_,q2,q3⟩:=hFF0 b hb
  rw [e1];exact .inr ⟨_,rfl,q,r,q2,q3⟩
 have hblk:∀k b,Zab O' k≠none→Blk (κ' k) b→∃k0,Zab O k0≠none∧Blk (κ k0) b∧(B.bo k=true∨B.bo k0=false):=fun k b hk hb=>by
  rcases hlive k hk with rfl|rfl|⟨q1,q2,q3⟩
  ·exact ⟨F,nF,hjF0 b hb,.inr hbF⟩
  ·exact ⟨k,nF,hFF b hb,.inr hbF⟩
  ·rw [kne k q1 q2] at hb
   refine ⟨k,q3,hb,?_⟩
   cases B.bo k<;>simp
 have hkeep:=SS.ghost (B:=B) (κ:=κ) (κ':=κ') (ob:=Zab O) (ob':=Zab O') (w:=w) hblk
 have hid:∀ {l:List Nat},Znr j F l=true→∀q,q∈l→κ' q=κ q:=fun {l} hl q hq=>by
  simp only [Znr,Bool.and_eq_true,Bool.not_eq_true'] at hl
  refine kne q (fun e=> ?_) (fun e=> ?_)
  ·subst e
   have:l.contains q=true:=by simpa using hq
   rw [hl.2] at this;cases this
  ·subst e
   have:l.contains q=true:=by simpa using hq
   rw [hl.1] at this;cases this
 rw [←hO']
 refine ⟨h1,h2,κ',hm.ghost hblk (fun k o ho=> ?_) (fun k k2 b hk hk2 hb hb2=> ?_) (fun k hk=> ?_),fun t=> ?_⟩
 ·rcases hlook k o ho with ⟨rfl,rfl⟩|⟨rfl,rfl⟩|⟨rfl,rfl⟩|⟨q1,q2,q3⟩
  ·rw [kj];exact ArrRel.keep or0 (fun _ _=>rfl) hkeep
  ·refine ⟨_,kF,by simp,fun q r hq=> ?_,fun q q' r r' b hq hq' hb hb'=> ?_⟩
   ·rcases hset q r hq with ⟨rfl,rfl⟩|⟨e,hq⟩
    ·simp only [Zcn,Zbi,Nat.beq_refl,cond_true]
     exact .inl ⟨rfl,none,rfl⟩
    ·have:Nat.beq q p=false:=Bool.eq_false_iff.2 fun h=>e (Nat.eq_of_beq_eq_true h)
     simp only [Zcn,Zbi,this,cond_false]
     exact ArrRel.keep (e3 q r hq) (fun _ _=>rfl) hkeep
   ·rcases hset q r hq with ⟨_,x2⟩|⟨_,x2⟩
    ·rw [x2] at hb;simp [blk] at hb
    ·rcases hset q' r' hq' with ⟨_,y2⟩|⟨_,y2⟩
     ·rw [y2] at hb';simp [blk] at hb'
     ·exact e4 q q' r r' b x2 y2 hb hb'
  ·rw [kne k hiF hij]
   refine ⟨fun q hq z hz=> ?_,ArrG.cells (ArrG.mono oi.2 (fun _ _=>rfl) fun q s u x hq hu hr=>hr.keep (κ':=κ) hkeep fun _ _=>rfl) fun q hq ws hl hc=> ?_⟩
   ·cases hb:Nat.beq q p with
    |true=>simp only [hb,cond_true] at hz;simp [Zkv,hpr,AV.idsL,AV.ids] at hz;simp [hz]
    |false=>simp only [hb,cond_false] at hz;simp [Zkv,hpr,AV.idsL,AV.ids] at hz;simp [hz]
   ·rw [hf q hq] at hl hc
    cases hb:Nat.beq q p with
    |true=>
     have e:=Nat.eq_of_beq_eq_true hb
     simp only [cond_true]
     refine Zix (hpr q) hl hc fun x hrel=> ?_
     cases hrel with
     |tree _ _ h=>cases h
     |row _ _ vs' A n' c' hκ hq'=>
      rw [e1] at hκ
      cases hκ
      rw [e,hr0] at hq'
      exact .arr j A n' c' (by rw [kj];exact Option.some.inj hq')
    |false=>
     have e:q≠p:=fun e=>by subst e;simp at hb
     simp only [cond_false]
     refine Zix (hpr q) hl hc fun x hrel=> ?_
     cases hrel with
     |tree _ _ h=>cases h
     |row _ _ vs' A n' c' hκ hq'=>
      rw [e1] at hκ
      cases hκ
      refine .row F q _ A n' c' kF ?_
      rw [Array.getElem?_setIfInBounds,if_neg (fun h=>e h.symm)]
      exact hq'
  ·rw [kne k q1.2.1 q1.1]
   exact (hm.obj k o q2).keep (fun _ _=>rfl) hkeep (hid q3)
 ·have hone:∀k,k≠F→k≠j→Zab O k≠none→Blk (κ' k) b→Blk (κ F) b→False:=fun k k1 k2 k3 hk hFb=>by
   rw [kne k k1 k2] at hk
   exact k1 (hm.inj k F b k3 nF hk hFb)
  have hjf:Blk (κ' j) b→Blk (κ' F) b→False:=fun x y=>by
   obtain ⟨q,r,q1,q2,q3⟩:=hFF0 b y
   rw [kj] at x
   exact q1 (e4 q p r r0 b q2 hr0 q3 (hblkj b x))
  rcases hlive k hk with ek|ek|⟨q1,q2,q3⟩<;>rcases hlive k2 hk2 with fk|fk|⟨p1,p2,p3⟩
  ·rw [ek,fk]
  ·subst ek fk;exact (hjf hb hb2).elim
  ·subst ek;exact (hone k2 p1 p2 p3 hb2 (hjF0 b hb)).elim
  ·subst ek fk;exact (hjf hb2 hb).elim
  ·rw [ek,fk]
  ·subst ek;exact (hone k2 p1 p2 p3 hb2 (hFF b hb)).elim
  ·subst fk;exact (hone k q1 q2 q3 hb (hjF0 b hb2)).elim
  ·subst fk;exact (hone k q1 q2 q3 hb (hFF b hb2)).elim
  ·rw [kne k q1 q2] at hb;rw [kne k2 p1 p2] at hb2;exact hm.inj k k2 b q3 p3 hb hb2
 ·refine kne k (fun e=> ?_) (fun e=> ?_)
  ·subst e;rw [hbF] at hk;cases hk
  ·subst e;rw [hbj] at hk;cases hk
 ·rcases hTT t with e|⟨q,e,hne⟩
  ·exact (hr t).keep hkeep fun q hq=>hid e q hq
  ·have key:∀S1 S2 v,Rel κ w S1 (.row F q) v→Rel κ' w S2 (.row F q) v:=fun S1 S2 v h0=>by
    cases h0 with
    |tree _ _ h=>cases h
    |row _ _ vs' A n' c' hκ hq'=>
     rw [e1] at hκ
     cases hκ
     refine .row F q _ A n' c' kF ?_
     rw [Array.getElem?_setIfInBounds,if_neg (fun h=>hne h.symm)]
     exact hq'
   have h0:Rel κ w _ (Zcq T t) _:=hr t
   show Rel κ' w _ (Zcq T t) _
   rw [e] at h0⊢
   exact key _ _ _ h0
theorem Sim.putrowS {B:Base} {nt:Nat} {lent:List Nat} {T:List (Nat×AV)} {O:List (Nat×Ob)} {a:Act} {w:World} (hB:∀i,B.bo i=lent.contains i) (h:Sim B nt (mkS T O) a w) (i j F N sz n m1 p:Nat) (L:List Nat) (f1:Nat→List AV) (m:Nat→Nat) (g:Nat→Nat→List AV) (f pr:Nat→List AV) (z:Nat)
  (hi:Zab O i=some (.oar L z n f)) (hj:Zab O j=some (.arr sz m1 f1)) (hF:Zab O F=some (.fam N sz m g)) (hp:p<N) (hn:n≤N) (hf:∀q,q<n→(q=p→f q=pr q++[.arr j])∧(q≠p→f q=pr q++[.row F q])) (hpr:∀q,AV.idsL (pr q)=[]) (hck:Zie lent [] O j F i=true) (hTT:∀t,Znr j F (Zcq T t).ids=true∨∃q,Zcq T t= .row F q∧q≠p):
  Sim B nt (mkS T ((F,.fam N sz (Zcn p m1 m) (Zbi p f1 g))::(i,.oar [F] z n fun q=>pr q++[.row F q])::rmO j F i O)) a w:=by
 simp only [Zie,Bool.and_eq_true,Bool.not_eq_true'] at hck
 obtain ⟨⟨hlj,hlF⟩,hT,hO⟩:=hck
 have hbj:B.bo j=false:=by rw [hB];exact hlj
 have hbF:B.bo F=false:=by rw [hB];exact hlF
 obtain ⟨h1,h2,κ,hm,hr⟩:=h
 have hjF:j≠F:=fun e=>by subst e;rw [hj] at hF;cases hF
 have hiF:i≠F:=fun e=>by subst e;rw [hi] at hF;cases hF
 have hij:i≠j:=fun e=>by subst e;rw [hi] at hj;cases hj
 have oj:=hm.obj j _ hj
 have oi:=hm.obj i _ hi
 obtain ⟨vs,e1,e2,e3,e4⟩:=hm.obj F _ hF
 subst e2
 have nj:Zab O j≠none:=by rw [hj];simp
 have nF:Zab O F≠none:=by rw [hF];simp
 have ni:Zab O i≠none:=by rw [hi];simp
 obtain ⟨κ',hκ'⟩:∃κ',κ'=Zev κ F (.tuple (vs.setIfInBounds p (κ j))):=⟨_,rfl⟩
 have kF:κ' F= .tuple (vs.setIfInBounds p (κ j)):=by rw [hκ'];exact Zay _ _ _
 have kne:∀i,i≠F→κ' i=κ i:=fun i hi=>by rw [hκ'];exact Zbb _ _ hi
 have hset:∀q r,(vs.setIfInBounds p (κ j))[q]? =some r→(q=p∧r=κ j)∨(q≠p∧vs[q]? =some r):=fun q r hq=>by
  rw [Array.getElem?_setIfInBounds] at hq
  rcases Classical.em (p=q) with e|e
  ·rw [if_pos e] at hq
   rcases Classical.em (p<vs.size) with e2|e2
   ·rw [if_pos e2] at hq
    exact .inl ⟨e.symm,(Option.some.inj hq).symm⟩
   ·rw [if_neg e2] at hq;cases hq
  ·rw [if_neg e] at hq;exact .inr ⟨fun h=>e h.symm,hq⟩
 obtain ⟨O',hO'⟩:∃O',O'=(F,Ob.fam vs.size sz (Zcn p m1 m) (Zbi p f1 g))::(i,Ob.oar [F] z n fun q=>pr q++[.row F q])::rmO j F i O:=⟨_,rfl⟩
 have hlook:∀k o,Zab O' k=some o→(k=F∧o= .fam vs.size sz (Zcn p m1 m) (Zbi p f1 g))∨(k=i∧o= .oar [F] z n fun q=>pr q++[.row F q])∨((k≠j∧k≠F∧k≠i)∧Zab O k=some o∧Znr j F o.ids=true):=fun k o ho=>by
  rw [hO'] at ho
  simp only [Zab] at ho
  cases hb:Nat.beq k F with
  |true=>
   rw [hb] at ho
   simp only [cond_true,Option.some.injEq] at ho
   exact .inl ⟨Nat.eq_of_beq_eq_true hb,ho.symm⟩
  |false=>
   rw [hb] at ho
   simp only [cond_false] at ho
   cases hb2:Nat.beq k i with
   |true=>
    rw [hb2] at ho
    simp only [cond_true,Option.some.injEq] at ho
    exact .inr (.inl ⟨Nat.eq_of_beq_eq_true hb2,ho.symm⟩)
   |false=>
    rw [hb2] at ho
    simp only [cond_false] at ho
    obtain ⟨q1,q2⟩:=Zns ho
    exact .inr (.inr ⟨q1,q2,List.all_eq_true.1 hO _ (Zck ho)⟩)
 have hlive:∀k,Zab O' k≠none→k=F∨(k≠F∧k≠j∧Zab O k≠none):=fun k hk=>by
  cases e:Zab O' k with
  |none=>exact absurd e hk
  |some o=>
   rcases hlook k o e with ⟨q,_⟩|⟨q,_⟩|⟨q1,q2,_⟩
   ·exact .inl q
   ·subst q;exact .inr ⟨hiF,hij,ni⟩
   ·exact .inr ⟨q1.2.1,q1.1,by rw [q2];simp⟩
 have hblkF:∀b,Blk (κ' F) b→Blk (κ F) b∨Blk (κ j) b:=fun b hb=>by
  rw [kF,Zjp] at hb
  obtain ⟨q,r,hq,hr⟩:=hb
  rcases hset q r hq with ⟨_,rfl⟩|⟨_,hq⟩
  ·exact .inr (.inl hr)
  ·exact .inl (by rw [e1];exact .inr ⟨_,rfl,q,r,hq,hr⟩)
 have hS:∀fr b,SS B κ (Zab O) w fr b→SS B κ' (Zab O') w fr b:=fun fr b hb=>⟨hb.1,hb.2.1,fun k hk hbk=>by
  rcases hlive k hk with rfl|⟨q1,q2,q3⟩
  ·rcases hblkF b hbk with h|h
   ·exact hb.2.2 _ nF h
   ·exact hb.2.2 _ nj h
  ·rw [kne k q1] at hbk;exact hb.2.2 k q3 hbk⟩
 have hkeep:∀fr b,SS B κ (Zab O) w fr b→w.heap[b]? =w.heap[b]? ∧SS B κ' (Zab O') w fr b:=fun fr b hb=>⟨rfl,hS fr b hb⟩
 have hid:∀ {l:List Nat},Znr j F l=true→∀q,q∈l→κ' q=κ q:=fun {l} hl q hq=>kne q fun e=>by
  subst e
  simp only [Znr,Bool.and_eq_true,Bool.not_eq_true'] at hl
  have:l.contains q=true:=by simpa using hq
  rw [hl.2] at this;cases this
 rw [←hO']
 refine ⟨h1,h2,κ',⟨hm.kept,fun k o ho=> ?_,fun k b hk hb=> ?_,fun k k2 b hk hk2 hbi hbk=> ?_,fun k hk=> ?_,hm.glob⟩,fun t=> ?_⟩
 ·rcases hlook k o ho with ⟨rfl,rfl⟩|⟨rfl,rfl⟩|⟨q1,q2,q3⟩
  ·refine ⟨vs.setIfInBounds p (κ j),kF,by simp,fun q r hq=> ?_,fun q q' r r' b hq hq' hb hb'=> ?_⟩
   ·rcases hset q r hq with ⟨rfl,rfl⟩|⟨e,hq⟩
    ·simp only [Zcn,Zbi,Nat.beq_refl,cond_true]
     exact ArrRel.keep oj (fun _ _=>rfl) hkeep
    ·have:Nat.beq q p=false:=Bool.eq_false_iff.2 fun h=>e (Nat.eq_of_beq_eq_true h)
     simp only [Zcn,Zbi,this,cond_false]
     exact ArrRel.keep (e3 q r hq) (fun _ _=>rfl) hkeep
   ·rcases hset q r hq with ⟨x1,x2⟩|⟨x1,x2⟩<;>rcases hset q' r' hq' with ⟨y1,y2⟩|⟨y1,y2⟩
    ·rw [x1,y1]
    ·exact absurd (hm.inj j _ b nj nF (.inl (x2▸hb)) (by rw [e1];exact .inr ⟨_,rfl,q',r',y2,hb'⟩)) hjF
    ·exact absurd (hm.inj j _ b nj nF (.inl (y2▸hb')) (by rw [e1];exact .inr ⟨_,rfl,q,r,x2,hb⟩)) hjF
    ·exact e4 q q' r r' b x2 y2 hb hb'
  ·rw [kne k hiF]
   refine ⟨fun q hq z hz=>by simpa [Zkv,hpr,AV.idsL,AV.ids] using hz,ArrG.cells (ArrG.mono oi.2 (fun _ _=>rfl) fun q s u x hq hu hr=>hr.keep (κ':=κ) hkeep fun _ _=>rfl) fun q hq ws hl hc=> ?_⟩
   rcases Classical.em (q=p) with e|e
   ·have hfq:=(hf q hq).1 e
    rw [hfq] at hl hc
    refine Zix (hpr q) hl hc fun x hrel=> ?_
    cases hrel with
    |tree _ _ h=>cases h
    |arr _ A n' c' hκ=>
     refine .row F q _ A n' c' kF ?_
     rw [e,Array.getElem?_setIfInBounds,if_pos rfl,if_pos hp,hκ]
   ·have hfq:=(hf q hq).2 e
    rw [hfq] at hl hc
    refine Zix (hpr q) hl hc fun x hrel=> ?_
    cases hrel with
    |tree _ _ h=>cases h
    |row _ _ vs' A n' c' hκ hq'=>
     rw [e1] at hκ
     cases hκ
     refine .row F q _ A n' c' kF ?_
     rw [Array.getElem?_setIfInBounds,if_neg (fun h=>e h.symm)]
     exact hq'
  ·rw [kne k q1.2.1]
   exact (hm.obj k o q2).keep (fun _ _=>rfl) hkeep (hid q3)
 ·rcases hlive k hk with rfl|⟨q1,q2,q3⟩
  ·rcases hblkF b hb with h|h
   ·exact hm.ownb _ b nF h
   ·have:=hm.ownb _ b nj h
    refine ⟨this.1,.inl ?_⟩
    rcases this.2 with h'|h'
    ·exact h'
    ·rw [hbj] at h';cases h'
  ·rw [kne k q1] at hb;exact hm.ownb k b q3 hb
 ·have hone:∀k,k≠F→k≠j→Zab O k≠none→Blk (κ' k) b→Blk (κ' F) b→False:=fun k k1 k2 k3 hk hFb=>by
   rw [kne k k1] at hk
   rcases hblkF b hFb with h|h
   ·exact k1 (hm.inj k F b k3 nF hk h)
   ·exact k2 (hm.inj k j b k3 nj hk h)
  rcases hlive k hk with ei|⟨q1,q2,q3⟩<;>rcases hlive k2 hk2 with ek|⟨p1,p2,p3⟩
  ·rw [ei,ek]
  ·subst ei;exact (hone k2 p1 p2 p3 hbk hbi).elim
  ·subst ek;exact (hone k q1 q2 q3 hbi hbk).elim
  ·rw [kne k q1] at hbi;rw [kne k2 p1] at hbk;exact hm.inj k k2 b q3 p3 hbi hbk
 ·by_cases e:k=F
  ·subst e;rw [hbF] at hk;cases hk
  ·rw [kne k e];exact hm.lent k hk
 ·rcases hTT t with e|⟨q,e,hne⟩
  ·exact (hr t).keep hkeep fun q hq=>hid e q hq
  ·have key:∀S1 S2 v,Rel κ w S1 (.row F q) v→Rel κ' w S2 (.row F q) v:=fun S1 S2 v h0=>by
    cases h0 with
    |tree _ _ h=>cases h
    |row _ _ vs' A n' c' hκ hq'=>
     rw [e1] at hκ
     cases hκ
     refine .row F q _ A n' c' kF ?_
     rw [Array.getElem?_setIfInBounds,if_neg (fun h=>hne h.symm)]
     exact hq'
   have h0:Rel κ w _ (Zcq T t) _:=hr t
   show Rel κ' w _ (Zcq T t) _
   rw [e] at h0⊢
   exact key _ _ _ h0
theorem Sim.nilE {B:Base} {nt:Nat} {T:List (Nat×AV)} {O:List (Nat×Ob)} {a:Act} {w:World} (h:Sim B nt (mkS T O) a w) (x i sz z p n:Nat) (L:List Nat) (f f' fi:Nat→List AV) (pr:List AV) (u:AV) (hx:Zab O x=some (.oar L z n f))
  (hp:p<n) (h0:f p=pr++[u]) (hu:Zke u=true) (h1:f' p=pr++[.arr i]) (h2:∀q,q<n→q≠p→f' q=f q) (hpr:AV.idsL pr=[])
  (hf:Zgt T O i=true) (hb:B.bo i=false):Sim B nt (mkS T ((x,.oar (i::L) z n f')::(i,.arr sz 0 fi)::O)) a w:=by
 obtain ⟨g1,g2,κ,hm,hr⟩:=h
 obtain ⟨hO,hT,hnone⟩:=Zxx hf
 have ox:=hm.obj x _ hx
 have hoar:=ox.2
 obtain ⟨A,hAx⟩:∃A,∃R:Prop,R∧(R→∀(S':Bool→Nat→Prop) (κ':Nat→Value),(∀fr b,SS B κ (Zab O) w fr b→S' fr b)→(∀q,q≠i→κ' q=κ q)→κ' i= .slice A 0 0→ArrG (Rel κ' w S') w z n f' (κ x)):=by
  rcases hoar with ⟨hn,_⟩|⟨b,cur,e,c,hv,c0,c1,c2,c3,c4,c5⟩
  ·omega
  ·obtain ⟨y,hy,hy1,hyr⟩:=(c5 p hp).2 pr.length u (by rw [h0];simp)
   obtain ⟨A,rfl⟩:∃A,y= .slice A 0 0:=by
    cases u with
    |e0=>cases hyr with|tree _ _ h=>cases h with|e0 A=>exact ⟨A,rfl⟩
    |val v=>
     have:=hyr.val_of
     subst this
     cases y with
     |slice A n c=>
      cases A with
      |none=>cases n with
       |zero=>cases c with
        |zero=>exact ⟨none,rfl⟩
        |succ _=>cases hu
       |succ _=>cases hu
      |some _=>cases hu
     |_=>cases hu
    |_=>cases hu
   refine ⟨A,True,trivial,fun _ S' κ' hS hκ hκi=> .inr ⟨b,cur,e,c,hv,c0,c1,c2,c3,c4,fun q hq=> ?_⟩⟩
   by_cases eq:q=p
   ·subst eq
    refine ⟨by rw [h1];have:=(c5 q hq).1;rw [h0] at this;simpa using this,fun j v hj=> ?_⟩
    rw [h1] at hj
    by_cases hjl:j<pr.length
    ·rw [List.getElem?_append_left hjl] at hj
     obtain ⟨y2,hy2,hy3,hy4⟩:=(c5 q hq).2 j v (by rw [h0,List.getElem?_append_left hjl];exact hj)
     exact ⟨y2,hy2,hy3,hy4.keep (fun fr b h=>⟨rfl,hS fr b h⟩) fun k hk=>by rw [ids_of hpr hj] at hk;simp at hk⟩
    ·have e1:j=pr.length:=by
      have:=(List.getElem?_eq_some_iff.1 hj).1
      simp at this;omega
     subst e1
     simp at hj
     subst hj
     exact ⟨_,hy,hy1,.arr i A 0 0 hκi⟩
   ·refine ⟨by rw [h2 q hq eq];exact (c5 q hq).1,fun j v hj=> ?_⟩
    rw [h2 q hq eq] at hj
    obtain ⟨y2,hy2,hy3,hy4⟩:=(c5 q hq).2 j v hj
    exact ⟨y2,hy2,hy3,hy4.keep (fun fr b h=>⟨rfl,hS fr b h⟩) fun k hk=>hκ k fun ek=>by
     subst ek
     exact (hO x _ hx).2 (ox.1 q hq _ (AV.idsL_in hj hk))⟩
 obtain ⟨R,hR,hA⟩:=hAx
 have hA:=hA hR
 have hxi:x≠i:=(hO x _ hx).1
 have hput:=MS.put (w':=w) hm i (.arr sz 0 fi) (.slice A 0 0) (ob':=Zab ((i,.arr sz 0 fi)::O)) (by simp [Zab]) (fun j hj _=>by
  have:Nat.beq j i=false:=Bool.eq_false_iff.2 fun e=>hj (Nat.eq_of_beq_eq_true e)
  show Zab _ j=Zab O j
  simp [Zab,this]) (fun h=>absurd hnone h) (fun b hb=>by cases A<;>simp [Zbs,blk] at hb) rfl rfl rfl (Nat.le_refl _) (fun _ _ _=>rfl) (fun _ j o hj ho=>by
  have:Nat.beq j i=false:=Bool.eq_false_iff.2 fun e=>hj (Nat.eq_of_beq_eq_true e)
  have ho':Zab O j=some o:=by
   have h2:Zab ((i,.arr sz 0 fi)::O) j=some o:=ho
   simpa [Zab,this] using h2
  exact (hO j o ho').2) (fun h=>by rw [hb] at h;cases h) (fun _=> .inl ⟨rfl,A,rfl⟩)
 have hbeq:Nat.beq x i=false:=Bool.eq_false_iff.2 fun e=>hxi (Nat.eq_of_beq_eq_true e)
 have hx2:Zab ((i,.arr sz 0 fi)::O) x=some (.oar L z n f):=by simp [Zab,hbeq,hx]
 have hput2:=MS.put (w':=w) hput.1 x (.oar (i::L) z n f') (Zev κ i (.slice A 0 0) x) (ob':=Zab ((x,.oar (i::L) z n f')::(i,.arr sz 0 fi)::O)) (by simp [Zab]) (fun j hj _=>by
  have:Nat.beq j x=false:=Bool.eq_false_iff.2 fun e=>hj (Nat.eq_of_beq_eq_true e)
  show Zab _ j=Zab ((i,.arr sz 0 fi)::O) j
  simp [Zab,this]) (fun _=>rfl) (fun q hq=>⟨.inr ⟨x,by rw [hx2];simp,.inl rfl,hq⟩,(hput.1.ownb x q (by rw [hx2];simp) hq).1⟩) rfl rfl rfl (Nat.le_refl _) (fun _ _ _=>rfl) (fun h=>by rw [hx2] at h;cases h) (fun _=>rfl)
  (fun hfr=>by
   have hxk:Zev κ i (.slice A 0 0) x=κ x:=Zbb _ _ hxi
   rw [hxk] at hfr⊢
   have hκx:∀q,Zev (Zev κ i (.slice A 0 0)) x (κ x) q=Zev κ i (.slice A 0 0) q:=fun q=>by
    by_cases eq:q=x
    ·subst eq;rw [Zay,hxk]
    ·exact Zbb _ _ eq
   refine ⟨fun q hq k hk=> ?_,hA _ _ (fun fr b h=>(hfr fr b (hput.2 fr b h).2).2) (fun q hq=>(hκx q).trans (Zbb _ _ hq)) ((hκx i).trans (Zay _ _ _))⟩
   by_cases eq:q=p
   ·subst eq
    rw [h1,Zkv,hpr] at hk
    simp [AV.idsL,AV.ids] at hk
    simp [hk]
   ·rw [h2 q hq eq] at hk
    exact List.mem_cons_of_mem _ (ox.1 q hq k hk))
 have hκ2:Zev (Zev κ i (.slice A 0 0)) x (Zev κ i (.slice A 0 0) x)=Zev κ i (.slice A 0 0):=by funext q;by_cases eq:q=x<;>simp [Zev,eq]
 rw [hκ2] at hput2
 exact ⟨g1,g2,Zev κ i (.slice A 0 0),hput2.1,fun s=>((hr s).keep hput.2 fun j hj=>Zbb _ _ fun e=>by subst e;exact hT s hj).keep hput2.2 fun _ _=>rfl⟩
theorem Zsq {P:Program} {B:Base} {nt:Nat} {lent:List Nat} {T:List (Nat×AV)} {O:List (Nat×Ob)} {c:Code} {Q:Exit→Act→World→Prop} (hB:∀i,B.bo i=lent.contains i) (i j F p:Nat) (pr:Nat→List AV) {N sz n z:Nat} {L:List Nat} {m:Nat→Nat} {g:Nat→Nat→List AV} {f:Nat→List AV}
  (hi:Zab O i=some (.oar L z n f)) (hF:Zab O F=some (.fam N sz m g)) (hp:p<N) (hf:∀q,q<n→f q=pr q++[.row F q]) (hpr:∀q,AV.idsL (pr q)=[]) (hck:Zgv lent T O j F i=true)
  (h:AW P B nt c (mkS T ((j,.arr sz (m p) (g p))::(F,.fam N sz (Zcn p 0 m) (Zbi p (fun _=>[]) g))::(i,.oar [j,F] z n fun q=>bif Nat.beq q p then pr q++[.arr j] else pr q++[.row F q])::rmO j F i O)) Q):AW P B nt c (mkS T O) Q:=fun a w hs=>h a w (hs.takerowS hB i j F N sz n p L m g f pr z hi hF hp hf hpr (Zkw (p:=p) hck).1 (Zkw (p:=p) hck).2)
theorem Zvo {P:Program} {B:Base} {nt:Nat} {lent:List Nat} {T:List (Nat×AV)} {O:List (Nat×Ob)} {c:Code} {Q:Exit→Act→World→Prop} (hB:∀i,B.bo i=lent.contains i) (i j F p:Nat) (pr:Nat→List AV) {N sz n m1 z:Nat} {L:List Nat} {f1:Nat→List AV} {m:Nat→Nat} {g:Nat→Nat→List AV} {f:Nat→List AV}
  (hi:Zab O i=some (.oar L z n f)) (hj:Zab O j=some (.arr sz m1 f1)) (hF:Zab O F=some (.fam N sz m g)) (hp:p<N) (hn:n≤N) (hf:∀q,q<n→(q=p→f q=pr q++[.arr j])∧(q≠p→f q=pr q++[.row F q])) (hpr:∀q,AV.idsL (pr q)=[]) (hck:Zie lent T O j F i=true)
  (h:AW P B nt c (mkS T ((F,.fam N sz (Zcn p m1 m) (Zbi p f1 g))::(i,.oar [F] z n fun q=>pr q++[.row F q])::rmO j F i O)) Q):AW P B nt c (mkS T O) Q:=fun a w hs=>h a w (hs.putrowS hB i j F N sz n m1 p L f1 m g f pr z hi hj hF hp hn hf hpr (Zjx (p:=p) hck).1 (Zjx (p:=p) hck).2)
theorem ae_nilE {B:Base} {nt:Nat} {lent:List Nat} {T:List (Nat×AV)} {O:List (Nat×Ob)} {e:Exit} {Q:Exit→Act→World→Prop} (hB:∀i,B.bo i=lent.contains i) (x i sz p:Nat) (pr:List AV) (f' fi:Nat→List AV) {z n:Nat} {L:List Nat} {f:Nat→List AV} {u:AV} (hx:Zab O x=some (.oar L z n f)) (hp:p<n) (h0:f p=pr++[u]) (hu:Zke u=true) (h1:f' p=pr++[.arr i]) (h2:∀q,q<n→q≠p→f' q=f q) (hpr:AV.idsL pr=[]) (hck:(Zgt T O i&& !(lent.contains i))=true)
  (h:AE B nt e (mkS T ((x,.oar (i::L) z n f')::(i,.arr sz 0 fi)::O)) Q):AE B nt e (mkS T O) Q:=fun a w hs=>h a w (hs.nilE x i sz z p n L f f' fi pr u hx hp h0 hu h1 h2 hpr (Bool.and_eq_true_iff.1 hck).1 (by rw [hB];simpa using (Bool.and_eq_true_iff.1 hck).2))
section
variable {P : Program} {lent : List Nat} {nt : Nat} {R : Type} {Q : R → Base → Exit → Act → World → Prop} {Φ : R → Prop} {T : List (Nat × AV)} {O : List (Nat × Ob)}
theorem Znt {c:Code} (i j F p:Nat) (pr:Nat→List AV) {N sz n z:Nat} {L:List Nat} {m:Nat→Nat} {g:Nat→Nat→List AV} {f:Nat→List AV}
  (hi:Zab O i=some (.oar L z n f)) (hF:Zab O F=some (.fam N sz m g)) (hp:p<N) (hf:∀q,q<n→f q=pr q++[.row F q]) (hpr:∀q,AV.idsL (pr q)=[]) (hck:Zgv lent T O j F i=true)
  (h:XW P lent nt c (mkS T ((j,.arr sz (m p) (g p))::(F,.fam N sz (Zcn p 0 m) (Zbi p (fun _=>[]) g))::(i,.oar [j,F] z n fun q=>bif Nat.beq q p then pr q++[.arr j] else pr q++[.row F q])::rmO j F i O)) Q Φ):XW P lent nt c (mkS T O) Q Φ:=by
 obtain ⟨r,q1,q2⟩:=h;exact ⟨r,q1,fun B hB=>Zsq hB i j F p pr hi hF hp hf hpr hck (q2 B hB)⟩
theorem Zrc {c:Code} (i j F p:Nat) (pr:Nat→List AV) {N sz n m1 z:Nat} {L:List Nat} {f1:Nat→List AV} {m:Nat→Nat} {g:Nat→Nat→List AV} {f:Nat→List AV}
  (hi:Zab O i=some (.oar L z n f)) (hj:Zab O j=some (.arr sz m1 f1)) (hF:Zab O F=some (.fam N sz m g)) (hp:p<N) (hn:n≤N) (hf:∀q,q<n→(q=p→f q=pr q++[.arr j])∧(q≠p→f q=pr q++[.row F q])) (hpr:∀q,AV.idsL (pr q)=[]) (hck:Zie lent T O j F i=true)
  (h:XW P lent nt c (mkS T ((F,.fam N sz (Zcn p m1 m) (Zbi p f1 g))::(i,.oar [F] z n fun q=>pr q++[.row F q])::rmO j F i O)) Q Φ):XW P lent nt c (mkS T O) Q Φ:=by
 obtain ⟨r,q1,q2⟩:=h;exact ⟨r,q1,fun B hB=>Zvo hB i j F p pr hi hj hF hp hn hf hpr hck (q2 B hB)⟩
theorem Zpj {e:Exit} (x i sz p:Nat) (pr:List AV) (f' fi:Nat→List AV) {z n:Nat} {L:List Nat} {f:Nat→List AV} {u:AV} (hx:Zab O x=some (.oar L z n f)) (hp:p<n) (h0:f p=pr++[u]) (hu:Zke u=true) (h1:f' p=pr++[.arr i]) (h2:∀q,q<n→q≠p→f' q=f q) (hpr:AV.idsL pr=[]) (hck:(Zgt T O i&& !(lent.contains i))=true)
  (h:XE lent nt e (mkS T ((x,.oar (i::L) z n f')::(i,.arr sz 0 fi)::O)) Q Φ):XE lent nt e (mkS T O) Q Φ:=by
 obtain ⟨r,q1,q2⟩:=h;exact ⟨r,q1,fun B hB=>ae_nilE hB x i sz p pr f' fi hx hp h0 hu h1 h2 hpr hck (q2 B hB)⟩
end
end Go.Proofs.Ytfafngbbaplknaa.Ax
