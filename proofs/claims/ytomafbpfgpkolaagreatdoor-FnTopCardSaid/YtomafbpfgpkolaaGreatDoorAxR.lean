/- Tables: an array of nil slices becomes an array of rows, and a new array takes the place of a row. Plain lemmas on the model. No conditions. -/
import Derived.Test.YtomafbpfgpkolaaGreatDoorAxO
import Derived.Test.YtomafbpfgpkolaaGreatDoorAxP
namespace Go.Proofs.YtomafbpfgpkolaaGreatDoor.Ax
open Go.RowKit
set_option linter.unusedVariables false
set_option linter.unusedSimpArgs false
def rmO (j F i:Nat):List (Nat×Ob)→List (Nat×Ob)
 | []=>[]
 |(k,o)::r=>bif Nat.beq k j||(Nat.beq k F||Nat.beq k i) then rmO j F i r else (k,o)::rmO j F i r
theorem Ych {j F i:Nat} :∀ {O:List (Nat×Ob)} {k:Nat} {o:Ob},Zae (rmO j F i O) k=some o→(k≠j∧k≠F∧k≠i)∧Zae O k=some o
 | [],k,o,h=>by cases h
 |(q,oq)::r,k,o,h=>by
  simp only [rmO] at h
  cases hb:Nat.beq q j||(Nat.beq q F||Nat.beq q i) with
  |true=>
   rw [hb] at h
   obtain ⟨h1,h2⟩:=Ych (O:=r) h
   refine ⟨h1,?_⟩
   have:Nat.beq k q=false:=by
    rw [Bool.eq_false_iff]
    intro e
    have e:=Nat.eq_of_beq_eq_true e
    subst e
    rcases Bool.or_eq_true_iff.1 hb with e|e
    ·exact h1.1 (Nat.eq_of_beq_eq_true e)
    ·rcases Bool.or_eq_true_iff.1 e with e|e
     ·exact h1.2.1 (Nat.eq_of_beq_eq_true e)
     ·exact h1.2.2 (Nat.eq_of_beq_eq_true e)
   simp [Zae,this,h2]
  |false=>
   rw [hb] at h
   simp only [cond_false,Zae] at h
   cases hk:Nat.beq k q with
   |true=>
    rw [hk] at h
    simp only [cond_true,Option.some.injEq] at h
    have e:=Nat.eq_of_beq_eq_true hk
    subst e
    rw [Bool.or_eq_false_iff,Bool.or_eq_false_iff] at hb
    exact ⟨⟨fun e=>by subst e;simp at hb,fun e=>by subst e;simp at hb,fun e=>by subst e;simp at hb⟩,by simp [Zae,h]⟩
   |false=>
    rw [hk] at h
    obtain ⟨h1,h2⟩:=Ych (O:=r) h
    exact ⟨h1,by simp [Zae,hk,h2]⟩
def noId (j F:Nat) (l:List Nat):Bool:= !(l.contains j)&& !(l.contains F)
def Zxt (lent:List Nat) (T:List (Nat×AV)) (O:List (Nat×Ob)) (j F i:Nat):Bool:=
 (!(lent.contains j)&& !(lent.contains F))&&((T.all fun q=>noId j F q.2.ids)&&((rmO j F i O).all fun q=>noId j F q.2.ids))
theorem Ygx {lent:List Nat} {T:List (Nat×AV)} {O:List (Nat×Ob)} {j F i p:Nat} (h:Zxt lent T O j F i=true):Zxt lent [] O j F i=true∧∀t,noId j F (Zfe T t).ids=true∨∃q,Zfe T t= .row F q∧q≠p:=by
 simp only [Zxt,Bool.and_eq_true] at h
 refine ⟨by simp only [Zxt,Bool.and_eq_true];exact ⟨h.1,rfl,h.2.2⟩,fun t=> .inl ?_⟩
 rcases Zjc (T:=T) (t:=t) with e|e
 ·rw [e];rfl
 ·exact List.all_eq_true.1 h.2.1 _ e
theorem Sim.putrow {B:Base} {nt:Nat} {lent:List Nat} {T:List (Nat×AV)} {O:List (Nat×Ob)} {a:Act} {w:World} (hB:∀i,B.bo i=lent.contains i) (h:Sim B nt (mkS T O) a w) (i j F N sz n m1 p:Nat) (L:List Nat) (f1:Nat→List AV) (m:Nat→Nat) (g:Nat→Nat→List AV) (f:Nat→List AV)
  (hi:Zae O i=some (.oar L 1 n f)) (hj:Zae O j=some (.arr sz m1 f1)) (hF:Zae O F=some (.fam N sz m g)) (hp:p<N) (hn:n≤N) (hf:∀q,q<n→(q=p→f q=[.arr j])∧(q≠p→f q=[.row F q])) (hck:Zxt lent [] O j F i=true) (hTT:∀t,noId j F (Zfe T t).ids=true∨∃q,Zfe T t= .row F q∧q≠p):
  Sim B nt (mkS T ((F,.fam N sz (Zhm p m1 m) (Zet p f1 g))::(i,.oar [F] 1 n fun q=>[.row F q])::rmO j F i O)) a w:=by
 simp only [Zxt,Bool.and_eq_true,Bool.not_eq_true'] at hck
 obtain ⟨⟨hlj,hlF⟩,hT,hO⟩:=hck
 have hbj:B.bo j=false:=by rw [hB];exact hlj
 have hbF:B.bo F=false:=by rw [hB];exact hlF
 obtain ⟨h1,h2,κ,hm,hr⟩:=h
 have hjF:j≠F:=fun e=>by subst e;rw [hj] at hF;cases hF
 have hiF:i≠F:=fun e=>by subst e;rw [hi] at hF;cases hF
 have hij:i≠j:=fun e=>by subst e;rw [hi] at hj;cases hj
 have oj:=hm.obj j _ hj
 have oi:=hm.obj i _ hi
 obtain ⟨vs,e1,e2,e3,e4⟩:=hm.obj F _ hF
 subst e2
 have nj:Zae O j≠none:=by rw [hj];simp
 have nF:Zae O F≠none:=by rw [hF];simp
 have ni:Zae O i≠none:=by rw [hi];simp
 obtain ⟨κ',hκ'⟩:∃κ',κ'=Zig κ F (.tuple (vs.setIfInBounds p (κ j))):=⟨_,rfl⟩
 have kF:κ' F= .tuple (vs.setIfInBounds p (κ j)):=by rw [hκ'];exact Zbv _ _ _
 have kne:∀i,i≠F→κ' i=κ i:=fun i hi=>by rw [hκ'];exact Zcc _ _ hi
 have hset:∀q r,(vs.setIfInBounds p (κ j))[q]? =some r→(q=p∧r=κ j)∨(q≠p∧vs[q]? =some r):=fun q r hq=>by
  rw [Array.getElem?_setIfInBounds] at hq
  rcases Classical.em (p=q) with e|e
  ·rw [if_pos e] at hq
   rcases Classical.em (p<vs.size) with e2|e2
   ·rw [if_pos e2] at hq
    exact .inl ⟨e.symm,(Option.some.inj hq).symm⟩
   ·rw [if_neg e2] at hq;cases hq
  ·rw [if_neg e] at hq;exact .inr ⟨fun h=>e h.symm,hq⟩
 obtain ⟨O',hO'⟩:∃O',O'=(F,Ob.fam vs.size sz (Zhm p m1 m) (Zet p f1 g))::(i,Ob.oar [F] 1 n fun q=>[.row F q])::rmO j F i O:=⟨_,rfl⟩
 have hlook:∀k o,Zae O' k=some o→(k=F∧o= .fam vs.size sz (Zhm p m1 m) (Zet p f1 g))∨(k=i∧o= .oar [F] 1 n fun q=>[.row F q])∨((k≠j∧k≠F∧k≠i)∧Zae O k=some o∧noId j F o.ids=true):=fun k o ho=>by
  rw [hO'] at ho
  simp only [Zae] at ho
  cases hb:Nat.beq k F with
  |true=>
   rw [hb] at ho
   simp only [cond_true,Option.some.injEq] at ho
   exact .inl ⟨Nat.eq_of_beq_eq_true hb,ho.symm⟩
  |false=>
   rw [hb] at ho
   simp only [cond_false] at ho
   cases hb2:Nat.beq k i with
   |true=>
    rw [hb2] at ho
    simp only [cond_true,Option.some.injEq] at ho
    exact .inr (.inl ⟨Nat.eq_of_beq_eq_true hb2,ho.symm⟩)
   |false=>
    rw [hb2] at ho
    simp only [cond_false] at ho
    obtain ⟨q1,q2⟩:=Ych ho
    exact .inr (.inr ⟨q1,q2,List.all_eq_true.1 hO _ (Zed ho)⟩)
 have hlive:∀k,Zae O' k≠none→k=F∨(k≠F∧k≠j∧Zae O k≠none):=fun k hk=>by
  cases e:Zae O' k with
  |none=>exact absurd e hk
  |some o=>
   rcases hlook k o e with ⟨q,_⟩|⟨q,_⟩|⟨q1,q2,_⟩
   ·exact .inl q
   ·subst q;exact .inr ⟨hiF,hij,ni⟩
   ·exact .inr ⟨q1.2.1,q1.1,by rw [q2];simp⟩
 have hblkF:∀b,Blk (κ' F) b→Blk (κ F) b∨Blk (κ j) b:=fun b hb=>by
  rw [kF,Zuc] at hb
  obtain ⟨q,r,hq,hr⟩:=hb
  rcases hset q r hq with ⟨_,rfl⟩|⟨_,hq⟩
  ·exact .inr (.inl hr)
  ·exact .inl (by rw [e1];exact .inr ⟨_,rfl,q,r,hq,hr⟩)
 have hS:∀fr b,SS B κ (Zae O) w fr b→SS B κ' (Zae O') w fr b:=fun fr b hb=>⟨hb.1,hb.2.1,fun k hk hbk=>by
  rcases hlive k hk with rfl|⟨q1,q2,q3⟩
  ·rcases hblkF b hbk with h|h
   ·exact hb.2.2 _ nF h
   ·exact hb.2.2 _ nj h
  ·rw [kne k q1] at hbk;exact hb.2.2 k q3 hbk⟩
 have hkeep:∀fr b,SS B κ (Zae O) w fr b→w.heap[b]? =w.heap[b]? ∧SS B κ' (Zae O') w fr b:=fun fr b hb=>⟨rfl,hS fr b hb⟩
 have hid:∀ {l:List Nat},noId j F l=true→∀q,q∈l→κ' q=κ q:=fun {l} hl q hq=>kne q fun e=>by
  subst e
  simp only [noId,Bool.and_eq_true,Bool.not_eq_true'] at hl
  have:l.contains q=true:=by simpa using hq
  rw [hl.2] at this;cases this
 rw [←hO']
 refine ⟨h1,h2,κ',⟨hm.kept,fun k o ho=> ?_,fun k b hk hb=> ?_,fun k k2 b hk hk2 hbi hbk=> ?_,fun k hk=> ?_,hm.glob⟩,fun t=> ?_⟩
 ·rcases hlook k o ho with ⟨rfl,rfl⟩|⟨rfl,rfl⟩|⟨q1,q2,q3⟩
  ·refine ⟨vs.setIfInBounds p (κ j),kF,by simp,fun q r hq=> ?_,fun q q' r r' b hq hq' hb hb'=> ?_⟩
   ·rcases hset q r hq with ⟨rfl,rfl⟩|⟨e,hq⟩
    ·simp only [Zhm,Zet,Nat.beq_refl,cond_true]
     exact ArrRel.keep oj (fun _ _=>rfl) hkeep
    ·have:Nat.beq q p=false:=Bool.eq_false_iff.2 fun h=>e (Nat.eq_of_beq_eq_true h)
     simp only [Zhm,Zet,this,cond_false]
     exact ArrRel.keep (e3 q r hq) (fun _ _=>rfl) hkeep
   ·rcases hset q r hq with ⟨x1,x2⟩|⟨x1,x2⟩<;>rcases hset q' r' hq' with ⟨y1,y2⟩|⟨y1,y2⟩
    ·rw [x1,y1]
    ·exact absurd (hm.inj j _ b nj nF (.inl (x2▸hb)) (by rw [e1];exact .inr ⟨_,rfl,q',r',y2,hb'⟩)) hjF
    ·exact absurd (hm.inj j _ b nj nF (.inl (y2▸hb')) (by rw [e1];exact .inr ⟨_,rfl,q,r,x2,hb⟩)) hjF
    ·exact e4 q q' r r' b x2 y2 hb hb'
  ·rw [kne k hiF]
   refine ⟨fun q hq z hz=>by simpa [AV.idsL,AV.ids] using hz,ArrG.cells (ArrG.mono oi.2 (fun _ _=>rfl) fun q s u x hq hu hr=>hr.keep (κ':=κ) hkeep fun _ _=>rfl) fun q hq ws hl hc=> ?_⟩
   rcases Classical.em (q=p) with e|e
   ·have hfq:=(hf q hq).1 e
    rw [hfq] at hl hc
    refine ⟨hl,fun s u x hs hx=> ?_⟩
    have hs0:s=0:=by
     cases s with
     |zero=>rfl
     |succ s=>simp at hs
    subst hs0
    simp only [List.getElem?_cons_zero,Option.some.injEq] at hs
    subst hs
    have hrel:=hc 0 _ x rfl hx
    cases hrel with
    |tree _ _ h=>cases h
    |arr _ A n' c' hκ=>
     refine .row F q _ A n' c' kF ?_
     rw [e,Array.getElem?_setIfInBounds,if_pos rfl,if_pos hp,hκ]
   ·have hfq:=(hf q hq).2 e
    rw [hfq] at hl hc
    refine ⟨hl,fun s u x hs hx=> ?_⟩
    have hrel:=hc s u x hs hx
    have hs0:s=0:=by
     cases s with
     |zero=>rfl
     |succ s=>simp at hs
    subst hs0
    simp only [List.getElem?_cons_zero,Option.some.injEq] at hs
    subst hs
    cases hrel with
    |tree _ _ h=>cases h
    |row _ _ vs' A n' c' hκ hq'=>
     rw [e1] at hκ
     cases hκ
     refine .row F q _ A n' c' kF ?_
     rw [Array.getElem?_setIfInBounds,if_neg (fun h=>e h.symm)]
     exact hq'
  ·rw [kne k q1.2.1]
   exact (hm.obj k o q2).keep (fun _ _=>rfl) hkeep (hid q3)
 ·rcases hlive k hk with rfl|⟨q1,q2,q3⟩
  ·rcases hblkF b hb with h|h
   ·exact hm.ownb _ b nF h
   ·have:=hm.ownb _ b nj h
    refine ⟨this.1,.inl ?_⟩
    rcases this.2 with h'|h'
    ·exact h'
    ·rw [hbj] at h';cases h'
  ·rw [kne k q1] at hb;exact hm.ownb k b q3 hb
 ·have hone:∀k,k≠F→k≠j→Zae O k≠none→Blk (κ' k) b→Blk (κ' F) b→False:=fun k k1 k2 k3 hk hFb=>by
   rw [kne k k1] at hk
   rcases hblkF b hFb with h|h
   ·exact k1 (hm.inj k F b k3 nF hk h)
   ·exact k2 (hm.inj k j b k3 nj hk h)
  rcases hlive k hk with ei|⟨q1,q2,q3⟩<;>rcases hlive k2 hk2 with ek|⟨p1,p2,p3⟩
  ·rw [ei,ek]
  ·subst ei;exact (hone k2 p1 p2 p3 hbk hbi).elim
  ·subst ek;exact (hone k q1 q2 q3 hbi hbk).elim
  ·rw [kne k q1] at hbi;rw [kne k2 p1] at hbk;exact hm.inj k k2 b q3 p3 hbi hbk
 ·by_cases e:k=F
  ·subst e;rw [hbF] at hk;cases hk
  ·rw [kne k e];exact hm.lent k hk
 ·rcases hTT t with e|⟨q,e,hne⟩
  ·exact (hr t).keep hkeep fun q hq=>hid e q hq
  ·have key:∀S1 S2 v,Rel κ w S1 (.row F q) v→Rel κ' w S2 (.row F q) v:=fun S1 S2 v h0=>by
    cases h0 with
    |tree _ _ h=>cases h
    |row _ _ vs' A n' c' hκ hq'=>
     rw [e1] at hκ
     cases hκ
     refine .row F q _ A n' c' kF ?_
     rw [Array.getElem?_setIfInBounds,if_neg (fun h=>hne h.symm)]
     exact hq'
   have h0:Rel κ w _ (Zfe T t) _:=hr t
   show Rel κ' w _ (Zfe T t) _
   rw [e] at h0⊢
   exact key _ _ _ h0
theorem Ygy {P:Program} {B:Base} {nt:Nat} {lent:List Nat} {T:List (Nat×AV)} {O:List (Nat×Ob)} {c:Code} {Q:Exit→Act→World→Prop} (hB:∀i,B.bo i=lent.contains i) (i j F p:Nat) {N sz n m1:Nat} {L:List Nat} {f1:Nat→List AV} {m:Nat→Nat} {g:Nat→Nat→List AV} {f:Nat→List AV}
  (hi:Zae O i=some (.oar L 1 n f)) (hj:Zae O j=some (.arr sz m1 f1)) (hF:Zae O F=some (.fam N sz m g)) (hp:p<N) (hn:n≤N) (hf:∀q,q<n→(q=p→f q=[.arr j])∧(q≠p→f q=[.row F q])) (hck:Zxt lent T O j F i=true)
  (h:AW P B nt c (mkS T ((F,.fam N sz (Zhm p m1 m) (Zet p f1 g))::(i,.oar [F] 1 n fun q=>[.row F q])::rmO j F i O)) Q):AW P B nt c (mkS T O) Q:=fun a w hs=>h a w (hs.putrow hB i j F N sz n m1 p L f1 m g f hi hj hF hp hn hf (Ygx (p:=p) hck).1 (Ygx (p:=p) hck).2)
theorem SS.ghost {B:Base} {κ κ':Nat→Value} {ob ob':Nat→Option Ob} {w:World} (hblk:∀k b,ob' k≠none→Blk (κ' k) b→∃k0,ob k0≠none∧Blk (κ k0) b∧(B.bo k=true∨B.bo k0=false)):∀fr b,SS B κ ob w fr b→w.heap[b]? =w.heap[b]? ∧SS B κ' ob' w fr b:=
 fun fr b hb=>⟨rfl,hb.1,hb.2.1,fun k hk hbk=>by obtain ⟨k0,h1,h2,_⟩:=hblk k b hk hbk;exact hb.2.2 k0 h1 h2⟩
theorem MS.ghost {B:Base} {κ κ':Nat→Value} {ob ob':Nat→Option Ob} {w:World} (h:MS B κ ob w) (hblk:∀k b,ob' k≠none→Blk (κ' k) b→∃k0,ob k0≠none∧Blk (κ k0) b∧(B.bo k=true∨B.bo k0=false))
  (hobj:∀k o,ob' k=some o→ObRel κ' w (SS B κ' ob' w) o (κ' k)) (hinj:∀k k2 b,ob' k≠none→ob' k2≠none→Blk (κ' k) b→Blk (κ' k2) b→k=k2) (hlent:∀k,B.bo k=true→κ' k=κ k):MS B κ' ob' w:=
 by
 refine ⟨h.kept,hobj,fun k b hk hb=> ?_,hinj,fun k hk=>(hlent k hk).trans (h.lent k hk),h.glob⟩
 obtain ⟨k0,h1,h2,h3⟩:=hblk k b hk hb
 have:=h.ownb k0 b h1 h2
 refine ⟨this.1,?_⟩
 rcases h3 with e|e
 ·exact .inr e
 ·rcases this.2 with q|q
  ·exact .inl q
  ·rw [e] at q;exact absurd q (by decide)
theorem RelT.empty {w:World} {S:Bool→Nat→Prop} {u:AV} {x:Value} (h:RelT w S u x) (he:Zkl u=true):∃A,x= .slice A 0 0:=by
 cases h with
 |val v=>
  unfold Zkl at he
  split at he
  ·rename_i e;cases e
  ·rename_i e;cases e;exact ⟨none,rfl⟩
  ·cases he
 |e0 A=>exact ⟨A,rfl⟩
 |any v=>cases he
 |agg=>cases he
 |tup=>cases he
 |fn=>cases he
 |sl=>cases he
 |sl0=>cases he
 |ptr=>cases he
 |nilq=>cases he
theorem Ygz {T:List (Nat×AV)} {O:List (Nat×Ob)} {i:Nat} (hf:Zio T O i=true):(∀j o,Zae O j=some o→j≠i∧i∉o.ids)∧(∀s,i∉(Zfe T s).ids)∧Zae O i=none:=by
 simp only [Zio,Bool.and_eq_true] at hf
 have hO:∀j o,Zae O j=some o→j≠i∧i∉o.ids:=fun j o ho=>by
  have:=List.all_eq_true.1 hf.1 (j,o) (Zed ho)
  simp only [Bool.and_eq_true,Bool.not_eq_true'] at this
  exact ⟨fun e=>by subst e;simp at this,by simpa using this.2⟩
 refine ⟨hO,fun s=> ?_,?_⟩
 ·rcases Zjc (T:=T) (t:=s) with e|e
  ·rw [e];simp [AV.ids]
  ·have:=List.all_eq_true.1 hf.2 _ e
   simpa using this
 ·cases e:Zae O i with
  |none=>rfl
  |some o=>exact absurd rfl (hO i o e).1
theorem Sim.famN {B:Base} {nt:Nat} {T:List (Nat×AV)} {O:List (Nat×Ob)} {a:Act} {w:World} (h:Sim B nt (mkS T O) a w) (i F sz n:Nat) (f:Nat→List AV)
  (hi:Zae O i=some (.arr 1 n f)) (hf:∀q,q<n→∃u,f q=[u]∧Zkl u=true) (hfr:Zio T O F=true) (hbF:B.bo F=false):
  Sim B nt (mkS T ((F,.fam n sz (fun _=>0) (fun _ _=>[]))::(i,.oar [F] 1 n fun q=>[.row F q])::rmO i F i O)) a w:=by
 obtain ⟨h1,h2,κ,hm,hr⟩:=h
 obtain ⟨hO,hT,hnone⟩:=Ygz hfr
 have hiF:i≠F:=(hO i _ hi).1
 have oi:=hm.obj i _ hi
 have ni:Zae O i≠none:=by rw [hi];simp
 obtain ⟨vs,hvs,hnil,hcell⟩:∃vs:Array Value,vs.size=n∧(∀(q:Nat) (r:Value),vs[q]? =some r→∃A,r= .slice A 0 0)∧(∀(κ':Nat→Value) (S':Bool→Nat→Prop),κ' F= .tuple vs→ArrG (Rel κ' w S') w 1 n (fun q=>[.row F q]) (κ i)):=by
  rcases oi with ⟨h0,A,hA⟩|⟨b,cur,e,c,hv,h0,q1,q2,q3,q4,q5⟩
  ·exact ⟨#[],by simp [h0],fun q r h=>by simp at h,fun _ _ _=> .inl ⟨h0,A,hA⟩⟩
  ·have hsz:(cur.extract 0 n).size=n:=by simp;omega
   have hget:∀q,q<n→(cur.extract 0 n)[q]? =cur[q]? :=fun q hq=>by
    rw [Array.getElem?_extract,Nat.zero_add,if_pos (by omega)]
   have hcur:∀q,q<n→∃A,cur[q*1+0]? =some (.slice A 0 0)∧(Value.slice A 0 0).oneCell'=true:=fun q hq=>by
    obtain ⟨u,hu,hem⟩:=hf q hq
    obtain ⟨x,hx,ho,hR⟩:=(q5 q hq).2 0 u (by rw [hu];rfl)
    obtain ⟨A,rfl⟩:=RelT.empty hR hem
    exact ⟨A,hx,ho⟩
   refine ⟨cur.extract 0 n,hsz,fun q r hq=> ?_,fun κ' S' hκ=> .inr ⟨b,cur,e,c,hv,h0,q1,q2,q3,q4,fun q hq=>⟨rfl,fun j u hj=> ?_⟩⟩⟩
   ·have hqn:q<n:=by
     have:=(Array.getElem?_eq_some_iff.1 hq).1
     omega
    rw [hget q hqn] at hq
    obtain ⟨A,hA,_⟩:=hcur q hqn
    rw [Nat.mul_one,Nat.add_zero,hq] at hA
    exact ⟨A,Option.some.inj hA⟩
   ·have hj0:j=0:=by
     cases j with
     |zero=>rfl
     |succ j=>simp at hj
    subst hj0
    simp only [List.getElem?_cons_zero,Option.some.injEq] at hj
    subst hj
    obtain ⟨A,hA,ho⟩:=hcur q hq
    refine ⟨_,hA,ho,.row F q _ A 0 0 hκ ?_⟩
    rw [hget q hq]
    rw [Nat.mul_one,Nat.add_zero] at hA
    exact hA
 obtain ⟨κ',hκ'⟩:∃κ',κ'=Zig κ F (.tuple vs):=⟨_,rfl⟩
 have kF:κ' F= .tuple vs:=by rw [hκ'];exact Zbv _ _ _
 have kne:∀i,i≠F→κ' i=κ i:=fun i hi=>by rw [hκ'];exact Zcc _ _ hi
 obtain ⟨O',hO'⟩:∃O',O'=(F,Ob.fam n sz (fun _=>0) (fun _ _=>[]))::(i,Ob.oar [F] 1 n fun q=>[.row F q])::rmO i F i O:=⟨_,rfl⟩
 have hlook:∀k o,Zae O' k=some o→(k=F∧o= .fam n sz (fun _=>0) (fun _ _=>[]))∨(k=i∧o= .oar [F] 1 n fun q=>[.row F q])∨(k≠F∧Zae O k=some o):=fun k o ho=>by
  rw [hO'] at ho
  simp only [Zae] at ho
  cases hb:Nat.beq k F with
  |true=>
   rw [hb] at ho
   simp only [cond_true,Option.some.injEq] at ho
   exact .inl ⟨Nat.eq_of_beq_eq_true hb,ho.symm⟩
  |false=>
   rw [hb] at ho
   simp only [cond_false] at ho
   cases hb2:Nat.beq k i with
   |true=>
    rw [hb2] at ho
    simp only [cond_true,Option.some.injEq] at ho
    exact .inr (.inl ⟨Nat.eq_of_beq_eq_true hb2,ho.symm⟩)
   |false=>
    rw [hb2] at ho
    simp only [cond_false] at ho
    obtain ⟨q1,q2⟩:=Ych ho
    exact .inr (.inr ⟨q1.2.1,q2⟩)
 have hlive:∀k,Zae O' k≠none→k=F∨(k≠F∧Zae O k≠none):=fun k hk=>by
  cases e:Zae O' k with
  |none=>exact absurd e hk
  |some o=>
   rcases hlook k o e with ⟨q,_⟩|⟨q,_⟩|⟨q1,q2⟩
   ·exact .inl q
   ·subst q;exact .inr ⟨hiF,ni⟩
   ·exact .inr ⟨q1,by rw [q2];simp⟩
 have hnoF:∀b,¬ Blk (κ' F) b:=fun b hb=>by
  rw [kF,Zuc] at hb
  obtain ⟨q,r,hq,hr⟩:=hb
  obtain ⟨A,rfl⟩:=hnil q r hq
  cases A<;>simp [blk] at hr
 have hblk:∀k b,Zae O' k≠none→Blk (κ' k) b→∃k0,Zae O k0≠none∧Blk (κ k0) b∧(B.bo k=true∨B.bo k0=false):=fun k b hk hb=>by
  rcases hlive k hk with rfl|⟨q1,q2⟩
  ·exact absurd hb (hnoF b)
  ·rw [kne k q1] at hb
   refine ⟨k,q2,hb,?_⟩
   cases B.bo k<;>simp
 have hkeep:=SS.ghost (B:=B) (κ:=κ) (κ':=κ') (ob:=Zae O) (ob':=Zae O') (w:=w) hblk
 rw [←hO']
 refine ⟨h1,h2,κ',hm.ghost hblk (fun k o ho=> ?_) (fun k k2 b hk hk2 hb hb2=> ?_) (fun k hk=>kne k fun e=>by subst e;rw [hbF] at hk;cases hk),fun t=>(hr t).keep hkeep fun q hq=>kne q fun e=>by subst e;exact hT t hq⟩
 ·rcases hlook k o ho with ⟨rfl,rfl⟩|⟨rfl,rfl⟩|⟨q1,q2⟩
  ·refine ⟨vs,kF,hvs,fun p r hp=> ?_,fun p q r r' b hp hq hb hb'=> ?_⟩
   ·obtain ⟨A,rfl⟩:=hnil p r hp
    exact .inl ⟨rfl,A,rfl⟩
   ·obtain ⟨A,rfl⟩:=hnil p r hp
    cases A<;>simp [blk] at hb
  ·rw [kne k hiF]
   exact ⟨fun q hq z hz=>by simpa [AV.idsL,AV.ids] using hz,hcell κ' _ kF⟩
  ·rw [kne k q1]
   exact (hm.obj k o q2).keep (fun _ _=>rfl) hkeep fun q hq=>kne q fun e=>by subst e;exact (hO k o q2).2 hq
 ·rcases hlive k hk with rfl|⟨q1,q2⟩
  ·exact absurd hb (hnoF b)
  ·rcases hlive k2 hk2 with rfl|⟨p1,p2⟩
   ·exact absurd hb2 (hnoF b)
   ·rw [kne k q1] at hb;rw [kne k2 p1] at hb2;exact hm.inj k k2 b q2 p2 hb hb2
def Yha (lent:List Nat) (T:List (Nat×AV)) (O:List (Nat×Ob)) (F:Nat):Bool:=Zio T O F&& !(lent.contains F)
theorem aw_famN {P:Program} {B:Base} {nt:Nat} {lent:List Nat} {T:List (Nat×AV)} {O:List (Nat×Ob)} {c:Code} {Q:Exit→Act→World→Prop} (hB:∀i,B.bo i=lent.contains i) (i F sz:Nat) {n:Nat} {f:Nat→List AV}
  (hi:Zae O i=some (.arr 1 n f)) (hf:∀q,q<n→∃u,f q=[u]∧Zkl u=true) (hck:Yha lent T O F=true)
  (h:AW P B nt c (mkS T ((F,.fam n sz (fun _=>0) (fun _ _=>[]))::(i,.oar [F] 1 n fun q=>[.row F q])::rmO i F i O)) Q):AW P B nt c (mkS T O) Q:=fun a w hs=>by
 simp only [Yha,Bool.and_eq_true,Bool.not_eq_true'] at hck
 exact h a w (hs.famN i F sz n f hi hf hck.1 (by rw [hB];exact hck.2))
section
variable {P : Program} {lent : List Nat} {nt : Nat} {R : Type} {Q : R → Base → Exit → Act → World → Prop} {Φ : R → Prop} {T : List (Nat × AV)} {O : List (Nat × Ob)}
theorem x_putrow {c:Code} (i j F p:Nat) {N sz n m1:Nat} {L:List Nat} {f1:Nat→List AV} {m:Nat→Nat} {g:Nat→Nat→List AV} {f:Nat→List AV}
  (hi:Zae O i=some (.oar L 1 n f)) (hj:Zae O j=some (.arr sz m1 f1)) (hF:Zae O F=some (.fam N sz m g)) (hp:p<N) (hn:n≤N) (hf:∀q,q<n→(q=p→f q=[.arr j])∧(q≠p→f q=[.row F q])) (hck:Zxt lent T O j F i=true)
  (h:XW P lent nt c (mkS T ((F,.fam N sz (Zhm p m1 m) (Zet p f1 g))::(i,.oar [F] 1 n fun q=>[.row F q])::rmO j F i O)) Q Φ):XW P lent nt c (mkS T O) Q Φ:=by
 obtain ⟨r,h1,h2⟩:=h;exact ⟨r,h1,fun B hB=>Ygy hB i j F p hi hj hF hp hn hf hck (h2 B hB)⟩
theorem x_famN {c:Code} (i F sz:Nat) {n:Nat} {f:Nat→List AV} (hi:Zae O i=some (.arr 1 n f)) (hf:∀q,q<n→∃u,f q=[u]∧Zkl u=true) (hck:Yha lent T O F=true)
  (h:XW P lent nt c (mkS T ((F,.fam n sz (fun _=>0) (fun _ _=>[]))::(i,.oar [F] 1 n fun q=>[.row F q])::rmO i F i O)) Q Φ):XW P lent nt c (mkS T O) Q Φ:=by
 obtain ⟨r,h1,h2⟩:=h;exact ⟨r,h1,fun B hB=>aw_famN hB i F sz hi hf hck (h2 B hB)⟩
end
mutual
theorem AV.ren_nil:∀x:AV,x.ren (Zdw [])=x
 | .agg cs=>by simp only [AV.ren];rw [AV.renL_nil cs]
 | .tup cs=>by simp only [AV.ren];rw [AV.renL_nil cs]
 | .fn f cs=>by simp only [AV.ren];rw [AV.renL_nil cs]
 | .ref i o=>rfl
 | .elt i s k j=>rfl
 | .arr i=>rfl
 | .row i p=>rfl
 | .relt i p s k j=>rfl
 | .mapr i=>rfl
 | .win i o n=>rfl
 | .any=>rfl
 | .val v=>rfl
 | .sl fr sz n f=>rfl
 | .e0=>rfl
 | .ptr fr cs=>rfl
 | .nilq n=>rfl
theorem AV.renL_nil:∀cs:List AV,AV.renL (Zdw []) cs=cs
 | []=>rfl
 |x::r=>by simp only [AV.renL];rw [AV.ren_nil x,AV.renL_nil r]
end
end Go.Proofs.YtomafbpfgpkolaaGreatDoor.Ax
