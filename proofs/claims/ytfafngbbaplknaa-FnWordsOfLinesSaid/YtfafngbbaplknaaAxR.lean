/- Tables: an array of nil slices becomes an array of rows, and a new array takes the place of a row. Plain lemmas on the model. No conditions. -/
import Derived.Test.YtfafngbbaplknaaAxO
import Derived.Test.YtfafngbbaplknaaAxP
namespace Go.Proofs.Ytfafngbbaplknaa.Ax
open Go.RowKit
set_option linter.unusedVariables false
set_option linter.unusedSimpArgs false
def rmO (j F i:Nat):List (Nat×Ob)→List (Nat×Ob)
 | []=>[]
 |(k,o)::r=>bif Nat.beq k j||(Nat.beq k F||Nat.beq k i) then rmO j F i r else (k,o)::rmO j F i r
theorem Zns {j F i:Nat} :∀ {O:List (Nat×Ob)} {k:Nat} {o:Ob},Zab (rmO j F i O) k=some o→(k≠j∧k≠F∧k≠i)∧Zab O k=some o
 | [],k,o,h=>by cases h
 |(q,oq)::r,k,o,h=>by
  simp only [rmO] at h
  cases hb:Nat.beq q j||(Nat.beq q F||Nat.beq q i) with
  |true=>
   rw [hb] at h
   obtain ⟨h1,h2⟩:=Zns (O:=r) h
   refine ⟨h1,?_⟩
   have:Nat.beq k q=false:=by
    rw [Bool.eq_false_iff]
    intro e
    have e:=Nat.eq_of_beq_eq_true e
    subst e
    rcases Bool.or_eq_true_iff.1 hb with e|e
    ·exact h1.1 (Nat.eq_of_beq_eq_true e)
    ·rcases Bool.or_eq_true_iff.1 e with e|e
     ·exact h1.2.1 (Nat.eq_of_beq_eq_true e)
     ·exact h1.2.2 (Nat.eq_of_beq_eq_true e)
   simp [Zab,this,h2]
  |false=>
   rw [hb] at h
   simp only [cond_false,Zab] at h
   cases hk:Nat.beq k q with
   |true=>
    rw [hk] at h
    simp only [cond_true,Option.some.injEq] at h
    have e:=Nat.eq_of_beq_eq_true hk
    subst e
    rw [Bool.or_eq_false_iff,Bool.or_eq_false_iff] at hb
    exact ⟨⟨fun e=>by subst e;simp at hb,fun e=>by subst e;simp at hb,fun e=>by subst e;simp at hb⟩,by simp [Zab,h]⟩
   |false=>
    rw [hk] at h
    obtain ⟨h1,h2⟩:=Zns (O:=r) h
    exact ⟨h1,by simp [Zab,hk,h2]⟩
def Znr (j F:Nat) (l:List Nat):Bool:= !(l.contains j)&& !(l.contains F)
def Zie (lent:List Nat) (T:List (Nat×AV)) (O:List (Nat×Ob)) (j F i:Nat):Bool:=
 (!(lent.contains j)&& !(lent.contains F))&&((T.all fun q=>Znr j F q.2.ids)&&((rmO j F i O).all fun q=>Znr j F q.2.ids))
theorem Zjx {lent:List Nat} {T:List (Nat×AV)} {O:List (Nat×Ob)} {j F i p:Nat} (h:Zie lent T O j F i=true):Zie lent [] O j F i=true∧∀t,Znr j F (Zcq T t).ids=true∨∃q,Zcq T t= .row F q∧q≠p:=by
 simp only [Zie,Bool.and_eq_true] at h
 refine ⟨by simp only [Zie,Bool.and_eq_true];exact ⟨h.1,rfl,h.2.2⟩,fun t=> .inl ?_⟩
 rcases Zgx (T:=T) (t:=t) with e|e
 ·rw [e];rfl
 ·exact List.all_eq_true.1 h.2.1 _ e
theorem Sim.putrow {B:Base} {nt:Nat} {lent:List Nat} {T:List (Nat×AV)} {O:List (Nat×Ob)} {a:Act} {w:World} (hB:∀i,B.bo i=lent.contains i) (h:Sim B nt (mkS T O) a w) (i j F N sz n m1 p:Nat) (L:List Nat) (f1:Nat→List AV) (m:Nat→Nat) (g:Nat→Nat→List AV) (f:Nat→List AV)
  (hi:Zab O i=some (.oar L 1 n f)) (hj:Zab O j=some (.arr sz m1 f1)) (hF:Zab O F=some (.fam N sz m g)) (hp:p<N) (hn:n≤N) (hf:∀q,q<n→(q=p→f q=[.arr j])∧(q≠p→f q=[.row F q])) (hck:Zie lent [] O j F i=true) (hTT:∀t,Znr j F (Zcq T t).ids=true∨∃q,Zcq T t= .row F q∧q≠p):
  Sim B nt (mkS T ((F,.fam N sz (Zcn p m1 m) (Zbi p f1 g))::(i,.oar [F] 1 n fun q=>[.row F q])::rmO j F i O)) a w:=by
 simp only [Zie,Bool.and_eq_true,Bool.not_eq_true'] at hck
 obtain ⟨⟨hlj,hlF⟩,hT,hO⟩:=hck
 have hbj:B.bo j=false:=by rw [hB];exact hlj
 have hbF:B.bo F=false:=by rw [hB];exact hlF
 obtain ⟨h1,h2,κ,hm,hr⟩:=h
 have hjF:j≠F:=fun e=>by subst e;rw [hj] at hF;cases hF
 have hiF:i≠F:=fun e=>by subst e;rw [hi] at hF;cases hF
 have hij:i≠j:=fun e=>by subst e;rw [hi] at hj;cases hj
 have oj:=hm.obj j _ hj
 have oi:=hm.obj i _ hi
 obtain ⟨vs,e1,e2,e3,e4⟩:=hm.obj F _ hF
 subst e2
 have nj:Zab O j≠none:=by rw [hj];simp
 have nF:Zab O F≠none:=by rw [hF];simp
 have ni:Zab O i≠none:=by rw [hi];simp
 obtain ⟨κ',hκ'⟩:∃κ',κ'=Zev κ F (.tuple (vs.setIfInBounds p (κ j))):=⟨_,rfl⟩
 have kF:κ' F= .tuple (vs.setIfInBounds p (κ j)):=by rw [hκ'];exact Zay _ _ _
 have kne:∀i,i≠F→κ' i=κ i:=fun i hi=>by rw [hκ'];exact Zbb _ _ hi
 have hset:∀q r,(vs.setIfInBounds p (κ j))[q]? =some r→(q=p∧r=κ j)∨(q≠p∧vs[q]? =some r):=fun q r hq=>by
  rw [Array.getElem?_setIfInBounds] at hq
  rcases Classical.em (p=q) with e|e
  ·rw [if_pos e] at hq
   rcases Classical.em (p<vs.size) with e2|e2
   ·rw [if_pos e2] at hq
    exact .inl ⟨e.symm,(Option.some.inj hq).symm⟩
   ·rw [if_neg e2] at hq;cases hq
  ·rw [if_neg e] at hq;exact .inr ⟨fun h=>e h.symm,hq⟩
 obtain ⟨O',hO'⟩:∃O',O'=(F,Ob.fam vs.size sz (Zcn p m1 m) (Zbi p f1 g))::(i,Ob.oar [F] 1 n fun q=>[.row F q])::rmO j F i O:=⟨_,rfl⟩
 have hlook:∀k o,Zab O' k=some o→(k=F∧o= .fam vs.size sz (Zcn p m1 m) (Zbi p f1 g))∨(k=i∧o= .oar [F] 1 n fun q=>[.row F q])∨((k≠j∧k≠F∧k≠i)∧Zab O k=some o∧Znr j F o.ids=true):=fun k o ho=>by
  rw [hO'] at ho
  simp only [Zab] at ho
  cases hb:Nat.beq k F with
  |true=>
   rw [hb] at ho
   simp only [cond_true,Option.some.injEq] at ho
   exact .inl ⟨Nat.eq_of_beq_eq_true hb,ho.symm⟩
  |false=>
   rw [hb] at ho
   simp only [cond_false] at ho
   cases hb2:Nat.beq k i with
   |true=>
    rw [hb2] at ho
    simp only [cond_true,Option.some.injEq] at ho
    exact .inr (.inl ⟨Nat.eq_of_beq_eq_true hb2,ho.symm⟩)
   |false=>
    rw [hb2] at ho
    simp only [cond_false] at ho
    obtain ⟨q1,q2⟩:=Zns ho
    exact .inr (.inr ⟨q1,q2,List.all_eq_true.1 hO _ (Zck ho)⟩)
 have hlive:∀k,Zab O' k≠none→k=F∨(k≠F∧k≠j∧Zab O k≠none):=fun k hk=>by
  cases e:Zab O' k with
  |none=>exact absurd e hk
  |some o=>
   rcases hlook k o e with ⟨q,_⟩|⟨q,_⟩|⟨q1,q2,_⟩
   ·exact .inl q
   ·subst q;exact .inr ⟨hiF,hij,ni⟩
   ·exact .inr ⟨q1.2.1,q1.1,by rw [q2];simp⟩
 have hblkF:∀b,Blk (κ' F) b→Blk (κ F) b∨Blk (κ j) b:=fun b hb=>by
  rw [kF,Zjp] at hb
  obtain ⟨q,r,hq,hr⟩:=hb
  rcases hset q r hq with ⟨_,rfl⟩|⟨_,hq⟩
  ·exact .inr (.inl hr)
  ·exact .inl (by rw [e1];exact .inr ⟨_,rfl,q,r,hq,hr⟩)
 have hS:∀fr b,SS B κ (Zab O) w fr b→SS B κ' (Zab O') w fr b:=fun fr b hb=>⟨hb.1,hb.2.1,fun k hk hbk=>by
  rcases hlive k hk with rfl|⟨q1,q2,q3⟩
  ·rcases hblkF b hbk with h|h
   ·exact hb.2.2 _ nF h
   ·exact hb.2.2 _ nj h
  ·rw [kne k q1] at hbk;exact hb.2.2 k q3 hbk⟩
 have hkeep:∀fr b,SS B κ (Zab O) w fr b→w.heap[b]? =w.heap[b]? ∧SS B κ' (Zab O') w fr b:=fun fr b hb=>⟨rfl,hS fr b hb⟩
 have hid:∀ {l:List Nat},Znr j F l=true→∀q,q∈l→κ' q=κ q:=fun {l} hl q hq=>kne q fun e=>by
  subst e
  simp only [Znr,Bool.and_eq_true,Bool.not_eq_true'] at hl
  have:l.contains q=true:=by simpa using hq
  rw [hl.2] at this;cases this
 rw [←hO']
 refine ⟨h1,h2,κ',⟨hm.kept,fun k o ho=> ?_,fun k b hk hb=> ?_,fun k k2 b hk hk2 hbi hbk=> ?_,fun k hk=> ?_,hm.glob⟩,fun t=> ?_⟩
 ·rcases hlook k o ho with ⟨rfl,rfl⟩|⟨rfl,rfl⟩|⟨q1,q2,q3⟩
  ·refine ⟨vs.setIfInBounds p (κ j),kF,by simp,fun q r hq=> ?_,fun q q' r r' b hq hq' hb hb'=> ?_⟩
   ·rcases hset q r hq with ⟨rfl,rfl⟩|⟨e,hq⟩
    ·simp only [Zcn,Zbi,Nat.beq_refl,cond_true]
     exact ArrRel.keep oj (fun _ _=>rfl) hkeep
    ·have:Nat.beq q p=false:=Bool.eq_false_iff.2 fun h=>e (Nat.eq_of_beq_eq_true h)
     simp only [Zcn,Zbi,this,cond_false]
     exact ArrRel.keep (e3 q r hq) (fun _ _=>rfl) hkeep
   ·rcases hset q r hq with ⟨x1,x2⟩|⟨x1,x2⟩<;>rcases hset q' r' hq' with ⟨y1,y2⟩|⟨y1,y2⟩
    ·rw [x1,y1]
    ·exact absurd (hm.inj j _ b nj nF (.inl (x2▸hb)) (by rw [e1];exact .inr ⟨_,rfl,q',r',y2,hb'⟩)) hjF
    ·exact absurd (hm.inj j _ b nj nF (.inl (y2▸hb')) (by rw [e1];exact .inr ⟨_,rfl,q,r,x2,hb⟩)) hjF
    ·exact e4 q q' r r' b x2 y2 hb hb'
  ·rw [kne k hiF]
   refine ⟨fun q hq z hz=>by simpa [AV.idsL,AV.ids] using hz,ArrG.cells (ArrG.mono oi.2 (fun _ _=>rfl) fun q s u x hq hu hr=>hr.keep (κ':=κ) hkeep fun _ _=>rfl) fun q hq ws hl hc=> ?_⟩
   rcases Classical.em (q=p) with e|e
   ·have hfq:=(hf q hq).1 e
    rw [hfq] at hl hc
    refine ⟨hl,fun s u x hs hx=> ?_⟩
    have hs0:s=0:=by
     cases s with
     |zero=>rfl
     |succ s=>simp at hs
    subst hs0
    simp only [List.getElem?_cons_zero,Option.some.injEq] at hs
    subst hs
    have hrel:=hc 0 _ x rfl hx
    cases hrel with
    |tree _ _ h=>cases h
    |arr _ A n' c' hκ=>
     refine .row F q _ A n' c' kF ?_
     rw [e,Array.getElem?_setIfInBounds,if_pos rfl,if_pos hp,hκ]
   ·have hfq:=(hf q hq).2 e
    rw [hfq] at hl hc
    refine ⟨hl,fun s u x hs hx=> ?_⟩
    have hrel:=hc s u x hs hx
    have hs0:s=0:=by
     cases s with
     |zero=>rfl
     |succ s=>simp at hs
    subst hs0
    simp only [List.getElem?_cons_zero,Option.some.injEq] at hs
    subst hs
    cases hrel with
    |tree _ _ h=>cases h
    |row _ _ vs' A n' c' hκ hq'=>
     rw [e1] at hκ
     cases hκ
     refine .row F q _ A n' c' kF ?_
     rw [Array.getElem?_setIfInBounds,if_neg (fun h=>e h.symm)]
     exact hq'
  ·rw [kne k q1.2.1]
   exact (hm.obj k o q2).keep (fun _ _=>rfl) hkeep (hid q3)
 ·rcases hlive k hk with rfl|⟨q1,q2,q3⟩
  ·rcases hblkF b hb with h|h
   ·exact hm.ownb _ b nF h
   ·have:=hm.ownb _ b nj h
    refine ⟨this.1,.inl ?_⟩
    rcases this.2 with h'|h'
    ·exact h'
    ·rw [hbj] at h';cases h'
  ·rw [kne k q1] at hb;exact hm.ownb k b q3 hb
 ·have hone:∀k,k≠F→k≠j→Zab O k≠none→Blk (κ' k) b→Blk (κ' F) b→False:=fun k k1 k2 k3 hk hFb=>by
   rw [kne k k1] at hk
   rcases hblkF b hFb with h|h
   ·exact k1 (hm.inj k F b k3 nF hk h)
   ·exact k2 (hm.inj k j b k3 nj hk h)
  rcases hlive k hk with ei|⟨q1,q2,q3⟩<;>rcases hlive k2 hk2 with ek|⟨p1,p2,p3⟩
  ·rw [ei,ek]
  ·subst ei;exact (hone k2 p1 p2 p3 hbk hbi).elim
  ·subst ek;exact (hone k q1 q2 q3 hbi hbk).elim
  ·rw [kne k q1] at hbi;rw [kne k2 p1] at hbk;exact hm.inj k k2 b q3 p3 hbi hbk
 ·by_cases e:k=F
  ·subst e;rw [hbF] at hk;cases hk
  ·rw [kne k e];exact hm.lent k hk
 ·rcases hTT t with e|⟨q,e,hne⟩
  ·exact (hr t).keep hkeep fun q hq=>hid e q hq
  ·have key:∀S1 S2 v,Rel κ w S1 (.row F q) v→Rel κ' w S2 (.row F q) v:=fun S1 S2 v h0=>by
    cases h0 with
    |tree _ _ h=>cases h
    |row _ _ vs' A n' c' hκ hq'=>
     rw [e1] at hκ
     cases hκ
     refine .row F q _ A n' c' kF ?_
     rw [Array.getElem?_setIfInBounds,if_neg (fun h=>hne h.symm)]
     exact hq'
   have h0:Rel κ w _ (Zcq T t) _:=hr t
   show Rel κ' w _ (Zcq T t) _
   rw [e] at h0⊢
   exact key _ _ _ h0
theorem Zxy {P:Program} {B:Base} {nt:Nat} {lent:List Nat} {T:List (Nat×AV)} {O:List (Nat×Ob)} {c:Code} {Q:Exit→Act→World→Prop} (hB:∀i,B.bo i=lent.contains i) (i j F p:Nat) {N sz n m1:Nat} {L:List Nat} {f1:Nat→List AV} {m:Nat→Nat} {g:Nat→Nat→List AV} {f:Nat→List AV}
  (hi:Zab O i=some (.oar L 1 n f)) (hj:Zab O j=some (.arr sz m1 f1)) (hF:Zab O F=some (.fam N sz m g)) (hp:p<N) (hn:n≤N) (hf:∀q,q<n→(q=p→f q=[.arr j])∧(q≠p→f q=[.row F q])) (hck:Zie lent T O j F i=true)
  (h:AW P B nt c (mkS T ((F,.fam N sz (Zcn p m1 m) (Zbi p f1 g))::(i,.oar [F] 1 n fun q=>[.row F q])::rmO j F i O)) Q):AW P B nt c (mkS T O) Q:=fun a w hs=>h a w (hs.putrow hB i j F N sz n m1 p L f1 m g f hi hj hF hp hn hf (Zjx (p:=p) hck).1 (Zjx (p:=p) hck).2)
theorem SS.ghost {B:Base} {κ κ':Nat→Value} {ob ob':Nat→Option Ob} {w:World} (hblk:∀k b,ob' k≠none→Blk (κ' k) b→∃k0,ob k0≠none∧Blk (κ k0) b∧(B.bo k=true∨B.bo k0=false)):∀fr b,SS B κ ob w fr b→w.heap[b]? =w.heap[b]? ∧SS B κ' ob' w fr b:=
 fun fr b hb=>⟨rfl,hb.1,hb.2.1,fun k hk hbk=>by obtain ⟨k0,h1,h2,_⟩:=hblk k b hk hbk;exact hb.2.2 k0 h1 h2⟩
theorem MS.ghost {B:Base} {κ κ':Nat→Value} {ob ob':Nat→Option Ob} {w:World} (h:MS B κ ob w) (hblk:∀k b,ob' k≠none→Blk (κ' k) b→∃k0,ob k0≠none∧Blk (κ k0) b∧(B.bo k=true∨B.bo k0=false))
  (hobj:∀k o,ob' k=some o→ObRel κ' w (SS B κ' ob' w) o (κ' k)) (hinj:∀k k2 b,ob' k≠none→ob' k2≠none→Blk (κ' k) b→Blk (κ' k2) b→k=k2) (hlent:∀k,B.bo k=true→κ' k=κ k):MS B κ' ob' w:=
 by
 refine ⟨h.kept,hobj,fun k b hk hb=> ?_,hinj,fun k hk=>(hlent k hk).trans (h.lent k hk),h.glob⟩
 obtain ⟨k0,h1,h2,h3⟩:=hblk k b hk hb
 have:=h.ownb k0 b h1 h2
 refine ⟨this.1,?_⟩
 rcases h3 with e|e
 ·exact .inr e
 ·rcases this.2 with q|q
  ·exact .inl q
  ·rw [e] at q;exact absurd q (by decide)
theorem RelT.empty {w:World} {S:Bool→Nat→Prop} {u:AV} {x:Value} (h:RelT w S u x) (he:Zke u=true):∃A,x= .slice A 0 0:=by
 cases h with
 |val v=>
  unfold Zke at he
  split at he
  ·rename_i e;cases e
  ·rename_i e;cases e;exact ⟨none,rfl⟩
  ·cases he
 |e0 A=>exact ⟨A,rfl⟩
 |any v=>cases he
 |agg=>cases he
 |tup=>cases he
 |fn=>cases he
 |sl=>cases he
 |sl0=>cases he
 |ptr=>cases he
 |nilq=>cases he
theorem Zxx {T:List (Nat×AV)} {O:List (Nat×Ob)} {i:Nat} (hf:Zgt T O i=true):(∀j o,Zab O j=some o→j≠i∧i∉o.ids)∧(∀s,i∉(Zcq T s).ids)∧Zab O i=none:=by
 simp only [Zgt,Bool.and_eq_true] at hf
 have hO:∀j o,Zab O j=some o→j≠i∧i∉o.ids:=fun j o ho=>by
  have:=List.all_eq_true.1 hf.1 (j,o) (Zck ho)
  simp only [Bool.and_eq_true,Bool.not_eq_true'] at this
  exact ⟨fun e=>by subst e;simp at this,by simpa using this.2⟩
 refine ⟨hO,fun s=> ?_,?_⟩
 ·rcases Zgx (T:=T) (t:=s) with e|e
  ·rw [e];simp [AV.ids]
  ·have:=List.all_eq_true.1 hf.2 _ e
   simpa using this
 ·cases e:Zab O i with
  |none=>rfl
  |some o=>exact absurd rfl (hO i o e).1
def Zgv (lent:List Nat) (T:List (Nat×AV)) (O:List (Nat×Ob)) (j F i:Nat):Bool:=Zie lent T O j F i&&O.all fun q=> !(Nat.beq q.1 j)
theorem Zkw {lent:List Nat} {T:List (Nat×AV)} {O:List (Nat×Ob)} {j F i p:Nat} (h:Zgv lent T O j F i=true):Zgv lent [] O j F i=true∧∀t,Znr j F (Zcq T t).ids=true∨∃q,Zcq T t= .row F q∧q≠p:=by
 simp only [Zgv,Bool.and_eq_true] at h
 exact ⟨by simp only [Zgv,Bool.and_eq_true];exact ⟨(Zjx (p:=p) h.1).1,h.2⟩,(Zjx h.1).2⟩
theorem Sim.takerow {B:Base} {nt:Nat} {lent:List Nat} {T:List (Nat×AV)} {O:List (Nat×Ob)} {a:Act} {w:World} (hB:∀i,B.bo i=lent.contains i) (h:Sim B nt (mkS T O) a w) (i j F N sz n p:Nat) (L:List Nat) (m:Nat→Nat) (g:Nat→Nat→List AV) (f:Nat→List AV)
  (hi:Zab O i=some (.oar L 1 n f)) (hF:Zab O F=some (.fam N sz m g)) (hp:p<N) (hf:∀q,q<n→f q=[.row F q]) (hck:Zgv lent [] O j F i=true) (hTT:∀t,Znr j F (Zcq T t).ids=true∨∃q,Zcq T t= .row F q∧q≠p):
  Sim B nt (mkS T ((j,.arr sz (m p) (g p))::(F,.fam N sz (Zcn p 0 m) (Zbi p (fun _=>[]) g))::(i,.oar [j,F] 1 n fun q=>bif Nat.beq q p then [.arr j] else [.row F q])::rmO j F i O)) a w:=by
 simp only [Zgv,Zie,Bool.and_eq_true,Bool.not_eq_true'] at hck
 obtain ⟨⟨⟨hlj,hlF⟩,hT,hO⟩,hj0⟩:=hck
 have hbj:B.bo j=false:=by rw [hB];exact hlj
 have hbF:B.bo F=false:=by rw [hB];exact hlF
 have hjn:Zab O j=none:=by
  cases e:Zab O j with
  |none=>rfl
  |some o=>have:=List.all_eq_true.1 hj0 _ (Zck e);simp at this
 have hjF:j≠F:=fun e=>by subst e;rw [hjn] at hF;cases hF
 have hij:i≠j:=fun e=>by subst e;rw [hjn] at hi;cases hi
 have hiF:i≠F:=fun e=>by subst e;rw [hi] at hF;cases hF
 obtain ⟨h1,h2,κ,hm,hr⟩:=h
 have oi:=hm.obj i _ hi
 obtain ⟨vs,e1,e2,e3,e4⟩:=hm.obj F _ hF
 subst e2
 have nF:Zab O F≠none:=by rw [hF];simp
 have ni:Zab O i≠none:=by rw [hi];simp
 obtain ⟨r0,hr0⟩:∃r0,vs[p]? =some r0:=⟨vs[p],Array.getElem?_eq_getElem hp⟩
 have or0:=e3 p r0 hr0
 obtain ⟨κ',hκ'⟩:∃κ',κ'=Zev (Zev κ F (.tuple (vs.setIfInBounds p (.slice none 0 0)))) j r0:=⟨_,rfl⟩
 have kj:κ' j=r0:=by rw [hκ'];exact Zay _ _ _
 have kF:κ' F= .tuple (vs.setIfInBounds p (.slice none 0 0)):=by rw [hκ',Zbb _ _ (fun e=>hjF e.symm)];exact Zay _ _ _
 have kne:∀i,i≠F→i≠j→κ' i=κ i:=fun i hi hi2=>by rw [hκ',Zbb _ _ hi2];exact Zbb _ _ hi
 have hset:∀q r,(vs.setIfInBounds p (.slice none 0 0))[q]? =some r→(q=p∧r= .slice none 0 0)∨(q≠p∧vs[q]? =some r):=fun q r hq=>by
  rw [Array.getElem?_setIfInBounds] at hq
  rcases Classical.em (p=q) with e|e
  ·rw [if_pos e] at hq
   rcases Classical.em (p<vs.size) with e2|e2
   ·rw [if_pos e2] at hq
    exact .inl ⟨e.symm,(Option.some.inj hq).symm⟩
   ·rw [if_neg e2] at hq;cases hq
  ·rw [if_neg e] at hq;exact .inr ⟨fun h=>e h.symm,hq⟩
 obtain ⟨O',hO'⟩:∃O',O'=(j,Ob.arr sz (m p) (g p))::(F,Ob.fam vs.size sz (Zcn p 0 m) (Zbi p (fun _=>[]) g))::(i,Ob.oar [j,F] 1 n fun q=>bif Nat.beq q p then [.arr j] else [.row F q])::rmO j F i O:=⟨_,rfl⟩
 have hlook:∀k o,Zab O' k=some o→(k=j∧o= .arr sz (m p) (g p))∨(k=F∧o= .fam vs.size sz (Zcn p 0 m) (Zbi p (fun _=>[]) g))∨(k=i∧o= .oar [j,F] 1 n fun q=>bif Nat.beq q p then [.arr j] else [.row F q])∨((k≠j∧k≠F∧k≠i)∧Zab O k=some o∧Znr j F o.ids=true):=fun k o ho=>by
  rw [hO'] at ho
  simp only [Zab] at ho
  cases hb0:Nat.beq k j with
  |true=>
   rw [hb0] at ho
   simp only [cond_true,Option.some.injEq] at ho
   exact .inl ⟨Nat.eq_of_beq_eq_true hb0,ho.symm⟩
  |false=>
  rw [hb0] at ho
  simp only [cond_false] at ho
  cases hb:Nat.beq k F with
  |true=>
   rw [hb] at ho
   simp only [cond_true,Option.some.injEq] at ho
   exact .inr (.inl ⟨Nat.eq_of_beq_eq_true hb,ho.symm⟩)
  |false=>
   rw [hb] at ho
   simp only [cond_false] at ho
   cases hb2:Nat.beq k i with
   |true=>
    rw [hb2] at ho
    simp only [cond_true,Option.some.injEq] at ho
    exact .inr (.inr (.inl ⟨Nat.eq_of_beq_eq_true hb2,ho.symm⟩))
   |false=>
    rw [hb2] at ho
    simp only [cond_false] at ho
    obtain ⟨q1,q2⟩:=Zns ho
    refine .inr (.inr (.inr ⟨q1,q2,?_⟩))
    have hmem:(k,o)∈rmO j F i O:=Zck ho
    exact List.all_eq_true.1 hO _ hmem
 have hlive:∀k,Zab O' k≠none→k=j∨k=F∨(k≠F∧k≠j∧Zab O k≠none):=fun k hk=>by
  cases e:Zab O' k with
  |none=>exact absurd e hk
  |some o=>
   rcases hlook k o e with ⟨q,_⟩|⟨q,_⟩|⟨q,_⟩|⟨q1,q2,_⟩
   ·exact .inl q
   ·exact .inr (.inl q)
   ·subst q;exact .inr (.inr ⟨hiF,hij,ni⟩)
   ·exact .inr (.inr ⟨q1.2.1,q1.1,by rw [q2];simp⟩)
 have hblkj:∀b,Blk r0 b→blk r0=some b:=fun b hb=>by
  rcases or0 with ⟨_,A,hA⟩|⟨b',cur,e,c,hv,_⟩
  ·rw [hA,Zbs] at hb;rw [hA];exact hb
  ·rw [hv,Zbs] at hb;rw [hv];exact hb
 have hjF0:∀b,Blk (κ' j) b→Blk (κ F) b:=fun b hb=>by
  rw [kj] at hb;rw [e1];exact .inr ⟨_,rfl,p,r0,hr0,hblkj b hb⟩
 have hFF0:∀b,Blk (κ' F) b→∃q r,q≠p∧vs[q]? =some r∧blk r=some b:=fun b hb=>by
  rw [kF,Zjp] at hb
  obtain ⟨q,r,hq,hr⟩:=hb
  rcases hset q r hq with ⟨_,rfl⟩|⟨q1,q2⟩
  ·simp [blk] at hr
  ·exact ⟨q,r,q1,q2,hr⟩
 have hFF:∀b,Blk (κ' F) b→Blk (κ F) b:=fun b hb=>by
  obtain ⟨q,r,_,q2,q3⟩:=hFF0 b hb
  rw [e1];exact .inr ⟨_,rfl,q,r,q2,q3⟩
 have hblk:∀k b,Zab O' k≠none→Blk (κ' k) b→∃k0,Zab O k0≠none∧Blk (κ k0) b∧(B.bo k=true∨B.bo k0=false):=fun k b hk hb=>by
  rcases hlive k hk with rfl|rfl|⟨q1,q2,q3⟩
  ·exact ⟨F,nF,hjF0 b hb,.inr hbF⟩
  ·exact ⟨k,nF,hFF b hb,.inr hbF⟩
  ·rw [kne k q1 q2] at hb
   refine ⟨k,q3,hb,?_⟩
   cases B.bo k<;>simp
 have hkeep:=SS.ghost (B:=B) (κ:=κ) (κ':=κ') (ob:=Zab O) (ob':=Zab O') (w:=w) hblk
 have hid:∀ {l:List Nat},Znr j F l=true→∀q,q∈l→κ' q=κ q:=fun {l} hl q hq=>by
  simp only [Znr,Bool.and_eq_true,Bool.not_eq_true'] at hl
  refine kne q (fun e=> ?_) (fun e=> ?_)
  ·subst e
   have:l.contains q=true:=by simpa using hq
   rw [hl.2] at this;cases this
  ·subst e
   have:l.contains q=true:=by simpa using hq
   rw [hl.1] at this;cases this
 rw [←hO']
 refine ⟨h1,h2,κ',hm.ghost hblk (fun k o ho=> ?_) (fun k k2 b hk hk2 hb hb2=> ?_) (fun k hk=> ?_),fun t=> ?_⟩
 ·rcases hlook k o ho with ⟨rfl,rfl⟩|⟨rfl,rfl⟩|⟨rfl,rfl⟩|⟨q1,q2,q3⟩
  ·rw [kj];exact ArrRel.keep or0 (fun _ _=>rfl) hkeep
  ·refine ⟨_,kF,by simp,fun q r hq=> ?_,fun q q' r r' b hq hq' hb hb'=> ?_⟩
   ·rcases hset q r hq with ⟨rfl,rfl⟩|⟨e,hq⟩
    ·simp only [Zcn,Zbi,Nat.beq_refl,cond_true]
     exact .inl ⟨rfl,none,rfl⟩
    ·have:Nat.beq q p=false:=Bool.eq_false_iff.2 fun h=>e (Nat.eq_of_beq_eq_true h)
     simp only [Zcn,Zbi,this,cond_false]
     exact ArrRel.keep (e3 q r hq) (fun _ _=>rfl) hkeep
   ·rcases hset q r hq with ⟨_,x2⟩|⟨_,x2⟩
    ·rw [x2] at hb;simp [blk] at hb
    ·rcases hset q' r' hq' with ⟨_,y2⟩|⟨_,y2⟩
     ·rw [y2] at hb';simp [blk] at hb'
     ·exact e4 q q' r r' b x2 y2 hb hb'
  ·rw [kne k hiF hij]
   refine ⟨fun q hq z hz=> ?_,ArrG.cells (ArrG.mono oi.2 (fun _ _=>rfl) fun q s u x hq hu hr=>hr.keep (κ':=κ) hkeep fun _ _=>rfl) fun q hq ws hl hc=> ?_⟩
   ·cases hb:Nat.beq q p with
    |true=>simp only [hb,cond_true] at hz;simp [AV.idsL,AV.ids] at hz;simp [hz]
    |false=>simp only [hb,cond_false] at hz;simp [AV.idsL,AV.ids] at hz;simp [hz]
   ·rw [hf q hq] at hl hc
    cases hb:Nat.beq q p with
    |true=>
     have e:=Nat.eq_of_beq_eq_true hb
     refine ⟨hl,fun s u x hs hx=> ?_⟩
     have hs0:s=0:=by
      cases s with
      |zero=>rfl
      |succ s=>simp at hs
     subst hs0
     simp only [cond_true,List.getElem?_cons_zero,Option.some.injEq] at hs
     subst hs
     have hrel:=hc 0 _ x rfl hx
     cases hrel with
     |tree _ _ h=>cases h
     |row _ _ vs' A n' c' hκ hq'=>
      rw [e1] at hκ
      cases hκ
      rw [e,hr0] at hq'
      exact .arr j A n' c' (by rw [kj];exact Option.some.inj hq')
    |false=>
     have e:q≠p:=fun e=>by subst e;simp at hb
     refine ⟨hl,fun s u x hs hx=> ?_⟩
     have hs0:s=0:=by
      cases s with
      |zero=>rfl
      |succ s=>simp at hs
     subst hs0
     simp only [cond_false,List.getElem?_cons_zero,Option.some.injEq] at hs
     subst hs
     have hrel:=hc 0 _ x rfl hx
     cases hrel with
     |tree _ _ h=>cases h
     |row _ _ vs' A n' c' hκ hq'=>
      rw [e1] at hκ
      cases hκ
      refine .row F q _ A n' c' kF ?_
      rw [Array.getElem?_setIfInBounds,if_neg (fun h=>e h.symm)]
      exact hq'
  ·rw [kne k q1.2.1 q1.1]
   exact (hm.obj k o q2).keep (fun _ _=>rfl) hkeep (hid q3)
 ·have hone:∀k,k≠F→k≠j→Zab O k≠none→Blk (κ' k) b→Blk (κ F) b→False:=fun k k1 k2 k3 hk hFb=>by
   rw [kne k k1 k2] at hk
   exact k1 (hm.inj k F b k3 nF hk hFb)
  have hjf:Blk (κ' j) b→Blk (κ' F) b→False:=fun x y=>by
   obtain ⟨q,r,q1,q2,q3⟩:=hFF0 b y
   rw [kj] at x
   exact q1 (e4 q p r r0 b q2 hr0 q3 (hblkj b x))
  rcases hlive k hk with ek|ek|⟨q1,q2,q3⟩<;>rcases hlive k2 hk2 with fk|fk|⟨p1,p2,p3⟩
  ·rw [ek,fk]
  ·subst ek fk;exact (hjf hb hb2).elim
  ·subst ek;exact (hone k2 p1 p2 p3 hb2 (hjF0 b hb)).elim
  ·subst ek fk;exact (hjf hb2 hb).elim
  ·rw [ek,fk]
  ·subst ek;exact (hone k2 p1 p2 p3 hb2 (hFF b hb)).elim
  ·subst fk;exact (hone k q1 q2 q3 hb (hjF0 b hb2)).elim
  ·subst fk;exact (hone k q1 q2 q3 hb (hFF b hb2)).elim
  ·rw [kne k q1 q2] at hb;rw [kne k2 p1 p2] at hb2;exact hm.inj k k2 b q3 p3 hb hb2
 ·refine kne k (fun e=> ?_) (fun e=> ?_)
  ·subst e;rw [hbF] at hk;cases hk
  ·subst e;rw [hbj] at hk;cases hk
 ·rcases hTT t with e|⟨q,e,hne⟩
  ·exact (hr t).keep hkeep fun q hq=>hid e q hq
  ·have key:∀S1 S2 v,Rel κ w S1 (.row F q) v→Rel κ' w S2 (.row F q) v:=fun S1 S2 v h0=>by
    cases h0 with
    |tree _ _ h=>cases h
    |row _ _ vs' A n' c' hκ hq'=>
     rw [e1] at hκ
     cases hκ
     refine .row F q _ A n' c' kF ?_
     rw [Array.getElem?_setIfInBounds,if_neg (fun h=>hne h.symm)]
     exact hq'
   have h0:Rel κ w _ (Zcq T t) _:=hr t
   show Rel κ' w _ (Zcq T t) _
   rw [e] at h0⊢
   exact key _ _ _ h0
theorem Zvp {P:Program} {B:Base} {nt:Nat} {lent:List Nat} {T:List (Nat×AV)} {O:List (Nat×Ob)} {c:Code} {Q:Exit→Act→World→Prop} (hB:∀i,B.bo i=lent.contains i) (i j F p:Nat) {N sz n:Nat} {L:List Nat} {m:Nat→Nat} {g:Nat→Nat→List AV} {f:Nat→List AV}
  (hi:Zab O i=some (.oar L 1 n f)) (hF:Zab O F=some (.fam N sz m g)) (hp:p<N) (hf:∀q,q<n→f q=[.row F q]) (hck:Zgv lent T O j F i=true)
  (h:AW P B nt c (mkS T ((j,.arr sz (m p) (g p))::(F,.fam N sz (Zcn p 0 m) (Zbi p (fun _=>[]) g))::(i,.oar [j,F] 1 n fun q=>bif Nat.beq q p then [.arr j] else [.row F q])::rmO j F i O)) Q):AW P B nt c (mkS T O) Q:=fun a w hs=>h a w (hs.takerow hB i j F N sz n p L m g f hi hF hp hf (Zkw (p:=p) hck).1 (Zkw (p:=p) hck).2)
section
variable {P : Program} {lent : List Nat} {nt : Nat} {R : Type} {Q : R → Base → Exit → Act → World → Prop} {Φ : R → Prop} {T : List (Nat × AV)} {O : List (Nat × Ob)}
theorem Zue {c:Code} (i j F p:Nat) {N sz n m1:Nat} {L:List Nat} {f1:Nat→List AV} {m:Nat→Nat} {g:Nat→Nat→List AV} {f:Nat→List AV}
  (hi:Zab O i=some (.oar L 1 n f)) (hj:Zab O j=some (.arr sz m1 f1)) (hF:Zab O F=some (.fam N sz m g)) (hp:p<N) (hn:n≤N) (hf:∀q,q<n→(q=p→f q=[.arr j])∧(q≠p→f q=[.row F q])) (hck:Zie lent T O j F i=true)
  (h:XW P lent nt c (mkS T ((F,.fam N sz (Zcn p m1 m) (Zbi p f1 g))::(i,.oar [F] 1 n fun q=>[.row F q])::rmO j F i O)) Q Φ):XW P lent nt c (mkS T O) Q Φ:=by
 obtain ⟨r,h1,h2⟩:=h;exact ⟨r,h1,fun B hB=>Zxy hB i j F p hi hj hF hp hn hf hck (h2 B hB)⟩
theorem Zrd {c:Code} (i j F p:Nat) {N sz n:Nat} {L:List Nat} {m:Nat→Nat} {g:Nat→Nat→List AV} {f:Nat→List AV}
  (hi:Zab O i=some (.oar L 1 n f)) (hF:Zab O F=some (.fam N sz m g)) (hp:p<N) (hf:∀q,q<n→f q=[.row F q]) (hck:Zgv lent T O j F i=true)
  (h:XW P lent nt c (mkS T ((j,.arr sz (m p) (g p))::(F,.fam N sz (Zcn p 0 m) (Zbi p (fun _=>[]) g))::(i,.oar [j,F] 1 n fun q=>bif Nat.beq q p then [.arr j] else [.row F q])::rmO j F i O)) Q Φ):XW P lent nt c (mkS T O) Q Φ:=by
 obtain ⟨r,h1,h2⟩:=h;exact ⟨r,h1,fun B hB=>Zvp hB i j F p hi hF hp hf hck (h2 B hB)⟩
end
theorem beqR {a b:Nat} (h:a≠b):Nat.beq a b=false:=Bool.eq_false_iff.2 fun e=>h (Nat.eq_of_beq_eq_true e)
theorem famUp_at (p n:Nat) (m:Nat→Nat):Zcn p n m p=n:=by simp [Zcn]
theorem famUp_ne {p q:Nat} (n:Nat) (m:Nat→Nat) (h:q≠p):Zcn p n m q=m q:=by simp [Zcn,beqR h]
theorem Zxz (p:Nat) (f:Nat→List AV) (g:Nat→Nat→List AV):Zbi p f g p=f:=by simp [Zbi]
theorem Zya {p q:Nat} (f:Nat→List AV) (g:Nat→Nat→List AV) (h:q≠p):Zbi p f g q=g q:=by simp [Zbi,beqR h]
mutual
theorem AV.ren_nil:∀x:AV,x.ren (Zcm [])=x
 | .agg cs=>by simp only [AV.ren];rw [AV.renL_nil cs]
 | .tup cs=>by simp only [AV.ren];rw [AV.renL_nil cs]
 | .fn f cs=>by simp only [AV.ren];rw [AV.renL_nil cs]
 | .ref i o=>rfl
 | .elt i s k j=>rfl
 | .arr i=>rfl
 | .row i p=>rfl
 | .relt i p s k j=>rfl
 | .mapr i=>rfl
 | .win i o n=>rfl
 | .any=>rfl
 | .val v=>rfl
 | .sl fr sz n f=>rfl
 | .e0=>rfl
 | .ptr fr cs=>rfl
 | .nilq n=>rfl
theorem AV.renL_nil:∀cs:List AV,AV.renL (Zcm []) cs=cs
 | []=>rfl
 |x::r=>by simp only [AV.renL];rw [AV.ren_nil x,AV.renL_nil r]
end
end Go.Proofs.Ytfafngbbaplknaa.Ax
