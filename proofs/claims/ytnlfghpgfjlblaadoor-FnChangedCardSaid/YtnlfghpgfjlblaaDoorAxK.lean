/- The abstract run: regions, states as lists, and when one state serves for another. Plain lemmas on the model. No conditions. -/
import Derived.Test.YtnlfghpgfjlblaaDoorAxJ
namespace Go.Proofs.YtnlfghpgfjlblaaDoor.Ax
open Go.RowKit
set_option linter.unusedVariables false
set_option linter.unusedSimpArgs false
def St.kill (N:Nat→Bool) (σ:St):St:=⟨fun t=>(σ.tm t).kill N,fun i=>bif N i then none else (σ.ob i).map (Ob.kill N)⟩
theorem Sim.kill {B:Base} {nt:Nat} {σ:St} {a:Act} {w:World} (h:Sim B nt σ a w) (N:Nat→Bool):Sim B nt (σ.kill N) a w:=by
 obtain ⟨h1,h2,κ,hm,hr⟩:=h
 have hl:∀i o,(σ.kill N).ob i=some o→∃o',σ.ob i=some o'∧o=o'.kill N:=fun i o ho=>by
  simp only [St.kill] at ho
  cases hN:N i with
  |true=>simp [hN] at ho
  |false=>
   simp only [hN,cond_false,Option.map_eq_some_iff] at ho
   obtain ⟨o',e1,e2⟩:=ho
   exact ⟨o',e1,e2.symm⟩
 have hl':∀i,(σ.kill N).ob i≠none→σ.ob i≠none:=fun i hi=>by
  cases ho:(σ.kill N).ob i with
  |none=>exact absurd ho hi
  |some o=>obtain ⟨o',e,_⟩:=hl i o ho;rw [e];simp
 refine ⟨h1,h2,κ,hm.drop fun i o ho=> ?_,fun t=>((hr t).keep (SS.drop hl') fun _ _=>rfl).kill N⟩
 obtain ⟨o',e1,rfl⟩:=hl i o ho
 exact ⟨o',e1,fun h=>h.kill N⟩
theorem NoId.of_kill {N:Nat→Bool} {n:Nat} (hn:N n=true) (σ:St):NoId n (σ.kill N):=by
 refine ⟨by simp [St.kill,hn],fun t=>AV.kill_ids hn _,fun j o ho=> ?_⟩
 simp only [St.kill] at ho
 cases hj:N j with
 |true=>simp [hj] at ho
 |false=>
  simp only [hj,cond_false,Option.map_eq_some_iff] at ho
  obtain ⟨o',_,rfl⟩:=ho
  cases o' with
  |box cs=>exact AV.killL_ids hn cs
  |arr=>simp [Ob.kill,Ob.ids]
  |oar L s n' f=>
   cases hany:L.any N with
   |false=>simp only [Ob.kill,hany,cond_false];intro h;exact List.any_eq_false.1 hany _ h hn
   |true=>simp only [Ob.kill,hany,cond_true];intro h;have:=(List.mem_filter.1 h).2;simp [hn] at this
  |fam=>simp [Ob.kill,Ob.ids]
  |set=>simp [Ob.kill,Ob.ids]
  |buf e r t=>simp [Ob.kill,Ob.ids]
  |sit s p=>simp [Ob.kill,Ob.ids]
  |byt t=>simp [Ob.kill,Ob.ids]
  |bld e q=>
   simp only [Ob.kill]
   cases hq:N q with
   |false=>simp only [cond_false,Ob.ids,List.mem_singleton];intro h;subst h;rw [hn] at hq;cases hq
   |true=>simp [Ob.ids,AV.idsL,AV.ids]
theorem Sim.world {B:Base} {nt:Nat} {σ:St} {a:Act} {w w':World} (h:Sim B nt σ a w) (hk:Kept w (fun _=>False) w'):Sim B nt σ a w':=by
 obtain ⟨h1,h2,κ,hm,hr⟩:=h
 exact ⟨h1,h2,κ,hm.world hk,fun t=>(hr t).keep (SS.world hk) fun _ _=>rfl⟩
section
variable {P : Program} {lent : List Nat} {l : List Oper} {ans : Nat → Ans} {σ : St} {us : List Out} {B : Base} {nt : Nat}
theorem Zpl (h:RegOk P lent l ans σ us nt) (hn:∀j,j<l.length→∀n∈(ans j).news,NoId n σ) {a:Act} {w:World} (hS:Sim B nt σ a w):Inv l ans σ us B nt (fun _=>False) a w:=by
 obtain ⟨hlen,hat⟩:=Znf l 0 σ us h.run
 refine ⟨σ,⟨fun t m hm hw=> ?_,fun n m hm hw=> ?_⟩,hS,fun j hj _=>hn j hj⟩
 ·have:∀d,d≤m→(Zgo σ l us d).tm t=σ.tm t:=by
   intro d
   induction d with
   |zero=>intro _;rw [Zgw]
   |succ d ih=>
    intro hd
    have hjl:d<l.length:=by omega
    obtain ⟨uj,a1,a2,a3⟩:=hat d _ (List.getElem?_eq_getElem hjl)
    rw [a3,←ih (by omega)]
    have hnd:l[d].dst≠some t:=fun e=>(hw d _ (List.getElem?_eq_getElem hjl) e).2 (by omega)
    cases hdo:l[d].dst with
    |none=>simp [St.app,hdo]
    |some d'=>
     have:Nat.beq t d'=false:=Bool.eq_false_iff.2 fun e'=>hnd (by rw [hdo,Nat.eq_of_beq_eq_true e'])
     simp [St.app,hdo,this]
  exact (this m (Nat.le_refl _)).symm
 ·have:∀d,d≤m→(Zgo σ l us d).ob n=σ.ob n:=by
   intro d
   induction d with
   |zero=>intro _;rw [Zgw]
   |succ d ih=>
    intro hd
    have hjl:d<l.length:=by omega
    obtain ⟨uj,a1,a2,a3⟩:=hat d _ (List.getElem?_eq_getElem hjl)
    rw [a3,←ih (by omega)]
    exact Zik fun e=>(hw d _ a1 e).2 (by omega)
  exact (this m (Nat.le_refl _)).symm
theorem Zra (h:RegOk P lent l ans σ us nt) {L:Nat→Prop} (hL:∀j,j<l.length→L j) {a:Act} {w:World} (hI:Inv l ans σ us B nt L a w):Sim B nt (Zgo σ l us l.length) a w:=by
 obtain ⟨hlen,_⟩:=Znf l 0 σ us h.run
 obtain ⟨τ,⟨hA1,hA2⟩,hS,_⟩:=hI
 have e:τ=Zgo σ l us l.length:=by
  have e1:τ.tm=(Zgo σ l us l.length).tm:=funext fun t=>hA1 t _ (Nat.le_refl _) fun j o hj _=>by
   have:=(List.getElem?_eq_some_iff.1 hj).1
   exact ⟨fun _=>this,fun _=>hL j this⟩
  have e2:τ.ob=(Zgo σ l us l.length).ob:=funext fun n=>hA2 n _ (Nat.le_refl _) fun j u hj _=>by
   have:=(List.getElem?_eq_some_iff.1 hj).1
   exact ⟨fun _=>by omega,fun _=>hL j (by omega)⟩
  cases τ
  cases hs:Zgo σ l us l.length
  rw [hs] at e1 e2
  simp only at e1 e2
  rw [e1,e2]
 rw [←e]
 exact hS
theorem Zij {L L':Nat→Prop} (h:∀j,L j↔L' j) {a:Act} {w:World} (hI:Inv l ans σ us B nt L a w):Inv l ans σ us B nt L' a w:=by
 have:L=L':=funext fun j=>propext (h j)
 rw [←this];exact hI
theorem Zmb (h:RegOk P lent l ans σ us nt) (hB:∀i,B.bo i=lent.contains i) {Q:Exit→Act→World→Prop} (hQ:∀a w,Sim B nt (Zgo σ l us l.length) a w→Q .normal a w):
  ∀(d k:Nat),k+d=l.length→∀(a:Act) (w:World),Inv l ans σ us B nt (fun j=>j<k) a w→wpOps P l.toArray Q (List.range' k d) a w
 |0,k,hk,a,w,hI=>hQ a w (Zra h (fun j hj=>by omega) hI)
 |d+1,k,hk,a,w,hI=>by
  rw [List.range'_succ,wpOps_cons]
  exact Zsn h hB (by omega) (by omega) (fun j x y hj _ _ _=>hj) (fun j x y hj _ _ _=>by omega) hI fun a' w' hI'=>Zmb h hB hQ d (k+1) (by omega) a' w' (Zij (fun j=>by omega) hI')
def Zvw (acc:List Nat) (o:Oper):Nat:=o.after.toList.foldl (fun s e=>bif Region.binds .any e then s|||2^e.on|||acc.getD e.on 0 else s) 0
def ancL:List Oper→List Nat→List Nat
 | [],acc=>acc
 |o::r,acc=>ancL r (acc++[Zvw acc o])
def Zlz:Nat→List Oper→Bool
 |_,[]=>true
 |k,o::r=>o.after.toList.all (fun e=> !(Region.binds .any e)||Nat.blt e.on k)&&Zlz (k+1) r
def Znd (anc:List Nat) (inf:List Inf):Bool:=
 (List.range inf.length).all fun j=>(List.range j).all fun i=>match inf[i]?,inf[j]? with
  |some x,some y=> !(Zhy x y)||(anc.getD j 0).testBit i
  |_,_=>true
def Zsh (inf:List Inf):Bool:=
 (List.range inf.length).all fun j=>(List.range j).all fun i=>match inf[i]?,inf[j]? with
  |some x,some y=>Zne x y
  |_,_=>true
theorem Zki:∀(l:List Oper) (k:Nat),Zlz k l=true→∀i o,l[i]? =some o→∀e∈o.after,Region.binds .any e=true→e.on<k+i
 | [],k,_,i,o,h=>by simp at h
 |o::r,k,hb,i,o',h=>by
  simp only [Zlz,Bool.and_eq_true,List.all_eq_true] at hb
  cases i with
  |zero=>simp at h;subst h;intro e he hbd;have:=hb.1 e (by simpa using he);rw [hbd,Bool.not_true,Bool.false_or,Nat.blt_eq] at this;omega
  |succ i=>intro e he hbd;have:=Zki r (k+1) hb.2 i o' (by simpa using h) e he hbd;omega
theorem Zpo (acc:List Nat) (j:Nat):∀(es:List Edge) (s:Nat),(es.foldl (fun s e=>bif Region.binds .any e then s|||2^e.on|||acc.getD e.on 0 else s) s).testBit j=true→
  s.testBit j=true∨∃e∈es,Region.binds .any e=true∧(e.on=j∨(acc.getD e.on 0).testBit j=true)
 | [],s,h=> .inl h
 |e::es,s,h=>by
  rcases Zpo acc j es _ h with h1|⟨e',he',h1⟩
  ·cases hb:Region.binds .any e with
   |false=>simp only [hb,cond_false] at h1;exact .inl h1
   |true=>
    simp only [hb,cond_true,Nat.testBit_or,Bool.or_eq_true] at h1
    rcases h1 with (h1|h1)|h1
    ·exact .inl h1
    ·rw [Nat.testBit_two_pow] at h1
     exact .inr ⟨e,by simp,hb,.inl (by simpa using h1)⟩
    ·exact .inr ⟨e,by simp,hb,.inr h1⟩
  ·exact .inr ⟨e',by simp [he'],h1⟩
theorem Zpp:∀(l pre:List Oper) (acc:List Nat),acc.length=pre.length→(∀i o,pre[i]? =some o→∀j,(acc.getD i 0).testBit j=true→∃e∈o.after,Region.binds .any e=true∧(e.on=j∨(acc.getD e.on 0).testBit j=true))→
  ∀i o,(pre++l)[i]? =some o→∀j,((ancL l acc).getD i 0).testBit j=true→∃e∈o.after,Region.binds .any e=true∧(e.on=j∨((ancL l acc).getD e.on 0).testBit j=true)
 | [],pre,acc,hl,h,i,o,ho,j,hj=>by
  simp only [List.append_nil] at ho
  exact h i o ho j hj
 |x::l,pre,acc,hl,h,i,o,ho,j,hj=>by
  refine Zpp l (pre++[x]) (acc++[Zvw acc x]) (by simp [hl]) (fun i o ho j hj=> ?_) i o (by simpa using ho) j hj
  have hext:∀q,(acc.getD q 0).testBit j=true→((acc++[Zvw acc x]).getD q 0).testBit j=true:=fun q hq=>by
   by_cases hql:q<acc.length
   ·rw [List.getD_eq_getElem?_getD,List.getElem?_append_left hql,←List.getD_eq_getElem?_getD];exact hq
   ·rw [List.getD_eq_getElem?_getD,List.getElem?_eq_none (by omega)] at hq;simp at hq
  by_cases hil:i<pre.length
  ·rw [List.getElem?_append_left hil] at ho
   rw [List.getD_eq_getElem?_getD,List.getElem?_append_left (by omega),←List.getD_eq_getElem?_getD] at hj
   obtain ⟨e,he,h1,h2⟩:=h i o ho j hj
   exact ⟨e,he,h1,h2.imp id (hext _)⟩
  ·have hie:i=pre.length:=by
    have:=(List.getElem?_eq_some_iff.1 ho).1
    simp at this
    omega
   subst hie
   rw [List.getElem?_append_right (Nat.le_refl _)] at ho
   simp at ho
   subst ho
   rw [List.getD_eq_getElem?_getD,List.getElem?_append_right (by omega),hl,Nat.sub_self] at hj
   simp only [List.getElem?_cons_zero,Option.getD_some] at hj
   rcases Zpo acc j _ _ hj with h1|⟨e,he,h1,h2⟩
   ·simp at h1
   ·exact ⟨e,by simpa using he,h1,h2.imp id (hext _)⟩
theorem Zso {p p':Nat→Bool} :∀(l:List Nat),(∀x∈l,p' x=true→p x=true)→∀x∈l,p x=true→p' x=false→l.countP p'<l.countP p
 | [],_,x,hx,_,_=>by simp at hx
 |y::l,h,x,hx,h1,h2=>by
  simp only [List.countP_cons]
  have hle:l.countP p'≤l.countP p:=List.countP_mono_left fun z hz=>h z (by simp [hz])
  rcases List.mem_cons.1 hx with e|hx
  ·subst e;simp [h1,h2];omega
  ·have:=Zso l (fun z hz=>h z (by simp [hz])) x hx h1 h2
   cases hy:p' y with
   |false=>simp;split<;>omega
   |true=>simp [h y (by simp) hy];omega
theorem Zvo (h:RegOk P lent l ans σ us nt) (hB:∀i,B.bo i=lent.contains i) (hback:Zlz 0 l=true) (hclash:Znd (ancL l []) (Zlo l.toArray ans 0 l us σ)=true) {Q:Exit→Act→World→Prop} (hQ:∀a w,Sim B nt (Zgo σ l us l.length) a w→Q .normal a w):
  ∀(fuel:Nat) (listed:Array Bool),listed.size=l.length→(List.range l.length).countP (fun i=> !listed.getD i true)≤fuel→
   (∀i o,l[i]? =some o→listed.getD i true=true→∀e∈o.after,Region.binds .any e=true→listed.getD e.on false=true)→
   ∀(a:Act) (w:World),Inv l ans σ us B nt (fun j=>j<l.length∧listed.getD j true=true) a w→wpAny P .any l.toArray Q fuel listed a w:=by
 have hll:(Zlo l.toArray ans 0 l us σ).length=l.length:=by
  obtain ⟨hlen,_⟩:=Znf l 0 σ us h.run
  have:∀(l:List Oper) (us:List Out) (k:Nat) (σ:St) (ops:Array Oper),us.length=l.length→(Zlo ops ans k l us σ).length=l.length:=by
   intro l
   induction l with
   |nil=>intro us k σ ops h;cases us<;>rfl
   |cons o l ih=>
    intro us k σ ops h
    cases us with
    |nil=>simp at h
    |cons u us=>simp only [Zlo,List.length_cons];rw [ih us (k+1) _ ops (by simpa using h)]
  exact this l us 0 σ _ hlen
 -- what is ready, if nothing is
 have hdone:∀listed:Array Bool,listed.size=l.length→Region.ready .any l.toArray listed=[]→∀i,i<l.length→listed.getD i true=true:=by
  intro listed hsz hr i
  induction i using Nat.strongRecOn with
  |_ i ih=>
   intro hi
   cases hb:listed.getD i true with
   |true=>rfl
   |false=>
    have ho:l[i]? =some l[i]:=List.getElem?_eq_getElem hi
    have:i∈Region.ready .any l.toArray listed:=mem_ready.2 ⟨hb,l[i],by simp,fun e he hbd=>by
     have hlt:=Zki l 0 hback i _ ho e he hbd
     have h1:=ih e.on (by omega) (by omega)
     have hs:e.on<listed.size:=by omega
     simp only [Array.getD_eq_getD_getElem?,Array.getElem?_eq_getElem hs,Option.getD_some] at h1⊢
     exact h1⟩
    rw [hr] at this
    cases this
 have hanc:∀(listed:Array Bool),listed.size=l.length→(∀i o,l[i]? =some o→listed.getD i true=true→∀e∈o.after,Region.binds .any e=true→listed.getD e.on false=true)→
   ∀i o,l[i]? =some o→(∀e∈o.after,Region.binds .any e=true→listed.getD e.on false=true)→∀j,((ancL l []).getD i 0).testBit j=true→listed.getD j false=true:=by
  intro listed hsz hcl i
  induction i using Nat.strongRecOn with
  |_ i ih=>
   intro o ho hall j hj
   obtain ⟨e,he,h1,h2⟩:=Zpp l [] [] rfl (fun i o h=>by simp at h) i o (by simpa using ho) j hj
   have hl:=hall e he h1
   rcases h2 with h2|h2
   ·rw [←h2];exact hl
   ·have hlt:=Zki l 0 hback i o ho e he h1
    have hil:=(List.getElem?_eq_some_iff.1 ho).1
    have hoe:l[e.on]? =some l[e.on]:=List.getElem?_eq_getElem (by omega)
    have hs:e.on<listed.size:=by omega
    have hl':listed.getD e.on true=true:=by
     simp only [Array.getD_eq_getD_getElem?,Array.getElem?_eq_getElem hs,Option.getD_some] at hl⊢
     exact hl
    exact ih e.on (by omega) _ hoe (hcl e.on _ hoe hl') j h2
 have hmain:∀(listed:Array Bool),listed.size=l.length→(∀i o,l[i]? =some o→listed.getD i true=true→∀e∈o.after,Region.binds .any e=true→listed.getD e.on false=true)→
   ∀i∈Region.ready .any l.toArray listed,∀(a:Act) (w:World),Inv l ans σ us B nt (fun j=>j<l.length∧listed.getD j true=true) a w→∀(K:Act→World→Prop),(∀a' w',Inv l ans σ us B nt (fun j=>(j<l.length∧listed.getD j true=true)∨j=i) a' w'→K a' w')→wpOp P l.toArray Q i K a w:=by
  intro listed hsz hcl i hi a w hI K hK
  obtain ⟨hun,o,ho,hall⟩:=mem_ready.1 hi
  have ho':l[i]? =some o:=by simpa using ho
  have hil:i<l.length:=(List.getElem?_eq_some_iff.1 ho').1
  have hcl2:∀i j x y,i<j→(Zlo l.toArray ans 0 l us σ)[i]? =some x→(Zlo l.toArray ans 0 l us σ)[j]? =some y→Zhy x y=true→((ancL l []).getD j 0).testBit i=true:=by
   intro i j x y hij hx hy hc
   have hjl:=(List.getElem?_eq_some_iff.1 hy).1
   simp only [Znd,List.all_eq_true,List.mem_range] at hclash
   have:=hclash j hjl i hij
   simp only [hx,hy,hc,Bool.not_true,Bool.false_or] at this
   exact this
  refine Zsn h hB hil (by rw [hun];simp) (fun j x y hj hx hy hc=> ?_) (fun j x y hj hx hy hc=> ?_) hI hK
  ·have:=hanc listed hsz hcl i o ho' hall j (hcl2 j i x y hj hx hy hc)
   have hs:j<listed.size:=by omega
   refine ⟨by omega,?_⟩
   simp only [Array.getD_eq_getD_getElem?,Array.getElem?_eq_getElem hs,Option.getD_some] at this⊢
   exact this
  ·rintro ⟨hjl,hjt⟩
   have hoj:l[j]? =some l[j]:=List.getElem?_eq_getElem hjl
   have:=hanc listed hsz hcl j _ hoj (hcl j _ hoj hjt) i (hcl2 i j x y hj hx hy hc)
   have hs:i<listed.size:=by omega
   simp only [Array.getD_eq_getD_getElem?,Array.getElem?_eq_getElem hs,Option.getD_some] at this hun
   rw [this] at hun
   cases hun
 intro fuel
 induction fuel with
 |zero=>
  intro listed hsz hcount hcl a w hI
  have hall:∀j,j<l.length→listed.getD j true=true:=fun j hj=>by
   cases hb:listed.getD j true with
   |true=>rfl
   |false=>
    have:0<(List.range l.length).countP (fun i=> !listed.getD i true):=List.countP_pos_iff.2 ⟨j,List.mem_range.2 hj,by rw [hb];rfl⟩
    omega
  refine ⟨?_,hQ a w (Zra h (fun j hj=>⟨hj,hall j hj⟩) hI)⟩
  cases hr:Region.ready .any l.toArray listed with
  |nil=>rfl
  |cons i r=>
   have:i∈Region.ready .any l.toArray listed:=by rw [hr];simp
   obtain ⟨hun,o,ho,_⟩:=mem_ready.1 this
   have hil:i<l.length:=(List.getElem?_eq_some_iff.1 (by simpa using ho:l[i]? =some o)).1
   rw [hall i hil] at hun
   cases hun
 |succ fuel ih=>
  intro listed hsz hcount hcl a w hI
  refine ⟨fun hr=>hQ a w (Zra h (fun j hj=>⟨hj,hdone listed hsz hr j hj⟩) hI),fun i hi=>hmain listed hsz hcl i hi a w hI _ fun a' w' hI'=> ?_⟩
  obtain ⟨hun,o,ho,hall⟩:=mem_ready.1 hi
  have ho':l[i]? =some o:=by simpa using ho
  have hil:i<l.length:=(List.getElem?_eq_some_iff.1 ho').1
  have hget:∀j,(listed.setIfInBounds i true).getD j true=(listed.getD j true||decide (j=i)):=fun j=>by
   by_cases e:j=i
   ·subst e;simp [show j<listed.size by omega]
   ·rw [getD_set_ne true (fun h=>e h.symm)];simp [e]
  refine ih _ (by simp [hsz]) ?_ (fun q oq hq hlq e he hb=> ?_) a' w' (Zij (fun j=> ?_) hI')
  ·have:=Zso (p:=fun j=> !listed.getD j true) (p':=fun j=> !(listed.setIfInBounds i true).getD j true) (List.range l.length) (fun x _ hx=>by
    simp only [hget,Bool.not_or,Bool.and_eq_true] at hx;exact hx.1) i (List.mem_range.2 hil) (by rw [hun];rfl) (by simp [hget])
   omega
  ·rw [hget] at hlq
   simp only [Bool.or_eq_true,decide_eq_true_eq] at hlq
   rcases hlq with hlq|rfl
   ·exact getD_set_true (hcl q oq hq hlq e he hb)
   ·rw [ho'] at hq;cases hq;exact getD_set_true (hall e he hb)
  ·rw [hget]
   simp only [Bool.or_eq_true,decide_eq_true_eq]
   constructor
   ·rintro (⟨h1,h2⟩|rfl)
    ·exact ⟨h1,.inl h2⟩
    ·exact ⟨hil,.inr rfl⟩
   ·rintro ⟨h1,h2|h2⟩
    ·exact .inl ⟨h1,h2⟩
    ·exact .inr h2
end
end Go.Proofs.YtnlfghpgfjlblaaDoor.Ax
