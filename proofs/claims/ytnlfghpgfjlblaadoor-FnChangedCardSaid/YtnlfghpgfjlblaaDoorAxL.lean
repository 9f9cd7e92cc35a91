/- The abstract run: rules for code, loops and functions. Plain lemmas on the model. No conditions. -/
import Derived.Test.YtnlfghpgfjlblaaDoorAxK
namespace Go.Proofs.YtnlfghpgfjlblaaDoor.Ax
open Go.RowKit
set_option linter.unusedVariables false
set_option linter.unusedSimpArgs false
def Zdy:List (Nat×AV)→Nat→AV
 | [],_=> .any
 |(s,a)::r,t=>bif Nat.beq t s then a else Zdy r t
def mkS (T:List (Nat×AV)) (O:List (Nat×Ob)):St:=⟨Zdy T,Zac O⟩
theorem Zii {T:List (Nat×AV)} {t:Nat} :Zdy T t= .any∨(t,Zdy T t)∈T:=by
 induction T with
 |nil=>exact .inl rfl
 |cons p T ih=>
  obtain ⟨s,a⟩:=p
  simp only [Zdy]
  cases h:Nat.beq t s with
  |true=>have:=Nat.eq_of_beq_eq_true h;subst this;exact .inr (by simp)
  |false=>exact ih.imp id fun h=>by simp [h]
def Zkf:List (Nat×Ans)→Nat→Ans
 | [],_=> .n
 |(j,a)::r,i=>bif Nat.beq i j then a else Zkf r i
def Zln (A:List (Nat×Ans)):List Nat:=A.flatMap fun p=>p.2.news
def Zkg:List Out→List Prop
 | []=>[]
 |u::us=>match u.c with
  |some p=>p::Zkg us
  |none=>Zkg us
def dstOk (nt:Nat) (l:List Oper):Bool:=l.all fun o=>match o.dst with
 |some d=>Nat.blt d nt
 |none=>true
def Zea (P:Program) (lent:List Nat) (nt:Nat) (draw:Bool) (l:List Oper) (A:List (Nat×Ans)) (σ:St) (kt ko:List Nat):Option (List AV×List (Option Ob)×List Prop):=
 match runL P lent l.toArray (Zkf A) 0 l (σ.kill fun n=>(Zln A).contains n) with
 |some us=>bif dstOk nt l&&(Zln A).all (fun n=> !lent.contains n)&&Zsh (Zlo l.toArray (Zkf A) 0 l us (σ.kill fun n=>(Zln A).contains n))&&
   (!draw||(Zlz 0 l&&P.follows .mixedOrders&&Znd (ancL l []) (Zlo l.toArray (Zkf A) 0 l us (σ.kill fun n=>(Zln A).contains n)))) then
   some (kt.map (Zgo (σ.kill fun n=>(Zln A).contains n) l us l.length).tm,ko.map (Zgo (σ.kill fun n=>(Zln A).contains n) l us l.length).ob,Zkg us) else none
 |none=>none
theorem Zma {A:List (Nat×Ans)} {j n:Nat} (h:n∈(Zkf A j).news):n∈Zln A:=by
 induction A with
 |nil=>simp [Zkf,Ans.news] at h
 |cons p A ih=>
  obtain ⟨i,a⟩:=p
  simp only [Zkf] at h
  simp only [Zln,List.flatMap_cons,List.mem_append]
  cases hb:Nat.beq j i with
  |true=>simp only [hb,cond_true] at h;exact .inl h
  |false=>simp only [hb,cond_false] at h;exact .inr (ih h)
theorem Zqw {us:List Out} (h:∀p∈Zkg us,p):∀u∈us,u.cond:=by
 induction us with
 |nil=>intro u hu;simp at hu
 |cons v us ih=>
  intro u hu
  simp only [Zkg] at h
  rcases List.mem_cons.1 hu with e|hu
  ·subst e
   unfold Out.cond
   split
   ·rename_i p hp
    rw [hp] at h
    exact h p (by simp)
   ·trivial
  ·refine ih (fun p hp=> ?_) u hu
   cases hc:v.c with
   |none=>rw [hc] at h;exact h p hp
   |some q=>rw [hc] at h;exact h p (by simp [hp])
theorem Zvm {inf:List Inf} (h:Zsh inf=true) {i j:Nat} {x y:Inf} (hij:i<j) (hx:inf[i]? =some x) (hy:inf[j]? =some y):Zne x y=true:=by
 simp only [Zsh,List.all_eq_true,List.mem_range] at h
 have:=h j (List.getElem?_eq_some_iff.1 hy).1 i hij
 simpa [hx,hy] using this
def Zsf:List Nat→List AV→List (Nat×AV)
 |t::ts,a::xs=>(t,a)::Zsf ts xs
 |_,_=>[]
def Zsg:List Nat→List (Option Ob)→List (Nat×Ob)
 |i::is,some o::os=>(i,o)::Zsg is os
 |_::is,none::os=>Zsg is os
 |_,_=>[]
theorem Zvn {f:Nat→AV} :∀(ts:List Nat) (t:Nat),Zdy (Zsf ts (ts.map f)) t=f t∨Zdy (Zsf ts (ts.map f)) t= .any
 | [],t=> .inr rfl
 |s::ts,t=>by
  simp only [List.map_cons,Zsf,Zdy]
  cases h:Nat.beq t s with
  |true=>have:=Nat.eq_of_beq_eq_true h;subst this;exact .inl rfl
  |false=>exact Zvn ts t
theorem Zqx {f:Nat→Option Ob} :∀(is:List Nat) (i:Nat) (o:Ob),Zac (Zsg is (is.map f)) i=some o→f i=some o
 | [],i,o,h=>by cases h
 |j::is,i,o,h=>by
  simp only [List.map_cons] at h
  cases hf:f j with
  |none=>rw [hf] at h;exact Zqx is i o h
  |some oj=>
   rw [hf] at h
   simp only [Zsg,Zac] at h
   cases hb:Nat.beq i j with
   |true=>have:=Nat.eq_of_beq_eq_true hb;subst this;simp only [hb,cond_true] at h;rw [hf,h]
   |false=>simp only [hb,cond_false] at h;exact Zqx is i o h
theorem Sim.less {B:Base} {nt:Nat} {σ σ':St} {a:Act} {w:World} (h:Sim B nt σ a w) (ht:∀t,σ'.tm t=σ.tm t∨σ'.tm t= .any) (ho:∀i o,σ'.ob i=some o→σ.ob i=some o):Sim B nt σ' a w:=by
 obtain ⟨h1,h2,κ,hm,hr⟩:=h
 have hl:∀i,σ'.ob i≠none→σ.ob i≠none:=fun i hi=>by
  cases hs:σ'.ob i with
  |none=>exact absurd hs hi
  |some o=>rw [ho i o hs];simp
 refine ⟨h1,h2,κ,hm.drop fun i o hi=>⟨o,ho i o hi,id⟩,fun t=> ?_⟩
 rcases ht t with e|e
 ·rw [e];exact (hr t).keep (SS.drop hl) fun _ _=>rfl
 ·rw [e];exact .tree _ _ (.any _)
def AW (P:Program) (B:Base) (nt:Nat) (c:Code) (σ:St) (Q:Exit→Act→World→Prop):Prop:=∀a w,Sim B nt σ a w→c.wp P Q a w
def AE (B:Base) (nt:Nat) (e:Exit) (σ:St) (Q:Exit→Act→World→Prop):Prop:=∀a w,Sim B nt σ a w→Q e a w
section
variable {P : Program} {B : Base} {nt : Nat} {σ : St} {Q : Exit → Act → World → Prop}
theorem Zpi {id:Nat} {ops:Array Oper} {draw:Bool} {lent:List Nat} (A:List (Nat×Ans)) (kt ko:List Nat) (vs:List AV) (os:List (Option Ob)) (cs:List Prop) (h:Zea P lent nt draw ops.toList A σ kt ko=some (vs,os,cs)) (hB:∀i,B.bo i=lent.contains i)
  (hcs:Conj cs) (hQ:AE B nt .normal (mkS (Zsf kt vs) (Zsg ko os)) Q):AW P B nt (.region id ops draw) σ Q:=by
 obtain ⟨l⟩:=ops
 simp only at h
 unfold Zea at h
 split at h
 ·rename_i us hus
  generalize hk:(σ.kill fun n=>(Zln A).contains n)=σ' at h hus
  cases hb:(dstOk nt l&&(Zln A).all (fun n=> !lent.contains n)&&Zsh (Zlo l.toArray (Zkf A) 0 l us σ')&&(!draw||(Zlz 0 l&&P.follows .mixedOrders&&Znd (ancL l []) (Zlo l.toArray (Zkf A) 0 l us σ')))) with
  |false=>rw [hb] at h;cases h
  |true=>
   simp only [hb,cond_true,Option.some.injEq,Prod.mk.injEq] at h
   obtain ⟨rfl,rfl,rfl⟩:=h
   simp only [Bool.and_eq_true] at hb
   obtain ⟨⟨⟨b1,b2⟩,b3⟩,b4⟩:=hb
   have hR:RegOk P lent l (Zkf A) σ' us nt:=by
    refine ⟨hus,Zqw hcs.all,fun o ho d hd=> ?_,fun j _ n hn=> ?_,fun i j x y hij hx hy=>Zvm b3 hij hx hy⟩
    ·have:=List.all_eq_true.1 b1 o ho
     rw [hd] at this
     simpa [Nat.blt_eq] using this
    ·have:=List.all_eq_true.1 b2 n (Zma hn)
     simpa using this
   have hnn:∀j,j<l.length→∀n∈(Zkf A j).news,NoId n σ':=fun j _ n hn=>by
    rw [←hk];exact NoId.of_kill (by simpa using Zma hn) σ
   have hfin:∀a w,Sim B nt (Zgo σ' l us l.length) a w→Q .normal a w:=fun a w hs=>hQ a w (hs.less (fun t=>Zvn kt t) fun i o ho=>Zqx ko i o ho)
   intro a w hS
   have hS':Sim B nt σ' a w:=by rw [←hk];exact hS.kill _
   cases draw with
   |false=>
    refine wp_region ?_
    have:=Zmb hR hB hfin l.length 0 (by omega) a w (Zij (fun j=>⟨False.elim,fun h=>absurd h (Nat.not_lt_zero _)⟩) (Zpl hR hnn hS'))
    simpa [List.range_eq_range'] using this
   |true=>
    simp only [Bool.not_true,Bool.false_or,Bool.and_eq_true] at b4
    refine wp_region_any b4.1.2 ?_
    refine Zvo hR hB b4.1.1 b4.2 hfin _ _ (by simp) ?_ (fun i o ho hl=> ?_) a _ (Zij (fun j=> ?_) (Zpl hR hnn (hS'.world (Kept.drew w))))
    ·have:=List.countP_le_length (p:=fun i=> !(Array.replicate l.toArray.size false).getD i true) (l:=List.range l.length)
     simpa using this
    ·have hil:=(List.getElem?_eq_some_iff.1 ho).1
     simp [hil] at hl
    ·constructor
     ·exact False.elim
     ·rintro ⟨h1,h2⟩;simp [h1] at h2
 ·cases h
theorem Zan {x y:Code} (h:AW P B nt x σ (Exit.then (y.wp P Q) Q)):AW P B nt (.seq x y) σ Q:=fun a w hs=>wp_seq (h a w hs)
theorem Zaf {y:Code} (h:AW P B nt y σ Q):AE B nt .normal σ (Exit.then (y.wp P Q) Q):=h
theorem Zit {id:Nat} {ops:Array Oper} {draw:Bool} {lent:List Nat} (A:List (Nat×Ans)) (kt ko:List Nat) (vs:List AV) (os:List (Option Ob)) (cs:List Prop) (hB:∀i,B.bo i=lent.contains i)
  (hcs:Conj cs) (hQ:AE B nt .normal (mkS (Zsf kt vs) (Zsg ko os)) Q) (h:Zea P lent nt draw ops.toList A σ kt ko=some (vs,os,cs):=by kernel_rfl):AW P B nt (.region id ops draw) σ Q:=Zpi A kt ko vs os cs h hB hcs hQ
theorem aR {id:Nat} {ops:Array Oper} {draw:Bool} {lent:List Nat} {y:Code} (A:List (Nat×Ans)) (kt ko:List Nat) (vs:List AV) (os:List (Option Ob)) (cs:List Prop) (hB:∀i,B.bo i=lent.contains i)
  (hcs:Conj cs) (hQ:AW P B nt y (mkS (Zsf kt vs) (Zsg ko os)) Q) (h:Zea P lent nt draw ops.toList A σ kt ko=some (vs,os,cs):=by kernel_rfl):AW P B nt (.seq (.region id ops draw) y) σ Q:=Zan (Zpi A kt ko vs os cs h hB hcs (Zaf hQ))
theorem Zbu (h:AE B nt .normal σ Q):AW P B nt .skip σ Q:=fun a w hs=>wp_skip (h a w hs)
theorem Zgg {id:Nat} (h:AE B nt (.exit id) σ Q):AW P B nt (.exit id) σ Q:=fun a w hs=>wp_exit (h a w hs)
theorem Zat (h:AE B nt .ret σ Q):AW P B nt .ret σ Q:=fun a w hs=>wp_ret (h a w hs)
theorem Zdi {id:Nat} {c:Code} (h:AW P B nt c σ (Exit.inBlock id Q)):AW P B nt (.block id c) σ Q:=fun a w hs=>wp_block (h a w hs)
theorem Zfn (id:Nat) (h:AE B nt .normal σ Q):AE B nt .normal σ (Exit.inBlock id Q):=h
theorem Zbo {id:Nat} {n:Act→World→Prop} (h:AE B nt (.exit id) σ Q):AE B nt (.exit id) σ (Exit.then n Q):=h
theorem Zcq {id:Nat} (h:AE B nt .normal σ Q):AE B nt (.exit id) σ (Exit.inBlock id Q):=fun a w hs=>by simp only [Exit.inBlock,if_true];exact h a w hs
theorem Zak {n:Act→World→Prop} (h:AE B nt .ret σ Q):AE B nt .ret σ (Exit.then n Q):=h
theorem Zcj {id:Nat} (h:AE B nt .ret σ Q):AE B nt .ret σ (Exit.inBlock id Q):=h
def Zkc (σ:St) (c:Operand):AV:=match c with
 | .tmp t=>σ.tm t
 | .const v=> .val v
 |_=> .any
theorem Zpm {c:Operand} {b:Bool} (h:Zkc σ c= .val (.bool b)) {a:Act} {w:World} (hs:Sim B nt σ a w):a.eval c= .bool b:=by
 cases c with
 |tmp t=>
  obtain ⟨κ,hm,hr⟩:=hs.ex
  have:=hr t
  simp only [Zkc] at h
  rw [h] at this
  exact this.val_of
 |const v=>simp only [Zkc,AV.val.injEq] at h;exact h
 |global g=>cases h
 |func f=>cases h
theorem Zhv {c:Operand} {x y:Code} (h:Zkc σ c= .val (.bool true)) (hx:AW P B nt x σ Q):AW P B nt (.cond c x y) σ Q:=fun a w hs=>wp_cond_true (Zpm h hs) (hx a w hs)
theorem Zmw {c:Operand} {x y:Code} (h:Zkc σ c= .val (.bool false)) (hy:AW P B nt y σ Q):AW P B nt (.cond c x y) σ Q:=fun a w hs=>wp_cond_false (Zpm h hs) (hy a w hs)
def rV (R:Option (List AV×List (Option Ob)×List Prop)):List AV:=match R with
 |some x=>x.1
 |none=>[]
def rO (R:Option (List AV×List (Option Ob)×List Prop)):List (Option Ob):=match R with
 |some x=>x.2.1
 |none=>[]
def rC (R:Option (List AV×List (Option Ob)×List Prop)):Option (List Prop):=match R with
 |some x=>some x.2.2
 |none=>none
theorem r_of {R:Option (List AV×List (Option Ob)×List Prop)} {cs:List Prop} (h:rC R=some cs):R=some (rV R,rO R,cs):=by
 cases R with
 |none=>cases h
 |some x=>
  obtain ⟨v,o,c⟩:=x
  simp only [rC,Option.some.injEq] at h
  subst h;rfl
theorem Zdk {id:Nat} {ops:Array Oper} {draw:Bool} {lent:List Nat} (A:List (Nat×Ans)) (kt ko:List Nat) (cs:List Prop) (hB:∀i,B.bo i=lent.contains i)
  (hcs:Conj cs) (hQ:AE B nt .normal (mkS (Zsf kt (rV (Zea P lent nt draw ops.toList A σ kt ko))) (Zsg ko (rO (Zea P lent nt draw ops.toList A σ kt ko)))) Q) (h:rC (Zea P lent nt draw ops.toList A σ kt ko)=some cs:=by kernel_rfl):AW P B nt (.region id ops draw) σ Q:=Zpi A kt ko _ _ cs (r_of h) hB hcs hQ
theorem aQ {id:Nat} {ops:Array Oper} {draw:Bool} {lent:List Nat} {y:Code} (A:List (Nat×Ans)) (kt ko:List Nat) (cs:List Prop) (hB:∀i,B.bo i=lent.contains i)
  (hcs:Conj cs) (hQ:AW P B nt y (mkS (Zsf kt (rV (Zea P lent nt draw ops.toList A σ kt ko))) (Zsg ko (rO (Zea P lent nt draw ops.toList A σ kt ko)))) Q) (h:rC (Zea P lent nt draw ops.toList A σ kt ko)=some cs:=by kernel_rfl):AW P B nt (.seq (.region id ops draw) y) σ Q:=Zan (Zpi A kt ko _ _ cs (r_of h) hB hcs (Zaf hQ))
theorem Zdr {c:Operand} {x y:Code} (hx:AW P B nt x σ Q) (h:Zkc σ c= .val (.bool true):=by kernel_rfl):AW P B nt (.cond c x y) σ Q:=Zhv h hx
theorem Zdm {c:Operand} {x y:Code} (hx:AW P B nt y σ Q) (h:Zkc σ c= .val (.bool false):=by kernel_rfl):AW P B nt (.cond c x y) σ Q:=Zmw h hx
theorem Zhw {c:Code} (I:Nat→St→Prop) (n:Nat) (h0:I n σ) (round:∀n σ,I n σ→AW P B nt c σ (Exit.then (fun a w=>∃m σ',m<n∧I m σ'∧Sim B nt σ' a w) Q)):AW P B nt (.loop c) σ Q:=fun a w hs=>
 wp_loop_ghost (I:=fun n a w=>∃σ,I n σ∧Sim B nt σ a w) n ⟨σ,h0,hs⟩ fun n a w ⟨σ,hI,hs⟩=>wp_mono (round n σ hI a w hs) fun e a w hq=>by
  cases e<;>first|exact hq|(obtain ⟨m,σ',h1,h2,h3⟩:=hq;exact ⟨m,h1,σ',h2,h3⟩)
theorem Zfo {I:Nat→St→Prop} {n:Nat} (m:Nat) (hlt:m<n) (hI:I m σ):AE B nt .normal σ (Exit.then (fun a w=>∃m σ',m<n∧I m σ'∧Sim B nt σ' a w) Q):=fun a w hs=>⟨m,σ,hlt,hI,hs⟩
end
mutual
def AV.ren (ρ:Nat→Nat):AV→AV
 | .agg cs=> .agg (AV.renL ρ cs)
 | .tup cs=> .tup (AV.renL ρ cs)
 | .fn f cs=> .fn f (AV.renL ρ cs)
 | .ref i o=> .ref (ρ i) o
 | .elt i s k j=> .elt (ρ i) s k j
 | .arr i=> .arr (ρ i)
 | .row i p=> .row (ρ i) p
 | .relt i p s k j=> .relt (ρ i) p s k j
 | .mapr i=> .mapr (ρ i)
 | .win i o n=> .win (ρ i) o n
 | .any=> .any
 | .val v=> .val v
 | .sl fr sz n f=> .sl fr sz n f
 | .e0=> .e0
 | .ptr fr cs=> .ptr fr cs
 | .nilq n=> .nilq n
def AV.renL (ρ:Nat→Nat):List AV→List AV
 | []=>[]
 |a::r=>AV.ren ρ a::AV.renL ρ r
end
theorem AV.renL_eq (ρ:Nat→Nat) (cs:List AV):AV.renL ρ cs=cs.map (AV.ren ρ):=by
 induction cs with
 |nil=>rfl
 |cons a r ih=>simp [AV.renL,ih]
theorem RelL.of_ren {κ:Nat→Value} {w:World} {S:Bool→Nat→Prop} {ρ:Nat→Nat} {cs:List AV} {vs:List Value} (ih:∀a∈cs,∀v,Rel κ w S (a.ren ρ) v→Rel (fun i=>κ (ρ i)) w S a v) (h:RelL κ w S (AV.renL ρ cs) vs):RelL (fun i=>κ (ρ i)) w S cs vs:=by
 rw [AV.renL_eq] at h
 refine ⟨by simpa using h.1,fun j u x hj hx=>ih u (List.mem_of_getElem? hj) x (h.2 j _ x (by simp [hj]) hx)⟩
mutual
theorem Rel.of_ren {κ:Nat→Value} {w:World} {S:Bool→Nat→Prop} {ρ:Nat→Nat} :∀(a:AV) (v:Value),Rel κ w S (a.ren ρ) v→Rel (fun i=>κ (ρ i)) w S a v
 | .agg cs,v,h=>by obtain ⟨vs,rfl,hr⟩:=h.agg_of;exact (RelL.of_renL cs _ hr).agg
 | .tup cs,v,h=>by obtain ⟨vs,rfl,hr⟩:=h.tup_of;exact (RelL.of_renL cs _ hr).tup
 | .fn f cs,v,h=>by
  obtain ⟨vs,rfl,hr⟩:=h.fn_of
  have:=RelL.of_renL cs _ hr
  exact .fn f cs vs (by simpa using this.1) fun i a v ha hv=>this.2 i a v ha (by simpa using hv)
 | .ref i o,v,h=>by
  cases h with
  |tree _ _ h=>cases h
  |ref _ _ b hκ=>exact .ref i o b hκ
 | .elt i s k j,v,h=>by
  cases h with
  |tree _ _ h=>cases h
  |elt _ _ _ _ b n c hκ=>exact .elt i s k j b n c hκ
 | .arr i,v,h=>by
  cases h with
  |tree _ _ h=>cases h
  |arr _ A n c hκ=>exact .arr i A n c hκ
 | .row i p,v,h=>by
  cases h with
  |tree _ _ h=>cases h
  |row _ _ vs A n c hκ hvs=>exact .row i p vs A n c hκ hvs
 | .relt i p s k j,v,h=>by
  cases h with
  |tree _ _ h=>cases h
  |relt _ _ _ _ _ b n c vs hκ hvs=>exact .relt i p s k j b n c vs hκ hvs
 | .mapr i,v,h=>by
  cases h with
  |tree _ _ h=>cases h
  |mapr _ r hκ=>exact .mapr i r hκ
 | .win i o n,v,h=>by
  cases h with
  |tree _ _ h=>cases h
  |win _ _ _ b M c hκ hn=>exact .win i o n b M c hκ hn
 | .any,v,h=> .tree _ _ (.any _)
 | .val x,v,h=> .tree _ _ (h.toT rfl)
 | .sl fr sz n f,v,h=> .tree _ _ (h.toT rfl)
 | .e0,v,h=> .tree _ _ (h.toT rfl)
 | .ptr fr cs,v,h=> .tree _ _ (h.toT rfl)
 | .nilq n,v,h=> .tree _ _ (h.toT rfl)
theorem RelL.of_renL {κ:Nat→Value} {w:World} {S:Bool→Nat→Prop} {ρ:Nat→Nat} :∀(cs:List AV) (vs:List Value),RelL κ w S (AV.renL ρ cs) vs→RelL (fun i=>κ (ρ i)) w S cs vs
 | [],vs,h=>⟨h.1,fun j u x hj=>by simp at hj⟩
 |a::r,[],h=>by have:=h.1;simp [AV.renL] at this
 |a::r,x::xs,h=> .cons (Rel.of_ren a x (h.2 0 _ x rfl rfl)) (RelL.of_renL r xs ⟨by have:=h.1;simpa [AV.renL] using this,fun j u y hj hy=>h.2 (j+1) u y (by simpa [AV.renL] using hj) (by simpa using hy)⟩)
end
def Ob.ren (ρ:Nat→Nat):Ob→Ob
 | .box cs=> .box (AV.renL ρ cs)
 | .arr s n f=> .arr s n f
 | .oar L s n f=> .oar (L.map ρ) s n fun i=>AV.renL ρ (f i)
 | .fam n s m g=> .fam n s m g
 | .set ks=> .set ks
 | .bld e j=> .bld e (ρ j)
 | .buf e r t=> .buf e r t
 | .sit s p=> .sit s p
 | .byt t=> .byt t
def Zcn:List (Nat×Nat)→Nat→Nat
 | [],i=>i
 |(j,k)::r,i=>bif Nat.beq i j then k else Zcn r i
def frz (lent:List Nat) (σ:St) (ims:List Nat):Nat→Option Ob:=fun i=>bif !(lent.contains i)&& !(ims.contains i) then σ.ob i else none
def Zmy (lent:List Nat) (σ:St) (ρ:Nat→Nat) (ims:List Nat):List (Nat×AV)→List Prop
 | []=>[]
 |(t,v)::r=>(σ.tm t=v.ren ρ∨le (frz lent σ ims) true (σ.tm t) (v.ren ρ))::Zmy lent σ ρ ims r
def Zmz (lent:List Nat) (σ:St) (ρ:Nat→Nat) (ims:List Nat):List (Nat×Ob)→List Prop
 | []=>[]
 |(i,o)::r=>(match σ.ob (ρ i) with
  |some o'=>o'=o.ren ρ∨Zed (frz lent σ ims) true o' (o.ren ρ)
  |none=>False)::Zmz lent σ ρ ims r
def Zsi:List Nat→Bool
 | []=>true
 |x::r=> !(r.contains x)&&Zsi r
theorem Zmc {α:Type} {f:α→Nat} :∀ {l:List α},Zsi (l.map f)=true→∀ {x y:α},x∈l→y∈l→f x=f y→x=y
 | [],_,x,y,hx,_,_=>by simp at hx
 |z::l,h,x,y,hx,hy,e=>by
  simp only [List.map_cons,Zsi,Bool.and_eq_true,Bool.not_eq_true'] at h
  have hno:∀q∈l,f q≠f z:=fun q hq e=>by
   have:(l.map f).contains (f z)=true:=by simp only [List.contains_iff_mem];exact List.mem_map.2 ⟨q,hq,e⟩
   rw [this] at h;exact absurd h.1 (by simp)
  rcases List.mem_cons.1 hx with ex|hx'<;>rcases List.mem_cons.1 hy with ey|hy'
  ·rw [ex,ey]
  ·rw [ex] at e;exact absurd e.symm (hno y hy')
  ·rw [ey] at e;exact absurd e (hno x hx')
  ·exact Zmc h.2 hx' hy' e
mutual
theorem AV.ren_ids {ρ:Nat→Nat} {q:Nat} :∀a:AV,q∈a.ids→ρ q∈(a.ren ρ).ids
 | .agg cs,h=>by simp only [AV.ren,AV.ids] at h⊢;exact AV.renL_ids cs h
 | .tup cs,h=>by simp only [AV.ren,AV.ids] at h⊢;exact AV.renL_ids cs h
 | .fn f cs,h=>by simp only [AV.ren,AV.ids] at h⊢;exact AV.renL_ids cs h
 | .ref i o,h=>by simp only [AV.ren,AV.ids,List.mem_singleton] at h⊢;rw [h]
 | .elt i s k j,h=>by simp only [AV.ren,AV.ids,List.mem_singleton] at h⊢;rw [h]
 | .arr i,h=>by simp only [AV.ren,AV.ids,List.mem_singleton] at h⊢;rw [h]
 | .row i p,h=>by simp only [AV.ren,AV.ids,List.mem_singleton] at h⊢;rw [h]
 | .relt i p s k j,h=>by simp only [AV.ren,AV.ids,List.mem_singleton] at h⊢;rw [h]
 | .mapr i,h=>by simp only [AV.ren,AV.ids,List.mem_singleton] at h⊢;rw [h]
 | .win i o n,h=>by simp only [AV.ren,AV.ids,List.mem_singleton] at h⊢;rw [h]
 | .any,h=>by simp [AV.ids] at h
 | .val v,h=>by simp [AV.ids] at h
 | .sl fr sz n f,h=>by simp [AV.ids] at h
 | .e0,h=>by simp [AV.ids] at h
 | .ptr fr cs,h=>by simp [AV.ids] at h
 | .nilq n,h=>by simp [AV.ids] at h
theorem AV.renL_ids {ρ:Nat→Nat} {q:Nat} :∀cs:List AV,q∈AV.idsL cs→ρ q∈AV.idsL (AV.renL ρ cs)
 | [],h=>by simp [AV.idsL] at h
 |a::r,h=>by
  simp only [AV.renL,AV.idsL,List.mem_append] at h⊢
  exact h.imp (AV.ren_ids a) (AV.renL_ids r)
end
def Zvp (ρ:List (Nat×Nat)):Ob→Bool
 | .oar L _ _ _=>(ρ.all fun k=>L.contains k.1||L.all fun q=> !(Nat.beq (Zcn ρ k.1) (Zcn ρ q)))&&L.all fun q=>L.contains (Zcn ρ q)||(ρ.map (·.1)).contains (Zcn ρ q)
 | .box _=>true
 | .arr _ _ _=>true
 | .fam _ _ _ _=>true
 | .set _=>true
 | .bld _ _=>true
 | .buf _ _ _=>true
 | .sit _ _=>true
 | .byt _=>true
def ckW (lent:List Nat) (ρ:List (Nat×Nat)) (O:List (Nat×Ob)):Bool:=
 (Zsi (O.map fun p=>Zcn ρ p.1)&&((lent.all fun i=>Nat.beq (Zcn ρ i) i)&&O.all fun p=> !(lent.contains (Zcn ρ p.1))||lent.contains p.1))&&O.all fun p=>Zvp ρ p.2
theorem Zpn:∀ {ρ:List (Nat×Nat)} {q:Nat},q∉ρ.map (·.1)→Zcn ρ q=q
 | [],q,_=>rfl
 |(j,k)::r,q,h=>by
  simp only [List.map_cons,List.mem_cons,not_or] at h
  have:Nat.beq q j=false:=Bool.eq_false_iff.2 fun e=>h.1 (Nat.eq_of_beq_eq_true e)
  simp only [Zcn,this,cond_false]
  exact Zpn h.2
theorem Zvq {ρ:List (Nat×Nat)} {L:List Nat} {sz n:Nat} {f:Nat→List AV} (h:Zvp ρ (.oar L sz n f)=true) {q:Nat} (hq:Zcn ρ q∈L.map (Zcn ρ)):q∈L:=by
 simp only [Zvp,Bool.and_eq_true] at h
 obtain ⟨q',h1,h2⟩:=List.mem_map.1 hq
 by_cases hk:q∈ρ.map (·.1)
 ·obtain ⟨k,hk1,hk2⟩:=List.mem_map.1 hk
  have:=List.all_eq_true.1 h.1 k hk1
  rw [hk2,Bool.or_eq_true] at this
  rcases this with h3|h3
  ·simpa using h3
  ·have:=List.all_eq_true.1 h3 q' h1
   rw [h2] at this
   simp at this
 ·have:=List.all_eq_true.1 h.2 q' h1
  rw [h2,Zpn hk,Bool.or_eq_true] at this
  rcases this with h3|h3
  ·simpa using h3
  ·exact absurd (by simpa using h3) hk
theorem ObRel.of_ren {κ:Nat→Value} {w:World} {S:Bool→Nat→Prop} {ρ:List (Nat×Nat)} {o:Ob} {v:Value} (hok:Zvp ρ o=true) (h:ObRel κ w S (o.ren (Zcn ρ)) v):ObRel (fun i=>κ (Zcn ρ i)) w S o v:=by
 cases o with
 |box cs=>
  obtain ⟨b,cur,e,rfl,h1,h2,h3⟩:=h
  have:=RelL.of_renL cs cur.toList ⟨by simpa using h2,fun j u x hj hx=>h3 j u x hj (by simpa using hx)⟩
  exact ⟨b,cur,e,rfl,h1,by simpa using this.1,fun j u x hj hx=>this.2 j u x hj (by simpa using hx)⟩
 |arr=>exact h
 |oar L sz n f=>
  refine ⟨fun i hi q hq=>Zvq hok (h.1 i hi _ (AV.renL_ids _ hq)),ArrG.cells h.2 fun p hp vs hl hr=>RelL.of_renL (f p) vs ⟨hl,hr⟩⟩
 |fam=>exact h
 |set=>exact h
 |bld e j=>
  obtain ⟨b,p,A,n,c,h0,h1,h2,h3⟩:=h
  exact ⟨b,p,A,n,c,h0,h1,h2,h3⟩
 |buf e r t=>exact h
 |sit s p=>exact h
 |byt t=>exact h
theorem Zsj {lent:List Nat} {σ:St} {ρ:Nat→Nat} {ims:List Nat} :∀ {T:List (Nat×AV)},(∀p∈Zmy lent σ ρ ims T,p)→∀ {t:Nat} {v:AV},(t,v)∈T→σ.tm t=v.ren ρ∨le (frz lent σ ims) true (σ.tm t) (v.ren ρ)
 | [],_,t,v,h=>by simp at h
 |(s,u)::r,hc,t,v,h=>by
  rcases List.mem_cons.1 h with e|h
  ·cases e;exact hc _ (by simp [Zmy])
  ·exact Zsj (fun p hp=>hc p (by simp [Zmy,hp])) h
theorem Zsk {lent:List Nat} {σ:St} {ρ:Nat→Nat} {ims:List Nat} :∀ {O:List (Nat×Ob)},(∀p∈Zmz lent σ ρ ims O,p)→∀ {i:Nat} {o:Ob},(i,o)∈O→∃o',σ.ob (ρ i)=some o'∧(o'=o.ren ρ∨Zed (frz lent σ ims) true o' (o.ren ρ))
 | [],_,i,o,h=>by simp at h
 |(j,u)::r,hc,i,o,h=>by
  rcases List.mem_cons.1 h with e|h
  ·cases e
   have:=hc _ (by simp only [Zmz];exact List.mem_cons_self)
   split at this
   ·rename_i o' ho';exact ⟨o',ho',this⟩
   ·exact this.elim
  ·exact Zsk (fun p hp=>hc p (by simp only [Zmz];exact List.mem_cons_of_mem _ hp)) h
theorem Sim.weak {B:Base} {nt:Nat} {lent:List Nat} (hB:∀i,B.bo i=lent.contains i) {σ:St} (ρ:List (Nat×Nat)) {T:List (Nat×AV)} {O:List (Nat×Ob)} (hck:ckW lent ρ O=true)
  (hT:Conj (Zmy lent σ (Zcn ρ) (O.map fun p=>Zcn ρ p.1) T)) (hO:Conj (Zmz lent σ (Zcn ρ) (O.map fun p=>Zcn ρ p.1) O)) {a:Act} {w:World} (h:Sim B nt σ a w):Sim B nt (mkS T O) a w:=by
 obtain ⟨h1,h2,κ,hm,hr⟩:=h
 unfold ckW at hck
 rw [Bool.and_eq_true] at hck
 obtain ⟨hck,hck2⟩:=hck
 simp only [Bool.and_eq_true] at hck
 have hob:∀i o,Zac O i=some o→∃o',σ.ob (Zcn ρ i)=some o'∧(o'=o.ren (Zcn ρ)∨Zed (frz lent σ (O.map fun p=>Zcn ρ p.1)) true o' (o.ren (Zcn ρ))):=fun i o ho=>Zsk hO.all (Zdg ho)
 have hlive:∀i,Zac O i≠none→σ.ob (Zcn ρ i)≠none∧∃o,(i,o)∈O:=fun i hi=>by
  cases ho:Zac O i with
  |none=>exact absurd ho hi
  |some o=>obtain ⟨o',e,_⟩:=hob i o ho;exact ⟨by rw [e];simp,o,Zdg ho⟩
 have hS:∀fr b,SS B κ σ.ob w fr b→SS B (fun i=>κ (Zcn ρ i)) (Zac O) w fr b:=fun fr b hb=>⟨hb.1,hb.2.1,fun i hi=>hb.2.2 _ (hlive i hi).1⟩
 have hsub:∀i o,frz lent σ (O.map fun p=>Zcn ρ p.1) i=some o→σ.ob i=some o:=fun i o ho=>by
  unfold frz at ho
  cases hb:(!(lent.contains i)&& !((O.map fun p=>Zcn ρ p.1).contains i)) with
  |false=>rw [hb] at ho;cases ho
  |true=>rw [hb] at ho;exact ho
 have hF:∀i o b,frz lent σ (O.map fun p=>Zcn ρ p.1) i=some o→Blk (κ i) b→SS B (fun i=>κ (Zcn ρ i)) (Zac O) w false b∧(true=true→SS B (fun i=>κ (Zcn ρ i)) (Zac O) w true b):=by
  intro i o b ho hb
  have hoi:=hsub i o ho
  unfold frz at ho
  cases hb':(!(lent.contains i)&& !((O.map fun p=>Zcn ρ p.1).contains i)) with
  |false=>rw [hb'] at ho;cases ho
  |true=>
   simp only [Bool.and_eq_true,Bool.not_eq_true'] at hb'
   obtain ⟨e1,e2⟩:=hb'
   have hlt:=hm.ownb i b (by rw [hoi];simp) hb
   have hge:B.N b:=by
    rcases hlt.2 with h'|hj
    ·exact h'
    ·rw [hB,e1] at hj;cases hj
   have hno:∀j,Zac O j≠none→¬ Blk (κ (Zcn ρ j)) b:=fun j hj hjb=>by
    obtain ⟨l1,oj,l2⟩:=hlive j hj
    have:=hm.inj _ _ b l1 (by rw [hoi];simp) hjb hb
    have hc:(O.map fun p=>Zcn ρ p.1).contains i=true:=by
     simp only [List.contains_iff_mem]
     exact List.mem_map.2 ⟨(j,oj),l2,this⟩
    rw [hc] at e2;cases e2
   exact ⟨⟨hlt.1,⟨fun h=>(by cases h),fun h=>absurd hge h⟩,hno⟩,fun _=>⟨hlt.1,⟨fun _=>hge,fun h=>absurd hge h⟩,hno⟩⟩
 refine ⟨h1,h2,fun i=>κ (Zcn ρ i),⟨hm.kept,fun i o ho=> ?_,fun i b hi hb=> ?_,fun i j b hi hj hbi hbj=> ?_,fun i hi=> ?_,hm.glob⟩,fun t=> ?_⟩
 ·obtain ⟨o',e1,e2⟩:=hob i o ho
  have h0:=hm.obj _ o' e1
  have hok:Zvp ρ o=true:=List.all_eq_true.1 hck2 (i,o) (Zdg ho)
  rcases e2 with e2|e2
  ·subst e2
   exact (h0.keep (fun _ _=>rfl) (fun fr b hb=>⟨rfl,hS fr b hb⟩) fun _ _=>rfl).of_ren hok
  ·exact (h0.le hm hsub hS hF e2).of_ren hok
 ·have h0:=hm.ownb _ b (hlive i hi).1 hb
  refine ⟨h0.1,h0.2.imp id fun h1=> ?_⟩
  obtain ⟨_,oi,m1⟩:=hlive i hi
  have h2:=List.all_eq_true.1 hck.2.2 (i,oi) m1
  rw [hB] at h1⊢
  simp only [h1,Bool.not_true,Bool.false_or] at h2
  exact h2
 ·have e:=hm.inj _ _ b (hlive i hi).1 (hlive j hj).1 hbi hbj
  obtain ⟨_,oi,m1⟩:=hlive i hi
  obtain ⟨_,oj,m2⟩:=hlive j hj
  have:=Zmc hck.1 m1 m2 e
  cases this
  rfl
 ·have hc:lent.contains i=true:=by rw [←hB];exact hi
  have:=List.all_eq_true.1 hck.2.1 i (by simpa using hc)
  have e:=Nat.eq_of_beq_eq_true this
  show κ (Zcn ρ i)=_
  rw [e]
  exact hm.lent i hi
 ·rcases Zii (T:=T) (t:=t) with e|e
  ·show Rel _ w _ (Zdy T t) _
   rw [e];exact .tree _ _ (.any _)
  ·refine Rel.of_ren _ _ ?_
   show Rel κ w _ ((Zdy T t).ren (Zcn ρ)) _
   rcases Zsj hT.all e with e|e
   ·rw [←e];exact (hr t).keep (fun fr b hb=>⟨rfl,hS fr b hb⟩) fun _ _=>rfl
   ·exact Zju hm hsub hS hF _ _ _ (hr t) e
section
variable {P : Program} {B : Base} {nt : Nat} {σ : St} {Q : Exit → Act → World → Prop}
theorem Zvh {c:Code} {lent:List Nat} (hB:∀i,B.bo i=lent.contains i) (ρ:List (Nat×Nat)) {T:List (Nat×AV)} {O:List (Nat×Ob)} (hck:ckW lent ρ O=true)
  (hT:Conj (Zmy lent σ (Zcn ρ) (O.map fun p=>Zcn ρ p.1) T)) (hO:Conj (Zmz lent σ (Zcn ρ) (O.map fun p=>Zcn ρ p.1) O)) (h:AW P B nt c (mkS T O) Q):AW P B nt c σ Q:=fun a w hs=>h a w (hs.weak hB ρ hck hT hO)
theorem Zvi {e:Exit} {lent:List Nat} (hB:∀i,B.bo i=lent.contains i) (ρ:List (Nat×Nat)) {T:List (Nat×AV)} {O:List (Nat×Ob)} (hck:ckW lent ρ O=true)
  (hT:Conj (Zmy lent σ (Zcn ρ) (O.map fun p=>Zcn ρ p.1) T)) (hO:Conj (Zmz lent σ (Zcn ρ) (O.map fun p=>Zcn ρ p.1) O)) (h:AE B nt e (mkS T O) Q):AE B nt e σ Q:=fun a w hs=>h a w (hs.weak hB ρ hck hT hO)
end
def RetP (B:Base) (fr:Bool) (res:AV) (obs':Nat→Option Ob) (e:Ending) (w':World):Prop:=∃v κ',e= .returned v∧MS B κ' obs' w'∧Rel κ' w' (SR fr B κ' obs' w') res v
def Zvk:Nat→List AV→List (Nat×AV)
 |_,[]=>[]
 |k,a::r=>(k,a)::Zvk (k+1) r
theorem Zvr:∀(l:List AV) (k t:Nat),Zdy (Zvk k l) t= .any∨(k≤t∧l[t-k]? =some (Zdy (Zvk k l) t))
 | [],k,t=> .inl rfl
 |a::r,k,t=>by
  simp only [Zvk,Zdy]
  cases h:Nat.beq t k with
  |true=>have:=Nat.eq_of_beq_eq_true h;subst this;exact .inr ⟨Nat.le_refl _,by simp⟩
  |false=>
   have hne:t≠k:=fun e=>by subst e;simp at h
   rcases Zvr r (k+1) t with e|⟨e1,e2⟩
   ·exact .inl e
   ·refine .inr ⟨by omega,?_⟩
    rw [show t-k=(t-(k+1))+1 by omega,List.getElem?_cons_succ]
    exact e2
theorem Rel.retag {κ:Nat→Value} {w:World} {S S':Bool→Nat→Prop} {t:Bool} (hS:∀b,S t b→S' t b) {a:AV} {v:Value} (h:Rel κ w S a v) (ht:Zah t a):Rel κ w S' a v:=by
 induction h with
 |tree a v h=>exact .tree _ _ (h.retag hS ht)
 |agg cs vs h1 _ ih=>simp only [Zah] at ht;exact .agg cs vs h1 fun i a v ha hv=>ih i a v ha hv (Zbh ht ha)
 |tup cs vs h1 _ ih=>simp only [Zah] at ht;exact .tup cs vs h1 fun i a v ha hv=>ih i a v ha hv (Zbh ht ha)
 |fn f cs vs h1 _ ih=>simp only [Zah] at ht;exact .fn f cs vs h1 fun i a v ha hv=>ih i a v ha hv (Zbh ht ha)
 |ref i off b h=>exact .ref i off b h
 |elt i sz k j b n c h=>exact .elt i sz k j b n c h
 |arr i A n c h=>exact .arr i A n c h
 |row i p vs A n c h h'=>exact .row i p vs A n c h h'
 |relt i p sz k j b n c vs h h'=>exact .relt i p sz k j b n c vs h h'
 |mapr i r h=>exact .mapr i r h
 |win i o n b M c h h'=>exact .win i o n b M c h h'
theorem fn_okC {P:Program} {f:FuncId} {fn:Func} {c:Code} {nt:Nat} (ln:List Nat) (pre post:List (Nat×Ob)) (hf:P.funcs[f]? =some fn) (hb:fn.body=some c) (hnt:fn.ntmps=nt) {args:List AV} (hle:Nat.ble args.length nt=true) (hids:∀a∈args,a.ids=[]∧Zah false a∨Zah false a) {fr:Bool} {res:AV}
  (h:∀B:Base,(∀i,B.bo i=ln.contains i)→AW P B nt c (mkS (Zvk 0 args) pre) (bodyPost P fn (RetP B fr res (Zac post)))):CallC P f ln args (Zac pre) fr res (Zac post):=by
 intro B vals hbo hm hr
 refine calls_of_wp hf hb (h B hbo _ _ ⟨rfl,?_,B.κ0,?_,fun t=> ?_⟩)
 ·have:=hr.1
  rw [Nat.ble_eq] at hle
  simp [hnt]
  omega
 ·exact hm
 ·rcases Zvr args 0 t with e|⟨_,e⟩
  ·show Rel _ _ _ (Zdy (Zvk 0 args) t) _
   rw [e];exact .tree _ _ (.any _)
  ·simp only [Nat.sub_zero] at e
   obtain ⟨x,hx,hrel⟩:=hr.at_ e
   have hlt:=(List.getElem?_eq_some_iff.1 hx).1
   have hget:(vals.toArray++Array.replicate (fn.ntmps-vals.toArray.size) undef).getD t undef=x:=by
    simp [Array.getD_eq_getD_getElem?,Array.getElem?_append_left (show t<vals.toArray.size by simpa using hlt),hx]
   show Rel _ _ _ (Zdy (Zvk 0 args) t) ((vals.toArray++Array.replicate (fn.ntmps-vals.toArray.size) undef).getD t undef)
   rw [hget]
   have ht:Zah false (Zdy (Zvk 0 args) t):=by
    rcases hids _ (List.mem_of_getElem? e) with ⟨_,e2⟩|e2
    ·exact e2
    ·exact e2
   exact hrel.retag (fun b hb=>⟨hb.1,⟨fun h=>(by cases h),fun _=>hb.2.1⟩,hb.2.2⟩) ht
theorem fn_okL {P:Program} {f:FuncId} {fn:Func} {c:Code} {nt:Nat} (pre post:List (Nat×Ob)) (hf:P.funcs[f]? =some fn) (hb:fn.body=some c) (hnt:fn.ntmps=nt) {args:List AV} (hle:Nat.ble args.length nt=true) (hids:∀a∈args,a.ids=[]∧Zah false a∨Zah false a) {fr:Bool} {res:AV}
  (h:∀B:Base,(∀i,B.bo i=(pre.map (·.1)).contains i)→AW P B nt c (mkS (Zvk 0 args) pre) (bodyPost P fn (RetP B fr res (Zac post)))):Zao P f args (Zac pre) fr res (Zac post):=
 fun B vals hbo hm hr=>fn_okC (pre.map (·.1)) pre post hf hb hnt hle hids h B vals (fun i=>by rw [hbo];exact Zbv) hm hr
theorem Zqy {t:Bool} {cs:List AV} (h:Zae t cs) {a:AV} (ha:a∈cs):Zah t a:=by
 obtain ⟨i,hi,rfl⟩:=List.getElem_of_mem ha
 exact Zbh h (List.getElem?_eq_getElem hi)
theorem Zej {P:Program} {f:FuncId} {fn:Func} {c:Code} {nt:Nat} (hf:P.funcs[f]? =some fn) (hb:fn.body=some c) (hnt:fn.ntmps=nt) {args:List AV} (hle:Nat.ble args.length nt=true) (hids:AV.idsL args=[]) (htag:Zae false args) {fr:Bool} {res:AV}
  (h:∀B:Base,(∀i,B.bo i=[].contains i)→AW P B nt c (mkS (Zvk 0 args) []) (bodyPost P fn (RetP B fr res Zdl))):Con P f args fr res:=
 fn_okL [] [] hf hb hnt hle (fun a ha=> .inl ⟨by obtain ⟨i,hi,rfl⟩:=List.getElem_of_mem ha;exact AV.idsL_all hids (List.getElem?_eq_getElem hi),Zqy htag ha⟩) h
def Zvs (P:Program) (σ:St):ResultVar→Option AV
 | .tmp t=>some (σ.tm t)
 | .cell a t=>match Zfg σ.ob (σ.tm a) with
  |some (cs,none)=>Zlp P t cs
  |_=>none
def resL (P:Program) (σ:St):List ResultVar→Option (List AV)
 | []=>some []
 |r::rs=>match Zvs P σ r,resL P σ rs with
  |some a,some l=>some (a::l)
  |_,_=>none
def resA (P:Program) (fn:Func) (σ:St):Option AV:=match resL P σ fn.results.toList with
 |some [a]=>some a
 |some l=>some (.tup l)
 |none=>none
def Zsl (tmps:Array Value):ResultVar→Sem Value
 | .tmp t=>pure (tmps.getD t undef)
 | .cell a t=>do loadVar t (←asAddr (tmps.getD a undef))
theorem Zsm {P:Program} {B:Base} {κ:Nat→Value} {σ:St} {w:World} {tmps:Array Value} (hm:MS B κ σ.ob w) (hr:∀t,Rel κ w (SS B κ σ.ob w) (σ.tm t) (tmps.getD t undef)):∀(rs:List ResultVar) (l:List AV),resL P σ rs=some l→
  ∃vs,(rs.mapM (Zsl tmps)).run P w= .ok vs w∧RelL κ w (SS B κ σ.ob w) l vs
 | [],l,h=>by simp only [resL,Option.some.injEq] at h;subst h;exact ⟨[],rfl,.nil⟩
 |r::rs,l,h=>by
  simp only [resL] at h
  split at h
  ·rename_i a l' h1 h2
   cases h
   obtain ⟨vs,hv,hrl⟩:=Zsm hm hr rs l' h2
   have hone:∃v,(Zsl tmps r).run P w= .ok v w∧Rel κ w (SS B κ σ.ob w) a v:=by
    cases r with
    |tmp t=>simp only [Zvs,Option.some.injEq] at h1;subst h1;exact ⟨_,rfl,hr t⟩
    |cell q t=>
     simp only [Zvs] at h1
     split at h1
     ·rename_i cs hc
      obtain ⟨b,o,g,e,c1,c2⟩:=Zek hm (fun _ _ h=>h) (hr q) hc trivial
      obtain ⟨v,r1,r2⟩:=Zkh (P:=P) h1 b o g c1 c2
      exact ⟨v,by simp only [Zsl,Sem.run_bind,e,asAddr,Sem.run_pure,Result.andThen_ok,r1],r2⟩
     ·cases h1
   obtain ⟨v,r1,r2⟩:=hone
   refine ⟨v::vs,?_,.cons r2 hrl⟩
   simp only [List.mapM_cons,Sem.run_bind]
   rw [r1]
   simp only [Result.andThen_ok]
   rw [hv]
   rfl
  ·cases h
def frzR (lent:List Nat) (post:List (Nat×Ob)) (σ:St):Nat→Option Ob:=fun i=>bif lent.contains i||(post.map (·.1)).contains i then none else σ.ob i
def Zfy (lent:List Nat) (post:List (Nat×Ob)) (σ:St):List (Nat×Ob)→List Prop
 | []=>[]
 |(i,o)::r=>(match σ.ob i with
  |some o1=>o1=o∨Zed (frzR lent post σ) true o1 o
  |none=>False)::Zfy lent post σ r
theorem Zvt {lent:List Nat} {post:List (Nat×Ob)} {σ:St} :∀ {L:List (Nat×Ob)},(∀p∈Zfy lent post σ L,p)→∀ {i:Nat} {o:Ob},Zac L i=some o→∃o1,σ.ob i=some o1∧(o1=o∨Zed (frzR lent post σ) true o1 o)
 | [],_,i,o,h=>by cases h
 |(j,oj)::r,hc,i,o,h=>by
  simp only [Zac] at h
  cases hb:Nat.beq i j with
  |true=>
   simp only [hb,cond_true,Option.some.injEq] at h
   subst h
   obtain rfl:=Nat.eq_of_beq_eq_true hb
   have:=hc _ (by simp only [Zfy];exact List.mem_cons_self)
   split at this
   ·rename_i o1 ho;exact ⟨o1,ho,this⟩
   ·exact this.elim
  |false=>
   simp only [hb,cond_false] at h
   exact Zvt (L:=r) (fun p hp=>hc p (by simp only [Zfy];exact List.mem_cons_of_mem _ hp)) h
theorem Zvj {P:Program} {B:Base} {nt:Nat} {σ:St} {fn:Func} {fr:Bool} {res:AV} {lent:List Nat} (hB:∀i,B.bo i=lent.contains i) (post:List (Nat×Ob)) (hpost:Conj (Zfy lent post σ post)) (r:AV) (hr:resA P fn σ=some r)
  (hle:r=res∨le (frzR lent post σ) true r res) (hids:fr=true→res.ids=[]) (hfr:fr=true→Zah true res):
  AE B nt .ret σ (bodyPost P fn (RetP B fr res (Zac post))):=by
 intro a w ⟨h1,h2,κ,hm,hrel⟩
 unfold resA at hr
 cases hl:resL P σ fn.results.toList with
 |none=>rw [hl] at hr;cases hr
 |some l=>
  rw [hl] at hr
  obtain ⟨vs,hv,hrl⟩:=Zsm hm hrel _ l hl
  have hres:∃v,(results fn a.tmps).run P w= .ok v w∧Rel κ w (SS B κ σ.ob w) r v:=by
   have hrun:(results fn a.tmps).run P w= .ok (if h:vs.toArray.size=1 then vs.toArray[0] else .tuple vs.toArray) w:=by
    have hdef:results fn a.tmps=(do let vs ←fn.results.mapM (Zsl a.tmps);pure (if h:vs.size=1 then vs[0] else .tuple vs)):=by
     unfold results
     congr 1
    rw [hdef]
    rw [Array.mapM_eq_mapM_toList]
    simp only [Sem.run_bind,Sem.run_map]
    rw [hv]
    rfl
   refine ⟨_,hrun,?_⟩
   have hlen:=hrl.1
   split at hr
   ·rename_i a' e
    cases hr
    cases e
    simp at hlen
    obtain ⟨x,rfl⟩:∃x,vs=[x]:=by
     cases vs with
     |nil=>simp at hlen
     |cons x xs=>cases xs with
      |nil=>exact ⟨x,rfl⟩
      |cons _ _=>simp at hlen
    exact hrl.2 0 _ x rfl rfl
   ·rename_i hne e
    cases hr
    cases e
    have:¬ vs.toArray.size=1:=by
     intro hs
     simp at hs
     cases l with
     |nil=>simp at hlen;omega
     |cons x xs=>cases xs with
      |nil=>exact hne x rfl
      |cons _ _=>simp at hlen;omega
    rw [dif_neg this]
    exact hrl.tup
   ·rename_i e;cases e
  obtain ⟨v,hv1,hv2⟩:=hres
  have hp:∀i o,Zac post i=some o→∃o1,σ.ob i=some o1∧(o1=o∨Zed (frzR lent post σ) true o1 o):=fun i o h=>Zvt hpost.all h
  have hpn:∀i,Zac post i≠none→σ.ob i≠none:=fun i h=>by
   cases e:Zac post i with
   |none=>exact absurd e h
   |some o=>
    obtain ⟨o1,h1,_⟩:=hp i o e
    rw [h1];simp
  have hsub:∀i o,frzR lent post σ i=some o→lent.contains i=false∧Zac post i=none∧σ.ob i=some o:=fun i o h=>by
   unfold frzR at h
   cases e:lent.contains i||(post.map (·.1)).contains i with
   |true=>rw [e] at h;cases h
   |false=>
    rw [e] at h
    simp only [Bool.or_eq_false_iff] at e
    refine ⟨e.1,?_,h⟩
    have:=Zbv (A:=post) (i:=i)
    rw [e.2] at this
    cases e':Zac post i with
    |none=>rfl
    |some _=>rw [e'] at this;cases this
  have hS:∀t b,SS B κ σ.ob w t b→SS B κ (Zac post) w t b:=fun t b hb=>⟨hb.1,hb.2.1,fun i h=>hb.2.2 i (hpn i h)⟩
  have hF:∀i o b,frzR lent post σ i=some o→Blk (κ i) b→SS B κ (Zac post) w false b∧(true=true→SS B κ (Zac post) w true b):=fun i o b ho hb=>by
   obtain ⟨e1,e3,e2⟩:=hsub i o ho
   have hlt:=hm.ownb i b (by rw [e2];simp) hb
   have hge:B.N b:=by
    rcases hlt.2 with h'|hj
    ·exact h'
    ·rw [hB,e1] at hj;cases hj
   have hno:∀j,Zac post j≠none→¬ Blk (κ j) b:=fun j hj hjb=>by
    have:=hm.inj j i b (hpn j hj) (by rw [e2];simp) hjb hb
    subst this
    exact hj e3
   exact ⟨⟨hlt.1,⟨fun h=>(by cases h),fun h=>absurd hge h⟩,hno⟩,fun _=>⟨hlt.1,⟨fun _=>hge,fun h=>absurd hge h⟩,hno⟩⟩
  have hsub2:∀i o,frzR lent post σ i=some o→σ.ob i=some o:=fun i o h=>(hsub i o h).2.2
  refine ⟨h1,v,hv1,v,κ,rfl,⟨hm.kept,fun i o h=> ?_,fun i b h=>hm.ownb i b (hpn i h),fun i j b h h'=>hm.inj i j b (hpn i h) (hpn j h'),hm.lent,hm.glob⟩,?_⟩
  ·obtain ⟨o1,e1,e2⟩:=hp i o h
   rcases e2 with rfl|e2
   ·exact (hm.obj i _ e1).keep (fun _ _=>rfl) (fun t b hb=>⟨rfl,hS t b hb⟩) fun _ _=>rfl
   ·exact (hm.obj i _ e1).le hm hsub2 hS hF e2
  have hR:Rel κ w (SS B κ (Zac post) w) res v:=by
   rcases hle with rfl|hle
   ·exact hv2.keep (fun t b hb=>⟨rfl,hS t b hb⟩) fun _ _=>rfl
   ·exact Zju hm hsub2 hS hF _ _ _ hv2 hle
  cases fr with
  |false=>exact hR
  |true=>exact .tree _ _ ((hR.toT (hids rfl)).retag (S:=SS B κ (Zac post) w) (S':=SR true B κ (Zac post) w) (t:=true) (fun b hb=>hb) (hfr rfl))
theorem Zau {P:Program} {B:Base} {nt:Nat} {σ:St} {fn:Func} {fr:Bool} {res:AV} (hB:∀i,B.bo i=[].contains i) (r:AV) (hr:resA P fn σ=some r) (hle:r=res∨le σ.ob true r res) (hids:res.ids=[]) (hfr:fr=true→Zah true res):
  AE B nt .ret σ (bodyPost P fn (RetP B fr res Zdl)):=Zvj hB [] trivial r hr hle (fun _=>hids) hfr
def Zhr (T:List (Nat×AV)) (O:List (Nat×Ob)) (i:Nat):Bool:=(O.all fun p=> !(Nat.beq p.1 i)&& !(p.2.ids.contains i))&&T.all fun p=> !(p.2.ids.contains i)
def Zly:AV→Bool
 | .e0=>true
 | .val (.slice none 0 0)=>true
 |_=>false
theorem Sim.nil {B:Base} {nt:Nat} {T:List (Nat×AV)} {O:List (Nat×Ob)} {a:Act} {w:World} (h:Sim B nt (mkS T O) a w) (t i sz:Nat) (f:Nat→List AV) (ht:Zly (Zdy T t)=true) (hf:Zhr T O i=true) (hb:B.bo i=false):
  Sim B nt (mkS ((t,.arr i)::T) ((i,.arr sz 0 f)::O)) a w:=by
 obtain ⟨h1,h2,κ,hm,hr⟩:=h
 simp only [Zhr,Bool.and_eq_true] at hf
 have hO:∀j o,Zac O j=some o→j≠i∧i∉o.ids:=fun j o ho=>by
  have:=List.all_eq_true.1 hf.1 (j,o) (Zdg ho)
  simp only [Bool.and_eq_true,Bool.not_eq_true'] at this
  exact ⟨fun e=>by subst e;simp at this,by simpa using this.2⟩
 have hT:∀s,i∉(Zdy T s).ids:=fun s=>by
  rcases Zii (T:=T) (t:=s) with e|e
  ·rw [e];simp [AV.ids]
  ·have:=List.all_eq_true.1 hf.2 _ e
   simpa using this
 obtain ⟨A,hv⟩:∃A,a.tmps.getD t undef= .slice A 0 0:=by
  have h0:=hr t
  change Rel κ w _ (Zdy T t) _ at h0
  generalize Zdy T t=x at*
  generalize a.tmps.getD t undef=v at*
  cases x with
  |e0=>cases h0 with|tree _ _ h=>cases h with|e0 A=>exact ⟨A,rfl⟩
  |val u=>
   have:=h0.val_of
   subst this
   cases v with
   |slice A n c=>
    cases A with
    |none=>cases n with
     |zero=>cases c with
      |zero=>exact ⟨none,rfl⟩
      |succ _=>cases ht
     |succ _=>cases ht
    |some _=>cases ht
   |_=>cases ht
  |_=>cases ht
 have hnone:Zac O i=none:=by
  cases e:Zac O i with
  |none=>rfl
  |some o=>exact absurd rfl (hO i o e).1
 have hput:=MS.put (w':=w) hm i (.arr sz 0 f) (.slice A 0 0) (ob':=Zac ((i,.arr sz 0 f)::O)) (by simp [Zac]) (fun j hj _=>by
  have:Nat.beq j i=false:=Bool.eq_false_iff.2 fun e=>hj (Nat.eq_of_beq_eq_true e)
  show Zac _ j=Zac O j
  simp [Zac,this]) (fun h=>absurd hnone h) (fun b hb=>by cases A<;>simp [Zbx,blk] at hb) rfl rfl rfl (Nat.le_refl _) (fun _ _ _=>rfl) (fun _ j o hj ho=>by
  have:Nat.beq j i=false:=Bool.eq_false_iff.2 fun e=>hj (Nat.eq_of_beq_eq_true e)
  have ho':Zac O j=some o:=by
   have h2:Zac ((i,.arr sz 0 f)::O) j=some o:=ho
   simpa [Zac,this] using h2
  exact (hO j o ho').2) (fun h=>by rw [hb] at h;cases h) (fun _=> .inl ⟨rfl,A,rfl⟩)
 refine ⟨h1,h2,Zfl κ i (.slice A 0 0),hput.1,fun s=> ?_⟩
 show Rel _ w _ (Zdy ((t,.arr i)::T) s) _
 simp only [Zdy]
 cases e:Nat.beq s t with
 |true=>
  have:=Nat.eq_of_beq_eq_true e
  subst this
  rw [hv]
  exact .arr i A 0 0 (Zav _ _ _)
 |false=>
  exact (hr s).keep hput.2 fun j hj=>Zbi _ _ fun e=>by subst e;exact hT s hj
theorem aw_nil {P:Program} {B:Base} {nt:Nat} {lent:List Nat} {T:List (Nat×AV)} {O:List (Nat×Ob)} {c:Code} {Q:Exit→Act→World→Prop} (hB:∀i,B.bo i=lent.contains i) (t i sz:Nat) (f:Nat→List AV) (hck:(Zly (Zdy T t)&&(Zhr T O i&& !(lent.contains i)))=true)
  (h:AW P B nt c (mkS ((t,.arr i)::T) ((i,.arr sz 0 f)::O)) Q):AW P B nt c (mkS T O) Q:=fun a w hs=>by
 simp only [Bool.and_eq_true,Bool.not_eq_true'] at hck
 exact h a w (hs.nil t i sz f hck.1 hck.2.1 (by rw [hB];exact hck.2.2))
theorem Sim.nilC {B:Base} {nt:Nat} {T:List (Nat×AV)} {O:List (Nat×Ob)} {a:Act} {w:World} (h:Sim B nt (mkS T O) a w) (x c i sz:Nat) (f:Nat→List AV) (cs:List AV) (hx:Zac O x=some (.box cs)) (ht:(match cs[c]? with|some a=>Zly a|none=>false)=true)
  (hf:Zhr T O i=true) (hb:B.bo i=false):Sim B nt (mkS T ((x,.box (cs.set c (.arr i)))::(i,.arr sz 0 f)::O)) a w:=by
 obtain ⟨h1,h2,κ,hm,hr⟩:=h
 simp only [Zhr,Bool.and_eq_true] at hf
 have hO:∀j o,Zac O j=some o→j≠i∧i∉o.ids:=fun j o ho=>by
  have:=List.all_eq_true.1 hf.1 (j,o) (Zdg ho)
  simp only [Bool.and_eq_true,Bool.not_eq_true'] at this
  exact ⟨fun e=>by subst e;simp at this,by simpa using this.2⟩
 have hT:∀s,i∉(Zdy T s).ids:=fun s=>by
  rcases Zii (T:=T) (t:=s) with e|e
  ·rw [e];simp [AV.ids]
  ·have:=List.all_eq_true.1 hf.2 _ e
   simpa using this
 obtain ⟨u,hcu,hu⟩:∃u,cs[c]? =some u∧Zly u=true:=by
  split at ht
  ·rename_i u hu;exact ⟨u,hu,ht⟩
  ·cases ht
 have ox:=hm.obj x _ hx
 obtain ⟨b,cur,e,hv,c1,c2,c3⟩:=ox
 have hclt:c<cs.length:=(List.getElem?_eq_some_iff.1 hcu).1
 obtain ⟨y,hy⟩:∃y,cur[c]? =some y:=⟨_,Array.getElem?_eq_getElem (by omega)⟩
 obtain ⟨A,hA⟩:∃A,y= .slice A 0 0:=by
  have h0:=c3 c u y hcu hy
  cases u with
  |e0=>cases h0 with|tree _ _ h=>cases h with|e0 A=>exact ⟨A,rfl⟩
  |val v=>
   have:=h0.val_of
   subst this
   cases y with
   |slice A n c=>
    cases A with
    |none=>cases n with
     |zero=>cases c with
      |zero=>exact ⟨none,rfl⟩
      |succ _=>cases hu
     |succ _=>cases hu
    |some _=>cases hu
   |_=>cases hu
  |_=>cases hu
 subst hA
 have hxi:x≠i:=(hO x _ hx).1
 have hnone:Zac O i=none:=by
  cases e:Zac O i with
  |none=>rfl
  |some o=>exact absurd rfl (hO i o e).1
 have hput:=MS.put (w':=w) hm i (.arr sz 0 f) (.slice A 0 0) (ob':=Zac ((i,.arr sz 0 f)::O)) (by simp [Zac]) (fun j hj _=>by
  have:Nat.beq j i=false:=Bool.eq_false_iff.2 fun e=>hj (Nat.eq_of_beq_eq_true e)
  show Zac _ j=Zac O j
  simp [Zac,this]) (fun h=>absurd hnone h) (fun b hb=>by cases A<;>simp [Zbx,blk] at hb) rfl rfl rfl (Nat.le_refl _) (fun _ _ _=>rfl) (fun _ j o hj ho=>by
  have:Nat.beq j i=false:=Bool.eq_false_iff.2 fun e=>hj (Nat.eq_of_beq_eq_true e)
  have ho':Zac O j=some o:=by
   have h2:Zac ((i,.arr sz 0 f)::O) j=some o:=ho
   simpa [Zac,this] using h2
  exact (hO j o ho').2) (fun h=>by rw [hb] at h;cases h) (fun _=> .inl ⟨rfl,A,rfl⟩)
 have hbeq:Nat.beq x i=false:=Bool.eq_false_iff.2 fun e=>hxi (Nat.eq_of_beq_eq_true e)
 have hx2:Zac ((i,.arr sz 0 f)::O) x=some (.box cs):=by simp [Zac,hbeq,hx]
 have hput2:=MS.put (w':=w) hput.1 x (.box (cs.set c (.arr i))) (Zfl κ i (.slice A 0 0) x) (ob':=Zac ((x,.box (cs.set c (.arr i)))::(i,.arr sz 0 f)::O)) (by simp [Zac]) (fun j hj _=>by
  have:Nat.beq j x=false:=Bool.eq_false_iff.2 fun e=>hj (Nat.eq_of_beq_eq_true e)
  show Zac _ j=Zac ((i,.arr sz 0 f)::O) j
  simp [Zac,this]) (fun _=>rfl) (fun q hq=>⟨.inr ⟨x,by rw [hx2];simp,.inl rfl,hq⟩,(hput.1.ownb x q (by rw [hx2];simp) hq).1⟩) rfl rfl rfl (Nat.le_refl _) (fun _ _ _=>rfl) (fun h=>by rw [hx2] at h;cases h) (fun _=>rfl)
  (fun hfr=>by
   have hxk:Zfl κ i (.slice A 0 0) x=κ x:=Zbi _ _ hxi
   rw [hxk] at hfr⊢
   have hκx:∀q,Zfl (Zfl κ i (.slice A 0 0)) x (κ x) q=Zfl κ i (.slice A 0 0) q:=fun q=>by
    by_cases eq:q=x
    ·subst eq;rw [Zav,hxk]
    ·exact Zbi _ _ eq
   refine ⟨b,cur,e,hv,c1,by simpa using c2,fun j u' y' hj hy'=> ?_⟩
   rw [List.getElem?_set] at hj
   by_cases ej:c=j
   ·subst ej
    simp [hclt] at hj
    subst hj
    rw [hy] at hy'
    cases hy'
    exact .arr i A 0 0 ((hκx i).trans (Zav _ _ _))
   ·rw [if_neg ej] at hj
    refine ((c3 j u' y' hj hy').keep hput.2 fun q hq=>Zbi _ _ fun e=> ?_).keep hfr fun q _=>hκx q
    subst e
    exact (hO x _ hx).2 (AV.idsL_in hj hq))
 have hκ2:Zfl (Zfl κ i (.slice A 0 0)) x (Zfl κ i (.slice A 0 0) x)=Zfl κ i (.slice A 0 0):=by funext q;by_cases eq:q=x<;>simp [Zfl,eq]
 rw [hκ2] at hput2
 exact ⟨h1,h2,Zfl κ i (.slice A 0 0),hput2.1,fun s=>((hr s).keep hput.2 fun j hj=>Zbi _ _ fun e=>by subst e;exact hT s hj).keep hput2.2 fun _ _=>rfl⟩
def nilCk (lent:List Nat) (T:List (Nat×AV)) (O:List (Nat×Ob)) (cs:List AV) (c i:Nat):Bool:=(match cs[c]? with|some a=>Zly a|none=>false)&&(Zhr T O i&& !(lent.contains i))
theorem aw_nilC {P:Program} {B:Base} {nt:Nat} {lent:List Nat} {T:List (Nat×AV)} {O:List (Nat×Ob)} {co:Code} {Q:Exit→Act→World→Prop} (hB:∀i,B.bo i=lent.contains i) (x c i sz:Nat) (f:Nat→List AV) {cs:List AV} (hx:Zac O x=some (.box cs)) (hck:nilCk lent T O cs c i=true)
  (h:AW P B nt co (mkS T ((x,.box (cs.set c (.arr i)))::(i,.arr sz 0 f)::O)) Q):AW P B nt co (mkS T O) Q:=fun a w hs=>by
 simp only [nilCk,Bool.and_eq_true,Bool.not_eq_true'] at hck
 exact h a w (hs.nilC x c i sz f cs hx hck.1 hck.2.1 (by rw [hB];exact hck.2.2))
theorem Sim.fam0 {B:Base} {nt:Nat} {T:List (Nat×AV)} {O:List (Nat×Ob)} {a:Act} {w:World} (h:Sim B nt (mkS T O) a w) (i sz:Nat) (m:Nat→Nat) (g:Nat→Nat→List AV) (hf:Zhr T O i=true) (hb:B.bo i=false):
  Sim B nt (mkS T ((i,.fam 0 sz m g)::O)) a w:=by
 obtain ⟨h1,h2,κ,hm,hr⟩:=h
 simp only [Zhr,Bool.and_eq_true] at hf
 have hO:∀j o,Zac O j=some o→j≠i∧i∉o.ids:=fun j o ho=>by
  have:=List.all_eq_true.1 hf.1 (j,o) (Zdg ho)
  simp only [Bool.and_eq_true,Bool.not_eq_true'] at this
  exact ⟨fun e=>by subst e;simp at this,by simpa using this.2⟩
 have hT:∀s,i∉(Zdy T s).ids:=fun s=>by
  rcases Zii (T:=T) (t:=s) with e|e
  ·rw [e];simp [AV.ids]
  ·have:=List.all_eq_true.1 hf.2 _ e
   simpa using this
 have hnone:Zac O i=none:=by
  cases e:Zac O i with
  |none=>rfl
  |some o=>exact absurd rfl (hO i o e).1
 have hput:=MS.put (w':=w) hm i (.fam 0 sz m g) (.tuple #[]) (ob':=Zac ((i,.fam 0 sz m g)::O)) (by simp [Zac]) (fun j hj _=>by
  have:Nat.beq j i=false:=Bool.eq_false_iff.2 fun e=>hj (Nat.eq_of_beq_eq_true e)
  show Zac _ j=Zac O j
  simp [Zac,this]) (fun h=>absurd hnone h) (fun b hb=>by simp [Zvu] at hb) rfl rfl rfl (Nat.le_refl _) (fun _ _ _=>rfl) (fun _ j o hj ho=>by
  have:Nat.beq j i=false:=Bool.eq_false_iff.2 fun e=>hj (Nat.eq_of_beq_eq_true e)
  have ho':Zac O j=some o:=by
   have h2:Zac ((i,.fam 0 sz m g)::O) j=some o:=ho
   simpa [Zac,this] using h2
  exact (hO j o ho').2) (fun h=>by rw [hb] at h;cases h) (fun _=>⟨#[],rfl,rfl,fun p r h=>by simp at h,fun p q r r' b h=>by simp at h⟩)
 exact ⟨h1,h2,Zfl κ i (.tuple #[]),hput.1,fun s=>(hr s).keep hput.2 fun j hj=>Zbi _ _ fun e=>by subst e;exact hT s hj⟩
mutual
def AV.joi (j F N:Nat):AV→AV
 | .agg cs=> .agg (AV.joiL j F N cs)
 | .tup cs=> .tup (AV.joiL j F N cs)
 | .fn f cs=> .fn f (AV.joiL j F N cs)
 | .ref i o=>bif Nat.beq i j then .any else .ref i o
 | .elt i s k q=>bif Nat.beq i j then .relt F N s k q else .elt i s k q
 | .arr i=>bif Nat.beq i j then .row F N else .arr i
 | .row i p=>bif Nat.beq i j then .any else .row i p
 | .relt i p s k q=>bif Nat.beq i j then .any else .relt i p s k q
 | .mapr i=>bif Nat.beq i j then .any else .mapr i
 | .win i o n=>bif Nat.beq i j then .any else .win i o n
 | .any=> .any
 | .val v=> .val v
 | .sl fr sz n f=> .sl fr sz n f
 | .e0=> .e0
 | .ptr fr cs=> .ptr fr cs
 | .nilq n=> .nilq n
def AV.joiL (j F N:Nat):List AV→List AV
 | []=>[]
 |a::r=>AV.joi j F N a::AV.joiL j F N r
end
theorem AV.joiL_eq (j F N:Nat) (cs:List AV):AV.joiL j F N cs=cs.map (AV.joi j F N):=by
 induction cs with
 |nil=>rfl
 |cons a r ih=>simp [AV.joiL,ih]
def Ob.joi (j F N:Nat):Ob→Ob
 | .box cs=> .box (AV.joiL j F N cs)
 | .arr s n f=> .arr s n f
 | .oar L s n f=> .oar (L.map fun i=>bif Nat.beq i j then F else i) s n fun i=>AV.joiL j F N (f i)
 | .fam n s m g=> .fam n s m g
 | .set ks=> .set ks
 | .bld e q=>bif Nat.beq q j then .box [.any,.any] else .bld e q
 | .buf e r t=> .buf e r t
 | .sit s p=> .sit s p
 | .byt t=> .byt t
mutual
theorem AV.joi_ids {j F N q:Nat} :∀a:AV,q∈(a.joi j F N).ids→∃i∈a.ids,q=bif Nat.beq i j then F else i
 | .agg cs,h=>by simp only [AV.joi,AV.ids] at h⊢;exact AV.joiL_ids cs h
 | .tup cs,h=>by simp only [AV.joi,AV.ids] at h⊢;exact AV.joiL_ids cs h
 | .fn f cs,h=>by simp only [AV.joi,AV.ids] at h⊢;exact AV.joiL_ids cs h
 | .ref i o,h=>by simp only [AV.joi] at h;cases hb:Nat.beq i j<;>simp [hb,AV.ids] at h⊢;simpa using h
 | .elt i s k p,h=>by simp only [AV.joi] at h;cases hb:Nat.beq i j<;>simp [hb,AV.ids] at h⊢<;>simpa using h
 | .arr i,h=>by simp only [AV.joi] at h;cases hb:Nat.beq i j<;>simp [hb,AV.ids] at h⊢<;>simpa using h
 | .row i p,h=>by simp only [AV.joi] at h;cases hb:Nat.beq i j<;>simp [hb,AV.ids] at h⊢;simpa using h
 | .relt i p s k z,h=>by simp only [AV.joi] at h;cases hb:Nat.beq i j<;>simp [hb,AV.ids] at h⊢;simpa using h
 | .mapr i,h=>by simp only [AV.joi] at h;cases hb:Nat.beq i j<;>simp [hb,AV.ids] at h⊢;simpa using h
 | .win i o n,h=>by simp only [AV.joi] at h;cases hb:Nat.beq i j<;>simp [hb,AV.ids] at h⊢;simpa using h
 | .any,h=>by simp [AV.joi,AV.ids] at h
 | .val v,h=>by simp [AV.joi,AV.ids] at h
 | .sl fr sz n f,h=>by simp [AV.joi,AV.ids] at h
 | .e0,h=>by simp [AV.joi,AV.ids] at h
 | .ptr fr cs,h=>by simp [AV.joi,AV.ids] at h
 | .nilq n,h=>by simp [AV.joi,AV.ids] at h
theorem AV.joiL_ids {j F N q:Nat} :∀cs:List AV,q∈AV.idsL (AV.joiL j F N cs)→∃i∈AV.idsL cs,q=bif Nat.beq i j then F else i
 | [],h=>by simp [AV.joiL,AV.idsL] at h
 |a::r,h=>by
  simp only [AV.joiL,AV.idsL,List.mem_append] at h⊢
  rcases h with h|h
  ·obtain ⟨i,h1,h2⟩:=AV.joi_ids a h;exact ⟨i,.inl h1,h2⟩
  ·obtain ⟨i,h1,h2⟩:=AV.joiL_ids r h;exact ⟨i,.inr h1,h2⟩
end
theorem RelT.joi {w:World} {S:Bool→Nat→Prop} {a:AV} {v:Value} (h:RelT w S a v) (j F N:Nat):RelT w S (a.joi j F N) v:=by
 have hat:∀(cs:List AV) (i:Nat) (a:AV),(AV.joiL j F N cs)[i]? =some a→∃a',cs[i]? =some a'∧a=a'.joi j F N:=fun cs i a h=>by
  rw [AV.joiL_eq,List.getElem?_map,Option.map_eq_some_iff] at h
  obtain ⟨a',h1,h2⟩:=h
  exact ⟨a',h1,h2.symm⟩
 induction h with
 |any v=>exact .any v
 |val v=>exact .val v
 |agg cs vs h1 _ ih=>exact .agg _ vs (by rw [AV.joiL_eq,List.length_map];exact h1) fun i a v ha hv=>by obtain ⟨a',h,rfl⟩:=hat _ _ _ ha;exact ih i a' v h hv
 |tup cs vs h1 _ ih=>exact .tup _ vs (by rw [AV.joiL_eq,List.length_map];exact h1) fun i a v ha hv=>by obtain ⟨a',h,rfl⟩:=hat _ _ _ ha;exact ih i a' v h hv
 |fn f cs vs h1 _ ih=>exact .fn f _ vs (by rw [AV.joiL_eq,List.length_map];exact h1) fun i a v ha hv=>by obtain ⟨a',h,rfl⟩:=hat _ _ _ ha;exact ih i a' v h hv
 |sl fr sz n f b o c g hS h1 h2 h3 h4 h5 ih=>exact .sl fr sz n f b o c g hS h1 h2 h3 h4 h5
 |sl0 fr sz f A c h=>exact .sl0 fr sz f A c h
 |e0 A=>exact .e0 A
 |nilq n b h=>exact .nilq n b h
 |ptr fr cs b o g hS h1 h2 ih=>exact .ptr fr cs b o g hS h1 h2
theorem Rel.joi {κ:Nat→Value} {w:World} {S:Bool→Nat→Prop} {a:AV} {v:Value} {j F:Nat} {vs:Array Value} (h:Rel κ w S a v) (hF:κ F= .tuple vs):Rel (Zfl κ F (.tuple (vs.push (κ j)))) w S (a.joi j F vs.size) v:=by
 have hat:∀(cs:List AV) (i:Nat) (a:AV),(AV.joiL j F vs.size cs)[i]? =some a→∃a',cs[i]? =some a'∧a=a'.joi j F vs.size:=fun cs i a h=>by
  rw [AV.joiL_eq,List.getElem?_map,Option.map_eq_some_iff] at h
  obtain ⟨a',h1,h2⟩:=h
  exact ⟨a',h1,h2.symm⟩
 have hlast:(vs.push (κ j))[vs.size]? =some (κ j):=by simp
 have hne:∀i,(∀us,κ i≠ .tuple us)→Zfl κ F (.tuple (vs.push (κ j))) i=κ i:=fun i hi=>Zbi _ _ fun e=>hi vs (e▸hF)
 have hrow:∀i p us r,κ i= .tuple us→us[p]? =some r→∃us',Zfl κ F (.tuple (vs.push (κ j))) i= .tuple us'∧us'[p]? =some r:=fun i p us r hi hp=>by
  by_cases e:i=F
  ·subst e
   rw [hF] at hi
   cases hi
   have hlt:=(Array.getElem?_eq_some_iff.1 hp).1
   exact ⟨_,Zav _ _ _,by rw [Array.getElem?_push_lt hlt,←hp,Array.getElem?_eq_getElem hlt]⟩
  ·exact ⟨us,(Zbi _ _ e).trans hi,hp⟩
 induction h with
 |tree a v h=>exact .tree _ _ (h.joi _ _ _)
 |agg cs vs h1 _ ih=>exact .agg _ vs (by rw [AV.joiL_eq,List.length_map];exact h1) fun i a v ha hv=>by obtain ⟨a',h,rfl⟩:=hat _ _ _ ha;exact ih i a' v h hv
 |tup cs vs h1 _ ih=>exact .tup _ vs (by rw [AV.joiL_eq,List.length_map];exact h1) fun i a v ha hv=>by obtain ⟨a',h,rfl⟩:=hat _ _ _ ha;exact ih i a' v h hv
 |fn f cs vs h1 _ ih=>exact .fn f _ vs (by rw [AV.joiL_eq,List.length_map];exact h1) fun i a v ha hv=>by obtain ⟨a',h,rfl⟩:=hat _ _ _ ha;exact ih i a' v h hv
 |ref i off b h=>
  simp only [AV.joi]
  cases Nat.beq i j
  ·exact .ref i off b ((hne i fun us e=>by rw [h] at e;cases e).trans h)
  ·exact .tree _ _ (.any _)
 |elt i sz k q b n c h=>
  simp only [AV.joi]
  cases hb:Nat.beq i j
  ·exact .elt i sz k q b n c ((hne i fun us e=>by rw [h] at e;cases e).trans h)
  ·have e:=Nat.eq_of_beq_eq_true hb
   subst e
   exact .relt F vs.size sz k q b n c _ (Zav _ _ _) (hlast.trans (by rw [h]))
 |arr i A n c h=>
  simp only [AV.joi]
  cases hb:Nat.beq i j
  ·exact .arr i A n c ((hne i fun us e=>by rw [h] at e;cases e).trans h)
  ·have e:=Nat.eq_of_beq_eq_true hb
   subst e
   exact .row F vs.size _ A n c (Zav _ _ _) (hlast.trans (by rw [h]))
 |row i p us A n c h h'=>
  simp only [AV.joi]
  cases Nat.beq i j
  ·obtain ⟨us',e1,e2⟩:=hrow i p us _ h h';exact .row i p us' A n c e1 e2
  ·exact .tree _ _ (.any _)
 |relt i p sz k q b n c us h h'=>
  simp only [AV.joi]
  cases Nat.beq i j
  ·obtain ⟨us',e1,e2⟩:=hrow i p us _ h h';exact .relt i p sz k q b n c us' e1 e2
  ·exact .tree _ _ (.any _)
 |mapr i r h=>
  simp only [AV.joi]
  cases hb:Nat.beq i j
  ·exact .mapr i r ((hne i fun us e=>by rw [h] at e;cases e).trans h)
  ·exact .tree _ _ (.any _)
 |win i o n b M c h h'=>
  simp only [AV.joi]
  cases hb:Nat.beq i j
  ·exact .win i o n b M c ((hne i fun us e=>by rw [h] at e;cases e).trans h) h'
  ·exact .tree _ _ (.any _)
theorem RelL.joi {κ:Nat→Value} {w:World} {S:Bool→Nat→Prop} {cs:List AV} {xs:List Value} {j F:Nat} {vs:Array Value} (h:RelL κ w S cs xs) (hF:κ F= .tuple vs):RelL (Zfl κ F (.tuple (vs.push (κ j)))) w S (AV.joiL j F vs.size cs) xs:=by
 rw [AV.joiL_eq]
 refine ⟨by simpa using h.1,fun q u x hq hx=> ?_⟩
 rw [List.getElem?_map,Option.map_eq_some_iff] at hq
 obtain ⟨a,h1,rfl⟩:=hq
 exact (h.2 q a x h1 hx).joi hF
theorem ObRel.joi {κ:Nat→Value} {w:World} {S:Bool→Nat→Prop} {o:Ob} {v:Value} {j F:Nat} {vs:Array Value} (h:ObRel κ w S o v) (hF:κ F= .tuple vs):ObRel (Zfl κ F (.tuple (vs.push (κ j)))) w S (o.joi j F vs.size) v:=by
 cases o with
 |box cs=>
  obtain ⟨b,cur,e,rfl,h1,h2,h3⟩:=h
  have:=RelL.joi (j:=j) (xs:=cur.toList) ⟨by simpa using h2,fun j u x hj hx=>h3 j u x hj (by simpa using hx)⟩ hF
  exact ⟨b,cur,e,rfl,h1,by simpa using this.1,fun j u x hj hx=>this.2 j u x hj (by simpa using hx)⟩
 |arr=>exact h
 |oar L sz n f=>
  refine ⟨fun i hi q hq=> ?_,ArrG.cells h.2 fun p hp vs hl hr=>RelL.joi ⟨hl,hr⟩ hF⟩
  obtain ⟨q',h1,h2⟩:=AV.joiL_ids (f i) hq
  exact List.mem_map.2 ⟨q',h.1 i hi q' h1,h2.symm⟩
 |fam=>exact h
 |set=>exact h
 |bld e q=>
  obtain ⟨b,p,A,n,c,h0,h1,h2,h3⟩:=h
  simp only [Ob.joi]
  cases hq:Nat.beq q j with
  |false=>
   have hne:q≠F:=fun e=>by subst e;rw [hF] at h3;cases h3
   exact ⟨b,p,A,n,c,h0,h1,h2,(Zbi _ _ hne).trans h3⟩
  |true=>
   refine ⟨b,_,_,h0,h1,rfl,fun k u x hk hx=> ?_⟩
   have:u= .any:=by
    cases k with
    |zero=>simpa using hk.symm
    |succ k=>cases k with
     |zero=>simpa using hk.symm
     |succ k=>simp at hk
   subst this
   exact .tree _ _ (.any _)
 |buf e r t=>exact h
 |sit s p=>exact h
 |byt t=>exact h
def joiT (j F N:Nat):List (Nat×AV)→List (Nat×AV)
 | []=>[]
 |(t,a)::r=>(t,a.joi j F N)::joiT j F N r
def Zuv (j F N:Nat):List (Nat×Ob)→List (Nat×Ob)
 | []=>[]
 |(i,o)::r=>bif Nat.beq i j||Nat.beq i F then Zuv j F N r else (i,o.joi j F N)::Zuv j F N r
theorem Zvv {j F N:Nat} :∀ {T:List (Nat×AV)} {t:Nat},Zdy (joiT j F N T) t=(Zdy T t).joi j F N
 | [],t=>rfl
 |(s,a)::r,t=>by
  simp only [joiT,Zdy]
  cases Nat.beq t s
  ·exact Zvv
  ·rfl
theorem Zqz {j F N:Nat} :∀ {O:List (Nat×Ob)} {i:Nat} {o:Ob},Zac (Zuv j F N O) i=some o→i≠j∧i≠F∧∃o',Zac O i=some o'∧o=o'.joi j F N
 | [],i,o,h=>by cases h
 |(k,ok)::r,i,o,h=>by
  simp only [Zuv] at h
  cases hb:Nat.beq k j||Nat.beq k F with
  |true=>
   rw [hb] at h
   obtain ⟨h1,h2,o',h3,h4⟩:=Zqz (O:=r) h
   refine ⟨h1,h2,o',?_,h4⟩
   have:Nat.beq i k=false:=by
    rw [Bool.eq_false_iff]
    intro e
    have e:=Nat.eq_of_beq_eq_true e
    subst e
    rcases Bool.or_eq_true_iff.1 hb with e|e
    ·exact h1 (Nat.eq_of_beq_eq_true e)
    ·exact h2 (Nat.eq_of_beq_eq_true e)
   simp [Zac,this,h3]
  |false=>
   rw [hb] at h
   simp only [cond_false,Zac] at h
   cases hk:Nat.beq i k with
   |true=>
    rw [hk] at h
    simp only [cond_true,Option.some.injEq] at h
    have e:=Nat.eq_of_beq_eq_true hk
    subst e
    rw [Bool.or_eq_false_iff] at hb
    refine ⟨fun e=>by subst e;simp at hb,fun e=>by subst e;simp at hb,ok,by simp [Zac],h.symm⟩
   |false=>
    rw [hk] at h
    obtain ⟨h1,h2,o',h3,h4⟩:=Zqz (O:=r) h
    exact ⟨h1,h2,o',by simp [Zac,hk,h3],h4⟩
def Zig (N n:Nat) (m:Nat→Nat) (p:Nat):Nat:=bif Nat.beq p N then n else m p
def Zff (N:Nat) (f:Nat→List AV) (g:Nat→Nat→List AV) (p:Nat):Nat→List AV:=bif Nat.beq p N then f else g p
theorem Sim.join {B:Base} {nt:Nat} {T:List (Nat×AV)} {O:List (Nat×Ob)} {a:Act} {w:World} (h:Sim B nt (mkS T O) a w) (j F N sz n:Nat) (f:Nat→List AV) (m:Nat→Nat) (g:Nat→Nat→List AV) (hj:Zac O j=some (.arr sz n f)) (hF:Zac O F=some (.fam N sz m g))
  (hbj:B.bo j=false) (hbF:B.bo F=false):Sim B nt (mkS (joiT j F N T) ((F,.fam (N+1) sz (Zig N n m) (Zff N f g))::Zuv j F N O)) a w:=by
 obtain ⟨h1,h2,κ,hm,hr⟩:=h
 have hjF:j≠F:=fun e=>by subst e;rw [hj] at hF;cases hF
 have oj:=hm.obj j _ hj
 obtain ⟨vs,e1,e2,e3,e4⟩:=hm.obj F _ hF
 subst e2
 have nj:Zac O j≠none:=by rw [hj];simp
 have nF:Zac O F≠none:=by rw [hF];simp
 obtain ⟨κ',hκ'⟩:∃κ',κ'=Zfl κ F (.tuple (vs.push (κ j))):=⟨_,rfl⟩
 have kF:κ' F= .tuple (vs.push (κ j)):=by rw [hκ'];exact Zav _ _ _
 have kne:∀i,i≠F→κ' i=κ i:=fun i hi=>by rw [hκ'];exact Zbi _ _ hi
 have hlook:∀i o,Zac ((F,.fam (vs.size+1) sz (Zig vs.size n m) (Zff vs.size f g))::Zuv j F vs.size O) i=some o→(i=F∧o= .fam (vs.size+1) sz (Zig vs.size n m) (Zff vs.size f g))∨(i≠F∧i≠j∧∃o',Zac O i=some o'∧o=o'.joi j F vs.size):=fun i o ho=>by
  simp only [Zac] at ho
  cases hb:Nat.beq i F with
  |true=>
   rw [hb] at ho
   simp only [cond_true,Option.some.injEq] at ho
   exact .inl ⟨Nat.eq_of_beq_eq_true hb,ho.symm⟩
  |false=>
   rw [hb] at ho
   obtain ⟨q1,q2,q3⟩:=Zqz ho
   exact .inr ⟨q2,q1,q3⟩
 have hlive:∀i,Zac ((F,.fam (vs.size+1) sz (Zig vs.size n m) (Zff vs.size f g))::Zuv j F vs.size O) i≠none→i=F∨(i≠F∧i≠j∧Zac O i≠none):=fun i hi=>by
  cases e:Zac ((F,.fam (vs.size+1) sz (Zig vs.size n m) (Zff vs.size f g))::Zuv j F vs.size O) i with
  |none=>exact absurd e hi
  |some o=>
   rcases hlook i o e with ⟨q,_⟩|⟨q1,q2,o',q3,_⟩
   ·exact .inl q
   ·exact .inr ⟨q1,q2,by rw [q3];simp⟩
 have hblkF:∀b,Blk (κ' F) b→Blk (κ F) b∨Blk (κ j) b:=fun b hb=>by
  rw [kF,Zvu] at hb
  obtain ⟨p,r,hp,hr⟩:=hb
  rw [Array.getElem?_push] at hp
  split at hp
  ·cases hp;exact .inr (.inl hr)
  ·exact .inl (by rw [e1];exact .inr ⟨_,rfl,p,r,hp,hr⟩)
 have hS:∀fr b,SS B κ (Zac O) w fr b→SS B κ' (Zac ((F,.fam (vs.size+1) sz (Zig vs.size n m) (Zff vs.size f g))::Zuv j F vs.size O)) w fr b:=fun fr b hb=>⟨hb.1,hb.2.1,fun i hi hbi=>by
  rcases hlive i hi with rfl|⟨q1,q2,q3⟩
  ·rcases hblkF b hbi with h|h
   ·exact hb.2.2 _ nF h
   ·exact hb.2.2 _ nj h
  ·rw [kne i q1] at hbi;exact hb.2.2 i q3 hbi⟩
 have hkeep:∀fr b,SS B κ (Zac O) w fr b→w.heap[b]? =w.heap[b]? ∧SS B κ' (Zac ((F,.fam (vs.size+1) sz (Zig vs.size n m) (Zff vs.size f g))::Zuv j F vs.size O)) w fr b:=fun fr b hb=>⟨rfl,hS fr b hb⟩
 refine ⟨h1,h2,κ',⟨hm.kept,fun i o ho=> ?_,fun i b hi hb=> ?_,fun i k b hi hk hbi hbk=> ?_,fun i hi=> ?_,hm.glob⟩,fun t=> ?_⟩
 ·rcases hlook i o ho with ⟨rfl,rfl⟩|⟨q1,q2,o',q3,rfl⟩
  ·refine ⟨vs.push (κ j),kF,by simp,fun p r hp=> ?_,fun p q r r' b hp hq hb hb'=> ?_⟩
   ·rw [Array.getElem?_push] at hp
    split at hp
    ·rename_i e
     cases hp
     subst e
     simp only [Zig,Zff,Nat.beq_refl,cond_true]
     exact ArrRel.keep oj (fun _ _=>rfl) hkeep
    ·rename_i e
     have:Nat.beq p vs.size=false:=Bool.eq_false_iff.2 fun h=>e (Nat.eq_of_beq_eq_true h)
     simp only [Zig,Zff,this,cond_false]
     exact ArrRel.keep (e3 p r hp) (fun _ _=>rfl) hkeep
   ·have hx:∀p r,(vs.push (κ j))[p]? =some r→(p=vs.size∧r=κ j)∨vs[p]? =some r:=fun p r hp=>by
     rw [Array.getElem?_push] at hp
     split at hp
     ·cases hp;exact .inl ⟨by assumption,rfl⟩
     ·exact .inr hp
    rcases hx p r hp with ⟨rfl,rfl⟩|hp<;>rcases hx q r' hq with ⟨rfl,rfl⟩|hq
    ·rfl
    ·exact absurd (hm.inj j _ b nj nF (.inl hb) (by rw [e1];exact .inr ⟨_,rfl,q,r',hq,hb'⟩)) hjF
    ·exact absurd (hm.inj j _ b nj nF (.inl hb') (by rw [e1];exact .inr ⟨_,rfl,p,r,hp,hb⟩)) hjF
    ·exact e4 p q r r' b hp hq hb hb'
  ·rw [kne i q1,hκ']
   refine ObRel.joi ?_ e1
   rw [hκ'] at hkeep
   exact (hm.obj i o' q3).keep (fun _ _=>rfl) hkeep fun _ _=>rfl
 ·rcases hlive i hi with rfl|⟨q1,q2,q3⟩
  ·rcases hblkF b hb with h|h
   ·exact hm.ownb _ b nF h
   ·have:=hm.ownb _ b nj h
    refine ⟨this.1,.inl ?_⟩
    rcases this.2 with h'|h'
    ·exact h'
    ·rw [hbj] at h';cases h'
  ·rw [kne i q1] at hb;exact hm.ownb i b q3 hb
 ·have hone:∀k,k≠F→k≠j→Zac O k≠none→Blk (κ' k) b→Blk (κ' F) b→False:=fun k k1 k2 k3 hk hFb=>by
   rw [kne k k1] at hk
   rcases hblkF b hFb with h|h
   ·exact k1 (hm.inj k F b k3 nF hk h)
   ·exact k2 (hm.inj k j b k3 nj hk h)
  rcases hlive i hi with ei|⟨q1,q2,q3⟩<;>rcases hlive k hk with ek|⟨p1,p2,p3⟩
  ·rw [ei,ek]
  ·subst ei;exact (hone k p1 p2 p3 hbk hbi).elim
  ·subst ek;exact (hone i q1 q2 q3 hbi hbk).elim
  ·rw [kne i q1] at hbi;rw [kne k p1] at hbk;exact hm.inj i k b q3 p3 hbi hbk
 ·by_cases e:i=F
  ·subst e;rw [hbF] at hi;cases hi
  ·rw [kne i e];exact hm.lent i hi
 ·show Rel κ' w _ (Zdy (joiT j F vs.size T) t) _
  rw [Zvv,hκ']
  rw [hκ'] at hkeep
  exact ((hr t).keep hkeep fun _ _=>rfl).joi e1
def famCk (lent:List Nat) (T:List (Nat×AV)) (O:List (Nat×Ob)) (i:Nat):Bool:=Zhr T O i&& !(lent.contains i)
theorem aw_fam {P:Program} {B:Base} {nt:Nat} {lent:List Nat} {T:List (Nat×AV)} {O:List (Nat×Ob)} {c:Code} {Q:Exit→Act→World→Prop} (hB:∀i,B.bo i=lent.contains i) (i sz:Nat) (m:Nat→Nat) (g:Nat→Nat→List AV) (hck:famCk lent T O i=true)
  (h:AW P B nt c (mkS T ((i,.fam 0 sz m g)::O)) Q):AW P B nt c (mkS T O) Q:=fun a w hs=>by
 simp only [famCk,Bool.and_eq_true,Bool.not_eq_true'] at hck
 exact h a w (hs.fam0 i sz m g hck.1 (by rw [hB];exact hck.2))
theorem ae_join {B:Base} {nt:Nat} {lent:List Nat} {T:List (Nat×AV)} {O:List (Nat×Ob)} {e:Exit} {Q:Exit→Act→World→Prop} (hB:∀i,B.bo i=lent.contains i) (j F:Nat) {N sz n:Nat} {f:Nat→List AV} {m:Nat→Nat} {g:Nat→Nat→List AV}
  (hj:Zac O j=some (.arr sz n f)) (hF:Zac O F=some (.fam N sz m g)) (hck:(!(lent.contains j)&& !(lent.contains F))=true)
  (h:AE B nt e (mkS (joiT j F N T) ((F,.fam (N+1) sz (Zig N n m) (Zff N f g))::Zuv j F N O)) Q):AE B nt e (mkS T O) Q:=fun a w hs=>by
 simp only [Bool.and_eq_true,Bool.not_eq_true'] at hck
 exact h a w (hs.join j F N sz n f m g hj hF (by rw [hB];exact hck.1) (by rw [hB];exact hck.2))
end Go.Proofs.YtnlfghpgfjlblaaDoor.Ax
