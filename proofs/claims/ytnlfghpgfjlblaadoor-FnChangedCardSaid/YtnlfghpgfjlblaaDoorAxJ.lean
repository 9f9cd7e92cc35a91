/- The abstract run: one operation in a frame; a region in any order that its edges allow. Plain lemmas on the model. No conditions. -/
import Derived.Test.YtnlfghpgfjlblaaDoorAxI
import Derived.Orders
namespace Go.Proofs.YtnlfghpgfjlblaaDoor.Ax
open Go.RowKit
set_option linter.unusedVariables false
set_option linter.unusedSimpArgs false
def Zhz (ops:Array Oper) (o:Oper) (σ:St):Option Bool:=
 match o.guard with
 |none=>some true
 |some (j,want)=>match (ops[j]?).bind (·.dst) with
  |some t=>match σ.tm t with
   | .val (.bool b)=>some (b==want)
   | .val (.tuple _)=>some false
   |_=>none
  |none=>none
def evR (ops:Array Oper) (o:Oper) (σ:St):Operand→AV
 | .tmp t=>bif (o.looksAt ops).contains t then σ.tm t else .any
 | .const v=> .val v
 | .global g=> .val (.pointer (some ⟨g,0,none⟩))
 | .func f=> .fn f []
def Zsp (ob:Nat→Option Ob) (l:List Nat):List Nat:=l++l.flatMap fun i=>match ob i with
 |some o=>o.ids
 |none=>[]
theorem Zmd {ob ob':Nat→Option Ob} {l:List Nat} (h:∀n∈l,ob' n=ob n):Zsp ob' l=Zsp ob l:=by
 unfold Zsp
 congr 1
 induction l with
 |nil=>rfl
 |cons a r ih=>simp only [List.flatMap_cons,h a (by simp),ih fun n hn=>h n (by simp [hn])]
def Zfp (ob:Nat→Option Ob) (op:Op) (an:Ans) (ev:Operand→AV):List Nat:=an.news++match op with
 | .load _ a=>(ev a).ids
 | .store _ a _=>(ev a).ids
 | .indexAddr _ x _=>(ev x).ids
 | .slice _ x _ _ _=>(ev x).ids
 | .convert _ _ x=>(ev x).ids
 | .lookup _ x _ _=>(ev x).ids
 | .mapUpdate _ m _ _=>(ev m).ids
 | .next it _=>(ev it).ids
 | .call c=>match c.callee with
  | .builtin .len=>AV.idsL (c.args.toList.map ev)
  |_=>Zsp ob (Zsp ob (AV.idsL (c.args.toList.map ev)++(match c.callee with| .value f=>(ev f).ids|_=>[])))
 |_=>[]
theorem Zkj {ob ob':Nat→Option Ob} {l m:List Nat} (h:∀n∈m++Zsp ob (Zsp ob l),ob' n=ob n):Zsp ob' (Zsp ob' l)=Zsp ob (Zsp ob l):=by
 have h1:∀n∈Zsp ob l,ob' n=ob n:=fun n hn=>h n (List.mem_append_right _ (List.mem_append_left _ hn))
 have e1:Zsp ob' l=Zsp ob l:=Zmd fun n hn=>h1 n (List.mem_append_left _ hn)
 rw [e1]
 exact Zmd h1
theorem Zpq {ob ob':Nat→Option Ob} {op:Op} {an:Ans} {ev:Operand→AV} (h:∀n∈Zfp ob op an ev,ob' n=ob n):Zfp ob' op an ev=Zfp ob op an ev:=by
 unfold Zfp at h⊢
 congr 1
 cases op with
 |call c=>
  cases hc:c.callee with
  |builtin b=>cases b<;>simp only [hc] at h⊢<;>exact Zkj h
  |_=>simp only [hc] at h⊢;exact Zkj h
 |_=>rfl
def obR (σ:St) (foot:List Nat):Nat→Option Ob:=fun i=>bif foot.contains i then σ.ob i else none
def St.app (σ:St) (o:Oper) (u:Out):St:=
 ⟨fun t=>match o.dst with
  |some d=>bif Nat.beq t d then u.r else σ.tm t
  |none=>σ.tm t,Zce σ.ob u.wr⟩
def Zpr (P:Program) (lent:List Nat) (ops:Array Oper) (o:Oper) (an:Ans) (σ:St):Option Out:=
 match Zhz ops o σ with
 |some true=>opRun P lent o.op an (evR ops o σ) (obR σ (Zfp σ.ob o.op an (evR ops o σ)))
 |some false=>some {r:= .val undef}
 |none=>none
def NoId (n:Nat) (σ:St):Prop:=σ.ob n=none∧(∀t,n∉(σ.tm t).ids)∧∀j o,σ.ob j=some o→n∉o.ids
theorem obR_sub {σ:St} {foot:List Nat} {i:Nat} {o:Ob} (h:obR σ foot i=some o):σ.ob i=some o:=by
 unfold obR at h
 revert h
 cases foot.contains i
 ·intro h;cases h
 ·intro h;exact h
theorem Zvx {ops:Array Oper} {o:Oper} {σ:St} {b:Bool} (h:Zhz ops o σ=some b) {B:Base} {nt:Nat} {a:Act} {w:World} (hs:Sim B nt σ a w):Region.wanted o (yielded ops a.tmps)=b:=by
 unfold Zhz at h
 unfold Region.wanted
 split at h
 ·rename_i hg;rw [hg];cases h;rfl
 ·rename_i j want hg
  rw [hg]
  split at h
  ·rename_i t ht
   split at h
   ·rename_i b' hb
    cases h
    obtain ⟨κ,hm,hr⟩:=hs.ex
    have:=hr t
    rw [hb] at this
    have hv:=this.val_of
    have hin:a.tmps[t]? =some (.bool b'):=by
     by_cases hlt:t<a.tmps.size
     ·simp only [Array.getD_eq_getD_getElem?,Array.getElem?_eq_getElem hlt,Option.getD_some] at hv
      rw [Array.getElem?_eq_getElem hlt,hv]
     ·simp [Array.getElem?_eq_none (Nat.le_of_not_lt hlt),undef] at hv
    simp [yielded,ht,hin]
   ·rename_i vs hb
    cases h
    obtain ⟨κ,hm,hr⟩:=hs.ex
    have:=hr t
    rw [hb] at this
    have hv:=this.val_of
    have hin:yielded ops a.tmps j=none:=by
     by_cases hlt:t<a.tmps.size
     ·simp only [Array.getD_eq_getD_getElem?,Array.getElem?_eq_getElem hlt,Option.getD_some] at hv
      simp [yielded,ht,Array.getElem?_eq_getElem hlt,hv]
     ·simp [yielded,ht,Array.getElem?_eq_none (Nat.le_of_not_lt hlt)]
    simp [hin]
   ·cases h
  ·cases h
theorem ev_rel {ops:Array Oper} {o:Oper} {σ:St} {B:Base} {κ:Nat→Value} {w:World} {S:Bool→Nat→Prop} {a:Act} (hr:∀t,Rel κ w S (σ.tm t) (a.tmps.getD t undef)) (x:Operand):Rel κ w S (evR ops o σ x) (a.eval x):=by
 cases x with
 |tmp t=>
  simp only [evR,Act.eval]
  cases (o.looksAt ops).contains t
  ·exact .tree _ _ (.any _)
  ·exact hr t
 |const v=>exact Rel.of_val v
 |global g=>exact Rel.of_val _
 |func f=>exact .fn f [] #[] rfl fun i a v h=>by simp at h
theorem step_ok {P:Program} {lent:List Nat} {ops:Array Oper} {o:Oper} {an:Ans} {σ:St} {u:Out} (hu:Zpr P lent ops o an σ=some u) (hc:u.cond) {B:Base} {nt:Nat} (hB:∀i,B.bo i=lent.contains i) {a:Act} {w:World} (hs:Sim B nt σ a w)
  (hn:∀n∈an.news,lent.contains n=false∧NoId n σ) (hd:∀d,o.dst=some d→d<nt) {i:Nat} (hi:ops[i]? =some o) {Q:Exit→Act→World→Prop} {K:Act→World→Prop} (hK:∀a' w',Sim B nt (σ.app o u) a' w'→K a' w'):
  wpOp P ops Q i K a w:=by
 obtain ⟨h1,h2,κ,hm,hr⟩:=hs
 have hput:∀v:Value,(a.put o.dst v).defers=[]∧(a.put o.dst v).tmps.size=nt:=fun v=>by
  cases o.dst<;>simp [Act.put,h1,h2]
 have hget:∀(v:Value) t,(a.put o.dst v).tmps.getD t undef=if o.dst=some t then v else a.tmps.getD t undef:=fun v t=>by
  cases ho:o.dst with
  |none=>simp [Act.put]
  |some d=>
   have hdn:=hd d ho
   by_cases e:d=t
   ·subst e;simp [Act.put,Array.getElem?_setIfInBounds,h2,hdn]
   ·simp [Act.put,Array.getElem?_setIfInBounds_ne e,e]
 have htm:∀t,(σ.app o u).tm t=if o.dst=some t then u.r else σ.tm t:=fun t=>by
  cases ho:o.dst with
  |none=>simp [St.app,ho]
  |some d=>
   by_cases e:d=t
   ·subst e;simp [St.app,ho]
   ·have:Nat.beq t d=false:=Bool.eq_false_iff.2 fun h=>e (Nat.eq_of_beq_eq_true h).symm
    simp [St.app,ho,this,e]
 have hwant:=fun b (hb:Zhz ops o σ=some b)=>Zvx hb (B:=B) (nt:=nt) (a:=a) (w:=w) ⟨h1,h2,κ,hm,hr⟩
 unfold wpOp
 simp only [hi]
 unfold Zpr at hu
 split at hu
 ·rename_i hw
  rw [if_pos (hwant _ hw)]
  left
  have hok:=op_ok (P:=P) (lent:=lent) hu hc hm (fun i o h=>obR_sub h) hB (fun n hn'=>⟨(hn n hn').2.1,by rw [hB];exact (hn n hn').1,(hn n hn').2.2.2⟩) (fun x=>ev_rel (B:=B) hr x)
  refine hok.wp fun v w' ⟨κ',g1,g2,g3,g4⟩=>hK _ _ ⟨(hput v).1,(hput v).2,κ',g2,fun t=> ?_⟩
  rw [htm,hget]
  by_cases e:o.dst=some t
  ·rw [if_pos e,if_pos e];exact g3
  ·rw [if_neg e,if_neg e]
   exact (hr t).keep g4 fun j hj=>g1 j fun hj'=>(hn j hj').2.2.1 t hj
 ·rename_i hw
  rw [if_neg (by rw [hwant _ hw];simp)]
  cases hu
  refine hK _ _ ⟨(hput _).1,(hput _).2,κ,hm,fun t=> ?_⟩
  rw [htm,hget]
  by_cases e:o.dst=some t
  ·rw [if_pos e,if_pos e];exact .tree _ _ (.val _)
  ·rw [if_neg e,if_neg e];exact hr t
 ·cases hu
def runL (P:Program) (lent:List Nat) (ops:Array Oper) (ans:Nat→Ans):Nat→List Oper→St→Option (List Out)
 |_,[],_=>some []
 |k,o::r,σ=>match Zpr P lent ops o (ans k) σ with
  |some u=>match runL P lent ops ans (k+1) r (σ.app o u) with
   |some us=>some (u::us)
   |none=>none
  |none=>none
def Zgo (σ:St):List Oper→List Out→Nat→St
 |o::l,u::us,m+1=>Zgo (σ.app o u) l us m
 |_,_,_=>σ
theorem Zgw (σ:St) (l:List Oper) (us:List Out):Zgo σ l us 0=σ:=by cases l<;>cases us<;>rfl
theorem Znf {P:Program} {lent:List Nat} {ops:Array Oper} {ans:Nat→Ans} :∀(l:List Oper) (k:Nat) (σ:St) (us:List Out),runL P lent ops ans k l σ=some us→us.length=l.length∧
  ∀m o,l[m]? =some o→∃u,us[m]? =some u∧Zpr P lent ops o (ans (k+m)) (Zgo σ l us m)=some u∧Zgo σ l us (m+1)=(Zgo σ l us m).app o u:=by
 intro l
 induction l with
 |nil=>intro k σ us h;simp only [runL,Option.some.injEq] at h;subst h;exact ⟨rfl,fun m o h=>by simp at h⟩
 |cons o l ih=>
  intro k σ us h
  simp only [runL] at h
  split at h
  ·rename_i u hu
   split at h
   ·rename_i us' hus
    cases h
    obtain ⟨h1,h2⟩:=ih _ _ _ hus
    refine ⟨by simp [h1],fun m o' hm=> ?_⟩
    cases m with
    |zero=>
     simp at hm
     subst hm
     exact ⟨u,rfl,by rw [Zgw];simpa using hu,by simp [Zgo,Zgw]⟩
    |succ m=>
     obtain ⟨u',a1,a2,a3⟩:=h2 m o' (by simpa using hm)
     refine ⟨u',by simpa using a1,?_,by simp only [Zgo];exact a3⟩
     simp only [Zgo]
     rw [←a2]
     congr 2
     omega
   ·cases h
  ·cases h
structure Inf where
 dst:Option Tmp
 looks:List Tmp
 foot:List Nat
 wids:List Nat
 news:List Nat
 rids:List Nat
def Zlq:List (Nat×Option Ob)→List Nat
 | []=>[]
 |(i,some o)::r=>i::o.ids++Zlq r
 |(i,none)::r=>i::Zlq r
def Zgx (ops:Array Oper) (o:Oper) (an:Ans) (σ:St) (u:Out):Inf:=
 {dst:=o.dst,looks:=o.looksAt ops,foot:=Zfp σ.ob o.op an (evR ops o σ),wids:=u.wr.map (·.1),news:=an.news,rids:=u.r.ids++Zlq u.wr}
def Zlo (ops:Array Oper) (ans:Nat→Ans):Nat→List Oper→List Out→St→List Inf
 |k,o::l,u::us,σ=>Zgx ops o (ans k) σ u::Zlo ops ans (k+1) l us (σ.app o u)
 |_,_,_,_=>[]
theorem Zvy {ops:Array Oper} {ans:Nat→Ans} :∀(l:List Oper) (us:List Out) (k:Nat) (σ:St),us.length=l.length→∀(m:Nat) (o:Oper) (u:Out),l[m]? =some o→us[m]? =some u→(Zlo ops ans k l us σ)[m]? =some (Zgx ops o (ans (k+m)) (Zgo σ l us m) u):=by
 intro l
 induction l with
 |nil=>intro us k σ hl m o u h;simp at h
 |cons o l ih=>
  intro us k σ hl m o' u' h1 h2
  cases us with
  |nil=>simp at h2
  |cons u us=>
   cases m with
   |zero=>simp at h1 h2;subst h1 h2;simp [Zlo,Zgw]
   |succ m=>
    have:=ih us (k+1) (σ.app o u) (by simpa using hl) m o' u' (by simpa using h1) (by simpa using h2)
    simp only [Zlo,List.getElem?_cons_succ,this,Zgo]
    congr 3
    omega
def Zil (a b:List Nat):Bool:=a.any fun x=>b.any fun y=>Nat.beq x y
theorem Zfh {a b:List Nat} (h:Zil a b=false) {x:Nat} (ha:x∈a) (hb:x∈b):False:=by
 unfold Zil at h
 rw [List.any_eq_false] at h
 exact h x ha (List.any_eq_true.2 ⟨x,hb,by simp⟩)
def Zhy (x y:Inf):Bool:=
 Zil x.dst.toList y.looks||Zil y.dst.toList x.looks||Zil x.dst.toList y.dst.toList||Zil x.wids y.foot||Zil y.wids x.foot||Zil x.wids y.wids||Zil x.news y.foot||Zil x.news y.rids
def Zne (x y:Inf):Bool:= !(Zil y.news x.foot)&& !(Zil y.news x.rids)
theorem Zfq {a b:List Nat} {x:Nat} (ha:x∈a) (hb:x∈b):Zil a b=true:=by
 cases h:Zil a b with
 |true=>rfl
 |false=>exact (Zfh h ha hb).elim
theorem Zsq {ob ob':Nat→Option Ob} :∀ {wr:List (Nat×Option Ob)} {n:Nat},n∈wr.map (·.1)→Zce ob wr n=Zce ob' wr n
 |(j,o)::r,n,h=>by
  simp only [Zce]
  cases hb:Nat.beq n j with
  |true=>rfl
  |false=>
   simp only [cond_false]
   simp only [List.map_cons,List.mem_cons] at h
   rcases h with h|h
   ·rw [h] at hb;simp at hb
   ·exact Zsq h
theorem Zik {ob:Nat→Option Ob} :∀ {wr:List (Nat×Option Ob)} {n:Nat},n∉wr.map (·.1)→Zce ob wr n=ob n
 | [],n,_=>rfl
 |(j,o)::r,n,h=>by
  simp only [List.map_cons,List.mem_cons,not_or] at h
  have:Nat.beq n j=false:=Bool.eq_false_iff.2 fun e=>h.1 (Nat.eq_of_beq_eq_true e)
  simp only [Zce,this,cond_false]
  exact Zik h.2
theorem Zng {ob:Nat→Option Ob} {n:Nat} :∀ {wr:List (Nat×Option Ob)} {j:Nat} {o:Ob},n∉Zlq wr→Zce ob wr j=some o→n∉o.ids∨ob j=some o
 | [],j,o,_,h=> .inr h
 |(i,oi)::r,j,o,hn,h=>by
  simp only [Zce] at h
  cases hb:Nat.beq j i with
  |true=>
   simp only [hb,cond_true] at h
   subst h
   simp only [Zlq,List.cons_append,List.mem_cons,List.mem_append,not_or] at hn
   exact .inl hn.2.1
  |false=>
   simp only [hb,cond_false] at h
   cases oi with
   |none=>simp only [Zlq,List.mem_cons,not_or] at hn;exact Zng hn.2 h
   |some oi=>simp only [Zlq,List.cons_append,List.mem_cons,List.mem_append,not_or] at hn;exact Zng hn.2.2 h
theorem Zrb {P:Program} {lent:List Nat} {ops:Array Oper} {o:Oper} {an:Ans} {σ τ:St} (ht:∀t∈o.looksAt ops,τ.tm t=σ.tm t) (ho:∀n∈Zfp σ.ob o.op an (evR ops o σ),τ.ob n=σ.ob n):
  Zpr P lent ops o an τ=Zpr P lent ops o an σ:=by
 have hev:evR ops o τ=evR ops o σ:=by
  funext x
  cases x with
  |tmp t=>
   simp only [evR]
   cases hb:(o.looksAt ops).contains t with
   |false=>rfl
   |true=>simp only [cond_true];exact ht t (by simpa using hb)
  |_=>rfl
 have hft:Zfp τ.ob o.op an (evR ops o σ)=Zfp σ.ob o.op an (evR ops o σ):=Zpq ho
 have hob:obR τ (Zfp σ.ob o.op an (evR ops o σ))=obR σ (Zfp σ.ob o.op an (evR ops o σ)):=by
  funext n
  simp only [obR]
  cases hb:(Zfp σ.ob o.op an (evR ops o σ)).contains n with
  |false=>rfl
  |true=>simp only [cond_true];exact ho n (by simpa using hb)
 have hw:Zhz ops o τ=Zhz ops o σ:=by
  unfold Zhz
  cases hg:o.guard with
  |none=>rfl
  |some gw=>
   obtain ⟨j,want⟩:=gw
   simp only
   cases hd:(ops[j]?).bind (·.dst) with
   |none=>rfl
   |some t=>simp only;rw [ht t (List.mem_append_right _ (by simp [hg,hd]))]
 unfold Zpr
 rw [hw,hev,hft,hob]
section region
variable {P : Program} {lent : List Nat} {l : List Oper} {ans : Nat → Ans} {σ : St} {us : List Out} {B : Base} {nt : Nat}
def Agree (l:List Oper) (ans:Nat→Ans) (σ:St) (us:List Out) (L:Nat→Prop) (τ:St):Prop:=
 (∀t m,m≤l.length→(∀j o,l[j]? =some o→o.dst=some t→(L j↔j<m))→τ.tm t=(Zgo σ l us m).tm t)∧
 ∀n m,m≤l.length→(∀j u,us[j]? =some u→n∈u.wr.map (·.1)→(L j↔j<m))→τ.ob n=(Zgo σ l us m).ob n
def Inv (l:List Oper) (ans:Nat→Ans) (σ:St) (us:List Out) (B:Base) (nt:Nat) (L:Nat→Prop) (a:Act) (w:World):Prop:=
 ∃τ,Agree l ans σ us L τ∧Sim B nt τ a w∧∀j,j<l.length→¬ L j→∀n∈(ans j).news,NoId n τ
structure RegOk (P:Program) (lent:List Nat) (l:List Oper) (ans:Nat→Ans) (σ:St) (us:List Out) (nt:Nat):Prop where
 run:runL P lent l.toArray ans 0 l σ=some us
 cond:∀u∈us,u.cond
 dst:∀o∈l,∀d,o.dst=some d→d<nt
 lent:∀j,j<l.length→∀n∈(ans j).news,lent.contains n=false
 news:∀(i j:Nat) (x y:Inf),i<j→(Zlo l.toArray ans 0 l us σ)[i]? =some x→(Zlo l.toArray ans 0 l us σ)[j]? =some y→Zne x y=true
theorem Zsn (h:RegOk P lent l ans σ us nt) (hB:∀i,B.bo i=lent.contains i) {L:Nat→Prop} {i:Nat} (hi:i<l.length) (hLi:¬ L i)
  (hc1:∀(j:Nat) (x y:Inf),j<i→(Zlo l.toArray ans 0 l us σ)[j]? =some x→(Zlo l.toArray ans 0 l us σ)[i]? =some y→Zhy x y=true→L j)
  (hc2:∀(j:Nat) (x y:Inf),i<j→(Zlo l.toArray ans 0 l us σ)[i]? =some x→(Zlo l.toArray ans 0 l us σ)[j]? =some y→Zhy x y=true→¬ L j)
  {a:Act} {w:World} (hI:Inv l ans σ us B nt L a w) {Q:Exit→Act→World→Prop} {K:Act→World→Prop} (hK:∀a' w',Inv l ans σ us B nt (fun j=>L j∨j=i) a' w'→K a' w'):wpOp P l.toArray Q i K a w:=by
 obtain ⟨hlen,hat⟩:=Znf l 0 σ us h.run
 have ho:l[i]? =some l[i]:=List.getElem?_eq_getElem hi
 obtain ⟨u,hu,hrun,hnext⟩:=hat i l[i] ho
 simp only [Nat.zero_add] at hrun
 have hinf:=Zvy (ops:=l.toArray) (ans:=ans) l us 0 σ hlen i l[i] u ho hu
 simp only [Nat.zero_add] at hinf
 have hinfj:∀j (hj:j<l.length),∃uj,us[j]? =some uj∧(Zlo l.toArray ans 0 l us σ)[j]? =some (Zgx l.toArray l[j] (ans j) (Zgo σ l us j) uj):=fun j hj=>by
  have hoj:l[j]? =some l[j]:=List.getElem?_eq_getElem hj
  obtain ⟨uj,a1,_,_⟩:=hat j l[j] hoj
  have:=Zvy (ops:=l.toArray) (ans:=ans) l us 0 σ hlen j l[j] uj hoj a1
  simp only [Nat.zero_add] at this
  exact ⟨uj,a1,this⟩
 obtain ⟨τ,⟨hA1,hA2⟩,hS,hN⟩:=hI
 -- a writer that stands in the way
 have hwr:∀j o t,l[j]? =some o→o.dst=some t→(t∈l[i].looksAt l.toArray∨l[i].dst=some t)→j≠i→(L j↔j<i):=by
  intro j o t hj hdt hcase hne
  obtain ⟨hjl,rfl⟩:=List.getElem?_eq_some_iff.1 hj
  obtain ⟨uj,huj,hij⟩:=hinfj j hjl
  rcases Nat.lt_or_gt_of_ne hne with hlt|hgt
  ·refine ⟨fun _=>hlt,fun _=>hc1 j _ _ hlt hij hinf ?_⟩
   rcases hcase with hc|hc
   ·simp [Zhy,Zgx,hdt,Zfq (a:=[t]) (x:=t) (by simp) hc]
   ·simp [Zhy,Zgx,hdt,hc,Zfq (a:=[t]) (b:=[t]) (x:=t) (by simp) (by simp)]
  ·refine ⟨fun hL=>absurd hL (hc2 j _ _ hgt hinf hij ?_),fun h=>by omega⟩
   rcases hcase with hc|hc
   ·simp [Zhy,Zgx,hdt,Zfq (a:=[t]) (x:=t) (by simp) hc]
   ·simp [Zhy,Zgx,hdt,hc,Zfq (a:=[t]) (b:=[t]) (x:=t) (by simp) (by simp)]
 have hwo:∀j uj n,us[j]? =some uj→n∈uj.wr.map (·.1)→(n∈Zfp (Zgo σ l us i).ob l[i].op (ans i) (evR l.toArray l[i] (Zgo σ l us i))∨n∈u.wr.map (·.1))→j≠i→(L j↔j<i):=by
  intro j uj n huj hn hcase hne
  have hjl:j<l.length:=by rw [←hlen];exact (List.getElem?_eq_some_iff.1 huj).1
  obtain ⟨uj',huj',hij⟩:=hinfj j hjl
  rw [huj] at huj'
  cases huj'
  rcases Nat.lt_or_gt_of_ne hne with hlt|hgt
  ·refine ⟨fun _=>hlt,fun _=>hc1 j _ _ hlt hij hinf ?_⟩
   rcases hcase with hc|hc
   ·simp only [Zhy,Zgx,Zfq hn hc,Bool.or_true,Bool.true_or]
   ·simp only [Zhy,Zgx,Zfq hn hc,Bool.or_true,Bool.true_or]
  ·refine ⟨fun hL=>absurd hL (hc2 j _ _ hgt hinf hij ?_),fun h=>by omega⟩
   rcases hcase with hc|hc
   ·simp only [Zhy,Zgx,Zfq hn hc,Bool.or_true,Bool.true_or]
   ·simp only [Zhy,Zgx,Zfq hc hn,Bool.or_true,Bool.true_or]
 have hag:Zpr P lent l.toArray l[i] (ans i) τ=some u:=by
  rw [←hrun]
  refine Zrb (fun t ht=>hA1 t i (by omega) fun j o hj hdt=> ?_) fun n hn=>hA2 n i (by omega) fun j uj huj hnj=> ?_
  ·by_cases e:j=i
   ·subst e;exact ⟨fun h=>absurd h hLi,fun h=>by omega⟩
   ·exact hwr j o t hj hdt (.inl ht) e
  ·by_cases e:j=i
   ·subst e;exact ⟨fun h=>absurd h hLi,fun h=>by omega⟩
   ·exact hwo j uj n huj hnj (.inl hn) e
 refine step_ok hag (h.cond u (List.mem_of_getElem? hu)) hB hS (fun n hn=>⟨h.lent i hi n hn,hN i hi hLi n hn⟩) (fun d hd=>h.dst _ (List.getElem_mem hi) d hd) (by simp) fun a' w' hS'=>hK a' w' ⟨τ.app l[i] u,⟨?_,?_⟩,hS',?_⟩
 ·intro t m hm hw
  by_cases e:l[i].dst=some t
  ·have him:i<m:=(hw i _ ho e).1 (.inr rfl)
   have hconst:∀d,i+1+d≤m→(Zgo σ l us (i+1+d)).tm t=u.r:=by
    intro d
    induction d with
    |zero=>intro _;rw [Nat.add_zero,hnext];simp [St.app,e]
    |succ d ih=>
     intro hd
     have hjl:i+1+d<l.length:=by omega
     obtain ⟨uj,a1,a2,a3⟩:=hat (i+1+d) _ (List.getElem?_eq_getElem hjl)
     rw [←Nat.add_assoc,a3]
     have hnd:l[i+1+d].dst≠some t:=fun e'=>by
      have h1:=(hw _ _ (List.getElem?_eq_getElem hjl) e').2 (by omega)
      rcases h1 with h1|h1
      ·have:=(hwr _ _ t (List.getElem?_eq_getElem hjl) e' (.inr e) (by omega)).1 h1
       omega
      ·omega
     have:((Zgo σ l us (i+1+d)).app l[i+1+d] uj).tm t=(Zgo σ l us (i+1+d)).tm t:=by
      cases hdo:l[i+1+d].dst with
      |none=>simp [St.app,hdo]
      |some d'=>
       have:Nat.beq t d'=false:=Bool.eq_false_iff.2 fun e'=>hnd (by rw [hdo,Nat.eq_of_beq_eq_true e'])
       simp [St.app,hdo,this]
     rw [this]
     exact ih (by omega)
   have:=hconst (m-(i+1)) (by omega)
   rw [show i+1+(m-(i+1))=m by omega] at this
   rw [this]
   simp [St.app,e]
  ·have h1:=hA1 t m hm fun j o hj hdt=>by
    have:=hw j o hj hdt
    have hne:j≠i:=fun e'=>by subst e';rw [ho] at hj;cases hj;exact e hdt
    exact ⟨fun hL=>this.1 (.inl hL),fun hlt=>(this.2 hlt).resolve_right hne⟩
   rw [←h1]
   cases hdo:l[i].dst with
   |none=>simp [St.app,hdo]
   |some d'=>
    have:Nat.beq t d'=false:=Bool.eq_false_iff.2 fun e'=>e (by rw [hdo,Nat.eq_of_beq_eq_true e'])
    simp [St.app,hdo,this]
 ·intro n m hm hw
  by_cases e:n∈u.wr.map (·.1)
  ·have him:i<m:=(hw i _ hu e).1 (.inr rfl)
   have hconst:∀d,i+1+d≤m→(Zgo σ l us (i+1+d)).ob n=Zce τ.ob u.wr n:=by
    intro d
    induction d with
    |zero=>intro _;rw [Nat.add_zero,hnext];exact Zsq e
    |succ d ih=>
     intro hd
     have hjl:i+1+d<l.length:=by omega
     obtain ⟨uj,a1,a2,a3⟩:=hat (i+1+d) _ (List.getElem?_eq_getElem hjl)
     rw [←Nat.add_assoc,a3]
     have hnd:n∉uj.wr.map (·.1):=fun e'=>by
      have h1:=(hw _ _ a1 e').2 (by omega)
      rcases h1 with h1|h1
      ·have:=(hwo _ _ n a1 e' (.inr e) (by omega)).1 h1
       omega
      ·omega
     show Zce (Zgo σ l us (i+1+d)).ob uj.wr n=_
     rw [Zik hnd]
     exact ih (by omega)
   have:=hconst (m-(i+1)) (by omega)
   rw [show i+1+(m-(i+1))=m by omega] at this
   rw [this]
   rfl
  ·have h1:=hA2 n m hm fun j uj huj hnj=>by
    have:=hw j uj huj hnj
    have hne:j≠i:=fun e'=>by subst e';rw [hu] at huj;cases huj;exact e hnj
    exact ⟨fun hL=>this.1 (.inl hL),fun hlt=>(this.2 hlt).resolve_right hne⟩
   rw [←h1]
   exact Zik e
 ·intro j hjl hLj n hn
  have hLj':¬ L j:=fun h=>hLj (.inl h)
  have hne:j≠i:=fun h=>hLj (.inr h)
  obtain ⟨n1,n2,n3⟩:=hN j hjl hLj' n hn
  obtain ⟨uj,huj,hij⟩:=hinfj j hjl
  -- n is not among what i touches
  have hnot:n∉Zfp (Zgo σ l us i).ob l[i].op (ans i) (evR l.toArray l[i] (Zgo σ l us i))∧n∉u.r.ids++Zlq u.wr:=by
   rcases Nat.lt_or_gt_of_ne hne with hlt|hgt
   ·have hcl:Zhy (Zgx l.toArray l[j] (ans j) (Zgo σ l us j) uj) (Zgx l.toArray l[i] (ans i) (Zgo σ l us i) u)=false:=by
     cases hcc:Zhy (Zgx l.toArray l[j] (ans j) (Zgo σ l us j) uj) (Zgx l.toArray l[i] (ans i) (Zgo σ l us i) u) with
     |false=>rfl
     |true=>exact absurd (hc1 j _ _ hlt hij hinf hcc) hLj'
    simp only [Zhy,Zgx,Bool.or_eq_false_iff] at hcl
    exact ⟨fun hf=>Zfh hcl.1.2 hn hf,fun hf=>Zfh hcl.2 hn hf⟩
   ·have:=h.news i j _ _ hgt hinf hij
    simp only [Zne,Zgx,Bool.and_eq_true,Bool.not_eq_true'] at this
    exact ⟨fun hf=>Zfh this.1 hn hf,fun hf=>Zfh this.2 hn hf⟩
  obtain ⟨hnf,hnr⟩:=hnot
  simp only [List.mem_append,not_or] at hnr
  have hwn:n∉u.wr.map (·.1):=fun hf=>hnr.2 (by
   have:∀(wr:List (Nat×Option Ob)),n∈wr.map (·.1)→n∈Zlq wr:=by
    intro wr
    induction wr with
    |nil=>intro h;simp at h
    |cons p wr ih=>
     intro h
     obtain ⟨q,oq⟩:=p
     simp only [List.map_cons,List.mem_cons] at h
     cases oq<;>simp only [Zlq,List.cons_append,List.mem_cons,List.mem_append]
     ·exact h.imp id ih
     ·rcases h with h|h
      ·exact .inl h
      ·exact .inr (.inr (ih h))
   exact this _ hf)
  refine ⟨by show Zce τ.ob u.wr n=none;rw [Zik hwn];exact n1,fun t=> ?_,fun q o hq=> ?_⟩
  ·show n∉(match l[i].dst with|some d=>bif Nat.beq t d then u.r else τ.tm t|none=>τ.tm t).ids
   cases l[i].dst with
   |none=>exact n2 t
   |some d=>
    cases hb:Nat.beq t d with
    |true=>simp only [hb,cond_true];exact hnr.1
    |false=>simp only [hb,cond_false];exact n2 t
  ·rcases Zng hnr.2 hq with h1|h1
   ·exact h1
   ·exact n3 q o h1
end region
end Go.Proofs.YtnlfghpgfjlblaaDoor.Ax
