/- Tables: an array of nil slices becomes an array of rows, and a new array takes the place of a row. Plain lemmas on the model. No conditions. -/
import Derived.Test.YtfafngbbaplknaaAxO
import Derived.Test.YtfafngbbaplknaaAxP
namespace Go.Proofs.Ytfafngbbaplknaa.Ax
open Go.RowKit
set_option linter.unusedVariables false
set_option linter.unusedSimpArgs false
def rmO (j F i:Nat):List (Nat×Ob)→List (Nat×Ob)
 | []=>[]
 |(k,o)::r=>bif Nat.beq k j||(Nat.beq k F||Nat.beq k i) then rmO j F i r else (k,o)::rmO j F i r
theorem Zuj {j F i:Nat} :∀ {O:List (Nat×Ob)} {k:Nat} {o:Ob},Zac (rmO j F i O) k=some o→(k≠j∧k≠F∧k≠i)∧Zac O k=some o
 | [],k,o,h=>by cases h
 |(q,oq)::r,k,o,h=>by
  simp only [rmO] at h
  cases hb:Nat.beq q j||(Nat.beq q F||Nat.beq q i) with
  |true=>
   rw [hb] at h
   obtain ⟨h1,h2⟩:=Zuj (O:=r) h
   refine ⟨h1,?_⟩
   have:Nat.beq k q=false:=by
    rw [Bool.eq_false_iff]
    intro e
    have e:=Nat.eq_of_beq_eq_true e
    subst e
    rcases Bool.or_eq_true_iff.1 hb with e|e
    ·exact h1.1 (Nat.eq_of_beq_eq_true e)
    ·rcases Bool.or_eq_true_iff.1 e with e|e
     ·exact h1.2.1 (Nat.eq_of_beq_eq_true e)
     ·exact h1.2.2 (Nat.eq_of_beq_eq_true e)
   simp [Zac,this,h2]
  |false=>
   rw [hb] at h
   simp only [cond_false,Zac] at h
   cases hk:Nat.beq k q with
   |true=>
    rw [hk] at h
    simp only [cond_true,Option.some.injEq] at h
    have e:=Nat.eq_of_beq_eq_true hk
    subst e
    rw [Bool.or_eq_false_iff,Bool.or_eq_false_iff] at hb
    exact ⟨⟨fun e=>by subst e;simp at hb,fun e=>by subst e;simp at hb,fun e=>by subst e;simp at hb⟩,by simp [Zac,h]⟩
   |false=>
    rw [hk] at h
    obtain ⟨h1,h2⟩:=Zuj (O:=r) h
    exact ⟨h1,by simp [Zac,hk,h2]⟩
def Zvx (j F:Nat) (l:List Nat):Bool:= !(l.contains j)&& !(l.contains F)
def Zmz (lent:List Nat) (T:List (Nat×AV)) (O:List (Nat×Ob)) (j F i:Nat):Bool:=
 (!(lent.contains j)&& !(lent.contains F))&&((T.all fun q=>Zvx j F q.2.ids)&&((rmO j F i O).all fun q=>Zvx j F q.2.ids))
theorem Zpk {lent:List Nat} {T:List (Nat×AV)} {O:List (Nat×Ob)} {j F i p:Nat} (h:Zmz lent T O j F i=true):Zmz lent [] O j F i=true∧∀t,Zvx j F (Zdb T t).ids=true∨∃q,Zdb T t= .row F q∧q≠p:=by
 simp only [Zmz,Bool.and_eq_true] at h
 refine ⟨by simp only [Zmz,Bool.and_eq_true];exact ⟨h.1,rfl,h.2.2⟩,fun t=> .inl ?_⟩
 rcases Zhh (T:=T) (t:=t) with e|e
 ·rw [e];rfl
 ·exact List.all_eq_true.1 h.2.1 _ e
theorem SS.ghost {B:Base} {κ κ':Nat→Value} {ob ob':Nat→Option Ob} {w:World} (hblk:∀k b,ob' k≠none→Blk (κ' k) b→∃k0,ob k0≠none∧Blk (κ k0) b∧(B.bo k=true∨B.bo k0=false)):∀fr b,SS B κ ob w fr b→w.heap[b]? =w.heap[b]? ∧SS B κ' ob' w fr b:=
 fun fr b hb=>⟨rfl,hb.1,hb.2.1,fun k hk hbk=>by obtain ⟨k0,h1,h2,_⟩:=hblk k b hk hbk;exact hb.2.2 k0 h1 h2⟩
theorem MS.ghost {B:Base} {κ κ':Nat→Value} {ob ob':Nat→Option Ob} {w:World} (h:MS B κ ob w) (hblk:∀k b,ob' k≠none→Blk (κ' k) b→∃k0,ob k0≠none∧Blk (κ k0) b∧(B.bo k=true∨B.bo k0=false))
  (hobj:∀k o,ob' k=some o→ObRel κ' w (SS B κ' ob' w) o (κ' k)) (hinj:∀k k2 b,ob' k≠none→ob' k2≠none→Blk (κ' k) b→Blk (κ' k2) b→k=k2) (hlent:∀k,B.bo k=true→κ' k=κ k):MS B κ' ob' w:=
 by
 refine ⟨h.kept,hobj,fun k b hk hb=> ?_,hinj,fun k hk=>(hlent k hk).trans (h.lent k hk),h.glob⟩
 obtain ⟨k0,h1,h2,h3⟩:=hblk k b hk hb
 have:=h.ownb k0 b h1 h2
 refine ⟨this.1,?_⟩
 rcases h3 with e|e
 ·exact .inr e
 ·rcases this.2 with q|q
  ·exact .inl q
  ·rw [e] at q;exact absurd q (by decide)
theorem RelT.empty {w:World} {S:Bool→Nat→Prop} {u:AV} {x:Value} (h:RelT w S u x) (he:Zkh u=true):∃A,x= .slice A 0 0:=by
 cases h with
 |val v=>
  unfold Zkh at he
  split at he
  ·rename_i e;cases e
  ·rename_i e;cases e;exact ⟨none,rfl⟩
  ·cases he
 |e0 A=>exact ⟨A,rfl⟩
 |any v=>cases he
 |agg=>cases he
 |tup=>cases he
 |fn=>cases he
 |sl=>cases he
 |sl0=>cases he
 |ptr=>cases he
 |nilq=>cases he
theorem Zxw {T:List (Nat×AV)} {O:List (Nat×Ob)} {i:Nat} (hf:Zhc T O i=true):(∀j o,Zac O j=some o→j≠i∧i∉o.ids)∧(∀s,i∉(Zdb T s).ids)∧Zac O i=none:=by
 simp only [Zhc,Bool.and_eq_true] at hf
 have hO:∀j o,Zac O j=some o→j≠i∧i∉o.ids:=fun j o ho=>by
  have:=List.all_eq_true.1 hf.1 (j,o) (Zcp ho)
  simp only [Bool.and_eq_true,Bool.not_eq_true'] at this
  exact ⟨fun e=>by subst e;simp at this,by simpa using this.2⟩
 refine ⟨hO,fun s=> ?_,?_⟩
 ·rcases Zhh (T:=T) (t:=s) with e|e
  ·rw [e];simp [AV.ids]
  ·have:=List.all_eq_true.1 hf.2 _ e
   simpa using this
 ·cases e:Zac O i with
  |none=>rfl
  |some o=>exact absurd rfl (hO i o e).1
def Zkl (lent:List Nat) (T:List (Nat×AV)) (O:List (Nat×Ob)) (j F i:Nat):Bool:=Zmz lent T O j F i&&O.all fun q=> !(Nat.beq q.1 j)
theorem Zuk {lent:List Nat} {T:List (Nat×AV)} {O:List (Nat×Ob)} {j F i p:Nat} (h:Zkl lent T O j F i=true):Zkl lent [] O j F i=true∧∀t,Zvx j F (Zdb T t).ids=true∨∃q,Zdb T t= .row F q∧q≠p:=by
 simp only [Zkl,Bool.and_eq_true] at h
 exact ⟨by simp only [Zkl,Bool.and_eq_true];exact ⟨(Zpk (p:=p) h.1).1,h.2⟩,(Zpk h.1).2⟩
section
variable {P : Program} {lent : List Nat} {nt : Nat} {R : Type} {Q : R → Base → Exit → Act → World → Prop} {Φ : R → Prop} {T : List (Nat × AV)} {O : List (Nat × Ob)}
end
theorem beqR {a b:Nat} (h:a≠b):Nat.beq a b=false:=Bool.eq_false_iff.2 fun e=>h (Nat.eq_of_beq_eq_true e)
theorem famUp_at (p n:Nat) (m:Nat→Nat):Zdv p n m p=n:=by simp [Zdv]
theorem famUp_ne {p q:Nat} (n:Nat) (m:Nat→Nat) (h:q≠p):Zdv p n m q=m q:=by simp [Zdv,beqR h]
theorem Zxy (p:Nat) (f:Nat→List AV) (g:Nat→Nat→List AV):Zcj p f g p=f:=by simp [Zcj]
theorem Zxz {p q:Nat} (f:Nat→List AV) (g:Nat→Nat→List AV) (h:q≠p):Zcj p f g q=g q:=by simp [Zcj,beqR h]
mutual
theorem AV.ren_nil:∀x:AV,x.ren (Zci [])=x
 | .agg cs=>by simp only [AV.ren];rw [AV.renL_nil cs]
 | .tup cs=>by simp only [AV.ren];rw [AV.renL_nil cs]
 | .fn f cs=>by simp only [AV.ren];rw [AV.renL_nil cs]
 | .ref i o=>rfl
 | .elt i s k j=>rfl
 | .arr i=>rfl
 | .row i p=>rfl
 | .relt i p s k j=>rfl
 | .mapr i=>rfl
 | .win i o n=>rfl
 | .any=>rfl
 | .val v=>rfl
 | .sl fr sz n f=>rfl
 | .e0=>rfl
 | .ptr fr cs=>rfl
 | .nilq n=>rfl
theorem AV.renL_nil:∀cs:List AV,AV.renL (Zci []) cs=cs
 | []=>rfl
 |x::r=>by simp only [AV.renL];rw [AV.ren_nil x,AV.renL_nil r]
end
end Go.Proofs.Ytfafngbbaplknaa.Ax
