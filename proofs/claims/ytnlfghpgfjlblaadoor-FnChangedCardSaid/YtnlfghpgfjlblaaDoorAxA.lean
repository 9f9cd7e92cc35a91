/- The abstract run's operations: what each answers, and what it does to the objects. Plain lemmas on the model. No conditions. -/
import Derived.Test.YtnlfghpgfjlblaaDoorAx
namespace Go.Proofs.YtnlfghpgfjlblaaDoor.Ax
open Go.RowKit
set_option linter.unusedVariables false
set_option linter.unusedSimpArgs false
def Zfl (κ:Nat→Value) (i:Nat) (v:Value):Nat→Value:=fun j=>if j=i then v else κ j
theorem Zav (κ:Nat→Value) (i:Nat) (v:Value):Zfl κ i v i=v:=by simp [Zfl]
theorem Zbi (κ:Nat→Value) {i j:Nat} (v:Value) (h:j≠i):Zfl κ i v j=κ j:=by simp [Zfl,h]
theorem MS.put {B:Base} {κ:Nat→Value} {ob ob':Nat→Option Ob} {w w':World} (h:MS B κ ob w) (i:Nat) (o:Ob) (v:Value) (hi:ob' i=some o)
  (hoth:∀j,j≠i→ob' j≠none→ob' j=ob j) (hsame:ob i≠none→v=κ i)
  (hR1:∀b,Blk v b→(b=w.heap.size∨∃j,ob j≠none∧(j=i∨(ob' j=none∧B.bo j=false))∧Blk (κ j) b)∧b<w'.heap.size)
  (hos:w'.os=w.os) (htape:w'.tape=w.tape) (hout:w'.output=w.output) (hsize:w.heap.size≤w'.heap.size)
  (hR2:∀b,b<w.heap.size→¬ Blk v b→w'.heap[b]? =w.heap[b]?)
  (hids:ob i=none→∀j o,j≠i→ob' j=some o→i∉o.ids) (hlent:B.bo i=true→v=κ i)
  (hobj:(∀fr b,SS B κ ob w fr b→w'.heap[b]? =w.heap[b]? ∧SS B (Zfl κ i v) ob' w' fr b)→ObRel (Zfl κ i v) w' (SS B (Zfl κ i v) ob' w') o v):
  MS B (Zfl κ i v) ob' w'∧∀fr b,SS B κ ob w fr b→w'.heap[b]? =w.heap[b]? ∧SS B (Zfl κ i v) ob' w' fr b:=by
 have hne:∀j b,ob j≠none→j≠i→ob' j≠none→Blk (κ j) b→¬ Blk v b:=by
  intro j b hj hji hj' hb hv
  rcases (hR1 b hv).1 with e|⟨k,hk,hk',hkb⟩
  ·have:=(h.ownb j b hj hb).1;omega
  ·have:=h.inj j k b hj hk hb hkb
   subst this
   rcases hk' with e|e
   ·exact hji e
   ·exact hj' e.1
 have hfr:∀fr b,SS B κ ob w fr b→w'.heap[b]? =w.heap[b]? ∧SS B (Zfl κ i v) ob' w' fr b:=by
  intro fr b ⟨h1,h2,h3⟩
  have hv:¬ Blk v b:=by
   intro hv
   rcases (hR1 b hv).1 with e|⟨k,hk,_,hkb⟩
   ·omega
   ·exact h3 k hk hkb
  refine ⟨hR2 b h1 hv,by omega,h2,fun j hj=> ?_⟩
  by_cases e:j=i
  ·subst e;rw [Zav];exact hv
  ·rw [Zbi _ _ e];exact h3 j (by rw [←hoth j e hj];exact hj)
 refine ⟨⟨h.kept.heap hos htape hout hsize fun k hk hm=>hR2 k (Nat.lt_of_lt_of_le hk h.kept.size) fun hv=> ?_,fun j oj hj=> ?_,fun j b hj hb=> ?_,fun j k b hj hk hb hb'=> ?_,fun j hj=> ?_,h.glob⟩,hfr⟩
 ·rcases (hR1 k hv).1 with e|⟨j,hj,_,hjb⟩
  ·have:=h.kept.size;omega
  ·rcases (h.ownb j k hj hjb).2 with (e|e)|e
   ·omega
   ·exact hm (.inr e)
   ·exact hm (.inl ⟨j,e,by rw [←h.lent j e];exact hjb⟩)
 ·by_cases e:j=i
  ·subst e
   rw [hi] at hj
   cases hj
   rw [Zav]
   exact hobj hfr
  ·have hj':ob' j≠none:=by rw [hj];simp
   have hjo:ob j=some oj:=by rw [←hoth j e hj',hj]
   rw [Zbi _ _ e]
   refine (h.obj j oj hjo).keep (fun b hb=>hR2 b (h.ownb j b (by rw [hjo];simp) hb).1 (hne j b (by rw [hjo];simp) e hj' hb)) hfr fun k hk=> ?_
   by_cases ek:k=i
   ·subst ek
    rw [Zav]
    cases ho:ob k with
    |none=>exact absurd hk (hids ho j oj e hj)
    |some _=>exact hsame (by rw [ho];simp)
   ·exact Zbi _ _ ek
 ·by_cases e:j=i
  ·subst e
   rw [Zav] at hb
   refine ⟨(hR1 b hb).2,?_⟩
   rcases (hR1 b hb).1 with e|⟨k,hk,hk',hkb⟩
   ·left;left;have:=h.kept.size;omega
   ·rcases (h.ownb k b hk hkb).2 with e|e
    ·exact .inl e
    ·rcases hk' with e2|⟨_,e2⟩
     ·subst e2;exact .inr e
     ·rw [e2] at e;cases e
  ·rw [Zbi _ _ e] at hb
   have:=h.ownb j b (by rw [←hoth j e hj];exact hj) hb
   exact ⟨by omega,this.2⟩
 ·by_cases e:j=i<;>by_cases e':k=i
  ·rw [e,e']
  ·subst e
   rw [Zav] at hb
   rw [Zbi _ _ e'] at hb'
   exact absurd hb (hne k b (by rw [←hoth k e' hk];exact hk) e' hk hb')
  ·subst e'
   rw [Zav] at hb'
   rw [Zbi _ _ e] at hb
   exact absurd hb' (hne j b (by rw [←hoth j e hj];exact hj) e hj hb)
  ·rw [Zbi _ _ e] at hb
   rw [Zbi _ _ e'] at hb'
   exact h.inj j k b (by rw [←hoth j e hj];exact hj) (by rw [←hoth k e' hk];exact hk) hb hb'
 ·by_cases e:j=i
  ·subst e;rw [Zav,hlent hj];exact h.lent j hj
  ·rw [Zbi _ _ e];exact h.lent j hj
def Zce (ob:Nat→Option Ob):List (Nat×Option Ob)→Nat→Option Ob
 | [],i=>ob i
 |(j,o)::r,i=>bif Nat.beq i j then o else Zce ob r i
structure Out where
 r:AV
 wr:List (Nat×Option Ob):=[]
 c:Option Prop:=none
def Out.cond (o:Out):Prop:=match o.c with
 |some p=>p
 |none=>True
inductive Ans where
 |n
 |dec (b:Bool)
 |wrap
 |nn
 |new (i:Nat)
 |as (a:AV)
 |call (args:List (Bool×AV)) (fr:Bool) (res:AV)
 |lend (L:List (Nat×Ob×Ob)) (G:List (Nat×Ob)) (args:List (Bool×AV)) (fr:Bool) (res:AV)
 |lendT (L:List (Nat×Ob×Ob)) (G:List (Nat×Ob)) (args:List (Bool×AV)) (fr:Bool) (res:AV)
 |lendc (L:List (Nat×Ob×Ob)) (C G:List (Nat×Ob)) (args:List (Bool×AV)) (fr:Bool) (res:AV)
 |mov (i j n m:Nat) (f g:Nat→List AV) (a b:Int)
 |movc (i j kc n m:Nat) (f g:Nat→List AV) (vs:List Value)
 |newb (i j:Nat) (e:TypeId)
 |bw (i j j':Nat) (x:Value) (r:Bool) (s:ByteArray)
 |bs (i j:Nat)
 |winq
 |srw (i o N:Nat) (f g:Nat→List AV) (n:Nat)
def Ans.news:Ans→List Nat
 | .new i=>[i]
 | .lend _ G _ _ _=>G.map (·.1)
 | .lendT _ G _ _ _=>G.map (·.1)
 | .lendc _ _ G _ _ _=>G.map (·.1)
 | .mov _ j _ _ _ _ _ _=>[j]
 | .movc _ j _ _ _ _ _ _=>[j]
 | .newb i j _=>[i,j]
 | .bw _ _ j _ _ _=>[j]
 |_=>[]
def Does (P:Program) (o:Oper) (ρ:Operand→Value) (w:World) (R:Value→World→Prop):Prop:=
 (∃v w',(execOp ρ o).run P w= .ok (.value v) w'∧R v w')∨(∃w',(execOp ρ o).run P w= .ok .skip w'∧R undef w')∨
 (∃f args w',(execOp ρ o).run P w= .ok (.enter f args) w'∧Calls P f args w' fun e w''=>∃v,e= .returned v∧R v w'')
theorem Does.wp {P:Program} {o:Oper} {a:Act} {w:World} {R:Value→World→Prop} {K:Act→World→Prop} {Q:Exit→Act→World→Prop} (h:Does P o a.eval w R)
  (hK:∀v w',R v w'→K (a.put o.dst v) w'):o.wp P a w K Q:=by
 unfold Oper.wp
 rcases h with ⟨v,w',h1,h2⟩|⟨w',h1,h2⟩|⟨f,args,w',h1,h2⟩
 ·rw [h1];exact hK v w' h2
 ·rw [h1];exact hK undef w' h2
 ·rw [h1]
  exact h2.mono fun e w'' ⟨v,he,hR⟩=>by subst he;exact hK v w'' hR
def Good (B:Base) (κ:Nat→Value) (ob:Nat→Option Ob) (w:World) (news:List Nat) (out:Out) (v:Value) (w':World):Prop:=
 ∃κ',(∀i,i∉news→κ' i=κ i)∧MS B κ' (Zce ob out.wr) w'∧Rel κ' w' (SS B κ' (Zce ob out.wr) w') out.r v∧
  ∀fr b,SS B κ ob w fr b→w'.heap[b]? =w.heap[b]? ∧SS B κ' (Zce ob out.wr) w' fr b
theorem Good.pure {B:Base} {κ:Nat→Value} {ob:Nat→Option Ob} {w:World} (h:MS B κ ob w) {r:AV} {c:Option Prop} {v:Value} (news:List Nat) (hr:Rel κ w (SS B κ ob w) r v):Good B κ ob w news ⟨r,[],c⟩ v w:=
 ⟨κ,fun _ _=>rfl,h,hr,fun fr b hb=>⟨rfl,hb⟩⟩
def inR (k:IntKind) (n:Int):Prop:=k.min≤n∧n≤k.max
theorem Zft {k:IntKind} {n:Int} (h:inR k n):k.wrap n=n:=by
 obtain ⟨h1,h2⟩:=h
 cases k<;>simp [IntKind.wrap,IntKind.min,IntKind.max,IntKind.signed,IntKind.bits] at*<;>(try split)<;>omega
end Go.Proofs.YtnlfghpgfjlblaaDoor.Ax
