/- The abstract run: texts that grow by a call of their own, and are read at the end. Plain lemmas on the model. No conditions. -/
import Derived.Test.YtnlfghpgfjlblaaDoorAxIM
namespace Go.Proofs.YtnlfghpgfjlblaaDoor.Ax
open Go.RowKit
set_option linter.unusedVariables false
set_option linter.unusedSimpArgs false
def Zre (P:Program) (e:TypeId) (i j:Nat) (eb:TypeId):Option Out:=match Zpv P e with
 |some [.val (.pointer none),.val (.slice none 0 0)]=>bif Nat.beq i j then none else some {r:= .ref i 0,wr:=[(i,some (.bld e j)),(j,some (.buf eb false ⟨#[]⟩))]}
 |_=>none
theorem BufAt.nil (w:World) (e:TypeId) (r:Bool):BufAt w e r ⟨#[]⟩ (.slice none 0 0):=⟨World.ownsRow_nil _ _ _ _,fun _ _=>rfl,fun _ _ h=>by cases h⟩
theorem Zri {P:Program} {e eb:TypeId} {i j:Nat} {B:Base} {κ:Nat→Value} {ob:Nat→Option Ob} {w:World} {out:Out} (hm:MS B κ ob w) (hn:∀k∈(Ans.newb i j eb).news,Zes B ob k) (ho:Zre P e i j eb=some out):
    ∃v w',(Instr.alloc e true (.tuple #[])).run P w= .ok v w'∧Good B κ ob w (Ans.newb i j eb).news out v w':=by
  unfold Zre at ho
  split at ho
  · rename_i hz
    cases hb:Nat.beq i j with
    |true=>rw [hb] at ho;cases ho
    |false=>
      rw [hb] at ho
      simp only [cond_false,Option.some.injEq] at ho
      subst ho
      have hij:i≠j:=fun e=>by subst e;simp at hb
      obtain ⟨zv,hz1,hz2⟩:=Zha hz
      have ni:=hn i (by simp [Ans.news])
      have nj:=hn j (by simp [Ans.news])
      have hzc:zv.cells=#[.pointer none,.slice none 0 0]:=by
        apply Array.ext'
        have h2:=congrArg (List.map fun a=>match a with|AV.val v=>v|_=>undef) hz2
        rw [List.map_map] at h2
        have h3:(List.map ((fun a=>match a with|AV.val v=>v|_=>undef)∘AV.val) zv.cells.toList)=zv.cells.toList:=by
          conv=>rhs;rw [←List.map_id zv.cells.toList]
          apply List.map_congr_left
          intro a _;rfl
        rw [h3] at h2
        exact h2.symm
      have p1:=MS.put (ob':=Zce ob [(j,some (.buf eb false ⟨#[]⟩))]) (w':=w) hm j (.buf eb false ⟨#[]⟩) (.slice none 0 0) (by simp [Zaw]) (fun k hk _=>by simp [Zaw,hk]) (fun h=>absurd nj.1 h)
        (fun b hb=>by simp [Zbx,blk] at hb) rfl rfl rfl (Nat.le_refl _) (fun _ _ _=>rfl)
        (fun _ k ok hk ho=>nj.2.2 k ok (by simpa [Zaw,hk] using ho)) (fun h=>by rw [nj.2.1] at h;cases h) (fun _=>BufAt.nil _ _ _)
      have hoi:Zce ob [(j,some (Ob.buf eb false ⟨#[]⟩))] i=none:=by simp [Zaw,hij,ni.1]
      have p2:=MS.put (ob':=Zce (Zce ob [(j,some (.buf eb false ⟨#[]⟩))]) [(i,some (.bld e j))]) (w':=w.alloc (.cells #[.pointer none,.slice none 0 0] e)) p1.1 i (.bld e j) (.pointer (some ⟨w.heap.size,0,none⟩)) (by simp [Zaw]) (fun k hk _=>by simp [Zaw,hk]) (fun h=>absurd hoi h)
        (fun b hb => by have : w.heap.size = b := by simpa [Ziu, blk] using hb
                        subst this;exact ⟨.inl rfl,by simp⟩) rfl rfl rfl (by simp) (fun b hb _=>Go.heap_alloc_old w _ hb)
        (fun _ k ok hk ho=>by
          rw [Zaw,if_neg hk] at ho
          rw [Zaw] at ho
          by_cases ekj:k=j
          · rw [if_pos ekj] at ho;cases ho;simp [Ob.ids]
          · rw [if_neg ekj] at ho;exact ni.2.2 k ok ho) (fun h=>by rw [ni.2.1] at h;cases h)
        (fun _=>⟨w.heap.size,.pointer none,none,0,0,rfl,heap_alloc_new w _,.inl rfl,by rw [Zbi _ _ (Ne.symm hij),Zav]⟩)
      have hob:Zce (Zce ob [(j,some (Ob.buf eb false ⟨#[]⟩))]) [(i,some (.bld e j))]=Zce ob [(i,some (.bld e j)),(j,some (.buf eb false ⟨#[]⟩))]:=by
        funext k;simp [Zce]
      rw [hob] at p2
      refine ⟨.pointer (some ⟨w.heap.size,0,none⟩),w.alloc (.cells zv.cells e),?_,?_⟩
      · simp [Instr.alloc,hz1,newVar,newRow]
      · rw [hzc]
        refine ⟨_,fun k hk=> ?_,p2.1,.ref i 0 _ (Zav _ _ _),fun fr b hb=> ?_⟩
        · simp [Ans.news] at hk
          rw [Zbi _ _ hk.1,Zbi _ _ hk.2]
        · have h1:=p1.2 fr b hb
          exact p2.2 fr b h1.2
  · cases ho
def Zuu (P:Program) (id:FuncId) (e eb:TypeId) (x:Value) (r:Bool) (t:ByteArray) (r':Bool) (s:ByteArray):Prop:=
 ∀(b:Nat) (p v:Value) (w:World),w.heap[b]? =some (.cells #[p,v] e (0,0))→(p= .pointer none∨p= .pointer (some ⟨b,0,none⟩))→BufAt w eb r t v→v.ownBlock≠some b→
  Calls P id #[.pointer (some ⟨b,0,none⟩),x] w fun q w'=>∃a v',q= .returned a∧w'.heap[b]? =some (.cells #[.pointer (some ⟨b,0,none⟩),v'] e (0,0))∧BufAt w' eb r' (t++s) v'∧(∀g,v'.ownBlock=some g→g≠b∧g<w'.heap.size∧(v.ownBlock=some g∨g=w.heap.size))∧
   w'.os=w.os∧w'.tape=w.tape∧w'.output=w.output∧w.heap.size≤w'.heap.size∧∀k,k<w.heap.size→k≠b→v'.ownBlock≠some k→w'.heap[k]? =w.heap[k]?
def BsOK (P:Program) (id:FuncId) (e eb:TypeId):Prop:=
 ∀(b:Nat) (p v:Value) (r:Bool) (t:ByteArray) (w:World),w.heap[b]? =some (.cells #[p,v] e (0,0))→BufAt w eb r t v→v.ownBlock≠some b→
  Calls P id #[.pointer (some ⟨b,0,none⟩)] w fun q w'=>q= .returned (.string t)∧w'.os=w.os∧w'.tape=w.tape∧w'.output=w.output∧w'.heap.size=w.heap.size∧∀k,v.ownBlock≠some k→w'.heap[k]? =w.heap[k]?
theorem Rel.ref0_of {κ:Nat→Value} {w:World} {S:Bool→Nat→Prop} {i:Nat} {v:Value} (h:Rel κ w S (.ref i 0) v):v=κ i:=by
 cases h with
 |tree _ _ h=>cases h
 |ref _ _ b h=>exact h.symm
theorem Zqc {B:Base} {κ:Nat→Value} {ob:Nat→Option Ob} {w:World} (hm:MS B κ ob w) {i j:Nat} {e eb:TypeId} {r:Bool} {t:ByteArray} (hi:ob i=some (.bld e j)) (hj:ob j=some (.buf eb r t)):
  i≠j∧∃b p,κ i= .pointer (some ⟨b,0,none⟩)∧w.heap[b]? =some (.cells #[p,κ j] e (0,0))∧(p= .pointer none∨p= .pointer (some ⟨b,0,none⟩))∧BufAt w eb r t (κ j)∧(κ j).ownBlock≠some b:=by
 have hij:i≠j:=fun q=>by subst q;rw [hi] at hj;cases hj
 obtain ⟨b,p,A,n,c,h0,h1,h2,h3⟩:BldAt κ w e j (κ i):=hm.obj i _ hi
 have h4:BufAt w eb r t (κ j):=hm.obj j _ hj
 refine ⟨hij,b,p,h0,by rw [h3];exact h1,by rw [h0] at h2;exact h2,h4,fun q=>hij ?_⟩
 rw [←Zer h4] at q
 exact hm.inj i j b (by rw [hi];simp) (by rw [hj];simp) (by rw [h0];exact .inl rfl) (.inl q)
theorem bw_use {P:Program} {id:FuncId} {i j j':Nat} {e eb:TypeId} {x:Value} {r r':Bool} {t s:ByteArray} (hM:Zuu P id e eb x r t r' s) {B:Base} {κ:Nat→Value} {ob:Nat→Option Ob} {w:World} (hm:MS B κ ob w) (hi:ob i=some (.bld e j)) (hj:ob j=some (.buf eb r t))
  (hbi:B.bo i=false) (hbj:B.bo j=false) (hn:Zes B ob j') (c:Option Prop):
  Calls P id #[κ i,x] w fun q w'=>∃v,q= .returned v∧Good B κ ob w [j'] {r:= .any,wr:=[(j',some (.buf eb r' (t++s))),(i,some (.bld e j')),(j,none)],c:=c} v w':=by
 obtain ⟨hij,b,p,h0,h1,h2,h3,h4⟩:=Zqc hm hi hj
 have hi0:ob i≠none:=by rw [hi];simp
 have hj0:ob j≠none:=by rw [hj];simp
 have hij':i≠j':=fun q=>hi0 (q▸hn.1)
 have hjj':j≠j':=fun q=>hj0 (q▸hn.1)
 have hbs:b<w.heap.size:=(Array.getElem?_eq_some_iff.1 h1).1
 have hbk:Blk (κ i) b:=by rw [h0];exact .inl rfl
 rw [h0]
 refine (hM b p (κ j) w h1 h2 h3 h4).mono ?_
 rintro q w' ⟨a,v',rfl,r1,r2,r3,r4,r5,r6,r7,r8⟩
 refine ⟨a,rfl,?_⟩
 -- the world behind, but for the block of the two cells
 obtain ⟨w1,hw1⟩:∃w1:World,w1= {w' with heap:=w'.heap.setIfInBounds b (.cells #[p,κ j] e (0,0))} :=⟨_,rfl⟩
 have hb':b<w'.heap.size:=by omega
 have g1:w1.heap[b]? =some (.cells #[p,κ j] e (0,0)):=by rw [hw1];simp [hb']
 have g2:∀k,k≠b→w1.heap[k]? =w'.heap[k]? :=fun k hk=>by rw [hw1];simp [Array.getElem?_setIfInBounds,Ne.symm hk]
 have g3:w1.heap.size=w'.heap.size:=by rw [hw1];simp
 have hBlkv:∀k,Blk v' k↔v'.ownBlock=some k:=fun k=>by
  rw [←Zer r2]
  rcases r2.1.2 with ⟨hv,_⟩|⟨g,cap,cur,hv,_⟩<;>rw [hv,Zbx]
 have hBlkj:∀k,Blk (κ j) k↔(κ j).ownBlock=some k:=fun k=>by
  rw [←Zer h3]
  rcases h3.1.2 with ⟨hv,_⟩|⟨g,cap,cur,hv,_⟩<;>rw [hv,Zbx]
 have p1:=MS.put (ob':=Zce ob [(j',some (.buf eb r' (t++s))),(j,none)]) (w':=w1) hm j' (.buf eb r' (t++s)) v' (by simp [Zce]) (fun k hk hk'=>by
   have bk:Nat.beq k j'=false:=Bool.eq_false_iff.2 fun q=>hk (Nat.eq_of_beq_eq_true q)
   simp only [Zce,bk,cond_false] at hk'⊢
   cases hkj:Nat.beq k j with
   |true=>rw [hkj] at hk';exact absurd rfl hk'
   |false=>rfl)
  (fun h=>absurd hn.1 h)
  (fun k hk=>by
   have h5:=r3 k ((hBlkv k).1 hk)
   refine ⟨?_,by rw [g3];exact h5.2.1⟩
   rcases h5.2.2 with h6|h6
   ·refine .inr ⟨j,hj0,.inr ⟨?_,hbj⟩,(hBlkj k).2 h6⟩
    have bk:Nat.beq j j'=false:=Bool.eq_false_iff.2 fun q=>hjj' (Nat.eq_of_beq_eq_true q)
    simp [Zce,bk]
   ·exact .inl h6)
  (by rw [hw1];exact r4) (by rw [hw1];exact r5) (by rw [hw1];exact r6) (by rw [g3];exact r7)
  (fun k hk hk'=>by
   by_cases ekb:k=b
   ·subst ekb;rw [g1,h1]
   ·rw [g2 k ekb]
    exact r8 k hk ekb fun q=>hk' ((hBlkv k).2 q))
  (fun _ k ok hk ho=>by
   have bk:Nat.beq k j'=false:=Bool.eq_false_iff.2 fun q=>hk (Nat.eq_of_beq_eq_true q)
   simp only [Zce,bk,cond_false] at ho
   cases hkj:Nat.beq k j with
   |true=>rw [hkj] at ho;cases ho
   |false=>rw [hkj] at ho;exact hn.2.2 k ok ho)
  (fun h=>by rw [hn.2.1] at h;cases h)
  (fun _=>r2.keep fun k hk=>by
   have:=r3 k (by rw [←Zer r2];exact hk)
   exact g2 k this.1)
 obtain ⟨m1,k1⟩:=p1
 have ob1:∀k,Zce ob [(j',some (Ob.buf eb r' (t++s))),(j,none)] k=if k=j' then some (.buf eb r' (t++s)) else if k=j then none else ob k:=fun k=>by
  by_cases e1:k=j'
  ·subst e1;simp [Zce]
  ·have b1:Nat.beq k j'=false:=Bool.eq_false_iff.2 fun q=>e1 (Nat.eq_of_beq_eq_true q)
   by_cases e2:k=j
   ·subst e2;simp [Zce,b1,e1]
   ·have b2:Nat.beq k j=false:=Bool.eq_false_iff.2 fun q=>e2 (Nat.eq_of_beq_eq_true q)
    simp [Zce,b1,b2,e1,e2]
 have ob2:Zce (Zce ob [(j',some (Ob.buf eb r' (t++s))),(j,none)]) [(i,some (.bld e j'))]=Zce ob [(j',some (.buf eb r' (t++s))),(i,some (.bld e j')),(j,none)]:=by
  funext k
  by_cases e1:k=i
  ·subst e1
   have b1:Nat.beq k j'=false:=Bool.eq_false_iff.2 fun q=>hij' (Nat.eq_of_beq_eq_true q)
   simp [Zce,b1]
  ·have b1:Nat.beq k i=false:=Bool.eq_false_iff.2 fun q=>e1 (Nat.eq_of_beq_eq_true q)
   simp [Zce,b1]
 have oi:Zce ob [(j',some (Ob.buf eb r' (t++s))),(j,none)] i≠none:=by rw [ob1,if_neg hij',if_neg hij];exact hi0
 have hBp:∀k,Blk (Value.pointer (some ⟨b,0,none⟩)) k↔k=b:=fun k=>by
  rw [Ziu];simp only [blk,Option.some.injEq];exact ⟨fun h=>h.symm,fun h=>h.symm⟩
 have ki:Zfl κ j' v' i= .pointer (some ⟨b,0,none⟩):=by rw [Zbi _ _ hij',h0]
 have p2:=MS.put (ob':=Zce (Zce ob [(j',some (Ob.buf eb r' (t++s))),(j,none)]) [(i,some (.bld e j'))]) (w':=w') m1 i (.bld e j') (.pointer (some ⟨b,0,none⟩)) (by simp [Zaw]) (fun k hk _=>by simp [Zaw,hk]) (fun _=>ki.symm)
  (fun k hk=>⟨.inr ⟨i,oi,.inl rfl,by rw [ki];exact hk⟩,by rw [(hBp k).1 hk];exact hb'⟩)
  (by rw [hw1]) (by rw [hw1]) (by rw [hw1]) (by rw [g3];exact Nat.le_refl _)
  (fun k _ hk=>(g2 k fun q=>hk ((hBp k).2 q)).symm)
  (fun h=>absurd h oi) (fun h=>by rw [hbi] at h;cases h)
  (fun _=>by
   rcases r2.1.2 with ⟨hv,_⟩|⟨g,cap,cur,hv,_⟩
   ·exact ⟨b,.pointer (some ⟨b,0,none⟩),none,0,0,rfl,by rw [r1,hv],.inr rfl,by rw [Zbi _ _ (Ne.symm hij'),Zav,hv]⟩
   ·exact ⟨b,.pointer (some ⟨b,0,none⟩),some ⟨g,0,none⟩,(t++s).size,cap,rfl,by rw [r1,hv],.inr rfl,by rw [Zbi _ _ (Ne.symm hij'),Zav,hv]⟩)
 rw [ob2] at p2
 refine ⟨_,fun k hk=> ?_,p2.1,.tree _ _ (.any _),fun fr k hk=> ?_⟩
 ·have hk':k≠j':=by simpa using hk
  by_cases e1:k=i
  ·subst e1;rw [Zav,h0]
  ·rw [Zbi _ _ e1,Zbi _ _ hk']
 ·have q1:=k1 fr k hk
  have q2:=p2.2 fr k q1.2
  exact ⟨q2.1.trans q1.1,q2.2⟩
theorem bs_use {P:Program} {id:FuncId} {i j:Nat} {e eb:TypeId} {r:Bool} {t:ByteArray} (hM:BsOK P id e eb) {B:Base} {κ:Nat→Value} {ob:Nat→Option Ob} {w:World} (hm:MS B κ ob w) (hi:ob i=some (.bld e j)) (hj:ob j=some (.buf eb r t)) (hbj:B.bo j=false) (c:Option Prop) (news:List Nat):
  Calls P id #[κ i] w fun q w'=>∃v,q= .returned v∧Good B κ ob w news {r:= .val (.string t),wr:=[(i,none),(j,none)],c:=c} v w':=by
 obtain ⟨hij,b,p,h0,h1,h2,h3,h4⟩:=Zqc hm hi hj
 have hj0:ob j≠none:=by rw [hj];simp
 rw [h0]
 refine (hM b p (κ j) r t w h1 h3 h4).mono ?_
 rintro q w' ⟨rfl,r1,r2,r3,r4,r5⟩
 have hBlkj:∀k,(κ j).ownBlock=some k→Blk (κ j) k:=fun k hk=> .inl (by rw [Zer h3];exact hk)
 have hl:∀k,Zce ob [(i,none),(j,none)] k≠none→ob k≠none∧k≠i∧k≠j:=fun k hk=>by
  simp only [Zce] at hk
  cases b1:Nat.beq k i with
  |true=>rw [b1] at hk;exact absurd rfl hk
  |false=>
   cases b2:Nat.beq k j with
   |true=>rw [b1,b2] at hk;exact absurd rfl hk
   |false=>
    rw [b1,b2] at hk
    exact ⟨hk,fun q=>by subst q;simp at b1,fun q=>by subst q;simp at b2⟩
 have ho:∀k o,Zce ob [(i,none),(j,none)] k=some o→ob k=some o:=fun k o h=>by
  simp only [Zce] at h
  cases b1:Nat.beq k i with
  |true=>rw [b1] at h;cases h
  |false=>
   cases b2:Nat.beq k j with
   |true=>rw [b1,b2] at h;cases h
   |false=>rw [b1,b2] at h;exact h
 have hS:∀fr k,SS B κ ob w fr k→w'.heap[k]? =w.heap[k]? ∧SS B κ (Zce ob [(i,none),(j,none)]) w' fr k:=fun fr k hk=>
  ⟨r5 k fun q=>hk.2.2 j hj0 (hBlkj k q),by have:=hk.1;omega,hk.2.1,fun l hl'=>hk.2.2 l (hl l hl').1⟩
 have hoth:∀k l,Zce ob [(i,none),(j,none)] l≠none→Blk (κ l) k→w'.heap[k]? =w.heap[k]? :=fun k l hl' hk=>r5 k fun q=>(hl l hl').2.2 (hm.inj l j k (hl l hl').1 hj0 hk (hBlkj k q))
 refine ⟨.string t,rfl,κ,fun _ _=>rfl,⟨hm.kept.heap r1 r2 r3 (by omega) fun k hk1 hk2=>r5 k fun q=> ?_,fun l o h=>(hm.obj l o (ho l o h)).keep (fun k hk=>hoth k l (by rw [h];simp) hk) hS fun _ _=>rfl,fun l k hl' hk=> ?_,fun l m k h1 h2=>hm.inj l m k (hl l h1).1 (hl m h2).1,hm.lent,hm.glob⟩,.tree _ _ (.val _),hS⟩
 ·have h5:=hm.ownb j k hj0 (hBlkj k q)
  rcases h5.2 with (h6|h6)|h6
  ·omega
  ·exact hk2 (.inr h6)
  ·rw [hbj] at h6;cases h6
 ·have:=hm.ownb l k (hl l hl').1 hk
  exact ⟨by omega,this.2⟩
def Znn (P:Program) (t:TypeId) (an:Ans) (x:AV):Option Out:=match P.underlying t,an,x with
 |some .string,.new i,.val (.string s)=>some {r:= .ref i 0,wr:=[(i,some (.sit s 0))]}
 |_,_,_=>none
theorem Zpy {P:Program} {t:TypeId} {an:Ans} {x:AV} {vx:Value} {B:Base} {κ:Nat→Value} {ob:Nat→Option Ob} {w:World} {out:Out} (ho:Znn P t an x=some out) (hm:MS B κ ob w) (hn:∀i∈an.news,Zes B ob i) (hx:Rel κ w (SS B κ ob w) x vx):
    ∃v w',(Instr.range t vx).run P w= .ok v w'∧Good B κ ob w an.news out v w':=by
  unfold Znn at ho
  split at ho
  · rename_i i s hu
    cases ho
    have hv:=hx.val_of
    subst hv
    have hn:=hn i (by simp [Ans.news])
    have hp:=MS.put (ob':=Zce ob [(i,some (.sit s 0))]) (w':=w.alloc (.stringIter s 0)) hm i (.sit s 0) (.pointer (some ⟨w.heap.size,0,none⟩)) (by simp [Zaw]) (fun j hj _=>by simp [Zaw,hj]) (fun h=>absurd hn.1 h)
      (fun b hb => by have : w.heap.size = b := by simpa [Ziu, blk] using hb
                      subst this;exact ⟨.inl rfl,by simp⟩) rfl rfl rfl (by simp) (fun b hb _=>Go.heap_alloc_old w _ hb)
      (fun _ j oj hj ho=>hn.2.2 j oj (by simpa [Zaw,hj] using ho)) (fun h=>by rw [hn.2.1] at h;cases h)
      (fun _=>⟨_,rfl,heap_alloc_new w _⟩)
    refine ⟨.pointer (some ⟨w.heap.size,0,none⟩),w.alloc (.stringIter s 0),?_,_,fun k hk=>Zbi _ _ (by simpa [Ans.news] using hk),hp.1,.ref i 0 _ (Zav _ _ _),hp.2⟩
    simp [Instr.range,run_underlying hu,newObj,Sem.run]
  · cases ho
def Zrh (an:Ans) (str:Bool) (ob:Nat→Option Ob) (x:AV):Option Out:=match str,x with
 |true,.ref i 0=>match ob i with
  |some (.sit s p)=>match an with
   | .dec true=>some {r:= .tup [.val (.bool true),.val (.int .i64 (p:Int)),.val (.int .i32 (bAt s p))],wr:=[(i,some (.sit s (p+1)))],c:=some (p<s.size∧bAt s p<128)}
   | .dec false=>some {r:= .tup [.val (.bool false)],c:=some (¬ p<s.size)}
   |_=>none
  |_=>none
 |_,_=>none
theorem Zua (s:ByteArray) (p:Nat) (hp:p<s.size) (h:bAt s p<128):Utf8.decode s p=((bAt s p).toNat,1):=by
 have e:(s.get! p).toNat=(bAt s p).toNat:=by
  have h2:s.get! p=s.data[p]'hp:=by
   show s.data[p]! =_
   exact getElem!_pos s.data p hp
  have h3:s.data.toList.getD p 0=s.data[p]'hp:=by
   rw [List.getD_eq_getElem?_getD,Array.getElem?_toList,Array.getElem?_eq_getElem hp];rfl
  unfold bAt
  rw [h2,h3]
  simp
 unfold Utf8.decode
 simp only [Nat.add_zero]
 rw [if_pos (by rw [e];omega),e]
theorem Zrj {P:Program} {an:Ans} {str:Bool} {x:AV} {vx:Value} {ty:TypeId} {B:Base} {κ:Nat→Value} {ob obr:Nat→Option Ob} {w:World} {out:Out} (ho:Zrh an str obr x=some out) (hc:out.cond) (hm:MS B κ ob w) (hsub:∀i o,obr i=some o→ob i=some o)
  (hx:Rel κ w (SS B κ ob w) x vx) (news:List Nat):∃v w',(Instr.next vx str ty).run P w= .ok v w'∧Good B κ ob w news out v w':=by
 unfold Zrh at ho
 split at ho
 ·rename_i i
  split at ho
  ·rename_i s p hoi
   have hoi':=hsub i _ hoi
   obtain ⟨r,e1,e2⟩:∃r,κ i= .pointer (some ⟨r,0,none⟩)∧w.heap[r]? =some (.stringIter s p):=hm.obj i _ hoi'
   have hv:=hx.ref0_of
   have hg:(getObj r).run P w= .ok (.stringIter s p) w:=by simp [getObj,Sem.run,e2]
   split at ho
   ·cases ho
    have hc:p<s.size∧bAt s p<128:=hc
    have hd:=Zua s p hc.1 hc.2
    have hbd:0≤bAt s p:=by unfold bAt;omega
    have hrw:r<w.heap.size:=(Array.getElem?_eq_some_iff.1 e2).1
    have hne:ob i≠none:=by rw [hoi'];simp
    have hset:(setObj r (.stringIter s (p+1))).run P w= .ok () {w with heap:=w.heap.setIfInBounds r (.stringIter s (p+1))} :=by
     simp [setObj,Sem.run,e2]
    have hp:=MS.put (ob':=Zce ob [(i,some (.sit s (p+1)))]) (w':= {w with heap:=w.heap.setIfInBounds r (.stringIter s (p+1))}) hm i (.sit s (p+1)) (.pointer (some ⟨r,0,none⟩)) (by simp [Zaw]) (fun j hj _=>by simp [Zaw,hj]) (fun _=>e1.symm)
     (fun b hb=>by
      have:r=b:=by simpa [Ziu,blk] using hb
      subst this
      exact ⟨.inr ⟨i,hne,.inl rfl,by rw [e1];exact hb⟩,by simpa using hrw⟩) rfl rfl rfl (by simp)
     (fun b _ hb=>by
      have:r≠b:=fun q=>hb (by rw [Ziu];simp [blk,q])
      simp [Array.getElem?_setIfInBounds,this])
     (fun h=>absurd h hne) (fun _=>e1.symm)
     (fun _=>⟨r,rfl,by simp [hrw]⟩)
    refine ⟨.tuple #[.bool true,.int .i64 (p:Int),.int .i32 (bAt s p)],_,?_,_,fun l _=> ?_,hp.1,?_,hp.2⟩
    ·rw [hv,e1]
     have e3:((bAt s p).toNat:Int)=bAt s p:=by omega
     simp [Instr.next,hg,hc.1,hd,hset,goInt,e3,Result.andThen]
    ·by_cases e:l=i
     ·subst e;rw [Zav,e1]
     ·exact Zbi _ _ e
    ·exact .tup _ _ rfl fun q a v ha hv'=>by
      match q,ha,hv' with
      |0,ha,hv'=>simp at ha hv';subst ha;subst hv';exact .tree _ _ (.val _)
      |1,ha,hv'=>simp at ha hv';subst ha;subst hv';exact .tree _ _ (.val _)
      |2,ha,hv'=>simp at ha hv';subst ha;subst hv';exact .tree _ _ (.val _)
      |q+3,ha,_=>simp at ha
   ·cases ho
    have hc:¬ p<s.size:=hc
    refine ⟨.tuple #[.bool false],w,?_,Good.pure hm _ ?_⟩
    ·rw [hv,e1]
     simp [Instr.next,hg,hc,Result.andThen]
    ·exact .tup _ _ rfl fun q a v ha hv'=>by
      match q,ha,hv' with
      |0,ha,hv'=>simp at ha hv';subst ha;subst hv';exact .tree _ _ (.val _)
      |q+1,ha,_=>simp at ha
   ·cases ho
  ·cases ho
 ·cases ho
end Go.Proofs.YtnlfghpgfjlblaaDoor.Ax
