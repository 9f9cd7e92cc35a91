/- Maps with strings as keys that hold true alone: sets. Plain lemmas on the model. No conditions. -/
import Derived.Test.YtnlfghpgfjlblaaDoorAxIA
import Derived.MapKept
namespace Go.Proofs.YtnlfghpgfjlblaaDoor.Ax
open Go.RowKit
set_option linter.unusedVariables false
set_option linter.unusedSimpArgs false
def Zrm (P:Program) (t:TypeId):Bool:=match P.underlying t with
 |some (.map k e)=>match P.underlying k,P.info? e with
  |some .string,some i=>match i.zero with
   |some (.bool false)=>true
   |_=>false
  |_,_=>false
 |_=>false
theorem Zqd {P:Program} {t:TypeId} (h:Zrm P t=true):∃k e,P.underlying t=some (.map k e)∧P.underlying k=some .string∧∀w,(zeroValue e).run P w= .ok (.bool false) w:=by
 unfold Zrm at h
 split at h
 ·rename_i k e hu
  split at h
  ·rename_i i hk hi
   split at h
   ·rename_i hz
    exact ⟨k,e,hu,hk,fun w=>by simp [zeroValue,typeInfo,hi,hz]⟩
   ·cases h
  ·cases h
 ·cases h
theorem Znr (r b:Nat):Blk (.map (some r)) b↔b=r:=by
 constructor
 ·rintro (h|⟨_,h,_⟩)
  ·simp only [blk,Option.some.injEq] at h;exact h.symm
  ·cases h
 ·rintro rfl;exact .inl rfl
theorem Zub {ks:List ByteArray} {es:Array MapEntry} (h:Zqe ks es):∀x∈es.toList,∃s,s∈ks∧x.key= .string s∧x.val= .bool true:=fun x hx=>by
 have:(x.key,x.val)∈es.toList.map (fun e=>(e.key,e.val)):=List.mem_map.2 ⟨x,hx,rfl⟩
 rw [h] at this
 obtain ⟨s,hs,e⟩:=List.mem_map.1 this
 exact ⟨s,hs,(congrArg Prod.fst e).symm,(congrArg Prod.snd e).symm⟩
theorem Zwp {ks:List ByteArray} {es:Array MapEntry} (h:Zqe ks es) {s:ByteArray} (hs:s∈ks):∃x∈es.toList,x.key= .string s:=by
 have:(Value.string s,Value.bool true)∈ks.map (fun k=>(Value.string k,Value.bool true)):=List.mem_map.2 ⟨s,hs,rfl⟩
 rw [←h] at this
 obtain ⟨x,hx,e⟩:=List.mem_map.1 this
 exact ⟨x,hx,congrArg Prod.fst e⟩
theorem Zsw {ks:List ByteArray} {es:Array MapEntry} (h:Zqe ks es) (s:ByteArray):(s∈ks→∃j,Instr.findNow .string (.string s) es.toList 0=some (some (j,.bool true)))∧(¬ s∈ks→Instr.findNow .string (.string s) es.toList 0=some none):=by
 have hk:=Zub h
 rcases MapKept.findNow_spec (d:= .string) (k:= .string s) (by simp [MapKept.IsKey]) es.toList 0 (fun x hx=>by obtain ⟨u,_,e,_⟩:=hk x hx;rw [e];simp [MapKept.IsKey]) with ⟨h1,h2⟩|⟨j,e,h1,h2,h3⟩
 ·refine ⟨fun hs=> ?_,fun _=>h1⟩
  obtain ⟨x,hx,e⟩:=Zwp h hs
  exact absurd e (h2 x hx)
 ·have hm:e∈es.toList:=List.mem_of_getElem? h2
  obtain ⟨u,hu,e1,e2⟩:=hk e hm
  rw [h3] at e1
  have:s=u:=by simpa using e1
  subst this
  exact ⟨fun _=>⟨_,by rw [h1,e2]⟩,fun hn=>absurd hu hn⟩
def memB (s:ByteArray) (ks:List ByteArray):Bool:=ks.any fun k=>decide (k=s)
theorem Zns {s:ByteArray} {ks:List ByteArray} :memB s ks=true↔s∈ks:=by
 unfold memB
 rw [List.any_eq_true]
 constructor
 ·rintro ⟨k,h1,h2⟩;rw [←of_decide_eq_true h2];exact h1
 ·intro h;exact ⟨s,h,decide_eq_true rfl⟩
theorem Zwq {s:ByteArray} {ks:List ByteArray} (h:¬ s∈ks):memB s ks=false:=Bool.eq_false_iff.2 fun e=>h (Zns.1 e)
def Zhk (r:Option AV) (an:Ans):Option Out:=match r,an with
 |none,.new i=>some {r:= .mapr i,wr:=[(i,some (.set []))]}
 |_,_=>none
theorem Zlr {P:Program} {t:TypeId} {r:Option Operand} {ev:Operand→AV} {ρ:Operand→Value} {an:Ans} {B:Base} {κ:Nat→Value} {ob:Nat→Option Ob} {w:World} {out:Out} (ho:Zhk (r.map ev) an=some out) (hm:MS B κ ob w) (hn:∀i∈an.news,Zes B ob i):
  ∃v w',(Instr.makeMap t (r.map ρ)).run P w= .ok v w'∧Good B κ ob w an.news out v w':=by
 cases r with
 |some r=>cases an<;>simp [Zhk] at ho
 |none=>
  cases an<;>simp only [Zhk,Option.map_none,reduceCtorEq,Option.some.injEq] at ho
  rename_i i
  subst ho
  have hn:=hn i (by simp [Ans.news])
  have hp:=MS.put (ob':=Zce ob [(i,some (.set []))]) (w':=w.alloc (.map #[] 0)) hm i (.set []) (.map (some w.heap.size)) (by simp [Zaw]) (fun j hj _=>by simp [Zaw,hj]) (fun h=>absurd hn.1 h)
   (fun b hb=>⟨.inl ((Znr _ _).1 hb),by rw [(Znr _ _).1 hb];simp⟩) rfl rfl rfl (by simp) (fun b hb _=>Go.heap_alloc_old w _ hb)
   (fun _ j oj hj ho=>hn.2.2 j oj (by simpa [Zaw,hj] using ho)) (fun h=>by rw [hn.2.1] at h;cases h)
   (fun _=>⟨_,#[],0,rfl,heap_alloc_new w _,rfl⟩)
  refine ⟨.map (some w.heap.size),w.alloc (.map #[] 0),?_,_,fun k hk=>Zbi _ _ (by simpa [Ans.news] using hk),hp.1,.mapr i _ (Zav _ _ _),hp.2⟩
  simp [Instr.makeMap,newObj,Sem.run]
def Zkm (P:Program) (t:TypeId) (an:Ans) (ob:Nat→Option Ob) (x ix:AV) (ok:Bool):Option Out:=match ok,x,ix with
 |false,.mapr i,.val (.string s)=>match ob i with
  |some (.set ks)=>bif Zrm P t then (match an with
   | .dec b=>some {r:= .val (.bool b),c:=some (match b with|true=>s∈ks|false=>¬ s∈ks)}
   |_=>some {r:= .val (.bool (memB s ks))}) else none
  |_=>none
 |_,_,_=>none
theorem Zls {P:Program} {t:TypeId} {w:World} {r ck:Nat} {es:Array MapEntry} {ks:List ByteArray} (ht:Zrm P t=true) (h1:w.heap[r]? =some (.map es ck)) (h2:Zqe ks es) (s:ByteArray):(Instr.lookup t (.map (some r)) (.string s) false).run P w= .ok (.bool (memB s ks)) w:=by
 obtain ⟨k,e,hu,hk,hz⟩:=Zqd ht
 have hc:∀em,(Instr.checkKey em 10000 k (.string s)).run P w= .ok () w:=fun em=>MapKept.run_checkKey hk (by simp [MapKept.IsKey]) em 9999
 obtain ⟨f1,f2⟩:=Zsw h2 s
 by_cases hs:s∈ks
 ·obtain ⟨j,hj⟩:=f1 hs
  rw [Zns.2 hs]
  simp [Instr.lookup,run_underlying hu,MapKept.run_getObj_map h1,hc,MapKept.run_findKey hk hj,Result.andThen]
 ·rw [Zwq hs]
  simp [Instr.lookup,run_underlying hu,MapKept.run_getObj_map h1,hc,MapKept.run_findKey hk (f2 hs),hz,Result.andThen]
theorem Rel.mapr_of {κ:Nat→Value} {w:World} {S:Bool→Nat→Prop} {i:Nat} {v:Value} (h:Rel κ w S (.mapr i) v):v=κ i:=by
 cases h with
 |tree _ _ h=>cases h
 |mapr _ r hκ=>exact hκ.symm
theorem Zno {P:Program} {t:TypeId} {an:Ans} {x ix:AV} {ok:Bool} {vx vi:Value} {B:Base} {κ:Nat→Value} {ob obr:Nat→Option Ob} {w:World} {out:Out} (ho:Zkm P t an obr x ix ok=some out) (hc:out.cond) (hm:MS B κ ob w) (hsub:∀i o,obr i=some o→ob i=some o)
  (hx:Rel κ w (SS B κ ob w) x vx) (hi:Rel κ w (SS B κ ob w) ix vi):out.wr=[]∧∃v,(Instr.lookup t vx vi ok).run P w= .ok v w∧Rel κ w (SS B κ ob w) out.r v:=by
 unfold Zkm at ho
 split at ho
 ·rename_i i s
  have hv:=hx.mapr_of
  have hw:=hi.val_of
  subst hw
  split at ho
  ·rename_i ks hoi
   cases hb:Zrm P t with
   |false=>rw [hb] at ho;cases ho
   |true=>
    rw [hb] at ho
    simp only [cond_true] at ho
    obtain ⟨r,es,ck,e1,e2,e3⟩:∃r es ck,κ i= .map (some r)∧w.heap[r]? =some (.map es ck)∧Zqe ks es:=hm.obj i _ (hsub i _ hoi)
    have hr:=Zls hb e2 e3 s
    rw [hv,e1]
    split at ho
    ·rename_i b
     cases ho
     refine ⟨rfl,_,hr,?_⟩
     cases b with
     |true=>have hc:s∈ks:=hc;rw [Zns.2 hc];exact .tree _ _ (.val _)
     |false=>have hc:¬ s∈ks:=hc;rw [Zwq hc];exact .tree _ _ (.val _)
    ·cases ho
     exact ⟨rfl,_,hr,.tree _ _ (.val _)⟩
  ·cases ho
 ·cases ho
def Zkn (P:Program) (t:TypeId) (ob:Nat→Option Ob) (m k x:AV):Option Out:=match m,k,x with
 | .mapr i,.val (.string s),.val (.bool true)=>match ob i with
  |some (.set ks)=>bif Zrm P t then some {r:= .any,wr:=[(i,some (.set (ks++[s])))],c:=some (¬ s∈ks)} else none
  |_=>none
 |_,_,_=>none
theorem Znp {P:Program} {t:TypeId} {m k x:AV} {vm vk vx:Value} {B:Base} {κ:Nat→Value} {ob obr:Nat→Option Ob} {w:World} {out:Out} (ho:Zkn P t obr m k x=some out) (hc:out.cond) (hm:MS B κ ob w) (hsub:∀i o,obr i=some o→ob i=some o)
  (h1:Rel κ w (SS B κ ob w) m vm) (h2:Rel κ w (SS B κ ob w) k vk) (h3:Rel κ w (SS B κ ob w) x vx) (news:List Nat):∃w',(Instr.mapUpdate t vm vk vx).run P w= .ok () w'∧Good B κ ob w news out undef w':=by
 unfold Zkn at ho
 split at ho
 ·rename_i i s
  have hv:=h1.mapr_of
  have hw:=h2.val_of
  have hu:=h3.val_of
  subst hw
  subst hu
  split at ho
  ·rename_i ks hoi
   cases hb:Zrm P t with
   |false=>rw [hb] at ho;cases ho
   |true=>
    rw [hb] at ho
    simp only [cond_true,Option.some.injEq] at ho
    subst ho
    have hc:¬ s∈ks:=hc
    have hoi':=hsub i _ hoi
    obtain ⟨r,es,ck,e1,e2,e3⟩:∃r es ck,κ i= .map (some r)∧w.heap[r]? =some (.map es ck)∧Zqe ks es:=hm.obj i _ hoi'
    obtain ⟨kt,et,hut,hkt,hz⟩:=Zqd hb
    have hck:∀em,(Instr.checkKey em 10000 kt (.string s)).run P w= .ok () w:=fun em=>MapKept.run_checkKey hkt (by simp [MapKept.IsKey]) em 9999
    have hf:=(Zsw e3 s).2 hc
    have hset:=MapKept.heap_set (o':= .map (es.push {key:= .string s,val:= .bool true,born:=ck}) (ck+1)) e2
    have hrw:r<w.heap.size:=(Array.getElem?_eq_some_iff.1 e2).1
    have hne:ob i≠none:=by rw [hoi'];simp
    have hp:=MS.put (ob':=Zce ob [(i,some (.set (ks++[s])))]) (w':= {w with heap:=w.heap.setIfInBounds r (.map (es.push {key:= .string s,val:= .bool true,born:=ck}) (ck+1))}) hm i (.set (ks++[s])) (.map (some r)) (by simp [Zaw]) (fun j hj _=>by simp [Zaw,hj]) (fun _=>e1.symm)
     (fun b hb=>⟨.inr ⟨i,hne,.inl rfl,by rw [e1];exact hb⟩,by rw [(Znr _ _).1 hb];simpa using hrw⟩) rfl rfl rfl (by simp) (fun b _ hb=>hset.2 b fun e=>hb ((Znr _ _).2 e))
     (fun h=>absurd h hne) (fun _=>e1.symm)
     (fun _=>⟨r,_,_,rfl,hset.1,by
      unfold Zqe at e3⊢
      rw [Array.toList_push,List.map_append,e3,List.map_append];rfl⟩)
    refine ⟨_,?_,_,fun l _=> ?_,hp.1,.tree _ _ (.any _),hp.2⟩
    ·rw [hv,e1]
     simp [Instr.mapUpdate,run_underlying hut,MapKept.run_getObj_map e2,hck,MapKept.run_findKey hkt hf,MapKept.run_setObj_map _ e2,Result.andThen]
    ·by_cases e:l=i
     ·subst e;rw [Zav,e1]
     ·exact Zbi _ _ e
  ·cases ho
 ·cases ho
end Go.Proofs.YtnlfghpgfjlblaaDoor.Ax
