/- The abstract run's other operations: building, making, appending, indexing, slicing. Plain lemmas on the model. No conditions. -/
import Derived.Test.YtnlfghpgfjlblaaDoorAxD
namespace Go.Proofs.YtnlfghpgfjlblaaDoor.Ax
open Go.RowKit
set_option linter.unusedVariables false
set_option linter.unusedSimpArgs false
def Zrn (P:Program) (fs:Array Field) (i:Nat):Option (Nat×Nat):=match fs[i]? with
 |some f=>match Zds P f.type with
  |some n=>some (f.offset,n)
  |none=>none
 |none=>none
theorem Zud {P:Program} (w:World):∀(fs:List Field),(fs.all fun f=>(Zds P f.type).isSome)=true→
  (fs.mapM fun f=>(do pure (f.offset,←sizeOf f.type):Sem (Nat×Nat))).run P w= .ok (fs.map fun f=>(f.offset,(Zds P f.type).getD 0)) w:=by
 intro fs
 induction fs with
 |nil=>intro _;simp
 |cons f fs ih=>
  intro h
  simp only [List.all_cons,Bool.and_eq_true] at h
  obtain ⟨n,hn⟩:=Option.isSome_iff_exists.1 h.1
  have ih':=ih h.2
  simp only [List.mapM_cons,Sem.run_bind,Zaz hn,Result.andThen_ok,Sem.run_pure,List.map_cons,hn,Option.getD_some]
  rw [ih']
  rfl
def Zni (P:Program) (t:TypeId) (parts:List (Nat×AV)):Option Out:=
 match P.underlying t,Zpv P t with
 |some (.struct fs),some z=>bif fs.toList.all (fun f=>(Zds P f.type).isSome) then (match Zlw (Zrn P fs) z parts with
  |some cs=>some {r:= .agg cs}
  |none=>none) else none
 |some (.array _ e),some z=>match Zds P e with
  |some n=>(match Zlw (fun i=>some (i*n,n)) z parts with
   |some cs=>some {r:= .agg cs}
   |none=>none)
  |none=>none
 |_,_=>none
theorem Zpw {P:Program} {t:TypeId} {κ:Nat→Value} {w:World} {S:Bool→Nat→Prop} {ρ:Operand→Value} {ev:Operand→AV} (hev:∀x,Rel κ w S (ev x) (ρ x)) {parts:Array (Nat×Operand)} {out:Out}
  (ho:Zni P t (parts.toList.map fun p=>(p.1,ev p.2))=some out):out.wr=[]∧∃v,Rel κ w S out.r v∧(Instr.build t (parts.map fun p=>(p.1,ρ p.2))).run P w= .ok v w:=by
 unfold Zni at ho
 split at ho
 ·rename_i fs z hu hz
  cases hb:fs.toList.all (fun f=>(Zds P f.type).isSome) with
  |false=>simp [hb] at ho
  |true=>
   simp only [hb,cond_true] at ho
   split at ho
   ·rename_i cs hf
    cases ho
    obtain ⟨zv,hz1,hz2⟩:=Zha hz
    subst hz2
    obtain ⟨cur',h1,h2⟩:=Zny (κ:=κ) (w:=w) (S:=S) hev parts.toList _ _ zv.cells hf (RelL.vals _)
    have hp:=Zud (P:=P) w fs.toList hb
    have hpl:(fun i=>(fs.toList.map fun f=>(f.offset,(Zds P f.type).getD 0)).toArray[i]?)=Zrn P fs:=by
     funext i
     simp only [Zrn,List.getElem?_toArray,List.getElem?_map,Array.getElem?_toList]
     cases hfi:fs[i]? with
     |none=>rfl
     |some f=>
      have hm:f∈fs.toList:=by rw [Array.mem_toList_iff];exact Array.mem_of_getElem? hfi
      obtain ⟨n,hn⟩:=Option.isSome_iff_exists.1 (List.all_eq_true.1 hb f hm)
      simp [hn]
    refine ⟨rfl,.agg cur',RelL.agg (by simpa using h2),?_⟩
    unfold Instr.build
    simp only [Sem.run_bind,hz1,Result.andThen_ok,run_underlying hu,Array.mapM_eq_mapM_toList,Sem.run_map,Functor.map]
    rw [Sem.run_bind',hp]
    simp only [Result.andThen_ok,Function.comp,Sem.run_pure',Array.toList_map]
    rw [hpl,h1]
    rfl
   ·cases ho
 ·rename_i ln e z hu hz
  split at ho
  ·rename_i n hs
   split at ho
   ·rename_i cs hf
    cases ho
    obtain ⟨zv,hz1,hz2⟩:=Zha hz
    subst hz2
    obtain ⟨cur',h1,h2⟩:=Zny (κ:=κ) (w:=w) (S:=S) hev parts.toList _ _ zv.cells hf (RelL.vals _)
    refine ⟨rfl,.agg cur',RelL.agg (by simpa using h2),?_⟩
    unfold Instr.build
    simp only [Sem.run_bind,hz1,Result.andThen_ok,run_underlying hu,Zaz hs,Array.toList_map]
    rw [h1]
    rfl
   ·cases ho
  ·cases ho
 ·cases ho
def offP (P:Program) (s:TypeId) (f:Nat):Option (Nat×TypeId):=match P.underlying s with
 |some (.struct fs)=>match fs[f]? with
  |some f=>match Zds P f.type with
   |some (_+1)=>some (f.offset,f.type)
   |_=>none
  |none=>none
 |_=>none
def Zgy (P:Program) (s:TypeId) (a:AV) (f:Nat):Option Out:=
 match offP P s f with
 |some (off,_)=>match a with
  | .ptr fr cs=>some {r:= .ptr fr (cs.drop off)}
  | .ref i o=>some {r:= .ref i (o+off)}
  | .elt i sz k j=>some {r:= .elt i sz k (j+off)}
  | .relt i p sz k j=>some {r:= .relt i p sz k (j+off)}
  |_=>none
 |none=>none
theorem Zfa {P:Program} {s:TypeId} {f off:Nat} {ft:TypeId} (h:offP P s f=some (off,ft)) (b o:Nat) (w:World):(Instr.fieldAt s (.pointer (some ⟨b,o,none⟩)) f).run P w= .ok (.pointer (some ⟨b,o+off,none⟩)) w:=by
 unfold offP at h
 split at h
 ·rename_i fs hu
  split at h
  ·rename_i fd hf
   split at h
   ·rename_i n hs
    cases h
    simp [Instr.fieldAt,run_underlying hu,hf,Instr.sureAddr,fieldPlace,Zaz hs,Zdj]
   ·cases h
  ·cases h
 ·cases h
theorem Zjo {P:Program} {s:TypeId} {f:Nat} {κ:Nat→Value} {w:World} {S:Bool→Nat→Prop} {a:AV} {va:Value} (h:Rel κ w S a va) {out:Out} (ho:Zgy P s a f=some out):
  out.wr=[]∧∃v,Rel κ w S out.r v∧(Instr.fieldAt s va f).run P w= .ok v w:=by
 unfold Zgy at ho
 split at ho
 ·rename_i off ft hoff
  cases a with
  |ptr fr cs=>
   cases ho
   cases h with
   |tree _ _ h=>cases h with
    |ptr _ _ b o g hS h1 h2=>
     refine ⟨rfl,_,.tree _ _ (.ptr fr (cs.drop off) b (o+off) (fun j=>g (off+j)) hS (fun j hj=> ?_) fun j u hj=>h2 _ u (by simpa using hj)),Zfa hoff b o w⟩
     simp at hj
     rw [Nat.add_assoc]
     exact h1 _ (by omega)
  |ref i o=>
   cases ho
   cases h with
   |tree _ _ h=>cases h
   |ref _ _ b hκ=>exact ⟨rfl,_,.ref i _ b hκ,Zfa hoff b o w⟩
  |elt i sz k j=>
   cases ho
   cases h with
   |tree _ _ h=>cases h
   |elt _ _ _ _ b n c hκ=>exact ⟨rfl,_,by have:=Rel.elt (w:=w) (S:=S) i sz k (j+off) b n c hκ;rwa [←Nat.add_assoc] at this,Zfa hoff b _ w⟩
  |relt i p sz k j=>
   cases ho
   cases h with
   |tree _ _ h=>cases h
   |relt _ _ _ _ _ b n c vs hκ hvs=>exact ⟨rfl,_,by have:=Rel.relt (w:=w) (S:=S) i p sz k (j+off) b n c vs hκ hvs;rwa [←Nat.add_assoc] at this,Zfa hoff b _ w⟩
  |_=>cases ho
 ·cases ho
def Znl (P:Program) (s:TypeId) (a:AV) (f:Nat):Option Out:=
 match offP P s f,a with
 |some (off,ft),.agg cs=>match Zlp P ft (cs.drop off) with
  |some r=>some {r:=r}
  |none=>none
 |_,_=>none
theorem Ztb {P:Program} {κ:Nat→Value} {w:World} {S:Bool→Nat→Prop} {t:TypeId} {cs:List AV} {vs:Array Value} (hr:RelL κ w S cs vs.toList) {off:Nat} {r:AV} (h:Zlp P t (cs.drop off)=some r):
  ∃v,Rel κ w S r v∧(part t vs off).run P w= .ok v w:=by
 have hl:=hr.1
 simp only [Array.length_toList] at hl
 unfold Zlp at h
 split at h
 ·rename_i n ha hs
  split at h
  ·rename_i hle
   cases h
   refine ⟨.agg (vs.extract off (off+n)),?_,by simp [part,Zga ha,Zaz hs]⟩
   have:=((hr.drop off).take n).agg
   have e:((vs.toList.drop off).take n).toArray=vs.extract off (off+n):=by
    apply Array.ext'
    simp [List.take_drop,Array.toList_extract,List.extract_eq_take_drop]
   rwa [e] at this
  ·cases h
 ·rename_i n ha hs
  obtain ⟨x,hx⟩:∃x,(cs.drop off)[0]? =some x:=by
   cases hd:cs.drop off with
   |nil=>rw [hd] at h;simp at h
   |cons c d=>exact ⟨c,by simp⟩
  have hxr:x=r:=by
   rw [List.head?_eq_getElem?,hx] at h
   exact Option.some.inj h
  subst hxr
  obtain ⟨v,hv,hrel⟩:=(hr.drop off).at_ hx
  simp only [List.getElem?_drop,Nat.add_zero,Array.getElem?_toList] at hv
  exact ⟨v,hrel,by simp [part,Zga ha,hv]⟩
 ·cases h
theorem Zqa {P:Program} {s:TypeId} {f:Nat} {κ:Nat→Value} {w:World} {S:Bool→Nat→Prop} {a:AV} {va:Value} (h:Rel κ w S a va) {out:Out} (ho:Znl P s a f=some out):
  out.wr=[]∧∃v,Rel κ w S out.r v∧(Instr.field s va f).run P w= .ok v w:=by
 unfold Znl at ho
 split at ho
 ·rename_i off ft cs hoff
  split at ho
  ·rename_i r hl
   cases ho
   obtain ⟨vs,rfl,hr⟩:=h.agg_of
   obtain ⟨v,h1,h2⟩:=Ztb (P:=P) hr hl
   refine ⟨rfl,v,h1,?_⟩
   unfold offP at hoff
   split at hoff
   ·rename_i fs hu
    split at hoff
    ·rename_i fd hf
     split at hoff
     ·cases hoff
      simp [Instr.field,run_underlying hu,hf,asAgg,h2]
     ·cases hoff
    ·cases hoff
   ·cases hoff
  ·cases ho
 ·cases ho
def Zqf (P:Program) (t:TypeId):Option (TypeId×Nat):=match P.underlying t with
 |some (.slice e)=>match Zds P e with
  |some n=>some (e,n)
  |none=>none
 |_=>none
theorem Zev {P:Program} {t e:TypeId} {n:Nat} (h:Zqf P t=some (e,n)):P.underlying t=some (.slice e)∧Zds P e=some n:=by
 unfold Zqf at h
 split at h
 ·rename_i e' hu
  split at h
  ·rename_i n' hs
   cases h
   exact ⟨hu,hs⟩
  ·cases h
 ·cases h
def Zgz (P:Program) (t:TypeId) (ob:Nat→Option Ob) (x i:AV):Option Out:=
 match Zqf P t,x,i with
 |some (_,m),.sl fr sz n f,.val (.int _ k)=>bif Nat.beq m sz then some {r:= .ptr fr (f k.toNat),c:=some (0≤k∧k<n)} else none
 |some (_,m),.arr j,.val (.int _ k)=>match ob j with
  |some (.arr sz n _)=>bif Nat.beq m sz then some {r:= .elt j sz k.toNat 0,c:=some (0≤k∧k<n)} else none
  |some (.oar _ sz n _)=>bif Nat.beq m sz then some {r:= .elt j sz k.toNat 0,c:=some (0≤k∧k<n)} else none
  |some (.byt s)=>bif Nat.beq m 1 then some {r:= .elt j 1 k.toNat 0,c:=some (0≤k∧k<s.size)} else none
  |_=>none
 |some (_,m),.row j p,.val (.int _ k)=>match ob j with
  |some (.fam N sz mm _)=>bif Nat.beq m sz then some {r:= .relt j p sz k.toNat 0,c:=some (p<N∧0≤k∧k<mm p)} else none
  |_=>none
 |none,.ref j o,.val (.int _ k)=>match P.underlying t with
  |some (.array n e)=>match Zds P e with
   |some m=>some {r:= .ref j (o+k.toNat*m),c:=some (0≤k∧k<n)}
   |none=>none
  |_=>none
 |_,_,_=>none
theorem Zjp {P:Program} {t:TypeId} {B:Base} {κ:Nat→Value} {ob obr:Nat→Option Ob} {w:World} (hm:MS B κ ob w) (hsub:∀i o,obr i=some o→ob i=some o) {x i:AV} {vx vi:Value}
  (hx:Rel κ w (SS B κ ob w) x vx) (hi:Rel κ w (SS B κ ob w) i vi) {out:Out} (ho:Zgz P t obr x i=some out) (hc:out.cond):
  out.wr=[]∧∃v,Rel κ w (SS B κ ob w) out.r v∧(Instr.indexAt t vx vi).run P w= .ok v w:=by
 unfold Zgz at ho
 split at ho
 ·rename_i e m fr sz n f ki k he
  obtain ⟨hu,hs⟩:=Zev he
  cases hb:Nat.beq m sz with
  |false=>simp [hb] at ho
  |true=>
   simp only [hb,cond_true,Option.some.injEq] at ho
   have hms:=Nat.eq_of_beq_eq_true hb
   subst hms
   subst ho
   obtain ⟨h0,h1⟩:=hc
   obtain rfl:=hi.val_of
   have hlt:k.toNat<n:=by omega
   cases hx with
   |tree _ _ h=>cases h with
    |sl _ _ _ _ b o c g hS a1 a2 a3 a4 a5=>
     refine ⟨rfl,_,.tree _ _ (.ptr fr (f k.toNat) b (o+k.toNat*m) (fun j=>g k.toNat j) hS (fun j hj=> ?_) fun j u hj=>a5 _ _ u hlt hj),?_⟩
     ·rw [a3 _ hlt] at hj;exact (a4 _ _ hlt hj).1
     ·simp [Instr.indexAt,asIntOf,run_underlying hu,h0,h1,Zaz hs,Zdj]
    |sl0=>omega
 ·rename_i e m j ki k he
  obtain ⟨hu,hs⟩:=Zev he
  split at ho
  ·rename_i sz n f hoj
   cases hb:Nat.beq m sz with
   |false=>simp [hb] at ho
   |true=>
    simp only [hb,cond_true,Option.some.injEq] at ho
    have hms:=Nat.eq_of_beq_eq_true hb
    subst hms
    subst ho
    obtain ⟨h0,h1⟩:=hc
    obtain rfl:=hi.val_of
    have hlt:k.toNat<n:=by omega
    cases hx with
    |tree _ _ h=>cases h
    |arr _ A n' c' hκ=>
     have hobj:=hm.obj j _ (hsub j _ hoj)
     rw [hκ] at hobj
     rcases hobj with ⟨e0,_⟩|⟨b,cur,e',c,e1,e2⟩
     ·omega
     ·cases e1
      refine ⟨rfl,_,.elt j m k.toNat 0 b n c' hκ,?_⟩
      simp [Instr.indexAt,asIntOf,run_underlying hu,h0,h1,Zaz hs,Zdj]
  ·rename_i L sz n f hoj
   cases hb:Nat.beq m sz with
   |false=>simp [hb] at ho
   |true=>
    simp only [hb,cond_true,Option.some.injEq] at ho
    have hms:=Nat.eq_of_beq_eq_true hb
    subst hms
    subst ho
    obtain ⟨h0,h1⟩:=hc
    obtain rfl:=hi.val_of
    have hlt:k.toNat<n:=by omega
    cases hx with
    |tree _ _ h=>cases h
    |arr _ A n' c' hκ=>
     have hobj:=(hm.obj j _ (hsub j _ hoj)).2
     rw [hκ] at hobj
     rcases hobj with ⟨e0,_⟩|⟨b,cur,e',c,e1,e2⟩
     ·omega
     ·cases e1
      refine ⟨rfl,_,.elt j m k.toNat 0 b n c' hκ,?_⟩
      simp [Instr.indexAt,asIntOf,run_underlying hu,h0,h1,Zaz hs,Zdj]
  ·rename_i s hoj
   cases hb:Nat.beq m 1 with
   |false=>simp [hb] at ho
   |true=>
    simp only [hb,cond_true,Option.some.injEq] at ho
    have hms:=Nat.eq_of_beq_eq_true hb
    subst hms
    subst ho
    obtain ⟨h0,h1⟩:=hc
    obtain rfl:=hi.val_of
    cases hx with
    |tree _ _ h=>cases h
    |arr _ A n' c' hκ=>
     have hobj:=hm.obj j _ (hsub j _ hoj)
     rw [hκ] at hobj
     obtain ⟨b,cur,e',c,e1,e2⟩:=hobj
     cases e1
     refine ⟨rfl,_,.elt j 1 k.toNat 0 b s.size c' hκ,?_⟩
     simp [Instr.indexAt,asIntOf,run_underlying hu,h0,h1,Zaz hs,Zdj]
  ·cases ho
 ·rename_i e m j p ki k he
  obtain ⟨hu,hs⟩:=Zev he
  split at ho
  ·rename_i N sz mm g hoj
   cases hb:Nat.beq m sz with
   |false=>simp [hb] at ho
   |true=>
    simp only [hb,cond_true,Option.some.injEq] at ho
    have hms:=Nat.eq_of_beq_eq_true hb
    subst hms
    subst ho
    obtain ⟨hpN,h0,h1⟩:=hc
    obtain rfl:=hi.val_of
    have hlt:k.toNat<mm p:=by omega
    cases hx with
    |tree _ _ h=>cases h
    |row _ _ vs A n' c' hκ hvs=>
     obtain ⟨vs',d1,d2,d3,d4⟩:=hm.obj j _ (hsub j _ hoj)
     rw [hκ] at d1
     cases d1
     rcases d3 p _ hvs with ⟨e0,_⟩|⟨b,cur,e',c,e1,e2⟩
     ·omega
     ·cases e1
      refine ⟨rfl,_,.relt j p m k.toNat 0 b _ c' vs hκ hvs,?_⟩
      simp [Instr.indexAt,asIntOf,run_underlying hu,h0,h1,Zaz hs,Zdj]
  ·cases ho
 ·split at ho
  ·rename_i n e hu
   split at ho
   ·rename_i m hs
    cases ho
    obtain ⟨h0,h1⟩:=hc
    obtain rfl:=hi.val_of
    cases hx with
    |tree _ _ h=>cases h
    |ref _ _ b hκ=>
     refine ⟨rfl,_,.ref _ _ b hκ,?_⟩
     simp [Instr.indexAt,Instr.sureAddr,asIntOf,run_underlying hu,h0,h1,Zaz hs,Zdj]
   ·cases ho
  ·cases ho
 ·cases ho
def Znm (P:Program) (t:TypeId) (x i:AV):Option Out:=
 match P.underlying t,x,i with
 |some .string,.val (.string s),.val (.int _ k)=>some {r:= .val (.int .u8 (bAt s k.toNat)),c:=some (0≤k∧k<s.size)}
 |some (.array n e),.agg cs,.val (.int _ k)=>match Zds P e with
  |some m=>match Zlp P e (cs.drop (k.toNat*m)) with
   |some r=>some {r:=r,c:=some (0≤k∧k<n)}
   |none=>none
  |none=>none
 |_,_,_=>none
theorem Zqb {P:Program} {t:TypeId} {κ:Nat→Value} {w:World} {S:Bool→Nat→Prop} {x i:AV} {vx vi:Value} (hx:Rel κ w S x vx) (hi:Rel κ w S i vi) {out:Out} (ho:Znm P t x i=some out) (hc:out.cond):
  out.wr=[]∧∃v,Rel κ w S out.r v∧(Instr.index t vx vi).run P w= .ok v w:=by
 unfold Znm at ho
 split at ho
 ·rename_i s ki k hu
  cases ho
  obtain ⟨h0,h1⟩:=hc
  obtain rfl:=hx.val_of
  obtain rfl:=hi.val_of
  refine ⟨rfl,_,Rel.of_val _,?_⟩
  have hlt:k.toNat<s.size:=by omega
  have hg:s[k.toNat]? =some s[k.toNat]:=getElem?_pos s k.toNat hlt
  have hb:bAt s k.toNat=(s[k.toNat].toNat:Int):=by
   unfold bAt
   have:s.data.toList.getD k.toNat 0=s[k.toNat]:=by
    rw [List.getD_eq_getElem?_getD,List.getElem?_eq_getElem (by simpa using hlt)]
    rfl
   rw [this]
  simp [Instr.index,asIntOf,run_underlying hu,h0,hg,hb]
 ·rename_i n e cs ki k hu
  split at ho
  ·rename_i m hs
   split at ho
   ·rename_i r hl
    cases ho
    obtain ⟨h0,h1⟩:=hc
    obtain rfl:=hi.val_of
    obtain ⟨vs,rfl,hr⟩:=hx.agg_of
    obtain ⟨v,q1,q2⟩:=Ztb (P:=P) hr hl
    exact ⟨rfl,v,q1,by simp [Instr.index,asIntOf,run_underlying hu,h0,h1,Zaz hs,q2]⟩
   ·cases ho
  ·cases ho
 ·cases ho
end Go.Proofs.YtnlfghpgfjlblaaDoor.Ax
