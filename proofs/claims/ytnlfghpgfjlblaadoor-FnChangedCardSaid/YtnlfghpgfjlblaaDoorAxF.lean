/- The abstract run's slices: making, appending, cutting. Plain lemmas on the model. No conditions. -/
import Derived.Test.YtnlfghpgfjlblaaDoorAxE
namespace Go.Proofs.YtnlfghpgfjlblaaDoor.Ax
open Go.RowKit
set_option linter.unusedVariables false
set_option linter.unusedSimpArgs false
def lenA (ob:Nat→Option Ob):AV→Option Nat
 | .val (.string s)=>some s.size
 | .val (.slice _ n _)=>some n
 | .sl _ _ n _=>some n
 | .e0=>some 0
 | .arr i=>match ob i with
  |some (.arr _ n _)=>some n
  |some (.oar _ _ n _)=>some n
  |some (.byt s)=>some s.size
  |_=>none
 |_=>none
def Zwu (ob:Nat→Option Ob):AV→Option (Nat×Prop)
 | .row i p=>match ob i with
  |some (.fam N _ m _)=>some (m p,p<N)
  |_=>none
 |_=>none
def Znx (P:Program) (t:TypeId) (x:AV):Bool:=match P.underlying t,x with
 |some .string,.val (.string _)=>true
 |some (.slice _),.val (.string _)=>false
 |some (.slice _),.val (.slice _ _ _)=>true
 |some (.slice _),.val _=>false
 |some (.slice _),_=>true
 |_,_=>false
def Zwk (P:Program) (t:TypeId) (ob:Nat→Option Ob) (x:AV):Option Out:=
 match Znx P t x,lenA ob x with
 |true,some n=>some {r:= .val (.int .i64 n)}
 |true,none=>match Zwu ob x with
  |some (n,c)=>some {r:= .val (.int .i64 n),c:=some c}
  |none=>none
 |_,_=>none
theorem Ztz {P:Program} {t ty:TypeId} {B:Base} {κ:Nat→Value} {ob obr:Nat→Option Ob} {w:World} (hm:MS B κ ob w) (hsub:∀i o,obr i=some o→ob i=some o) {x:AV} {vx:Value}
  (hx:Rel κ w (SS B κ ob w) x vx) {out:Out} (ho:Zwk P t obr x=some out) (hc:out.cond):out.wr=[]∧∃v,Rel κ w (SS B κ ob w) out.r v∧(Builtin.len_ #[t] ty #[vx]).run P w= .ok v w:=by
 unfold Zwk at ho
 split at ho
 ·rename_i n hs hl
  cases ho
  refine ⟨rfl,_,Rel.of_val _,?_⟩
  cases x with
  |val v=>
   obtain rfl:=hx.val_of
   cases vx<;>simp only [lenA,reduceCtorEq,Option.some.injEq] at hl
   case string s=>
    subst hl
    unfold Znx at hs
    split at hs<;>simp_all [Builtin.len_,run_underlying,goInt]
   case slice A n' c=>
    subst hl
    unfold Znx at hs
    split at hs<;>simp_all [Builtin.len_,run_underlying,goInt]
  |sl fr sz n' f=>
   simp only [lenA,Option.some.injEq] at hl
   subst hl
   unfold Znx at hs
   cases hx with
   |tree _ _ h=>cases h with
    |sl=>split at hs<;>simp_all [Builtin.len_,run_underlying,goInt]
    |sl0=>split at hs<;>simp_all [Builtin.len_,run_underlying,goInt]
  |e0=>
   simp only [lenA,Option.some.injEq] at hl
   subst hl
   unfold Znx at hs
   cases hx with
   |tree _ _ h=>cases h with
    |e0=>split at hs<;>simp_all [Builtin.len_,run_underlying,goInt]
  |arr i=>
   simp only [lenA] at hl
   split at hl
   ·rename_i sz n' f hoi
    cases hl
    unfold Znx at hs
    cases hx with
    |tree _ _ h=>cases h
    |arr _ A n' c hκ=>
     have hobj:=hm.obj i _ (hsub i _ hoi)
     rw [hκ] at hobj
     rcases hobj with ⟨e0,A',e1⟩|⟨b,cur,e',c',e1,e2⟩
     ·cases e1;subst e0;split at hs<;>simp_all [Builtin.len_,run_underlying,goInt]
     ·cases e1;split at hs<;>simp_all [Builtin.len_,run_underlying,goInt]
   ·rename_i L sz' n' f hoi
    cases hl
    unfold Znx at hs
    cases hx with
    |tree _ _ h=>cases h
    |arr _ A n' c hκ=>
     have hobj:=(hm.obj i _ (hsub i _ hoi)).2
     rw [hκ] at hobj
     rcases hobj with ⟨e0,A',e1⟩|⟨b,cur,e',c',e1,e2⟩
     ·cases e1;subst e0;split at hs<;>simp_all [Builtin.len_,run_underlying,goInt]
     ·cases e1;split at hs<;>simp_all [Builtin.len_,run_underlying,goInt]
   ·rename_i s hoi
    cases hl
    unfold Znx at hs
    cases hx with
    |tree _ _ h=>cases h
    |arr _ A n' c hκ=>
     have hobj:=hm.obj i _ (hsub i _ hoi)
     rw [hκ] at hobj
     obtain ⟨b,cur,e',c',e1,e2⟩:=hobj
     cases e1;split at hs<;>simp_all [Builtin.len_,run_underlying,goInt]
   ·cases hl
  |_=>simp [lenA] at hl
 ·rename_i hs hl
  split at ho
  ·rename_i n c hrl
   cases ho
   have hcp:c:=hc
   refine ⟨rfl,_,Rel.of_val _,?_⟩
   cases x with
   |row i p=>
    simp only [Zwu] at hrl
    split at hrl
    ·rename_i N sz m g hoi
     simp only [Option.some.injEq,Prod.mk.injEq] at hrl
     obtain ⟨rfl,rfl⟩:=hrl
     unfold Znx at hs
     cases hx with
     |tree _ _ h=>cases h
     |row _ _ vs A n' c hκ hvs=>
      obtain ⟨vs',d1,d2,d3,d4⟩:=hm.obj i _ (hsub i _ hoi)
      rw [hκ] at d1
      cases d1
      rcases d3 p _ hvs with ⟨e0,A',e1⟩|⟨b,cur,e',c',e1,e2⟩
      ·cases e1;rw [e0];split at hs<;>simp_all [Builtin.len_,run_underlying,goInt]
      ·cases e1;split at hs<;>simp_all [Builtin.len_,run_underlying,goInt]
    ·cases hrl
   |_=>simp [Zwu] at hrl
  ·cases ho
 ·cases ho
theorem Zsx (i sz j:Nat) (hj:j<sz):(i*sz+j) % sz=j:=by
 rw [Nat.add_comm,Nat.add_mul_mod_self_right,Nat.mod_eq_of_lt hj]
theorem Zwv (z:Array Value) (n i sz j:Nat) (hz:z.size=sz) (hi:i<n) (hj:j<sz):(madeCells z (n*sz))[i*sz+j]? =some (z[j]!):=by
 have hlt:i*sz+j<n*sz:=by
  have:(i+1)*sz≤n*sz:=Nat.mul_le_mul_right _ (by omega)
  rw [Nat.succ_mul] at this
  omega
 simp [madeCells,hlt,hz,Zsx i sz j hj]
def Zrf (P:Program) (t:TypeId) (an:Ans) (l c:AV):Option Out:=
 match Zqf P t,l,c with
 |some (e,sz),.val (.int _ l),.val (.int _ c)=>match Zpv P e,P.info? e with
  |some z,some i=>bif Nat.beq z.length sz&&z.all Zll then Zqg an sz l.toNat (fun _=>z) (some (0≤l∧l≤c∧(i.bytes:Int)*c≤281474976710656∧c≤9223372036854775807)) else none
  |_,_=>none
 |_,_,_=>none
theorem Zrk {P:Program} {t:TypeId} {B:Base} {κ:Nat→Value} {ob:Nat→Option Ob} {w:World} (hm:MS B κ ob w) {an:Ans} (hn:∀i∈an.news,Zes B ob i) {l c:AV} {vl vc:Value}
  (hl:Rel κ w (SS B κ ob w) l vl) (hcr:Rel κ w (SS B κ ob w) c vc) {out:Out} (ho:Zrf P t an l c=some out) (hc:out.cond):
  ∃v w',(Instr.makeSlice t vl vc).run P w= .ok v w'∧Good B κ ob w an.news out v w':=by
 unfold Zrf at ho
 split at ho
 ·rename_i e sz kl l kc c he
  obtain ⟨hu,hs⟩:=Zev he
  split at ho
  ·rename_i z i hz hi
   cases hb:(Nat.beq z.length sz&&z.all Zll) with
   |false=>simp [hb] at ho
   |true=>
    simp only [hb,cond_true] at ho
    simp only [Bool.and_eq_true] at hb
    obtain ⟨hb,hza⟩:=hb
    have hzl:=Nat.eq_of_beq_eq_true hb
    obtain rfl:=hl.val_of
    obtain rfl:=hcr.val_of
    have hcc:0≤l∧l≤c∧(i.bytes:Int)*c≤281474976710656∧c≤9223372036854775807:=by
     unfold Zqg at ho
     split at ho
     ·cases ho;exact hc
     ·cases ho
    obtain ⟨c0,c1,c2,c3⟩:=hcc
    unfold Zpv at hz
    rw [hi] at hz
    simp only at hz
    split at hz
    ·rename_i zv hzv
     cases hz
     have hsz:i.size=sz:=by simpa [Zds,hi] using hs
     have hr:=run_make (P:=P) w t e i zv hu hi hzv kl kc l c c0 c1 c2 c3
     have hzs:zv.cells.size=sz:=by simpa using hzl
     refine ⟨_,_,hr,Zsz hm hn e (by omega) (by unfold maxLen;omega) (by rw [size_madeCells,hsz];exact Nat.le_refl _) (fun q hq=>⟨by simpa using hzs,fun j u hj=> ?_⟩) ho⟩
     have hjl:j<sz:=by rw [←hzl];exact (List.getElem?_eq_some_iff.1 hj).1
     rw [hsz,Zwv _ _ _ _ _ hzs (by omega) hjl]
     simp only [List.getElem?_map] at hj
     refine ⟨_,rfl,?_⟩
     have:zv.cells.toList[j]? =some zv.cells[j]! :=by
      rw [Array.getElem?_toList,Array.getElem?_eq_getElem (by omega)]
      simp [hzs,hjl]
     rw [this] at hj
     cases hj
     refine ⟨Zjt (κ:=κ) (w:=w) (S:=SS B κ ob w) (Rel.of_val _) (List.all_eq_true.1 hza _ (List.mem_map.2 ⟨_,List.mem_of_getElem? this,rfl⟩)),.val _⟩
    ·cases hz
  ·cases ho
 ·cases ho
def repZ (z:List AV):Nat→List AV
 |0=>[]
 |n+1=>z++repZ z n
theorem Zib (z:List AV) (n:Nat):(repZ z n).length=n*z.length:=by
 induction n with
 |zero=>simp [repZ]
 |succ n ih=>simp [repZ,ih,Nat.succ_mul];omega
theorem Zta (z:List AV):∀(n i j:Nat),i<n→j<z.length→(repZ z n)[i*z.length+j]? =z[j]?
 |n+1,0,j,_,hj=>by simp [repZ,List.getElem?_append_left hj]
 |n+1,i+1,j,hi,hj=>by
  rw [repZ,Nat.succ_mul,List.getElem?_append_right (by omega)]
  rw [show i*z.length+z.length+j-z.length=i*z.length+j by omega]
  exact Zta z n i j (by omega) hj
theorem AV.idsL_of {cs:List AV} {i:Nat} (h:i∈AV.idsL cs):∃(j:Nat) (u:AV),cs[j]? =some u∧i∈u.ids:=by
 induction cs with
 |nil=>simp [AV.idsL] at h
 |cons c r ih=>
  simp only [AV.idsL,List.mem_append] at h
  rcases h with h|h
  ·exact ⟨0,c,rfl,h⟩
  ·obtain ⟨j,u,h1,h2⟩:=ih h
   exact ⟨j+1,u,by simpa using h1,h2⟩
def Zwl (P:Program) (t:TypeId) (an:Ans) (n:Nat) (parts:List (Nat×AV)):Option Out:=
 match Zqf P t with
 |some (e,sz)=>match Zpv P e with
  |some z=>bif Nat.beq z.length sz&&Nat.ble (n*sz) 16777216&&Nat.ble 1 sz then (match Zlw (fun i=>some (i*sz,sz)) (repZ z n) parts with
   |some cs=>bif cs.all Zll then (bif (AV.idsL cs).isEmpty then Zqg an sz n (fun q=>(cs.drop (q*sz)).take sz) none else (bif an.news.all (fun i=> !((AV.idsL cs).contains i)) then Zww an (AV.idsL cs) sz n (fun q=>(cs.drop (q*sz)).take sz) none else none)) else none
   |none=>none) else none
  |none=>none
 |none=>none
theorem Ztv {P:Program} {t:TypeId} {B:Base} {κ:Nat→Value} {ob:Nat→Option Ob} {w:World} (hm:MS B κ ob w) {an:Ans} (hn:∀i∈an.news,Zes B ob i) {n:Nat} {ρ:Operand→Value} {ev:Operand→AV}
  (hev:∀x,Rel κ w (SS B κ ob w) (ev x) (ρ x)) {parts:Array (Nat×Operand)} {out:Out} (ho:Zwl P t an n (parts.toList.map fun p=>(p.1,ev p.2))=some out):
  ∃v w',(Instr.buildSlice t n (parts.map fun p=>(p.1,ρ p.2))).run P w= .ok v w'∧Good B κ ob w an.news out v w':=by
 unfold Zwl at ho
 split at ho
 ·rename_i e sz he
  obtain ⟨hu,hs⟩:=Zev he
  split at ho
  ·rename_i z hz
   cases hb:(Nat.beq z.length sz&&Nat.ble (n*sz) 16777216&&Nat.ble 1 sz) with
   |false=>simp [hb] at ho
   |true=>
    simp only [hb,cond_true] at ho
    simp only [Bool.and_eq_true,Nat.beq_eq,Nat.ble_eq] at hb
    obtain ⟨⟨b1,b2⟩,b3⟩:=hb
    split at ho
    ·rename_i cs hf
     cases hca:cs.all Zll with
     |false=>simp [hca] at ho
     |true=>
      simp only [hca,cond_true] at ho
      obtain ⟨zv,hz1,hz2⟩:=Zha hz
      have hzs:zv.cells.size=sz:=by rw [hz2] at b1;simpa using b1
      have hzr:RelL κ w (SS B κ ob w) (repZ z n) (madeCells zv.cells (n*sz)).toList:=by
       refine ⟨by rw [Zib,b1,Array.length_toList,size_madeCells],fun j u x hj hx=> ?_⟩
       have hjl:j<n*sz:=by rw [←b1,←Zib];exact (List.getElem?_eq_some_iff.1 hj).1
       have hq:j/sz<n:=Nat.div_lt_of_lt_mul (by rw [Nat.mul_comm];exact hjl)
       have hr:j % sz<sz:=Nat.mod_lt _ b3
       have hdm:j/sz*sz+j % sz=j:=by rw [Nat.mul_comm];exact Nat.div_add_mod j sz
       rw [←hdm,Array.getElem?_toList,Zwv _ _ _ _ _ hzs hq hr] at hx
       have:=Zta z n (j/sz) (j % sz) hq (by omega)
       rw [b1,hdm,hj] at this
       have hz3:z[j % sz]? =some (.val zv.cells[j % sz]!):=by
        rw [hz2,List.getElem?_map,Array.getElem?_toList,Array.getElem?_eq_getElem (by omega)]
        simp [hzs,hr]
       rw [hz3] at this
       cases this
       cases hx
       exact Rel.of_val _
      obtain ⟨cur',h1,h2⟩:=Zny (κ:=κ) (w:=w) (S:=SS B κ ob w) hev parts.toList _ _ (madeCells zv.cells (n*sz)) hf hzr
      have hlen:cs.length=n*sz:=by
       have a1:=h2.1
       have hfs:∀(ps:List (Nat×AV)) (cs ds:List AV),Zlw (fun i=>some (i*sz,sz)) cs ps=some ds→ds.length=cs.length:=by
        intro ps
        induction ps with
        |nil=>intro cs ds h;simp only [Zlw,Option.some.injEq] at h;rw [h]
        |cons p ps ih=>
         intro cs ds h
         obtain ⟨i,a⟩:=p
         simp only [Zlw] at h
         split at h
         ·rename_i off size us hp hc
          cases hb:(Nat.beq us.length size&&Nat.ble (off+size) cs.length) with
          |false=>simp [hb] at h
          |true=>
           simp only [hb,cond_true] at h
           simp only [Bool.and_eq_true,Nat.beq_eq,Nat.ble_eq] at hb
           exact (ih _ _ h).trans (Ziy (by omega))
         ·cases h
       rw [hfs _ _ _ hf,Zib,b1]
      have hfin:∀q,q<n→((cs.drop (q*sz)).take sz).length=sz∧∀(j:Nat) (u:AV),((cs.drop (q*sz)).take sz)[j]? =some u→∃x,cur'[q*sz+j]? =some x∧x.oneCell'=true∧Rel κ w (SS B κ ob w) u x:=fun q hq=>by
       have hqs:(q+1)*sz≤n*sz:=Nat.mul_le_mul_right _ (by omega)
       rw [Nat.succ_mul] at hqs
       refine ⟨by simp;omega,fun j u hj=> ?_⟩
       rw [List.getElem?_take] at hj
       split at hj
       ·rw [List.getElem?_drop] at hj
        obtain ⟨x,hx,hr⟩:=h2.at_ hj
        exact ⟨x,by simpa using hx,Zjt hr (List.all_eq_true.1 hca _ (List.mem_of_getElem? hj)),hr⟩
       ·cases hj
      have hsz2:n*sz≤cur'.size:=by have:=h2.1;simp only [Array.length_toList] at this;omega
      have hmx:n≤maxLen:=by unfold maxLen;have:=Nat.le_mul_of_pos_right n b3;omega
      have hin:∀q (j:Nat) (u:AV),((cs.drop (q*sz)).take sz)[j]? =some u→u∈cs:=fun q j u hj=>List.mem_of_mem_drop (List.mem_of_mem_take (List.mem_of_getElem? hj))
      have hmemids:∀u∈cs,∀i∈u.ids,i∈AV.idsL cs:=fun u hu i hi=>by
       obtain ⟨q,hq,rfl⟩:=List.getElem_of_mem hu
       exact AV.idsL_in (List.getElem?_eq_getElem hq) hi
      refine ⟨.slice (some ⟨w.heap.size,0,none⟩) n n,w.alloc (.cells cur' e),?_,?_⟩
      ·unfold Instr.buildSlice
       simp only [Sem.run_bind,run_underlying hu,Result.andThen_ok,Zaz hs]
       rw [if_neg (by omega)]
       by_cases h0:n*sz=0
       ·rw [if_pos h0]
        simp only [pure_bind]
        have hmade:(Array.range (n*sz)).map ((#[]:Array Value)[· % (#[]:Array Value).size]!)=madeCells zv.cells (n*sz):=by rw [h0];simp [madeCells]
        rw [hmade,Array.toList_map,h1]
        rfl
       ·rw [if_neg h0]
        simp only [Sem.run_bind,hz1,Result.andThen_ok,pure_bind]
        have hmade:(Array.range (n*sz)).map (zv.cells[· % zv.cells.size]!)=madeCells zv.cells (n*sz):=rfl
        rw [hmade,Array.toList_map,h1]
        rfl
      ·cases hi:(AV.idsL cs).isEmpty with
       |true=>
        rw [hi] at ho
        simp only [cond_true] at ho
        have hi':AV.idsL cs=[]:=List.isEmpty_iff.1 hi
        refine Zsz hm hn e (Nat.le_refl _) hmx hsz2 (fun q hq=>⟨(hfin q hq).1,fun j u hj=> ?_⟩) ho
        obtain ⟨x,hx,h1,hr⟩:=(hfin q hq).2 j u hj
        refine ⟨x,hx,h1,hr.toT ?_⟩
        cases hids:u.ids with
        |nil=>rfl
        |cons i r=>have:=hmemids u (hin q j u hj) i (by rw [hids];simp);rw [hi'] at this;cases this
       |false=>
        rw [hi] at ho
        simp only [cond_false] at ho
        cases hnw:an.news.all (fun i=> !((AV.idsL cs).contains i)) with
        |false=>rw [hnw] at ho;cases ho
        |true=>
         rw [hnw] at ho
         simp only [cond_true] at ho
         refine good_oar hm hn e (fun q hq i hi=> ?_) (fun i hi=> ?_) (Nat.le_refl _) hmx hsz2 hfin ho
         ·obtain ⟨j,u,hj,hu⟩:=AV.idsL_of hi
          exact hmemids u (hin q j u hj) i hu
         ·have:=List.all_eq_true.1 hnw i hi
          simpa using this
    ·cases ho
  ·cases ho
 ·cases ho
end Go.Proofs.YtnlfghpgfjlblaaDoor.Ax
