/- slices.SortFunc at every length over an array of the call's own, elements of several flat cells: the shelf's contract as a contract over trees. Plain lemmas on the model. No conditions. -/
import Derived.Test.YtomafbpfgpkolaaGreatDoorAxS
import Derived.Shelf.SlSortCmp.WholeK
import Derived.Shelf.SlSortCmp.NoneTotal
import Derived.Deep.QuietTactic
namespace Go.Proofs.YtomafbpfgpkolaaGreatDoor.Ax
open Go.RowKit Go.Sort
set_option linter.unusedVariables false
set_option linter.unusedSimpArgs false
def dpO (o:Oper):List Nat:=(o.after.toList.filter (Region.binds .any)).map (·.on)
def okA (l:List Bool) (o:Oper):Bool:=(dpO o).all fun d=>l.getD d false
theorem dp_all (b:Edge→Bool) (g:Nat→Bool):∀es:List Edge,es.all (fun e=> !b e||g e.on)=((es.filter b).map (·.on)).all g
 | []=>rfl
 |e::r=>by
  rw [List.all_cons,dp_all b g r]
  cases h:b e<;>simp [h]
theorem Zxr (ops:List Oper) (l:List Bool):Region.ready .any ops.toArray l.toArray=(List.range ops.length).filter fun i=> !l.getD i true&&((ops[i]?).map (okA l)).getD false:=by
 unfold Region.ready
 rw [List.size_toArray]
 refine List.filter_congr fun i hi=> ?_
 rw [List.getElem?_toArray]
 have e1:∀(k:Nat) (d:Bool),l.toArray.getD k d=l.getD k d:=fun k d=>by simp [Array.getD_eq_getD_getElem?]
 rw [e1]
 cases ops[i]? with
 |none=>rfl
 |some o=>
  simp only [Option.map_some,Option.getD_some,okA,dpO]
  rw [←dp_all,←Array.all_toList]
  simp only [e1]
def ancF (A:List Oper):Nat→List Nat→List Nat
 |0,D=>D
 |i+1,D=>ancF A i (if D.contains i then D++((A[i]?).map dpO).getD [] else D)
def Clo (A:List Oper) (l:List Bool):Prop:=∀(i:Nat) (o:Oper),A[i]? =some o→l.getD i false=true→okA l o=true
theorem Ycg {A:List Oper} {l:List Bool} (hc:Clo A l):∀(i:Nat) (D:List Nat),(∀d∈D,l.getD d false=true)→∀d∈ancF A i D,l.getD d false=true
 |0,D,h=>h
 |i+1,D,h=>by
  unfold ancF
  refine Ycg hc i _ ?_
  split
  ·rename_i hi
   intro d hd
   rcases List.mem_append.1 hd with hd|hd
   ·exact h d hd
   ·cases ho:A[i]? with
    |none=>rw [ho] at hd;simp at hd
    |some o=>
     rw [ho] at hd
     have:=hc i o ho (h i (by simpa using hi))
     exact List.all_eq_true.1 this d hd
  ·exact h
def Zir (A B:List Oper):Bool:=
 ((List.range A.length).all (fun i=>((A[i]?).map fun o=>(dpO o).all fun d=>Nat.blt d i).getD true)&&
 ((List.range A.length).all (fun i=>(ancF A A.length (((B[0]?).map dpO).getD [])).contains i)&&
 ((List.range B.length).all (fun j=>bif j==0 then true else ((B[j]?).map fun o=>(dpO o).contains (A.length+j-1)).getD true))))&&
 ((List.range (B.length+1)).all (fun k=>Region.ready .any (A++B).toArray (List.replicate A.length true++(List.replicate k true++List.replicate (B.length-k) false)).toArray==bif Nat.blt k B.length then [A.length+k] else [])&&
 (A++B).all fun o=>o.guard.isNone)
theorem getD_app (l:List Bool) (m d:Nat):(l++List.replicate m false).getD d false=l.getD d false:=by
 simp only [List.getD_eq_getElem?_getD]
 by_cases h:d<l.length
 ·rw [List.getElem?_append_left h]
 ·rw [List.getElem?_append_right (by omega),List.getElem?_eq_none (l:=l) (by omega),List.getElem?_replicate]
  split<;>rfl
theorem Ygr (l:List Bool) (m:Nat) (o:Oper):okA (l++List.replicate m false) o=okA l o:=by
 unfold okA
 congr 1
 funext d
 exact getD_app l m d
theorem Ygs {l:List Bool} :l.all id=true↔∀i,i<l.length→l.getD i false=true:=by
 rw [List.all_eq_true]
 constructor
 ·intro h i hi
  simp only [List.getD_eq_getElem?_getD,List.getElem?_eq_getElem hi]
  exact h _ (List.getElem_mem hi)
 ·intro h x hx
  obtain ⟨i,hi,rfl⟩:=List.getElem_of_mem hx
  have:=h i hi
  rw [List.getD_eq_getElem?_getD,List.getElem?_eq_getElem hi] at this
  exact this
theorem Zuz (l:List Bool) {i:Nat} (hi:i<l.length):l.getD i true=l.getD i false:=by
 simp only [List.getD_eq_getElem?_getD,List.getElem?_eq_getElem hi];rfl
theorem Ygt (A:List Oper):Clo A (List.replicate A.length false):=fun i o ho h=>by
 simp only [List.getD_eq_getElem?_getD,List.getElem?_replicate] at h
 split at h<;>cases h
theorem Ydv {A B:List Oper} (hchk:Zir A B=true) (l:List Bool) (hl:l.length=A.length) (hc:Clo A l):
  if l.all id=true then Region.ready .any A.toArray l.toArray=[] else (Region.ready .any (A++B).toArray (l++List.replicate B.length false).toArray=Region.ready .any A.toArray l.toArray∧Region.ready .any A.toArray l.toArray≠ []∧∀i∈Region.ready .any A.toArray l.toArray,Clo A (l.set i true)):=by
 simp only [Zir,Bool.and_eq_true] at hchk
 obtain ⟨⟨h1,h2,h3⟩,_⟩:=hchk
 have hdep:∀(i:Nat) (o:Oper),A[i]? =some o→∀d∈dpO o,d<i:=fun i o ho d hd=>by
  have hi:i<A.length:=(List.getElem?_eq_some_iff.1 ho).1
  have:=List.all_eq_true.1 h1 i (List.mem_range.2 hi)
  rw [ho] at this
  have:=List.all_eq_true.1 this d hd
  rwa [Nat.blt_eq] at this
 split
 ·rename_i hall
  rw [Zxr,List.filter_eq_nil_iff]
  intro i hi
  rw [List.mem_range] at hi
  have:=Ygs.1 hall i (by omega)
  rw [Zuz l (by omega),this]
  simp
 ·rename_i hall
  refine ⟨?_,?_,?_⟩
  ·rw [Zxr,Zxr,List.length_append,List.range_add,List.filter_append]
   have e2:((List.range B.length).map (A.length+ ·)).filter (fun i=> !(l++List.replicate B.length false).getD i true&&(((A++B)[i]?).map (okA (l++List.replicate B.length false))).getD false)=[]:=by
    rw [List.filter_eq_nil_iff]
    intro x hx
    obtain ⟨j,hj,rfl⟩:=List.mem_map.1 hx
    rw [List.mem_range] at hj
    rw [List.getElem?_append_right (by omega),Nat.add_sub_cancel_left]
    cases ho:B[j]? with
    |none=>simp
    |some o=>
     intro hq
     simp only [Option.map_some,Option.getD_some,Bool.and_eq_true] at hq
     rw [Ygr] at hq
     have hd:=List.all_eq_true.1 hq.2
     by_cases hj0:j=0
     ·subst hj0
      rw [ho] at h2
      refine hall (Ygs.2 fun i hi=> ?_)
      have h2i:=List.all_eq_true.1 h2 i (List.mem_range.2 (by omega))
      exact Ycg hc A.length (dpO o) hd i (by simpa using h2i)
     ·have h3j:=List.all_eq_true.1 h3 j (List.mem_range.2 hj)
      rw [show (j==0)=false from by simpa using hj0,cond_false,ho] at h3j
      have:=hd (A.length+j-1) (by simpa using h3j)
      simp only [List.getD_eq_getElem?_getD,List.getElem?_eq_none (l:=l) (i:=A.length+j-1) (by omega)] at this
      cases this
   rw [e2,List.append_nil]
   refine List.filter_congr fun i hi=> ?_
   rw [List.mem_range] at hi
   rw [List.getElem?_append_left hi]
   have e3:(l++List.replicate B.length false).getD i true=l.getD i true:=by
    simp only [List.getD_eq_getElem?_getD]
    rw [List.getElem?_append_left (by omega)]
   rw [e3]
   congr 1
   cases A[i]? with
   |none=>rfl
   |some o=>simp only [Option.map_some,Option.getD_some];exact Ygr _ _ _
  ·intro hnil
   rw [Zxr,List.filter_eq_nil_iff] at hnil
   have hst:∀n i,i≤n→i<l.length→l.getD i false=true:=by
    intro n
    induction n with
    |zero=>
     intro i hi hil
     have hi0:i=0:=by omega
     subst hi0
     have hn:=hnil 0 (List.mem_range.2 (by omega))
     rw [List.getElem?_eq_getElem (show 0<A.length by omega)] at hn
     simp only [Option.map_some,Option.getD_some] at hn
     rw [show okA l A[0]=true from List.all_eq_true.2 fun d hd=>absurd (hdep 0 _ (List.getElem?_eq_getElem (show 0<A.length by omega)) d hd) (Nat.not_lt_zero _),Zuz l hil,Bool.and_true] at hn
     simpa using hn
    |succ n ih=>
     intro i hi hil
     have hn:=hnil i (List.mem_range.2 (by omega))
     rw [List.getElem?_eq_getElem (show i<A.length by omega)] at hn
     simp only [Option.map_some,Option.getD_some] at hn
     rw [show okA l A[i]=true from List.all_eq_true.2 fun d hd=>by
      have:=hdep i _ (List.getElem?_eq_getElem (show i<A.length by omega)) d hd
      exact ih d (by omega) (by omega),Zuz l hil,Bool.and_true] at hn
     simpa using hn
   exact hall (Ygs.2 fun i hi=>hst i i (Nat.le_refl _) hi)
  ·intro i hi
   rw [Zxr,List.mem_filter,List.mem_range] at hi
   have hset:∀d,l.getD d false=true→(l.set i true).getD d false=true:=fun d hd=>by
    simp only [List.getD_eq_getElem?_getD,List.getElem?_set] at hd⊢
    split
    ·split<;>simp_all
    ·exact hd
   have hmono:∀o,okA l o=true→okA (l.set i true) o=true:=fun o ho=>List.all_eq_true.2 fun d hd=>hset d (List.all_eq_true.1 ho d hd)
   intro k o ho hk
   refine hmono o ?_
   by_cases e:k=i
   ·subst e
    have:=hi.2
    rw [ho] at this
    simp only [Option.map_some,Option.getD_some,Bool.and_eq_true] at this
    exact this.2
   ·refine hc k o ho ?_
    simp only [List.getD_eq_getElem?_getD,List.getElem?_set,if_neg (fun q=>e (Eq.symm q))] at hk⊢
    exact hk
section
variable {P : Program} {A B : List Oper} {C : World → Prop} {Q : Exit → Act → World → Prop}
theorem Ygu (hchk:Zir A B=true):∀(d k fuel:Nat) (a:Act) (w:World),B.length-k=d→k≤B.length→B.length-k≤fuel→wpList P (A++B).toArray Q (B.drop k) a w→
  wpAny P .any (A++B).toArray Q fuel (List.replicate A.length true++(List.replicate k true++List.replicate (B.length-k) false)).toArray a w:=by
 have hr:∀k,k≤B.length→Region.ready .any (A++B).toArray (List.replicate A.length true++(List.replicate k true++List.replicate (B.length-k) false)).toArray=bif Nat.blt k B.length then [A.length+k] else []:=fun k hk=>by
  simp only [Zir,Bool.and_eq_true] at hchk
  have:=List.all_eq_true.1 hchk.2.1 k (List.mem_range.2 (by omega))
  exact eq_of_beq this
 intro d
 induction d with
 |zero=>
  intro k fuel a w hd hk hf h
  have hkm:k=B.length:=by omega
  have h0:=hr k hk
  rw [show Nat.blt k B.length=false from Bool.eq_false_iff.2 fun q=>by rw [Nat.blt_eq] at q;omega,cond_false] at h0
  rw [hkm,List.drop_length] at h
  have hQ:Q .normal a w:=h
  cases fuel with
  |zero=>exact ⟨h0,hQ⟩
  |succ f=>exact ⟨fun _=>hQ,fun i hi=>by rw [h0] at hi;simp at hi⟩
 |succ d ih=>
  intro k fuel a w hd hk hf h
  have hkm:k<B.length:=by omega
  have h0:=hr k hk
  rw [show Nat.blt k B.length=true from by rw [Nat.blt_eq];exact hkm,cond_true] at h0
  cases fuel with
  |zero=>omega
  |succ f=>
   refine ⟨fun q=>by rw [h0] at q;simp at q,fun i hi=> ?_⟩
   rw [h0,List.mem_singleton] at hi
   subst hi
   have ho:(A++B).toArray[A.length+k]? =some B[k]:=by
    rw [List.getElem?_toArray,List.getElem?_append_right (by omega),Nat.add_sub_cancel_left,List.getElem?_eq_getElem hkm]
   have hset:(List.replicate A.length true++(List.replicate k true++List.replicate (B.length-k) false)).toArray.setIfInBounds (A.length+k) true=(List.replicate A.length true++(List.replicate (k+1) true++List.replicate (B.length-(k+1)) false)).toArray:=by
    obtain ⟨r,hr⟩:∃r,B.length-k=r+1:=⟨B.length-k-1,by omega⟩
    have hr2:B.length-(k+1)=r:=by omega
    rw [hr,hr2,List.setIfInBounds_toArray,List.set_append_right _ _ (by simp),List.length_replicate,Nat.add_sub_cancel_left,List.set_append_right _ _ (by simp),List.length_replicate,Nat.sub_self,List.replicate_succ,List.set_cons_zero,List.replicate_succ',List.append_assoc]
    rfl
   rw [hset]
   rw [List.drop_eq_getElem_cons hkm] at h
   unfold wpOp
   rw [ho]
   unfold wpList at h
   simp only
   split
   ·rename_i hw
    rw [if_pos hw] at h
    rcases h with h|h
    ·exact .inl (Oper.wp_mono (fun a' w' h'=>ih (k+1) f a' w' (by omega) (by omega) (by omega) h') h)
    ·exact .inr h
   ·rename_i hw
    rw [if_neg hw] at h
    exact ih (k+1) f _ w (by omega) (by omega) (by omega) h
theorem Ygv (hchk:Zir A B=true) {Q1:Act→Prop} (hQ:∀a w,C w→Q1 a→wpList P (A++B).toArray Q B a w):∀(fuel:Nat) (l:List Bool) (a:Act) (w:World),l.length=A.length→Clo A l→C w→wpAnyQ P .any A.toArray C Q1 fuel l.toArray a→
  wpAny P .any (A++B).toArray Q (fuel+B.length) (l++List.replicate B.length false).toArray a w:=by
 have hm:=fun (l:List Bool) (hl:l.length=A.length) (hc:Clo A l)=>Ydv hchk l hl hc
 have hall:∀l:List Bool,l.length=A.length→l.all id=true→l=List.replicate A.length true:=fun l hl q=>by
  refine List.eq_replicate_iff.2 ⟨hl,fun b hb=> ?_⟩
  exact List.all_eq_true.1 q b hb
 have htwo:∀(fuel:Nat) (l:List Bool) (a:Act) (w:World),l.length=A.length→l.all id=true→C w→Q1 a→wpAny P .any (A++B).toArray Q (fuel+B.length) (l++List.replicate B.length false).toArray a w:=fun fuel l a w hl q hC h1=>by
  have:=Ygu (P:=P) (Q:=Q) hchk (B.length-0) 0 (fuel+B.length) a w rfl (Nat.zero_le _) (by omega) (by rw [List.drop_zero];exact hQ a w hC h1)
  rw [hall l hl q]
  simpa using this
 intro fuel
 induction fuel with
 |zero=>
  intro l a w hl hR hC h
  have q:=hm l hl hR
  cases ha:l.all id with
  |true=>exact htwo 0 l a w hl ha hC h.2
  |false=>
   rw [ha] at q
   exact absurd h.1 (by simpa using q.2.1)
 |succ f ih=>
  intro l a w hl hR hC h
  have q:=hm l hl hR
  cases ha:l.all id with
  |true=>
   rw [ha,if_pos rfl] at q
   exact htwo (f+1) l a w hl ha hC (h.1 q)
  |false=>
   rw [ha,if_neg (by decide)] at q
   rw [show f+1+B.length=(f+B.length)+1 by omega]
   refine ⟨fun z=>by rw [q.1] at z;exact absurd z q.2.1,fun i hi=> ?_⟩
   rw [q.1] at hi
   have hq:=h.2 i hi
   have hRi:=q.2.2 i hi
   have hiA:i<A.length:=by
    have:=(List.mem_filter.1 hi).1
    simpa using this
   have ho:(A++B).toArray[i]? =some A[i]:=by rw [List.getElem?_toArray,List.getElem?_append_left hiA,List.getElem?_eq_getElem hiA]
   have ho1:A.toArray[i]? =some A[i]:=by rw [List.getElem?_toArray,List.getElem?_eq_getElem hiA]
   have hgd:A[i].guard=none:=by
    simp only [Zir,Bool.and_eq_true] at hchk
    have:=List.all_eq_true.1 hchk.2.2 A[i] (List.mem_append_left _ (List.getElem_mem hiA))
    simpa using this
   have hset:(l++List.replicate B.length false).toArray.setIfInBounds i true=(l.set i true++List.replicate B.length false).toArray:=by
    rw [List.setIfInBounds_toArray,List.set_append_left _ _ (by omega)]
   rw [hset]
   rw [List.setIfInBounds_toArray] at hq
   unfold qOp at hq
   rw [ho1] at hq
   unfold wpOp
   rw [ho]
   simp only [Region.wanted,hgd,if_true] at hq⊢
   exact .inl (Oper.wp_of_quiet hC (fun a' w' hC' hK=>ih (l.set i true) a' w' (by simpa using hl) hRi hC' hK) hq)
theorem Zqp {id:Nat} {a:Act} {w:World} (hmx:P.follows .mixedOrders=true) (hchk:Zir A B=true) (hB:Region.lexB .any A.toArray=true) (hC:C {w with drawn:=w.drawn+1})
  (h:wpQuiet P A.toArray C (fun a'=>∀w',C w'→wpList P (A++B).toArray Q B a' w') A a):(Code.region id (A++B).toArray true).wp P Q a w:=by
 simp only [Region.lexB,Bool.and_eq_true] at hB
 refine wp_region_any hmx ?_
 have h1:=wpAnyQ_lex (C:=C) (md:= .any) hB.1 A 0 (Array.replicate A.length false) a (by simp) (by simpa using hB.2) h
 have h2:=Ygv (P:=P) (Q:=Q) (C:=C) (Q1:=fun a'=>∀w',C w'→wpList P (A++B).toArray Q B a' w') hchk (fun a w hC h1=>h1 w hC) A.length (List.replicate A.length false) a _ (by simp) (Ygt A) hC (by simpa using h1)
 simpa using h2
end
theorem Zmb {P:Program} {Q:Exit→Act→World→Prop} {id:Nat} {a:Act} {w:World} {l:List Oper} (n:Nat) (hmx:P.follows .mixedOrders=true) (hchk:Zir (l.take n) (l.drop n)=true) (hB:Region.lexB .any (l.take n).toArray=true)
  (h:wpQuiet P (l.take n).toArray (fun w'=>∃n,w'=w.drewN n) (fun a'=>∀w',(∃n,w'=w.drewN n)→wpList P l.toArray Q (l.drop n) a' w') (l.take n) a):(Code.region id l.toArray true).wp P Q a w:=by
 have:=Zqp (P:=P) (A:=l.take n) (B:=l.drop n) (C:=fun w'=>∃n,w'=w.drewN n) (Q:=Q) (id:=id) (a:=a) (w:=w) hmx hchk hB ⟨1,rfl⟩ (by rw [List.take_append_drop];exact h)
 rwa [List.take_append_drop] at this
def Zom {α:Type} [Inhabited α] (cf:α→α→Int) (xs:List α):List α:=(pdq (ltOf cf) xs.toArray 0 xs.length (Lib.bitLen xs.length) true true).toList
theorem Zva {α:Type} [Inhabited α] {cf:α→α→Int} (hO:SWO (ltOf cf)) (xs:List α):PermIn 0 xs.toArray.size xs.toArray (pdq (ltOf cf) xs.toArray 0 xs.length (Lib.bitLen xs.length) true true)∧SortedIn (ltOf cf) 0 xs.toArray.size (pdq (ltOf cf) xs.toArray 0 xs.length (Lib.bitLen xs.length) true true):=
 pdq_sorts (ltOf cf) hO xs.toArray 0 xs.toArray.size (Lib.bitLen xs.length) true true (Nat.zero_le _) (Nat.le_refl _) (Or.inl rfl)
theorem Ygw {α:Type} [Inhabited α] {cf:α→α→Int} (hO:SWO (ltOf cf)) (xs:List α):(Zom cf xs).length=xs.length:=by
 have:=(Zva hO xs).1.1
 simpa [Zom] using this
theorem srt_perm {α:Type} [Inhabited α] {cf:α→α→Int} (hO:SWO (ltOf cf)) (xs:List α):(Zom cf xs).Perm xs:=by
 have h:=(Zva hO xs).1
 have h2:=h.2.2
 have e1:∀d:Array α,d.size=xs.length→(d.extract 0 xs.toArray.size).toList=d.toList:=fun d hd=>by
  simp [←hd]
 rw [e1 _ (by simpa using h.1),e1 _ (by simp)] at h2
 exact h2
theorem srt_pw {α:Type} [Inhabited α] {cf:α→α→Int} (hO:SWO (ltOf cf)) (xs:List α):(Zom cf xs).Pairwise fun x y=>¬ cf y x<0:=by
 have h:=(Zva hO xs).2
 have hl:=Ygw hO xs
 refine List.pairwise_iff_getElem.2 fun i j hi hj hij=> ?_
 have q:=h i j (Nat.zero_le _) hij (by simpa using (by omega:j<xs.length))
 have q2:¬ cf (pdq (ltOf cf) xs.toArray 0 xs.length (Lib.bitLen xs.length) true true)[j]! (pdq (ltOf cf) xs.toArray 0 xs.length (Lib.bitLen xs.length) true true)[i]! <0:=of_decide_eq_false q
 have hsz:(pdq (ltOf cf) xs.toArray 0 xs.length (Lib.bitLen xs.length) true true).size=xs.length:=by simpa using (Zva hO xs).1.1
 have e1:∀(d:Array α) (k:Nat) (h:k<d.toList.length),d[k]! =d.toList[k]:=fun d k h=>by rw [getElem!_pos d k (by simpa using h)];simp
 rw [e1 _ j hj,e1 _ i hi] at q2
 exact q2
def Zjf {α:Type} [Inhabited α] (enc:α→List Value) (xs:List α) (p:Nat):List AV:=(enc (at_ xs p)).map .val
theorem Zxs {P:Program} {f:FuncId} {α:Type} [Inhabited α] {enc:α→List Value} {kc:Nat} (k0:0<kc) (hk:∀x,(enc x).length=kc) (hone1:∀x,∀v∈enc x,v.oneCell'=true) {cf:α→α→Int} (hO:SWO (ltOf cf)) {g:Nat} {fr:Bool}
  (hs:∀(blk off cap:Nat) (d:Array α) (w:World),HoldsK enc kc w blk off d→blk<w.heap.size→d.size<4611686018427387904→Calls P f #[.slice (some ⟨blk,off,none⟩) d.size cap,.func (.func g) #[] #[]] w fun e w'=>
   e= .returned (.tuple #[])∧∃n os,w'=sortWorldK enc kc w blk off n (pdq (ltOf cf) d 0 d.size (Lib.bitLen d.size) true true) os)
  (hn:∀(p:Option Addr) (cap:Nat) (fv:Value) (w:World),Calls P f #[.slice p 0 cap,fv] w fun e w'=>e= .returned (.tuple #[])∧w'=w)
  (i:Nat) (xs:List α) (hlen:xs.length<4611686018427387904):Zaw P f [.arr i,.fn g []] (Zae [(i,.arr kc xs.length (Zjf enc xs))]) fr (.tup []) (Zae [(i,.arr kc (Zom cf xs).length (Zjf enc (Zom cf xs)))]):=by
 intro B vals hbo hm hr
 obtain ⟨v,fv,rfl⟩:∃v fv,vals=[v,fv]:=by
  have:=hr.1
  match vals,this with
  | [v,fv],_=>exact ⟨v,fv,rfl⟩
 have hv:=(hr.2 0 _ _ rfl rfl).arr_of
 obtain ⟨cs,hfv,hcs⟩:=(hr.2 1 _ _ rfl rfl).fn_of
 have hcs0:cs=#[]:=by
  have:=hcs.1
  simpa using this.symm
 subst hcs0;subst hfv;subst hv
 have hl:Zae [(i,Ob.arr kc xs.length (Zjf enc xs))] i=some (.arr kc xs.length (Zjf enc xs)):=by simp [Zae]
 have hbi:B.bo i=true:=by rw [hbo,hl];rfl
 have hsl:=Ygw hO xs
 have hone:∀ {j:Nat} {o:Ob},Zae [(i,Ob.arr kc (Zom cf xs).length (Zjf enc (Zom cf xs)))] j=some o→j=i∧o= .arr kc (Zom cf xs).length (Zjf enc (Zom cf xs)):=fun h=>by
  have:=Zed h
  simpa using this
 have hsome:∀ {j:Nat},Zae [(i,Ob.arr kc (Zom cf xs).length (Zjf enc (Zom cf xs)))] j≠none→Zae [(i,Ob.arr kc xs.length (Zjf enc xs))] j≠none:=fun {j} h=>by
  obtain ⟨o,ho⟩:=Option.ne_none_iff_exists'.1 h
  obtain ⟨rfl,_⟩:=hone ho
  rw [hl];exact fun h=>by cases h
 have ho:ArrRel B.w0 (SS B B.κ0 (Zae [(i,Ob.arr kc xs.length (Zjf enc xs))]) B.w0) kc xs.length (Zjf enc xs) (B.κ0 i):=hm.obj i _ hl
 rcases ho with ⟨h0,A,e⟩|⟨b,cur,e,c,hv,h0,h1,h2,h3,h4,h5⟩
 ·have hx:xs=[]:=List.eq_nil_of_length_eq_zero h0
  subst hx
  rw [e]
  refine (hn A 0 _ B.w0).mono ?_
  rintro e w' ⟨rfl,rfl⟩
  have e0:Zom cf ([]:List α)=[]:=List.eq_nil_of_length_eq_zero hsl
  exact ⟨_,B.κ0,rfl,by rw [e0];exact hm,.tup _ _ rfl (fun i a v h=>by simp at h)⟩
 ·have hcell:∀p,p<xs.length→∀(q:Nat) (u:Value),(enc (at_ xs p))[q]? =some u→cur[p*kc+q]? =some u:=fun p hp q u hq=>by
   obtain ⟨x,hx,_,hr⟩:=(h5 p hp).2 q (.val u) (by simp [Zjf,hq])
   rw [hx,hr.val_of]
  have hb:b<B.w0.heap.size:=by
   have:=(hm.ownb i b (by rw [hl];exact fun h=>by cases h) (by rw [hv];exact .inl (by simp [blk];omega))).1
   exact this
  have hHolds:HoldsK enc kc B.w0 b 0 xs.toArray:=fun j hj=>by
   have hj':j<xs.length*kc:=by simpa using hj
   refine ⟨?_,by simp [World.frozen?,h1]⟩
   have hp:j/kc<xs.length:=Nat.div_lt_of_lt_mul (by rw [Nat.mul_comm];exact hj')
   have hq:j % kc<kc:=Nat.mod_lt _ k0
   have e3:j/kc*kc+j % kc=j:=Nat.div_add_mod' j kc
   rw [get_flatK _ _ _ _ (by simpa using hj')]
   have hxe:xs.toArray[j/kc]! =at_ xs (j/kc):=by rw [getElem!_pos _ _ (by simpa using hp),Zea hp];simp
   have hq2:j % kc<(enc (at_ xs (j/kc))).length:=by rw [hk];exact hq
   have hc:=hcell _ hp (j % kc) _ (List.getElem?_eq_getElem hq2)
   rw [e3] at hc
   rw [hxe,List.getElem!_eq_getElem?_getD,List.getElem?_eq_getElem hq2]
   simp [World.cell?,h1,hc]
  rw [hv]
  have hcall:=hs b 0 c xs.toArray B.w0 hHolds hb (by simpa using hlen)
  have hcall2:Calls P f #[.slice (some ⟨b,0,none⟩) xs.length c,.func (.func g) #[] #[]] B.w0 fun e w'=>e= .returned (.tuple #[])∧∃n os,w'=sortWorldK enc kc B.w0 b 0 n (Zom cf xs).toArray os:=by simpa [Zom] using hcall
  refine hcall2.mono ?_
  rintro e' w' ⟨rfl,n,os,rfl⟩
  unfold sortWorldK putRowK
  have hFs:(flatK enc kc (Zom cf xs).toArray).size=xs.length*kc:=by rw [size_flatK];simp [hsl]
  have hFg:∀(p:Nat),p<xs.length→∀(q:Nat) (u:Value),(enc (at_ (Zom cf xs) p))[q]? =some u→(flatK enc kc (Zom cf xs).toArray)[p*kc+q]! =u:=fun p hp q u hq=>by
   obtain ⟨hq1,hq2⟩:=List.getElem?_eq_some_iff.1 hq
   have hqk:q<kc:=by rw [hk] at hq1;exact hq1
   have hlt:p*kc+q<(Zom cf xs).toArray.size*kc:=by
    have:(p+1)*kc≤xs.length*kc:=Nat.mul_le_mul_right _ (by omega)
    rw [Nat.succ_mul] at this
    simp only [List.size_toArray,hsl];omega
   rw [get_flatK _ _ _ _ hlt]
   have ed:(p*kc+q)/kc=p:=by rw [Nat.mul_comm,Nat.mul_add_div k0,Nat.div_eq_of_lt hqk,Nat.add_zero]
   have em:(p*kc+q) % kc=q:=by rw [Nat.mul_comm,Nat.mul_add_mod,Nat.mod_eq_of_lt hqk]
   have hps:p<(Zom cf xs).length:=by omega
   have hxe:(Zom cf xs).toArray[p]! =at_ (Zom cf xs) p:=by rw [getElem!_pos _ _ (by simpa using hps),Zea hps];simp
   rw [ed,em,hxe,List.getElem!_eq_getElem?_getD,hq]
   rfl
  generalize flatK enc kc (Zom cf xs).toArray=F at hFs hFg
  have hsz:(Go.Sort.grow (Go.Sort.putRow id (Go.Sort.ahead B.w0 n) b 0 F) os).heap.size=B.w0.heap.size+os.size:=by
   simp [Go.Sort.grow,Go.Sort.putRow,Go.Sort.mapBlock,Go.Sort.ahead]
  have hblock:∀k,k<B.w0.heap.size→k≠b→(Go.Sort.grow (Go.Sort.putRow id (Go.Sort.ahead B.w0 n) b 0 F) os).heap[k]? =B.w0.heap[k]? :=fun k hk hkb=>by
   simp [Go.Sort.grow,Go.Sort.putRow,Go.Sort.mapBlock,Go.Sort.ahead,Array.getElem?_append,Array.getElem?_modify,Array.getElem_modify,hk,Ne.symm hkb]
  have hthis:(Go.Sort.grow (Go.Sort.putRow id (Go.Sort.ahead B.w0 n) b 0 F) os).heap[b]? =some (.cells (Go.Sort.putCells id 0 F cur) e (0,0)):=by
   have hb':=hb
   rw [Array.getElem?_eq_getElem hb] at h1
   simp only [Option.some.injEq] at h1
   simp [Go.Sort.grow,Go.Sort.putRow,Go.Sort.mapBlock,Go.Sort.ahead,Array.getElem?_append,Array.getElem?_modify,Array.getElem_modify,hb,h1,Go.Sort.onCells]
  have hBi:Blk (B.κ0 i) b:=by rw [hv];exact .inl (by simp [blk];omega)
  refine ⟨_,B.κ0,rfl,⟨⟨rfl,rfl,rfl,by show _≤(Go.Sort.grow (Go.Sort.putRow id (Go.Sort.ahead B.w0 n) b 0 F) os).heap.size;omega,fun k hk hM=>hblock k hk (fun e=>hM (.inl ⟨i,hbi,by rw [e];exact hBi⟩))⟩,?_,?_,?_,fun _ _=>rfl,fun w'' hk=>hm.glob w'' hk⟩,.tup _ _ rfl (fun i a v h=>by simp at h)⟩
  ·intro j o hj
   obtain ⟨rfl,rfl⟩:=hone hj
   refine .inr ⟨b,_,e,c,by rw [hv,hsl],h0,hthis,by rw [hsl];exact h2,by simpa [Go.Sort.putCells] using h3,h4,fun p hp=>⟨by simp [Zjf,hk],fun q u hq=> ?_⟩⟩
   have hp':p<xs.length:=by rw [hsl] at hp;exact hp
   obtain ⟨z,hz,rfl⟩:∃z,(enc (at_ (Zom cf xs) p))[q]? =some z∧AV.val z=u:=by
    unfold Zjf at hq
    rw [List.getElem?_map] at hq
    exact Option.map_eq_some_iff.1 hq
   have hF:=hFg p hp' q z hz
   have hqk:q<kc:=by rw [←hk (at_ (Zom cf xs) p)];exact (List.getElem?_eq_some_iff.1 hz).1
   have hlt:p*kc+q<F.size:=by
    have:(p+1)*kc≤xs.length*kc:=Nat.mul_le_mul_right _ (by omega)
    rw [Nat.succ_mul] at this
    omega
   have hcs:xs.length*kc≤cur.size:=Nat.le_trans (Nat.mul_le_mul_right _ h2) h3
   have hpc:p*kc+q<cur.size:=by omega
   refine ⟨z,?_,hone1 _ z (List.mem_of_getElem? hz),.val _⟩
   unfold Go.Sort.putCells
   rw [Array.getElem?_mapIdx,Array.getElem?_eq_getElem hpc]
   rw [Option.map_some,if_pos ⟨Nat.zero_le _,by omega⟩,Nat.sub_zero,hF]
   rfl
  ·intro j b' hj hB
   have:=hm.ownb j b' (hsome hj) hB
   exact ⟨by show b'<(Go.Sort.grow (Go.Sort.putRow id (Go.Sort.ahead B.w0 n) b 0 F) os).heap.size;omega,this.2⟩
  ·intro j k b' hj hk h1 h2
   exact hm.inj j k b' (hsome hj) (hsome hk) h1 h2
end Go.Proofs.YtomafbpfgpkolaaGreatDoor.Ax
