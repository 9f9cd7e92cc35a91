/- Contracts that the statement FnWordsOfLines reaches, part 2. No conditions. -/
import Derived.Test.YtfafngbbaplknaaAxLWordsOfLines1
import Derived.Test.YtfafngbbaplknaaAxR
import Derived.Test.YtfafngbbaplknaaAxRS
import Derived.Test.YtfafngbbaplknaaAxS
import Derived.Test.YtfafngbbaplknaaAxY
namespace Go.Proofs.Ytfafngbbaplknaa.Ax
open Go.RowKit Go.ChangeShapes Go.WideShapes
set_option linter.unusedVariables false
set_option linter.unusedSimpArgs false
theorem Zcy (i:Int) (j:Int) (boxes:List Box) (ha:0≤i∧i<(boxes.length:Int)) (hb:0≤j∧j<(boxes.length:Int)):Con Try.prog 80 [I i,I j,.ptr false [Zae false boxes]] true (I (cL boxes i j)):=by
 refine Zda (fn:=Try.f80) (nt:=33) Try.func80 rfl rfl rfl rfl (by simp [Zag,Zah,Zbo]) fun B hB=> ?_
 refine Zbt (x:= .ptr false [Zae false boxes]) 2 rfl (fun len_boxes=> ?_)
 simp [Zdb,Zfv,Znw,Zdr,Zae] at len_boxes
 refine aQ [] [0,1,2] [] [] hB trivial ?_
 refine aR [(10,.call [(true,.any),(true,.any)] true (I (Zed ((at_ boxes i.toNat).X1) ((at_ boxes j.toNat).X1)))),(21,.call [(true,.any),(true,.any)] true (I (Zed ((at_ boxes i.toNat).X2) ((at_ boxes j.toNat).X2)))),(24,.call [(true,.any),(true,.any)] true (I (Zed i j))),(25,.new 31),(26,.call [(false,slI false ([(Zed ((at_ boxes i.toNat).X1) ((at_ boxes j.toNat).X1)),(Zed ((at_ boxes i.toNat).X2) ((at_ boxes j.toNat).X2)),(Zed i j)]))] true (I (orL ([(Zed ((at_ boxes i.toNat).X1) ((at_ boxes j.toNat).X1)),(Zed ((at_ boxes i.toNat).X2) ((at_ boxes j.toNat).X2)),(Zed i j)]))))] [5] [] [I (orL ([(Zed ((at_ boxes i.toNat).X1) ((at_ boxes j.toNat).X1)),(Zed ((at_ boxes i.toNat).X2) ((at_ boxes j.toNat).X2)),(Zed i j)]))] [] [(0:Int)≤i∧i<(boxes.length:Int),(0:Int)≤j∧j<(boxes.length:Int),_∧True,(0:Int)≤i∧i<(boxes.length:Int),(0:Int)≤j∧j<(boxes.length:Int),_∧True,_∧True,_∧((false=true→true=true)∧1=1∧3=(([(Zed ((at_ boxes i.toNat).X1) ((at_ boxes j.toNat).X1)),(Zed ((at_ boxes i.toNat).X2) ((at_ boxes j.toNat).X2)),(Zed i j)]).length)∧∀i_,i_<(([(Zed ((at_ boxes i.toNat).X1) ((at_ boxes j.toNat).X1)),(Zed ((at_ boxes i.toNat).X2) ((at_ boxes j.toNat).X2)),(Zed i j)]).length)→(Zeo [I (Zed ((at_ boxes i.toNat).X1) ((at_ boxes j.toNat).X1)),I (Zed ((at_ boxes i.toNat).X2) ((at_ boxes j.toNat).X2)),I (Zed i j)] 1) i_=(fI ([(Zed ((at_ boxes i.toNat).X1) ((at_ boxes j.toNat).X1)),(Zed ((at_ boxes i.toNat).X2) ((at_ boxes j.toNat).X2)),(Zed i j)])) i_∨(AV.idsL ((fI ([(Zed ((at_ boxes i.toNat).X1) ((at_ boxes j.toNat).X1)),(Zed ((at_ boxes i.toNat).X2) ((at_ boxes j.toNat).X2)),(Zed i j)])) i_)=[]∧leL (fun _=>none) false ((Zeo [I (Zed ((at_ boxes i.toNat).X1) ((at_ boxes j.toNat).X1)),I (Zed ((at_ boxes i.toNat).X2) ((at_ boxes j.toNat).X2)),I (Zed i j)] 1) i_) ((fI ([(Zed ((at_ boxes i.toNat).X1) ((at_ boxes j.toNat).X1)),(Zed ((at_ boxes i.toNat).X2) ((at_ boxes j.toNat).X2)),(Zed i j)])) i_)))∧True] hB ⟨⟨om,om⟩,⟨om,om⟩,⟨(Zgn ((at_ boxes i.toNat).X1) ((at_ boxes j.toNat).X1)),trivial⟩,⟨om,om⟩,⟨om,om⟩,⟨(Zgn ((at_ boxes i.toNat).X2) ((at_ boxes j.toNat).X2)),trivial⟩,⟨(Zgn i j),trivial⟩,⟨(OrI_ok ([(Zed ((at_ boxes i.toNat).X1) ((at_ boxes j.toNat).X1)),(Zed ((at_ boxes i.toNat).X2) ((at_ boxes j.toNat).X2)),(Zed i j)])),⟨(fun h=>by cases h),rfl,(by first|rfl|(simp;done)|(simp;omega)|omega),fun i_ hi_=> .inl (match i_,hi_ with|0,_=>rfl|1,_=>rfl|2,_=>rfl|(i+3),h=>absurd h (by simp))⟩,trivial⟩,trivial⟩ (Zaz ?_)
 refine Zax hB (I (orL ([(Zed ((at_ boxes i.toNat).X1) ((at_ boxes j.toNat).X1)),(Zed ((at_ boxes i.toNat).X2) ((at_ boxes j.toNat).X2)),(Zed i j)]))) (by kernel_rfl) (.inl (by first|rfl|(refine congrArg Bv ?_;simp [*];done)|(refine congrArg Bv ?_;simp [*];omega)|(refine congrArg Bv ?_;simp_all [];done)|(refine congrArg Bv ?_;simp_all [];omega))) rfl (fun _=>trivial)
theorem Zhp (boxes:List Box):Con Try.prog 67 [Zae false boxes] false (.fn 80 [.ptr false [Zae false boxes]]):=by
 refine Zda (fn:=Try.f67) (nt:=4) Try.func67 rfl rfl rfl rfl (by simp [Zag,Zah,Zbo]) fun B hB=> ?_
 refine Zbt (x:=Zae false boxes) 0 rfl (fun len_boxes=> ?_)
 simp [Zdb,Zfv,Znw,Zdr,Zae] at len_boxes
 refine aQ [(0,.new 1)] [1] [1] [] hB trivial ?_
 refine aR [] [2] [1] [.fn 80 [.ref 1 0]] [some (.box [Zae false boxes])] [] hB trivial (Zaz ?_)
 refine Zax hB (.fn 80 [.ref 1 0]) (by kernel_rfl) (.inr ⟨rfl,⟨⟨(fun h=>by cases h),rfl,⟨⟨(fun h=>by cases h),rfl,rfl,fun i _=> .inl rfl⟩,rfl⟩⟩,rfl⟩⟩) rfl (fun h=>by cases h)
def lnX (bs:List Box) (l:Line):Prop:=(∀x∈l.Items,l.Top≤(at_ bs x.toNat).Y1∧(at_ bs x.toNat).Y2≤l.Bottom)∧(∃x∈l.Items,(at_ bs x.toNat).Y1=l.Top)∧∃x∈l.Items,(at_ bs x.toNat).Y2=l.Bottom
def chn (gap:Int) (ls:List Line):Prop:=∀i:Nat,i+1<ls.length→(at_ ls i).Bottom+gap<(at_ ls (i+1)).Top
def Zjf (ls:List Line):List Int:=ls.flatMap Line.Items
theorem Zpp (a b:List Line):Zjf (a++b)=Zjf a++Zjf b:=by simp [Zjf]
theorem Zpq (l:Line):Zjf [l]=l.Items:=by simp [Zjf]
theorem allI_mem {ls:List Line} {l:Line} {x:Int} (h:l∈ls) (hx:x∈l.Items):x∈Zjf ls:=List.mem_flatMap.2 ⟨l,h,hx⟩
theorem Zyp {ls:List Line} (h:ls.length≠0):∃a x,ls=a++[x]:=by
 rcases List.eq_nil_or_concat ls with e|⟨a,x,e⟩
 ·rw [e] at h;exact absurd rfl h
 ·exact ⟨a,x,by simpa using e⟩
theorem add_sn (bs:List Box) (gap:Int) (a:List Line) (x:Line) (k:Int) (h:¬ ((a++[x]).length=0∨(Zdq (a++[x])).Bottom+gap<(at_ bs k.toNat).Y1)):Zjc bs gap (a++[x]) k=a++[⟨x.Top,max x.Bottom (at_ bs k.toNat).Y2,x.Items++[k]⟩]:=by
 rw [Zjc,if_neg h,Zme,List.length_append,List.length_singleton,Nat.add_sub_cancel,Zky]
theorem allI_add (bs:List Box) (gap:Int) (ls:List Line) (k:Int):Zjf (Zjc bs gap ls k)=Zjf ls++[k]:=by
 by_cases h:ls.length=0∨(Zdq ls).Bottom+gap<(at_ bs k.toNat).Y1
 ·rw [Zjc,if_pos h,Zpp,Zpq]
 ·obtain ⟨a,x,rfl⟩:=Zyp (fun q=>h (.inl q))
  rw [add_sn _ _ _ _ _ h,Zpp,Zpp,Zpq,Zpq,List.append_assoc]
theorem Zpr (bs:List Box) (gap:Int) (od:List Int):∀j:Nat,j≤od.length→Zjf (Zfl bs gap od j)=od.take j
 |0,_=>by simp [Zfl,Zjf]
 |j+1,h=>by
  show Zjf (Zjc _ _ _ _)=_
  rw [allI_add,Zpr bs gap od j om,Zfa om]
theorem add_ok {bs:List Box} {gap:Int} {ls:List Line} {k:Int} (hl:∀l∈ls,lnX bs l) (hc:chn gap ls) (hk:(at_ bs k.toNat).Y1≤(at_ bs k.toNat).Y2) (hy:ls.length≠0→(Zdq ls).Top≤(at_ bs k.toNat).Y1):(∀l∈Zjc bs gap ls k,lnX bs l)∧chn gap (Zjc bs gap ls k):=by
 by_cases h:ls.length=0∨(Zdq ls).Bottom+gap<(at_ bs k.toNat).Y1
 ·rw [Zjc,if_pos h]
  refine ⟨Zrh hl ⟨fun x hx=> ?_,⟨k,by simp,rfl⟩,⟨k,by simp,rfl⟩⟩,fun i hi=> ?_⟩
  ·rw [List.mem_singleton.1 hx];exact ⟨Int.le_refl _,Int.le_refl _⟩
  ·rw [List.length_append,List.length_singleton] at hi
   by_cases e:i+1<ls.length
   ·rw [Zcr om,Zcr e];exact hc i e
   ·have e2:i+1=ls.length:=by omega
    rw [Zcr om,Zcc om,show i+1-ls.length=0 from by omega]
    rcases h with h|h
    ·omega
    ·have e3:Zdq ls=at_ ls i:=by unfold Zdq;congr 1;omega
     rw [e3] at h;exact h
 ·obtain ⟨a,x,rfl⟩:=Zyp (fun q=>h (.inl q))
  rw [add_sn _ _ _ _ _ h]
  have hx:=hl x (by simp)
  have hyx:=hy (by simp)
  rw [Zme] at hyx
  refine ⟨Zrh (fun l q=>hl l (by simp [q])) ⟨fun z hz=> ?_,?_,?_⟩,fun i hi=> ?_⟩
  ·rcases List.mem_append.1 hz with q|q
   ·have:=hx.1 z q;exact ⟨this.1,Int.le_trans this.2 (Int.le_max_left _ _)⟩
   ·rw [List.mem_singleton.1 q];exact ⟨hyx,Int.le_max_right _ _⟩
  ·obtain ⟨z,h1,h2⟩:=hx.2.1
   exact ⟨z,by simp [h1],h2⟩
  ·obtain ⟨z,h1,h2⟩:=hx.2.2
   rcases Int.le_total x.Bottom (at_ bs k.toNat).Y2 with q|q
   ·exact ⟨k,by simp,(Int.max_eq_right q).symm⟩
   ·exact ⟨z,by simp [h1],h2.trans (Int.max_eq_left q).symm⟩
  ·rw [List.length_append,List.length_singleton] at hi
   have hci:=hc i (by rw [List.length_append,List.length_singleton];omega)
   by_cases e:i+1<a.length
   ·rw [Zcr om,Zcr e] at hci⊢;exact hci
   ·rw [Zcr (show i<a.length by omega),Zcc (show a.length≤i+1 by omega),show i+1-a.length=0 from by omega] at hci⊢
    exact hci
theorem lin_ok {bs:List Box} {gap:Int} {od:List Int} (hp:Zbp bs=true) (ho:∀x∈od,0≤x∧x<(bs.length:Int)) (hs:∀i j:Nat,i<j→j<od.length→(at_ bs (at_ od i).toNat).Y1≤(at_ bs (at_ od j).toNat).Y1):∀j:Nat,j≤od.length→(∀l∈Zfl bs gap od j,lnX bs l)∧chn gap (Zfl bs gap od j)
 |0,_=>⟨fun l hl=>by simp [Zfl] at hl,fun i hi=>by simp [Zfl] at hi⟩
 |j+1,h=>by
  have ih:=lin_ok (gap:=gap) hp ho hs j om
  have hk:=ho _ (Zbj (show j<od.length by omega))
  refine add_ok ih.1 ih.2 (Zfe hp om).2.2.1 fun hn=> ?_
  have hm:=Zkx (ls:=Zfl bs gap od j) om
  obtain ⟨x,hx,e⟩:=(ih.1 _ hm).2.1
  have hx2:=allI_mem hm hx
  rw [Zpr bs gap od j om] at hx2
  obtain ⟨i,hi,e2⟩:=List.getElem_of_mem hx2
  rw [List.length_take] at hi
  rw [List.getElem_take,←Zee om] at e2
  rw [←e,←e2]
  exact hs i j om om
theorem cY_w (bs:List Box):CmpW (cY bs):=⟨fun x y=>by have h1:=@Zyq bs x y;have h2:=@Zjg (at_ bs y.toNat).Y1 (at_ bs x.toNat).Y1;have h3:=@Zmf (at_ bs y.toNat).Y1 (at_ bs x.toNat).Y1;unfold cY at*;omega,fun x y z h1 h2=>by
 have h3:=@Zjg (at_ bs y.toNat).Y1 (at_ bs z.toNat).Y1
 have h4:=@Zmf (at_ bs x.toNat).Y1 (at_ bs y.toNat).Y1
 have h5:=@Zjg (at_ bs x.toNat).Y1 (at_ bs y.toNat).Y1
 have h6:=@Zjg (at_ bs x.toNat).Y1 (at_ bs z.toNat).Y1
 unfold cY at*
 omega⟩
theorem ordY_srt (bs:List Box) {i j:Nat} (hij:i<j) (hj:j<(Zfk bs).length):(at_ bs (at_ (Zfk bs) i).toNat).Y1≤(at_ bs (at_ (Zfk bs) j).toNat).Y1:=by
 have p:=Zun (cY_w bs) (B:=fun _ _=>True) (xs:=ixL bs.length) (List.pairwise_of_forall fun _ _=>trivial) bs.length (by rw [Zdu];exact Nat.le_refl _)
 have q:=(List.pairwise_iff_getElem.1 p) i j (by exact Nat.lt_trans hij hj) hj hij
 rw [Zee (Nat.lt_trans hij hj),Zee hj]
 rcases q with q|q
 ·exact Int.le_of_lt (Zyq.1 q)
 ·exact Int.le_of_eq (Zmf.1 q.1)
theorem Zsv {c:Int→Int→Int} {xs:List Int} {x:Int} :x∈Zci c xs xs.length↔x∈xs:=by
 have p:=Zes c xs xs.length (Nat.le_refl _)
 rw [List.take_of_length_le (Nat.le_refl _)] at p
 exact p.mem_iff
theorem srt_lnX {bs:List Box} {l:Line} (h:lnX bs l):lnX bs (Zhr bs l):=by
 obtain ⟨h1,⟨x,h2,h3⟩,y,h4,h5⟩:=h
 exact ⟨fun z hz=>h1 z (Zsv.1 hz),⟨x,Zsv.2 h2,h3⟩,y,Zsv.2 h4,h5⟩
theorem chn_map {gap:Int} {bs:List Box} {ls:List Line} (h:chn gap ls):chn gap (ls.map (Zhr bs)):=fun i hi=>by
 rw [List.length_map] at hi
 rw [Zum om,Zum hi];exact h i hi
theorem Zuo (bs:List Box):∀ls:List Line,(Zjf (ls.map (Zhr bs))).Perm (Zjf ls)
 | []=> .refl _
 |l::r=>by
  have e1:Zjf ((l::r).map (Zhr bs))=Zci (cL bs) l.Items l.Items.length++Zjf (r.map (Zhr bs)):=by simp [Zjf,Zhr]
  have e2:Zjf (l::r)=l.Items++Zjf r:=by simp [Zjf]
  have p:=Zes (cL bs) l.Items l.Items.length (Nat.le_refl _)
  rw [List.take_of_length_le (Nat.le_refl _)] at p
  rw [e1,e2]
  exact p.append (Zuo bs r)
theorem linR_ok {bs:List Box} {gap:Int} (hp:Zbp bs=true):(∀l∈Zmm bs gap,lnX bs l)∧chn gap (Zmm bs gap)∧(Zjf (Zmm bs gap)).Perm (ixL bs.length):=by
 have h:=lin_ok (gap:=gap) hp (fun x hx=>Zfp.1 hx) (fun i j a b=>ordY_srt bs a b) bs.length (by rw [Zdi];exact Nat.le_refl _)
 refine ⟨fun l hl=> ?_,chn_map h.2,(Zuo bs _).trans ?_⟩
 ·obtain ⟨m,hm,rfl⟩:=List.mem_map.1 hl
  exact srt_lnX (h.1 m hm)
 ·rw [Zpr bs gap _ _ (by rw [Zdi];exact Nat.le_refl _),List.take_of_length_le (by rw [Zdi];exact Nat.le_refl _)]
  have p:=Zes (cY bs) (ixL bs.length) bs.length (by rw [Zdu];exact Nat.le_refl _)
  rwa [List.take_of_length_le (by rw [Zdu];exact Nat.le_refl _)] at p
def shl (dy:Int) (l:Line):Line:=⟨l.Top+dy,l.Bottom+dy,l.Items⟩
def oLIc (F:Nat) (x:List Int) (i:Nat):List AV:=[.row F i]
def oLI (F:Nat) (xs:List (List Int)) (i:Nat):List AV:=oLIc F (at_ xs i) i
def mLI (xs:List (List Int)) (p:Nat):Nat:=(at_ xs p).length
def gLI (xs:List (List Int)) (p:Nat):Nat→List AV:=fI (at_ xs p)
abbrev Zjn (F:Nat) (xs:List (List Int)):Ob:= .oar [F] 1 xs.length (oLI F xs)
abbrev Zgw (xs:List (List Int)):Ob:= .fam xs.length 1 (mLI xs) (gLI xs)
theorem oleLI {ob:Nat→Option Ob} {F:Nat} (fr:Bool) (xs:List (List Int)) (h:ob F=some (.fam xs.length 1 (mLI xs) (gLI xs))):∀i,i<xs.length→AV.idsL (fLI fr xs i)=[]∧leL ob true (oLI F xs i) (fLI fr xs i):=
 fun i hi=>And.intro rfl (And.intro (le_row h hi rfl (fun q _=> .inl rfl)) rfl)
theorem Zup {F j N:Nat} (hF:Nat.beq F j=false) {xs:List (List Int)} {x:List Int} {g:Nat→List AV} (hN:N=xs.length) (hx:AV.joiL j F N (g 0)=oLIc F x N):∀i,i<(xs++[x]).length→AV.joiL j F N (Zeg xs.length (oLI F xs) g i)=oLI F (xs++[x]) i:=by
 subst hN
 intro i hi
 by_cases h:i<xs.length
 ·rw [Zdk h]
  simp [oLI,oLIc,Zcr h,AV.joiL,AV.joi,hF]
 ·have e:i=xs.length:=by simp at hi;omega
  subst e
  rw [Zdg (Nat.le_refl _),Nat.sub_self,hx]
  simp [oLI,Zcc (Nat.le_refl _),at_]
theorem Zuq {xs:List (List Int)} (x:List Int) {n:Nat} {f:Nat→List AV} (hn:n=x.length) (hf:∀i,i<n→f i=fI x i):xs.length+1=(xs++[x]).length∧1=1∧∀p,p<(xs++[x]).length→Zcn xs.length n (mLI xs) p=mLI (xs++[x]) p∧∀i,i<mLI (xs++[x]) p→Zbi xs.length f (gLI xs) p i=gLI (xs++[x]) p i∨(AV.idsL (gLI (xs++[x]) p i)=[]∧leL (fun _=>none) false (Zbi xs.length f (gLI xs) p i) (gLI (xs++[x]) p i)):=by
 refine ⟨by simp,rfl,fun p hp=> ?_⟩
 by_cases h:p<xs.length
 ·have e:Nat.beq p xs.length=false:=Bool.eq_false_iff.2 fun e=>by have:=Nat.eq_of_beq_eq_true e;omega
  simp [Zcn,Zbi,e,mLI,gLI,Zcr h]
 ·have e:p=xs.length:=by simp at hp;omega
  subst e
  have e2:at_ (xs++[x]) xs.length=x:=by simp [Zcc (Nat.le_refl _),at_]
  simp only [Zcn,Zbi,Nat.beq_refl,cond_true,mLI,gLI,e2]
  exact ⟨hn,fun i hi=> .inl (hf i om)⟩
theorem Zur {xs:List (List Int)} {P m1:Nat} {ys:List Int} {f1:Nat→List AV} (hP:P<xs.length) (hm:m1=ys.length) (hf:∀i,i<m1→f1 i=fI ys i):xs.length=(xs.set P ys).length∧1=1∧∀p,p<(xs.set P ys).length→Zcn P m1 (mLI xs) p=mLI (xs.set P ys) p∧∀i,i<mLI (xs.set P ys) p→Zbi P f1 (gLI xs) p i=gLI (xs.set P ys) p i∨(AV.idsL (gLI (xs.set P ys) p i)=[]∧leL (fun _=>none) false (Zbi P f1 (gLI xs) p i) (gLI (xs.set P ys) p i)):=by
 refine ⟨by simp,rfl,fun p hp=> ?_⟩
 by_cases h:p=P
 ·subst h
  have e:at_ (xs.set p ys) p=ys:=Zff hP
  refine ⟨?_,fun i hi=> .inl ?_⟩
  ·simp only [Zcn,Nat.beq_refl,cond_true,mLI,e];exact hm
  ·simp only [mLI,e] at hi;simp only [Zbi,Nat.beq_refl,cond_true,gLI,e];exact hf i om
 ·have e:at_ (xs.set P ys) p=at_ xs p:=Zfh h
  have b:=Zjb h
  refine ⟨?_,fun i hi=> .inl ?_⟩
  ·simp only [Zcn,b,cond_false,mLI,e]
  ·simp only [Zbi,b,cond_false,gLI,e]
def okIt (bs:List Box) (xs:List Int) (j:Nat):Bool:=inB (at_ xs j) 0 ((bs.length:Int)-1)&&(decide (j=0)||lftB bs (at_ xs (j-1)) (at_ xs j))
def Zgc (bs:List Box) (xs:List Int):Bool:=Zpy xs.length (okIt bs xs)
theorem Zhk {bs:List Box} {xs:List Int} {j:Nat} :okIt bs xs j=true↔inB (at_ xs j) 0 ((bs.length:Int)-1)=true∧(j=0∨cL bs (at_ xs (j-1)) (at_ xs j)<0):=by
 simp [okIt,lftB]
theorem Zjh {bs:List Box} {xs:List Int} (h:Zgc bs xs=true):inIx bs xs=true:=Zhh fun j hj=>(Zhk.1 (Zkz h hj)).1
theorem okIts_n1 {bs:List Box} {xs:List Int} (h:inIx bs xs=false):Zgc bs xs=false:=by
 rw [Bool.eq_false_iff] at h⊢
 exact fun q=>h (Zjh q)
theorem okIts_n2 {bs:List Box} {xs:List Int} {k:Int} (h1:1≤k) (h2:k<(xs.length:Int)) (h:¬ cL bs (at_ xs (k-1).toNat) (at_ xs k.toNat)<0):Zgc bs xs=false:=by
 refine Zgm (show k.toNat<xs.length by omega) ?_
 rw [Bool.eq_false_iff]
 intro q
 rcases (Zhk.1 q).2 with e|e
 ·omega
 ·rw [show k.toNat-1=(k-1).toNat from by omega] at e;exact h e
theorem okIts_y {bs:List Box} {xs:List Int} (h:inIx bs xs=true) (h2:∀j:Nat,1≤j→(j:Int)<(xs.length:Int)→cL bs (at_ xs (j-1)) (at_ xs j)<0):Zgc bs xs=true:=Zhh fun j hj=>Zhk.2 ⟨Zkz h hj,by
 by_cases e:j=0
 ·exact .inl e
 ·exact .inr (h2 j om om)⟩
theorem Zyr {bs:List Box} {xs:List Int} {i:Int} (h0:0≤i) (h1:inB (at_ xs i.toNat) 0 ((bs.length:Int)-1)=true) (h2:¬ 0<i∨lftB bs (at_ xs (i-1).toNat) (at_ xs i.toNat)=true):okIt bs xs i.toNat=true:=Zhk.2 ⟨h1,by
 rcases h2 with h2|h2
 ·exact .inl om
 ·right;rw [show i.toNat-1=(i-1).toNat from by omega];exact of_decide_eq_true h2⟩
theorem Zys {bs:List Box} {xs:List Int} {i:Int} (h:inB (at_ xs i.toNat) 0 ((bs.length:Int)-1)=false∨0<i∧lftB bs (at_ xs (i-1).toNat) (at_ xs i.toNat)=false):okIt bs xs i.toNat=false:=by
 rw [Bool.eq_false_iff]
 intro q
 have q2:=Zhk.1 q
 rcases h with h|⟨h,h3⟩
 ·rw [q2.1] at h;cases h
 ·rcases q2.2 with e|e
  ·omega
  ·rw [show i.toNat-1=(i-1).toNat from by omega] at e
   rw [lftB,decide_eq_true e] at h3;cases h3
def rgt (bs:List Box) (xs:List Int):Nat→Int
 |0=>0
 |k+1=>max (rgt bs xs k) (at_ bs (at_ xs k).toNat).X2
def Zhw (bs:List Box) (xs:List Int):Nat→List Int
 |0=>[]
 |k+1=>if k=0 then [] else Zhw bs xs k++[max 0 ((at_ bs (at_ xs k).toNat).X1-rgt bs xs k)]
theorem Zyt {bs:List Box} {xs:List Int} {k:Nat} (h:1≤k):Zhw bs xs (k+1)=Zhw bs xs k++[max 0 ((at_ bs (at_ xs k).toNat).X1-rgt bs xs k)]:=if_neg om
theorem Zin (bs:List Box) (xs:List Int):∀k:Nat,(Zhw bs xs k).length=k-1
 |0=>rfl
 |1=>rfl
 |k+2=>by rw [Zyt om,List.length_append,Zin bs xs (k+1)];simp
theorem Zmg {bs:List Box} {xs:List Int} (h:inIx bs xs=true):∀x∈xs,0≤x∧x<(bs.length:Int):=fun x hx=>by
 obtain ⟨j,hj,e⟩:=List.getElem_of_mem hx
 have:=inIx_at h hj
 rw [Zee hj,e] at this;omega
theorem Zyu {bs:List Box} {xs:List Int} (hp:Zbp bs=true) (hx:∀x∈xs,0≤x∧x<(bs.length:Int)):∀k:Nat,k≤xs.length→0≤rgt bs xs k∧rgt bs xs k≤4095
 |0,_=>by simp [rgt]
 |k+1,h=>by
  have ih:=Zyu hp hx k om
  have hk:=hx _ (Zbj (show k<xs.length by omega))
  have b:=Zfe hp (j:=(at_ xs k).toNat) om
  show 0≤max _ _∧max _ _≤4095
  omega
def prw (g:List Int) (gap:Int) (ws:List (List Int)) (k:Nat):List (List Int):=if k=0∨gap<at_ g (k-1) then ws++[[]] else ws
theorem Zyv {g:List Int} {gap:Int} {ws:List (List Int)} {k:Nat} (h:k=0∨gap<at_ g (k-1)):prw g gap ws k=ws++[[]]:=if_pos h
theorem prw_n {g:List Int} {gap:Int} {ws:List (List Int)} {k:Nat} (h:¬ (k=0∨gap<at_ g (k-1))):prw g gap ws k=ws:=if_neg h
def putw (ws:List (List Int)) (x:Int):List (List Int):=ws.set (ws.length-1) (at_ ws (ws.length-1)++[x])
def Zij (xs g:List Int) (gap:Int):Nat→List (List Int)
 |0=>[]
 |k+1=>putw (prw g gap (Zij xs g gap k) k) (at_ xs k)
def Zmj (bs:List Box) (xs:List Int) (gap:Int):List (List Int):=Zij xs (Zhw bs xs xs.length) gap xs.length
theorem Zyw (a:List (List Int)) (w:List Int) (x:Int):putw (a++[w]) x=a++[w++[x]]:=by
 unfold putw
 rw [List.length_append,List.length_singleton,Nat.add_sub_cancel,Zcc (Nat.le_refl _),Nat.sub_self,Zky];rfl
theorem Zsw (g:List Int) (gap:Int) (ws:List (List Int)) (k:Nat) (h:k=0∨1≤ws.length):1≤(prw g gap ws k).length∧(prw g gap ws k).length≤ws.length+1:=by
 unfold prw
 split
 ·simp
 ·rename_i c
  have:k≠0:=fun q=>c (.inl q)
  omega
theorem Zsx {g:List Int} {gap:Int} {ws:List (List Int)} {k:Nat} {w:List Int} (h:w∈prw g gap ws k):w∈ws∨w=[]:=by
 unfold prw at h
 split at h
 ·rcases List.mem_append.1 h with q|q
  ·exact .inl q
  ·exact .inr (List.mem_singleton.1 q)
 ·exact .inl h
theorem Zri (xs g:List Int) (gap:Int):∀k:Nat,((k=0∨1≤(Zij xs g gap k).length)∧(Zij xs g gap k).length≤k)∧∀w∈Zij xs g gap k,w.length≤k
 |0=>⟨⟨.inl rfl,Nat.le_refl _⟩,fun w hw=>by simp [Zij] at hw⟩
 |k+1=>by
  obtain ⟨⟨h1,h2⟩,h3⟩:=Zri xs g gap k
  have hl:=Zsw g gap _ k h1
  have e:(Zij xs g gap (k+1)).length=(prw g gap (Zij xs g gap k) k).length:=List.length_set
  refine ⟨⟨.inr om,by omega⟩,fun w hw=> ?_⟩
  have h4:∀w∈prw g gap (Zij xs g gap k) k,w.length≤k:=fun w hw=>by
   rcases Zsx hw with q|q
   ·exact h3 w q
   ·rw [q];exact Nat.zero_le _
  rcases List.mem_or_eq_of_mem_set hw with q|q
  ·have:=h4 w q;omega
  ·have:=h4 _ (Zbj (xs:=prw g gap (Zij xs g gap k) k) (i:=(prw g gap (Zij xs g gap k) k).length-1) om)
   rw [q,List.length_append,List.length_singleton];omega
def wOk (g:List Int) (gap:Int) (ws:List (List Int)):Prop:=(∀w∈ws,w≠ [])∧∀i:Nat,i<ws.length→∀j:Nat,j<(at_ ws i).length→0<(ws.take i).flatten.length+j→(gap<at_ g ((ws.take i).flatten.length+j-1)↔j=0)
theorem as_sn {α:Type} {ls:List α} (h:ls.length≠0):∃a x,ls=a++[x]:=by
 rcases List.eq_nil_or_concat ls with e|⟨a,x,e⟩
 ·rw [e] at h;exact absurd rfl h
 ·exact ⟨a,x,by simpa using e⟩
theorem Zyx (xs g:List Int) (gap:Int):∀k:Nat,k≤xs.length→(Zij xs g gap k).flatten=xs.take k∧wOk g gap (Zij xs g gap k)
 |0,_=>⟨by simp [Zij],fun w hw=>by simp [Zij] at hw,fun i hi=>by simp [Zij] at hi⟩
 |k+1,h=>by
  obtain ⟨h1,h2,h3⟩:=Zyx xs g gap k om
  have hn:=(Zri xs g gap k).1
  have hfl:(Zij xs g gap k).flatten.length=k:=by rw [h1,List.length_take];omega
  show (putw (prw g gap (Zij xs g gap k) k) (at_ xs k)).flatten=_∧wOk g gap (putw (prw g gap (Zij xs g gap k) k) (at_ xs k))
  generalize hws:Zij xs g gap k=ws at h1 h2 h3 hn hfl⊢
  by_cases c:k=0∨gap<at_ g (k-1)
  ·rw [Zyv c,Zyw]
   refine ⟨by rw [List.flatten_append,h1,Zfa om];simp,Zrh h2 (by simp),fun i hi j hj hp=> ?_⟩
   rw [List.length_append,List.length_singleton] at hi
   by_cases e:i<ws.length
   ·rw [Zcr e] at hj
    have et:(ws++[[]++[at_ xs k]]).take i=ws.take i:=List.take_append_of_le_length om
    rw [et] at hp⊢
    exact h3 i e j hj hp
   ·have ei:i=ws.length:=by omega
    subst ei
    rw [Zcc (Nat.le_refl _),Nat.sub_self] at hj
    have hj0:j=0:=by
     have:j<1:=hj
     omega
    have et:(ws++[[]++[at_ xs k]]).take ws.length=ws:=by rw [List.take_append_of_le_length (Nat.le_refl _),List.take_length]
    rw [et,hfl,hj0] at hp⊢
    refine ⟨fun _=>rfl,fun _=> ?_⟩
    rcases c with c|c
    ·omega
    ·exact c
  ·rw [prw_n c]
   have hk:k≠0:=fun q=>c (.inl q)
   obtain ⟨a,w,rfl⟩:=as_sn (ls:=ws) om
   rw [Zyw]
   have hw:w.length≠0:=fun q=>h2 w (by simp) (List.eq_nil_of_length_eq_zero q)
   rw [List.flatten_append] at h1
   have hfw:a.flatten.length+w.length=k:=by rw [←hfl,List.flatten_append];simp
   refine ⟨by rw [List.flatten_append,Zfa om,←h1];simp,Zrh (fun z hz=>h2 z (by simp [hz])) (by simp),fun i hi j hj hp=> ?_⟩
   rw [List.length_append,List.length_singleton] at hi
   have et:∀y:List Int,i≤a.length→(a++[y]).take i=a.take i:=fun y hy=>List.take_append_of_le_length hy
   by_cases e:i<a.length
   ·rw [Zcr e] at hj
    rw [et _ om] at hp⊢
    have:=h3 i (by rw [List.length_append];omega) j (by rw [Zcr e];exact hj)
    rw [et _ om] at this
    exact this hp
   ·have ei:i=a.length:=by omega
    subst ei
    rw [et _ (Nat.le_refl _),List.take_length] at hp⊢
    rw [Zcc (Nat.le_refl _),Nat.sub_self] at hj
    have hj1:j<(w++[at_ xs k]).length:=hj
    rw [List.length_append,List.length_singleton] at hj1
    by_cases ej:j<w.length
    ·have:=h3 a.length (by simp) j (by rw [Zcc (Nat.le_refl _),Nat.sub_self];exact ej)
     rw [et _ (Nat.le_refl _),List.take_length] at this
     exact this hp
    ·have e2:a.flatten.length+j=k:=by omega
     rw [e2]
     exact ⟨fun q=>absurd (.inr q) c,fun q=>absurd q om⟩
theorem Zrs (bs:List Box) (xs:List Int) (gap:Int):(Zmj bs xs gap).flatten=xs∧wOk (Zhw bs xs xs.length) gap (Zmj bs xs gap):=by
 have:=Zyx xs (Zhw bs xs xs.length) gap xs.length (Nat.le_refl _)
 rwa [List.take_length] at this
theorem Zld {ws:List (List Int)} {i:Nat} (h:i<ws.length):(ws.take (i+1)).flatten=(ws.take i).flatten++at_ ws i:=by
 rw [Zfa h,List.flatten_append];simp
theorem Zwa {ws:List (List Int)} {i j:Nat} (h:i<ws.length) (hj:j<(at_ ws i).length):(ws.take i).flatten.length+j<ws.flatten.length∧at_ ws.flatten ((ws.take i).flatten.length+j)=at_ (at_ ws i) j:=by
 have e:ws.flatten=(ws.take i).flatten++(at_ ws i++(ws.drop (i+1)).flatten):=by
  have e1:ws=ws.take i++(at_ ws i::ws.drop (i+1)):=by
   rw [Zee h,←List.drop_eq_getElem_cons h,List.take_append_drop]
  have e2:=congrArg List.flatten e1
  rw [List.flatten_append,List.flatten_cons] at e2
  exact e2
 rw [e]
 refine ⟨by rw [List.length_append,List.length_append];omega,?_⟩
 rw [Zcc (Nat.le_add_right _ _),Nat.add_sub_cancel_left,Zcr hj]
theorem flat_le {ws:List (List Int)} {i:Nat} (h:i<ws.length):(ws.take i).flatten.length+(at_ ws i).length≤ws.flatten.length:=by
 have e2:=congrArg List.flatten (show ws=ws.take i++(at_ ws i::ws.drop (i+1)) from by rw [Zee h,←List.drop_eq_getElem_cons h,List.take_append_drop])
 rw [List.flatten_append,List.flatten_cons] at e2
 rw [e2,List.length_append,List.length_append];omega
def rdW (bs:List Box) (wg:Int) (L:List Line):List (List Int):=L.flatMap fun l=>Zmj bs l.Items wg
theorem Zuj {bs:List Box} {wg:Int} {L:List Line} {i:Nat} (h:i<L.length):rdW bs wg (L.take (i+1))=rdW bs wg (L.take i)++Zmj bs (at_ L i).Items wg:=by
 unfold rdW;rw [Zfa h,List.flatMap_append];simp
theorem Zus (bs:List Box) (wg:Int):∀L:List Line,(rdW bs wg L).flatten=Zjf L
 | []=>rfl
 |l::r=>by
  have ih:=Zus bs wg r
  have e1:rdW bs wg (l::r)=Zmj bs l.Items wg++rdW bs wg r:=by simp [rdW]
  have e2:Zjf (l::r)=l.Items++Zjf r:=by simp [Zjf]
  rw [e1,e2,List.flatten_append,ih,(Zrs bs l.Items wg).1]
theorem Zio (bs:List Box) (xs:List Int) (gap:Int):(Zmj bs xs gap).length≤xs.length:=(Zri _ _ _ _).1.2
theorem Zyy (bs:List Box) (wg:Int):∀L:List Line,(rdW bs wg L).length≤(Zjf L).length
 | []=>Nat.le_refl _
 |l::r=>by
  have ih:=Zyy bs wg r
  have e1:rdW bs wg (l::r)=Zmj bs l.Items wg++rdW bs wg r:=by simp [rdW]
  have e2:Zjf (l::r)=l.Items++Zjf r:=by simp [Zjf]
  have:=Zio bs l.Items wg
  rw [e1,e2,List.length_append,List.length_append];omega
def Znd (bs:List Box) (xs:List Int):List Int×Int:=if Zbp bs=true then (if Zgc bs xs=true then (Zhw bs xs xs.length,0) else ([],2)) else ([],1)
def Zki (bs:List Box) (xs:List Int) (gap:Int):List (List Int)×Int:=if Zbp bs=true then (if Zgc bs xs=true∧inB gap 0 4095=true then (Zmj bs xs gap,0) else ([],2)) else ([],1)
def Zjm (bs:List Box) (lg wg:Int):List (List Int)×Int:=if Zbp bs=true then (if inB lg 0 4095=true∧inB wg 0 4095=true then (rdW bs wg (Zmm bs lg),0) else ([],2)) else ([],1)
theorem Zgo (boxes:List Box) (items:List Int) (hbl:boxes.length≤1000∧items.length≤1000):Con Try.prog 53 [Zae false boxes,slI false items] true (Bv (Zgc boxes items)):=by
  refine Zda (fn:=Try.f53) (nt:=31) Try.func53 rfl rfl rfl rfl (by simp [Zag,Zah,Zbo,Zft]) fun B hB=> ?_
  refine Zbt (x:=Zae false boxes) 0 rfl (fun len_boxes=> ?_)
  simp [Zdb,Zfv,Znw,Zdr,Zae] at len_boxes
  refine Zbt (x:=slI false items) 1 rfl (fun len_items=> ?_)
  simp [Zdb,Zfv,cI,fI,slI] at len_items
  refine aQ [] [0,1] [] [] hB trivial (Zai (Zai ?_))
  rcases Bool.eq_false_or_eq_true (inIx boxes items) with h1|h1
  ·have hix:=h1
   have hxx:=Zmg h1
   refine Zbz [(2,.call [(true,.any),(true,.any)] true (Bv true))] [0,1,10] [] [Con Try.prog 50 [Zae false boxes,slI false items] true (Bv true)∧True] hB ⟨⟨(Zak h1 (Zji boxes items om)),trivial⟩,trivial⟩ (Zad (Zbw (Zaq (Zad ?_))))
   refine aQ [(1,.call [(true,.any)] false (.fn 80 [.ptr false [Zae false boxes]]))] [1,5] [] [_∧True] hB ⟨⟨(Zhp boxes),trivial⟩,trivial⟩ (Zai ?_)
   refine aR [] [1,5,6] [] [slI false items,.fn 80 [.ptr false [Zae false boxes]],I 1] [] [] hB trivial (Zar ?_)
   refine Zcg (fun gn gσ=>∃(k:Int),gn=((items.length:Int)-k).toNat∧(1≤k∧(k≤(items.length:Int)∨k=1))∧(∀j:Nat,1≤j→(j:Int)<k→cL boxes (at_ items (j-1)) (at_ items j)<0)∧gσ=mkS [(1,slI false items),(5,.fn 80 [.ptr false [Zae false boxes]]),(6,I k)] []) (((items.length:Int)-1).toNat) ⟨1,rfl,om,(by intro j h1 h2;omega),rfl⟩ (fun gn gσ hI=> ?_)
   obtain ⟨k,rfl,hk0,hal,rfl⟩:=hI
   refine Zai (Zai ?_)
   by_cases h2:k<(items.length:Int)
   ·have hk1:=hxx _ (Zbj (xs:=items) (i:=(k-1).toNat) om)
    have hk2:=hxx _ (Zbj (xs:=items) (i:=k.toNat) om)
    refine Zbz [(3,.dec true)] [1,5,6,16] [] [_] hB ⟨h2,trivial⟩ (Zad (Zcf (Zaq (Zad (Zai (Zar (Zai ?_)))))))
    by_cases h3:0≤(cL boxes (at_ items ((k-1).toNat)) (at_ items k.toNat))
    ·have hst:=okIts_n2 (bs:=boxes) (xs:=items) (k:=k) hk0.1 om om
     refine Zbz [(10,.call [(true,.any),(true,.any),(true,.any)] true (I (cL boxes (at_ items ((k-1).toNat)) (at_ items k.toNat)))),(11,.dec true)] [1,5,6,30] [] [inR .i64 (k-1),(0:Int)≤(k-1)∧(k-1)<(items.length:Int),(0:Int)≤k∧k<(items.length:Int),_∧True,_] hB ⟨(Zaf om om),⟨om,om⟩,⟨om,om⟩,⟨(Zcy (at_ items ((k-1).toNat)) (at_ items k.toNat) boxes (by first|omega|exact hcl _ (Zbj om)) (by first|omega|exact hcl _ (Zbj om))),trivial⟩,h3,trivial⟩ (Zad (Zcf ?_))
     refine aR [] [4] [] [Bv false] [] [] hB trivial (Zaz ?_)
     refine Zau (Zal (Zal (Zau (Zal ?_))))
     refine Zax hB (Bv false) (by kernel_rfl) (.inl (by rw [hst])) rfl (fun _=>trivial)
    have hlt:cL boxes (at_ items (k-1).toNat) (at_ items k.toNat)<0:=by omega
    refine Zbz [(10,.call [(true,.any),(true,.any),(true,.any)] true (I (cL boxes (at_ items ((k-1).toNat)) (at_ items k.toNat)))),(11,.dec false)] [1,5,6,30] [] [inR .i64 (k-1),(0:Int)≤(k-1)∧(k-1)<(items.length:Int),(0:Int)≤k∧k<(items.length:Int),_∧True,_] hB ⟨(Zaf om om),⟨om,om⟩,⟨om,om⟩,⟨(Zcy (at_ items ((k-1).toNat)) (at_ items k.toNat) boxes (by first|omega|exact hcl _ (Zbj om)) (by first|omega|exact hcl _ (Zbj om))),trivial⟩,h3,trivial⟩ (Zad (Zbw (Zaq (Zbq 1 (Zad ?_)))))
    refine Zei [] [1,5,6] [] [slI false items,.fn 80 [.ptr false [Zae false boxes]],I (k+1)] [] [inR .i64 (k+1)] hB ⟨(Zaf om om),trivial⟩ ?_
    exact Zbr _ om ⟨(k+1),rfl,om,(by intro j h1 h2;by_cases e:j=k.toNat;(rw [e,show k.toNat-1=(k-1).toNat from by omega];exact hlt);exact hal j h1 om),rfl⟩
   have hst:=okIts_y hix (fun j h1 h2=>hal j h1 om)
   refine Zbz [(3,.dec false)] [1,5,6,16] [] [_] hB ⟨h2,trivial⟩ (Zad (Zbw (Zcl (Zaj (Zaj (Zav (Zad ?_)))))))
   refine aR [] [4] [] [Bv true] [] [] hB trivial (Zaz ?_)
   refine Zax hB (Bv true) (by kernel_rfl) (.inl (by rw [hst])) rfl (fun _=>trivial)
  have hst:=okIts_n1 h1
  refine Zbz [(2,.call [(true,.any),(true,.any)] true (Bv false))] [0,1,10] [] [Con Try.prog 50 [Zae false boxes,slI false items] true (Bv false)∧True] hB ⟨⟨(Zak h1 (Zji boxes items om)),trivial⟩,trivial⟩ (Zad (Zcf ?_))
  refine aR [] [4] [] [Bv false] [] [] hB trivial (Zaz (Zal ?_))
  refine Zax hB (Bv false) (by kernel_rfl) (.inl (by rw [hst])) rfl (fun _=>trivial)
theorem Zrj (boxes:List Box) (items:List Int) (hp:Zbp boxes=true) (hx:∀x∈items,0≤x∧x<(boxes.length:Int)) (hil:items.length≤1000):∃(v:List Int),(v=Zhw boxes items items.length)∧Con Try.prog 57 [Zae false boxes,slI false items] true (slI true v):=by
  have hh:∃r:(List Int),((r=Zhw boxes items items.length)∧(True))∧Zao Try.prog 57 [Zae false boxes,slI false items] (Zab []) true (slI true r) (Zab []):=by
    refine Zcp (Φ:=fun r:(List Int)=>(r=Zhw boxes items items.length)∧(True)) [] (fun r=>[]) (fn:=Try.f57) (nt:=38) Try.func57 rfl rfl (args:=[Zae false boxes,slI false items]) rfl (Zap (.inl ⟨rfl,Zbo false _⟩) (Zap (.inl ⟨rfl,Zft false _⟩) Zco)) (res:=fun r=>slI true r) ?_
    refine xQ [] [0,1] [] [] trivial ?_
    refine xQ [] [0,1,5] [] [] trivial ?_
    refine xQ [] [0,1,5,6] [] [] trivial (Zam ?_)
    refine xR [] [0,5,6,9,10,11] [] [Zae false boxes,Zfj,I 0,slI false items,I (items.length:Int),I 0] [] [] trivial (Zbg ?_)
    refine Zwe 5 705 1 (fun _=>[]) (by kernel_rfl) ?_
    refine Zde [] (T:=[(0,Zae false boxes),(5,.arr 705),(6,I 0),(9,slI false items),(10,I (items.length:Int)),(11,I 0)]) (O:=[(705,tAI ([]:List Int))]) rfl (⟨.inl rfl,.inl rfl,.inl rfl,.inl rfl,.inl rfl,.inl rfl,trivial⟩) (⟨.inr ⟨rfl,(by first|rfl|(simp;done)|(simp;omega)|omega),fun i_ hi_=>absurd hi_ (Nat.not_lt_zero _)⟩,trivial⟩) ?_
    refine Zdn (X:=(List Int)×Int×Int) (fun x=>mkS [(0,Zae false boxes),(5,.arr 705),(6,I x.2.1),(9,slI false items),(10,I (items.length:Int)),(11,I x.2.2)] [(705,tAI x.1)]) (fun x=>(0≤x.2.2∧x.2.2≤(items.length:Int))∧(x.1=Zhw boxes items x.2.2.toNat)∧(x.2.1=rgt boxes items x.2.2.toNat)∧((x.1.length:Int)≤x.2.2)∧True) (fun x=>((items.length:Int)-x.2.2).toNat) (([]:List Int),0,0) rfl (show (0≤(0:Int)∧(0:Int)≤(items.length:Int))∧(([]:List Int)=Zhw boxes items (0:Int).toNat)∧((0:Int)=rgt boxes items (0:Int).toNat)∧((([]:List Int).length:Int)≤(0:Int))∧True from ⟨om,(by rfl),(by rfl),(by simp),trivial⟩) (fun x hI=> ?_)
    obtain ⟨gp,rg,t11⟩:=x
    obtain ⟨hi0,hgs,hrg,hgl,_⟩:(0≤t11∧t11≤(items.length:Int))∧(gp=Zhw boxes items t11.toNat)∧(rg=rgt boxes items t11.toNat)∧((gp.length:Int)≤t11)∧True:=hI
    show XW _ _ _ _ (mkS [(0,Zae false boxes),(5,.arr 705),(6,I rg),(9,slI false items),(10,I (items.length:Int)),(11,I t11)] [(705,tAI gp)]) _ _
    refine Zam ?_
    by_cases h1:t11<(items.length:Int)
    ·have hi:t11.toNat<items.length:=by omega
     have hnx:(t11+1).toNat=t11.toNat+1:=by omega
     have hxi:=hx _ (Zbj hi)
     have hbk:=Zfe hp (j:=(at_ items t11.toNat).toNat) om
     have hrb:=Zyu hp hx t11.toNat om
     refine x_q [(0,.dec true)] [0,5,6,9,10,11,12] [705] [_] ⟨h1,trivial⟩ (Zac (Zam (Zel (Zbn (Zac (Zam (Zbg ?_)))))))
     refine xQ [] [0,5,6,7,8,9,10,11] [705] [(0:Int)≤t11∧t11<(items.length:Int)] ⟨⟨om,om⟩,trivial⟩ (Zam (Zam ?_))
     by_cases h2:0<t11
     ·have hgy:=Zyt (bs:=boxes) (xs:=items) (k:=t11.toNat) om
      refine x_q [(1,.dec true)] [0,5,6,8,9,10,11,17] [705] [_] ⟨h2,trivial⟩ (Zac (Zel ?_))
      refine x_r [(9,.new 27),(10,.new 28)] [0,5,6,8,9,10,11] [28] [Zae false boxes,.arr 28,I rg,I (at_ items t11.toNat),slI false items,I (items.length:Int),I t11] [some (.arr 1 (gp.length+1) (Zeg gp.length (fI gp) (Zeo [I (max 0 (((at_ boxes ((at_ items t11.toNat).toNat)).X1)-rg))] 1)))] [(0:Int)≤(at_ items t11.toNat)∧(at_ items t11.toNat)<(boxes.length:Int),inR .i64 (((at_ boxes ((at_ items t11.toNat).toNat)).X1)-rg),(gp.length+1)*8≤140737488355328] ⟨⟨om,om⟩,(Zaf om om),om,trivial⟩ (Zac ?_)
      refine x_q [] [0,5,6,9,10,11] [28] [(0:Int)≤(at_ items t11.toNat)∧(at_ items t11.toNat)<(boxes.length:Int)] ⟨⟨om,om⟩,trivial⟩ (Zbm 1 (Zac ?_))
      refine x_r [] [0,5,6,9,10,11] [28] [Zae false boxes,.arr 28,I (max rg ((at_ boxes ((at_ items t11.toNat).toNat)).X2)),slI false items,I (items.length:Int),I (t11+1)] [some (.arr 1 (gp.length+1) (Zeg gp.length (fI gp) (Zeo [I (max 0 (((at_ boxes ((at_ items t11.toNat).toNat)).X1)-rg))] 1)))] [inR .i64 (t11+1)] ⟨(Zaf om om),trivial⟩ ?_
      refine Zcb [(705,28)] (T:=[(0,Zae false boxes),(5,.arr 705),(6,I (max rg ((at_ boxes ((at_ items t11.toNat).toNat)).X2))),(9,slI false items),(10,I (items.length:Int)),(11,I (t11+1))]) (O:=[(705,tAI (gp++[(max 0 (((at_ boxes ((at_ items t11.toNat).toNat)).X1)-rg))]))]) rfl (⟨.inl rfl,.inl rfl,.inl rfl,.inl rfl,.inl rfl,.inl rfl,trivial⟩) (⟨.inr ⟨rfl,(by first|rfl|(simp;done)|(simp;omega)|omega),fun i_ hi_=> .inl (Zdm (enc:=cI) (xs:=gp) rfl i_ hi_)⟩,trivial⟩) (Zbu ((gp++[(max 0 (((at_ boxes ((at_ items t11.toNat).toNat)).X1)-rg))]),(max rg ((at_ boxes ((at_ items t11.toNat).toNat)).X2)),(t11+1)) rfl (show (0≤(t11+1)∧(t11+1)≤(items.length:Int))∧((gp++[(max 0 (((at_ boxes ((at_ items t11.toNat).toNat)).X1)-rg))])=Zhw boxes items (t11+1).toNat)∧((max rg ((at_ boxes ((at_ items t11.toNat).toNat)).X2))=rgt boxes items (t11+1).toNat)∧(((gp++[(max 0 (((at_ boxes ((at_ items t11.toNat).toNat)).X1)-rg))]).length:Int)≤(t11+1))∧True from ⟨om,(by rw [hnx];first|(rw [hgy,←hgs,←hrg];done)|(rw [hgs,hgz];rfl)),(by rw [hnx,hrg];rfl),(by (first|omega|(rw [List.length_append,List.length_singleton];omega))),trivial⟩) (by first|(show (((items.length:Int)-(t11+1)).toNat:Nat)<((items.length:Int)-t11).toNat;omega)|(dsimp only;omega)))
     have hgz:t11.toNat=0:=by omega
     have hgo:Zhw boxes items 1=[]:=rfl
     refine x_q [(1,.dec false)] [0,5,6,8,9,10,11,17] [705] [_] ⟨h2,trivial⟩ (Zac (Zhn (Zbn (Zac ?_))))
     refine x_q [] [0,5,6,9,10,11] [705] [(0:Int)≤(at_ items t11.toNat)∧(at_ items t11.toNat)<(boxes.length:Int)] ⟨⟨om,om⟩,trivial⟩ (Zbm 1 (Zac ?_))
     refine x_r [] [0,5,6,9,10,11] [705] [Zae false boxes,.arr 705,I (max rg ((at_ boxes ((at_ items t11.toNat).toNat)).X2)),slI false items,I (items.length:Int),I (t11+1)] [some (tAI gp)] [inR .i64 (t11+1)] ⟨(Zaf om om),trivial⟩ ?_
     exact Zbu (gp,(max rg ((at_ boxes ((at_ items t11.toNat).toNat)).X2)),(t11+1)) rfl (show (0≤(t11+1)∧(t11+1)≤(items.length:Int))∧(gp=Zhw boxes items (t11+1).toNat)∧((max rg ((at_ boxes ((at_ items t11.toNat).toNat)).X2))=rgt boxes items (t11+1).toNat)∧((gp.length:Int)≤(t11+1))∧True from ⟨om,(by rw [hnx];first|(rw [hgy,←hgs,←hrg];done)|(rw [hgs,hgz];rfl)),(by rw [hnx,hrg];rfl),(by (first|omega|(rw [List.length_append,List.length_singleton];omega))),trivial⟩) (by first|(show (((items.length:Int)-(t11+1)).toNat:Nat)<((items.length:Int)-t11).toNat;omega)|(dsimp only;omega))
    have hfin:gp=Zhw boxes items items.length:=by rw [hgs,show t11.toNat=items.length from by omega]
    refine x_r [(0,.dec false)] [0,5,6,9,10,11,12] [705] [Zae false boxes,.arr 705,I rg,slI false items,I (items.length:Int),I t11,Bv false] [some (tAI gp)] [_] ⟨h1,trivial⟩ (Zac (Zam (Zca rfl (Zcw (Zas ?_)))))
    refine Zaw ?_
    refine Zat (Zac ?_)
    refine xR [] [4] [705] [.arr 705] [some (tAI gp)] [] trivial (Zby ?_)
    refine Zbd gp (show (gp=Zhw boxes items items.length)∧(True) from ⟨(by exact hfin),trivial⟩) (trivial) (.arr 705) (by kernel_rfl) (.inr ⟨(fun _=>rfl),rfl,rfl,fun i _=> .inl rfl⟩) (fun _=>rfl) (fun _=>(Zft true _))
  obtain ⟨v,⟨hh0,_⟩,hc⟩:=hh
  exact ⟨v,hh0,hc⟩
theorem Zhq (boxes:List Box) (items:List Int) (gap:Int) (hp:Zbp boxes=true) (hx:∀x∈items,0≤x∧x<(boxes.length:Int)) (hil:items.length≤900):∃(v:List (List Int)),(v=Zmj boxes items gap)∧Con Try.prog 54 [Zae false boxes,slI false items,I gap] true (Zcx true v):=by
  have hh:∃r:(List (List Int)),((r=Zmj boxes items gap)∧(True))∧Zao Try.prog 54 [Zae false boxes,slI false items,I gap] (Zab []) true (Zcx true r) (Zab []):=by
    refine Zcp (Φ:=fun r:(List (List Int))=>(r=Zmj boxes items gap)∧(True)) [] (fun r=>[]) (fn:=Try.f54) (nt:=51) Try.func54 rfl rfl (args:=[Zae false boxes,slI false items,I gap]) rfl (Zap (.inl ⟨rfl,Zbo false _⟩) (Zap (.inl ⟨rfl,Zft false _⟩) (Zap (.inl ⟨rfl,trivial⟩) Zco))) (res:=fun r=>Zcx true r) ?_
    refine xQ [] [0,1,2] [] [] trivial (Zam ?_)
    obtain ⟨v_1,hx1_0,hc1⟩:=Zrj boxes items hp hx om
    have hgg:=hx1_0
    have hgl:v_1.length=items.length-1:=by rw [hgg,Zin]
    refine x_q [(2,.call [(true,.any),(true,.any)] true (slI true v_1))] [1,2,7] [] [_∧True] ⟨⟨hc1,trivial⟩,trivial⟩ (Zac ?_)
    refine xQ [] [1,2,7,8] [] [] trivial (Zam ?_)
    refine xR [] [2,7,8,14,15,16] [] [I gap,slI true v_1,Zfj,slI false items,I (items.length:Int),I 0] [] [] trivial (Zbg ?_)
    refine Zwe 8 708 1 (fun _=>[]) (by kernel_rfl) ?_
    refine x_fam 9243 1 (fun _=>0) (fun _ _=>[]) (by kernel_rfl) ?_
    refine Zde [] (T:=[(2,I gap),(7,slI true v_1),(8,.arr 708),(14,slI false items),(15,I (items.length:Int)),(16,I 0)]) (O:=[(708,Zjn 9243 ([]:List (List Int))),(9243,Zgw ([]:List (List Int)))]) rfl (⟨.inl rfl,.inl rfl,.inl rfl,.inl rfl,.inl rfl,.inl rfl,trivial⟩) (⟨.inr ⟨rfl,rfl,fun i hi=>absurd hi (Nat.not_lt_zero _)⟩,.inr ⟨rfl,rfl,fun p hp=>absurd hp (Nat.not_lt_zero _)⟩,trivial⟩) ?_
    refine Zdn (X:=(List (List Int))×Int) (fun x=>mkS [(2,I gap),(7,slI true v_1),(8,.arr 708),(14,slI false items),(15,I (items.length:Int)),(16,I x.2)] [(708,Zjn 9243 x.1),(9243,Zgw x.1)]) (fun x=>(0≤x.2∧x.2≤(items.length:Int))∧(x.1=Zij items v_1 gap x.2.toNat)∧True) (fun x=>((items.length:Int)-x.2).toNat) (([]:List (List Int)),0) rfl (show (0≤(0:Int)∧(0:Int)≤(items.length:Int))∧(([]:List (List Int))=Zij items v_1 gap (0:Int).toNat)∧True from ⟨om,(by rfl),trivial⟩) (fun x hI=> ?_)
    obtain ⟨ws,t16⟩:=x
    obtain ⟨hi0,hws,_⟩:(0≤t16∧t16≤(items.length:Int))∧(ws=Zij items v_1 gap t16.toNat)∧True:=hI
    show XW _ _ _ _ (mkS [(2,I gap),(7,slI true v_1),(8,.arr 708),(14,slI false items),(15,I (items.length:Int)),(16,I t16)] [(708,Zjn 9243 ws),(9243,Zgw ws)]) _ _
    refine Zam ?_
    by_cases h1:t16<(items.length:Int)
    ·have hi:t16.toNat<items.length:=by omega
     have hnx:(t16+1).toNat=t16.toNat+1:=by omega
     have hwn:=Zri items v_1 gap t16.toNat
     rw [←hws] at hwn
     refine x_q [(0,.dec true)] [2,7,8,14,15,16,17] [708,9243] [_] ⟨h1,trivial⟩ (Zac (Zam (Zel (Zbn (Zac (Zam (Zbg ?_)))))))
     refine xR [] [2,7,8,9,10,14,15,16] [708,9243] [I gap,slI true v_1,.arr 708,I t16,I (at_ items t16.toNat),slI false items,I (items.length:Int),I t16] [some (Zjn 9243 ws),some (Zgw ws)] [(0:Int)≤t16∧t16<(items.length:Int)] ⟨⟨om,om⟩,trivial⟩ ?_
     refine x_cut (X:=(List (List Int))) (fun x=>mkS [(2,I gap),(7,slI true v_1),(8,.arr 708),(10,I (at_ items t16.toNat)),(14,slI false items),(15,I (items.length:Int)),(16,I t16)] [(708,Zjn 9243 x),(9243,Zgw x)]) (fun x=>(x=prw v_1 gap ws t16.toNat)∧True) ?_ (fun x hI=> ?_)
     ·refine Zam ?_
      by_cases h2:t16=0
      ·have hpy:=Zyv (g:=v_1) (gap:=gap) (ws:=ws) (k:=t16.toNat) (.inl om)
       refine x_q [(1,.dec true)] [2,7,8,10,14,15,16,31] [708,9243] [_] ⟨h2,trivial⟩ (Zac (Zel ?_))
       refine x_r [(1,.new 33),(2,.new 34)] [2,7,8,10,14,15,16] [34,9243] [I gap,slI true v_1,.arr 34,I (at_ items t16.toNat),slI false items,I (items.length:Int),I t16] [some (.oar [9243] 1 (ws.length+1) (Zeg ws.length (oLI 9243 ws) (Zeo [Zfj] 1))),some (Zgw ws)] [(ws.length+1)*24≤140737488355328] ⟨om,trivial⟩ ?_
       refine Zpj 34 8601 1 ws.length [] (Zeg ws.length (oLI 9243 ws) (Zeo [.arr 8601] 1)) (fun _=>[]) rfl (om) (u:=Zfj) (by rw [Zdg (Nat.le_refl _),Nat.sub_self];rfl) rfl (by rw [Zdg (Nat.le_refl _),Nat.sub_self];rfl) (fun q h1_ h2_=>by rw [Zdk om,Zdk om]) rfl (by kernel_rfl) ?_
       refine Zjo 8601 9243 rfl rfl rfl ?_
       refine Zcb [(708,34)] (T:=[(2,I gap),(7,slI true v_1),(8,.arr 708),(10,I (at_ items t16.toNat)),(14,slI false items),(15,I (items.length:Int)),(16,I t16)]) (O:=[(708,Zjn 9243 (ws++[([]:List Int)])),(9243,Zgw (ws++[([]:List Int)]))]) rfl (⟨.inl rfl,.inl rfl,.inl rfl,.inl rfl,.inl rfl,.inl rfl,.inl rfl,trivial⟩) (⟨.inr ⟨rfl,rfl,(by simp),fun i hi=> .inl (Zup rfl rfl rfl i hi)⟩,.inr (Zuq ([]:List Int) (by first|rfl|(simp;done)) (fun i_ hi_=>absurd hi_ (Nat.not_lt_zero _))),trivial⟩) (Zip (ws++[([]:List Int)]) rfl (show ((ws++[([]:List Int)])=prw v_1 gap ws t16.toNat)∧True from ⟨(by first|exact hpy.symm|exact hpn.symm),trivial⟩))
      have hge:(t16-1).toNat=t16.toNat-1:=by omega
      by_cases h3:gap<(at_ v_1 ((t16-1).toNat))
      ·have hpy:=Zyv (g:=v_1) (gap:=gap) (ws:=ws) (k:=t16.toNat) (.inr (by rw [←hge];exact h3))
       refine x_q [(1,.dec false),(9,.dec true)] [2,7,8,10,14,15,16,31] [708,9243] [_,inR .i64 (t16-1),(0:Int)≤(t16-1)∧(t16-1)<(v_1.length:Int),_] ⟨h2,(Zaf om om),⟨om,om⟩,h3,trivial⟩ (Zac (Zel ?_))
       refine x_r [(1,.new 33),(2,.new 34)] [2,7,8,10,14,15,16] [34,9243] [I gap,slI true v_1,.arr 34,I (at_ items t16.toNat),slI false items,I (items.length:Int),I t16] [some (.oar [9243] 1 (ws.length+1) (Zeg ws.length (oLI 9243 ws) (Zeo [Zfj] 1))),some (Zgw ws)] [(ws.length+1)*24≤140737488355328] ⟨om,trivial⟩ ?_
       refine Zpj 34 8602 1 ws.length [] (Zeg ws.length (oLI 9243 ws) (Zeo [.arr 8602] 1)) (fun _=>[]) rfl (om) (u:=Zfj) (by rw [Zdg (Nat.le_refl _),Nat.sub_self];rfl) rfl (by rw [Zdg (Nat.le_refl _),Nat.sub_self];rfl) (fun q h1_ h2_=>by rw [Zdk om,Zdk om]) rfl (by kernel_rfl) ?_
       refine Zjo 8602 9243 rfl rfl rfl ?_
       refine Zcb [(708,34)] (T:=[(2,I gap),(7,slI true v_1),(8,.arr 708),(10,I (at_ items t16.toNat)),(14,slI false items),(15,I (items.length:Int)),(16,I t16)]) (O:=[(708,Zjn 9243 (ws++[([]:List Int)])),(9243,Zgw (ws++[([]:List Int)]))]) rfl (⟨.inl rfl,.inl rfl,.inl rfl,.inl rfl,.inl rfl,.inl rfl,.inl rfl,trivial⟩) (⟨.inr ⟨rfl,rfl,(by simp),fun i hi=> .inl (Zup rfl rfl rfl i hi)⟩,.inr (Zuq ([]:List Int) (by first|rfl|(simp;done)) (fun i_ hi_=>absurd hi_ (Nat.not_lt_zero _))),trivial⟩) (Zip (ws++[([]:List Int)]) rfl (show ((ws++[([]:List Int)])=prw v_1 gap ws t16.toNat)∧True from ⟨(by first|exact hpy.symm|exact hpn.symm),trivial⟩))
      have hpn:=prw_n (g:=v_1) (gap:=gap) (ws:=ws) (k:=t16.toNat) (fun q=>by rcases q with q|q;omega;(rw [←hge] at q;exact h3 q))
      refine x_r [(1,.dec false),(9,.dec false)] [2,7,8,10,14,15,16,31] [708,9243] [I gap,slI true v_1,.arr 708,I (at_ items t16.toNat),slI false items,I (items.length:Int),I t16,Bv false] [some (Zjn 9243 ws),some (Zgw ws)] [_,inR .i64 (t16-1),(0:Int)≤(t16-1)∧(t16-1)<(v_1.length:Int),_] ⟨h2,(Zaf om om),⟨om,om⟩,h3,trivial⟩ (Zac (Zca rfl (Zbn ?_)))
      refine Zcb [] (T:=[(2,I gap),(7,slI true v_1),(8,.arr 708),(10,I (at_ items t16.toNat)),(14,slI false items),(15,I (items.length:Int)),(16,I t16)]) (O:=[(708,Zjn 9243 ws),(9243,Zgw ws)]) rfl (⟨.inl rfl,.inl rfl,.inl rfl,.inl rfl,.inl rfl,.inl rfl,.inl rfl,trivial⟩) (⟨.inl rfl,.inl rfl,trivial⟩) (Zip ws rfl (show (ws=prw v_1 gap ws t16.toNat)∧True from ⟨(by first|exact hpy.symm|exact hpn.symm),trivial⟩))
     obtain ⟨w2,hxx⟩:∃w2:List (List Int),w2=x:=⟨x,rfl⟩
     subst hxx
     obtain ⟨hw2,_⟩:(w2=prw v_1 gap ws t16.toNat)∧True:=hI
     show XW _ _ _ _ (mkS [(2,I gap),(7,slI true v_1),(8,.arr 708),(10,I (at_ items t16.toNat)),(14,slI false items),(15,I (items.length:Int)),(16,I t16)] [(708,Zjn 9243 w2),(9243,Zgw w2)]) _ _
     have hpl:=Zsw v_1 gap ws t16.toNat hwn.1.1
     rw [←hw2] at hpl
     have hw2n:∀w∈w2,w.length≤t16.toNat:=fun w hw=>by rw [hw2] at hw;exact (Zsx hw).elim (fun q=>hwn.2 w q) (fun q=>by rw [q];exact Nat.zero_le _)
     have hPe:w2.length-1=((w2.length:Int)-1).toNat:=by omega
     have hlq:=hw2n _ (Zbj (i:=((w2.length:Int)-1).toNat) om)
     refine Zrd 708 8503 9243 (((w2.length:Int)-1).toNat) rfl rfl (om) (fun q _=>rfl) (by kernel_rfl) ?_
     refine Zde [] (T:=[(2,I gap),(7,slI true v_1),(8,.arr 708),(10,I (at_ items t16.toNat)),(14,slI false items),(15,I (items.length:Int)),(16,I t16)]) (O:=[(708,.oar [8503,9243] 1 w2.length (fun q=>bif Nat.beq q (((w2.length:Int)-1).toNat) then [.arr 8503] else (oLI 9243 (w2.set (((w2.length:Int)-1).toNat) ([]:List Int))) q)),(8503,tAI (at_ w2 (((w2.length:Int)-1).toNat))),(9243,Zgw (w2.set (((w2.length:Int)-1).toNat) ([]:List Int)))]) rfl (⟨.inl rfl,.inl rfl,.inl rfl,.inl rfl,.inl rfl,.inl rfl,.inl rfl,trivial⟩) (⟨.inr ⟨rfl,rfl,(by first|rfl|(simp;done)),fun i hi=> .inl (by dsimp only;cases Nat.beq i (((w2.length:Int)-1).toNat)<;>rfl)⟩,.inl rfl,.inr (Zur (om) (by first|rfl|(simp;done)|(simp;omega)) (fun i_ h_=>absurd h_ (Nat.not_lt_zero _))),trivial⟩) ?_
     refine x_r [(9,.as (.arr 8503)),(11,.new 46),(12,.new 47)] [2,7,8,14,15,16] [47,708,9243] [I gap,slI true v_1,.arr 708,slI false items,I (items.length:Int),I t16] [some (.arr 1 (((at_ w2 (((w2.length:Int)-1).toNat)).length)+1) (Zeg ((at_ w2 (((w2.length:Int)-1).toNat)).length) (fI (at_ w2 (((w2.length:Int)-1).toNat))) (Zeo [I (at_ items t16.toNat)] 1))),some (.oar [8503,9243,47] 1 w2.length (fun q=>bif Nat.beq q (((w2.length:Int)-1).toNat) then spl ((fun q=>bif Nat.beq q (((w2.length:Int)-1).toNat) then [.arr 8503] else (oLI 9243 (w2.set (((w2.length:Int)-1).toNat) ([]:List Int))) q) (((w2.length:Int)-1).toNat)) 0 [.arr 47] else (fun q=>bif Nat.beq q (((w2.length:Int)-1).toNat) then [.arr 8503] else (oLI 9243 (w2.set (((w2.length:Int)-1).toNat) ([]:List Int))) q) q)),some (Zgw (w2.set (((w2.length:Int)-1).toNat) ([]:List Int)))] [inR .i64 ((w2.length:Int)-1),inR .i64 ((w2.length:Int)-1),(0:Int)≤((w2.length:Int)-1)∧((w2.length:Int)-1)<(w2.length:Int),((w2.length:Int)-1).toNat<w2.length∧List.drop 0 ((fun q=>bif Nat.beq q (((w2.length:Int)-1).toNat) then [.arr 8503] else (oLI 9243 (w2.set (((w2.length:Int)-1).toNat) ([]:List Int))) q) (((w2.length:Int)-1).toNat))=[.arr 8503],(((at_ w2 (((w2.length:Int)-1).toNat)).length)+1)*8≤140737488355328,(0:Int)≤((w2.length:Int)-1)∧((w2.length:Int)-1)<(w2.length:Int),((w2.length:Int)-1).toNat<w2.length] ⟨(Zaf om om),(Zaf om om),⟨om,om⟩,⟨om,(by simp only [Nat.beq_refl,cond_true];rfl)⟩,om,⟨om,om⟩,om,trivial⟩ (Zbm 1 (Zac ?_))
     refine Zue 708 47 9243 (((w2.length:Int)-1).toNat) rfl rfl rfl ((by first|omega|(simp only [List.length_set];omega))) (by first|exact Nat.le_refl _|omega|(simp;done)) (fun q _=>⟨fun e=>by subst e;simp only [Nat.beq_refl,cond_true];rfl,fun e=>by simp only [Zjb e,cond_false];rfl⟩) (by kernel_rfl) ?_
     refine Zde [] (T:=[(2,I gap),(7,slI true v_1),(8,.arr 708),(14,slI false items),(15,I (items.length:Int)),(16,I t16)]) (O:=[(708,Zjn 9243 ((w2.set (((w2.length:Int)-1).toNat) ([]:List Int)).set (((w2.length:Int)-1).toNat) ((at_ w2 (((w2.length:Int)-1).toNat))++[(at_ items t16.toNat)]))),(9243,Zgw ((w2.set (((w2.length:Int)-1).toNat) ([]:List Int)).set (((w2.length:Int)-1).toNat) ((at_ w2 (((w2.length:Int)-1).toNat))++[(at_ items t16.toNat)])))]) rfl (⟨.inl rfl,.inl rfl,.inl rfl,.inl rfl,.inl rfl,.inl rfl,trivial⟩) (⟨.inr ⟨rfl,rfl,(by simp),fun i hi=> .inl rfl⟩,.inr (Zur ((by first|omega|(simp only [List.length_set];omega))) (by first|rfl|(simp;done)|(simp;omega)) (fun i_ h_=>(show ∀i_:Nat,i_<(((at_ w2 (((w2.length:Int)-1).toNat))++[(at_ items t16.toNat)]):List Int).length→(Zeg ((at_ w2 (((w2.length:Int)-1).toNat)).length) (fI (at_ w2 (((w2.length:Int)-1).toNat))) (Zeo [I (at_ items t16.toNat)] 1)) i_=(fI ((at_ w2 (((w2.length:Int)-1).toNat))++[(at_ items t16.toNat)])) i_ from fun i_ hi_=>(Zdm (enc:=cI) (xs:=(at_ w2 (((w2.length:Int)-1).toNat))) rfl i_ hi_)) i_ (by first|exact h_|(simpa using h_)))),trivial⟩) ?_
     refine x_r [] [2,7,8,14,15,16] [708,9243] [I gap,slI true v_1,.arr 708,slI false items,I (items.length:Int),I (t16+1)] [some (Zjn 9243 ((w2.set (((w2.length:Int)-1).toNat) ([]:List Int)).set (((w2.length:Int)-1).toNat) ((at_ w2 (((w2.length:Int)-1).toNat))++[(at_ items t16.toNat)]))),some (Zgw ((w2.set (((w2.length:Int)-1).toNat) ([]:List Int)).set (((w2.length:Int)-1).toNat) ((at_ w2 (((w2.length:Int)-1).toNat))++[(at_ items t16.toNat)])))] [inR .i64 (t16+1)] ⟨(Zaf om om),trivial⟩ ?_
     exact Zbu (((w2.set (((w2.length:Int)-1).toNat) ([]:List Int)).set (((w2.length:Int)-1).toNat) ((at_ w2 (((w2.length:Int)-1).toNat))++[(at_ items t16.toNat)])),(t16+1)) rfl (show (0≤(t16+1)∧(t16+1)≤(items.length:Int))∧(((w2.set (((w2.length:Int)-1).toNat) ([]:List Int)).set (((w2.length:Int)-1).toNat) ((at_ w2 (((w2.length:Int)-1).toNat))++[(at_ items t16.toNat)]))=Zij items v_1 gap (t16+1).toNat)∧True from ⟨om,(by rw [hnx];show _=putw (prw v_1 gap (Zij items v_1 gap t16.toNat) t16.toNat) (at_ items t16.toNat);rw [←hws,←hw2,List.set_set];unfold putw;rw [hPe]),trivial⟩) (by first|(show (((items.length:Int)-(t16+1)).toNat:Nat)<((items.length:Int)-t16).toNat;omega)|(dsimp only;omega))
    have hfin:ws=Zmj boxes items gap:=by rw [hws,hgg,show t16.toNat=items.length from by omega];rfl
    refine x_r [(0,.dec false)] [2,7,8,14,15,16,17] [708,9243] [I gap,slI true v_1,.arr 708,slI false items,I (items.length:Int),I t16,Bv false] [some (Zjn 9243 ws),some (Zgw ws)] [_] ⟨h1,trivial⟩ (Zac (Zam (Zca rfl (Zcw (Zas ?_)))))
    refine Zaw ?_
    refine Zat (Zac ?_)
    refine xR [] [6] [708,9243] [.arr 708] [some (Zjn 9243 ws),some (Zgw ws)] [] trivial (Zby ?_)
    refine Zbd ws (show (ws=Zmj boxes items gap)∧(True) from ⟨(by exact hfin),trivial⟩) (trivial) (.arr 708) (by kernel_rfl) (.inr ⟨(fun _=>rfl),rfl,rfl,oleLI _ _ rfl⟩) (fun _=>rfl) (fun _=>(Zgl true _))
  obtain ⟨v,⟨hh0,_⟩,hc⟩:=hh
  exact ⟨v,hh0,hc⟩
theorem go_inv {bs:List Box} {xs:List Int} (h:Zbp bs=false):Znd bs xs=([],1):=by unfold Znd;rw [h];rfl
theorem go_rng {bs:List Box} {xs:List Int} (h:Zbp bs=true) (h2:Zgc bs xs=false):Znd bs xs=([],2):=by unfold Znd;rw [if_pos h,h2];rfl
theorem go_ok {bs:List Box} {xs:List Int} (h:Zbp bs=true) (h2:Zgc bs xs=true):Znd bs xs=(Zhw bs xs xs.length,0):=by rw [Znd,if_pos h,if_pos h2]
theorem wo_inv {bs:List Box} {xs:List Int} {gap:Int} (h:Zbp bs=false):Zki bs xs gap=([],1):=by unfold Zki;rw [h];rfl
theorem Zut {bs:List Box} {xs:List Int} {gap:Int} (h:Zbp bs=true) (h2:Zgc bs xs=false∨inB gap 0 4095=false):Zki bs xs gap=([],2):=by
 rw [Zki,if_pos h,if_neg]
 rintro ⟨q1,q2⟩
 rcases h2 with e|e
 ·rw [q1] at e;cases e
 ·rw [q2] at e;cases e
theorem wo_ok {bs:List Box} {xs:List Int} {gap:Int} (h:Zbp bs=true) (h2:Zgc bs xs=true) (h3:inB gap 0 4095=true):Zki bs xs gap=(Zmj bs xs gap,0):=by rw [Zki,if_pos h,if_pos ⟨h2,h3⟩]
theorem ro_inv {bs:List Box} {lg wg:Int} (h:Zbp bs=false):Zjm bs lg wg=([],1):=by unfold Zjm;rw [h];rfl
theorem Zuk {bs:List Box} {lg wg:Int} (h:Zbp bs=true) (h2:inB lg 0 4095=false∨inB wg 0 4095=false):Zjm bs lg wg=([],2):=by
 rw [Zjm,if_pos h,if_neg]
 rintro ⟨q1,q2⟩
 rcases h2 with e|e
 ·rw [q1] at e;cases e
 ·rw [q2] at e;cases e
theorem ro_ok {bs:List Box} {lg wg:Int} (h:Zbp bs=true) (h2:inB lg 0 4095=true) (h3:inB wg 0 4095=true):Zjm bs lg wg=(rdW bs wg (Zmm bs lg),0):=by rw [Zjm,if_pos h,if_pos ⟨h2,h3⟩]
theorem Zvz {bs:List Box} {xs:List Int} {gap:Int} (h:(Zki bs xs gap).2=0):Zbp bs=true∧Zgc bs xs=true∧(Zki bs xs gap).1=Zmj bs xs gap:=by
 unfold Zki at h⊢
 split at h
 ·rename_i h1
  split at h
  ·rename_i h2;exact ⟨h1,h2.1,by rw [if_pos h1,if_pos h2]⟩
  ·cases h
 ·cases h
theorem ro_code {bs:List Box} {lg wg:Int} (h:(Zjm bs lg wg).2=0):Zbp bs=true∧(Zjm bs lg wg).1=rdW bs wg (Zmm bs lg):=by
 unfold Zjm at h⊢
 split at h
 ·rename_i h1
  split at h
  ·rename_i h2;exact ⟨h1,by rw [if_pos h1,if_pos h2]⟩
  ·cases h
 ·cases h
theorem ro_flat {bs:List Box} {lg wg:Int} (h:(Zjm bs lg wg).2=0):(Zjm bs lg wg).1.flatten.length=bs.length∧(Zjm bs lg wg).1.length≤60∧bs.length≤60:=by
 have h1:=ro_code h
 have h2:=(linR_ok (gap:=lg) h1.1).2.2.length_eq
 have h3:=Zma h1.1
 rw [h1.2]
 refine ⟨by rw [Zus,h2,Zdu],?_,h3⟩
 have:=Zyy bs wg (Zmm bs lg)
 rw [h2,Zdu] at this
 omega
def Znv (a b:List (List Int)):Bool:=decide (a.length=b.length)&&Zpy a.length (fun j=>Zje (at_ a j) (at_ b j))
theorem Zlb (a:List (List Int)):Znv a a=true:=by
 unfold Znv
 rw [decide_eq_true rfl,Zhh (fun j hj=>Znf _)];rfl
theorem Zil (boxes:List Box) (items:List Int) (gap:Int) (hbl:boxes.length≤900∧items.length≤900):∃(v:List (List Int)) (c:Int),((v,c)=Zki boxes items gap)∧Con Try.prog 21 [Zae false boxes,slI false items,I gap] true (.tup [Zcx true v,I c]):=by
  have hh:∃r:(List (List Int))×Int,(((r.1,r.2)=Zki boxes items gap)∧(True))∧Zao Try.prog 21 [Zae false boxes,slI false items,I gap] (Zab []) true (.tup [Zcx true r.1,I r.2]) (Zab []):=by
    refine Zcp (Φ:=fun r:(List (List Int))×Int=>((r.1,r.2)=Zki boxes items gap)∧(True)) [] (fun r=>[]) (fn:=Try.f21) (nt:=24) Try.func21 rfl rfl (args:=[Zae false boxes,slI false items,I gap]) rfl (Zap (.inl ⟨rfl,Zbo false _⟩) (Zap (.inl ⟨rfl,Zft false _⟩) (Zap (.inl ⟨rfl,trivial⟩) Zco))) (res:=fun r=> .tup [Zcx true r.1,I r.2]) ?_
    refine xQ [] [0,1,2] [] [] trivial (Zam (Zam ?_))
    rcases Bool.eq_false_or_eq_true (Zbp boxes) with h1|h1
    ·have hpp:=h1
     refine x_q [(1,.call [(true,.any)] true (Bv true))] [0,1,2,10] [] [Con Try.prog 32 [Zae false boxes] true (Bv true)∧True] ⟨⟨(Zak h1 (Zgb boxes)),trivial⟩,trivial⟩ (Zac (Zhn (Zbn (Zac (Zam (Zam ?_))))))
     rcases Bool.eq_false_or_eq_true (inB gap 0 4095) with h2|h2
     ·have hgp:=Zgk.1 h2
      have hgi:=h2
      rcases Bool.eq_false_or_eq_true (Zgc boxes items) with h3|h3
      ·have hxx:=Zmg (Zjh h3)
       have hst:=fun q=>wo_ok (gap:=gap) h1 h3 q
       refine x_q [(1,.call [(true,.any)] true (Bv true)),(6,.call [(true,.any),(true,.any)] true (Bv true))] [0,1,2,19] [] [Con Try.prog 33 [I gap] true (Bv true)∧True,Con Try.prog 53 [Zae false boxes,slI false items] true (Bv true)∧True] ⟨⟨(Zak h2 (Zfq gap)),trivial⟩,⟨(Zak h3 (Zgo boxes items om)),trivial⟩,trivial⟩ (Zac (Zhn (Zbn (Zac (Zam ?_)))))
       obtain ⟨v_1,hx1_0,hc1⟩:=Zhq boxes items gap h1 hxx om
       have hwv:=hx1_0
       refine x_r [(3,.call [(true,.any),(true,.any),(true,.any)] true (Zcx true v_1))] [6,7] [] [Zcx true v_1,I 0] [] [_∧True] ⟨⟨hc1,trivial⟩,trivial⟩ (Zac (Zby ?_))
       refine Zbd (v_1,0) (show ((v_1,0)=Zki boxes items gap)∧(True) from ⟨(by first|exact hst.symm|(rw [hst hgi,←hwv])),trivial⟩) (trivial) (.tup [Zcx true v_1,I 0]) (by kernel_rfl) (.inl rfl) (fun _=>rfl) (fun _=>(by simp [Zah,Zag,Zgl]))
      have hst:=Zut (gap:=gap) h1 (.inl h3)
      refine x_q [(1,.call [(true,.any)] true (Bv true)),(6,.call [(true,.any),(true,.any)] true (Bv false))] [0,1,2,19] [] [Con Try.prog 33 [I gap] true (Bv true)∧True,Con Try.prog 53 [Zae false boxes,slI false items] true (Bv false)∧True] ⟨⟨(Zak h2 (Zfq gap)),trivial⟩,⟨(Zak h3 (Zgo boxes items om)),trivial⟩,trivial⟩ (Zac (Zel ?_))
      refine xR [] [6,7] [] [Zfj,I 2] [] [] trivial (Zby (Zbc ?_))
      refine Zbd (([]:List (List Int)),2) (show ((([]:List (List Int)),2)=Zki boxes items gap)∧(True) from ⟨(by first|exact hst.symm|(rw [hst hgi,←hwv])),trivial⟩) (trivial) (.tup [Zfj,I 2]) (by kernel_rfl) (.inr ⟨⟨rfl,rfl⟩,⟨rfl,rfl⟩⟩) (fun _=>rfl) (fun _=>(by simp [Zah,Zag,Zgl]))
     have hst:=Zut (xs:=items) h1 (.inr h2)
     refine x_q [(1,.call [(true,.any)] true (Bv false))] [0,1,2,19] [] [Con Try.prog 33 [I gap] true (Bv false)∧True] ⟨⟨(Zak h2 (Zfq gap)),trivial⟩,trivial⟩ (Zac (Zel ?_))
     refine xR [] [6,7] [] [Zfj,I 2] [] [] trivial (Zby (Zbc ?_))
     refine Zbd (([]:List (List Int)),2) (show ((([]:List (List Int)),2)=Zki boxes items gap)∧(True) from ⟨(by first|exact hst.symm|(rw [hst hgi,←hwv])),trivial⟩) (trivial) (.tup [Zfj,I 2]) (by kernel_rfl) (.inr ⟨⟨rfl,rfl⟩,⟨rfl,rfl⟩⟩) (fun _=>rfl) (fun _=>(by simp [Zah,Zag,Zgl]))
    have hst:=wo_inv (xs:=items) (gap:=gap) h1
    refine x_q [(1,.call [(true,.any)] true (Bv false))] [0,1,2,10] [] [Con Try.prog 32 [Zae false boxes] true (Bv false)∧True] ⟨⟨(Zak h1 (Zgb boxes)),trivial⟩,trivial⟩ (Zac (Zel ?_))
    refine xR [] [6,7] [] [Zfj,I 1] [] [] trivial (Zby (Zbc ?_))
    refine Zbd (([]:List (List Int)),1) (show ((([]:List (List Int)),1)=Zki boxes items gap)∧(True) from ⟨(by first|exact hst.symm|(rw [hst hgi,←hwv])),trivial⟩) (trivial) (.tup [Zfj,I 1]) (by kernel_rfl) (.inr ⟨⟨rfl,rfl⟩,⟨rfl,rfl⟩⟩) (fun _=>rfl) (fun _=>(by simp [Zah,Zag,Zgl]))
  obtain ⟨⟨v,c⟩,⟨hh0,_⟩,hc⟩:=hh
  exact ⟨v,c,hh0,hc⟩
theorem Zfi (boxes:List Box) (items:List Int) (hbl:boxes.length≤1000∧items.length≤1000):Con Try.prog 55 [Zae false boxes,slI false items] true (Bv (Zgc boxes items)):=by
  refine Zda (fn:=Try.f55) (nt:=37) Try.func55 rfl rfl rfl rfl (by simp [Zag,Zah,Zbo,Zft]) fun B hB=> ?_
  refine Zbt (x:=Zae false boxes) 0 rfl (fun len_boxes=> ?_)
  simp [Zdb,Zfv,Znw,Zdr,Zae] at len_boxes
  refine Zbt (x:=slI false items) 1 rfl (fun len_items=> ?_)
  simp [Zdb,Zfv,cI,fI,slI] at len_items
  refine aQ [] [0,1] [] [] hB trivial (Zai ?_)
  refine aR [] [0,1,5] [] [Zae false boxes,slI false items,I 0] [] [] hB trivial (Zar ?_)
  refine Zcg (fun gn gσ=>∃(i:Int),gn=((items.length:Int)-i).toNat∧(0≤i∧i≤(items.length:Int))∧(∀j:Nat,(j:Int)<i→okIt boxes items j=true)∧gσ=mkS [(0,Zae false boxes),(1,slI false items),(5,I i)] []) (((items.length:Int)-0).toNat) ⟨0,rfl,om,(by intro j hj;omega),rfl⟩ (fun gn gσ hI=> ?_)
  obtain ⟨i,rfl,hi0,hall0,rfl⟩:=hI
  refine Zai (Zai ?_)
  by_cases h1:i<(items.length:Int)
  ·have hi:i.toNat<items.length:=by omega
   refine Zbz [(3,.dec true)] [0,1,5,9] [] [_] hB ⟨h1,trivial⟩ (Zad (Zcf (Zaq (Zad (Zai (Zar (Zai (Zai ?_))))))))
   rcases Bool.eq_false_or_eq_true (inB (at_ items i.toNat) 0 ((boxes.length:Int)-1)) with h2|h2
   ·have hb0:=h2
    have hb1:=Zgk.1 h2
    refine Zbz [(7,.call [(true,.any),(true,.any),(true,.any)] true (Bv true))] [0,1,5,20] [] [(0:Int)≤i∧i<(items.length:Int),inR .i64 ((boxes.length:Int)-1),Con Try.prog 46 [I (at_ items i.toNat),I 0,I ((boxes.length:Int)-1)] true (Bv true)∧True] hB ⟨⟨om,om⟩,(Zaf om om),⟨(Zak h2 (Zen (at_ items i.toNat) 0 ((boxes.length:Int)-1))),trivial⟩,trivial⟩ (Zad (Zbw (Zaq (Zad (Zai ?_)))))
    by_cases h3:0<i
    ·have hp0:=h3
     have hb2:=Zgk.1 (Zhk.1 (hall0 (i-1).toNat om)).1
     rcases Bool.eq_false_or_eq_true (lftB boxes (at_ items ((i-1).toNat)) (at_ items i.toNat)) with h4|h4
     ·have hok:=Zyr hi0.1 hb0 (.inr h4)
      refine Zbz [(1,.dec true),(13,.call [(true,.any),(true,.any),(true,.any)] true (Bv true))] [0,1,5,36] [] [_,inR .i64 (i-1),(0:Int)≤(i-1)∧(i-1)<(items.length:Int),(0:Int)≤i∧i<(items.length:Int),Con Try.prog 74 [Zae false boxes,I (at_ items ((i-1).toNat)),I (at_ items i.toNat)] true (Bv true)∧True] hB ⟨h3,(Zaf om om),⟨om,om⟩,⟨om,om⟩,⟨(Zak h4 (Zgp boxes (at_ items ((i-1).toNat)) (at_ items i.toNat) om om)),trivial⟩,trivial⟩ (Zad (Zbw (Zaq (Zbq 1 (Zad ?_)))))
      refine Zei [] [0,1,5] [] [Zae false boxes,slI false items,I (i+1)] [] [inR .i64 (i+1)] hB ⟨(Zaf om om),trivial⟩ ?_
      exact Zbr _ om ⟨(i+1),rfl,om,(by intro j hj;by_cases ej:j=i.toNat;(subst ej;first|assumption|exact hok);exact hall0 j om),rfl⟩
     have hst:Zgc boxes items=false:=Zgm hi (Zys (.inr ⟨hp0,h4⟩))
     refine Zbz [(1,.dec true),(13,.call [(true,.any),(true,.any),(true,.any)] true (Bv false))] [0,1,5,36] [] [_,inR .i64 (i-1),(0:Int)≤(i-1)∧(i-1)<(items.length:Int),(0:Int)≤i∧i<(items.length:Int),Con Try.prog 74 [Zae false boxes,I (at_ items ((i-1).toNat)),I (at_ items i.toNat)] true (Bv false)∧True] hB ⟨h3,(Zaf om om),⟨om,om⟩,⟨om,om⟩,⟨(Zak h4 (Zgp boxes (at_ items ((i-1).toNat)) (at_ items i.toNat) om om)),trivial⟩,trivial⟩ (Zad (Zcf ?_))
     refine aR [] [4] [] [Bv false] [] [] hB trivial (Zaz ?_)
     refine Zau (Zal (Zal (Zau (Zal ?_))))
     refine Zax hB (Bv false) (by kernel_rfl) (.inl (by rw [hst])) rfl (fun _=>trivial)
    have hok:=Zyr hi0.1 hb0 (.inl h3)
    refine Zbz [(1,.dec false)] [0,1,5,36] [] [_] hB ⟨h3,trivial⟩ (Zad (Zbw (Zaq (Zbq 1 (Zad ?_)))))
    refine Zei [] [0,1,5] [] [Zae false boxes,slI false items,I (i+1)] [] [inR .i64 (i+1)] hB ⟨(Zaf om om),trivial⟩ ?_
    exact Zbr _ om ⟨(i+1),rfl,om,(by intro j hj;by_cases ej:j=i.toNat;(subst ej;first|assumption|exact hok);exact hall0 j om),rfl⟩
   have hst:Zgc boxes items=false:=Zgm hi (Zys (.inl h2))
   refine Zbz [(7,.call [(true,.any),(true,.any),(true,.any)] true (Bv false))] [0,1,5,20] [] [(0:Int)≤i∧i<(items.length:Int),inR .i64 ((boxes.length:Int)-1),Con Try.prog 46 [I (at_ items i.toNat),I 0,I ((boxes.length:Int)-1)] true (Bv false)∧True] hB ⟨⟨om,om⟩,(Zaf om om),⟨(Zak h2 (Zen (at_ items i.toNat) 0 ((boxes.length:Int)-1))),trivial⟩,trivial⟩ (Zad (Zcf ?_))
   refine aR [] [4] [] [Bv false] [] [] hB trivial (Zaz ?_)
   refine Zal (Zau (Zal (Zal (Zau (Zal ?_)))))
   refine Zax hB (Bv false) (by kernel_rfl) (.inl (by rw [hst])) rfl (fun _=>trivial)
  have hst:Zgc boxes items=true:=Zhh (fun j hj=>hall0 j om)
  refine Zbz [(3,.dec false)] [0,1,5,9] [] [_] hB ⟨h1,trivial⟩ (Zad (Zbw (Zcl (Zaj (Zaj (Zav (Zad ?_)))))))
  refine aR [] [4] [] [Bv true] [] [] hB trivial (Zaz ?_)
  refine Zax hB (Bv true) (by kernel_rfl) (.inl (by rw [hst])) rfl (fun _=>trivial)
theorem Zfg (gap:Int):Con Try.prog 36 [I gap] true (Bv (inB gap 0 4095)):=by
 refine Zda (fn:=Try.f36) (nt:=5) Try.func36 rfl rfl rfl rfl (by simp [Zag,Zah]) fun B hB=> ?_
 refine aQ [] [0] [] [] hB trivial ?_
 refine aR [(1,.call [(true,.any),(true,.any),(true,.any)] true (Bv (inB gap 0 4095)))] [2] [] [Bv (inB gap 0 4095)] [] [_∧True] hB ⟨⟨(Zen gap 0 4095),trivial⟩,trivial⟩ (Zaz ?_)
 refine Zax hB (Bv (inB gap 0 4095)) (by kernel_rfl) (.inl rfl) rfl (fun _=>trivial)
theorem Zmc (a:Int) (b:Int):Con Try.prog 70 [I a,I b] true (I (max a b)):=by
  refine Zda (fn:=Try.f70) (nt:=10) Try.func70 rfl rfl rfl rfl (by simp [Zag,Zah]) fun B hB=> ?_
  refine aQ [] [0,1] [] [] hB trivial (Zai (Zai ?_))
  by_cases h1:b<a
  ·refine Zbz [(2,.dec true)] [0,1,7] [] [_] hB ⟨h1,trivial⟩ (Zad (Zcf ?_))
   refine aR [] [4] [] [I a] [] [] hB trivial (Zaz (Zal ?_))
   refine Zax hB (I a) (by kernel_rfl) (.inl (by refine congrArg I ?_;omega)) rfl (fun _=>trivial)
  refine Zbz [(2,.dec false)] [0,1,7] [] [_] hB ⟨h1,trivial⟩ (Zad (Zbw (Zaq (Zad ?_))))
  refine aR [] [4] [] [I b] [] [] hB trivial (Zaz ?_)
  refine Zax hB (I b) (by kernel_rfl) (.inl (by refine congrArg I ?_;omega)) rfl (fun _=>trivial)
theorem Znx (boxes:List Box) (items:List Int) (hp:Zbp boxes=true) (hx:∀x∈items,0≤x∧x<(boxes.length:Int)) (hil:items.length≤1000):∃(v:List Int),(v=Zhw boxes items items.length)∧Con Try.prog 58 [Zae false boxes,slI false items] true (slI true v):=by
  have hh:∃r:(List Int),((r=Zhw boxes items items.length)∧(True))∧Zao Try.prog 58 [Zae false boxes,slI false items] (Zab []) true (slI true r) (Zab []):=by
    refine Zcp (Φ:=fun r:(List Int)=>(r=Zhw boxes items items.length)∧(True)) [] (fun r=>[]) (fn:=Try.f58) (nt:=46) Try.func58 rfl rfl (args:=[Zae false boxes,slI false items]) rfl (Zap (.inl ⟨rfl,Zbo false _⟩) (Zap (.inl ⟨rfl,Zft false _⟩) Zco)) (res:=fun r=>slI true r) ?_
    refine xQ [] [0,1] [] [] trivial ?_
    refine xQ [(0,.new 9)] [0,1,5] [9] [] trivial (Zam ?_)
    refine xR [] [0,1,5,6] [9] [Zae false boxes,slI false items,.arr 9,I 1] [some (.arr 1 0 (Zeo [] 1))] [] trivial (Zbg ?_)
    refine Zde [] (T:=[(0,Zae false boxes),(1,slI false items),(5,.arr 9),(6,I 1)]) (O:=[(9,tAI ([]:List Int))]) rfl (⟨.inl rfl,.inl rfl,.inl rfl,.inl rfl,trivial⟩) (⟨.inr ⟨rfl,(by first|rfl|(simp;done)|(simp;omega)|omega),fun i_ hi_=>absurd hi_ (Nat.not_lt_zero _)⟩,trivial⟩) ?_
    refine Zdn (X:=(List Int)×Int) (fun x=>mkS [(0,Zae false boxes),(1,slI false items),(5,.arr 9),(6,I x.2)] [(9,tAI x.1)]) (fun x=>(1≤x.2∧(x.2≤(items.length:Int)∨x.2=1))∧(x.1=Zhw boxes items x.2.toNat)∧((x.1.length:Int)<x.2)∧True) (fun x=>((items.length:Int)-x.2).toNat) (([]:List Int),1) rfl (show (1≤(1:Int)∧((1:Int)≤(items.length:Int)∨(1:Int)=1))∧(([]:List Int)=Zhw boxes items (1:Int).toNat)∧((([]:List Int).length:Int)<(1:Int))∧True from ⟨om,(by rfl),(by simp),trivial⟩) (fun x hI=> ?_)
    obtain ⟨gp,i⟩:=x
    obtain ⟨hi0,hgs,hgl,_⟩:(1≤i∧(i≤(items.length:Int)∨i=1))∧(gp=Zhw boxes items i.toNat)∧((gp.length:Int)<i)∧True:=hI
    show XW _ _ _ _ (mkS [(0,Zae false boxes),(1,slI false items),(5,.arr 9),(6,I i)] [(9,tAI gp)]) _ _
    refine Zam (Zam ?_)
    by_cases h1:i<(items.length:Int)
    ·have hi:i.toNat<items.length:=by omega
     have hnx:(i+1).toNat=i.toNat+1:=by omega
     have hxi:=hx _ (Zbj hi)
     have hbk:=Zfe hp (j:=(at_ items i.toNat).toNat) om
     have hrb:=Zyu hp hx i.toNat om
     refine x_q [(3,.dec true)] [0,1,5,6,13] [9] [_] ⟨h1,trivial⟩ (Zac (Zel (Zbn (Zac (Zam (Zbg ?_))))))
     refine xQ [] [0,1,5,6,7] [9] [] trivial (Zam ?_)
     refine xR [] [0,1,5,6,7,8] [9] [Zae false boxes,slI false items,.arr 9,I i,I 0,I 0] [some (tAI gp)] [] trivial (Zbg ?_)
     refine Zdn (X:=Int×Int) (fun x=>mkS [(0,Zae false boxes),(1,slI false items),(5,.arr 9),(6,I i),(7,I x.1),(8,I x.2)] [(9,tAI gp)]) (fun x=>(0≤x.2∧x.2≤i)∧(x.1=rgt boxes items x.2.toNat)∧True) (fun x=>(i-x.2).toNat) (0,0) rfl (show (0≤(0:Int)∧(0:Int)≤i)∧((0:Int)=rgt boxes items (0:Int).toNat)∧True from ⟨om,(by rfl),trivial⟩) (fun x hI=> ?_)
     obtain ⟨en,k⟩:=x
     obtain ⟨hk0,hen,_⟩:(0≤k∧k≤i)∧(en=rgt boxes items k.toNat)∧True:=hI
     show XW _ _ _ _ (mkS [(0,Zae false boxes),(1,slI false items),(5,.arr 9),(6,I i),(7,I en),(8,I k)] [(9,tAI gp)]) _ _
     refine Zam (Zam ?_)
     by_cases h2:k<i
     ·have hki:k.toNat<items.length:=by omega
      have hkn:(k+1).toNat=k.toNat+1:=by omega
      have hxk:=hx _ (Zbj hki)
      have hbk2:=Zfe hp (j:=(at_ items k.toNat).toNat) om
      refine x_q [(2,.dec true)] [0,1,5,6,7,8,18] [9] [_] ⟨h2,trivial⟩ (Zac (Zel (Zbn (Zac (Zam (Zbg ?_))))))
      refine x_q [(9,.call [(true,.any),(true,.any)] true (I (max en ((at_ boxes ((at_ items k.toNat).toNat)).X2))))] [0,1,5,6,7,8] [9] [(0:Int)≤k∧k<(items.length:Int),(0:Int)≤(at_ items k.toNat)∧(at_ items k.toNat)<(boxes.length:Int),_∧True] ⟨⟨om,om⟩,⟨om,om⟩,⟨(Zmc en ((at_ boxes ((at_ items k.toNat).toNat)).X2)),trivial⟩,trivial⟩ (Zbm 3 (Zac ?_))
      refine x_r [] [0,1,5,6,7,8] [9] [Zae false boxes,slI false items,.arr 9,I i,I (max en ((at_ boxes ((at_ items k.toNat).toNat)).X2)),I (k+1)] [some (tAI gp)] [inR .i64 (k+1)] ⟨(Zaf om om),trivial⟩ ?_
      exact Zbu ((max en ((at_ boxes ((at_ items k.toNat).toNat)).X2)),(k+1)) rfl (show (0≤(k+1)∧(k+1)≤i)∧((max en ((at_ boxes ((at_ items k.toNat).toNat)).X2))=rgt boxes items (k+1).toNat)∧True from ⟨om,(by rw [hkn,hen];rfl),trivial⟩) (by first|(show ((i-(k+1)).toNat:Nat)<(i-k).toNat;omega)|(dsimp only;omega))
     have hke:k.toNat=i.toNat:=by omega
     rw [hke] at hen
     have hgy:=Zyt (bs:=boxes) (xs:=items) (k:=i.toNat) om
     refine x_r [(2,.dec false)] [0,1,5,6,7,8,18] [9] [Zae false boxes,slI false items,.arr 9,I i,I en,I k,Bv false] [some (tAI gp)] [_] ⟨h2,trivial⟩ (Zac (Zca rfl (Zcw (Zas ?_))))
     refine Zaw ?_
     refine Zat (Zac ?_)
     refine x_q [(11,.call [(true,.any),(true,.any)] true (I (max 0 (((at_ boxes ((at_ items i.toNat).toNat)).X1)-en)))),(12,.new 43),(13,.new 44)] [0,1,5,6] [44] [(0:Int)≤i∧i<(items.length:Int),(0:Int)≤(at_ items i.toNat)∧(at_ items i.toNat)<(boxes.length:Int),inR .i64 (((at_ boxes ((at_ items i.toNat).toNat)).X1)-en),_∧True,(gp.length+1)*8≤140737488355328] ⟨⟨om,om⟩,⟨om,om⟩,(Zaf om om),⟨(Zmc 0 (((at_ boxes ((at_ items i.toNat).toNat)).X1)-en)),trivial⟩,om,trivial⟩ (Zbm 1 (Zac ?_))
     refine x_r [] [0,1,5,6] [44] [Zae false boxes,slI false items,.arr 44,I (i+1)] [some (.arr 1 (gp.length+1) (Zeg gp.length (fI gp) (Zeo [I (max 0 (((at_ boxes ((at_ items i.toNat).toNat)).X1)-en))] 1)))] [inR .i64 (i+1)] ⟨(Zaf om om),trivial⟩ ?_
     refine Zcb [(9,44)] (T:=[(0,Zae false boxes),(1,slI false items),(5,.arr 9),(6,I (i+1))]) (O:=[(9,tAI (gp++[(max 0 (((at_ boxes ((at_ items i.toNat).toNat)).X1)-en))]))]) rfl (⟨.inl rfl,.inl rfl,.inl rfl,.inl rfl,trivial⟩) (⟨.inr ⟨rfl,(by first|rfl|(simp;done)|(simp;omega)|omega),fun i_ hi_=> .inl (Zdm (enc:=cI) (xs:=gp) rfl i_ hi_)⟩,trivial⟩) (Zbu ((gp++[(max 0 (((at_ boxes ((at_ items i.toNat).toNat)).X1)-en))]),(i+1)) rfl (show (1≤(i+1)∧((i+1)≤(items.length:Int)∨(i+1)=1))∧((gp++[(max 0 (((at_ boxes ((at_ items i.toNat).toNat)).X1)-en))])=Zhw boxes items (i+1).toNat)∧(((gp++[(max 0 (((at_ boxes ((at_ items i.toNat).toNat)).X1)-en))]).length:Int)<(i+1))∧True from ⟨om,(by rw [hnx,hgy,←hgs,←hen]),(by rw [List.length_append,List.length_singleton];omega),trivial⟩) (by first|(show (((items.length:Int)-(i+1)).toNat:Nat)<((items.length:Int)-i).toNat;omega)|(dsimp only;omega)))
    have hfin:gp=Zhw boxes items items.length:=by rcases hi0.2 with q|q;(rw [hgs,show i.toNat=items.length from by omega]);(rw [hgs,q];have e:items.length=0∨items.length=1:=om;(rcases e with e|e<;>rw [e]<;>rfl))
    refine x_r [(3,.dec false)] [0,1,5,6,13] [9] [Zae false boxes,slI false items,.arr 9,I i,Bv false] [some (tAI gp)] [_] ⟨h1,trivial⟩ (Zac (Zca rfl (Zcw (Zas ?_))))
    refine Zaw ?_
    refine Zat (Zac ?_)
    refine xR [] [4] [9] [.arr 9] [some (tAI gp)] [] trivial (Zby ?_)
    refine Zbd gp (show (gp=Zhw boxes items items.length)∧(True) from ⟨(by exact hfin),trivial⟩) (trivial) (.arr 9) (by kernel_rfl) (.inr ⟨(fun _=>rfl),rfl,rfl,fun i _=> .inl rfl⟩) (fun _=>rfl) (fun _=>(Zft true _))
  obtain ⟨v,⟨hh0,_⟩,hc⟩:=hh
  exact ⟨v,hh0,hc⟩
theorem Zmd (boxes:List Box) (items:List Int) (gap:Int) (hp:Zbp boxes=true) (hx:∀x∈items,0≤x∧x<(boxes.length:Int)) (hil:items.length≤900):∃(v:List (List Int)),(v=Zmj boxes items gap)∧Con Try.prog 56 [Zae false boxes,slI false items,I gap] true (Zcx true v):=by
  have hh:∃r:(List (List Int)),((r=Zmj boxes items gap)∧(True))∧Zao Try.prog 56 [Zae false boxes,slI false items,I gap] (Zab []) true (Zcx true r) (Zab []):=by
    refine Zcp (Φ:=fun r:(List (List Int))=>(r=Zmj boxes items gap)∧(True)) [] (fun r=>[]) (fn:=Try.f56) (nt:=53) Try.func56 rfl rfl (args:=[Zae false boxes,slI false items,I gap]) rfl (Zap (.inl ⟨rfl,Zbo false _⟩) (Zap (.inl ⟨rfl,Zft false _⟩) (Zap (.inl ⟨rfl,trivial⟩) Zco))) (res:=fun r=>Zcx true r) ?_
    refine xQ [] [0,1,2] [] [] trivial ?_
    refine xQ [(0,.new 10)] [0,1,2,7] [10] [] trivial (Zam ?_)
    obtain ⟨v_1,hx1_0,hc1⟩:=Znx boxes items hp hx om
    have hgg:=hx1_0
    have hgl:v_1.length=items.length-1:=by rw [hgg,Zin]
    refine x_q [(2,.call [(true,.any),(true,.any)] true (slI true v_1))] [1,2,7,8] [10] [_∧True] ⟨⟨hc1,trivial⟩,trivial⟩ (Zac (Zam ?_))
    refine xR [] [1,2,7,8,9] [10] [slI false items,I gap,.arr 10,slI true v_1,I 0] [some (.arr 1 0 (Zeo [] 1))] [] trivial (Zbg ?_)
    refine x_fam 9243 1 (fun _=>0) (fun _ _=>[]) (by kernel_rfl) ?_
    refine Zde [] (T:=[(1,slI false items),(2,I gap),(7,.arr 10),(8,slI true v_1),(9,I 0)]) (O:=[(10,Zjn 9243 ([]:List (List Int))),(9243,Zgw ([]:List (List Int)))]) rfl (⟨.inl rfl,.inl rfl,.inl rfl,.inl rfl,.inl rfl,trivial⟩) (⟨.inr ⟨rfl,rfl,fun i hi=>absurd hi (Nat.not_lt_zero _)⟩,.inr ⟨rfl,rfl,fun p hp=>absurd hp (Nat.not_lt_zero _)⟩,trivial⟩) ?_
    refine Zdn (X:=(List (List Int))×Int) (fun x=>mkS [(1,slI false items),(2,I gap),(7,.arr 10),(8,slI true v_1),(9,I x.2)] [(10,Zjn 9243 x.1),(9243,Zgw x.1)]) (fun x=>(0≤x.2∧x.2≤(items.length:Int))∧(x.1=Zij items v_1 gap x.2.toNat)∧True) (fun x=>((items.length:Int)-x.2).toNat) (([]:List (List Int)),0) rfl (show (0≤(0:Int)∧(0:Int)≤(items.length:Int))∧(([]:List (List Int))=Zij items v_1 gap (0:Int).toNat)∧True from ⟨om,(by rfl),trivial⟩) (fun x hI=> ?_)
    obtain ⟨ws,i⟩:=x
    obtain ⟨hi0,hws,_⟩:(0≤i∧i≤(items.length:Int))∧(ws=Zij items v_1 gap i.toNat)∧True:=hI
    show XW _ _ _ _ (mkS [(1,slI false items),(2,I gap),(7,.arr 10),(8,slI true v_1),(9,I i)] [(10,Zjn 9243 ws),(9243,Zgw ws)]) _ _
    refine Zam (Zam ?_)
    by_cases h1:i<(items.length:Int)
    ·have hi:i.toNat<items.length:=by omega
     have hnx:(i+1).toNat=i.toNat+1:=by omega
     have hwn:=Zri items v_1 gap i.toNat
     rw [←hws] at hwn
     refine x_r [(3,.dec true)] [1,2,7,8,9,17] [10,9243] [slI false items,I gap,.arr 10,slI true v_1,I i,Bv true] [some (Zjn 9243 ws),some (Zgw ws)] [_] ⟨h1,trivial⟩ (Zac (Zgs rfl (Zbn (Zac (Zam (Zbg ?_))))))
     refine x_cut (X:=(List (List Int))) (fun x=>mkS [(1,slI false items),(2,I gap),(7,.arr 10),(8,slI true v_1),(9,I i)] [(10,Zjn 9243 x),(9243,Zgw x)]) (fun x=>(x=prw v_1 gap ws i.toNat)∧True) ?_ (fun x hI=> ?_)
     ·refine Zam ?_
      by_cases h2:i=0
      ·have hpy:=Zyv (g:=v_1) (gap:=gap) (ws:=ws) (k:=i.toNat) (.inl om)
       refine x_q [(1,.dec true)] [1,2,7,8,9,30] [10,9243] [_] ⟨h2,trivial⟩ (Zac (Zel ?_))
       refine x_r [(1,.new 32),(2,.new 33),(3,.new 34)] [1,2,7,8,9] [32,34,9243] [slI false items,I gap,.arr 34,slI true v_1,I i] [some (.arr 1 0 (Zeo [] 1)),some (.oar [9243,32] 1 (ws.length+1) (Zeg ws.length (oLI 9243 ws) (Zeo [.arr 32] 1))),some (Zgw ws)] [(ws.length+1)*24≤140737488355328] ⟨om,trivial⟩ ?_
       refine Zjo 32 9243 rfl rfl rfl ?_
       refine Zcb [(10,34)] (T:=[(1,slI false items),(2,I gap),(7,.arr 10),(8,slI true v_1),(9,I i)]) (O:=[(10,Zjn 9243 (ws++[([]:List Int)])),(9243,Zgw (ws++[([]:List Int)]))]) rfl (⟨.inl rfl,.inl rfl,.inl rfl,.inl rfl,.inl rfl,trivial⟩) (⟨.inr ⟨rfl,rfl,(by simp),fun i hi=> .inl (Zup rfl rfl rfl i hi)⟩,.inr (Zuq ([]:List Int) (by first|rfl|(simp;done)) (fun i_ hi_=>absurd hi_ (Nat.not_lt_zero _))),trivial⟩) (Zip (ws++[([]:List Int)]) rfl (show ((ws++[([]:List Int)])=prw v_1 gap ws i.toNat)∧True from ⟨(by first|exact hpy.symm|exact hpn.symm),trivial⟩))
      have hge:(i-1).toNat=i.toNat-1:=by omega
      by_cases h3:gap<(at_ v_1 ((i-1).toNat))
      ·have hpy:=Zyv (g:=v_1) (gap:=gap) (ws:=ws) (k:=i.toNat) (.inr (by rw [←hge];exact h3))
       refine x_q [(1,.dec false),(9,.dec true)] [1,2,7,8,9,30] [10,9243] [_,inR .i64 (i-1),(0:Int)≤(i-1)∧(i-1)<(v_1.length:Int),_] ⟨h2,(Zaf om om),⟨om,om⟩,h3,trivial⟩ (Zac (Zel ?_))
       refine x_r [(1,.new 32),(2,.new 33),(3,.new 34)] [1,2,7,8,9] [32,34,9243] [slI false items,I gap,.arr 34,slI true v_1,I i] [some (.arr 1 0 (Zeo [] 1)),some (.oar [9243,32] 1 (ws.length+1) (Zeg ws.length (oLI 9243 ws) (Zeo [.arr 32] 1))),some (Zgw ws)] [(ws.length+1)*24≤140737488355328] ⟨om,trivial⟩ ?_
       refine Zjo 32 9243 rfl rfl rfl ?_
       refine Zcb [(10,34)] (T:=[(1,slI false items),(2,I gap),(7,.arr 10),(8,slI true v_1),(9,I i)]) (O:=[(10,Zjn 9243 (ws++[([]:List Int)])),(9243,Zgw (ws++[([]:List Int)]))]) rfl (⟨.inl rfl,.inl rfl,.inl rfl,.inl rfl,.inl rfl,trivial⟩) (⟨.inr ⟨rfl,rfl,(by simp),fun i hi=> .inl (Zup rfl rfl rfl i hi)⟩,.inr (Zuq ([]:List Int) (by first|rfl|(simp;done)) (fun i_ hi_=>absurd hi_ (Nat.not_lt_zero _))),trivial⟩) (Zip (ws++[([]:List Int)]) rfl (show ((ws++[([]:List Int)])=prw v_1 gap ws i.toNat)∧True from ⟨(by first|exact hpy.symm|exact hpn.symm),trivial⟩))
      have hpn:=prw_n (g:=v_1) (gap:=gap) (ws:=ws) (k:=i.toNat) (fun q=>by rcases q with q|q;omega;(rw [←hge] at q;exact h3 q))
      refine x_r [(1,.dec false),(9,.dec false)] [1,2,7,8,9,30] [10,9243] [slI false items,I gap,.arr 10,slI true v_1,I i,Bv false] [some (Zjn 9243 ws),some (Zgw ws)] [_,inR .i64 (i-1),(0:Int)≤(i-1)∧(i-1)<(v_1.length:Int),_] ⟨h2,(Zaf om om),⟨om,om⟩,h3,trivial⟩ (Zac (Zca rfl (Zbn ?_)))
      refine Zcb [] (T:=[(1,slI false items),(2,I gap),(7,.arr 10),(8,slI true v_1),(9,I i)]) (O:=[(10,Zjn 9243 ws),(9243,Zgw ws)]) rfl (⟨.inl rfl,.inl rfl,.inl rfl,.inl rfl,.inl rfl,trivial⟩) (⟨.inl rfl,.inl rfl,trivial⟩) (Zip ws rfl (show (ws=prw v_1 gap ws i.toNat)∧True from ⟨(by first|exact hpy.symm|exact hpn.symm),trivial⟩))
     obtain ⟨w2,hxx⟩:∃w2:List (List Int),w2=x:=⟨x,rfl⟩
     subst hxx
     obtain ⟨hw2,_⟩:(w2=prw v_1 gap ws i.toNat)∧True:=hI
     show XW _ _ _ _ (mkS [(1,slI false items),(2,I gap),(7,.arr 10),(8,slI true v_1),(9,I i)] [(10,Zjn 9243 w2),(9243,Zgw w2)]) _ _
     have hpl:=Zsw v_1 gap ws i.toNat hwn.1.1
     rw [←hw2] at hpl
     have hw2n:∀w∈w2,w.length≤i.toNat:=fun w hw=>by rw [hw2] at hw;exact (Zsx hw).elim (fun q=>hwn.2 w q) (fun q=>by rw [q];exact Nat.zero_le _)
     have hPe:w2.length-1=((w2.length:Int)-1).toNat:=by omega
     have hlq:=hw2n _ (Zbj (i:=((w2.length:Int)-1).toNat) om)
     refine Zrd 10 8501 9243 (((w2.length:Int)-1).toNat) rfl rfl (om) (fun q _=>rfl) (by kernel_rfl) ?_
     refine Zde [] (T:=[(1,slI false items),(2,I gap),(7,.arr 10),(8,slI true v_1),(9,I i)]) (O:=[(10,.oar [8501,9243] 1 w2.length (fun q=>bif Nat.beq q (((w2.length:Int)-1).toNat) then [.arr 8501] else (oLI 9243 (w2.set (((w2.length:Int)-1).toNat) ([]:List Int))) q)),(8501,tAI (at_ w2 (((w2.length:Int)-1).toNat))),(9243,Zgw (w2.set (((w2.length:Int)-1).toNat) ([]:List Int)))]) rfl (⟨.inl rfl,.inl rfl,.inl rfl,.inl rfl,.inl rfl,trivial⟩) (⟨.inr ⟨rfl,rfl,(by first|rfl|(simp;done)),fun i hi=> .inl (by dsimp only;cases Nat.beq i (((w2.length:Int)-1).toNat)<;>rfl)⟩,.inl rfl,.inr (Zur (om) (by first|rfl|(simp;done)|(simp;omega)) (fun i_ h_=>absurd h_ (Nat.not_lt_zero _))),trivial⟩) ?_
     refine x_r [(9,.as (.arr 8501)),(14,.new 49),(15,.new 50)] [1,2,7,8,9] [10,50,9243] [slI false items,I gap,.arr 10,slI true v_1,I i] [some (.oar [8501,9243,50] 1 w2.length (fun q=>bif Nat.beq q (((w2.length:Int)-1).toNat) then spl ((fun q=>bif Nat.beq q (((w2.length:Int)-1).toNat) then [.arr 8501] else (oLI 9243 (w2.set (((w2.length:Int)-1).toNat) ([]:List Int))) q) (((w2.length:Int)-1).toNat)) 0 [.arr 50] else (fun q=>bif Nat.beq q (((w2.length:Int)-1).toNat) then [.arr 8501] else (oLI 9243 (w2.set (((w2.length:Int)-1).toNat) ([]:List Int))) q) q)),some (.arr 1 (((at_ w2 (((w2.length:Int)-1).toNat)).length)+1) (Zeg ((at_ w2 (((w2.length:Int)-1).toNat)).length) (fI (at_ w2 (((w2.length:Int)-1).toNat))) (Zeo [I (at_ items i.toNat)] 1))),some (Zgw (w2.set (((w2.length:Int)-1).toNat) ([]:List Int)))] [inR .i64 ((w2.length:Int)-1),inR .i64 ((w2.length:Int)-1),(0:Int)≤((w2.length:Int)-1)∧((w2.length:Int)-1)<(w2.length:Int),((w2.length:Int)-1).toNat<w2.length∧List.drop 0 ((fun q=>bif Nat.beq q (((w2.length:Int)-1).toNat) then [.arr 8501] else (oLI 9243 (w2.set (((w2.length:Int)-1).toNat) ([]:List Int))) q) (((w2.length:Int)-1).toNat))=[.arr 8501],(0:Int)≤i∧i<(items.length:Int),(((at_ w2 (((w2.length:Int)-1).toNat)).length)+1)*8≤140737488355328,(0:Int)≤((w2.length:Int)-1)∧((w2.length:Int)-1)<(w2.length:Int),((w2.length:Int)-1).toNat<w2.length] ⟨(Zaf om om),(Zaf om om),⟨om,om⟩,⟨om,(by simp only [Nat.beq_refl,cond_true];rfl)⟩,⟨om,om⟩,om,⟨om,om⟩,om,trivial⟩ (Zbm 1 (Zac ?_))
     refine Zue 10 50 9243 (((w2.length:Int)-1).toNat) rfl rfl rfl ((by first|omega|(simp only [List.length_set];omega))) (by first|exact Nat.le_refl _|omega|(simp;done)) (fun q _=>⟨fun e=>by subst e;simp only [Nat.beq_refl,cond_true];rfl,fun e=>by simp only [Zjb e,cond_false];rfl⟩) (by kernel_rfl) ?_
     refine Zde [] (T:=[(1,slI false items),(2,I gap),(7,.arr 10),(8,slI true v_1),(9,I i)]) (O:=[(10,Zjn 9243 ((w2.set (((w2.length:Int)-1).toNat) ([]:List Int)).set (((w2.length:Int)-1).toNat) ((at_ w2 (((w2.length:Int)-1).toNat))++[(at_ items i.toNat)]))),(9243,Zgw ((w2.set (((w2.length:Int)-1).toNat) ([]:List Int)).set (((w2.length:Int)-1).toNat) ((at_ w2 (((w2.length:Int)-1).toNat))++[(at_ items i.toNat)])))]) rfl (⟨.inl rfl,.inl rfl,.inl rfl,.inl rfl,.inl rfl,trivial⟩) (⟨.inr ⟨rfl,rfl,(by simp),fun i hi=> .inl rfl⟩,.inr (Zur ((by first|omega|(simp only [List.length_set];omega))) (by first|rfl|(simp;done)|(simp;omega)) (fun i_ h_=>(show ∀i_:Nat,i_<(((at_ w2 (((w2.length:Int)-1).toNat))++[(at_ items i.toNat)]):List Int).length→(Zeg ((at_ w2 (((w2.length:Int)-1).toNat)).length) (fI (at_ w2 (((w2.length:Int)-1).toNat))) (Zeo [I (at_ items i.toNat)] 1)) i_=(fI ((at_ w2 (((w2.length:Int)-1).toNat))++[(at_ items i.toNat)])) i_ from fun i_ hi_=>(Zdm (enc:=cI) (xs:=(at_ w2 (((w2.length:Int)-1).toNat))) rfl i_ hi_)) i_ (by first|exact h_|(simpa using h_)))),trivial⟩) ?_
     refine x_r [] [1,2,7,8,9] [10,9243] [slI false items,I gap,.arr 10,slI true v_1,I (i+1)] [some (Zjn 9243 ((w2.set (((w2.length:Int)-1).toNat) ([]:List Int)).set (((w2.length:Int)-1).toNat) ((at_ w2 (((w2.length:Int)-1).toNat))++[(at_ items i.toNat)]))),some (Zgw ((w2.set (((w2.length:Int)-1).toNat) ([]:List Int)).set (((w2.length:Int)-1).toNat) ((at_ w2 (((w2.length:Int)-1).toNat))++[(at_ items i.toNat)])))] [inR .i64 (i+1)] ⟨(Zaf om om),trivial⟩ ?_
     exact Zbu (((w2.set (((w2.length:Int)-1).toNat) ([]:List Int)).set (((w2.length:Int)-1).toNat) ((at_ w2 (((w2.length:Int)-1).toNat))++[(at_ items i.toNat)])),(i+1)) rfl (show (0≤(i+1)∧(i+1)≤(items.length:Int))∧(((w2.set (((w2.length:Int)-1).toNat) ([]:List Int)).set (((w2.length:Int)-1).toNat) ((at_ w2 (((w2.length:Int)-1).toNat))++[(at_ items i.toNat)]))=Zij items v_1 gap (i+1).toNat)∧True from ⟨om,(by rw [hnx];show _=putw (prw v_1 gap (Zij items v_1 gap i.toNat) i.toNat) (at_ items i.toNat);rw [←hws,←hw2,List.set_set];unfold putw;rw [hPe]),trivial⟩) (by first|(show (((items.length:Int)-(i+1)).toNat:Nat)<((items.length:Int)-i).toNat;omega)|(dsimp only;omega))
    have hfin:ws=Zmj boxes items gap:=by rw [hws,hgg,show i.toNat=items.length from by omega];rfl
    refine x_r [(3,.dec false)] [1,2,7,8,9,17] [10,9243] [slI false items,I gap,.arr 10,slI true v_1,I i,Bv false] [some (Zjn 9243 ws),some (Zgw ws)] [_] ⟨h1,trivial⟩ (Zac (Zca rfl (Zcw (Zas ?_))))
    refine Zaw ?_
    refine Zat (Zac ?_)
    refine xR [] [6] [10,9243] [.arr 10] [some (Zjn 9243 ws),some (Zgw ws)] [] trivial (Zby ?_)
    refine Zbd ws (show (ws=Zmj boxes items gap)∧(True) from ⟨(by exact hfin),trivial⟩) (trivial) (.arr 10) (by kernel_rfl) (.inr ⟨(fun _=>rfl),rfl,rfl,oleLI _ _ rfl⟩) (fun _=>rfl) (fun _=>(Zgl true _))
  obtain ⟨v,⟨hh0,_⟩,hc⟩:=hh
  exact ⟨v,hh0,hc⟩
theorem Zim (boxes:List Box) (items:List Int) (gap:Int) (hbl:boxes.length≤900∧items.length≤900):∃(v:List (List Int)) (c:Int),((v,c)=Zki boxes items gap)∧Con Try.prog 22 [Zae false boxes,slI false items,I gap] true (.tup [Zcx true v,I c]):=by
  have hh:∃r:(List (List Int))×Int,(((r.1,r.2)=Zki boxes items gap)∧(True))∧Zao Try.prog 22 [Zae false boxes,slI false items,I gap] (Zab []) true (.tup [Zcx true r.1,I r.2]) (Zab []):=by
    refine Zcp (Φ:=fun r:(List (List Int))×Int=>((r.1,r.2)=Zki boxes items gap)∧(True)) [] (fun r=>[]) (fn:=Try.f22) (nt:=24) Try.func22 rfl rfl (args:=[Zae false boxes,slI false items,I gap]) rfl (Zap (.inl ⟨rfl,Zbo false _⟩) (Zap (.inl ⟨rfl,Zft false _⟩) (Zap (.inl ⟨rfl,trivial⟩) Zco))) (res:=fun r=> .tup [Zcx true r.1,I r.2]) ?_
    refine xQ [] [0,1,2] [] [] trivial (Zam (Zam ?_))
    rcases Bool.eq_false_or_eq_true (Zbp boxes) with h1|h1
    ·have hpp:=h1
     refine x_q [(1,.call [(true,.any)] true (Bv true))] [0,1,2,10] [] [Con Try.prog 35 [Zae false boxes] true (Bv true)∧True] ⟨⟨(Zak h1 (Zdc boxes)),trivial⟩,trivial⟩ (Zac (Zhn (Zbn (Zac (Zam (Zam ?_))))))
     rcases Bool.eq_false_or_eq_true (Zgc boxes items) with h2|h2
     ·have hxx:=Zmg (Zjh h2)
      have hst:=fun q=>wo_ok (gap:=gap) h1 h2 q
      rcases Bool.eq_false_or_eq_true (inB gap 0 4095) with h3|h3
      ·have hgp:=Zgk.1 h3
       have hgi:=h3
       refine x_q [(2,.call [(true,.any),(true,.any)] true (Bv true)),(6,.call [(true,.any)] true (Bv true))] [0,1,2,19] [] [Con Try.prog 55 [Zae false boxes,slI false items] true (Bv true)∧True,Con Try.prog 36 [I gap] true (Bv true)∧True] ⟨⟨(Zak h2 (Zfi boxes items om)),trivial⟩,⟨(Zak h3 (Zfg gap)),trivial⟩,trivial⟩ (Zac (Zhn (Zbn (Zac (Zam ?_)))))
       obtain ⟨v_1,hx1_0,hc1⟩:=Zmd boxes items gap h1 hxx om
       have hwv:=hx1_0
       refine x_r [(3,.call [(true,.any),(true,.any),(true,.any)] true (Zcx true v_1))] [6,7] [] [Zcx true v_1,I 0] [] [_∧True] ⟨⟨hc1,trivial⟩,trivial⟩ (Zac (Zby ?_))
       refine Zbd (v_1,0) (show ((v_1,0)=Zki boxes items gap)∧(True) from ⟨(by first|exact hst.symm|(rw [hst hgi,←hwv])),trivial⟩) (trivial) (.tup [Zcx true v_1,I 0]) (by kernel_rfl) (.inl rfl) (fun _=>rfl) (fun _=>(by simp [Zah,Zag,Zgl]))
      have hst:=Zut (xs:=items) h1 (.inr h3)
      refine x_q [(2,.call [(true,.any),(true,.any)] true (Bv true)),(6,.call [(true,.any)] true (Bv false))] [0,1,2,19] [] [Con Try.prog 55 [Zae false boxes,slI false items] true (Bv true)∧True,Con Try.prog 36 [I gap] true (Bv false)∧True] ⟨⟨(Zak h2 (Zfi boxes items om)),trivial⟩,⟨(Zak h3 (Zfg gap)),trivial⟩,trivial⟩ (Zac (Zel ?_))
      refine xR [] [6,7] [] [Zfj,I 2] [] [] trivial (Zby (Zbc ?_))
      refine Zbd (([]:List (List Int)),2) (show ((([]:List (List Int)),2)=Zki boxes items gap)∧(True) from ⟨(by first|exact hst.symm|(rw [hst hgi,←hwv])),trivial⟩) (trivial) (.tup [Zfj,I 2]) (by kernel_rfl) (.inr ⟨⟨rfl,rfl⟩,⟨rfl,rfl⟩⟩) (fun _=>rfl) (fun _=>(by simp [Zah,Zag,Zgl]))
     have hst:=Zut (gap:=gap) h1 (.inl h2)
     refine x_q [(2,.call [(true,.any),(true,.any)] true (Bv false))] [0,1,2,19] [] [Con Try.prog 55 [Zae false boxes,slI false items] true (Bv false)∧True] ⟨⟨(Zak h2 (Zfi boxes items om)),trivial⟩,trivial⟩ (Zac (Zel ?_))
     refine xR [] [6,7] [] [Zfj,I 2] [] [] trivial (Zby (Zbc ?_))
     refine Zbd (([]:List (List Int)),2) (show ((([]:List (List Int)),2)=Zki boxes items gap)∧(True) from ⟨(by first|exact hst.symm|(rw [hst hgi,←hwv])),trivial⟩) (trivial) (.tup [Zfj,I 2]) (by kernel_rfl) (.inr ⟨⟨rfl,rfl⟩,⟨rfl,rfl⟩⟩) (fun _=>rfl) (fun _=>(by simp [Zah,Zag,Zgl]))
    have hst:=wo_inv (xs:=items) (gap:=gap) h1
    refine x_q [(1,.call [(true,.any)] true (Bv false))] [0,1,2,10] [] [Con Try.prog 35 [Zae false boxes] true (Bv false)∧True] ⟨⟨(Zak h1 (Zdc boxes)),trivial⟩,trivial⟩ (Zac (Zel ?_))
    refine xR [] [6,7] [] [Zfj,I 1] [] [] trivial (Zby (Zbc ?_))
    refine Zbd (([]:List (List Int)),1) (show ((([]:List (List Int)),1)=Zki boxes items gap)∧(True) from ⟨(by first|exact hst.symm|(rw [hst hgi,←hwv])),trivial⟩) (trivial) (.tup [Zfj,I 1]) (by kernel_rfl) (.inr ⟨⟨rfl,rfl⟩,⟨rfl,rfl⟩⟩) (fun _=>rfl) (fun _=>(by simp [Zah,Zag,Zgl]))
  obtain ⟨⟨v,c⟩,⟨hh0,_⟩,hc⟩:=hh
  exact ⟨v,c,hh0,hc⟩
theorem Zoc (boxes:List Box) (items:List Int) (hbl:boxes.length≤900∧items.length≤900):∃(v:List Int) (c:Int),((v,c)=Znd boxes items)∧Con Try.prog 23 [Zae false boxes,slI false items] true (.tup [slI true v,I c]):=by
  have hh:∃r:(List Int)×Int,(((r.1,r.2)=Znd boxes items)∧(True))∧Zao Try.prog 23 [Zae false boxes,slI false items] (Zab []) true (.tup [slI true r.1,I r.2]) (Zab []):=by
    refine Zcp (Φ:=fun r:(List Int)×Int=>((r.1,r.2)=Znd boxes items)∧(True)) [] (fun r=>[]) (fn:=Try.f23) (nt:=16) Try.func23 rfl rfl (args:=[Zae false boxes,slI false items]) rfl (Zap (.inl ⟨rfl,Zbo false _⟩) (Zap (.inl ⟨rfl,Zft false _⟩) Zco)) (res:=fun r=> .tup [slI true r.1,I r.2]) ?_
    refine xQ [] [0,1] [] [] trivial (Zam (Zam ?_))
    rcases Bool.eq_false_or_eq_true (Zbp boxes) with h1|h1
    ·have hpp:=h1
     refine x_q [(1,.call [(true,.any)] true (Bv true))] [0,1,8] [] [Con Try.prog 32 [Zae false boxes] true (Bv true)∧True] ⟨⟨(Zak h1 (Zgb boxes)),trivial⟩,trivial⟩ (Zac (Zhn (Zbn (Zac (Zam (Zam ?_))))))
     rcases Bool.eq_false_or_eq_true (Zgc boxes items) with h2|h2
     ·have hxx:=Zmg (Zjh h2)
      have hst:=go_ok h1 h2
      refine x_q [(2,.call [(true,.any),(true,.any)] true (Bv true))] [0,1,12] [] [Con Try.prog 53 [Zae false boxes,slI false items] true (Bv true)∧True] ⟨⟨(Zak h2 (Zgo boxes items om)),trivial⟩,trivial⟩ (Zac (Zhn (Zbn (Zac (Zam ?_)))))
      obtain ⟨v_1,hx1_0,hc1⟩:=Zrj boxes items h1 hxx om
      have hwv:=hx1_0
      refine x_r [(2,.call [(true,.any),(true,.any)] true (slI true v_1))] [4,5] [] [slI true v_1,I 0] [] [_∧True] ⟨⟨hc1,trivial⟩,trivial⟩ (Zac (Zby ?_))
      refine Zbd (v_1,0) (show ((v_1,0)=Znd boxes items)∧(True) from ⟨(by first|exact hst.symm|(rw [hst,←hwv])),trivial⟩) (trivial) (.tup [slI true v_1,I 0]) (by kernel_rfl) (.inl rfl) (fun _=>rfl) (fun _=>(by simp [Zah,Zag,Zft]))
     have hst:=go_rng h1 h2
     refine x_q [(2,.call [(true,.any),(true,.any)] true (Bv false))] [0,1,12] [] [Con Try.prog 53 [Zae false boxes,slI false items] true (Bv false)∧True] ⟨⟨(Zak h2 (Zgo boxes items om)),trivial⟩,trivial⟩ (Zac (Zel ?_))
     refine xR [] [4,5] [] [Zfj,I 2] [] [] trivial (Zby (Zbc ?_))
     refine Zbd (([]:List Int),2) (show ((([]:List Int),2)=Znd boxes items)∧(True) from ⟨(by first|exact hst.symm|(rw [hst,←hwv])),trivial⟩) (trivial) (.tup [Zfj,I 2]) (by kernel_rfl) (.inr ⟨⟨rfl,rfl⟩,⟨rfl,rfl⟩⟩) (fun _=>rfl) (fun _=>(by simp [Zah,Zag,Zft]))
    have hst:=go_inv (xs:=items) h1
    refine x_q [(1,.call [(true,.any)] true (Bv false))] [0,1,8] [] [Con Try.prog 32 [Zae false boxes] true (Bv false)∧True] ⟨⟨(Zak h1 (Zgb boxes)),trivial⟩,trivial⟩ (Zac (Zel ?_))
    refine xR [] [4,5] [] [Zfj,I 1] [] [] trivial (Zby (Zbc ?_))
    refine Zbd (([]:List Int),1) (show ((([]:List Int),1)=Znd boxes items)∧(True) from ⟨(by first|exact hst.symm|(rw [hst,←hwv])),trivial⟩) (trivial) (.tup [Zfj,I 1]) (by kernel_rfl) (.inr ⟨⟨rfl,rfl⟩,⟨rfl,rfl⟩⟩) (fun _=>rfl) (fun _=>(by simp [Zah,Zag,Zft]))
  obtain ⟨⟨v,c⟩,⟨hh0,_⟩,hc⟩:=hh
  exact ⟨v,c,hh0,hc⟩
theorem Zod (boxes:List Box) (items:List Int) (hbl:boxes.length≤900∧items.length≤900):∃(v:List Int) (c:Int),((v,c)=Znd boxes items)∧Con Try.prog 24 [Zae false boxes,slI false items] true (.tup [slI true v,I c]):=by
  have hh:∃r:(List Int)×Int,(((r.1,r.2)=Znd boxes items)∧(True))∧Zao Try.prog 24 [Zae false boxes,slI false items] (Zab []) true (.tup [slI true r.1,I r.2]) (Zab []):=by
    refine Zcp (Φ:=fun r:(List Int)×Int=>((r.1,r.2)=Znd boxes items)∧(True)) [] (fun r=>[]) (fn:=Try.f24) (nt:=16) Try.func24 rfl rfl (args:=[Zae false boxes,slI false items]) rfl (Zap (.inl ⟨rfl,Zbo false _⟩) (Zap (.inl ⟨rfl,Zft false _⟩) Zco)) (res:=fun r=> .tup [slI true r.1,I r.2]) ?_
    refine xQ [] [0,1] [] [] trivial (Zam (Zam ?_))
    rcases Bool.eq_false_or_eq_true (Zbp boxes) with h1|h1
    ·have hpp:=h1
     refine x_q [(1,.call [(true,.any)] true (Bv true))] [0,1,8] [] [Con Try.prog 35 [Zae false boxes] true (Bv true)∧True] ⟨⟨(Zak h1 (Zdc boxes)),trivial⟩,trivial⟩ (Zac (Zhn (Zbn (Zac (Zam (Zam ?_))))))
     rcases Bool.eq_false_or_eq_true (Zgc boxes items) with h2|h2
     ·have hxx:=Zmg (Zjh h2)
      have hst:=go_ok h1 h2
      refine x_q [(2,.call [(true,.any),(true,.any)] true (Bv true))] [0,1,12] [] [Con Try.prog 55 [Zae false boxes,slI false items] true (Bv true)∧True] ⟨⟨(Zak h2 (Zfi boxes items om)),trivial⟩,trivial⟩ (Zac (Zhn (Zbn (Zac (Zam ?_)))))
      obtain ⟨v_1,hx1_0,hc1⟩:=Znx boxes items h1 hxx om
      have hwv:=hx1_0
      refine x_r [(2,.call [(true,.any),(true,.any)] true (slI true v_1))] [4,5] [] [slI true v_1,I 0] [] [_∧True] ⟨⟨hc1,trivial⟩,trivial⟩ (Zac (Zby ?_))
      refine Zbd (v_1,0) (show ((v_1,0)=Znd boxes items)∧(True) from ⟨(by first|exact hst.symm|(rw [hst,←hwv])),trivial⟩) (trivial) (.tup [slI true v_1,I 0]) (by kernel_rfl) (.inl rfl) (fun _=>rfl) (fun _=>(by simp [Zah,Zag,Zft]))
     have hst:=go_rng h1 h2
     refine x_q [(2,.call [(true,.any),(true,.any)] true (Bv false))] [0,1,12] [] [Con Try.prog 55 [Zae false boxes,slI false items] true (Bv false)∧True] ⟨⟨(Zak h2 (Zfi boxes items om)),trivial⟩,trivial⟩ (Zac (Zel ?_))
     refine xR [] [4,5] [] [Zfj,I 2] [] [] trivial (Zby (Zbc ?_))
     refine Zbd (([]:List Int),2) (show ((([]:List Int),2)=Znd boxes items)∧(True) from ⟨(by first|exact hst.symm|(rw [hst,←hwv])),trivial⟩) (trivial) (.tup [Zfj,I 2]) (by kernel_rfl) (.inr ⟨⟨rfl,rfl⟩,⟨rfl,rfl⟩⟩) (fun _=>rfl) (fun _=>(by simp [Zah,Zag,Zft]))
    have hst:=go_inv (xs:=items) h1
    refine x_q [(1,.call [(true,.any)] true (Bv false))] [0,1,8] [] [Con Try.prog 35 [Zae false boxes] true (Bv false)∧True] ⟨⟨(Zak h1 (Zdc boxes)),trivial⟩,trivial⟩ (Zac (Zel ?_))
    refine xR [] [4,5] [] [Zfj,I 1] [] [] trivial (Zby (Zbc ?_))
    refine Zbd (([]:List Int),1) (show ((([]:List Int),1)=Znd boxes items)∧(True) from ⟨(by first|exact hst.symm|(rw [hst,←hwv])),trivial⟩) (trivial) (.tup [Zfj,I 1]) (by kernel_rfl) (.inr ⟨⟨rfl,rfl⟩,⟨rfl,rfl⟩⟩) (fun _=>rfl) (fun _=>(by simp [Zah,Zag,Zft]))
  obtain ⟨⟨v,c⟩,⟨hh0,_⟩,hc⟩:=hh
  exact ⟨v,c,hh0,hc⟩
theorem Zhl (code:List Int) (hc:(∀j,j<code.length→0≤at_ code j∧at_ code j≤255)∧code.length≤4611686018427387904):∃(boxes:List Box) (lg:Int) (wg:Int),(boxes.length≤100)∧(smD boxes)∧Con Try.prog 25 [Zii false code] true (.tup [Zae true boxes,I lg,I wg]):=by
 have hh:∃r:(List Box)×Int×Int,((r.1.length≤100)∧(smD r.1)∧(True))∧Zao Try.prog 25 [Zii false code] (Zab []) true (.tup [Zae true r.1,I r.2.1,I r.2.2]) (Zab []):=by
  refine Zcp (Φ:=fun r:(List Box)×Int×Int=>(r.1.length≤100)∧(smD r.1)∧(True)) [] (fun r=>[]) (fn:=Try.f25) (nt:=18) Try.func25 rfl rfl (args:=[Zii false code]) rfl (Zap (.inl ⟨rfl,Zct false _⟩) Zco) (res:=fun r=> .tup [Zae true r.1,I r.2.1,I r.2.2]) ?_
  refine xQ [] [0] [] [] trivial (Zam ?_)
  obtain ⟨s'_1,hx1_0,hc1⟩:=Zny code
  have hsrc:Zba s'_1:=⟨by rw [hx1_0.1];exact hc.1,by rw [hx1_0.2];decide,by rw [hx1_0.1];exact hc.2⟩
  have hat0:=hx1_0.2
  refine x_q [(1,.lend [] [(7001,Zaa s'_1)] [(true,.any)] false (.ref 7001 0))] [5] [7001] [Zao Try.prog 29 [Zii false code] (Zab []) false (.ref 7001 0) (Zab [(7001,Zaa s'_1)])∧True] ⟨⟨hc1,trivial⟩,trivial⟩ (Zac (Zam ?_))
  obtain ⟨v_2,s'_2,hx2_0,hx2_1,hx2_2,hx2_3,hx2_4,hc2⟩:=Zmh s'_1 (by first|assumption|(simp only [Zba] at*;simp_all;done)) om
  refine x_q [(1,.lend [(7001,Zaa s'_1,Zaa s'_2)] [] [(true,.any)] true (Zae true v_2))] [5,6] [7001] [Zao Try.prog 30 [.ref 7001 0] (Zab [(7001,Zaa s'_1)]) true (Zae true v_2) (Zab [(7001,Zaa s'_2)])∧(((Zaa s'_1:Ob)=Zaa s'_1∨Zef Zdl true (Zaa s'_1) (Zaa s'_1))∧Zan false (Zaa s'_1))∧True] ⟨⟨hc2,⟨.inl rfl,(by simp [Zan,Zag,Zah,Zct])⟩,trivial⟩,trivial⟩ (Zac (Zam ?_))
  obtain ⟨v_3,s'_3,hx3_0,hx3_1,hx3_2,hx3_3,hc3⟩:=Zgq s'_2 (by first|assumption|(simp only [Zba] at*;simp_all;done)) om
  refine x_r [(1,.lend [(7001,Zaa s'_2,Zaa s'_3)] [] [(true,.any)] true (I v_3))] [5,6,7] [7001] [.ref 7001 0,Zae true v_2,I v_3] [some (Zaa s'_3)] [Zao Try.prog 31 [.ref 7001 0] (Zab [(7001,Zaa s'_2)]) true (I v_3) (Zab [(7001,Zaa s'_3)])∧(((Zaa s'_2:Ob)=Zaa s'_2∨Zef Zdl true (Zaa s'_2) (Zaa s'_2))∧Zan false (Zaa s'_2))∧True] ⟨⟨hc3,⟨.inl rfl,(by simp [Zan,Zag,Zah,Zct])⟩,trivial⟩,trivial⟩ (Zac (Zam ?_))
  obtain ⟨v_4,s'_4,hx4_0,hx4_1,hx4_2,hx4_3,hc4⟩:=Zgq s'_3 (by first|assumption|(simp only [Zba] at*;simp_all;done)) om
  refine x_r [(3,.lend [(7001,Zaa s'_3,Zaa s'_4)] [] [(true,.any)] true (I v_4))] [2,3,4] [] [Zae true v_2,I v_3,I v_4] [] [Zao Try.prog 31 [.ref 7001 0] (Zab [(7001,Zaa s'_3)]) true (I v_4) (Zab [(7001,Zaa s'_4)])∧(((Zaa s'_3:Ob)=Zaa s'_3∨Zef Zdl true (Zaa s'_3) (Zaa s'_3))∧Zan false (Zaa s'_3))∧True] ⟨⟨hc4,⟨.inl rfl,(by simp [Zan,Zag,Zah,Zct])⟩,trivial⟩,trivial⟩ (Zac (Zby ?_))
  refine Zbd (v_2,v_3,v_4) (show (v_2.length≤100)∧(smD v_2)∧(True) from ⟨(by first|omega|assumption|rfl|(simp;done)|(simp;omega)|(simp_all;done)),(by first|omega|assumption|rfl|(simp;done)|(simp;omega)|(simp_all;done)),trivial⟩) (trivial) (.tup [Zae true v_2,I v_3,I v_4]) (by kernel_rfl) (.inl rfl) (fun _=>rfl) (fun _=>(by simp [Zah,Zag,Zbo]))
 obtain ⟨⟨boxes,lg,wg⟩,⟨hh0,hh1,_⟩,hc⟩:=hh
 exact ⟨boxes,lg,wg,hh0,hh1,hc⟩
theorem Zcs (i:Int) (j:Int) (boxes:List Box) (ha:0≤i∧i<(boxes.length:Int)) (hb:0≤j∧j<(boxes.length:Int)):Con Try.prog 64 [I i,I j,.ptr false [Zae false boxes]] true (I (cY boxes i j)):=by
 refine Zda (fn:=Try.f64) (nt:=17) Try.func64 rfl rfl rfl rfl (by simp [Zag,Zah,Zbo]) fun B hB=> ?_
 refine Zbt (x:= .ptr false [Zae false boxes]) 2 rfl (fun len_boxes=> ?_)
 simp [Zdb,Zfv,Znw,Zdr,Zae] at len_boxes
 refine aQ [] [0,1,2] [] [] hB trivial ?_
 refine aR [(10,.call [(true,.any),(true,.any)] true (I (Zed ((at_ boxes i.toNat).Y1) ((at_ boxes j.toNat).Y1))))] [5] [] [I (Zed ((at_ boxes i.toNat).Y1) ((at_ boxes j.toNat).Y1))] [] [(0:Int)≤i∧i<(boxes.length:Int),(0:Int)≤j∧j<(boxes.length:Int),_∧True] hB ⟨⟨om,om⟩,⟨om,om⟩,⟨(Zgn ((at_ boxes i.toNat).Y1) ((at_ boxes j.toNat).Y1)),trivial⟩,trivial⟩ (Zaz ?_)
 refine Zax hB (I (Zed ((at_ boxes i.toNat).Y1) ((at_ boxes j.toNat).Y1))) (by kernel_rfl) (.inl (by first|rfl|(refine congrArg Bv ?_;simp [*];done)|(refine congrArg Bv ?_;simp [*];omega)|(refine congrArg Bv ?_;simp_all [];done)|(refine congrArg Bv ?_;simp_all [];omega))) rfl (fun _=>trivial)
theorem Zyh (x:Int) (h:0≤x∧x≤18446744073709551615):Con Try.prog 79 [.val (.int .u64 x)] true (I ((Lib.bitLen x.toNat:Nat):Int)):=by
 refine Zqc (vals:=[.int .u64 x]) fun w _=> ?_
 refine (Try.bits_Len x w h.1 h.2).mono ?_
 rintro e w' ⟨rfl,rfl⟩
 exact ⟨rfl,Below.refl _ _⟩
end Go.Proofs.Ytfafngbbaplknaa.Ax
