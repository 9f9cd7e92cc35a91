/- Contracts that the statement FnTop reaches, part 3. No conditions. -/
import Derived.Test.YtomafbpfgpkolaaGreatDoorAxLTop2
import Derived.LaidMore
import Derived.Lay
import Derived.Lib.IndexBytes
import Derived.Lib.ItoaNum
import Derived.Lib.ParseIntBCases
import Derived.Lib.Repeat
import Derived.Lib.SplitLaws
import Derived.OpenShut
import Derived.SevenTiedAt
import Derived.Shelf.Strings.SlTrimAscii
import Derived.Stop.Joined
import Derived.Test.YtomafbpfgpkolaaGreatDoorAxBd
import Derived.Test.YtomafbpfgpkolaaGreatDoorAxR
import Derived.Test.YtomafbpfgpkolaaGreatDoorAxS
import Derived.Test.YtomafbpfgpkolaaGreatDoorAxSF
import Derived.Test.YtomafbpfgpkolaaGreatDoorAxY
import Derived.Test.YtomafbpfgpkolaaGreatDoorSfFndShelf
namespace Go.Proofs.YtomafbpfgpkolaaGreatDoor.Ax
open Go.RowKit Go.ChangeShapes Go.WideShapes
set_option linter.unusedVariables false
set_option linter.unusedSimpArgs false
theorem Zyd (f:Feat):Con Tryz.prog 139 [Zky f] true (Bv (okF f)):=by
  refine Zcm (fn:=Tryz.f139) (nt:=16) Tryz.func139 rfl rfl rfl rfl (by simp [Zaf,Zai]) fun B hB=> ?_
  refine aQ [(0,.new 1)] [1] [1] [] hB trivial (Zah ?_)
  rcases Bool.eq_false_or_eq_true (inB f.X 0 255) with h1|h1
  ·rcases Bool.eq_false_or_eq_true (inB f.Y 0 255) with h2|h2
   ·refine Zeo [(2,.call [(true,.any),(true,.any),(true,.any)] true (Bv true)),(6,.call [(true,.any),(true,.any),(true,.any)] true (Bv true)),(11,.call [(true,.any),(true,.any),(true,.any)] true (Bv (inB f.D 0 7)))] [2] [] [Bv (inB f.D 0 7)] [] [Con Tryz.prog 56 [I f.X,I 0,I 255] true (Bv true)∧True,Con Tryz.prog 56 [I f.Y,I 0,I 255] true (Bv true)∧True,_∧True] hB ⟨⟨(Zau h1 (Zee f.X 0 255)),trivial⟩,⟨(Zau h2 (Zee f.Y 0 255)),trivial⟩,⟨(Zee f.D 0 7),trivial⟩,trivial⟩ (Zac (Zan ?_))
    refine Zao hB (Bv (inB f.D 0 7)) (by kernel_rfl) (.inl (by first|rfl|(refine congrArg Bv ?_;simp [okF, *];done)|(refine congrArg Bv ?_;simp [okF, *];omega)|(refine congrArg Bv ?_;simp_all [okF];done)|(refine congrArg Bv ?_;simp_all [okF];omega))) rfl (fun _=>trivial)
   refine Zeo [(2,.call [(true,.any),(true,.any),(true,.any)] true (Bv true)),(6,.call [(true,.any),(true,.any),(true,.any)] true (Bv false))] [2] [] [Bv false] [] [Con Tryz.prog 56 [I f.X,I 0,I 255] true (Bv true)∧True,Con Tryz.prog 56 [I f.Y,I 0,I 255] true (Bv false)∧True] hB ⟨⟨(Zau h1 (Zee f.X 0 255)),trivial⟩,⟨(Zau h2 (Zee f.Y 0 255)),trivial⟩,trivial⟩ (Zac (Zan ?_))
   refine Zao hB (Bv false) (by kernel_rfl) (.inl (by first|rfl|(refine congrArg Bv ?_;simp [okF, *];done)|(refine congrArg Bv ?_;simp [okF, *];omega)|(refine congrArg Bv ?_;simp_all [okF];done)|(refine congrArg Bv ?_;simp_all [okF];omega))) rfl (fun _=>trivial)
  refine Zeo [(2,.call [(true,.any),(true,.any),(true,.any)] true (Bv false))] [2] [] [Bv false] [] [Con Tryz.prog 56 [I f.X,I 0,I 255] true (Bv false)∧True] hB ⟨⟨(Zau h1 (Zee f.X 0 255)),trivial⟩,trivial⟩ (Zac (Zan ?_))
  refine Zao hB (Bv false) (by kernel_rfl) (.inl (by first|rfl|(refine congrArg Bv ?_;simp [okF, *];done)|(refine congrArg Bv ?_;simp [okF, *];omega)|(refine congrArg Bv ?_;simp_all [okF];done)|(refine congrArg Bv ?_;simp_all [okF];omega))) rfl (fun _=>trivial)
theorem Zop (f:Feat):Con Tryz.prog 138 [Zky f] true (Bv (!(okF f))):=by
 refine Zcm (fn:=Tryz.f138) (nt:=6) Tryz.func138 rfl rfl rfl rfl (by simp [Zaf,Zai]) fun B hB=> ?_
 refine aQ [(0,.new 1)] [1] [1] [] hB trivial ?_
 refine aR [(1,.call [(true,.any)] true (Bv (okF f)))] [2] [] [Bv (!(okF f))] [] [_∧True] hB ⟨⟨(Zyd f),trivial⟩,trivial⟩ (Zan ?_)
 refine Zao hB (Bv (!(okF f))) (by kernel_rfl) (.inl rfl) rfl (fun _=>trivial)
theorem Zmg (s:List Feat):Con Tryz.prog 156 [Zag false s,.fn 138 []] true (I (Zit s.length (fun j=>(!(okF (at_ s j)))))):=by
  refine Zcm (fn:=Tryz.f156) (nt:=19) Tryz.func156 rfl rfl rfl rfl (by simp [Zaf,Zai,Zdx]) fun B hB=> ?_
  refine Zck (x:=Zag false s) 0 rfl (fun len_s=> ?_)
  simp [Zei,Zhv,Zjs,Zej,Zag] at len_s
  refine aQ [] [0,1] [] [] hB trivial (Zah ?_)
  refine aR [] [0,1,7,8] [] [Zag false s,.fn 138 [],I (s.length:Int),I 0] [] [] hB trivial (Zbg ?_)
  refine Zdm (fun gn gσ=>∃(t8:Int),gn=((s.length:Int)-t8).toNat∧(0≤t8∧t8≤(s.length:Int))∧(∀j:Nat,(j:Int)<t8→(!(okF (at_ s j)))=false)∧gσ=mkS [(0,Zag false s),(1,.fn 138 []),(7,I (s.length:Int)),(8,I t8)] []) (((s.length:Int)-0).toNat) ⟨0,rfl,om,(by intro j hj;omega),rfl⟩ (fun gn gσ hI=> ?_)
  obtain ⟨t8,rfl,hi0,hall0,rfl⟩:=hI
  refine Zah ?_
  by_cases h1:t8<(s.length:Int)
  ·have hi:t8.toNat<s.length:=by omega
   refine Zbn [(0,.dec true)] [0,1,7,8,9] [] [_] hB ⟨h1,trivial⟩ (Zac (Zah (Zbr (Zar (Zac (Zah (Zbg ?_)))))))
   refine aQ [] [0,1,5,7,8] [] [] hB trivial (Zah ?_)
   rcases Bool.eq_false_or_eq_true (!(okF (at_ s t8.toNat))) with h2|h2
   ·have hfin:Zit s.length (fun j=>(!(okF (at_ s j))))=t8.toNat:=Yel hi h2 (fun j hj=>hall0 j om)
    refine Zbn [(5,.call [(true,.any)] true (Bv true))] [0,1,5,7,8,16] [] [(0:Int)≤t8∧t8<(s.length:Int),Con Tryz.prog 138 [Zky (at_ s t8.toNat)] true (Bv true)∧True] hB ⟨⟨om,om⟩,⟨(Zau h2 (Zop (at_ s t8.toNat))),trivial⟩,trivial⟩ (Zac (Zbr ?_))
    refine aR [] [4] [] [I t8] [] [] hB trivial (Zan ?_)
    refine Zaz (Zaj (Zaj (Zaz (Zaj ?_))))
    refine Zao hB (I t8) (by kernel_rfl) (.inl (by refine congrArg I ?_;first|(rw [hfin];done)|(rw [hfin];omega))) rfl (fun _=>trivial)
   refine Zbn [(5,.call [(true,.any)] true (Bv false))] [0,1,5,7,8,16] [] [(0:Int)≤t8∧t8<(s.length:Int),Con Tryz.prog 138 [Zky (at_ s t8.toNat)] true (Bv false)∧True] hB ⟨⟨om,om⟩,⟨(Zau h2 (Zop (at_ s t8.toNat))),trivial⟩,trivial⟩ (Zac (Zbo (Zar (Zbq 1 (Zac ?_)))))
   refine Zeo [] [0,1,7,8] [] [Zag false s,.fn 138 [],I (s.length:Int),I (t8+1)] [] [inR .i64 (t8+1)] hB ⟨(Zad om om),trivial⟩ ?_
   exact Zbs _ om ⟨(t8+1),rfl,om,(by intro j hj;by_cases ej:j=t8.toNat;(subst ej;first|assumption|rfl);exact hall0 j om),rfl⟩
  have hfin:Zit s.length (fun j=>(!(okF (at_ s j))))=-1:=Zrh (fun j hj=>hall0 j om)
  refine Zbn [(0,.dec false)] [0,1,7,8,9] [] [_] hB ⟨h1,trivial⟩ (Zac (Zah (Zbo (Zcy (Zam (Zam (Zbi (Zac ?_))))))))
  refine aR [] [4] [] [I (-1)] [] [] hB trivial (Zan ?_)
  refine Zao hB (I (-1)) (by kernel_rfl) (.inl (by refine congrArg I ?_;first|(rw [hfin];done)|(rw [hfin];omega))) rfl (fun _=>trivial)
theorem Zri (s:List Feat):Con Tryz.prog 137 [Zag false s,.fn 138 []] true (Bv (Yar s.length (fun j=>(!(okF (at_ s j)))))):=by
 refine Zcm (fn:=Tryz.f137) (nt:=9) Tryz.func137 rfl rfl rfl rfl (by simp [Zaf,Zai,Zdx]) fun B hB=> ?_
 refine Zck (x:=Zag false s) 0 rfl (fun len_s=> ?_)
 simp [Zei,Zhv,Zjs,Zej,Zag] at len_s
 refine aQ [] [0,1] [] [] hB trivial ?_
 refine aR [(2,.call [(true,.any),(true,.any)] true (I (Zit s.length (fun j=>(!(okF (at_ s j)))))))] [4] [] [Bv (decide (0≤(Zit s.length (fun j=>(!(okF (at_ s j)))))))] [] [_∧True] hB ⟨⟨(Zmg s),trivial⟩,trivial⟩ (Zan ?_)
 refine Zao hB (Bv (decide (0≤(Zit s.length (fun j=>(!(okF (at_ s j)))))))) (by kernel_rfl) (.inl (by exact congrArg Bv (Yem _ _))) rfl (fun _=>trivial)
theorem Yas (list:List Feat) (most:Int):Con Tryz.prog 107 [Zag false list,I most] true (Bv (Zbf list most)):=by
  refine Zcm (fn:=Tryz.f107) (nt:=19) Tryz.func107 rfl rfl rfl rfl (by simp [Zaf,Zai,Zdx]) fun B hB=> ?_
  refine Zck (x:=Zag false list) 0 rfl (fun len_list=> ?_)
  simp [Zei,Zhv,Zjs,Zej,Zag] at len_list
  refine aQ [] [0,1] [] [] hB trivial (Zah ?_)
  by_cases h1:1≤(list.length:Int)
  ·by_cases h2:(list.length:Int)≤most
   ·refine Zeo [(2,.dec true),(7,.dec true),(11,.call [(true,.any),(true,.any)] true (Bv (Yar list.length (fun j=>(!(okF (at_ list j)))))))] [4] [] [Bv (!(Yar list.length (fun j=>(!(okF (at_ list j))))))] [] [_,_,_∧True] hB ⟨h1,h2,⟨(Zri list),trivial⟩,trivial⟩ (Zac (Zan ?_))
    refine Zao hB (Bv (!(Yar list.length (fun j=>(!(okF (at_ list j))))))) (by kernel_rfl) (.inl (by first|rfl|(refine congrArg Bv ?_;simp [Zbf,Zfs, *];done)|(refine congrArg Bv ?_;simp [Zbf,Zfs, *];omega)|(refine congrArg Bv ?_;simp_all [Zbf,Zfs];done)|(refine congrArg Bv ?_;simp_all [Zbf,Zfs];omega))) rfl (fun _=>trivial)
   refine Zeo [(2,.dec true),(7,.dec false)] [4] [] [Bv false] [] [_,_] hB ⟨h1,h2,trivial⟩ (Zac (Zan ?_))
   refine Zao hB (Bv false) (by kernel_rfl) (.inl (by first|rfl|(refine congrArg Bv ?_;simp [Zbf,Zfs, *];done)|(refine congrArg Bv ?_;simp [Zbf,Zfs, *];omega)|(refine congrArg Bv ?_;simp_all [Zbf,Zfs];done)|(refine congrArg Bv ?_;simp_all [Zbf,Zfs];omega))) rfl (fun _=>trivial)
  refine Zeo [(2,.dec false)] [4] [] [Bv false] [] [_] hB ⟨h1,trivial⟩ (Zac (Zan ?_))
  refine Zao hB (Bv false) (by kernel_rfl) (.inl (by first|rfl|(refine congrArg Bv ?_;simp [Zbf,Zfs, *];done)|(refine congrArg Bv ?_;simp [Zbf,Zfs, *];omega)|(refine congrArg Bv ?_;simp_all [Zbf,Zfs];done)|(refine congrArg Bv ?_;simp_all [Zbf,Zfs];omega))) rfl (fun _=>trivial)
theorem Zrj (list:List Feat):Con Tryz.prog 69 [Zag false list] true (Bv (Zbf list 72)):=by
 refine Zcm (fn:=Tryz.f69) (nt:=5) Tryz.func69 rfl rfl rfl rfl (by simp [Zaf,Zai,Zdx]) fun B hB=> ?_
 refine Zck (x:=Zag false list) 0 rfl (fun len_list=> ?_)
 simp [Zei,Zhv,Zjs,Zej,Zag] at len_list
 refine aQ [] [0] [] [] hB trivial ?_
 refine aR [(1,.call [(true,.any),(true,.any)] true (Bv (Zbf list 72)))] [2] [] [Bv (Zbf list 72)] [] [_∧True] hB ⟨⟨(Yas list 72),trivial⟩,trivial⟩ (Zan ?_)
 refine Zao hB (Bv (Zbf list 72)) (by kernel_rfl) (.inl rfl) rfl (fun _=>trivial)
def Zcb (a b:Feat):Int:=((a.X-b.X).natAbs:Int)+((a.Y-b.Y).natAbs:Int)+16*min ((a.D-b.D).natAbs:Int) (8-((a.D-b.D).natAbs:Int))
theorem Zex {a b:Feat} (ha:okF a=true) (hb:okF b=true):0≤Zcb a b∧Zcb a b≤600:=by
 have h1:=Zfn.1 ha
 have h2:=Zfn.1 hb
 unfold Zcb
 omega
def stp (far band:Int) (i j:Nat) (before c:Int):Int:=if band<(((i:Int)-(j:Int)).natAbs:Int)∨far≤before then far else before+c
def cv (far:Int) (a b:List Feat) (band:Int):Nat→Nat→Int
 |0,0=>stp far band 0 0 0 (Zcb (at_ a 0) (at_ b 0))
 |0,j+1=>stp far band 0 (j+1) (min far (cv far a b band 0 j)) (Zcb (at_ a 0) (at_ b (j+1)))
 |i+1,0=>stp far band (i+1) 0 (min far (cv far a b band i 0)) (Zcb (at_ a (i+1)) (at_ b 0))
 |i+1,j+1=>stp far band (i+1) (j+1) (min (min (min far (cv far a b band i j)) (cv far a b band i (j+1))) (cv far a b band (i+1) j)) (Zcb (at_ a (i+1)) (at_ b (j+1)))
termination_by i j=>(i,j)
def Zte (a b:List Feat):Prop:=(∀i,i<a.length→okF (at_ a i)=true)∧(∀j,j<b.length→okF (at_ b j)=true)∧a.length≤72∧b.length≤72
theorem Zjt {far band:Int} {i j:Nat} {before c:Int} (h:band<(((i:Int)-(j:Int)).natAbs:Int)∨far≤before):stp far band i j before c=far:=if_pos h
theorem Zfh {far band:Int} {i j:Nat} {before c:Int} (h1:¬ band<(((i:Int)-(j:Int)).natAbs:Int)) (h2:¬ far≤before):stp far band i j before c=before+c:=if_neg om
theorem Zrk {far band:Int} {a b:List Feat} {i j:Nat} (h:band<(((i:Int)-(j:Int)).natAbs:Int)):cv far a b band i j=far:=by
 rcases i with _|i<;>rcases j with _|j<;>rw [cv]<;>exact Zjt (.inl h)
theorem Zye {band:Int} {a b:List Feat} (hab:Zte a b) {f1 f2:Int} (h1:1000000000≤f1) (h2:1000000000≤f2):∀(s i j:Nat),i+j=s→i<a.length→j<b.length→(((i:Int)-(j:Int)).natAbs:Int)≤band→cv f1 a b band i j=cv f2 a b band i j∧0≤cv f1 a b band i j∧cv f1 a b band i j≤600*((i:Int)+j+1)
 |s,0,0,hs,hi,hj,hb=>by
  have hc:=Zex (hab.1 0 hi) (hab.2.1 0 hj)
  rw [cv,cv,Zfh om om,Zfh om om]
  omega
 |s,0,j+1,hs,hi,hj,hb=>by
  have hc:=Zex (hab.1 0 hi) (hab.2.1 (j+1) hj)
  obtain ⟨e,p0,p1⟩:=Zye (band:=band) hab h1 h2 (0+j) 0 j rfl hi om om
  have hl:=hab.2.2
  rw [cv,cv,←e,Zfh om om,Zfh om om]
  omega
 |s,i+1,0,hs,hi,hj,hb=>by
  have hc:=Zex (hab.1 (i+1) hi) (hab.2.1 0 hj)
  obtain ⟨e,p0,p1⟩:=Zye (band:=band) hab h1 h2 (i+0) i 0 rfl om hj om
  have hl:=hab.2.2
  rw [cv,cv,←e,Zfh om om,Zfh om om]
  omega
 |s,i+1,j+1,hs,hi,hj,hb=>by
  have hc:=Zex (hab.1 (i+1) hi) (hab.2.1 (j+1) hj)
  have hl:=hab.2.2
  obtain ⟨e,p0,p1⟩:=Zye (band:=band) hab h1 h2 (i+j) i j rfl om om om
  have q1:(cv f1 a b band i (j+1)=f1∧cv f2 a b band i (j+1)=f2)∨(cv f1 a b band i (j+1)=cv f2 a b band i (j+1)∧0≤cv f1 a b band i (j+1)∧cv f1 a b band i (j+1)≤600*((i:Int)+(j+1:Nat)+1)):=by
   by_cases q:band<(((i:Int)-((j+1:Nat):Int)).natAbs:Int)
   ·exact .inl ⟨Zrk q,Zrk q⟩
   ·exact .inr (Zye (band:=band) hab h1 h2 (i+(j+1)) i (j+1) rfl om hj om)
  have q2:(cv f1 a b band (i+1) j=f1∧cv f2 a b band (i+1) j=f2)∨(cv f1 a b band (i+1) j=cv f2 a b band (i+1) j∧0≤cv f1 a b band (i+1) j∧cv f1 a b band (i+1) j≤600*(((i+1:Nat):Int)+j+1)):=by
   by_cases q:band<((((i+1:Nat):Int)-(j:Int)).natAbs:Int)
   ·exact .inl ⟨Zrk q,Zrk q⟩
   ·exact .inr (Zye (band:=band) hab h1 h2 ((i+1)+j) (i+1) j rfl hi om om)
  rw [cv,cv,←e,Zfh om om,Zfh om om]
  omega
termination_by s i j=>i+j
def lb1 (tb:List (List Int)) (i j:Int):Int:=if 1≤i∧1≤j then min 1099511627776 (at_ (at_ tb (i-1).toNat) (j-1).toNat) else 1099511627776
def lb2 (tb:List (List Int)) (i j:Int):Int:=if 1≤i then min (lb1 tb i j) (at_ (at_ tb (i-1).toNat) (j-0).toNat) else lb1 tb i j
def lb3 (tb:List (List Int)) (i j:Int):Int:=if 1≤j then min (lb2 tb i j) (at_ (at_ tb (i-0).toNat) (j-1).toNat) else lb2 tb i j
def lbk (tb:List (List Int)) (i j:Int):Nat→Int
 |0=>1099511627776
 |1=>lb1 tb i j
 |2=>lb2 tb i j
 |_=>lb3 tb i j
abbrev Znh:Int:=1099511627776
def Zkz (a b:List Feat) (band:Int) (r:List Int) (p n:Nat):Prop:=r.length=b.length∧∀q,q<n→at_ r q=cv Znh a b band p q
def Zni (a b:List Feat) (band:Int) (tb:List (List Int)) (i:Nat):Prop:=tb.length=a.length∧∀p,p<i→Zkz a b band (at_ tb p) p b.length
theorem Zsn {far:Int} (hf:0≤far) {a b:List Feat} (band:Int) (hab:Zte a b):∀(i j:Nat),i<a.length→j<b.length→0≤cv far a b band i j
 |0,0,hi,hj=>by
  have hc:=Zex (hab.1 0 hi) (hab.2.1 0 hj)
  rw [cv];unfold stp;split<;>omega
 |0,j+1,hi,hj=>by
  have hc:=Zex (hab.1 0 hi) (hab.2.1 (j+1) hj)
  have:=Zsn hf band hab 0 j hi om
  rw [cv];unfold stp;split<;>omega
 |i+1,0,hi,hj=>by
  have hc:=Zex (hab.1 (i+1) hi) (hab.2.1 0 hj)
  have:=Zsn hf band hab i 0 om hj
  rw [cv];unfold stp;split<;>omega
 |i+1,j+1,hi,hj=>by
  have hc:=Zex (hab.1 (i+1) hi) (hab.2.1 (j+1) hj)
  have:=Zsn hf band hab i j om om
  have:=Zsn hf band hab i (j+1) om om
  have:=Zsn hf band hab (i+1) j om om
  rw [cv];unfold stp;split<;>omega
termination_by i j=>i+j
theorem lb_at {a b:List Feat} {band:Int} {tb:List (List Int)} {i j:Nat} (hab:Zte a b) (h:Zni a b band tb i) (hr:Zkz a b band (at_ tb i) i j) (hi:i<a.length) (hj:j<b.length):
  (0≤lb3 tb i j∧lb3 tb i j≤Znh)∧cv Znh a b band i j=stp Znh band i j (if i=0∧j=0 then 0 else lb3 tb i j) (Zcb (at_ a i) (at_ b j)):=by
 have hF:Znh=1099511627776:=rfl
 have e1:∀p q:Nat,p<i→q<b.length→at_ (at_ tb p) q=cv Znh a b band p q∧0≤cv Znh a b band p q:=fun p q hp hq=>⟨(h.2 p hp).2 q hq,Zsn (by decide) band hab p q om hq⟩
 have e2:∀q:Nat,q<j→at_ (at_ tb i) q=cv Znh a b band i q∧0≤cv Znh a b band i q:=fun q hq=>⟨hr.2 q hq,Zsn (by decide) band hab i q hi om⟩
 rcases i with _|i<;>rcases j with _|j
 ·refine ⟨?_,by rw [cv];simp⟩
  simp [lb3,lb2,lb1]
 ·have q:=e2 j om
  have e:lb3 tb (0:Nat) ((j+1:Nat):Int)=min Znh (cv Znh a b band 0 j):=by
   unfold lb3 lb2 lb1
   rw [if_pos om,if_neg om,if_neg om,show (((j+1:Nat):Int)-1).toNat=j from by omega,show (((0:Nat):Int)-0).toNat=0 from rfl,q.1]
  rw [e]
  refine ⟨by omega,?_⟩
  rw [cv,if_neg om]
 ·have q:=e1 i 0 om hj
  have e:lb3 tb ((i+1:Nat):Int) (0:Nat)=min Znh (cv Znh a b band i 0):=by
   unfold lb3 lb2 lb1
   rw [if_neg om,if_pos om,if_neg om,show (((i+1:Nat):Int)-1).toNat=i from by omega,show (((0:Nat):Int)-0).toNat=0 from rfl,q.1]
  rw [e]
  refine ⟨by omega,?_⟩
  rw [cv,if_neg om]
 ·have q1:=e1 i j om om
  have q2:=e1 i (j+1) om hj
  have q3:=e2 j om
  have e:lb3 tb ((i+1:Nat):Int) ((j+1:Nat):Int)=min (min (min Znh (cv Znh a b band i j)) (cv Znh a b band i (j+1))) (cv Znh a b band (i+1) j):=by
   unfold lb3 lb2 lb1
   rw [if_pos om,if_pos om,if_pos om,show (((i+1:Nat):Int)-1).toNat=i from by omega,show (((j+1:Nat):Int)-1).toNat=j from by omega,show (((j+1:Nat):Int)-0).toNat=j+1 from by omega,show (((i+1:Nat):Int)-0).toNat=i+1 from by omega,q1.1,q2.1,q3.1]
  rw [e]
  refine ⟨by omega,?_⟩
  rw [cv,if_neg om]
theorem tb_row {a b:List Feat} {band:Int} {tb:List (List Int)} {i m:Nat} (h:Zni a b band tb i) (hi:i<a.length) (hm:m=b.length):Zni a b band (tb.set i (List.replicate m 0)) i∧Zkz a b band (at_ (tb.set i (List.replicate m 0)) i) i 0:=by
 refine ⟨⟨by rw [List.length_set];exact h.1,fun p hp=> ?_⟩,?_,fun q hq=>by omega⟩
 ·rw [Zdz om];exact h.2 p hp
 ·rw [Zdb (by rw [h.1];exact hi)];simp [hm]
theorem Zla {a b:List Feat} {band v:Int} {tb:List (List Int)} {i j:Nat} (h:Zni a b band tb i) (hr:Zkz a b band (at_ tb i) i j) (hi:i<a.length) (hj:j<b.length) (hv:v=cv Znh a b band i j):Zni a b band (tb.set i ((at_ tb i).set j v)) i∧Zkz a b band (at_ (tb.set i ((at_ tb i).set j v)) i) i (j+1):=by
 refine ⟨⟨by rw [List.length_set];exact h.1,fun p hp=> ?_⟩,?_,fun q hq=> ?_⟩
 ·rw [Zdz om];exact h.2 p hp
 ·rw [Zdb (by rw [h.1];exact hi),List.length_set];exact hr.1
 ·rw [Zdb (by rw [h.1];exact hi)]
  by_cases e:q=j
  ·subst e;rw [Zdb (by rw [hr.1];exact hj)];exact hv
  ·rw [Zdz e];exact hr.2 q om
theorem tb_done {a b:List Feat} {band:Int} {tb:List (List Int)} {i n:Nat} (h:Zni a b band tb i) (hr:Zkz a b band (at_ tb i) i n) (hn:n=b.length):Zni a b band tb (i+1):=by
 subst hn
 refine ⟨h.1,fun p hp=> ?_⟩
 by_cases e:p=i
 ·subst e;exact hr
 ·exact h.2 p om
theorem tb_nil (a b:List Feat) (band:Int) {n:Nat} (hn:n=a.length):Zni a b band (List.replicate n []) 0:=⟨by simp [hn],fun p hp=>by omega⟩
abbrev Zgi:Int:=1000000000
def Zsl (a b:List Feat) (band:Int) (out:List Int) (k:Nat):Prop:=out.length=a.length*b.length∧∀p q,p<a.length→q<b.length→p*b.length+q<k→at_ out (p*b.length+q)=cv Zgi a b band p q
def sb0 (i j:Int):Int:=if i=0∧j=0 then 0 else 1000000000
def sb1 (out:List Int) (m i j:Int):Int:=if 0<i∧0<j then min (sb0 i j) (at_ out ((i-1)*m+j-1).toNat) else sb0 i j
def sb2 (out:List Int) (m i j:Int):Int:=if 0<i then min (sb1 out m i j) (at_ out ((i-1)*m+j).toNat) else sb1 out m i j
def sb3 (out:List Int) (m i j:Int):Int:=if 0<j then min (sb2 out m i j) (at_ out (i*m+j-1).toNat) else sb2 out m i j
theorem Yhl {p q i j m:Nat} (h:p<i) (hq:q<m):p*m+q<i*m+j:=by
 have:(p+1)*m≤i*m:=Nat.mul_le_mul_right _ h
 rw [Nat.succ_mul] at this
 omega
theorem ix_up {i j:Nat} {m:Nat} :(((i+1:Nat):Int)-1)*(m:Int)=((i*m:Nat):Int):=by
 rw [show ((i+1:Nat):Int)-1=(i:Int) from by omega,Int.natCast_mul]
theorem cv_le {far:Int} (hf:1000000000≤far) {a b:List Feat} (band:Int) (hab:Zte a b) {i j:Nat} (hi:i<a.length) (hj:j<b.length):cv far a b band i j=far∨cv far a b band i j≤87000:=by
 by_cases h:band<(((i:Int)-(j:Int)).natAbs:Int)
 ·exact .inl (Zrk h)
 ·have:=(Zye (band:=band) hab hf hf (i+j) i j rfl hi hj om).2.2
  have hl:=hab.2.2
  right;omega
theorem sb_at {a b:List Feat} {band:Int} {out:List Int} {i j:Nat} (hab:Zte a b) (h:Zsl a b band out (i*b.length+j)) (hi:i<a.length) (hj:j<b.length):
  (0≤sb3 out b.length i j∧(sb3 out b.length i j≤87000∨sb3 out b.length i j=1000000000))∧cv Zgi a b band i j=(if sb3 out b.length i j=1000000000∨band<(((i:Int)-(j:Int)).natAbs:Int) then 1000000000 else sb3 out b.length i j+Zcb (at_ a i) (at_ b j)):=by
 have hF:Zgi=1000000000:=rfl
 have e1:∀p q:Nat,p<i→q<b.length→at_ out (p*b.length+q)=cv Zgi a b band p q∧0≤cv Zgi a b band p q∧(cv Zgi a b band p q=Zgi∨cv Zgi a b band p q≤87000):=fun p q hp hq=>⟨h.2 p q om hq (Yhl hp hq),Zsn (by decide) band hab p q om hq,cv_le (by decide) band hab om hq⟩
 have e2:∀q:Nat,q<j→at_ out (i*b.length+q)=cv Zgi a b band i q∧0≤cv Zgi a b band i q∧(cv Zgi a b band i q=Zgi∨cv Zgi a b band i q≤87000):=fun q hq=>⟨h.2 i q hi om om,Zsn (by decide) band hab i q hi om,cv_le (by decide) band hab hi om⟩
 have hst:∀x c:Int,x≤Zgi→stp Zgi band i j x c=(if x=1000000000∨band<(((i:Int)-(j:Int)).natAbs:Int) then 1000000000 else x+c):=fun x c hx=>by
  unfold stp;split<;>split<;>omega
 rcases i with _|i<;>rcases j with _|j
 ·have e:sb3 out b.length (0:Nat) (0:Nat)=0:=by simp [sb3,sb2,sb1,sb0]
  rw [e]
  refine ⟨by omega,?_⟩
  rw [cv,hst _ _ om]
 ·have q:=e2 j om
  have e:sb3 out b.length (0:Nat) ((j+1:Nat):Int)=min Zgi (cv Zgi a b band 0 j):=by
   unfold sb3 sb2 sb1 sb0
   rw [if_pos om,if_neg om,if_neg om,if_neg om,show (((0:Nat):Int)*(b.length:Int)+((j+1:Nat):Int)-1).toNat=0*b.length+j from by rw [show ((0:Nat):Int)*(b.length:Int)=0 from Int.zero_mul _,Nat.zero_mul];omega,q.1]
  rw [e]
  refine ⟨by omega,?_⟩
  rw [cv,hst _ _ om]
 ·have q:=e1 i 0 om hj
  have e:sb3 out b.length ((i+1:Nat):Int) (0:Nat)=min Zgi (cv Zgi a b band i 0):=by
   unfold sb3 sb2 sb1 sb0
   rw [if_neg om,if_pos om,if_neg om,if_neg om,ix_up (j:=0),show (((i*b.length:Nat):Int)+((0:Nat):Int)).toNat=i*b.length+0 from by omega,q.1]
  rw [e]
  refine ⟨by omega,?_⟩
  rw [cv,hst _ _ om]
 ·have q1:=e1 i j om om
  have q2:=e1 i (j+1) om hj
  have q3:=e2 j om
  have e:sb3 out b.length ((i+1:Nat):Int) ((j+1:Nat):Int)=min (min (min Zgi (cv Zgi a b band i j)) (cv Zgi a b band i (j+1))) (cv Zgi a b band (i+1) j):=by
   unfold sb3 sb2 sb1 sb0
   rw [if_pos om,if_pos om,if_pos om,if_neg om,ix_up (j:=0),show (((i*b.length:Nat):Int)+((j+1:Nat):Int)-1).toNat=i*b.length+j from by omega,show (((i*b.length:Nat):Int)+((j+1:Nat):Int)).toNat=i*b.length+(j+1) from by omega,show (((i+1:Nat):Int)*(b.length:Int)+((j+1:Nat):Int)-1).toNat=(i+1)*b.length+j from by rw [←Int.natCast_mul];omega,q1.1,q2.1,q3.1]
  rw [e]
  refine ⟨by omega,?_⟩
  rw [cv,hst _ _ om]
theorem fl_nn {a b:List Feat} {band:Int} {out:List Int} {k0 k:Nat} (hab:Zte a b) (h:Zsl a b band out k0) (hM:0<b.length) (hk:k<k0) (hk2:k<a.length*b.length):0≤at_ out k:=by
 have h1:=Nat.div_add_mod k b.length
 have h2:=Nat.mod_lt k hM
 have h3:k/b.length<a.length:=(Nat.div_lt_iff_lt_mul hM).2 hk2
 rw [Nat.mul_comm] at h1
 rw [←h1,h.2 _ _ h3 h2 om]
 exact Zsn (by decide) band hab _ _ h3 h2
theorem fl_uniq {p q i j m:Nat} (hq:q<m) (hj:j<m) (h:p*m+q=i*m+j):p=i∧q=j:=by
 have hp:p=i:=by
  rcases Nat.lt_trichotomy p i with e|e|e
  ·have:=Yhl (j:=j) e hq;omega
  ·exact e
  ·have:=Yhl (j:=q) e hj;omega
 subst hp
 exact ⟨rfl,by omega⟩
theorem Yai {a b:List Feat} {band v:Int} {out:List Int} {i j:Nat} {k:Nat} (h:Zsl a b band out (i*b.length+j)) (hi:i<a.length) (hj:j<b.length) (hk:k=i*b.length+j) (hv:v=cv Zgi a b band i j):Zsl a b band (out.set k v) (i*b.length+(j+1)):=by
 subst hk
 refine ⟨by rw [List.length_set];exact h.1,fun p q hp hq hk=> ?_⟩
 by_cases e:p*b.length+q=i*b.length+j
 ·obtain ⟨rfl,rfl⟩:=fl_uniq hq hj e
  have:p*b.length+q<a.length*b.length+0:=Yhl hi hj
  rw [Zdb (by rw [h.1];omega)];exact hv
 ·rw [Zdz e];exact h.2 p q hp hq om
theorem fl_done {a b:List Feat} {band:Int} {out:List Int} {i n:Nat} (h:Zsl a b band out (i*b.length+n)) (hn:n=b.length):Zsl a b band out ((i+1)*b.length):=by
 subst hn;rw [Nat.succ_mul];exact h
def nx (a b:List Feat) (band:Int) (i j:Nat):Nat×Nat:=
 if (0<i∧0<j)∧cv Zgi a b band (i-1) (j-1)=cv Zgi a b band i j-Zcb (at_ a i) (at_ b j) then (i-1,j-1)
 else if 0<i∧cv Zgi a b band (i-1) j=cv Zgi a b band i j-Zcb (at_ a i) (at_ b j) then (i-1,j) else (i,j-1)
def Zlb (band:Int) (i j:Nat):Prop:=(((i:Int)-(j:Int)).natAbs:Int)≤band
theorem cv_fin {a b:List Feat} {band:Int} {i j:Nat} (hab:Zte a b) (hi:i<a.length) (hj:j<b.length):(Zlb band i j∧cv Znh a b band i j=cv Zgi a b band i j∧0≤cv Zgi a b band i j∧cv Zgi a b band i j≤87000)∨(¬ Zlb band i j∧cv Znh a b band i j=1099511627776∧cv Zgi a b band i j=1000000000):=by
 have hl:=hab.2.2
 by_cases h:Zlb band i j
 ·have q:=Zye (band:=band) hab (f1:=Zgi) (f2:=Znh) (by decide) (by decide) (i+j) i j rfl hi hj h
  exact .inl ⟨h,q.1.symm,q.2.1,by omega⟩
 ·unfold Zlb at h
  exact .inr ⟨h,Zrk om,Zrk om⟩
theorem cv_add {far:Int} (hf:1000000000≤far) {a b:List Feat} {band:Int} {i j:Nat} (hab:Zte a b) (hi:i<a.length) (hj:j<b.length) (hb:Zlb band i j) (h0:¬ (i=0∧j=0)):
  ∃x,cv far a b band i j=x+Zcb (at_ a i) (at_ b j)∧x<far∧((0<i∧0<j)∧x=cv far a b band (i-1) (j-1)∨0<i∧x=cv far a b band (i-1) j∨0<j∧x=cv far a b band i (j-1))∧(0<i→0<j→x≤cv far a b band (i-1) (j-1))∧(0<i→x≤cv far a b band (i-1) j)∧(0<j→x≤cv far a b band i (j-1)):=by
 have q:=Zye (band:=band) hab hf hf (i+j) i j rfl hi hj hb
 have hl:=hab.2.2
 have hc:=Zex (hab.1 i hi) (hab.2.1 j hj)
 unfold Zlb at hb
 rcases i with _|i<;>rcases j with _|j
 ·exact absurd ⟨rfl,rfl⟩ h0
 ·obtain ⟨v,e⟩:∃v,v=cv far a b band 0 (j+1):=⟨_,rfl⟩
  rw [←e] at q⊢
  rw [cv] at e
  unfold stp at e
  split at e
  ·omega
  ·refine ⟨_,e,by omega,?_,by omega,by omega,fun _=>by simp only [Nat.add_sub_cancel];omega⟩
   right;right;refine ⟨by omega,?_⟩;simp only [Nat.add_sub_cancel];omega
 ·obtain ⟨v,e⟩:∃v,v=cv far a b band (i+1) 0:=⟨_,rfl⟩
  rw [←e] at q⊢
  rw [cv] at e
  unfold stp at e
  split at e
  ·omega
  ·refine ⟨_,e,by omega,?_,by omega,fun _=>by simp only [Nat.add_sub_cancel];omega,by omega⟩
   right;left;refine ⟨by omega,?_⟩;simp only [Nat.add_sub_cancel];omega
 ·obtain ⟨v,e⟩:∃v,v=cv far a b band (i+1) (j+1):=⟨_,rfl⟩
  rw [←e] at q⊢
  rw [cv] at e
  unfold stp at e
  split at e
  ·omega
  ·refine ⟨_,e,by omega,?_,fun _ _=>by simp only [Nat.add_sub_cancel];omega,fun _=>by simp only [Nat.add_sub_cancel];omega,fun _=>by simp only [Nat.add_sub_cancel];omega⟩
   simp only [Nat.add_sub_cancel]
   omega
theorem Zrb {a b:List Feat} (ha:Zbf a 72=true) (hb:Zbf b 72=true):Zte a b:=⟨fun i hi=>Zdk ha hi,fun j hj=>Zdk hb hj,by have:=Zdr ha;omega,by have:=Zdr hb;omega⟩
theorem Ycr {band:Int} {n m:Nat} (h:Zlb band n m) (hn:1≤n) (hm:1≤m):Zlb band (n-1) (m-1):=by unfold Zlb at*;omega
theorem Yen (a b:List Feat) (band:Int) (i j:Nat):(nx a b band i j).1≤i∧(nx a b band i j).2≤j:=by
 unfold nx;split
 ·exact ⟨Nat.sub_le _ _,Nat.sub_le _ _⟩
 ·split
  ·exact ⟨Nat.sub_le _ _,Nat.le_refl _⟩
  ·exact ⟨Nat.le_refl _,Nat.sub_le _ _⟩
theorem Yht {a b:List Feat} {band:Int} {i j:Nat} (hab:Zte a b) (hi:i<a.length) (hj:j<b.length) (hb:Zlb band i j) (h0:¬ (i=0∧j=0)):
  Zlb band (nx a b band i j).1 (nx a b band i j).2∧(nx a b band i j).1+(nx a b band i j).2<i+j∧i≤(nx a b band i j).1+1:=by
 obtain ⟨x,e,hx,ho,_⟩:=cv_add (far:=Zgi) (by decide) hab hi hj hb h0
 have hF:Zgi=1000000000:=rfl
 have fin:∀p q,p<a.length→q<b.length→cv Zgi a b band p q=x→Zlb band p q:=fun p q hp hq h=>by
  rcases cv_fin (band:=band) hab hp hq with g|g
  ·exact g.1
  ·omega
 have ex:cv Zgi a b band i j-Zcb (at_ a i) (at_ b j)=x:=by omega
 unfold nx
 rw [ex]
 by_cases h1:(0<i∧0<j)∧cv Zgi a b band (i-1) (j-1)=x
 ·rw [if_pos h1];exact ⟨fin _ _ om om h1.2,by dsimp only;omega,by dsimp only;omega⟩
 ·rw [if_neg h1]
  by_cases h2:0<i∧cv Zgi a b band (i-1) j=x
  ·rw [if_pos h2];exact ⟨fin _ _ om om h2.2,by dsimp only;omega,by dsimp only;omega⟩
  ·rw [if_neg h2]
   have h3:0<j∧x=cv Zgi a b band i (j-1):=by
    rcases ho with g|g|g
    ·exact absurd ⟨g.1,g.2.symm⟩ h1
    ·exact absurd ⟨g.1,g.2.symm⟩ h2
    ·exact g
   exact ⟨fin _ _ om om h3.2.symm,by dsimp only;omega,by dsimp only;omega⟩
def bk (a b:List Feat) (band:Int):Nat→Nat→Nat→List Pair
 |0,i,j=>[⟨i,j⟩]
 |s+1,i,j=>if i=0∧j=0 then [⟨i,j⟩] else ⟨i,j⟩::bk a b band s (nx a b band i j).1 (nx a b band i j).2
theorem bk_head (a b:List Feat) (band:Int) (s i j:Nat):bk a b band s i j=⟨i,j⟩::(bk a b band s i j).tail:=by
 cases s with
 |zero=>rfl
 |succ s=>unfold bk;split<;>rfl
theorem Zyf {a b:List Feat} {band:Int} :∀ {s i j:Nat} {p:Pair},p∈bk a b band s i j→(0≤p.I∧p.I≤(i:Int))∧0≤p.J∧p.J≤(j:Int)
 |0,i,j,p,h=>by simp [bk] at h;subst h;simp
 |s+1,i,j,p,h=>by
  unfold bk at h
  split at h
  ·simp at h;subst h;simp
  ·rcases List.mem_cons.1 h with e|e
   ·subst e;simp
   ·have q:=Zyf e
    have n:=Yen a b band i j
    omega
theorem bk_cov {a b:List Feat} {band:Int} (hab:Zte a b):∀(s i j:Nat),i<a.length→j<b.length→Zlb band i j→i+j≤s→∀k:Nat,k≤i→∃p∈bk a b band s i j,p.I=(k:Int)
 |0,i,j,hi,hj,hb,hs,k,hk=>⟨⟨i,j⟩,by simp [bk],by dsimp only;omega⟩
 |s+1,i,j,hi,hj,hb,hs,k,hk=>by
  by_cases e:k=i
  ·subst e;exact ⟨⟨k,j⟩,by rw [bk_head];simp,rfl⟩
  ·have h0:¬ (i=0∧j=0):=by omega
   have n:=Yht hab hi hj hb h0
   have l:=Yen a b band i j
   obtain ⟨p,hp,hq⟩:=bk_cov hab s _ _ om om n.1 om k om
   exact ⟨p,by unfold bk;rw [if_neg h0];exact List.mem_cons_of_mem _ hp,hq⟩
def pcL (a b:List Feat):List Pair→Int
 | []=>0
 |p::r=>Zcb (at_ a p.I.toNat) (at_ b p.J.toNat)+pcL a b r
theorem cv_00 {a b:List Feat} {band:Int} (hb:Zlb band 0 0):cv Zgi a b band 0 0=Zcb (at_ a 0) (at_ b 0):=by
 have hF:Zgi=1000000000:=rfl
 unfold Zlb at hb
 rw [cv,Zfh om om];omega
theorem nx_cv {a b:List Feat} {band:Int} {i j:Nat} (hab:Zte a b) (hi:i<a.length) (hj:j<b.length) (hb:Zlb band i j) (h0:¬ (i=0∧j=0)):
  cv Zgi a b band i j=cv Zgi a b band (nx a b band i j).1 (nx a b band i j).2+Zcb (at_ a i) (at_ b j):=by
 obtain ⟨x,e,hx,ho,_⟩:=cv_add (far:=Zgi) (by decide) hab hi hj hb h0
 have ex:cv Zgi a b band i j-Zcb (at_ a i) (at_ b j)=x:=by omega
 suffices h:cv Zgi a b band (nx a b band i j).1 (nx a b band i j).2=x by omega
 unfold nx
 rw [ex]
 by_cases h1:(0<i∧0<j)∧cv Zgi a b band (i-1) (j-1)=x
 ·rw [if_pos h1];exact h1.2
 ·rw [if_neg h1]
  by_cases h2:0<i∧cv Zgi a b band (i-1) j=x
  ·rw [if_pos h2];exact h2.2
  ·rw [if_neg h2]
   rcases ho with g|g|g
   ·exact absurd ⟨g.1,g.2.symm⟩ h1
   ·exact absurd ⟨g.1,g.2.symm⟩ h2
   ·exact g.2.symm
theorem Yhu {a b:List Feat} {band:Int} (hab:Zte a b):∀(s i j:Nat),i<a.length→j<b.length→Zlb band i j→i+j≤s→cv Zgi a b band i j=pcL a b (bk a b band s i j)
 |0,i,j,hi,hj,hb,hs=>by
  obtain rfl:i=0:=by omega
  obtain rfl:j=0:=by omega
  simp [bk,pcL,cv_00 hb]
 |s+1,i,j,hi,hj,hb,hs=>by
  unfold bk
  by_cases h0:i=0∧j=0
  ·obtain ⟨rfl,rfl⟩:=h0
   simp [pcL,cv_00 hb]
  ·have n:=Yht hab hi hj hb h0
   have l:=Yen a b band i j
   rw [if_neg h0,nx_cv hab hi hj hb h0,Yhu hab s _ _ om om n.1 om]
   simp only [pcL,Int.toNat_natCast]
   omega
def smL {α:Type} (f:α→Int):List α→Int
 | []=>0
 |x::r=>f x+smL f r
theorem Yhv (g:Pair→Int) (P:List Pair) (k:Int):smL g (P.filter fun p=>decide (p.I<k+1))=smL g (P.filter fun p=>decide (p.I<k))+smL g (P.filter fun p=>decide (p.I=k)):=by
 induction P with
 |nil=>rfl
 |cons p r ih=>
  simp only [List.filter_cons]
  by_cases h1:p.I<k
  ·rw [if_pos (by simpa using (show p.I<k+1 by omega)),if_pos (by simpa using h1),if_neg (by simpa using (show ¬ p.I=k by omega))]
   simp only [smL,ih];omega
  ·by_cases h2:p.I=k
   ·rw [if_pos (by simpa using (show p.I<k+1 by omega)),if_neg (by simpa using h1),if_pos (by simpa using h2)]
    simp only [smL,ih];omega
   ·rw [if_neg (by simpa using (show ¬ p.I<k+1 by omega)),if_neg (by simpa using h1),if_neg (by simpa using h2)]
    exact ih
theorem smL_none (g:Pair→Int) (P:List Pair) (h:∀p∈P,0≤p.I):smL g (P.filter fun p=>decide (p.I<(0:Int)))=0:=by
 rw [List.filter_eq_nil_iff.2 fun p hp=>by have:=h p hp;simpa using this];rfl
theorem pcL_eq (a b:List Feat) (P:List Pair):pcL a b P=smL (fun p=>Zcb (at_ a p.I.toNat) (at_ b p.J.toNat)) P:=by
 induction P with
 |nil=>rfl
 |cons p r ih=>simp only [pcL,smL,ih]
def Zyg:Nat→(Nat→Int)→Int
 |0,_=>0
 |n+1,f=>Zyg n f+f n
theorem Yhw {n:Int} (h:0≤n) (f:Nat→Int):Zyg (n+1).toNat f=Zyg n.toNat f+f n.toNat:=by
 have:(n+1).toNat=n.toNat+1:=by omega
 rw [this];rfl
theorem bk_in {a b:List Feat} {band:Int} (hab:Zte a b):∀(s i j:Nat),i<a.length→j<b.length→Zlb band i j→i+j≤s→∀p∈bk a b band s i j,Zlb band p.I.toNat p.J.toNat
 |0,i,j,hi,hj,hb,hs=>fun p hp=>by simp [bk] at hp;subst hp;simpa using hb
 |s+1,i,j,hi,hj,hb,hs=>fun p hp=>by
  unfold bk at hp
  split at hp
  ·simp at hp;subst hp;simpa using hb
  ·rename_i h0
   rcases List.mem_cons.1 hp with e|e
   ·subst e;simpa using hb
   ·have n:=Yht hab hi hj hb h0
    have l:=Yen a b band i j
    exact bk_in hab s _ _ om om n.1 om p e
theorem Zvv {a b:List Feat} {band:Int} (hab:Zte a b):∀(s i j:Nat),i<a.length→j<b.length→Zlb band i j→i+j≤s→Zcb (at_ a 0) (at_ b 0)≤pcL a b (bk a b band s i j)
 |0,i,j,hi,hj,hb,hs=>by
  obtain rfl:i=0:=by omega
  obtain rfl:j=0:=by omega
  simp [bk,pcL]
 |s+1,i,j,hi,hj,hb,hs=>by
  unfold bk
  by_cases h0:i=0∧j=0
  ·obtain ⟨rfl,rfl⟩:=h0;simp [pcL]
  ·have n:=Yht hab hi hj hb h0
   have l:=Yen a b band i j
   have ih:=Zvv hab s _ _ (show (nx a b band i j).1<a.length by omega) (show (nx a b band i j).2<b.length by omega) n.1 om
   have c:=Zex (hab.1 i hi) (hab.2.1 j hj)
   rw [if_neg h0]
   simp only [pcL,Int.toNat_natCast]
   omega
theorem bk_both {a b:List Feat} {band:Int} (hab:Zte a b) {s i j:Nat} (hi:i<a.length) (hj:j<b.length) (hb:Zlb band i j) (hs:i+j≤s) (h0:¬ (i=0∧j=0)):Zcb (at_ a 0) (at_ b 0)+Zcb (at_ a i) (at_ b j)≤pcL a b (bk a b band s i j):=by
 cases s with
 |zero=>omega
 |succ s=>
  unfold bk
  have n:=Yht hab hi hj hb h0
  have l:=Yen a b band i j
  have ih:=Zvv hab s _ _ (show (nx a b band i j).1<a.length by omega) (show (nx a b band i j).2<b.length by omega) n.1 om
  rw [if_neg h0]
  simp only [pcL,Int.toNat_natCast]
  omega
def mnR (g:Nat→Int) (p:Nat):Nat→Int
 |0=>g p
 |k+1=>min (mnR g p k) (g (p+k+1))
def mxR (g:Nat→Int) (p:Nat):Nat→Int
 |0=>g p
 |k+1=>max (mxR g p k) (g (p+k+1))
theorem Yhx (g:Nat→Int) (p:Nat):∀k j:Nat,p≤j→j≤p+k→mnR g p k≤g j
 |0,j,h1,h2=>by rw [show j=p from by omega];exact Int.le_refl _
 |k+1,j,h1,h2=>by
  unfold mnR
  by_cases e:j=p+k+1
  ·subst e;omega
  ·have:=Yhx g p k j h1 om;omega
theorem Yhy (g:Nat→Int) (p:Nat):∀k j:Nat,p≤j→j≤p+k→g j≤mxR g p k
 |0,j,h1,h2=>by rw [show j=p from by omega];exact Int.le_refl _
 |k+1,j,h1,h2=>by
  unfold mxR
  by_cases e:j=p+k+1
  ·subst e;omega
  ·have:=Yhy g p k j h1 om;omega
theorem mnR_in {g:Nat→Int} {p:Nat} {lo hi:Int} :∀k:Nat,(∀j:Nat,p≤j→j≤p+k→lo≤g j∧g j≤hi)→(lo≤mnR g p k∧mnR g p k≤hi)∧lo≤mxR g p k∧mxR g p k≤hi
 |0,h=>by have:=h p (Nat.le_refl _) (Nat.le_refl _);exact ⟨this,this⟩
 |k+1,h=>by
  have ih:=mnR_in k fun j h1 h2=>h j h1 om
  have:=h (p+k+1) om om
  unfold mnR mxR;omega
def Zgg (band:Int) (i:Nat):Nat:=i-band.toNat
def Yey (m:Nat) (band:Int) (i:Nat):Nat:=min m (i+band.toNat+1)-(i-band.toNat)-1
def loE (g:Feat→Int) (b:List Feat) (band:Int) (i:Nat):Int:=mnR (fun j=>g (at_ b j)) (Zgg band i) (Yey b.length band i)
def hiE (g:Feat→Int) (b:List Feat) (band:Int) (i:Nat):Int:=mxR (fun j=>g (at_ b j)) (Zgg band i) (Yey b.length band i)
def Zrl (n low high:Int):Int:=max (max (low-n) (n-high)) 0
def outK (a b:List Feat) (band:Int) (i:Nat):Int:=Zrl (at_ a i).X (loE Feat.X b band i) (hiE Feat.X b band i)+Zrl (at_ a i).Y (loE Feat.Y b band i) (hiE Feat.Y b band i)
def outI (a b:List Feat) (band:Int):Int:=Zyg a.length (outK a b band)
def Yhz (a b:List Feat):Int:=if 1<a.length∨1<b.length then Zcb (at_ a 0) (at_ b 0)+Zcb (at_ a (a.length-1)) (at_ b (b.length-1)) else Zcb (at_ a 0) (at_ b 0)
def lbI (a b:List Feat) (band:Int):Int:=max (outI a b band) (Yhz a b)
theorem smL_one {g:Pair→Int} {P:List Pair} {p:Pair} (hn:∀q∈P,0≤g q) (h:p∈P):g p≤smL g P:=by
 induction P with
 |nil=>simp at h
 |cons q r ih=>
  have h0:=hn q (by simp)
  have hr:0≤smL g r:=by
   clear ih h
   induction r with
   |nil=>exact Int.le_refl _
   |cons x r ih=>
    have h1:=hn x (by simp)
    have:=ih fun y hy=>hn y (by rcases List.mem_cons.1 hy with e|e;(simp [e]);(simp [e]))
    simp only [smL];omega
  rcases List.mem_cons.1 h with e|e
  ·subst e;simp only [smL];omega
  ·have:=ih (fun y hy=>hn y (by simp [hy])) e
   simp only [smL];omega
theorem smL_sum {g:Pair→Int} {P:List Pair} {f:Nat→Int} (h0:∀p∈P,0≤p.I) (n:Nat) (h:∀k:Nat,k<n→f k≤smL g (P.filter fun p=>decide (p.I=(k:Int)))):Zyg n f≤smL g (P.filter fun p=>decide (p.I<(n:Int))):=by
 induction n with
 |zero=>show (0:Int)≤smL g (P.filter fun p=>decide (p.I<(0:Int)));rw [smL_none _ _ h0];exact Int.le_refl _
 |succ n ih=>
  have e:=Yhv g P (n:Int)
  have q:=ih fun k hk=>h k om
  have q2:=h n om
  rw [show ((n+1:Nat):Int)=(n:Int)+1 from rfl,e]
  simp only [Zyg];omega
theorem inBd_rng {m:Nat} {band:Int} {i j:Nat} (h:Zlb band i j) (hj:j<m):Zgg band i≤j∧j≤Zgg band i+Yey m band i:=by
 unfold Zlb at h
 unfold Zgg Yey;omega
theorem out_one {a b:List Feat} {band:Int} {i j:Nat} (h:Zlb band i j) (hj:j<b.length) (ha:okF (at_ a i)=true) (hb:okF (at_ b j)=true):outK a b band i≤Zcb (at_ a i) (at_ b j):=by
 have r:=inBd_rng h hj
 have x1:=Yhx (fun j=>(at_ b j).X) (Zgg band i) (Yey b.length band i) j r.1 r.2
 have x2:=Yhy (fun j=>(at_ b j).X) (Zgg band i) (Yey b.length band i) j r.1 r.2
 have y1:=Yhx (fun j=>(at_ b j).Y) (Zgg band i) (Yey b.length band i) j r.1 r.2
 have y2:=Yhy (fun j=>(at_ b j).Y) (Zgg band i) (Yey b.length band i) j r.1 r.2
 have f1:=Zfn.1 ha
 have f2:=Zfn.1 hb
 unfold outK Zrl Zcb loE hiE
 omega
theorem lb_le {a b:List Feat} {band:Int} (ha:Zbf a 72=true) (hb:Zbf b 72=true) (h:Zlb band a.length b.length):lbI a b band≤cv Zgi a b band (a.length-1) (b.length-1):=by
 have hab:=Zrb ha hb
 have n1:=Zdr ha
 have n2:=Zdr hb
 have he:=Ycr h n1.1 n2.1
 have e:=Yhu (band:=band) hab (a.length+b.length-1) (a.length-1) (b.length-1) om om he om
 rw [e]
 have hcost:∀p∈bk a b band (a.length+b.length-1) (a.length-1) (b.length-1),0≤Zcb (at_ a p.I.toNat) (at_ b p.J.toNat):=fun p hp=>by
  have m:=Zyf hp
  exact (Zex (hab.1 _ om) (hab.2.1 _ om)).1
 unfold lbI
 refine Int.max_le.2 ⟨?_,?_⟩
 ·rw [pcL_eq]
  have hall:(bk a b band (a.length+b.length-1) (a.length-1) (b.length-1)).filter (fun p=>decide (p.I<(a.length:Int)))=bk a b band (a.length+b.length-1) (a.length-1) (b.length-1):=List.filter_eq_self.2 fun p hp=>by have:=Zyf hp;simp;omega
  rw [←hall]
  refine smL_sum (fun p hp=>(Zyf hp).1.1) a.length fun k hk=> ?_
  obtain ⟨p,hp,hpk⟩:=bk_cov hab (a.length+b.length-1) (a.length-1) (b.length-1) om om he om k om
  have m:=Zyf hp
  have hi:=bk_in hab (a.length+b.length-1) (a.length-1) (b.length-1) om om he om p hp
  rw [hpk,Int.toNat_natCast] at hi
  have o:=out_one (a:=a) hi (show p.J.toNat<b.length by omega) (hab.1 k hk) (hab.2.1 _ om)
  refine Int.le_trans o ?_
  have:=smL_one (g:=fun p=>Zcb (at_ a p.I.toNat) (at_ b p.J.toNat)) (P:=(bk a b band (a.length+b.length-1) (a.length-1) (b.length-1)).filter fun p=>decide (p.I=(k:Int))) (p:=p) (fun q hq=>hcost q (List.mem_filter.1 hq).1) (List.mem_filter.2 ⟨hp,by simpa using hpk⟩)
  simp only [hpk,Int.toNat_natCast] at this
  exact this
 ·unfold Yhz
  split
  ·exact bk_both hab om om he om om
  ·exact Zvv hab _ _ _ om om he om
theorem loE_bd {b:List Feat} {band:Int} {i n:Nat} {g:Feat→Int} (hb:Zbf b 72=true) (hg:∀f:Feat,okF f=true→0≤g f∧g f≤255) (h:Zlb band n b.length) (hi:i<n):(0≤loE g b band i∧loE g b band i≤255)∧0≤hiE g b band i∧hiE g b band i≤255:=by
 have n2:=Zdr hb
 unfold Zlb at h
 exact mnR_in (g:=fun j=>g (at_ b j)) (p:=Zgg band i) (lo:=0) (hi:=255) (Yey b.length band i) fun j h1 h2=>hg _ (Zdk hb (by unfold Zgg Yey at*;omega))
def inL (a:List Feat) (ls:List (List Feat)) (band:Int) (j:Nat):Bool:=inB band 0 72&&decide ((((a.length:Int)-((at_ ls j).length:Int)).natAbs:Int)≤band)
def Zyx (a:List Feat) (ls:List (List Feat)) (band:Int) (j:Nat):Int:=cv Zgi a (at_ ls j) band (a.length-1) ((at_ ls j).length-1)
def ordN (a:List Feat) (ls:List (List Feat)) (band:Int):Nat→List Int
 |0=>[]
 |k+1=>if inL a ls band k=true then ordN a ls band k++[(k:Int)] else ordN a ls band k
theorem ord_y {a:List Feat} {ls:List (List Feat)} {band:Int} {k:Nat} (h:inL a ls band k=true):ordN a ls band (k+1)=ordN a ls band k++[(k:Int)]:=if_pos h
theorem ord_n {a:List Feat} {ls:List (List Feat)} {band:Int} {k:Nat} (h:¬ inL a ls band k=true):ordN a ls band (k+1)=ordN a ls band k:=if_neg h
theorem Yia (a:List Feat) (ls:List (List Feat)) (band:Int):∀k:Nat,(ordN a ls band k).length≤k
 |0=>Nat.le_refl _
 |k+1=>by
  have:=Yia a ls band k
  unfold ordN;split
  ·simp;omega
  ·omega
def Zls (a:List Feat) (ls:List (List Feat)) (band:Int) (k:Nat) (ix lst mt:Int):Prop:=
 (mt=0∧∀j:Nat,j<k→¬ inL a ls band j=true)∨(1≤mt∧mt≤((ordN a ls band k).length:Int)∧(0≤ix∧ix<(k:Int))∧inL a ls band ix.toNat=true∧lst=Zyx a ls band ix.toNat∧∀j:Nat,j<k→inL a ls band j=true→lst≤Zyx a ls band j∧((j:Int)<ix→lst<Zyx a ls band j))
theorem Zfg {a:List Feat} {ls:List (List Feat)} {band ix lst mt:Int} {k:Nat} (h:Zls a ls band k ix lst mt) (hs:inL a ls band k=true→1≤mt∧lst≤Zyx a ls band k):Zls a ls band (k+1) ix lst mt:=by
 rcases h with ⟨h1,h2⟩|⟨h1,h2,h3,h4,h5,h6⟩
 ·refine .inl ⟨h1,fun j hj=> ?_⟩
  by_cases e:j=k
  ·subst e;exact fun q=>by have:=hs q;omega
  ·exact h2 j om
 ·refine .inr ⟨h1,?_,⟨h3.1,by omega⟩,h4,h5,fun j hj hin=> ?_⟩
  ·by_cases g:inL a ls band k=true
   ·rw [ord_y g];simp;omega
   ·rw [ord_n g];exact h2
  ·by_cases e:j=k
   ·subst e;exact ⟨(hs hin).2,fun q=>by omega⟩
   ·exact h6 j om hin
theorem Zjo {a:List Feat} {ls:List (List Feat)} {band ix lst mt:Int} {k:Nat} (h:Zls a ls band k ix lst mt) (hin:inL a ls band k=true) (hl:mt=0∨Zyx a ls band k<lst):Zls a ls band (k+1) (k:Int) (Zyx a ls band k) (mt+1):=by
 refine .inr ⟨?_,?_,⟨by omega,by omega⟩,by rw [Int.toNat_natCast];exact hin,by rw [Int.toNat_natCast],fun j hj hj2=> ?_⟩
 ·rcases h with h|h<;>omega
 ·rw [ord_y hin];simp
  rcases h with h|h<;>omega
 ·by_cases e:j=k
  ·subst e;exact ⟨Int.le_refl _,fun q=>by omega⟩
  ·rcases h with ⟨h1,h2⟩|⟨h1,h2,h3,h4,h5,h6⟩
   ·exact absurd hj2 (h2 j om)
   ·have:=h6 j om hj2
    rcases hl with q|q
    ·omega
    ·exact ⟨by omega,fun _=>by omega⟩
theorem Zjp {a:List Feat} {ls:List (List Feat)} {band ix lst mt:Int} {k:Nat} (h:Zls a ls band k ix lst mt) (hin:inL a ls band k=true) (hm:mt≠0) (hl:¬ Zyx a ls band k<lst):Zls a ls band (k+1) ix lst (mt+1):=by
 rcases h with ⟨h1,h2⟩|⟨h1,h2,h3,h4,h5,h6⟩
 ·omega
 ·refine .inr ⟨by omega,by rw [ord_y hin];simp;omega,⟨h3.1,by omega⟩,h4,h5,fun j hj hj2=> ?_⟩
  by_cases e:j=k
  ·subst e;exact ⟨by omega,fun q=>by omega⟩
  ·exact h6 j om hj2
theorem Znu {a:List Feat} {ls:List (List Feat)} {band ix lst:Int} {k:Nat} (h:Zls a ls band k ix lst 0):Zls a ls band k 0 0 0:=by
 rcases h with h|h
 ·exact Or.inl ⟨rfl,h.2⟩
 ·exact absurd h.1 (by decide)
theorem nr_one {a:List Feat} {ls:List (List Feat)} {band i1 l1 m1 i2 l2 m2:Int} {k:Nat} (h1:Zls a ls band k i1 l1 m1) (h2:Zls a ls band k i2 l2 m2):(m1=0↔m2=0)∧(m1≠0→i1=i2∧l1=l2):=by
 rcases h1 with ⟨a1,a2⟩|⟨a1,a2,a3,a4,a5,a6⟩<;>rcases h2 with ⟨b1,b2⟩|⟨b1,b2,b3,b4,b5,b6⟩
 ·exact ⟨by omega,fun q=>absurd a1 q⟩
 ·exact absurd b4 (a2 _ om)
 ·exact absurd a4 (b2 _ om)
 ·refine ⟨by omega,fun _=> ?_⟩
  have p:=a6 i2.toNat om b4
  have q:=b6 i1.toNat om a4
  have e:i1=i2:=by omega
  subst e;exact ⟨rfl,by rw [a5,b5]⟩
theorem fl_last {a b:List Feat} {band:Int} {out:List Int} (h:Zsl a b band out (a.length*b.length)) (ha:1≤a.length) (hb:1≤b.length):at_ out (out.length-1)=cv Zgi a b band (a.length-1) (b.length-1)∧1≤out.length:=by
 have e:a.length*b.length=(a.length-1)*b.length+b.length:=by
  obtain ⟨n,hn⟩:∃n,a.length=n+1:=⟨a.length-1,by omega⟩
  rw [hn,Nat.add_sub_cancel,Nat.succ_mul]
 have q:=h.2 (a.length-1) (b.length-1) om om om
 have l:=h.1
 rw [←q]
 refine ⟨?_,by omega⟩
 congr 1;omega
def Zny (f:Nat→Int) (k:Nat):List Int:=(List.range k).map f
theorem Zhq (f:Nat→Int) (k:Nat):(Zny f k).length=k:=by simp [Zny]
theorem Zmy {f:Nat→Int} {k:Nat} {y:Int} (h:y=f k):Zny f k++[y]=Zny f (k+1):=by subst h;simp [Zny,List.range_succ]
theorem Yib {f:Nat→Int} {k i:Nat} (h:i<k):at_ (Zny f k) i=f i:=by rw [Zea (by rw [Zhq];exact h)];simp [Zny]
def envV (b:List Feat) (band:Int) (n:Nat):Envelope:=⟨Zny (loE Feat.X b band) n,Zny (hiE Feat.X b band) n,Zny (loE Feat.Y b band) n,Zny (hiE Feat.Y b band) n⟩
theorem Yic (g:Nat→Int) (p c:Nat):min (mnR g p (c-1)) (g (p+c))=mnR g p (c+1-1):=by
 cases c with
 |zero=>show min (g p) (g p)=g p;omega
 |succ c=>rfl
theorem Yid (g:Nat→Int) (p c:Nat):max (mxR g p (c-1)) (g (p+c))=mxR g p (c+1-1):=by
 cases c with
 |zero=>show max (g p) (g p)=g p;omega
 |succ c=>rfl
def Ycs (a:List Feat) (e:Envelope) (i:Nat):Int:=Zrl (at_ a i).X (at_ e.LowX i) (at_ e.HighX i)+Zrl (at_ a i).Y (at_ e.LowY i) (at_ e.HighY i)
def okEn (e:Envelope) (n:Nat):Prop:=(e.LowX.length=n∧e.HighX.length=n∧e.LowY.length=n∧e.HighY.length=n)∧∀i:Nat,i<n→(0≤at_ e.LowX i∧at_ e.LowX i≤255)∧(0≤at_ e.HighX i∧at_ e.HighX i≤255)∧(0≤at_ e.LowY i∧at_ e.LowY i≤255)∧0≤at_ e.HighY i∧at_ e.HighY i≤255
theorem fX:∀f:Feat,okF f=true→0≤f.X∧f.X≤255:=fun f h=>by have:=Zfn.1 h;omega
theorem fY:∀f:Feat,okF f=true→0≤f.Y∧f.Y≤255:=fun f h=>by have:=Zfn.1 h;omega
theorem envV_ok {b:List Feat} {band:Int} {n:Nat} (hb:Zbf b 72=true) (h:Zlb band n b.length):okEn (envV b band n) n:=by
 refine ⟨⟨Zhq _ _,Zhq _ _,Zhq _ _,Zhq _ _⟩,fun i hi=> ?_⟩
 have x:=loE_bd hb fX h hi
 have y:=loE_bd hb fY h hi
 unfold envV
 simp only [Yib hi]
 exact ⟨x.1,x.2,y.1,y.2⟩
theorem sumN_eq {n:Nat} {f g:Nat→Int} (h:∀i,i<n→f i=g i):Zyg n f=Zyg n g:=by
 induction n with
 |zero=>rfl
 |succ n ih=>simp only [Zyg];rw [ih fun i hi=>h i om,h n om]
theorem out_env (a b:List Feat) (band:Int):Zyg a.length (Ycs a (envV b band a.length))=outI a b band:=sumN_eq fun i hi=>by
 unfold Ycs envV outK
 simp only [Yib hi]
theorem off_bd {a:List Feat} {e:Envelope} {n:Nat} (ha:Zbf a 72=true) (hn:n=a.length) (he:okEn e n) {i:Nat} (hi:i<n):0≤Ycs a e i∧Ycs a e i≤510:=by
 have f:=Zfn.1 (Zdk ha (by omega:i<a.length))
 have q:=he.2 i hi
 unfold Ycs Zrl;omega
theorem Zvw (a:List Feat) (lists:List (List Feat)) (band:Int) (oka:Zbf a 72=true) (hls:lists.length≤18∧∀l∈lists,Zbf l 72=true) (hbd:0≤band∧band≤72):Con Tryz.prog 30 [Zag false a,Zbu false lists,I band] true (I 0):=by
  refine Zcm (fn:=Tryz.f30) (nt:=30) Tryz.func30 rfl rfl rfl rfl (by simp [Zaf,Zai,Zdx,Zmv]) fun B hB=> ?_
  refine Zck (x:=Zag false a) 0 rfl (fun len_a=> ?_)
  simp [Zei,Zhv,Zjs,Zej,Zag] at len_a
  refine Zck (x:=Zbu false lists) 1 rfl (fun len_lists=> ?_)
  simp [Zei,Zhv,Zjs,Zlu,Zej,Zes,Zag,Zbu] at len_lists
  refine aQ [] [0,1,2] [] [] hB trivial (Zah ?_)
  refine aQ [(1,.call [(true,.any)] true (Bv true)),(6,.dec false)] [1,2,16] [] [Con Tryz.prog 69 [Zag false a] true (Bv true)∧True,¬ (40<(lists.length:Int))] hB ⟨⟨(Zau oka (Zrj a)),trivial⟩,om,trivial⟩ (Zbo (Zar (Zac (Zah ?_))))
  refine aR [] [2,17,18,19] [] [I band,Zbu false lists,I (lists.length:Int),I 0] [] [] hB trivial (Zbg ?_)
  refine Zdm (fun gn gσ=>∃(t19:Int),gn=((lists.length:Int)-t19).toNat∧(0≤t19∧t19≤(lists.length:Int))∧gσ=mkS [(2,I band),(17,Zbu false lists),(18,I (lists.length:Int)),(19,I t19)] []) (((lists.length:Int)-0).toNat) ⟨0,rfl,om,rfl⟩ (fun gn gσ hI=> ?_)
  obtain ⟨t19,rfl,hi0,rfl⟩:=hI
  refine Zah ?_
  by_cases h1:t19<(lists.length:Int)
  ·have hi:t19.toNat<lists.length:=by omega
   refine Zbn [(0,.dec true)] [2,17,18,19,20] [] [_] hB ⟨h1,trivial⟩ (Zac (Zah (Zbr (Zar (Zac (Zah (Zbg ?_)))))))
   refine aQ [] [2,8,17,18,19] [] [(0:Int)≤t19∧t19<(lists.length:Int)] hB ⟨⟨om,om⟩,trivial⟩ ?_
   refine aQ [(1,.call [(true,.any)] true (Bv true))] [2,17,18,19,25] [] [Con Tryz.prog 69 [Zag false (at_ lists t19.toNat)] true (Bv true)∧True] hB ⟨⟨(Zau (hls.2 _ (Zca hi)) (Zrj (at_ lists t19.toNat))),trivial⟩,trivial⟩ (Zbo (Zar (Zbq 1 (Zac ?_))))
   refine Zeo [] [2,17,18,19] [] [I band,Zbu false lists,I (lists.length:Int),I (t19+1)] [] [inR .i64 (t19+1)] hB ⟨(Zad om om),trivial⟩ ?_
   exact Zbs _ om ⟨(t19+1),rfl,om,rfl⟩
  refine Zbn [(0,.dec false)] [2,17,18,19,20] [] [_] hB ⟨h1,trivial⟩ (Zac (Zah (Zbo (Zcy (Zam (Zam (Zbi (Zac (Zah ?_)))))))))
  refine aQ [(1,.call [(true,.any),(true,.any),(true,.any)] true (Bv true))] [29] [] [Con Tryz.prog 56 [I band,I 0,I 72] true (Bv true)∧True] hB ⟨⟨(Zau (Ziw.2 hbd) (Zee band 0 72)),trivial⟩,trivial⟩ (Zbo (Zar (Zac ?_)))
  refine aR [] [6] [] [I 0] [] [] hB trivial (Zan ?_)
  refine Zao hB (I 0) (by kernel_rfl) (.inl rfl) rfl (fun _=>trivial)
theorem Zkh (n:Int) (hn:-9223372036854775807≤n∧n≤9223372036854775807):Con Tryz.prog 70 [I n] true (I (n.natAbs:Int)):=by
  refine Zcm (fn:=Tryz.f70) (nt:=8) Tryz.func70 rfl rfl rfl rfl (by simp [Zaf,Zai]) fun B hB=> ?_
  refine aQ [] [0] [] [] hB trivial (Zah (Zah ?_))
  by_cases h1:n<0
  ·refine Zbn [(1,.dec true)] [0,4] [] [_] hB ⟨h1,trivial⟩ (Zac (Zbr ?_))
   refine aR [] [2] [] [I (-n)] [] [inR .i64 (-n)] hB ⟨(Zad om om),trivial⟩ (Zan (Zaj ?_))
   refine Zao hB (I (-n)) (by kernel_rfl) (.inl (by refine congrArg I ?_;omega)) rfl (fun _=>trivial)
  refine Zbn [(1,.dec false)] [0,4] [] [_] hB ⟨h1,trivial⟩ (Zac (Zbo (Zar (Zac ?_))))
  refine aR [] [2] [] [I n] [] [] hB trivial (Zan ?_)
  refine Zao hB (I n) (by kernel_rfl) (.inl (by refine congrArg I ?_;omega)) rfl (fun _=>trivial)
theorem Zmz (band:Int) (n:Int) (m:Int) (hn:0≤n∧n≤4611686018427387904) (hm:0≤m∧m≤4611686018427387904):Con Tryz.prog 31 [I band,I n,I m] true (Bv (inB band 0 72&&decide (((n-m).natAbs:Int)≤band))):=by
  refine Zcm (fn:=Tryz.f31) (nt:=17) Tryz.func31 rfl rfl rfl rfl (by simp [Zaf,Zai]) fun B hB=> ?_
  refine aQ [] [0,1,2] [] [] hB trivial (Zah ?_)
  rcases Bool.eq_false_or_eq_true (inB band 0 72) with h1|h1
  ·refine Zeo [(1,.call [(true,.any),(true,.any),(true,.any)] true (Bv true)),(6,.call [(true,.any)] true (I ((n-m).natAbs:Int)))] [6] [] [Bv (decide (((n-m).natAbs:Int)≤band))] [] [Con Tryz.prog 56 [I band,I 0,I 72] true (Bv true)∧True,inR .i64 (n-m),_∧True] hB ⟨⟨(Zau h1 (Zee band 0 72)),trivial⟩,(Zad om om),⟨(Zkh (n-m) om),trivial⟩,trivial⟩ (Zac (Zan ?_))
   refine Zao hB (Bv (decide (((n-m).natAbs:Int)≤band))) (by kernel_rfl) (.inl (by refine congrArg Bv ?_;first|(simp [*];done)|(simp [inB] at*;omega))) rfl (fun _=>trivial)
  refine Zeo [(1,.call [(true,.any),(true,.any),(true,.any)] true (Bv false))] [6] [] [Bv false] [] [Con Tryz.prog 56 [I band,I 0,I 72] true (Bv false)∧True] hB ⟨⟨(Zau h1 (Zee band 0 72)),trivial⟩,trivial⟩ (Zac (Zan ?_))
  refine Zao hB (Bv false) (by kernel_rfl) (.inl (by refine congrArg Bv ?_;first|(simp [*];done)|(simp [inB] at*;omega))) rfl (fun _=>trivial)
set_option maxHeartbeats 4000000 in
theorem Zvx (b:List Feat) (n:Int) (band:Int) (okb:Zbf b 72=true) (hn:1≤n∧n≤72) (hbd:0≤band∧band≤72) (hin:Zlb band n.toNat b.length):∃(v:Envelope),(v=envV b band n.toNat)∧Con Tryz.prog 72 [Zag false b,I n,I band] true (Zju v):=by
  have hbn:=Zdr okb
  have hin2:=hin
  unfold Zlb at hin2
  have hh:∃r:Envelope,((r=envV b band n.toNat)∧(True))∧Zaw Tryz.prog 72 [Zag false b,I n,I band] (Zae []) true (Zju r) (Zae []):=by
    refine Zcv (Φ:=fun r:Envelope=>(r=envV b band n.toNat)∧(True)) [] (fun r=>[]) (fn:=Tryz.f72) (nt:=102) Tryz.func72 rfl rfl (args:=[Zag false b,I n,I band]) rfl (Zbc (.inl ⟨rfl,Zdx false _⟩) (Zbc (.inl ⟨rfl,trivial⟩) (Zbc (.inl ⟨rfl,trivial⟩) Zcw))) (res:=fun r=>Zju r) ?_
    refine xQ [(0,.new 6)] [0,1,2,6] [6] [] trivial ?_
    refine xQ [(0,.new 7)] [0,1,2,6,7] [6,7] [] trivial (Zak ?_)
    refine xR [] [0,2,6,7,15,16] [6,7] [Zag false b,I band,.ref 6 0,.ref 7 0,I n,I 0] [some (.box [Zcj,Zcj,Zcj,Zcj]),some (.box [Zcj,Zcj,Zcj,Zcj])] [] trivial (Zbb ?_)
    refine Zka 7 0 770 1 (fun _=>[]) rfl (by kernel_rfl) ?_
    refine Zka 7 1 771 1 (fun _=>[]) rfl (by kernel_rfl) ?_
    refine Zka 7 2 772 1 (fun _=>[]) rfl (by kernel_rfl) ?_
    refine Zka 7 3 773 1 (fun _=>[]) rfl (by kernel_rfl) ?_
    refine Zdh [] (T:=[(0,Zag false b),(2,I band),(6,.ref 6 0),(7,.ref 7 0),(15,I n),(16,I 0)]) (O:=[(6,.box [Zcj,Zcj,Zcj,Zcj]),(7,.box [.arr 770,.arr 771,.arr 772,.arr 773]),(770,tAI ([]:List Int)),(771,tAI ([]:List Int)),(772,tAI ([]:List Int)),(773,tAI ([]:List Int))]) rfl (⟨.inl rfl,.inl rfl,.inl rfl,.inl rfl,.inl rfl,.inl rfl,trivial⟩) (⟨.inl rfl,.inl rfl,.inr ⟨rfl,(by first|rfl|(simp;done)|(simp;omega)|omega),fun i_ hi_=>absurd hi_ (Nat.not_lt_zero _)⟩,.inr ⟨rfl,(by first|rfl|(simp;done)|(simp;omega)|omega),fun i_ hi_=>absurd hi_ (Nat.not_lt_zero _)⟩,.inr ⟨rfl,(by first|rfl|(simp;done)|(simp;omega)|omega),fun i_ hi_=>absurd hi_ (Nat.not_lt_zero _)⟩,.inr ⟨rfl,(by first|rfl|(simp;done)|(simp;omega)|omega),fun i_ hi_=>absurd hi_ (Nat.not_lt_zero _)⟩,trivial⟩) ?_
    refine Zdc (X:=Int×(List Int)×(List Int)×(List Int)×(List Int)) (fun x=>mkS [(0,Zag false b),(2,I band),(6,.ref 6 0),(7,.ref 7 0),(15,I n),(16,I x.1)] [(6,.box [Zcj,Zcj,Zcj,Zcj]),(7,.box [.arr 770,.arr 771,.arr 772,.arr 773]),(770,tAI x.2.1),(771,tAI x.2.2.1),(772,tAI x.2.2.2.1),(773,tAI x.2.2.2.2)]) (fun x=>(0≤x.1∧x.1≤n)∧(x.2.1=Zny (loE Feat.X b band) x.1.toNat)∧(x.2.2.1=Zny (hiE Feat.X b band) x.1.toNat)∧(x.2.2.2.1=Zny (loE Feat.Y b band) x.1.toNat)∧(x.2.2.2.2=Zny (hiE Feat.Y b band) x.1.toNat)∧True) (fun x=>(n-x.1).toNat) (0,([]:List Int),([]:List Int),([]:List Int),([]:List Int)) rfl (show (0≤(0:Int)∧(0:Int)≤n)∧(([]:List Int)=Zny (loE Feat.X b band) (0:Int).toNat)∧(([]:List Int)=Zny (hiE Feat.X b band) (0:Int).toNat)∧(([]:List Int)=Zny (loE Feat.Y b band) (0:Int).toNat)∧(([]:List Int)=Zny (hiE Feat.Y b band) (0:Int).toNat)∧True from ⟨om,(by rfl),(by rfl),(by rfl),(by rfl),trivial⟩) (fun x hI=> ?_)
    obtain ⟨t16,lx,hx,ly,hy⟩:=x
    obtain ⟨hi0,hlx,hhx,hly,hhy,_⟩:(0≤t16∧t16≤n)∧(lx=Zny (loE Feat.X b band) t16.toNat)∧(hx=Zny (hiE Feat.X b band) t16.toNat)∧(ly=Zny (loE Feat.Y b band) t16.toNat)∧(hy=Zny (hiE Feat.Y b band) t16.toNat)∧True:=hI
    show XW _ _ _ _ (mkS [(0,Zag false b),(2,I band),(6,.ref 6 0),(7,.ref 7 0),(15,I n),(16,I t16)] [(6,.box [Zcj,Zcj,Zcj,Zcj]),(7,.box [.arr 770,.arr 771,.arr 772,.arr 773]),(770,tAI lx),(771,tAI hx),(772,tAI ly),(773,tAI hy)]) _ _
    refine Zak ?_
    by_cases h1:t16<n
    ·have hix:((t16.toNat:Nat):Int)=t16:=by omega
     have hnx:(t16+1).toNat=t16.toNat+1:=by omega
     have hfr:(max 0 (t16-band)).toNat=Zgg band t16.toNat:=by unfold Zgg;omega
     have hlx1:lx.length=t16.toNat∧hx.length=t16.toNat∧ly.length=t16.toNat∧hy.length=t16.toNat:=by rw [hlx,hhx,hly,hhy];exact ⟨Zhq _ _,Zhq _ _,Zhq _ _,Zhq _ _⟩
     refine x_q [(0,.dec true)] [0,2,6,7,15,16,17] [6,7,770,771,772,773] [_] ⟨h1,trivial⟩ (Zab (Zak (Zeh (Zbd (Zab (Zak (Zbb ?_)))))))
     refine xQ [] [0,2,6,7,8,15,16] [6,7,770,771,772,773] [] trivial ?_
     refine xQ [] [0,2,6,7,9,10,15,16] [6,7,770,771,772,773] [inR .i64 (t16-band),inR .i64 (t16+band),inR .i64 ((t16+band)+1)] ⟨(Zad om om),(Zad om om),(Zad om om),trivial⟩ ?_
     refine xQ [(8,.new 11),(9,.new 12)] [0,2,6,7,9,10,11,12,15,16] [6,7,11,12,770,771,772,773] [(0:Int)≤(max 0 (t16-band))∧(max 0 (t16-band))<(b.length:Int),(0:Int)≤(max 0 (t16-band))∧(max 0 (t16-band))<(b.length:Int)] ⟨⟨om,om⟩,⟨om,om⟩,trivial⟩ (Zak ?_)
     refine xR [] [0,2,6,7,11,12,15,16,41,42,43] [6,7,11,12,770,771,772,773] [Zag false b,I band,.ref 6 0,.ref 7 0,.ref 11 0,.ref 12 0,I n,I t16,.sl false 3 ((min (b.length:Int) ((t16+band)+1)).toNat-(max 0 (t16-band)).toNat) (Zpy ((max 0 (t16-band)).toNat) (Zej b)),I (((min (b.length:Int) ((t16+band)+1)).toNat-(max 0 (t16-band)).toNat:Nat):Int),I 0] [some (.box [Zcj,Zcj,Zcj,Zcj]),some (.box [.arr 770,.arr 771,.arr 772,.arr 773]),some (Zoq (at_ b ((max 0 (t16-band)).toNat))),some (Zoq (at_ b ((max 0 (t16-band)).toNat))),some (tAI lx),some (tAI hx),some (tAI ly),some (tAI hy)] [(0:Int)≤(max 0 (t16-band))∧(max 0 (t16-band))≤(min (b.length:Int) ((t16+band)+1))∧(min (b.length:Int) ((t16+band)+1))≤(b.length:Int)] ⟨⟨om,om,om⟩,trivial⟩ (Zbb ?_)
     refine Zdc (X:=Int×Feat×Feat) (fun x=>mkS [(0,Zag false b),(2,I band),(6,.ref 6 0),(7,.ref 7 0),(11,.ref 11 0),(12,.ref 12 0),(15,I n),(16,I t16),(41,.sl false 3 ((min (b.length:Int) ((t16+band)+1)).toNat-(max 0 (t16-band)).toNat) (Zpy ((max 0 (t16-band)).toNat) (Zej b))),(42,I (((min (b.length:Int) ((t16+band)+1)).toNat-(max 0 (t16-band)).toNat:Nat):Int)),(43,I x.1)] [(6,.box [Zcj,Zcj,Zcj,Zcj]),(7,.box [.arr 770,.arr 771,.arr 772,.arr 773]),(11,Zoq x.2.2),(12,Zoq x.2.1),(770,tAI lx),(771,tAI hx),(772,tAI ly),(773,tAI hy)]) (fun x=>(0≤x.1∧x.1≤(((min (b.length:Int) ((t16+band)+1)).toNat-(max 0 (t16-band)).toNat:Nat):Int))∧(x.2.2.X=mnR (fun j=>(at_ b j).X) (Zgg band t16.toNat) (x.1.toNat-1)∧x.2.2.Y=mnR (fun j=>(at_ b j).Y) (Zgg band t16.toNat) (x.1.toNat-1))∧(x.2.1.X=mxR (fun j=>(at_ b j).X) (Zgg band t16.toNat) (x.1.toNat-1)∧x.2.1.Y=mxR (fun j=>(at_ b j).Y) (Zgg band t16.toNat) (x.1.toNat-1))∧True) (fun x=>(((min (b.length:Int) ((t16+band)+1)).toNat-(max 0 (t16-band)).toNat:Nat)-x.1.toNat)) (0,(at_ b ((max 0 (t16-band)).toNat)),(at_ b ((max 0 (t16-band)).toNat))) rfl (show (0≤(0:Int)∧(0:Int)≤(((min (b.length:Int) ((t16+band)+1)).toNat-(max 0 (t16-band)).toNat:Nat):Int))∧((at_ b ((max 0 (t16-band)).toNat)).X=mnR (fun j=>(at_ b j).X) (Zgg band t16.toNat) ((0:Int).toNat-1)∧(at_ b ((max 0 (t16-band)).toNat)).Y=mnR (fun j=>(at_ b j).Y) (Zgg band t16.toNat) ((0:Int).toNat-1))∧((at_ b ((max 0 (t16-band)).toNat)).X=mxR (fun j=>(at_ b j).X) (Zgg band t16.toNat) ((0:Int).toNat-1)∧(at_ b ((max 0 (t16-band)).toNat)).Y=mxR (fun j=>(at_ b j).Y) (Zgg band t16.toNat) ((0:Int).toNat-1))∧True from ⟨om,(by (rw [hfr];exact ⟨rfl,rfl⟩)),(by (rw [hfr];exact ⟨rfl,rfl⟩)),trivial⟩) (fun x hI=> ?_)
     obtain ⟨t43,high,low⟩:=x
     obtain ⟨hj0,hlo,hhi,_⟩:(0≤t43∧t43≤(((min (b.length:Int) ((t16+band)+1)).toNat-(max 0 (t16-band)).toNat:Nat):Int))∧(low.X=mnR (fun j=>(at_ b j).X) (Zgg band t16.toNat) (t43.toNat-1)∧low.Y=mnR (fun j=>(at_ b j).Y) (Zgg band t16.toNat) (t43.toNat-1))∧(high.X=mxR (fun j=>(at_ b j).X) (Zgg band t16.toNat) (t43.toNat-1)∧high.Y=mxR (fun j=>(at_ b j).Y) (Zgg band t16.toNat) (t43.toNat-1))∧True:=hI
     show XW _ _ _ _ (mkS [(0,Zag false b),(2,I band),(6,.ref 6 0),(7,.ref 7 0),(11,.ref 11 0),(12,.ref 12 0),(15,I n),(16,I t16),(41,.sl false 3 ((min (b.length:Int) ((t16+band)+1)).toNat-(max 0 (t16-band)).toNat) (Zpy ((max 0 (t16-band)).toNat) (Zej b))),(42,I (((min (b.length:Int) ((t16+band)+1)).toNat-(max 0 (t16-band)).toNat:Nat):Int)),(43,I t43)] [(6,.box [Zcj,Zcj,Zcj,Zcj]),(7,.box [.arr 770,.arr 771,.arr 772,.arr 773]),(11,Zoq low),(12,Zoq high),(770,tAI lx),(771,tAI hx),(772,tAI ly),(773,tAI hy)]) _ _
     refine Zak ?_
     by_cases h2:t43<(((min (b.length:Int) ((t16+band)+1)).toNat-(max 0 (t16-band)).toNat:Nat):Int)
     ·have hnc:(t43+1).toNat=t43.toNat+1:=by omega
      refine x_q [(0,.dec true)] [0,2,6,7,11,12,15,16,41,42,43,44] [6,7,11,12,770,771,772,773] [_] ⟨h2,trivial⟩ (Zab (Zak (Zeh (Zbd (Zab (Zak (Zbb ?_)))))))
      refine xQ [(2,.new 14)] [0,2,6,7,11,12,14,15,16,41,42,43] [6,7,11,12,14,770,771,772,773] [(0:Int)≤t43∧t43<(((min (b.length:Int) ((t16+band)+1)).toNat-(max 0 (t16-band)).toNat:Nat):Int)] ⟨⟨om,om⟩,trivial⟩ ?_
      refine xQ [] [0,2,6,7,11,12,14,15,16,41,42,43] [6,7,11,12,14,770,771,772,773] [] trivial ?_
      refine x_q [] [0,2,6,7,11,12,15,16,41,42,43] [6,7,11,12,770,771,772,773] [] trivial (Zba 3 (Zab ?_))
      refine x_r [] [0,2,6,7,11,12,15,16,41,42,43] [6,7,11,12,770,771,772,773] [Zag false b,I band,.ref 6 0,.ref 7 0,.ref 11 0,.ref 12 0,I n,I t16,.sl false 3 ((min (b.length:Int) ((t16+band)+1)).toNat-(max 0 (t16-band)).toNat) (Zpy ((max 0 (t16-band)).toNat) (Zej b)),I (((min (b.length:Int) ((t16+band)+1)).toNat-(max 0 (t16-band)).toNat:Nat):Int),I (t43+1)] [some (.box [Zcj,Zcj,Zcj,Zcj]),some (.box [.arr 770,.arr 771,.arr 772,.arr 773]),some (.box [I (min low.X ((at_ b ((max 0 (t16-band)).toNat+t43.toNat)).X)),I (min low.Y ((at_ b ((max 0 (t16-band)).toNat+t43.toNat)).Y)),I low.D]),some (.box [I (max high.X ((at_ b ((max 0 (t16-band)).toNat+t43.toNat)).X)),I (max high.Y ((at_ b ((max 0 (t16-band)).toNat+t43.toNat)).Y)),I high.D]),some (tAI lx),some (tAI hx),some (tAI ly),some (tAI hy)] [inR .i64 (t43+1)] ⟨(Zad om om),trivial⟩ ?_
      refine Zcf [] (T:=[(0,Zag false b),(2,I band),(6,.ref 6 0),(7,.ref 7 0),(11,.ref 11 0),(12,.ref 12 0),(15,I n),(16,I t16),(41,.sl false 3 ((min (b.length:Int) ((t16+band)+1)).toNat-(max 0 (t16-band)).toNat) (Zpy ((max 0 (t16-band)).toNat) (Zej b))),(42,I (((min (b.length:Int) ((t16+band)+1)).toNat-(max 0 (t16-band)).toNat:Nat):Int)),(43,I (t43+1))]) (O:=[(6,.box [Zcj,Zcj,Zcj,Zcj]),(7,.box [.arr 770,.arr 771,.arr 772,.arr 773]),(11,.box [I ((Feat.mk (min low.X ((at_ b ((max 0 (t16-band)).toNat+t43.toNat)).X)) (min low.Y ((at_ b ((max 0 (t16-band)).toNat+t43.toNat)).Y)) low.D).X),I ((Feat.mk (min low.X ((at_ b ((max 0 (t16-band)).toNat+t43.toNat)).X)) (min low.Y ((at_ b ((max 0 (t16-band)).toNat+t43.toNat)).Y)) low.D).Y),I ((Feat.mk (min low.X ((at_ b ((max 0 (t16-band)).toNat+t43.toNat)).X)) (min low.Y ((at_ b ((max 0 (t16-band)).toNat+t43.toNat)).Y)) low.D).D)]),(12,.box [I ((Feat.mk (max high.X ((at_ b ((max 0 (t16-band)).toNat+t43.toNat)).X)) (max high.Y ((at_ b ((max 0 (t16-band)).toNat+t43.toNat)).Y)) high.D).X),I ((Feat.mk (max high.X ((at_ b ((max 0 (t16-band)).toNat+t43.toNat)).X)) (max high.Y ((at_ b ((max 0 (t16-band)).toNat+t43.toNat)).Y)) high.D).Y),I ((Feat.mk (max high.X ((at_ b ((max 0 (t16-band)).toNat+t43.toNat)).X)) (max high.Y ((at_ b ((max 0 (t16-band)).toNat+t43.toNat)).Y)) high.D).D)]),(770,tAI lx),(771,tAI hx),(772,tAI ly),(773,tAI hy)]) rfl (⟨.inl rfl,.inl rfl,.inl rfl,.inl rfl,.inl rfl,.inl rfl,.inl rfl,.inl rfl,.inl rfl,.inl rfl,.inl rfl,trivial⟩) (⟨.inl rfl,.inl rfl,.inr ⟨(by first|rfl|(simp [Zcn];done)|(simp [Zcn];omega)),⟨(by first|rfl|(simp [Zcn];done)|(simp [Zcn];omega)),⟨(by first|rfl|(simp [Zcn];done)|(simp [Zcn];omega)),rfl⟩⟩⟩,.inr ⟨(by first|rfl|(simp [Zcn];done)|(simp [Zcn];omega)),⟨(by first|rfl|(simp [Zcn];done)|(simp [Zcn];omega)),⟨(by first|rfl|(simp [Zcn];done)|(simp [Zcn];omega)),rfl⟩⟩⟩,.inl rfl,.inl rfl,.inl rfl,.inl rfl,trivial⟩) (Zay ((t43+1),(Feat.mk (max high.X ((at_ b ((max 0 (t16-band)).toNat+t43.toNat)).X)) (max high.Y ((at_ b ((max 0 (t16-band)).toNat+t43.toNat)).Y)) high.D),(Feat.mk (min low.X ((at_ b ((max 0 (t16-band)).toNat+t43.toNat)).X)) (min low.Y ((at_ b ((max 0 (t16-band)).toNat+t43.toNat)).Y)) low.D)) rfl (show (0≤(t43+1)∧(t43+1)≤(((min (b.length:Int) ((t16+band)+1)).toNat-(max 0 (t16-band)).toNat:Nat):Int))∧((Feat.mk (min low.X ((at_ b ((max 0 (t16-band)).toNat+t43.toNat)).X)) (min low.Y ((at_ b ((max 0 (t16-band)).toNat+t43.toNat)).Y)) low.D).X=mnR (fun j=>(at_ b j).X) (Zgg band t16.toNat) ((t43+1).toNat-1)∧(Feat.mk (min low.X ((at_ b ((max 0 (t16-band)).toNat+t43.toNat)).X)) (min low.Y ((at_ b ((max 0 (t16-band)).toNat+t43.toNat)).Y)) low.D).Y=mnR (fun j=>(at_ b j).Y) (Zgg band t16.toNat) ((t43+1).toNat-1))∧((Feat.mk (max high.X ((at_ b ((max 0 (t16-band)).toNat+t43.toNat)).X)) (max high.Y ((at_ b ((max 0 (t16-band)).toNat+t43.toNat)).Y)) high.D).X=mxR (fun j=>(at_ b j).X) (Zgg band t16.toNat) ((t43+1).toNat-1)∧(Feat.mk (max high.X ((at_ b ((max 0 (t16-band)).toNat+t43.toNat)).X)) (max high.Y ((at_ b ((max 0 (t16-band)).toNat+t43.toNat)).Y)) high.D).Y=mxR (fun j=>(at_ b j).Y) (Zgg band t16.toNat) ((t43+1).toNat-1))∧True from ⟨om,(by (rw [hnc,hfr];dsimp only;rw [hlo.1,hlo.2];exact ⟨Yic (fun j=>(at_ b j).X) _ _,Yic (fun j=>(at_ b j).Y) _ _⟩)),(by (rw [hnc,hfr];dsimp only;rw [hhi.1,hhi.2];exact ⟨Yid (fun j=>(at_ b j).X) _ _,Yid (fun j=>(at_ b j).Y) _ _⟩)),trivial⟩) (by first|(show ((((min (b.length:Int) ((t16+band)+1)).toNat-(max 0 (t16-band)).toNat:Nat)-(t43+1).toNat):Nat)<(((min (b.length:Int) ((t16+band)+1)).toNat-(max 0 (t16-band)).toNat:Nat)-t43.toNat);omega)|(dsimp only;omega)))
     have hce:t43.toNat-1=Yey b.length band t16.toNat:=by unfold Yey;omega
     rw [hce] at hlo hhi
     refine x_r [(0,.dec false)] [0,2,6,7,11,12,15,16,41,42,43,44] [6,7,11,12,770,771,772,773] [Zag false b,I band,.ref 6 0,.ref 7 0,.ref 11 0,.ref 12 0,I n,I t16,.sl false 3 ((min (b.length:Int) ((t16+band)+1)).toNat-(max 0 (t16-band)).toNat) (Zpy ((max 0 (t16-band)).toNat) (Zej b)),I (((min (b.length:Int) ((t16+band)+1)).toNat-(max 0 (t16-band)).toNat:Nat):Int),I t43,Bv false] [some (.box [Zcj,Zcj,Zcj,Zcj]),some (.box [.arr 770,.arr 771,.arr 772,.arr 773]),some (Zoq low),some (Zoq high),some (tAI lx),some (tAI hx),some (tAI ly),some (tAI hy)] [_] ⟨h2,trivial⟩ (Zab (Zak (Zbt rfl (Zcp (Zas ?_)))))
     refine Zax ?_
     refine Zat (Zab ?_)
     refine xQ [(4,.new 76),(5,.new 77),(10,.new 82),(11,.new 83)] [0,2,6,7,11,12,15,16] [6,7,11,12,77,83,772,773] [(lx.length+1)*8≤140737488355328,(hx.length+1)*8≤140737488355328] ⟨om,om,trivial⟩ ?_
     refine x_q [(4,.new 90),(5,.new 91),(10,.new 96),(11,.new 97)] [0,2,6,7,15,16] [6,7,77,83,91,97] [(ly.length+1)*8≤140737488355328,(hy.length+1)*8≤140737488355328] ⟨om,om,trivial⟩ (Zba 1 (Zab ?_))
     refine x_r [] [0,2,6,7,15,16] [6,7,77,83,91,97] [Zag false b,I band,.ref 6 0,.ref 7 0,I n,I (t16+1)] [some (.box [Zcj,Zcj,Zcj,Zcj]),some (.box [.arr 77,.arr 83,.arr 91,.arr 97]),some (.arr 1 (lx.length+1) (Zhc lx.length (fI lx) (Zhu [I low.X] 1))),some (.arr 1 (hx.length+1) (Zhc hx.length (fI hx) (Zhu [I high.X] 1))),some (.arr 1 (ly.length+1) (Zhc ly.length (fI ly) (Zhu [I low.Y] 1))),some (.arr 1 (hy.length+1) (Zhc hy.length (fI hy) (Zhu [I high.Y] 1)))] [inR .i64 (t16+1)] ⟨(Zad om om),trivial⟩ ?_
     refine Zcf [(770,77),(771,83),(772,91),(773,97)] (T:=[(0,Zag false b),(2,I band),(6,.ref 6 0),(7,.ref 7 0),(15,I n),(16,I (t16+1))]) (O:=[(6,.box [Zcj,Zcj,Zcj,Zcj]),(7,.box [.arr 770,.arr 771,.arr 772,.arr 773]),(770,tAI (lx++[low.X])),(771,tAI (hx++[high.X])),(772,tAI (ly++[low.Y])),(773,tAI (hy++[high.Y]))]) rfl (⟨.inl rfl,.inl rfl,.inl rfl,.inl rfl,.inl rfl,.inl rfl,trivial⟩) (⟨.inl rfl,.inl rfl,.inr ⟨rfl,(by first|rfl|(simp;done)|(simp;omega)|omega),fun i_ hi_=> .inl (Zec (enc:=cI) (xs:=lx) rfl i_ hi_)⟩,.inr ⟨rfl,(by first|rfl|(simp;done)|(simp;omega)|omega),fun i_ hi_=> .inl (Zec (enc:=cI) (xs:=hx) rfl i_ hi_)⟩,.inr ⟨rfl,(by first|rfl|(simp;done)|(simp;omega)|omega),fun i_ hi_=> .inl (Zec (enc:=cI) (xs:=ly) rfl i_ hi_)⟩,.inr ⟨rfl,(by first|rfl|(simp;done)|(simp;omega)|omega),fun i_ hi_=> .inl (Zec (enc:=cI) (xs:=hy) rfl i_ hi_)⟩,trivial⟩) (Zay ((t16+1),(lx++[low.X]),(hx++[high.X]),(ly++[low.Y]),(hy++[high.Y])) rfl (show (0≤(t16+1)∧(t16+1)≤n)∧((lx++[low.X])=Zny (loE Feat.X b band) (t16+1).toNat)∧((hx++[high.X])=Zny (hiE Feat.X b band) (t16+1).toNat)∧((ly++[low.Y])=Zny (loE Feat.Y b band) (t16+1).toNat)∧((hy++[high.Y])=Zny (hiE Feat.Y b band) (t16+1).toNat)∧True from ⟨om,(by (rw [hnx,hlx];exact Zmy hlo.1)),(by (rw [hnx,hhx];exact Zmy hhi.1)),(by (rw [hnx,hly];exact Zmy hlo.2)),(by (rw [hnx,hhy];exact Zmy hhi.2)),trivial⟩) (by first|(show ((n-(t16+1)).toNat:Nat)<(n-t16).toNat;omega)|(dsimp only;omega)))
    have hie:t16.toNat=n.toNat:=by omega
    refine x_r [(0,.dec false)] [0,2,6,7,15,16,17] [6,7,770,771,772,773] [Zag false b,I band,.ref 6 0,.ref 7 0,I n,I t16,Bv false] [some (.box [Zcj,Zcj,Zcj,Zcj]),some (.box [.arr 770,.arr 771,.arr 772,.arr 773]),some (tAI lx),some (tAI hx),some (tAI ly),some (tAI hy)] [_] ⟨h1,trivial⟩ (Zab (Zak (Zbt rfl (Zcp (Zas ?_)))))
    refine Zax ?_
    refine Zat (Zab ?_)
    refine xR [] [6] [6,770,771,772,773] [.ref 6 0] [some (.box [.arr 770,.arr 771,.arr 772,.arr 773]),some (tAI lx),some (tAI hx),some (tAI ly),some (tAI hy)] [] trivial (Zdd ?_)
    refine Zbw (Envelope.mk lx hx ly hy) (show ((Envelope.mk lx hx ly hy)=envV b band n.toNat)∧(True) from ⟨(by (unfold envV;rw [hlx,hhx,hly,hhy,hie])),trivial⟩) (trivial) (.agg [.arr 770,.arr 771,.arr 772,.arr 773]) (by kernel_rfl) (.inr ⟨⟨(fun _=>rfl),rfl,rfl,fun i _=> .inl rfl⟩,⟨⟨(fun _=>rfl),rfl,rfl,fun i _=> .inl rfl⟩,⟨⟨(fun _=>rfl),rfl,rfl,fun i _=> .inl rfl⟩,⟨⟨(fun _=>rfl),rfl,rfl,fun i _=> .inl rfl⟩,rfl⟩⟩⟩⟩) (fun _=>rfl) (fun _=>(by simp [Zai,Zaf,Ydy]))
  obtain ⟨v,⟨hh0,_⟩,hc⟩:=hh
  exact ⟨v,hh0,hc⟩
theorem Zyh (n:Int) (low:Int) (high:Int) (h1:-1000≤n∧n≤1000) (h2:-1000≤low∧low≤1000) (h3:-1000≤high∧high≤1000):Con Tryz.prog 108 [I n,I low,I high] true (I (Zrl n low high)):=by
 refine Zcm (fn:=Tryz.f108) (nt:=14) Tryz.func108 rfl rfl rfl rfl (by simp [Zaf,Zai]) fun B hB=> ?_
 refine aQ [] [0,1,2] [] [] hB trivial ?_
 refine aR [] [6] [] [I (max (max (low-n) (n-high)) 0)] [] [inR .i64 (low-n),inR .i64 (n-high)] hB ⟨(Zad om om),(Zad om om),trivial⟩ (Zan ?_)
 refine Zao hB (I (max (max (low-n) (n-high)) 0)) (by kernel_rfl) (.inl (by refine congrArg I ?_;unfold Zrl;omega)) rfl (fun _=>trivial)
theorem Zyi (a:List Feat) (e:Envelope) (oka:Zbf a 72=true) (hen:okEn e a.length):Con Tryz.prog 71 [Zag false a,Znz e] true (I (Zyg a.length (Ycs a e))):=by
  have n1:=Zdr oka
  have hel:=hen.1
  refine Zcm (fn:=Tryz.f71) (nt:=46) Tryz.func71 rfl rfl rfl rfl (by simp [Zaf,Zai,Zdx,Ydy]) fun B hB=> ?_
  refine Zck (x:=Zag false a) 0 rfl (fun len_a=> ?_)
  simp [Zei,Zhv,Zjs,Zej,Zag] at len_a
  refine Zck (x:=Znz e) 1 rfl (fun len_e=> ?_)
  simp [Zei,Zhv,cI,fI,slI] at len_e
  refine aQ [(0,.new 3)] [0,3] [3] [] hB trivial ?_
  refine aQ [] [0,3,5] [3] [] hB trivial (Zah ?_)
  refine aR [] [3,5,8,9,10] [3] [.ref 3 0,I 0,Zag false a,I (a.length:Int),I 0] [some (Zoa e)] [] hB trivial (Zbg ?_)
  refine Zdm (fun gn gσ=>∃(sum:Int) (t10:Int),gn=((a.length:Int)-t10).toNat∧(0≤t10∧t10≤(a.length:Int))∧(sum=Zyg t10.toNat (Ycs a e))∧(0≤sum∧sum≤510*t10)∧gσ=mkS [(3,.ref 3 0),(5,I sum),(8,Zag false a),(9,I (a.length:Int)),(10,I t10)] [(3,Zoa e)]) (((a.length:Int)-0).toNat) ⟨0,0,rfl,om,(by rfl),om,rfl⟩ (fun gn gσ hI=> ?_)
  obtain ⟨sum,t10,rfl,hi0,hsu,hsb,rfl⟩:=hI
  refine Zah ?_
  by_cases h1:t10<(a.length:Int)
  ·have hi:t10.toNat<a.length:=by omega
   have hf:=Zfn.1 (Zdk oka hi)
   have heb:=hen.2 t10.toNat hi
   have hob:=off_bd oka rfl hen hi
   have ho2:(-3000≤Zrl (at_ a t10.toNat).X (at_ e.LowX t10.toNat) (at_ e.HighX t10.toNat)∧Zrl (at_ a t10.toNat).X (at_ e.LowX t10.toNat) (at_ e.HighX t10.toNat)≤3000)∧-3000≤Zrl (at_ a t10.toNat).Y (at_ e.LowY t10.toNat) (at_ e.HighY t10.toNat)∧Zrl (at_ a t10.toNat).Y (at_ e.LowY t10.toNat) (at_ e.HighY t10.toNat)≤3000:=by unfold Zrl;omega
   refine Zbn [(0,.dec true)] [3,5,8,9,10,11] [3] [_] hB ⟨h1,trivial⟩ (Zac (Zah (Zbr (Zar (Zac (Zah (Zbg ?_)))))))
   refine aQ [(3,.new 7)] [3,5,6,7,8,9,10] [3,7] [(0:Int)≤t10∧t10<(a.length:Int)] hB ⟨⟨om,om⟩,trivial⟩ ?_
   refine Zbn [(13,.call [(true,.any),(true,.any),(true,.any)] true (I (Zrl ((at_ a t10.toNat).X) (at_ e.LowX t10.toNat) (at_ e.HighX t10.toNat)))),(26,.call [(true,.any),(true,.any),(true,.any)] true (I (Zrl ((at_ a t10.toNat).Y) (at_ e.LowY t10.toNat) (at_ e.HighY t10.toNat))))] [3,5,8,9,10] [3] [(0:Int)≤t10∧t10<(e.LowX.length:Int),(0:Int)≤t10∧t10<(e.HighX.length:Int),_∧True,(0:Int)≤t10∧t10<(e.LowY.length:Int),(0:Int)≤t10∧t10<(e.HighY.length:Int),_∧True,inR .i64 ((Zrl ((at_ a t10.toNat).X) (at_ e.LowX t10.toNat) (at_ e.HighX t10.toNat))+(Zrl ((at_ a t10.toNat).Y) (at_ e.LowY t10.toNat) (at_ e.HighY t10.toNat))),inR .i64 (sum+((Zrl ((at_ a t10.toNat).X) (at_ e.LowX t10.toNat) (at_ e.HighX t10.toNat))+(Zrl ((at_ a t10.toNat).Y) (at_ e.LowY t10.toNat) (at_ e.HighY t10.toNat))))] hB ⟨⟨om,om⟩,⟨om,om⟩,⟨(Zyh ((at_ a t10.toNat).X) (at_ e.LowX t10.toNat) (at_ e.HighX t10.toNat) om om om),trivial⟩,⟨om,om⟩,⟨om,om⟩,⟨(Zyh ((at_ a t10.toNat).Y) (at_ e.LowY t10.toNat) (at_ e.HighY t10.toNat) om om om),trivial⟩,(Zad om om),(Zad om om),trivial⟩ (Zbq 1 (Zac ?_))
   refine Zeo [] [3,5,8,9,10] [3] [.ref 3 0,I (sum+((Zrl ((at_ a t10.toNat).X) (at_ e.LowX t10.toNat) (at_ e.HighX t10.toNat))+(Zrl ((at_ a t10.toNat).Y) (at_ e.LowY t10.toNat) (at_ e.HighY t10.toNat)))),Zag false a,I (a.length:Int),I (t10+1)] [some (Zoa e)] [inR .i64 (t10+1)] hB ⟨(Zad om om),trivial⟩ ?_
   exact Zbs _ om ⟨(sum+((Zrl ((at_ a t10.toNat).X) (at_ e.LowX t10.toNat) (at_ e.HighX t10.toNat))+(Zrl ((at_ a t10.toNat).Y) (at_ e.LowY t10.toNat) (at_ e.HighY t10.toNat)))),(t10+1),rfl,om,(by (rw [Yhw hi0.1,←hsu];unfold Ycs;omega)),(by (unfold Ycs at hob;omega)),rfl⟩
  have hie:t10.toNat=a.length:=by omega
  rw [hie] at hsu
  refine Zbn [(0,.dec false)] [3,5,8,9,10,11] [3] [_] hB ⟨h1,trivial⟩ (Zac (Zah (Zbo (Zcy (Zam (Zam (Zbi (Zac ?_))))))))
  refine aR [] [4] [] [I sum] [] [] hB trivial (Zan ?_)
  refine Zao hB (I sum) (by kernel_rfl) (.inl (by (rw [hsu]))) rfl (fun _=>trivial)
theorem Zgr (a:Feat) (b:Feat) (ha:okF a=true) (hb:okF b=true):Con Tryz.prog 109 [Zky a,Zky b] true (I (Zcb a b)):=by
 have ha':=Zfn.1 ha
 have hb':=Zfn.1 hb
 refine Zcm (fn:=Tryz.f109) (nt:=31) Tryz.func109 rfl rfl rfl rfl (by simp [Zaf,Zai]) fun B hB=> ?_
 refine aQ [(0,.new 2),(1,.new 3)] [2,3] [2,3] [] hB trivial ?_
 refine aQ [(5,.call [(true,.any)] true (I ((a.D-b.D).natAbs:Int)))] [2,3,5] [2,3] [inR .i64 (a.D-b.D),_∧True] hB ⟨(Zad om om),⟨(Zkh (a.D-b.D) om),trivial⟩,trivial⟩ ?_
 refine aR [(5,.call [(true,.any)] true (I ((a.X-b.X).natAbs:Int))),(11,.call [(true,.any)] true (I ((a.Y-b.Y).natAbs:Int)))] [4] [] [I ((((a.X-b.X).natAbs:Int)+((a.Y-b.Y).natAbs:Int))+(16*(min ((a.D-b.D).natAbs:Int) (8-((a.D-b.D).natAbs:Int)))))] [] [inR .i64 (a.X-b.X),_∧True,inR .i64 (a.Y-b.Y),_∧True,inR .i64 (((a.X-b.X).natAbs:Int)+((a.Y-b.Y).natAbs:Int)),inR .i64 (8-((a.D-b.D).natAbs:Int)),inR .i64 (16*(min ((a.D-b.D).natAbs:Int) (8-((a.D-b.D).natAbs:Int)))),inR .i64 ((((a.X-b.X).natAbs:Int)+((a.Y-b.Y).natAbs:Int))+(16*(min ((a.D-b.D).natAbs:Int) (8-((a.D-b.D).natAbs:Int)))))] hB ⟨(Zad om om),⟨(Zkh (a.X-b.X) om),trivial⟩,(Zad om om),⟨(Zkh (a.Y-b.Y) om),trivial⟩,(Zad om om),(Zad om om),(Zad om om),(Zad om om),trivial⟩ (Zan ?_)
 refine Zao hB (I ((((a.X-b.X).natAbs:Int)+((a.Y-b.Y).natAbs:Int))+(16*(min ((a.D-b.D).natAbs:Int) (8-((a.D-b.D).natAbs:Int)))))) (by kernel_rfl) (.inl (by refine congrArg I ?_;first|rfl|(unfold Zcb;omega))) rfl (fun _=>trivial)
theorem Zyj (a:List Feat) (b:List Feat) (oka:Zbf a 72=true) (okb:Zbf b 72=true):Con Tryz.prog 73 [Zag false a,Zag false b] true (I (Yhz a b)):=by
  have n1:=Zdr oka
  have n2:=Zdr okb
  have q1:((a.length:Int)-1).toNat=a.length-1:=by omega
  have q2:((b.length:Int)-1).toNat=b.length-1:=by omega
  have c1:=Zex (Zdk oka (by omega:0<a.length)) (Zdk okb (by omega:0<b.length))
  have c2:=Zex (Zdk oka (by omega:a.length-1<a.length)) (Zdk okb (by omega:b.length-1<b.length))
  rw [←q1,←q2] at c2
  refine Zcm (fn:=Tryz.f73) (nt:=37) Tryz.func73 rfl rfl rfl rfl (by simp [Zaf,Zai,Zdx]) fun B hB=> ?_
  refine Zck (x:=Zag false a) 0 rfl (fun len_a=> ?_)
  simp [Zei,Zhv,Zjs,Zej,Zag] at len_a
  refine Zck (x:=Zag false b) 1 rfl (fun len_b=> ?_)
  simp [Zei,Zhv,Zjs,Zej,Zag] at len_b
  refine aQ [] [0,1] [] [] hB trivial ?_
  refine aQ [(6,.call [(true,.any),(true,.any)] true (I (Zcb (at_ a 0) (at_ b 0))))] [0,1,5] [] [(0:Int)≤0∧0<(a.length:Int),(0:Int)≤0∧0<(b.length:Int),_∧True] hB ⟨⟨om,om⟩,⟨om,om⟩,⟨(Zgr (at_ a 0) (at_ b 0) (Zdk oka om) (Zdk okb om)),trivial⟩,trivial⟩ (Zah (Zah ?_))
  by_cases h1:1<(a.length:Int)
  ·refine Zbn [(2,.dec true)] [0,1,5,20] [] [_] hB ⟨h1,trivial⟩ (Zac (Zbr ?_))
   refine Zbn [(13,.call [(true,.any),(true,.any)] true (I (Zcb (at_ a (((a.length:Int)-1).toNat)) (at_ b (((b.length:Int)-1).toNat)))))] [5] [] [inR .i64 ((a.length:Int)-1),(0:Int)≤((a.length:Int)-1)∧((a.length:Int)-1)<(a.length:Int),inR .i64 ((b.length:Int)-1),(0:Int)≤((b.length:Int)-1)∧((b.length:Int)-1)<(b.length:Int),_∧True,inR .i64 ((Zcb (at_ a 0) (at_ b 0))+(Zcb (at_ a (((a.length:Int)-1).toNat)) (at_ b (((b.length:Int)-1).toNat))))] hB ⟨(Zad om om),⟨om,om⟩,(Zad om om),⟨om,om⟩,⟨(Zgr (at_ a (((a.length:Int)-1).toNat)) (at_ b (((b.length:Int)-1).toNat)) (Zdk oka om) (Zdk okb om)),trivial⟩,(Zad om om),trivial⟩ (Zac ?_)
   refine aR [] [4] [] [I ((Zcb (at_ a 0) (at_ b 0))+(Zcb (at_ a (((a.length:Int)-1).toNat)) (at_ b (((b.length:Int)-1).toNat))))] [] [] hB trivial (Zan ?_)
   refine Zao hB (I ((Zcb (at_ a 0) (at_ b 0))+(Zcb (at_ a (((a.length:Int)-1).toNat)) (at_ b (((b.length:Int)-1).toNat))))) (by kernel_rfl) (.inl (by refine congrArg I ?_;unfold Yhz;first|(rw [if_pos om,q1,q2];done)|(rw [if_neg om];done))) rfl (fun _=>trivial)
  by_cases h2:1<(b.length:Int)
  ·refine Zbn [(2,.dec false),(6,.dec true)] [0,1,5,20] [] [_,_] hB ⟨h1,h2,trivial⟩ (Zac (Zbr ?_))
   refine Zbn [(13,.call [(true,.any),(true,.any)] true (I (Zcb (at_ a (((a.length:Int)-1).toNat)) (at_ b (((b.length:Int)-1).toNat)))))] [5] [] [inR .i64 ((a.length:Int)-1),(0:Int)≤((a.length:Int)-1)∧((a.length:Int)-1)<(a.length:Int),inR .i64 ((b.length:Int)-1),(0:Int)≤((b.length:Int)-1)∧((b.length:Int)-1)<(b.length:Int),_∧True,inR .i64 ((Zcb (at_ a 0) (at_ b 0))+(Zcb (at_ a (((a.length:Int)-1).toNat)) (at_ b (((b.length:Int)-1).toNat))))] hB ⟨(Zad om om),⟨om,om⟩,(Zad om om),⟨om,om⟩,⟨(Zgr (at_ a (((a.length:Int)-1).toNat)) (at_ b (((b.length:Int)-1).toNat)) (Zdk oka om) (Zdk okb om)),trivial⟩,(Zad om om),trivial⟩ (Zac ?_)
   refine aR [] [4] [] [I ((Zcb (at_ a 0) (at_ b 0))+(Zcb (at_ a (((a.length:Int)-1).toNat)) (at_ b (((b.length:Int)-1).toNat))))] [] [] hB trivial (Zan ?_)
   refine Zao hB (I ((Zcb (at_ a 0) (at_ b 0))+(Zcb (at_ a (((a.length:Int)-1).toNat)) (at_ b (((b.length:Int)-1).toNat))))) (by kernel_rfl) (.inl (by refine congrArg I ?_;unfold Yhz;first|(rw [if_pos om,q1,q2];done)|(rw [if_neg om];done))) rfl (fun _=>trivial)
  refine Zbn [(2,.dec false),(6,.dec false)] [0,1,5,20] [] [_,_] hB ⟨h1,h2,trivial⟩ (Zac (Zbo (Zar (Zac ?_))))
  refine aR [] [4] [] [I (Zcb (at_ a 0) (at_ b 0))] [] [] hB trivial (Zan ?_)
  refine Zao hB (I (Zcb (at_ a 0) (at_ b 0))) (by kernel_rfl) (.inl (by refine congrArg I ?_;unfold Yhz;first|(rw [if_pos om,q1,q2];done)|(rw [if_neg om];done))) rfl (fun _=>trivial)
theorem Zvy (a:List Feat) (b:List Feat) (band:Int) (oka:Zbf a 72=true) (okb:Zbf b 72=true) (hbd:0≤band∧band≤72) (hin:Zlb band a.length b.length):∃(v:Int),(v=lbI a b band)∧Con Tryz.prog 32 [Zag false a,Zag false b,I band] true (I v):=by
 have n1:=Zdr oka
 have hh:∃r:Int,((r=lbI a b band)∧(True))∧Zaw Tryz.prog 32 [Zag false a,Zag false b,I band] (Zae []) true (I r) (Zae []):=by
  refine Zcv (Φ:=fun r:Int=>(r=lbI a b band)∧(True)) [] (fun r=>[]) (fn:=Tryz.f32) (nt:=18) Tryz.func32 rfl rfl (args:=[Zag false a,Zag false b,I band]) rfl (Zbc (.inl ⟨rfl,Zdx false _⟩) (Zbc (.inl ⟨rfl,Zdx false _⟩) (Zbc (.inl ⟨rfl,trivial⟩) Zcw))) (res:=fun r=>I r) ?_
  refine xQ [] [0,1,2] [] [] trivial (Zak ?_)
  obtain ⟨v_1,hx1_0,hc1⟩:=Zvx b (a.length:Int) band okb om hbd hin
  have hev:v_1=envV b band a.length:=by rw [hx1_0];rfl
  have heo:okEn v_1 a.length:=by rw [hev];exact envV_ok okb hin
  have hso:=out_env a b band
  rw [←hev] at hso
  refine x_r [(5,.call [(true,.any),(true,.any),(true,.any)] true (Zju v_1)),(6,.call [(true,.any),(false,Znz v_1)] true (I (Zyg a.length (Ycs a v_1)))),(9,.call [(true,.any),(true,.any)] true (I (Yhz a b)))] [6] [] [I (max (Zyg a.length (Ycs a v_1)) (Yhz a b))] [] [_∧True,_∧(((false=true→true=true)∧1=1∧v_1.LowX.length=v_1.LowX.length∧∀i_,i_<v_1.LowX.length→(fI v_1.LowX) i_=(fI v_1.LowX) i_∨(AV.idsL ((fI v_1.LowX) i_)=[]∧leL (fun _=>none) false ((fI v_1.LowX) i_) ((fI v_1.LowX) i_)))∧((false=true→true=true)∧1=1∧v_1.HighX.length=v_1.HighX.length∧∀i_,i_<v_1.HighX.length→(fI v_1.HighX) i_=(fI v_1.HighX) i_∨(AV.idsL ((fI v_1.HighX) i_)=[]∧leL (fun _=>none) false ((fI v_1.HighX) i_) ((fI v_1.HighX) i_)))∧((false=true→true=true)∧1=1∧v_1.LowY.length=v_1.LowY.length∧∀i_,i_<v_1.LowY.length→(fI v_1.LowY) i_=(fI v_1.LowY) i_∨(AV.idsL ((fI v_1.LowY) i_)=[]∧leL (fun _=>none) false ((fI v_1.LowY) i_) ((fI v_1.LowY) i_)))∧((false=true→true=true)∧1=1∧v_1.HighY.length=v_1.HighY.length∧∀i_,i_<v_1.HighY.length→(fI v_1.HighY) i_=(fI v_1.HighY) i_∨(AV.idsL ((fI v_1.HighY) i_)=[]∧leL (fun _=>none) false ((fI v_1.HighY) i_) ((fI v_1.HighY) i_)))∧([]:List AV)=[])∧True,_∧True] ⟨⟨hc1,trivial⟩,⟨(Zyi a v_1 oka heo),⟨⟨(fun h=>by cases h),rfl,rfl,fun i _=> .inl rfl⟩,⟨⟨(fun h=>by cases h),rfl,rfl,fun i _=> .inl rfl⟩,⟨⟨(fun h=>by cases h),rfl,rfl,fun i _=> .inl rfl⟩,⟨⟨(fun h=>by cases h),rfl,rfl,fun i _=> .inl rfl⟩,rfl⟩⟩⟩⟩,trivial⟩,⟨(Zyj a b oka okb),trivial⟩,trivial⟩ (Zab (Zdd ?_))
  refine Zbw (max (Zyg a.length (Ycs a v_1)) (Yhz a b)) (show ((max (Zyg a.length (Ycs a v_1)) (Yhz a b))=lbI a b band)∧(True) from ⟨(by (unfold lbI;rw [←hso])),trivial⟩) (trivial) (I (max (Zyg a.length (Ycs a v_1)) (Yhz a b))) (by kernel_rfl) (.inl rfl) (fun _=>rfl) (fun _=>trivial)
 obtain ⟨v,⟨hh0,_⟩,hc⟩:=hh
 exact ⟨v,hh0,hc⟩
theorem Zyk:Con Tryz.prog 140 [] true (.agg [I 1,I 1,I 1,I 0,I 0,I 1]):=by
 refine Zcm (fn:=Tryz.f140) (nt:=5) Tryz.func140 rfl rfl rfl rfl (by simp [Zaf,Zai]) fun B hB=> ?_
 refine aQ [(0,.new 0)] [0] [0] [] hB trivial ?_
 refine aR [] [0] [0] [.ref 0 0] [some (.box [I 1,I 1,I 1,I 0,I 0,I 1])] [] hB trivial (Zan ?_)
 refine Zao hB (.agg [I 1,I 1,I 1,I 0,I 0,I 1]) (by kernel_rfl) (.inl rfl) rfl (fun _=>(by simp [Zai,Zaf]))
theorem Zso (table:List (List Int)) (i:Int) (j:Int) (hi:0≤i∧i<(table.length:Int)) (hj:0≤j∧j≤1000) (h1:1≤i→j<((at_ table (i-1).toNat).length:Int)) (h2:1≤j→j≤((at_ table (i-0).toNat).length:Int)):Con Tryz.prog 110 [Zvz false table,I i,I j] true (I (lb3 table i j)):=by
  refine Zcm (fn:=Tryz.f110) (nt:=41) Tryz.func110 rfl rfl rfl rfl (by simp [Zaf,Zai,tagLI]) fun B hB=> ?_
  refine Zck (x:=Zvz false table) 0 rfl (fun len_table=> ?_)
  simp [Zei,Zhv,cI,cLI,fI,fLI,slI,Zvz] at len_table
  refine aQ [] [0,1,2] [] [] hB trivial ?_
  refine aQ [] [0,1,2,7] [] [] hB trivial (Zah ?_)
  refine aR [(0,.call [] true (.agg [I 1,I 1,I 1,I 0,I 0,I 1]))] [0,1,2,7,10,11] [] [Zvz false table,I i,I j,I 1099511627776,.agg [I 1,I 1,I 1,I 0,I 0,I 1],I 0] [] [_∧True] hB ⟨⟨(Zyk),trivial⟩,trivial⟩ (Zbg ?_)
  refine Zdm (fun gn gσ=>∃(least:Int) (t11:Int),gn=((3:Int)-t11).toNat∧(0≤t11∧t11≤3)∧(least=lbk table i j t11.toNat)∧gσ=mkS [(0,Zvz false table),(1,I i),(2,I j),(7,I least),(10,.agg [I 1,I 1,I 1,I 0,I 0,I 1]),(11,I t11)] []) (((3:Int)-0).toNat) ⟨1099511627776,0,rfl,om,(by rfl),rfl⟩ (fun gn gσ hI=> ?_)
  obtain ⟨least,t11,rfl,ht0,hl0,rfl⟩:=hI
  refine Zah ?_
  by_cases h1:t11<3
  ·have hcs:t11=0∨t11=1∨t11=2:=by omega
   rcases hcs with rfl|rfl|rfl
   ·refine Zbn [(0,.dec true)] [0,1,2,7,10,11,12] [] [(0:Int)<3] hB ⟨(by decide),trivial⟩ (Zac (Zah (Zbr (Zar (Zac (Zah (Zbg ?_)))))))
    refine aQ [(1,.new 9)] [0,1,2,7,9,10,11] [9] [(0:Int)≤0∧0<(3:Int)] hB ⟨⟨by decide,by decide⟩,trivial⟩ (Zah ?_)
    by_cases h2:1≤i
    ·by_cases h3:1≤j
     ·refine Zbn [(3,.dec true),(8,.dec true)] [0,1,2,7,9,10,11,23] [9] [(0:Int)≤0∧0<(2:Int),_,(0:Int)≤1∧1<(2:Int),_] hB ⟨⟨by decide,by decide⟩,h2,⟨by decide,by decide⟩,h3,trivial⟩ (Zac (Zbr ?_))
      refine Zbn [] [0,1,2,7,10,11] [] [(0:Int)≤0∧0<(2:Int),inR .i64 (i-1),(0:Int)≤(i-1)∧(i-1)<(table.length:Int),(0:Int)≤1∧1<(2:Int),inR .i64 (j-1),(0:Int)≤(j-1)∧(j-1)<(((at_ table ((i-1).toNat)).length):Int)] hB ⟨⟨by decide,by decide⟩,(Zad om om),⟨om,om⟩,⟨by decide,by decide⟩,(Zad om om),⟨om,om⟩,trivial⟩ (Zbq 1 (Zac ?_))
      refine Zeo [] [0,1,2,7,10,11] [] [Zvz false table,I i,I j,I (min least (at_ (at_ table ((i-1).toNat)) ((j-1).toNat))),.agg [I 1,I 1,I 1,I 0,I 0,I 1],I (0+1)] [] [inR .i64 (0+1)] hB ⟨(Zad om om),trivial⟩ ?_
      exact Zbs _ om ⟨(min least (at_ (at_ table ((i-1).toNat)) ((j-1).toNat))),(0+1),rfl,om,(by rw [hl0];first|(show _=lb1 table i j;unfold lb1;first|(rw [if_pos om];rfl)|(rw [if_neg om];rfl))|(show _=lb2 table i j;unfold lb2;first|(rw [if_pos om];rfl)|(rw [if_neg om];rfl))|(show _=lb3 table i j;unfold lb3;first|(rw [if_pos om];rfl)|(rw [if_neg om];rfl))),rfl⟩
     refine Zbn [(3,.dec true),(8,.dec false)] [0,1,2,7,9,10,11,23] [9] [(0:Int)≤0∧0<(2:Int),_,(0:Int)≤1∧1<(2:Int),_] hB ⟨⟨by decide,by decide⟩,h2,⟨by decide,by decide⟩,h3,trivial⟩ (Zac (Zbo (Zar (Zbq 1 (Zac ?_)))))
     refine Zeo [] [0,1,2,7,10,11] [] [Zvz false table,I i,I j,I least,.agg [I 1,I 1,I 1,I 0,I 0,I 1],I (0+1)] [] [inR .i64 (0+1)] hB ⟨(Zad om om),trivial⟩ ?_
     exact Zbs _ om ⟨least,(0+1),rfl,om,(by rw [hl0];first|(show _=lb1 table i j;unfold lb1;first|(rw [if_pos om];rfl)|(rw [if_neg om];rfl))|(show _=lb2 table i j;unfold lb2;first|(rw [if_pos om];rfl)|(rw [if_neg om];rfl))|(show _=lb3 table i j;unfold lb3;first|(rw [if_pos om];rfl)|(rw [if_neg om];rfl))),rfl⟩
    refine Zbn [(3,.dec false)] [0,1,2,7,9,10,11,23] [9] [(0:Int)≤0∧0<(2:Int),_] hB ⟨⟨by decide,by decide⟩,h2,trivial⟩ (Zac (Zbo (Zar (Zbq 1 (Zac ?_)))))
    refine Zeo [] [0,1,2,7,10,11] [] [Zvz false table,I i,I j,I least,.agg [I 1,I 1,I 1,I 0,I 0,I 1],I (0+1)] [] [inR .i64 (0+1)] hB ⟨(Zad om om),trivial⟩ ?_
    exact Zbs _ om ⟨least,(0+1),rfl,om,(by rw [hl0];first|(show _=lb1 table i j;unfold lb1;first|(rw [if_pos om];rfl)|(rw [if_neg om];rfl))|(show _=lb2 table i j;unfold lb2;first|(rw [if_pos om];rfl)|(rw [if_neg om];rfl))|(show _=lb3 table i j;unfold lb3;first|(rw [if_pos om];rfl)|(rw [if_neg om];rfl))),rfl⟩
   ·refine Zbn [(0,.dec true)] [0,1,2,7,10,11,12] [] [(1:Int)<3] hB ⟨(by decide),trivial⟩ (Zac (Zah (Zbr (Zar (Zac (Zah (Zbg ?_)))))))
    refine aQ [(1,.new 9)] [0,1,2,7,9,10,11] [9] [(0:Int)≤1∧1<(3:Int)] hB ⟨⟨by decide,by decide⟩,trivial⟩ (Zah ?_)
    by_cases h4:1≤i
    ·refine Zbn [(3,.dec true),(8,.dec true)] [0,1,2,7,9,10,11,23] [9] [(0:Int)≤0∧0<(2:Int),_,(0:Int)≤1∧1<(2:Int),0≤j] hB ⟨⟨by decide,by decide⟩,h4,⟨by decide,by decide⟩,om,trivial⟩ (Zac (Zbr ?_))
     refine Zbn [] [0,1,2,7,10,11] [] [(0:Int)≤0∧0<(2:Int),inR .i64 (i-1),(0:Int)≤(i-1)∧(i-1)<(table.length:Int),(0:Int)≤1∧1<(2:Int),inR .i64 (j-0),(0:Int)≤(j-0)∧(j-0)<(((at_ table ((i-1).toNat)).length):Int)] hB ⟨⟨by decide,by decide⟩,(Zad om om),⟨om,om⟩,⟨by decide,by decide⟩,(Zad om om),⟨om,om⟩,trivial⟩ (Zbq 1 (Zac ?_))
     refine Zeo [] [0,1,2,7,10,11] [] [Zvz false table,I i,I j,I (min least (at_ (at_ table ((i-1).toNat)) ((j-0).toNat))),.agg [I 1,I 1,I 1,I 0,I 0,I 1],I (1+1)] [] [inR .i64 (1+1)] hB ⟨(Zad om om),trivial⟩ ?_
     exact Zbs _ om ⟨(min least (at_ (at_ table ((i-1).toNat)) ((j-0).toNat))),(1+1),rfl,om,(by rw [hl0];first|(show _=lb1 table i j;unfold lb1;first|(rw [if_pos om];rfl)|(rw [if_neg om];rfl))|(show _=lb2 table i j;unfold lb2;first|(rw [if_pos om];rfl)|(rw [if_neg om];rfl))|(show _=lb3 table i j;unfold lb3;first|(rw [if_pos om];rfl)|(rw [if_neg om];rfl))),rfl⟩
    refine Zbn [(3,.dec false)] [0,1,2,7,9,10,11,23] [9] [(0:Int)≤0∧0<(2:Int),_] hB ⟨⟨by decide,by decide⟩,h4,trivial⟩ (Zac (Zbo (Zar (Zbq 1 (Zac ?_)))))
    refine Zeo [] [0,1,2,7,10,11] [] [Zvz false table,I i,I j,I least,.agg [I 1,I 1,I 1,I 0,I 0,I 1],I (1+1)] [] [inR .i64 (1+1)] hB ⟨(Zad om om),trivial⟩ ?_
    exact Zbs _ om ⟨least,(1+1),rfl,om,(by rw [hl0];first|(show _=lb1 table i j;unfold lb1;first|(rw [if_pos om];rfl)|(rw [if_neg om];rfl))|(show _=lb2 table i j;unfold lb2;first|(rw [if_pos om];rfl)|(rw [if_neg om];rfl))|(show _=lb3 table i j;unfold lb3;first|(rw [if_pos om];rfl)|(rw [if_neg om];rfl))),rfl⟩
   ·refine Zbn [(0,.dec true)] [0,1,2,7,10,11,12] [] [(2:Int)<3] hB ⟨(by decide),trivial⟩ (Zac (Zah (Zbr (Zar (Zac (Zah (Zbg ?_)))))))
    refine aQ [(1,.new 9)] [0,1,2,7,9,10,11] [9] [(0:Int)≤2∧2<(3:Int)] hB ⟨⟨by decide,by decide⟩,trivial⟩ (Zah ?_)
    by_cases h5:1≤j
    ·refine Zbn [(3,.dec true),(8,.dec true)] [0,1,2,7,9,10,11,23] [9] [(0:Int)≤0∧0<(2:Int),0≤i,(0:Int)≤1∧1<(2:Int),_] hB ⟨⟨by decide,by decide⟩,om,⟨by decide,by decide⟩,h5,trivial⟩ (Zac (Zbr ?_))
     refine Zbn [] [0,1,2,7,10,11] [] [(0:Int)≤0∧0<(2:Int),inR .i64 (i-0),(0:Int)≤(i-0)∧(i-0)<(table.length:Int),(0:Int)≤1∧1<(2:Int),inR .i64 (j-1),(0:Int)≤(j-1)∧(j-1)<(((at_ table ((i-0).toNat)).length):Int)] hB ⟨⟨by decide,by decide⟩,(Zad om om),⟨om,om⟩,⟨by decide,by decide⟩,(Zad om om),⟨om,om⟩,trivial⟩ (Zbq 1 (Zac ?_))
     refine Zeo [] [0,1,2,7,10,11] [] [Zvz false table,I i,I j,I (min least (at_ (at_ table ((i-0).toNat)) ((j-1).toNat))),.agg [I 1,I 1,I 1,I 0,I 0,I 1],I (2+1)] [] [inR .i64 (2+1)] hB ⟨(Zad om om),trivial⟩ ?_
     exact Zbs _ om ⟨(min least (at_ (at_ table ((i-0).toNat)) ((j-1).toNat))),(2+1),rfl,om,(by rw [hl0];first|(show _=lb1 table i j;unfold lb1;first|(rw [if_pos om];rfl)|(rw [if_neg om];rfl))|(show _=lb2 table i j;unfold lb2;first|(rw [if_pos om];rfl)|(rw [if_neg om];rfl))|(show _=lb3 table i j;unfold lb3;first|(rw [if_pos om];rfl)|(rw [if_neg om];rfl))),rfl⟩
    refine Zbn [(3,.dec true),(8,.dec false)] [0,1,2,7,9,10,11,23] [9] [(0:Int)≤0∧0<(2:Int),0≤i,(0:Int)≤1∧1<(2:Int),_] hB ⟨⟨by decide,by decide⟩,om,⟨by decide,by decide⟩,h5,trivial⟩ (Zac (Zbo (Zar (Zbq 1 (Zac ?_)))))
    refine Zeo [] [0,1,2,7,10,11] [] [Zvz false table,I i,I j,I least,.agg [I 1,I 1,I 1,I 0,I 0,I 1],I (2+1)] [] [inR .i64 (2+1)] hB ⟨(Zad om om),trivial⟩ ?_
    exact Zbs _ om ⟨least,(2+1),rfl,om,(by rw [hl0];first|(show _=lb1 table i j;unfold lb1;first|(rw [if_pos om];rfl)|(rw [if_neg om];rfl))|(show _=lb2 table i j;unfold lb2;first|(rw [if_pos om];rfl)|(rw [if_neg om];rfl))|(show _=lb3 table i j;unfold lb3;first|(rw [if_pos om];rfl)|(rw [if_neg om];rfl))),rfl⟩
  have hte:t11.toNat=3:=by omega
  refine Zbn [(0,.dec false)] [0,1,2,7,10,11,12] [] [_] hB ⟨h1,trivial⟩ (Zac (Zah (Zbo (Zcy (Zam (Zam (Zbi (Zac ?_))))))))
  refine aR [] [6] [] [I least] [] [] hB trivial (Zan ?_)
  refine Zao hB (I least) (by kernel_rfl) (.inl (by rw [hl0,hte];rfl)) rfl (fun _=>trivial)
theorem Zgn {i k:Nat} (h:i≠k):Nat.beq i k=false:=Bool.eq_false_iff.2 fun e=>h (Nat.eq_of_beq_eq_true e)
theorem Zrm {α:Type} [Inhabited α] {xs:List α} {k:Nat} {c:α} (h:k<xs.length):at_ (xs.set k c) k=c:=by simp [at_,h]
theorem Zrn {α:Type} [Inhabited α] {xs:List α} {k i:Nat} {c:α} (h:i≠k):at_ (xs.set k c) i=at_ xs i:=by
 have:¬ k=i:=fun e=>h e.symm
 simp [at_,this]
theorem le_row {ob:Nat→Option Ob} {F N sz p n:Nat} {m:Nat→Nat} {g:Nat→Nat→List AV} {fr:Bool} {f:Nat→List AV} (h:ob F=some (.fam N sz m g)) (hp:p<N) (hn:m p=n)
  (hf:∀i,i<n→g p i=f i∨(AV.idsL (f i)=[]∧leL (fun _=>none) false (g p i) (f i))):le ob true (.row F p) (.sl fr sz n f):=by
 simp only [le,h]
 exact ⟨fun _=>trivial,hp,trivial,hn,hf⟩
def oLIc (F:Nat) (x:List Int) (i:Nat):List AV:=[.row F i]
def oLI (F:Nat) (xs:List (List Int)) (i:Nat):List AV:=oLIc F (at_ xs i) i
def mLI (xs:List (List Int)) (p:Nat):Nat:=(at_ xs p).length
def gLI (xs:List (List Int)) (p:Nat):Nat→List AV:=fI (at_ xs p)
abbrev Zlc (F:Nat) (xs:List (List Int)):Ob:= .oar [F] 1 xs.length (oLI F xs)
abbrev Zna (xs:List (List Int)):Ob:= .fam xs.length 1 (mLI xs) (gLI xs)
theorem oleLI {ob:Nat→Option Ob} {F:Nat} (fr:Bool) (xs:List (List Int)) (h:ob F=some (.fam xs.length 1 (mLI xs) (gLI xs))):∀i,i<xs.length→AV.idsL (fLI fr xs i)=[]∧leL ob true (oLI F xs i) (fLI fr xs i):=
 fun i hi=>And.intro rfl (And.intro (le_row h hi rfl (fun q _=> .inl rfl)) rfl)
theorem Zor (F P:Nat) (xs:List (List Int)) (ys:List Int) (i:Nat):oLI F xs i=oLI F (xs.set P ys) i:=by
 unfold oLI
 by_cases h:P=i
 ·subst h
  by_cases hl:P<xs.length
  ·simp [at_,hl,oLIc]
  ·rw [List.set_eq_of_length_le om]
 ·simp [at_,h]
theorem fnilLI (n:Nat) {g:Nat→Nat→List AV} :n=(List.replicate n ([]:List Int)).length∧1=1∧∀p,p<(List.replicate n ([]:List Int)).length→(fun _:Nat=>(0:Nat)) p=mLI (List.replicate n ([]:List Int)) p∧∀i,i<mLI (List.replicate n ([]:List Int)) p→g p i=gLI (List.replicate n ([]:List Int)) p i∨(AV.idsL (gLI (List.replicate n ([]:List Int)) p i)=[]∧leL (fun _=>none) false (g p i) (gLI (List.replicate n ([]:List Int)) p i)):=by
 refine ⟨by simp,rfl,fun p hp=> ?_⟩
 have e:mLI (List.replicate n ([]:List Int)) p=0:=by simp only [List.length_replicate] at hp;simp [mLI,at_,hp]
 exact ⟨e.symm,fun i hi=>by rw [e] at hi;exact absurd hi (Nat.not_lt_zero _)⟩
theorem fputLI {xs:List (List Int)} {P m1:Nat} {ys:List Int} {f1:Nat→List AV} (hP:P<xs.length) (hm:m1=ys.length) (hf:∀i,i<m1→f1 i=fI ys i):xs.length=(xs.set P ys).length∧1=1∧∀p,p<(xs.set P ys).length→Zhm P m1 (mLI xs) p=mLI (xs.set P ys) p∧∀i,i<mLI (xs.set P ys) p→Zet P f1 (gLI xs) p i=gLI (xs.set P ys) p i∨(AV.idsL (gLI (xs.set P ys) p i)=[]∧leL (fun _=>none) false (Zet P f1 (gLI xs) p i) (gLI (xs.set P ys) p i)):=by
 refine ⟨by simp,rfl,fun p hp=> ?_⟩
 by_cases h:p=P
 ·subst h
  have e:at_ (xs.set p ys) p=ys:=Zrm hP
  refine ⟨?_,fun i hi=> .inl ?_⟩
  ·simp only [Zhm,Nat.beq_refl,cond_true,mLI,e];exact hm
  ·simp only [mLI,e] at hi;simp only [Zet,Nat.beq_refl,cond_true,gLI,e];exact hf i om
 ·have e:at_ (xs.set P ys) p=at_ xs p:=Zrn h
  have b:=Zgn h
  refine ⟨?_,fun i hi=> .inl ?_⟩
  ·simp only [Zhm,b,cond_false,mLI,e]
  ·simp only [Zet,b,cond_false,gLI,e]
theorem Zos {xs:List (List Int)} {P k:Nat} {c:Int} {g':Nat→Nat→List AV} (hP:P<xs.length) (hk:k<(at_ xs P).length) (h1:g' P k=cI c) (h2:∀i,i≠k→g' P i=gLI xs P i) (h3:∀p,p≠P→g' p=gLI xs p):xs.length=(xs.set P ((at_ xs P).set k c)).length∧1=1∧∀p,p<(xs.set P ((at_ xs P).set k c)).length→mLI xs p=mLI (xs.set P ((at_ xs P).set k c)) p∧∀i,i<mLI (xs.set P ((at_ xs P).set k c)) p→g' p i=gLI (xs.set P ((at_ xs P).set k c)) p i∨(AV.idsL (gLI (xs.set P ((at_ xs P).set k c)) p i)=[]∧leL (fun _=>none) false (g' p i) (gLI (xs.set P ((at_ xs P).set k c)) p i)):=by
 refine ⟨by simp,rfl,fun p hp=> ?_⟩
 by_cases h:p=P
 ·subst h
  have e2:at_ (xs.set p ((at_ xs p).set k c)) p=((at_ xs p).set k c):=Zrm hP
  have e3:((at_ xs p).set k c)=(at_ xs p).set k c:=rfl
  simp only [mLI,gLI,e2,e3]
  refine ⟨by simp,fun i hi=> .inl ?_⟩
  by_cases hi2:i=k
  ·subst hi2
   rw [h1]
   show _=cI (at_ _ _)
   rw [Zrm hk]
  ·rw [h2 i hi2]
   show cI (at_ _ _)=cI (at_ _ _)
   rw [Zrn hi2]
 ·have e:at_ (xs.set P ((at_ xs P).set k c)) p=at_ xs p:=Zrn h
  simp only [mLI,gLI,e]
  refine ⟨trivial,fun i hi=> .inl ?_⟩
  rw [h3 p h];rfl
theorem Zyl (a:List Feat) (b:List Feat) (band:Int) (hab:Zte a b) (hbd:0≤band∧band≤1000):∃(v:List (List Int)),(Zni a b band v a.length)∧Con Tryz.prog 74 [Zag false a,Zag false b,I band] true (Zvz true v):=by
  have hla:=hab.2.2
  have hh:∃r:(List (List Int)),((Zni a b band r a.length)∧(True))∧Zaw Tryz.prog 74 [Zag false a,Zag false b,I band] (Zae []) true (Zvz true r) (Zae []):=by
    refine Zcv (Φ:=fun r:(List (List Int))=>(Zni a b band r a.length)∧(True)) [] (fun r=>[]) (fn:=Tryz.f74) (nt:=76) Tryz.func74 rfl rfl (args:=[Zag false a,Zag false b,I band]) rfl (Zbc (.inl ⟨rfl,Zdx false _⟩) (Zbc (.inl ⟨rfl,Zdx false _⟩) (Zbc (.inl ⟨rfl,trivial⟩) Zcw))) (res:=fun r=>Zvz true r) ?_
    refine xQ [] [0,1,2] [] [] trivial ?_
    refine xQ [(2,.new 13)] [0,1,2,7] [13] [(0:Int)≤(a.length:Int)∧((a.length:Int):Int)≤(a.length:Int)∧(24:Int)*(a.length:Int)≤281474976710656∧(a.length:Int)≤9223372036854775807] ⟨⟨om,om,om,om⟩,trivial⟩ (Zak ?_)
    refine xR [] [0,1,2,7,15,16] [13] [Zag false a,Zag false b,I band,.arr 13,I (a.length:Int),I 0] [some (.arr 1 ((a.length:Int).toNat) (fun _=>[Zcj]))] [] trivial (Zbb ?_)
    refine x_famN 13 8401 1 rfl (fun q _=>⟨_,rfl,rfl⟩) (by kernel_rfl) ?_
    refine Zdh [] (T:=[(0,Zag false a),(1,Zag false b),(2,I band),(7,.arr 13),(15,I (a.length:Int)),(16,I 0)]) (O:=[(13,Zlc 8401 (List.replicate ((a.length:Int).toNat) ([]:List Int))),(8401,Zna (List.replicate ((a.length:Int).toNat) ([]:List Int)))]) rfl (⟨.inl rfl,.inl rfl,.inl rfl,.inl rfl,.inl rfl,.inl rfl,trivial⟩) (⟨.inr ⟨rfl,rfl,(by simp),fun i hi=> .inl rfl⟩,.inr (fnilLI ((a.length:Int).toNat)),trivial⟩) ?_
    refine Zdc (X:=Int×(List (List Int))) (fun x=>mkS [(0,Zag false a),(1,Zag false b),(2,I band),(7,.arr 13),(15,I (a.length:Int)),(16,I x.1)] [(13,Zlc 8401 x.2),(8401,Zna x.2)]) (fun x=>(0≤x.1∧x.1≤(a.length:Int))∧(Zni a b band x.2 x.1.toNat)∧True) (fun x=>((a.length:Int)-x.1).toNat) (0,(List.replicate ((a.length:Int).toNat) ([]:List Int))) rfl (show (0≤(0:Int)∧(0:Int)≤(a.length:Int))∧(Zni a b band (List.replicate ((a.length:Int).toNat) ([]:List Int)) (0:Int).toNat)∧True from ⟨om,(by exact tb_nil a b band (by first|rfl|omega|simp)),trivial⟩) (fun x hI=> ?_)
    obtain ⟨t16,tb⟩:=x
    obtain ⟨hi0,htb,_⟩:(0≤t16∧t16≤(a.length:Int))∧(Zni a b band tb t16.toNat)∧True:=hI
    show XW _ _ _ _ (mkS [(0,Zag false a),(1,Zag false b),(2,I band),(7,.arr 13),(15,I (a.length:Int)),(16,I t16)] [(13,Zlc 8401 tb),(8401,Zna tb)]) _ _
    refine Zak ?_
    by_cases h1:t16<(a.length:Int)
    ·have hi:t16.toNat<a.length:=by omega
     have hix:((t16.toNat:Nat):Int)=t16:=by omega
     have htl:=htb.1
     refine x_q [(0,.dec true)] [0,1,2,7,15,16,17] [13,8401] [_] ⟨h1,trivial⟩ (Zab (Zak (Zeh (Zbd (Zab (Zak (Zbb ?_)))))))
     refine xQ [] [0,1,2,7,8,15,16] [13,8401] [] trivial ?_
     refine xR [(4,.new 23)] [0,1,2,7,8,15,16] [13,23,8401] [Zag false a,Zag false b,I band,.arr 13,I t16,I (a.length:Int),I t16] [some (.oar [8401,23] 1 tb.length (fun q=>bif Nat.beq q t16.toNat then [.arr 23] else (oLI 8401 tb) q)),some (.arr 1 ((b.length:Int).toNat) (fun _=>[I 0])),some (Zna tb)] [(0:Int)≤(b.length:Int)∧((b.length:Int):Int)≤(b.length:Int)∧(8:Int)*(b.length:Int)≤281474976710656∧(b.length:Int)≤9223372036854775807,(0:Int)≤t16∧t16<(tb.length:Int),t16.toNat<tb.length] ⟨⟨om,om,om,om⟩,⟨om,om⟩,om,trivial⟩ (Zak ?_)
     refine x_putrow 13 23 8401 t16.toNat rfl rfl rfl (om) (by first|exact Nat.le_refl _|omega) (fun q _=>⟨fun e=>by subst e;simp only [Nat.beq_refl,cond_true],fun e=>by simp only [Zgn e,cond_false];rfl⟩) (by kernel_rfl) ?_
     refine Zdh [] (T:=[(0,Zag false a),(1,Zag false b),(2,I band),(7,.arr 13),(8,I t16),(15,I (a.length:Int)),(16,I t16)]) (O:=[(13,Zlc 8401 (tb.set t16.toNat (List.replicate ((b.length:Int).toNat) (0:Int)))),(8401,Zna (tb.set t16.toNat (List.replicate ((b.length:Int).toNat) (0:Int))))]) rfl (⟨.inl rfl,.inl rfl,.inl rfl,.inl rfl,.inl rfl,.inl rfl,.inl rfl,trivial⟩) (⟨.inr ⟨rfl,rfl,(by simp),fun i hi=> .inl rfl⟩,.inr (fputLI (om) (by first|rfl|(simp;done)|(simp;omega)) (fun i_ h_=>(show ∀i_:Nat,i_<((List.replicate ((b.length:Int).toNat) (0:Int)):List Int).length→(fun _=>[I 0]) i_=(fI (List.replicate ((b.length:Int).toNat) (0:Int))) i_ from fun i_ hi_=>(Zhy (enc:=cI) rfl i_ hi_)) i_ (by first|exact h_|(simpa using h_)))),trivial⟩) ?_
     refine x_r [] [0,1,2,7,8,15,16,26,27] [13,8401] [Zag false a,Zag false b,I band,.arr 13,I t16,I (a.length:Int),I t16,I (b.length:Int),I 0] [some (Zlc 8401 (tb.set t16.toNat (List.replicate ((b.length:Int).toNat) (0:Int)))),some (Zna (tb.set t16.toNat (List.replicate ((b.length:Int).toNat) (0:Int))))] [] trivial (Zab (Zbb ?_))
     refine Zdc (X:=Int×(List (List Int))) (fun x=>mkS [(0,Zag false a),(1,Zag false b),(2,I band),(7,.arr 13),(8,I t16),(15,I (a.length:Int)),(16,I t16),(26,I (b.length:Int)),(27,I x.1)] [(13,Zlc 8401 x.2),(8401,Zna x.2)]) (fun x=>(0≤x.1∧x.1≤(b.length:Int))∧(Zni a b band x.2 t16.toNat∧Zkz a b band (at_ x.2 t16.toNat) t16.toNat x.1.toNat)∧True) (fun x=>((b.length:Int)-x.1).toNat) (0,(tb.set t16.toNat (List.replicate ((b.length:Int).toNat) (0:Int)))) rfl (show (0≤(0:Int)∧(0:Int)≤(b.length:Int))∧(Zni a b band (tb.set t16.toNat (List.replicate ((b.length:Int).toNat) (0:Int))) t16.toNat∧Zkz a b band (at_ (tb.set t16.toNat (List.replicate ((b.length:Int).toNat) (0:Int))) t16.toNat) t16.toNat (0:Int).toNat)∧True from ⟨om,(by exact tb_row htb hi (by first|rfl|omega|simp)),trivial⟩) (fun x hI=> ?_)
     obtain ⟨t27,tb'⟩:=x
     obtain ⟨hj0,hin,_⟩:(0≤t27∧t27≤(b.length:Int))∧(Zni a b band tb' t16.toNat∧Zkz a b band (at_ tb' t16.toNat) t16.toNat t27.toNat)∧True:=hI
     show XW _ _ _ _ (mkS [(0,Zag false a),(1,Zag false b),(2,I band),(7,.arr 13),(8,I t16),(15,I (a.length:Int)),(16,I t16),(26,I (b.length:Int)),(27,I t27)] [(13,Zlc 8401 tb'),(8401,Zna tb')]) _ _
     refine Zak ?_
     by_cases h2:t27<(b.length:Int)
     ·have hj:t27.toNat<b.length:=by omega
      have hcb:=Zex (hab.1 _ hi) (hab.2.1 _ hj)
      have hjx:((t27.toNat:Nat):Int)=t27:=by omega
      have htl2:=hin.1.1
      have htl3:=hin.2.1
      have hlb:=lb_at hab hin.1 hin.2 hi hj
      rw [hix,hjx] at hlb
      have hrl:1≤t16→((at_ tb' (t16-1).toNat).length:Int)=b.length:=fun q=>by rw [(hin.1.2 (t16-1).toNat om).1]
      have hrz:(t16-0).toNat=t16.toNat:=by omega
      refine x_q [(0,.dec true)] [0,1,2,7,8,15,16,26,27,28] [13,8401] [_] ⟨h2,trivial⟩ (Zab (Zak (Zeh (Zbd (Zab (Zak (Zbb ?_)))))))
      refine xQ [] [0,1,2,7,8,9,15,16,26,27] [13,8401] [] trivial ?_
      refine xQ [(3,.call [(false,Zvz false tb'),(true,.any),(true,.any)] true (I (lb3 tb' t16 t27)))] [0,1,2,7,8,9,10,15,16,26,27] [13,8401] [_∧((false=true→true=true)∧1=1∧tb'.length=tb'.length∧∀i_,i_<tb'.length→AV.idsL ((fLI false tb') i_)=[]∧leL (Zae [(8401,Zna tb')]) true ((oLI 8401 tb') i_) ((fLI false tb') i_))∧True] ⟨⟨(Zso tb' t16 t27 om om (fun q=>by have:=hrl q;omega) (fun q=>by rw [hrz];omega)),⟨(fun h=>by cases h),rfl,rfl,oleLI _ _ rfl⟩,trivial⟩,trivial⟩ (Zak (Zak ?_))
      by_cases h3:t16=0
      ·by_cases h4:t27=0
       ·refine x_q [(1,.dec true),(4,.dec true)] [0,1,2,7,8,9,10,15,16,26,27,39] [13,8401] [_,_] ⟨h3,h4,trivial⟩ (Zab (Zeh ?_))
        refine x_q [] [0,1,2,7,8,9,10,15,16,26,27] [13,8401] [] trivial (Zab (Zak ?_))
        by_cases h5:band<((t16-t27).natAbs:Int)
        ·refine x_q [(3,.call [(true,.any)] true (I ((t16-t27).natAbs:Int))),(5,.dec true)] [0,1,2,7,8,9,10,15,16,26,27,49] [13,8401] [inR .i64 (t16-t27),_∧True,_] ⟨(Zad om om),⟨(Zkh (t16-t27) om),trivial⟩,h5,trivial⟩ (Zab (Zeh ?_))
         refine x_r [] [0,1,2,7,8,15,16,26,27] [13,8401] [Zag false a,Zag false b,I band,.arr 13,I t16,I (a.length:Int),I t16,I (b.length:Int),I t27] [some (Zlc 8401 tb'),some (.fam tb'.length 1 (mLI tb') (fun q=>bif Nat.beq q t16.toNat then (fun q=>bif Nat.beq q t27.toNat then [I 1099511627776] else (gLI tb') t16.toNat q) else (gLI tb') q))] [(0:Int)≤t16∧t16<(tb'.length:Int),t16.toNat<tb'.length,t16.toNat<tb'.length∧(0:Int)≤t27∧t27<(((at_ tb' t16.toNat).length):Int),t16.toNat<tb'.length∧t27.toNat<(at_ tb' t16.toNat).length] ⟨⟨om,om⟩,om,⟨om,om,om⟩,⟨om,om⟩,trivial⟩ (Zba 3 (Zab ?_))
         refine Zdh [] (T:=[(0,Zag false a),(1,Zag false b),(2,I band),(7,.arr 13),(8,I t16),(15,I (a.length:Int)),(16,I t16),(26,I (b.length:Int)),(27,I t27)]) (O:=[(13,Zlc 8401 (tb'.set t16.toNat ((at_ tb' t16.toNat).set t27.toNat 1099511627776))),(8401,Zna (tb'.set t16.toNat ((at_ tb' t16.toNat).set t27.toNat 1099511627776)))]) rfl (⟨.inl rfl,.inl rfl,.inl rfl,.inl rfl,.inl rfl,.inl rfl,.inl rfl,.inl rfl,.inl rfl,trivial⟩) (⟨.inr ⟨rfl,rfl,(by first|rfl|(simp;done)|omega),fun i_ hi_=> .inl (Zor 8401 t16.toNat tb' ((at_ tb' t16.toNat).set t27.toNat 1099511627776) i_)⟩,.inr (Zos (P:=t16.toNat) (k:=t27.toNat) (om) (om) (by simp only [Nat.beq_refl,cond_true];try rfl) (by intro i hi;simp only [Nat.beq_refl,cond_true,Zgn hi,cond_false];try rfl) (by intro p hp;simp only [Zgn hp,cond_false])),trivial⟩) ?_
         refine x_r [] [0,1,2,7,8,15,16,26,27] [13,8401] [Zag false a,Zag false b,I band,.arr 13,I t16,I (a.length:Int),I t16,I (b.length:Int),I (t27+1)] [some (Zlc 8401 (tb'.set t16.toNat ((at_ tb' t16.toNat).set t27.toNat 1099511627776))),some (Zna (tb'.set t16.toNat ((at_ tb' t16.toNat).set t27.toNat 1099511627776)))] [inR .i64 (t27+1)] ⟨(Zad om om),trivial⟩ ?_
         exact Zay ((t27+1),(tb'.set t16.toNat ((at_ tb' t16.toNat).set t27.toNat 1099511627776))) rfl (show (0≤(t27+1)∧(t27+1)≤(b.length:Int))∧(Zni a b band (tb'.set t16.toNat ((at_ tb' t16.toNat).set t27.toNat 1099511627776)) t16.toNat∧Zkz a b band (at_ (tb'.set t16.toNat ((at_ tb' t16.toNat).set t27.toNat 1099511627776)) t16.toNat) t16.toNat (t27+1).toNat)∧True from ⟨om,(by rw [show (t27+1).toNat=t27.toNat+1 from by omega];exact Zla hin.1 hin.2 hi hj (by rw [hlb.2];first|exact (Zjt (by first|(left;rw [hix,hjx];omega)|(right;(try rw [if_neg om]);(try rw [if_pos om]);omega))).symm|(rw [Zfh (by rw [hix,hjx];omega) (by first|(rw [if_neg om];omega)|(rw [if_pos om];decide))];first|rw [if_neg om]|rw [if_pos om]))),trivial⟩) (by first|(show (((b.length:Int)-(t27+1)).toNat:Nat)<((b.length:Int)-t27).toNat;omega)|(dsimp only;omega))
        refine x_q [(3,.call [(true,.any)] true (I ((t16-t27).natAbs:Int))),(5,.dec false),(8,.dec false)] [0,1,2,7,8,9,10,15,16,26,27,49] [13,8401] [inR .i64 (t16-t27),_∧True,_,¬ ((1099511627776:Int)≤0)] ⟨(Zad om om),⟨(Zkh (t16-t27) om),trivial⟩,h5,(by decide),trivial⟩ (Zab (Zga ?_))
        refine x_r [(14,.call [(true,.any),(true,.any)] true (I (Zcb (at_ a t16.toNat) (at_ b t27.toNat))))] [0,1,2,7,8,15,16,26,27] [13,8401] [Zag false a,Zag false b,I band,.arr 13,I t16,I (a.length:Int),I t16,I (b.length:Int),I t27] [some (Zlc 8401 tb'),some (.fam tb'.length 1 (mLI tb') (fun q=>bif Nat.beq q t16.toNat then (fun q=>bif Nat.beq q t27.toNat then [I (0+(Zcb (at_ a t16.toNat) (at_ b t27.toNat)))] else (gLI tb') t16.toNat q) else (gLI tb') q))] [(0:Int)≤t16∧t16<(tb'.length:Int),t16.toNat<tb'.length,(0:Int)≤t16∧t16<(a.length:Int),(0:Int)≤t27∧t27<(b.length:Int),_∧True,inR .i64 (0+(Zcb (at_ a t16.toNat) (at_ b t27.toNat))),t16.toNat<tb'.length∧(0:Int)≤t27∧t27<(((at_ tb' t16.toNat).length):Int),t16.toNat<tb'.length∧t27.toNat<(at_ tb' t16.toNat).length] ⟨⟨om,om⟩,om,⟨om,om⟩,⟨om,om⟩,⟨(Zgr (at_ a t16.toNat) (at_ b t27.toNat) (by first|exact hab.1 _ om|exact hab.2.1 _ om) (by first|exact hab.1 _ om|exact hab.2.1 _ om)),trivial⟩,(Zad om om),⟨om,om,om⟩,⟨om,om⟩,trivial⟩ (Zba 3 (Zab ?_))
        refine Zdh [] (T:=[(0,Zag false a),(1,Zag false b),(2,I band),(7,.arr 13),(8,I t16),(15,I (a.length:Int)),(16,I t16),(26,I (b.length:Int)),(27,I t27)]) (O:=[(13,Zlc 8401 (tb'.set t16.toNat ((at_ tb' t16.toNat).set t27.toNat (0+(Zcb (at_ a t16.toNat) (at_ b t27.toNat)))))),(8401,Zna (tb'.set t16.toNat ((at_ tb' t16.toNat).set t27.toNat (0+(Zcb (at_ a t16.toNat) (at_ b t27.toNat))))))]) rfl (⟨.inl rfl,.inl rfl,.inl rfl,.inl rfl,.inl rfl,.inl rfl,.inl rfl,.inl rfl,.inl rfl,trivial⟩) (⟨.inr ⟨rfl,rfl,(by first|rfl|(simp;done)|omega),fun i_ hi_=> .inl (Zor 8401 t16.toNat tb' ((at_ tb' t16.toNat).set t27.toNat (0+(Zcb (at_ a t16.toNat) (at_ b t27.toNat)))) i_)⟩,.inr (Zos (P:=t16.toNat) (k:=t27.toNat) (om) (om) (by simp only [Nat.beq_refl,cond_true];try rfl) (by intro i hi;simp only [Nat.beq_refl,cond_true,Zgn hi,cond_false];try rfl) (by intro p hp;simp only [Zgn hp,cond_false])),trivial⟩) ?_
        refine x_r [] [0,1,2,7,8,15,16,26,27] [13,8401] [Zag false a,Zag false b,I band,.arr 13,I t16,I (a.length:Int),I t16,I (b.length:Int),I (t27+1)] [some (Zlc 8401 (tb'.set t16.toNat ((at_ tb' t16.toNat).set t27.toNat (0+(Zcb (at_ a t16.toNat) (at_ b t27.toNat)))))),some (Zna (tb'.set t16.toNat ((at_ tb' t16.toNat).set t27.toNat (0+(Zcb (at_ a t16.toNat) (at_ b t27.toNat))))))] [inR .i64 (t27+1)] ⟨(Zad om om),trivial⟩ ?_
        exact Zay ((t27+1),(tb'.set t16.toNat ((at_ tb' t16.toNat).set t27.toNat (0+(Zcb (at_ a t16.toNat) (at_ b t27.toNat)))))) rfl (show (0≤(t27+1)∧(t27+1)≤(b.length:Int))∧(Zni a b band (tb'.set t16.toNat ((at_ tb' t16.toNat).set t27.toNat (0+(Zcb (at_ a t16.toNat) (at_ b t27.toNat))))) t16.toNat∧Zkz a b band (at_ (tb'.set t16.toNat ((at_ tb' t16.toNat).set t27.toNat (0+(Zcb (at_ a t16.toNat) (at_ b t27.toNat))))) t16.toNat) t16.toNat (t27+1).toNat)∧True from ⟨om,(by rw [show (t27+1).toNat=t27.toNat+1 from by omega];exact Zla hin.1 hin.2 hi hj (by rw [hlb.2];first|exact (Zjt (by first|(left;rw [hix,hjx];omega)|(right;(try rw [if_neg om]);(try rw [if_pos om]);omega))).symm|(rw [Zfh (by rw [hix,hjx];omega) (by first|(rw [if_neg om];omega)|(rw [if_pos om];decide))];first|rw [if_neg om]|rw [if_pos om]))),trivial⟩) (by first|(show (((b.length:Int)-(t27+1)).toNat:Nat)<((b.length:Int)-t27).toNat;omega)|(dsimp only;omega))
       refine x_q [(1,.dec true),(4,.dec false)] [0,1,2,7,8,9,10,15,16,26,27,39] [13,8401] [_,_] ⟨h3,h4,trivial⟩ (Zab (Zga (Zbd (Zab (Zak ?_)))))
       by_cases h6:band<((t16-t27).natAbs:Int)
       ·refine x_q [(3,.call [(true,.any)] true (I ((t16-t27).natAbs:Int))),(5,.dec true)] [0,1,2,7,8,9,10,15,16,26,27,49] [13,8401] [inR .i64 (t16-t27),_∧True,_] ⟨(Zad om om),⟨(Zkh (t16-t27) om),trivial⟩,h6,trivial⟩ (Zab (Zeh ?_))
        refine x_r [] [0,1,2,7,8,15,16,26,27] [13,8401] [Zag false a,Zag false b,I band,.arr 13,I t16,I (a.length:Int),I t16,I (b.length:Int),I t27] [some (Zlc 8401 tb'),some (.fam tb'.length 1 (mLI tb') (fun q=>bif Nat.beq q t16.toNat then (fun q=>bif Nat.beq q t27.toNat then [I 1099511627776] else (gLI tb') t16.toNat q) else (gLI tb') q))] [(0:Int)≤t16∧t16<(tb'.length:Int),t16.toNat<tb'.length,t16.toNat<tb'.length∧(0:Int)≤t27∧t27<(((at_ tb' t16.toNat).length):Int),t16.toNat<tb'.length∧t27.toNat<(at_ tb' t16.toNat).length] ⟨⟨om,om⟩,om,⟨om,om,om⟩,⟨om,om⟩,trivial⟩ (Zba 3 (Zab ?_))
        refine Zdh [] (T:=[(0,Zag false a),(1,Zag false b),(2,I band),(7,.arr 13),(8,I t16),(15,I (a.length:Int)),(16,I t16),(26,I (b.length:Int)),(27,I t27)]) (O:=[(13,Zlc 8401 (tb'.set t16.toNat ((at_ tb' t16.toNat).set t27.toNat 1099511627776))),(8401,Zna (tb'.set t16.toNat ((at_ tb' t16.toNat).set t27.toNat 1099511627776)))]) rfl (⟨.inl rfl,.inl rfl,.inl rfl,.inl rfl,.inl rfl,.inl rfl,.inl rfl,.inl rfl,.inl rfl,trivial⟩) (⟨.inr ⟨rfl,rfl,(by first|rfl|(simp;done)|omega),fun i_ hi_=> .inl (Zor 8401 t16.toNat tb' ((at_ tb' t16.toNat).set t27.toNat 1099511627776) i_)⟩,.inr (Zos (P:=t16.toNat) (k:=t27.toNat) (om) (om) (by simp only [Nat.beq_refl,cond_true];try rfl) (by intro i hi;simp only [Nat.beq_refl,cond_true,Zgn hi,cond_false];try rfl) (by intro p hp;simp only [Zgn hp,cond_false])),trivial⟩) ?_
        refine x_r [] [0,1,2,7,8,15,16,26,27] [13,8401] [Zag false a,Zag false b,I band,.arr 13,I t16,I (a.length:Int),I t16,I (b.length:Int),I (t27+1)] [some (Zlc 8401 (tb'.set t16.toNat ((at_ tb' t16.toNat).set t27.toNat 1099511627776))),some (Zna (tb'.set t16.toNat ((at_ tb' t16.toNat).set t27.toNat 1099511627776)))] [inR .i64 (t27+1)] ⟨(Zad om om),trivial⟩ ?_
        exact Zay ((t27+1),(tb'.set t16.toNat ((at_ tb' t16.toNat).set t27.toNat 1099511627776))) rfl (show (0≤(t27+1)∧(t27+1)≤(b.length:Int))∧(Zni a b band (tb'.set t16.toNat ((at_ tb' t16.toNat).set t27.toNat 1099511627776)) t16.toNat∧Zkz a b band (at_ (tb'.set t16.toNat ((at_ tb' t16.toNat).set t27.toNat 1099511627776)) t16.toNat) t16.toNat (t27+1).toNat)∧True from ⟨om,(by rw [show (t27+1).toNat=t27.toNat+1 from by omega];exact Zla hin.1 hin.2 hi hj (by rw [hlb.2];first|exact (Zjt (by first|(left;rw [hix,hjx];omega)|(right;(try rw [if_neg om]);(try rw [if_pos om]);omega))).symm|(rw [Zfh (by rw [hix,hjx];omega) (by first|(rw [if_neg om];omega)|(rw [if_pos om];decide))];first|rw [if_neg om]|rw [if_pos om]))),trivial⟩) (by first|(show (((b.length:Int)-(t27+1)).toNat:Nat)<((b.length:Int)-t27).toNat;omega)|(dsimp only;omega))
       by_cases h7:1099511627776≤(lb3 tb' t16 t27)
       ·refine x_q [(3,.call [(true,.any)] true (I ((t16-t27).natAbs:Int))),(5,.dec false),(8,.dec true)] [0,1,2,7,8,9,10,15,16,26,27,49] [13,8401] [inR .i64 (t16-t27),_∧True,_,_] ⟨(Zad om om),⟨(Zkh (t16-t27) om),trivial⟩,h6,h7,trivial⟩ (Zab (Zeh ?_))
        refine x_r [] [0,1,2,7,8,15,16,26,27] [13,8401] [Zag false a,Zag false b,I band,.arr 13,I t16,I (a.length:Int),I t16,I (b.length:Int),I t27] [some (Zlc 8401 tb'),some (.fam tb'.length 1 (mLI tb') (fun q=>bif Nat.beq q t16.toNat then (fun q=>bif Nat.beq q t27.toNat then [I 1099511627776] else (gLI tb') t16.toNat q) else (gLI tb') q))] [(0:Int)≤t16∧t16<(tb'.length:Int),t16.toNat<tb'.length,t16.toNat<tb'.length∧(0:Int)≤t27∧t27<(((at_ tb' t16.toNat).length):Int),t16.toNat<tb'.length∧t27.toNat<(at_ tb' t16.toNat).length] ⟨⟨om,om⟩,om,⟨om,om,om⟩,⟨om,om⟩,trivial⟩ (Zba 3 (Zab ?_))
        refine Zdh [] (T:=[(0,Zag false a),(1,Zag false b),(2,I band),(7,.arr 13),(8,I t16),(15,I (a.length:Int)),(16,I t16),(26,I (b.length:Int)),(27,I t27)]) (O:=[(13,Zlc 8401 (tb'.set t16.toNat ((at_ tb' t16.toNat).set t27.toNat 1099511627776))),(8401,Zna (tb'.set t16.toNat ((at_ tb' t16.toNat).set t27.toNat 1099511627776)))]) rfl (⟨.inl rfl,.inl rfl,.inl rfl,.inl rfl,.inl rfl,.inl rfl,.inl rfl,.inl rfl,.inl rfl,trivial⟩) (⟨.inr ⟨rfl,rfl,(by first|rfl|(simp;done)|omega),fun i_ hi_=> .inl (Zor 8401 t16.toNat tb' ((at_ tb' t16.toNat).set t27.toNat 1099511627776) i_)⟩,.inr (Zos (P:=t16.toNat) (k:=t27.toNat) (om) (om) (by simp only [Nat.beq_refl,cond_true];try rfl) (by intro i hi;simp only [Nat.beq_refl,cond_true,Zgn hi,cond_false];try rfl) (by intro p hp;simp only [Zgn hp,cond_false])),trivial⟩) ?_
        refine x_r [] [0,1,2,7,8,15,16,26,27] [13,8401] [Zag false a,Zag false b,I band,.arr 13,I t16,I (a.length:Int),I t16,I (b.length:Int),I (t27+1)] [some (Zlc 8401 (tb'.set t16.toNat ((at_ tb' t16.toNat).set t27.toNat 1099511627776))),some (Zna (tb'.set t16.toNat ((at_ tb' t16.toNat).set t27.toNat 1099511627776)))] [inR .i64 (t27+1)] ⟨(Zad om om),trivial⟩ ?_
        exact Zay ((t27+1),(tb'.set t16.toNat ((at_ tb' t16.toNat).set t27.toNat 1099511627776))) rfl (show (0≤(t27+1)∧(t27+1)≤(b.length:Int))∧(Zni a b band (tb'.set t16.toNat ((at_ tb' t16.toNat).set t27.toNat 1099511627776)) t16.toNat∧Zkz a b band (at_ (tb'.set t16.toNat ((at_ tb' t16.toNat).set t27.toNat 1099511627776)) t16.toNat) t16.toNat (t27+1).toNat)∧True from ⟨om,(by rw [show (t27+1).toNat=t27.toNat+1 from by omega];exact Zla hin.1 hin.2 hi hj (by rw [hlb.2];first|exact (Zjt (by first|(left;rw [hix,hjx];omega)|(right;(try rw [if_neg om]);(try rw [if_pos om]);omega))).symm|(rw [Zfh (by rw [hix,hjx];omega) (by first|(rw [if_neg om];omega)|(rw [if_pos om];decide))];first|rw [if_neg om]|rw [if_pos om]))),trivial⟩) (by first|(show (((b.length:Int)-(t27+1)).toNat:Nat)<((b.length:Int)-t27).toNat;omega)|(dsimp only;omega))
       refine x_q [(3,.call [(true,.any)] true (I ((t16-t27).natAbs:Int))),(5,.dec false),(8,.dec false)] [0,1,2,7,8,9,10,15,16,26,27,49] [13,8401] [inR .i64 (t16-t27),_∧True,_,_] ⟨(Zad om om),⟨(Zkh (t16-t27) om),trivial⟩,h6,h7,trivial⟩ (Zab (Zga ?_))
       refine x_r [(14,.call [(true,.any),(true,.any)] true (I (Zcb (at_ a t16.toNat) (at_ b t27.toNat))))] [0,1,2,7,8,15,16,26,27] [13,8401] [Zag false a,Zag false b,I band,.arr 13,I t16,I (a.length:Int),I t16,I (b.length:Int),I t27] [some (Zlc 8401 tb'),some (.fam tb'.length 1 (mLI tb') (fun q=>bif Nat.beq q t16.toNat then (fun q=>bif Nat.beq q t27.toNat then [I ((lb3 tb' t16 t27)+(Zcb (at_ a t16.toNat) (at_ b t27.toNat)))] else (gLI tb') t16.toNat q) else (gLI tb') q))] [(0:Int)≤t16∧t16<(tb'.length:Int),t16.toNat<tb'.length,(0:Int)≤t16∧t16<(a.length:Int),(0:Int)≤t27∧t27<(b.length:Int),_∧True,inR .i64 ((lb3 tb' t16 t27)+(Zcb (at_ a t16.toNat) (at_ b t27.toNat))),t16.toNat<tb'.length∧(0:Int)≤t27∧t27<(((at_ tb' t16.toNat).length):Int),t16.toNat<tb'.length∧t27.toNat<(at_ tb' t16.toNat).length] ⟨⟨om,om⟩,om,⟨om,om⟩,⟨om,om⟩,⟨(Zgr (at_ a t16.toNat) (at_ b t27.toNat) (by first|exact hab.1 _ om|exact hab.2.1 _ om) (by first|exact hab.1 _ om|exact hab.2.1 _ om)),trivial⟩,(Zad om om),⟨om,om,om⟩,⟨om,om⟩,trivial⟩ (Zba 3 (Zab ?_))
       refine Zdh [] (T:=[(0,Zag false a),(1,Zag false b),(2,I band),(7,.arr 13),(8,I t16),(15,I (a.length:Int)),(16,I t16),(26,I (b.length:Int)),(27,I t27)]) (O:=[(13,Zlc 8401 (tb'.set t16.toNat ((at_ tb' t16.toNat).set t27.toNat ((lb3 tb' t16 t27)+(Zcb (at_ a t16.toNat) (at_ b t27.toNat)))))),(8401,Zna (tb'.set t16.toNat ((at_ tb' t16.toNat).set t27.toNat ((lb3 tb' t16 t27)+(Zcb (at_ a t16.toNat) (at_ b t27.toNat))))))]) rfl (⟨.inl rfl,.inl rfl,.inl rfl,.inl rfl,.inl rfl,.inl rfl,.inl rfl,.inl rfl,.inl rfl,trivial⟩) (⟨.inr ⟨rfl,rfl,(by first|rfl|(simp;done)|omega),fun i_ hi_=> .inl (Zor 8401 t16.toNat tb' ((at_ tb' t16.toNat).set t27.toNat ((lb3 tb' t16 t27)+(Zcb (at_ a t16.toNat) (at_ b t27.toNat)))) i_)⟩,.inr (Zos (P:=t16.toNat) (k:=t27.toNat) (om) (om) (by simp only [Nat.beq_refl,cond_true];try rfl) (by intro i hi;simp only [Nat.beq_refl,cond_true,Zgn hi,cond_false];try rfl) (by intro p hp;simp only [Zgn hp,cond_false])),trivial⟩) ?_
       refine x_r [] [0,1,2,7,8,15,16,26,27] [13,8401] [Zag false a,Zag false b,I band,.arr 13,I t16,I (a.length:Int),I t16,I (b.length:Int),I (t27+1)] [some (Zlc 8401 (tb'.set t16.toNat ((at_ tb' t16.toNat).set t27.toNat ((lb3 tb' t16 t27)+(Zcb (at_ a t16.toNat) (at_ b t27.toNat)))))),some (Zna (tb'.set t16.toNat ((at_ tb' t16.toNat).set t27.toNat ((lb3 tb' t16 t27)+(Zcb (at_ a t16.toNat) (at_ b t27.toNat))))))] [inR .i64 (t27+1)] ⟨(Zad om om),trivial⟩ ?_
       exact Zay ((t27+1),(tb'.set t16.toNat ((at_ tb' t16.toNat).set t27.toNat ((lb3 tb' t16 t27)+(Zcb (at_ a t16.toNat) (at_ b t27.toNat)))))) rfl (show (0≤(t27+1)∧(t27+1)≤(b.length:Int))∧(Zni a b band (tb'.set t16.toNat ((at_ tb' t16.toNat).set t27.toNat ((lb3 tb' t16 t27)+(Zcb (at_ a t16.toNat) (at_ b t27.toNat))))) t16.toNat∧Zkz a b band (at_ (tb'.set t16.toNat ((at_ tb' t16.toNat).set t27.toNat ((lb3 tb' t16 t27)+(Zcb (at_ a t16.toNat) (at_ b t27.toNat))))) t16.toNat) t16.toNat (t27+1).toNat)∧True from ⟨om,(by rw [show (t27+1).toNat=t27.toNat+1 from by omega];exact Zla hin.1 hin.2 hi hj (by rw [hlb.2];first|exact (Zjt (by first|(left;rw [hix,hjx];omega)|(right;(try rw [if_neg om]);(try rw [if_pos om]);omega))).symm|(rw [Zfh (by rw [hix,hjx];omega) (by first|(rw [if_neg om];omega)|(rw [if_pos om];decide))];first|rw [if_neg om]|rw [if_pos om]))),trivial⟩) (by first|(show (((b.length:Int)-(t27+1)).toNat:Nat)<((b.length:Int)-t27).toNat;omega)|(dsimp only;omega))
      refine x_q [(1,.dec false)] [0,1,2,7,8,9,10,15,16,26,27,39] [13,8401] [_] ⟨h3,trivial⟩ (Zab (Zga (Zbd (Zab (Zak ?_)))))
      by_cases h8:band<((t16-t27).natAbs:Int)
      ·refine x_q [(3,.call [(true,.any)] true (I ((t16-t27).natAbs:Int))),(5,.dec true)] [0,1,2,7,8,9,10,15,16,26,27,49] [13,8401] [inR .i64 (t16-t27),_∧True,_] ⟨(Zad om om),⟨(Zkh (t16-t27) om),trivial⟩,h8,trivial⟩ (Zab (Zeh ?_))
       refine x_r [] [0,1,2,7,8,15,16,26,27] [13,8401] [Zag false a,Zag false b,I band,.arr 13,I t16,I (a.length:Int),I t16,I (b.length:Int),I t27] [some (Zlc 8401 tb'),some (.fam tb'.length 1 (mLI tb') (fun q=>bif Nat.beq q t16.toNat then (fun q=>bif Nat.beq q t27.toNat then [I 1099511627776] else (gLI tb') t16.toNat q) else (gLI tb') q))] [(0:Int)≤t16∧t16<(tb'.length:Int),t16.toNat<tb'.length,t16.toNat<tb'.length∧(0:Int)≤t27∧t27<(((at_ tb' t16.toNat).length):Int),t16.toNat<tb'.length∧t27.toNat<(at_ tb' t16.toNat).length] ⟨⟨om,om⟩,om,⟨om,om,om⟩,⟨om,om⟩,trivial⟩ (Zba 3 (Zab ?_))
       refine Zdh [] (T:=[(0,Zag false a),(1,Zag false b),(2,I band),(7,.arr 13),(8,I t16),(15,I (a.length:Int)),(16,I t16),(26,I (b.length:Int)),(27,I t27)]) (O:=[(13,Zlc 8401 (tb'.set t16.toNat ((at_ tb' t16.toNat).set t27.toNat 1099511627776))),(8401,Zna (tb'.set t16.toNat ((at_ tb' t16.toNat).set t27.toNat 1099511627776)))]) rfl (⟨.inl rfl,.inl rfl,.inl rfl,.inl rfl,.inl rfl,.inl rfl,.inl rfl,.inl rfl,.inl rfl,trivial⟩) (⟨.inr ⟨rfl,rfl,(by first|rfl|(simp;done)|omega),fun i_ hi_=> .inl (Zor 8401 t16.toNat tb' ((at_ tb' t16.toNat).set t27.toNat 1099511627776) i_)⟩,.inr (Zos (P:=t16.toNat) (k:=t27.toNat) (om) (om) (by simp only [Nat.beq_refl,cond_true];try rfl) (by intro i hi;simp only [Nat.beq_refl,cond_true,Zgn hi,cond_false];try rfl) (by intro p hp;simp only [Zgn hp,cond_false])),trivial⟩) ?_
       refine x_r [] [0,1,2,7,8,15,16,26,27] [13,8401] [Zag false a,Zag false b,I band,.arr 13,I t16,I (a.length:Int),I t16,I (b.length:Int),I (t27+1)] [some (Zlc 8401 (tb'.set t16.toNat ((at_ tb' t16.toNat).set t27.toNat 1099511627776))),some (Zna (tb'.set t16.toNat ((at_ tb' t16.toNat).set t27.toNat 1099511627776)))] [inR .i64 (t27+1)] ⟨(Zad om om),trivial⟩ ?_
       exact Zay ((t27+1),(tb'.set t16.toNat ((at_ tb' t16.toNat).set t27.toNat 1099511627776))) rfl (show (0≤(t27+1)∧(t27+1)≤(b.length:Int))∧(Zni a b band (tb'.set t16.toNat ((at_ tb' t16.toNat).set t27.toNat 1099511627776)) t16.toNat∧Zkz a b band (at_ (tb'.set t16.toNat ((at_ tb' t16.toNat).set t27.toNat 1099511627776)) t16.toNat) t16.toNat (t27+1).toNat)∧True from ⟨om,(by rw [show (t27+1).toNat=t27.toNat+1 from by omega];exact Zla hin.1 hin.2 hi hj (by rw [hlb.2];first|exact (Zjt (by first|(left;rw [hix,hjx];omega)|(right;(try rw [if_neg om]);(try rw [if_pos om]);omega))).symm|(rw [Zfh (by rw [hix,hjx];omega) (by first|(rw [if_neg om];omega)|(rw [if_pos om];decide))];first|rw [if_neg om]|rw [if_pos om]))),trivial⟩) (by first|(show (((b.length:Int)-(t27+1)).toNat:Nat)<((b.length:Int)-t27).toNat;omega)|(dsimp only;omega))
      by_cases h9:1099511627776≤(lb3 tb' t16 t27)
      ·refine x_q [(3,.call [(true,.any)] true (I ((t16-t27).natAbs:Int))),(5,.dec false),(8,.dec true)] [0,1,2,7,8,9,10,15,16,26,27,49] [13,8401] [inR .i64 (t16-t27),_∧True,_,_] ⟨(Zad om om),⟨(Zkh (t16-t27) om),trivial⟩,h8,h9,trivial⟩ (Zab (Zeh ?_))
       refine x_r [] [0,1,2,7,8,15,16,26,27] [13,8401] [Zag false a,Zag false b,I band,.arr 13,I t16,I (a.length:Int),I t16,I (b.length:Int),I t27] [some (Zlc 8401 tb'),some (.fam tb'.length 1 (mLI tb') (fun q=>bif Nat.beq q t16.toNat then (fun q=>bif Nat.beq q t27.toNat then [I 1099511627776] else (gLI tb') t16.toNat q) else (gLI tb') q))] [(0:Int)≤t16∧t16<(tb'.length:Int),t16.toNat<tb'.length,t16.toNat<tb'.length∧(0:Int)≤t27∧t27<(((at_ tb' t16.toNat).length):Int),t16.toNat<tb'.length∧t27.toNat<(at_ tb' t16.toNat).length] ⟨⟨om,om⟩,om,⟨om,om,om⟩,⟨om,om⟩,trivial⟩ (Zba 3 (Zab ?_))
       refine Zdh [] (T:=[(0,Zag false a),(1,Zag false b),(2,I band),(7,.arr 13),(8,I t16),(15,I (a.length:Int)),(16,I t16),(26,I (b.length:Int)),(27,I t27)]) (O:=[(13,Zlc 8401 (tb'.set t16.toNat ((at_ tb' t16.toNat).set t27.toNat 1099511627776))),(8401,Zna (tb'.set t16.toNat ((at_ tb' t16.toNat).set t27.toNat 1099511627776)))]) rfl (⟨.inl rfl,.inl rfl,.inl rfl,.inl rfl,.inl rfl,.inl rfl,.inl rfl,.inl rfl,.inl rfl,trivial⟩) (⟨.inr ⟨rfl,rfl,(by first|rfl|(simp;done)|omega),fun i_ hi_=> .inl (Zor 8401 t16.toNat tb' ((at_ tb' t16.toNat).set t27.toNat 1099511627776) i_)⟩,.inr (Zos (P:=t16.toNat) (k:=t27.toNat) (om) (om) (by simp only [Nat.beq_refl,cond_true];try rfl) (by intro i hi;simp only [Nat.beq_refl,cond_true,Zgn hi,cond_false];try rfl) (by intro p hp;simp only [Zgn hp,cond_false])),trivial⟩) ?_
       refine x_r [] [0,1,2,7,8,15,16,26,27] [13,8401] [Zag false a,Zag false b,I band,.arr 13,I t16,I (a.length:Int),I t16,I (b.length:Int),I (t27+1)] [some (Zlc 8401 (tb'.set t16.toNat ((at_ tb' t16.toNat).set t27.toNat 1099511627776))),some (Zna (tb'.set t16.toNat ((at_ tb' t16.toNat).set t27.toNat 1099511627776)))] [inR .i64 (t27+1)] ⟨(Zad om om),trivial⟩ ?_
       exact Zay ((t27+1),(tb'.set t16.toNat ((at_ tb' t16.toNat).set t27.toNat 1099511627776))) rfl (show (0≤(t27+1)∧(t27+1)≤(b.length:Int))∧(Zni a b band (tb'.set t16.toNat ((at_ tb' t16.toNat).set t27.toNat 1099511627776)) t16.toNat∧Zkz a b band (at_ (tb'.set t16.toNat ((at_ tb' t16.toNat).set t27.toNat 1099511627776)) t16.toNat) t16.toNat (t27+1).toNat)∧True from ⟨om,(by rw [show (t27+1).toNat=t27.toNat+1 from by omega];exact Zla hin.1 hin.2 hi hj (by rw [hlb.2];first|exact (Zjt (by first|(left;rw [hix,hjx];omega)|(right;(try rw [if_neg om]);(try rw [if_pos om]);omega))).symm|(rw [Zfh (by rw [hix,hjx];omega) (by first|(rw [if_neg om];omega)|(rw [if_pos om];decide))];first|rw [if_neg om]|rw [if_pos om]))),trivial⟩) (by first|(show (((b.length:Int)-(t27+1)).toNat:Nat)<((b.length:Int)-t27).toNat;omega)|(dsimp only;omega))
      refine x_q [(3,.call [(true,.any)] true (I ((t16-t27).natAbs:Int))),(5,.dec false),(8,.dec false)] [0,1,2,7,8,9,10,15,16,26,27,49] [13,8401] [inR .i64 (t16-t27),_∧True,_,_] ⟨(Zad om om),⟨(Zkh (t16-t27) om),trivial⟩,h8,h9,trivial⟩ (Zab (Zga ?_))
      refine x_r [(14,.call [(true,.any),(true,.any)] true (I (Zcb (at_ a t16.toNat) (at_ b t27.toNat))))] [0,1,2,7,8,15,16,26,27] [13,8401] [Zag false a,Zag false b,I band,.arr 13,I t16,I (a.length:Int),I t16,I (b.length:Int),I t27] [some (Zlc 8401 tb'),some (.fam tb'.length 1 (mLI tb') (fun q=>bif Nat.beq q t16.toNat then (fun q=>bif Nat.beq q t27.toNat then [I ((lb3 tb' t16 t27)+(Zcb (at_ a t16.toNat) (at_ b t27.toNat)))] else (gLI tb') t16.toNat q) else (gLI tb') q))] [(0:Int)≤t16∧t16<(tb'.length:Int),t16.toNat<tb'.length,(0:Int)≤t16∧t16<(a.length:Int),(0:Int)≤t27∧t27<(b.length:Int),_∧True,inR .i64 ((lb3 tb' t16 t27)+(Zcb (at_ a t16.toNat) (at_ b t27.toNat))),t16.toNat<tb'.length∧(0:Int)≤t27∧t27<(((at_ tb' t16.toNat).length):Int),t16.toNat<tb'.length∧t27.toNat<(at_ tb' t16.toNat).length] ⟨⟨om,om⟩,om,⟨om,om⟩,⟨om,om⟩,⟨(Zgr (at_ a t16.toNat) (at_ b t27.toNat) (by first|exact hab.1 _ om|exact hab.2.1 _ om) (by first|exact hab.1 _ om|exact hab.2.1 _ om)),trivial⟩,(Zad om om),⟨om,om,om⟩,⟨om,om⟩,trivial⟩ (Zba 3 (Zab ?_))
      refine Zdh [] (T:=[(0,Zag false a),(1,Zag false b),(2,I band),(7,.arr 13),(8,I t16),(15,I (a.length:Int)),(16,I t16),(26,I (b.length:Int)),(27,I t27)]) (O:=[(13,Zlc 8401 (tb'.set t16.toNat ((at_ tb' t16.toNat).set t27.toNat ((lb3 tb' t16 t27)+(Zcb (at_ a t16.toNat) (at_ b t27.toNat)))))),(8401,Zna (tb'.set t16.toNat ((at_ tb' t16.toNat).set t27.toNat ((lb3 tb' t16 t27)+(Zcb (at_ a t16.toNat) (at_ b t27.toNat))))))]) rfl (⟨.inl rfl,.inl rfl,.inl rfl,.inl rfl,.inl rfl,.inl rfl,.inl rfl,.inl rfl,.inl rfl,trivial⟩) (⟨.inr ⟨rfl,rfl,(by first|rfl|(simp;done)|omega),fun i_ hi_=> .inl (Zor 8401 t16.toNat tb' ((at_ tb' t16.toNat).set t27.toNat ((lb3 tb' t16 t27)+(Zcb (at_ a t16.toNat) (at_ b t27.toNat)))) i_)⟩,.inr (Zos (P:=t16.toNat) (k:=t27.toNat) (om) (om) (by simp only [Nat.beq_refl,cond_true];try rfl) (by intro i hi;simp only [Nat.beq_refl,cond_true,Zgn hi,cond_false];try rfl) (by intro p hp;simp only [Zgn hp,cond_false])),trivial⟩) ?_
      refine x_r [] [0,1,2,7,8,15,16,26,27] [13,8401] [Zag false a,Zag false b,I band,.arr 13,I t16,I (a.length:Int),I t16,I (b.length:Int),I (t27+1)] [some (Zlc 8401 (tb'.set t16.toNat ((at_ tb' t16.toNat).set t27.toNat ((lb3 tb' t16 t27)+(Zcb (at_ a t16.toNat) (at_ b t27.toNat)))))),some (Zna (tb'.set t16.toNat ((at_ tb' t16.toNat).set t27.toNat ((lb3 tb' t16 t27)+(Zcb (at_ a t16.toNat) (at_ b t27.toNat))))))] [inR .i64 (t27+1)] ⟨(Zad om om),trivial⟩ ?_
      exact Zay ((t27+1),(tb'.set t16.toNat ((at_ tb' t16.toNat).set t27.toNat ((lb3 tb' t16 t27)+(Zcb (at_ a t16.toNat) (at_ b t27.toNat)))))) rfl (show (0≤(t27+1)∧(t27+1)≤(b.length:Int))∧(Zni a b band (tb'.set t16.toNat ((at_ tb' t16.toNat).set t27.toNat ((lb3 tb' t16 t27)+(Zcb (at_ a t16.toNat) (at_ b t27.toNat))))) t16.toNat∧Zkz a b band (at_ (tb'.set t16.toNat ((at_ tb' t16.toNat).set t27.toNat ((lb3 tb' t16 t27)+(Zcb (at_ a t16.toNat) (at_ b t27.toNat))))) t16.toNat) t16.toNat (t27+1).toNat)∧True from ⟨om,(by rw [show (t27+1).toNat=t27.toNat+1 from by omega];exact Zla hin.1 hin.2 hi hj (by rw [hlb.2];first|exact (Zjt (by first|(left;rw [hix,hjx];omega)|(right;(try rw [if_neg om]);(try rw [if_pos om]);omega))).symm|(rw [Zfh (by rw [hix,hjx];omega) (by first|(rw [if_neg om];omega)|(rw [if_pos om];decide))];first|rw [if_neg om]|rw [if_pos om]))),trivial⟩) (by first|(show (((b.length:Int)-(t27+1)).toNat:Nat)<((b.length:Int)-t27).toNat;omega)|(dsimp only;omega))
     have hje:t27.toNat=b.length:=by omega
     refine x_r [(0,.dec false)] [0,1,2,7,8,15,16,26,27,28] [13,8401] [Zag false a,Zag false b,I band,.arr 13,I t16,I (a.length:Int),I t16,I (b.length:Int),I t27,Bv false] [some (Zlc 8401 tb'),some (Zna tb')] [_] ⟨h2,trivial⟩ (Zab (Zak (Zbt rfl (Zcp (Zas ?_)))))
     refine Zax ?_
     refine Zat (Zba 1 (Zab ?_))
     refine x_r [] [0,1,2,7,15,16] [13,8401] [Zag false a,Zag false b,I band,.arr 13,I (a.length:Int),I (t16+1)] [some (Zlc 8401 tb'),some (Zna tb')] [inR .i64 (t16+1)] ⟨(Zad om om),trivial⟩ ?_
     exact Zay ((t16+1),tb') rfl (show (0≤(t16+1)∧(t16+1)≤(a.length:Int))∧(Zni a b band tb' (t16+1).toNat)∧True from ⟨om,(by rw [show (t16+1).toNat=t16.toNat+1 from by omega];exact tb_done hin.1 hin.2 hje),trivial⟩) (by first|(show (((a.length:Int)-(t16+1)).toNat:Nat)<((a.length:Int)-t16).toNat;omega)|(dsimp only;omega))
    have hie:t16.toNat=a.length:=by omega
    rw [hie] at htb
    refine x_r [(0,.dec false)] [0,1,2,7,15,16,17] [13,8401] [Zag false a,Zag false b,I band,.arr 13,I (a.length:Int),I t16,Bv false] [some (Zlc 8401 tb),some (Zna tb)] [_] ⟨h1,trivial⟩ (Zab (Zak (Zbt rfl (Zcp (Zas ?_)))))
    refine Zax ?_
    refine Zat (Zab ?_)
    refine xR [] [6] [13,8401] [.arr 13] [some (Zlc 8401 tb),some (Zna tb)] [] trivial (Zdd ?_)
    refine Zbw tb (show (Zni a b band tb a.length)∧(True) from ⟨(by first|assumption|exact htb),trivial⟩) (trivial) (.arr 13) (by kernel_rfl) (.inr ⟨(fun _=>rfl),rfl,rfl,oleLI _ _ rfl⟩) (fun _=>rfl) (fun _=>(tagLI true _))
  obtain ⟨v,⟨hh0,_⟩,hc⟩:=hh
  exact ⟨v,hh0,hc⟩
theorem tb_last {a b:List Feat} {band:Int} {tb:List (List Int)} (h:Zni a b band tb a.length) (ha:1≤a.length) (hb:1≤b.length):(tb.length=a.length∧(at_ tb (a.length-1)).length=b.length)∧at_ (at_ tb (a.length-1)) (b.length-1)=cv Znh a b band (a.length-1) (b.length-1):=
 ⟨⟨h.1,(h.2 _ om).1⟩,(h.2 _ om).2 _ om⟩
theorem Zth (a:List Feat) (b:List Feat) (band:Int) (hab:Zte a b) (hbd:0≤band∧band≤1000) (h1:1≤a.length∧1≤b.length):∃(v:Int),(v=cv Znh a b band (a.length-1) (b.length-1))∧Con Tryz.prog 33 [Zag false a,Zag false b,I band] true (I v):=by
 have hla:=hab.2.2
 have hh:∃r:Int,((r=cv Znh a b band (a.length-1) (b.length-1))∧(True))∧Zaw Tryz.prog 33 [Zag false a,Zag false b,I band] (Zae []) true (I r) (Zae []):=by
  refine Zcv (Φ:=fun r:Int=>(r=cv Znh a b band (a.length-1) (b.length-1))∧(True)) [] (fun r=>[]) (fn:=Tryz.f33) (nt:=21) Tryz.func33 rfl rfl (args:=[Zag false a,Zag false b,I band]) rfl (Zbc (.inl ⟨rfl,Zdx false _⟩) (Zbc (.inl ⟨rfl,Zdx false _⟩) (Zbc (.inl ⟨rfl,trivial⟩) Zcw))) (res:=fun r=>I r) ?_
  refine xQ [] [0,1,2] [] [] trivial (Zak ?_)
  obtain ⟨v_1,hx1_0,hc1⟩:=Zyl a b band hab om
  have htl:=tb_last hx1_0 h1.1 h1.2
  have hq1:((a.length:Int)-1).toNat=a.length-1:=by omega
  have hq2:((b.length:Int)-1).toNat=b.length-1:=by omega
  rw [←hq1] at htl
  refine x_r [(3,.call [(true,.any),(true,.any),(true,.any)] true (Zvz true v_1))] [6] [] [I (at_ (at_ v_1 (((a.length:Int)-1).toNat)) (((b.length:Int)-1).toNat))] [] [_∧True,inR .i64 ((a.length:Int)-1),(0:Int)≤((a.length:Int)-1)∧((a.length:Int)-1)<(v_1.length:Int),inR .i64 ((b.length:Int)-1),(0:Int)≤((b.length:Int)-1)∧((b.length:Int)-1)<(((at_ v_1 (((a.length:Int)-1).toNat)).length):Int)] ⟨⟨hc1,trivial⟩,(Zad om om),⟨om,om⟩,(Zad om om),⟨om,om⟩,trivial⟩ (Zab (Zdd ?_))
  refine Zbw (at_ (at_ v_1 (((a.length:Int)-1).toNat)) (((b.length:Int)-1).toNat)) (show ((at_ (at_ v_1 (((a.length:Int)-1).toNat)) (((b.length:Int)-1).toNat))=cv Znh a b band (a.length-1) (b.length-1))∧(True) from ⟨(by (rw [hq2,htl.2,hq1])),trivial⟩) (trivial) (I (at_ (at_ v_1 (((a.length:Int)-1).toNat)) (((b.length:Int)-1).toNat))) (by kernel_rfl) (.inl rfl) (fun _=>rfl) (fun _=>trivial)
 obtain ⟨v,⟨hh0,_⟩,hc⟩:=hh
 exact ⟨v,hh0,hc⟩
theorem band_of3 {n m band:Int} (h:(inB band 0 72&&decide (((n-m).natAbs:Int)≤band))=true) {a b:Nat} (ha:n=(a:Int):=by rfl) (hb:m=(b:Int):=by rfl):Zlb band a b:=by
 simp only [Bool.and_eq_true,decide_eq_true_eq,inB] at h
 unfold Zlb;omega
theorem cst_eq {a:List Feat} {ls:List (List Feat)} {band:Int} {k:Nat} (ha:Zbf a 72=true) (hb:Zbf (at_ ls k) 72=true) (h:Zlb band a.length (at_ ls k).length):cv Znh a (at_ ls k) band (a.length-1) ((at_ ls k).length-1)=Zyx a ls band k:=by
 have n1:=Zdr ha
 have n2:=Zdr hb
 rcases cv_fin (band:=band) (i:=a.length-1) (j:=(at_ ls k).length-1) (Zrb ha hb) om om with g|g
 ·exact g.2.1
 ·exact absurd (Ycr h n1.1 n2.1) g.1
theorem Zkd (a:List Feat) (lists:List (List Feat)) (band:Int) (oka:Zbf a 72=true) (hls:lists.length≤18∧∀l∈lists,Zbf l 72=true) (hbd:0≤band∧band≤72):∃(index:Int) (least:Int) (many:Int) (c:Int),(Zls a lists band lists.length index least many)∧(c=if many=0 then 3 else 0)∧(many=0→index=0∧least=0)∧Con Tryz.prog 11 [Zag false a,Zbu false lists,I band] true (.tup [I index,I least,I many,I c]):=by
  have hh:∃r:Int×Int×Int×Int,((Zls a lists band lists.length r.1 r.2.1 r.2.2.1)∧(r.2.2.2=if r.2.2.1=0 then 3 else 0)∧(r.2.2.1=0→r.1=0∧r.2.1=0)∧(True))∧Zaw Tryz.prog 11 [Zag false a,Zbu false lists,I band] (Zae []) true (.tup [I r.1,I r.2.1,I r.2.2.1,I r.2.2.2]) (Zae []):=by
    refine Zcv (Φ:=fun r:Int×Int×Int×Int=>(Zls a lists band lists.length r.1 r.2.1 r.2.2.1)∧(r.2.2.2=if r.2.2.1=0 then 3 else 0)∧(r.2.2.1=0→r.1=0∧r.2.1=0)∧(True)) [] (fun r=>[]) (fn:=Tryz.f11) (nt:=71) Tryz.func11 rfl rfl (args:=[Zag false a,Zbu false lists,I band]) rfl (Zbc (.inl ⟨rfl,Zdx false _⟩) (Zbc (.inl ⟨rfl,Zmv false _⟩) (Zbc (.inl ⟨rfl,trivial⟩) Zcw))) (res:=fun r=> .tup [I r.1,I r.2.1,I r.2.2.1,I r.2.2.2]) ?_
    refine xQ [] [0,1,2] [] [] trivial (Zak ?_)
    refine xQ [(3,.call [(true,.any),(true,.any),(true,.any)] true (I 0))] [0,1,2,10] [] [_∧True] ⟨⟨(Zvw a lists band oka hls hbd),trivial⟩,trivial⟩ ?_
    refine xQ [(1,.dec false)] [0,1,2,10,22] [] [¬ ((0:Int)≠0)] ⟨(fun hq=>hq (by decide)),trivial⟩ (Zga (Zbd (Zab ?_)))
    refine xQ [] [0,1,2,11,12,13] [] [] trivial (Zak ?_)
    refine xR [] [0,2,11,12,13,24,25,26] [] [Zag false a,I band,I 0,I 0,I 0,Zbu false lists,I (lists.length:Int),I 0] [] [] trivial (Zbb ?_)
    refine Zdc (X:=Int×Int×Int×Int) (fun x=>mkS [(0,Zag false a),(2,I band),(11,I x.1),(12,I x.2.1),(13,I x.2.2.1),(24,Zbu false lists),(25,I (lists.length:Int)),(26,I x.2.2.2)] []) (fun x=>(0≤x.2.2.2∧x.2.2.2≤(lists.length:Int))∧(Zls a lists band x.2.2.2.toNat x.1 x.2.1 x.2.2.1)∧(0≤x.2.2.1∧x.2.2.1≤x.2.2.2)∧True) (fun x=>((lists.length:Int)-x.2.2.2).toNat) (0,0,0,0) rfl (show (0≤(0:Int)∧(0:Int)≤(lists.length:Int))∧(Zls a lists band (0:Int).toNat (0:Int) (0:Int) (0:Int))∧(0≤(0:Int)∧(0:Int)≤(0:Int))∧True from ⟨om,(by exact .inl ⟨rfl,fun j hj=>absurd hj (Nat.not_lt_zero _)⟩),om,trivial⟩) (fun x hI=> ?_)
    obtain ⟨index,least,matched,t26⟩:=x
    obtain ⟨hi0,hnr,hmt,_⟩:(0≤t26∧t26≤(lists.length:Int))∧(Zls a lists band t26.toNat index least matched)∧(0≤matched∧matched≤t26)∧True:=hI
    show XW _ _ _ _ (mkS [(0,Zag false a),(2,I band),(11,I index),(12,I least),(13,I matched),(24,Zbu false lists),(25,I (lists.length:Int)),(26,I t26)] []) _ _
    refine Zak ?_
    by_cases h1:t26<(lists.length:Int)
    ·have hi:t26.toNat<lists.length:=by omega
     have hix:((t26.toNat:Nat):Int)=t26:=by omega
     have hnx:(t26+1).toNat=t26.toNat+1:=by omega
     have okl:=hls.2 _ (Zca hi)
     have hna:=Zdr oka
     have hnl:=Zdr okl
     have hol:=Yia a lists band t26.toNat
     refine x_q [(0,.dec true)] [0,2,11,12,13,24,25,26,27] [] [_] ⟨h1,trivial⟩ (Zab (Zak (Zeh (Zbd (Zab (Zak (Zbb ?_)))))))
     refine xQ [] [0,2,11,12,13,14,15,24,25,26] [] [(0:Int)≤t26∧t26<(lists.length:Int)] ⟨⟨om,om⟩,trivial⟩ (Zak (Zak ?_))
     rcases Bool.eq_false_or_eq_true (inB band 0 72&&decide ((((a.length:Int)-(((at_ lists t26.toNat).length):Int)).natAbs:Int)≤band)) with h2|h2
     ·have hin:inL a lists band t26.toNat=true:=h2
      have hinb:Zlb band a.length (at_ lists t26.toNat).length:=(band_of3 h2)
      have hce:cv Znh a (at_ lists t26.toNat) band (a.length-1) ((at_ lists t26.toNat).length-1)=Zyx a lists band t26.toNat:=cst_eq oka okl hinb
      have hlbl:lbI a (at_ lists t26.toNat) band≤Zyx a lists band t26.toNat:=lb_le oka okl hinb
      by_cases h3:0<matched
      ·obtain ⟨v_1,hx1_0,hc1⟩:=Zvy a (at_ lists t26.toNat) band oka okl hbd hinb
       have hlv:=hx1_0
       by_cases h4:least≤v_1
       ·refine x_q [(5,.call [(true,.any),(true,.any),(true,.any)] true (Bv true)),(9,.dec true),(14,.call [(true,.any),(true,.any),(true,.any)] true (I v_1)),(16,.dec true)] [0,2,11,12,13,14,15,24,25,26,49] [] [Con Tryz.prog 31 [I band,I (a.length:Int),I (((at_ lists t26.toNat).length):Int)] true (Bv true)∧True,_,_∧True,_] ⟨⟨(Zau h2 (Zmz band (a.length:Int) (((at_ lists t26.toNat).length):Int) om om)),trivial⟩,h3,⟨hc1,trivial⟩,h4,trivial⟩ (Zab (Zeh (Zcp (Zas (Zat (Zab ?_))))))
        refine x_r [] [0,2,11,12,13,24,25,26] [] [Zag false a,I band,I index,I least,I matched,Zbu false lists,I (lists.length:Int),I (t26+1)] [] [inR .i64 (t26+1)] ⟨(Zad om om),trivial⟩ ?_
        exact Zay (index,least,matched,(t26+1)) rfl (show (0≤(t26+1)∧(t26+1)≤(lists.length:Int))∧(Zls a lists band (t26+1).toNat index least matched)∧(0≤matched∧matched≤(t26+1))∧True from ⟨om,(by rw [hnx];first|exact Zfg hnr (fun q=>absurd q hin)|exact Zfg hnr (fun _=>⟨by omega,by omega⟩)|(rw [hel];have q:=Zjo hnr hin (by first|(left;assumption)|(right;omega));rwa [hix] at q)|exact Zjp hnr hin (by assumption) om),om,trivial⟩) (by first|(show (((lists.length:Int)-(t26+1)).toNat:Nat)<((lists.length:Int)-t26).toNat;omega)|(dsimp only;omega))
       refine x_q [(5,.call [(true,.any),(true,.any),(true,.any)] true (Bv true)),(9,.dec true),(14,.call [(true,.any),(true,.any),(true,.any)] true (I v_1)),(16,.dec false)] [0,2,11,12,13,14,15,24,25,26,49] [] [Con Tryz.prog 31 [I band,I (a.length:Int),I (((at_ lists t26.toNat).length):Int)] true (Bv true)∧True,_,_∧True,_] ⟨⟨(Zau h2 (Zmz band (a.length:Int) (((at_ lists t26.toNat).length):Int) om om)),trivial⟩,h3,⟨hc1,trivial⟩,h4,trivial⟩ (Zab (Zga (Zbd (Zab (Zak ?_)))))
       obtain ⟨v_2,hx2_0,hc2⟩:=Zth a (at_ lists t26.toNat) band (Zrb oka okl) om om
       have hel:v_2=Zyx a lists band t26.toNat:=hx2_0.trans hce
       refine x_q [(3,.call [(true,.any),(true,.any),(true,.any)] true (I v_2))] [0,2,11,12,13,14,16,24,25,26] [] [_∧True] ⟨⟨hc2,trivial⟩,trivial⟩ (Zab (Zak (Zak ?_)))
       by_cases h5:matched=0
       ·refine x_q [(1,.dec true)] [0,2,11,12,13,14,16,24,25,26,60] [] [_] ⟨h5,trivial⟩ (Zab (Zeh ?_))
        refine x_q [] [0,2,11,12,13,24,25,26] [] [] trivial (Zab ?_)
        refine x_q [] [0,2,11,12,13,24,25,26] [] [inR .i64 (matched+1)] ⟨(Zad om om),trivial⟩ (Zba 1 (Zab ?_))
        refine x_r [] [0,2,11,12,13,24,25,26] [] [Zag false a,I band,I t26,I v_2,I (matched+1),Zbu false lists,I (lists.length:Int),I (t26+1)] [] [inR .i64 (t26+1)] ⟨(Zad om om),trivial⟩ ?_
        exact Zay (t26,v_2,(matched+1),(t26+1)) rfl (show (0≤(t26+1)∧(t26+1)≤(lists.length:Int))∧(Zls a lists band (t26+1).toNat t26 v_2 (matched+1))∧(0≤(matched+1)∧(matched+1)≤(t26+1))∧True from ⟨om,(by rw [hnx];first|exact Zfg hnr (fun q=>absurd q hin)|exact Zfg hnr (fun _=>⟨by omega,by omega⟩)|(rw [hel];have q:=Zjo hnr hin (by first|(left;assumption)|(right;omega));rwa [hix] at q)|exact Zjp hnr hin (by assumption) om),om,trivial⟩) (by first|(show (((lists.length:Int)-(t26+1)).toNat:Nat)<((lists.length:Int)-t26).toNat;omega)|(dsimp only;omega))
       by_cases h6:v_2<least
       ·refine x_q [(1,.dec false),(5,.dec true)] [0,2,11,12,13,14,16,24,25,26,60] [] [_,_] ⟨h5,h6,trivial⟩ (Zab (Zeh ?_))
        refine x_q [] [0,2,11,12,13,24,25,26] [] [] trivial (Zab ?_)
        refine x_q [] [0,2,11,12,13,24,25,26] [] [inR .i64 (matched+1)] ⟨(Zad om om),trivial⟩ (Zba 1 (Zab ?_))
        refine x_r [] [0,2,11,12,13,24,25,26] [] [Zag false a,I band,I t26,I v_2,I (matched+1),Zbu false lists,I (lists.length:Int),I (t26+1)] [] [inR .i64 (t26+1)] ⟨(Zad om om),trivial⟩ ?_
        exact Zay (t26,v_2,(matched+1),(t26+1)) rfl (show (0≤(t26+1)∧(t26+1)≤(lists.length:Int))∧(Zls a lists band (t26+1).toNat t26 v_2 (matched+1))∧(0≤(matched+1)∧(matched+1)≤(t26+1))∧True from ⟨om,(by rw [hnx];first|exact Zfg hnr (fun q=>absurd q hin)|exact Zfg hnr (fun _=>⟨by omega,by omega⟩)|(rw [hel];have q:=Zjo hnr hin (by first|(left;assumption)|(right;omega));rwa [hix] at q)|exact Zjp hnr hin (by assumption) om),om,trivial⟩) (by first|(show (((lists.length:Int)-(t26+1)).toNat:Nat)<((lists.length:Int)-t26).toNat;omega)|(dsimp only;omega))
       refine x_q [(1,.dec false),(5,.dec false)] [0,2,11,12,13,14,16,24,25,26,60] [] [_,_] ⟨h5,h6,trivial⟩ (Zab (Zga (Zbd (Zab ?_))))
       refine x_q [] [0,2,11,12,13,24,25,26] [] [inR .i64 (matched+1)] ⟨(Zad om om),trivial⟩ (Zba 1 (Zab ?_))
       refine x_r [] [0,2,11,12,13,24,25,26] [] [Zag false a,I band,I index,I least,I (matched+1),Zbu false lists,I (lists.length:Int),I (t26+1)] [] [inR .i64 (t26+1)] ⟨(Zad om om),trivial⟩ ?_
       exact Zay (index,least,(matched+1),(t26+1)) rfl (show (0≤(t26+1)∧(t26+1)≤(lists.length:Int))∧(Zls a lists band (t26+1).toNat index least (matched+1))∧(0≤(matched+1)∧(matched+1)≤(t26+1))∧True from ⟨om,(by rw [hnx];first|exact Zfg hnr (fun q=>absurd q hin)|exact Zfg hnr (fun _=>⟨by omega,by omega⟩)|(rw [hel];have q:=Zjo hnr hin (by first|(left;assumption)|(right;omega));rwa [hix] at q)|exact Zjp hnr hin (by assumption) om),om,trivial⟩) (by first|(show (((lists.length:Int)-(t26+1)).toNat:Nat)<((lists.length:Int)-t26).toNat;omega)|(dsimp only;omega))
      refine x_q [(5,.call [(true,.any),(true,.any),(true,.any)] true (Bv true)),(9,.dec false)] [0,2,11,12,13,14,15,24,25,26,49] [] [Con Tryz.prog 31 [I band,I (a.length:Int),I (((at_ lists t26.toNat).length):Int)] true (Bv true)∧True,_] ⟨⟨(Zau h2 (Zmz band (a.length:Int) (((at_ lists t26.toNat).length):Int) om om)),trivial⟩,h3,trivial⟩ (Zab (Zga (Zbd (Zab (Zak ?_)))))
      obtain ⟨v_3,hx3_0,hc3⟩:=Zth a (at_ lists t26.toNat) band (Zrb oka okl) om om
      have hel:v_3=Zyx a lists band t26.toNat:=hx3_0.trans hce
      refine x_q [(3,.call [(true,.any),(true,.any),(true,.any)] true (I v_3))] [0,2,11,12,13,14,16,24,25,26] [] [_∧True] ⟨⟨hc3,trivial⟩,trivial⟩ (Zab (Zak (Zak ?_)))
      by_cases h7:matched=0
      ·refine x_q [(1,.dec true)] [0,2,11,12,13,14,16,24,25,26,60] [] [_] ⟨h7,trivial⟩ (Zab (Zeh ?_))
       refine x_q [] [0,2,11,12,13,24,25,26] [] [] trivial (Zab ?_)
       refine x_q [] [0,2,11,12,13,24,25,26] [] [inR .i64 (matched+1)] ⟨(Zad om om),trivial⟩ (Zba 1 (Zab ?_))
       refine x_r [] [0,2,11,12,13,24,25,26] [] [Zag false a,I band,I t26,I v_3,I (matched+1),Zbu false lists,I (lists.length:Int),I (t26+1)] [] [inR .i64 (t26+1)] ⟨(Zad om om),trivial⟩ ?_
       exact Zay (t26,v_3,(matched+1),(t26+1)) rfl (show (0≤(t26+1)∧(t26+1)≤(lists.length:Int))∧(Zls a lists band (t26+1).toNat t26 v_3 (matched+1))∧(0≤(matched+1)∧(matched+1)≤(t26+1))∧True from ⟨om,(by rw [hnx];first|exact Zfg hnr (fun q=>absurd q hin)|exact Zfg hnr (fun _=>⟨by omega,by omega⟩)|(rw [hel];have q:=Zjo hnr hin (by first|(left;assumption)|(right;omega));rwa [hix] at q)|exact Zjp hnr hin (by assumption) om),om,trivial⟩) (by first|(show (((lists.length:Int)-(t26+1)).toNat:Nat)<((lists.length:Int)-t26).toNat;omega)|(dsimp only;omega))
      by_cases h8:v_3<least
      ·refine x_q [(1,.dec false),(5,.dec true)] [0,2,11,12,13,14,16,24,25,26,60] [] [_,_] ⟨h7,h8,trivial⟩ (Zab (Zeh ?_))
       refine x_q [] [0,2,11,12,13,24,25,26] [] [] trivial (Zab ?_)
       refine x_q [] [0,2,11,12,13,24,25,26] [] [inR .i64 (matched+1)] ⟨(Zad om om),trivial⟩ (Zba 1 (Zab ?_))
       refine x_r [] [0,2,11,12,13,24,25,26] [] [Zag false a,I band,I t26,I v_3,I (matched+1),Zbu false lists,I (lists.length:Int),I (t26+1)] [] [inR .i64 (t26+1)] ⟨(Zad om om),trivial⟩ ?_
       exact Zay (t26,v_3,(matched+1),(t26+1)) rfl (show (0≤(t26+1)∧(t26+1)≤(lists.length:Int))∧(Zls a lists band (t26+1).toNat t26 v_3 (matched+1))∧(0≤(matched+1)∧(matched+1)≤(t26+1))∧True from ⟨om,(by rw [hnx];first|exact Zfg hnr (fun q=>absurd q hin)|exact Zfg hnr (fun _=>⟨by omega,by omega⟩)|(rw [hel];have q:=Zjo hnr hin (by first|(left;assumption)|(right;omega));rwa [hix] at q)|exact Zjp hnr hin (by assumption) om),om,trivial⟩) (by first|(show (((lists.length:Int)-(t26+1)).toNat:Nat)<((lists.length:Int)-t26).toNat;omega)|(dsimp only;omega))
      refine x_q [(1,.dec false),(5,.dec false)] [0,2,11,12,13,14,16,24,25,26,60] [] [_,_] ⟨h7,h8,trivial⟩ (Zab (Zga (Zbd (Zab ?_))))
      refine x_q [] [0,2,11,12,13,24,25,26] [] [inR .i64 (matched+1)] ⟨(Zad om om),trivial⟩ (Zba 1 (Zab ?_))
      refine x_r [] [0,2,11,12,13,24,25,26] [] [Zag false a,I band,I index,I least,I (matched+1),Zbu false lists,I (lists.length:Int),I (t26+1)] [] [inR .i64 (t26+1)] ⟨(Zad om om),trivial⟩ ?_
      exact Zay (index,least,(matched+1),(t26+1)) rfl (show (0≤(t26+1)∧(t26+1)≤(lists.length:Int))∧(Zls a lists band (t26+1).toNat index least (matched+1))∧(0≤(matched+1)∧(matched+1)≤(t26+1))∧True from ⟨om,(by rw [hnx];first|exact Zfg hnr (fun q=>absurd q hin)|exact Zfg hnr (fun _=>⟨by omega,by omega⟩)|(rw [hel];have q:=Zjo hnr hin (by first|(left;assumption)|(right;omega));rwa [hix] at q)|exact Zjp hnr hin (by assumption) om),om,trivial⟩) (by first|(show (((lists.length:Int)-(t26+1)).toNat:Nat)<((lists.length:Int)-t26).toNat;omega)|(dsimp only;omega))
     have hin:¬ inL a lists band t26.toNat=true:=by unfold inL;rw [h2];decide
     refine x_q [(5,.call [(true,.any),(true,.any),(true,.any)] true (Bv false))] [0,2,11,12,13,14,15,24,25,26,49] [] [Con Tryz.prog 31 [I band,I (a.length:Int),I (((at_ lists t26.toNat).length):Int)] true (Bv false)∧True] ⟨⟨(Zau h2 (Zmz band (a.length:Int) (((at_ lists t26.toNat).length):Int) om om)),trivial⟩,trivial⟩ (Zab (Zeh (Zcp (Zas (Zat (Zab ?_))))))
     refine x_r [] [0,2,11,12,13,24,25,26] [] [Zag false a,I band,I index,I least,I matched,Zbu false lists,I (lists.length:Int),I (t26+1)] [] [inR .i64 (t26+1)] ⟨(Zad om om),trivial⟩ ?_
     exact Zay (index,least,matched,(t26+1)) rfl (show (0≤(t26+1)∧(t26+1)≤(lists.length:Int))∧(Zls a lists band (t26+1).toNat index least matched)∧(0≤matched∧matched≤(t26+1))∧True from ⟨om,(by rw [hnx];first|exact Zfg hnr (fun q=>absurd q hin)|exact Zfg hnr (fun _=>⟨by omega,by omega⟩)|(rw [hel];have q:=Zjo hnr hin (by first|(left;assumption)|(right;omega));rwa [hix] at q)|exact Zjp hnr hin (by assumption) om),om,trivial⟩) (by first|(show (((lists.length:Int)-(t26+1)).toNat:Nat)<((lists.length:Int)-t26).toNat;omega)|(dsimp only;omega))
    have hie:t26.toNat=lists.length:=by omega
    refine x_r [(0,.dec false)] [0,2,11,12,13,24,25,26,27] [] [Zag false a,I band,I index,I least,I matched,Zbu false lists,I (lists.length:Int),I t26,Bv false] [] [_] ⟨h1,trivial⟩ (Zab (Zak (Zbt rfl (Zcp (Zas ?_)))))
    refine Zax ?_
    refine Zat (Zab (Zak (Zak ?_)))
    by_cases h9:matched=0
    ·refine x_q [(1,.dec true)] [11,12,13,67] [] [_] ⟨h9,trivial⟩ (Zab (Zeh ?_))
     refine xR [] [6,7,8,9] [] [I 0,I 0,I 0,I 3] [] [] trivial (Zdd (Zda ?_))
     refine Zbw (0,0,0,3) (show (Zls a lists band lists.length 0 0 0)∧(3=if 0=0 then 3 else 0)∧(0=0→0=0∧0=0)∧(True) from ⟨(by first|(rw [←hie];assumption)|(rw [if_pos (by assumption)];done)|(rw [if_neg (by assumption)];done)|(rw [if_pos rfl];done)|(rw [hie,show matched=0 from by assumption] at hnr;exact Znu hnr)),(by first|(rw [←hie];assumption)|(rw [if_pos (by assumption)];done)|(rw [if_neg (by assumption)];done)|(rw [if_pos rfl];done)|(rw [hie,show matched=0 from by assumption] at hnr;exact Znu hnr)),(by first|exact fun _=>⟨rfl,rfl⟩|exact fun q=>absurd q om|exact fun q=>absurd q (by assumption)),trivial⟩) (trivial) (.tup [I 0,I 0,I 0,I 3]) (by kernel_rfl) (.inl rfl) (fun _=>rfl) (fun _=>(by simp [Zai,Zaf]))
    refine x_q [(1,.dec false)] [11,12,13,67] [] [_] ⟨h9,trivial⟩ (Zab (Zga (Zbd (Zab ?_))))
    refine xR [] [6,7,8,9] [] [I index,I least,I matched,I 0] [] [] trivial (Zdd ?_)
    refine Zbw (index,least,matched,0) (show (Zls a lists band lists.length index least matched)∧(0=if matched=0 then 3 else 0)∧(matched=0→index=0∧least=0)∧(True) from ⟨(by first|(rw [←hie];assumption)|(rw [if_pos (by assumption)];done)|(rw [if_neg (by assumption)];done)|(rw [if_pos rfl];done)|(rw [hie,show matched=0 from by assumption] at hnr;exact Znu hnr)),(by first|(rw [←hie];assumption)|(rw [if_pos (by assumption)];done)|(rw [if_neg (by assumption)];done)|(rw [if_pos rfl];done)|(rw [hie,show matched=0 from by assumption] at hnr;exact Znu hnr)),(by first|exact fun _=>⟨rfl,rfl⟩|exact fun q=>absurd q om|exact fun q=>absurd q (by assumption)),trivial⟩) (trivial) (.tup [I index,I least,I matched,I 0]) (by kernel_rfl) (.inl rfl) (fun _=>rfl) (fun _=>(by simp [Zai,Zaf]))
  obtain ⟨⟨index,least,many,c⟩,⟨hh0,hh1,hh2,_⟩,hc⟩:=hh
  exact ⟨index,least,many,c,hh0,hh1,hh2,hc⟩
theorem Zti (f:Feat):Con Tryz.prog 111 [Zky f] true (Bv (okF f)):=by
  refine Zcm (fn:=Tryz.f111) (nt:=16) Tryz.func111 rfl rfl rfl rfl (by simp [Zaf,Zai]) fun B hB=> ?_
  refine aQ [(0,.new 1)] [1] [1] [] hB trivial (Zah ?_)
  rcases Bool.eq_false_or_eq_true (inB f.X 0 255) with h1|h1
  ·rcases Bool.eq_false_or_eq_true (inB f.Y 0 255) with h2|h2
   ·refine Zeo [(2,.call [(true,.any),(true,.any),(true,.any)] true (Bv true)),(6,.call [(true,.any),(true,.any),(true,.any)] true (Bv true)),(11,.call [(true,.any),(true,.any),(true,.any)] true (Bv (inB f.D 0 7)))] [2] [] [Bv (inB f.D 0 7)] [] [Con Tryz.prog 62 [I f.X,I 0,I 255] true (Bv true)∧True,Con Tryz.prog 62 [I f.Y,I 0,I 255] true (Bv true)∧True,_∧True] hB ⟨⟨(Zau h1 (Zey f.X 0 255)),trivial⟩,⟨(Zau h2 (Zey f.Y 0 255)),trivial⟩,⟨(Zey f.D 0 7),trivial⟩,trivial⟩ (Zac (Zan ?_))
    refine Zao hB (Bv (inB f.D 0 7)) (by kernel_rfl) (.inl (by first|rfl|(refine congrArg Bv ?_;simp [okF, *];done)|(refine congrArg Bv ?_;simp [okF, *];omega)|(refine congrArg Bv ?_;simp_all [okF];done)|(refine congrArg Bv ?_;simp_all [okF];omega))) rfl (fun _=>trivial)
   refine Zeo [(2,.call [(true,.any),(true,.any),(true,.any)] true (Bv true)),(6,.call [(true,.any),(true,.any),(true,.any)] true (Bv false))] [2] [] [Bv false] [] [Con Tryz.prog 62 [I f.X,I 0,I 255] true (Bv true)∧True,Con Tryz.prog 62 [I f.Y,I 0,I 255] true (Bv false)∧True] hB ⟨⟨(Zau h1 (Zey f.X 0 255)),trivial⟩,⟨(Zau h2 (Zey f.Y 0 255)),trivial⟩,trivial⟩ (Zac (Zan ?_))
   refine Zao hB (Bv false) (by kernel_rfl) (.inl (by first|rfl|(refine congrArg Bv ?_;simp [okF, *];done)|(refine congrArg Bv ?_;simp [okF, *];omega)|(refine congrArg Bv ?_;simp_all [okF];done)|(refine congrArg Bv ?_;simp_all [okF];omega))) rfl (fun _=>trivial)
  refine Zeo [(2,.call [(true,.any),(true,.any),(true,.any)] true (Bv false))] [2] [] [Bv false] [] [Con Tryz.prog 62 [I f.X,I 0,I 255] true (Bv false)∧True] hB ⟨⟨(Zau h1 (Zey f.X 0 255)),trivial⟩,trivial⟩ (Zac (Zan ?_))
  refine Zao hB (Bv false) (by kernel_rfl) (.inl (by first|rfl|(refine congrArg Bv ?_;simp [okF, *];done)|(refine congrArg Bv ?_;simp [okF, *];omega)|(refine congrArg Bv ?_;simp_all [okF];done)|(refine congrArg Bv ?_;simp_all [okF];omega))) rfl (fun _=>trivial)
theorem Yct (list:List Feat):Con Tryz.prog 75 [Zag false list] true (Bv (Zbf list 72)):=by
  refine Zcm (fn:=Tryz.f75) (nt:=19) Tryz.func75 rfl rfl rfl rfl (by simp [Zaf,Zai,Zdx]) fun B hB=> ?_
  refine Zck (x:=Zag false list) 0 rfl (fun len_list=> ?_)
  simp [Zei,Zhv,Zjs,Zej,Zag] at len_list
  refine aQ [] [0] [] [] hB trivial (Zah ?_)
  refine aR [] [0,3] [] [Zag false list,I 0] [] [] hB trivial (Zbg ?_)
  refine Zdm (fun gn gσ=>∃(i:Int),gn=((list.length:Int)-i).toNat∧(0≤i∧i≤(list.length:Int))∧(∀j:Nat,(j:Int)<i→okF (at_ list j)=true)∧gσ=mkS [(0,Zag false list),(3,I i)] []) (((list.length:Int)-0).toNat) ⟨0,rfl,om,(by intro j hj;omega),rfl⟩ (fun gn gσ hI=> ?_)
  obtain ⟨i,rfl,hi0,hall0,rfl⟩:=hI
  refine Zah (Zah ?_)
  by_cases h1:i<(list.length:Int)
  ·have hi:i.toNat<list.length:=by omega
   refine Zbn [(3,.dec true)] [0,3,7] [] [_] hB ⟨h1,trivial⟩ (Zac (Zbr (Zar (Zac (Zah (Zbg (Zah ?_)))))))
   rcases Bool.eq_false_or_eq_true (okF (at_ list i.toNat)) with h2|h2
   ·refine Zbn [(4,.call [(true,.any)] true (Bv true))] [0,3,15] [] [(0:Int)≤i∧i<(list.length:Int),Con Tryz.prog 111 [Zky (at_ list i.toNat)] true (Bv true)∧True] hB ⟨⟨om,om⟩,⟨(Zau h2 (Zti (at_ list i.toNat))),trivial⟩,trivial⟩ (Zac (Zbo (Zar (Zbq 1 (Zac ?_)))))
    refine Zeo [] [0,3] [] [Zag false list,I (i+1)] [] [inR .i64 (i+1)] hB ⟨(Zad om om),trivial⟩ ?_
    exact Zbs _ om ⟨(i+1),rfl,om,(by intro j hj;by_cases ej:j=i.toNat;(subst ej;first|assumption|exact hok);exact hall0 j om),rfl⟩
   have hall:Zng list.length (fun j=>okF (at_ list j))=false:=Zim hi h2
   refine Zbn [(4,.call [(true,.any)] true (Bv false))] [0,3,15] [] [(0:Int)≤i∧i<(list.length:Int),Con Tryz.prog 111 [Zky (at_ list i.toNat)] true (Bv false)∧True] hB ⟨⟨om,om⟩,⟨(Zau h2 (Zti (at_ list i.toNat))),trivial⟩,trivial⟩ (Zac (Zbr ?_))
   refine aR [] [2] [] [Bv false] [] [] hB trivial (Zan ?_)
   refine Zaz (Zaj (Zaj (Zaz (Zaj ?_))))
   refine Zao hB (Bv false) (by kernel_rfl) (.inl (by first|rfl|(refine congrArg Bv ?_;simp [Zbf,inB, *];done)|(refine congrArg Bv ?_;simp [Zbf,inB, *];omega)|(refine congrArg Bv ?_;simp_all [Zbf,inB];done)|(refine congrArg Bv ?_;simp_all [Zbf,inB];omega))) rfl (fun _=>trivial)
  have hall:Zng list.length (fun j=>okF (at_ list j))=true:=Zhe (fun j hj=>hall0 j om)
  refine Zbn [(3,.dec false)] [0,3,7] [] [_] hB ⟨h1,trivial⟩ (Zac (Zbo (Zcy (Zam (Zam (Zbi (Zac ?_)))))))
  refine aR [(2,.call [(true,.any),(true,.any),(true,.any)] true (Bv (inB (list.length:Int) 1 72)))] [2] [] [Bv (inB (list.length:Int) 1 72)] [] [_∧True] hB ⟨⟨(Zey (list.length:Int) 1 72),trivial⟩,trivial⟩ (Zan ?_)
  refine Zao hB (Bv (inB (list.length:Int) 1 72)) (by kernel_rfl) (.inl (by first|rfl|(refine congrArg Bv ?_;simp [Zbf,inB, *];done)|(refine congrArg Bv ?_;simp [Zbf,inB, *];omega)|(refine congrArg Bv ?_;simp_all [Zbf,inB];done)|(refine congrArg Bv ?_;simp_all [Zbf,inB];omega))) rfl (fun _=>trivial)
theorem Yeg (a:List Feat) (lists:List (List Feat)) (band:Int) (oka:Zbf a 72=true) (hls:lists.length≤18∧∀l∈lists,Zbf l 72=true) (hbd:0≤band∧band≤72):Con Tryz.prog 34 [Zag false a,Zbu false lists,I band] true (I 0):=by
  refine Zcm (fn:=Tryz.f34) (nt:=36) Tryz.func34 rfl rfl rfl rfl (by simp [Zaf,Zai,Zdx,Zmv]) fun B hB=> ?_
  refine Zck (x:=Zag false a) 0 rfl (fun len_a=> ?_)
  simp [Zei,Zhv,Zjs,Zej,Zag] at len_a
  refine Zck (x:=Zbu false lists) 1 rfl (fun len_lists=> ?_)
  simp [Zei,Zhv,Zjs,Zlu,Zej,Zes,Zag,Zbu] at len_lists
  refine aQ [] [0,1,2] [] [] hB trivial ?_
  refine aQ [(1,.call [(true,.any)] true (Bv true)),(6,.dec false)] [1,2,7] [] [Con Tryz.prog 75 [Zag false a] true (Bv true)∧True,¬ (40<(lists.length:Int))] hB ⟨⟨(Zau oka (Yct a)),trivial⟩,om,trivial⟩ (Zah ?_)
  refine aR [] [1,2,7,8] [] [Zbu false lists,I band,Bv false,I 0] [] [] hB trivial (Zbg ?_)
  refine Zdm (fun gn gσ=>∃(bad:Bool) (i:Int),gn=((lists.length:Int)-i).toNat∧(0≤i∧i≤(lists.length:Int))∧(bad=false)∧gσ=mkS [(1,Zbu false lists),(2,I band),(7,Bv bad),(8,I i)] []) (((lists.length:Int)-0).toNat) ⟨false,0,rfl,om,(by rfl),rfl⟩ (fun gn gσ hI=> ?_)
  obtain ⟨bad,i,rfl,hi0,hbad,rfl⟩:=hI
  refine Zah (Zah ?_)
  by_cases h1:i<(lists.length:Int)
  ·have hi:i.toNat<lists.length:=by omega
   refine Zbn [(3,.dec true)] [1,2,7,8,20] [] [_] hB ⟨h1,trivial⟩ (Zac (Zbr (Zar (Zac (Zah (Zbg ?_))))))
   rcases Bool.eq_false_or_eq_true bad with h2|h2
   ·subst h2
    refine Zbn [] [1,2,7,8] [] [] hB trivial (Zbq 1 (Zac ?_))
    refine Zeo [] [1,2,7,8] [] [Zbu false lists,I band,Bv true,I (i+1)] [] [inR .i64 (i+1)] hB ⟨(Zad om om),trivial⟩ ?_
    exact Zbs _ om ⟨true,(i+1),rfl,om,(by first|rfl|exact hbad),rfl⟩
   subst h2
   refine Zbn [(6,.call [(true,.any)] true (Bv true))] [1,2,7,8] [] [(0:Int)≤i∧i<(lists.length:Int),Con Tryz.prog 75 [Zag false (at_ lists i.toNat)] true (Bv true)∧True] hB ⟨⟨om,om⟩,⟨(Zau (hls.2 _ (Zca hi)) (Yct (at_ lists i.toNat))),trivial⟩,trivial⟩ (Zbq 1 (Zac ?_))
   refine Zeo [] [1,2,7,8] [] [Zbu false lists,I band,Bv false,I (i+1)] [] [inR .i64 (i+1)] hB ⟨(Zad om om),trivial⟩ ?_
   exact Zbs _ om ⟨false,(i+1),rfl,om,(by first|rfl|exact hbad),rfl⟩
  refine Zbn [(3,.dec false)] [1,2,7,8,20] [] [_] hB ⟨h1,trivial⟩ (Zac (Zbo (Zcy (Zam (Zam (Zbi (Zac (Zah ?_))))))))
  refine aR [] [2,32] [] [I band,Bv bad] [] [] hB trivial ?_
  rcases Bool.eq_false_or_eq_true bad with h3|h3
  ·refine Zzc (congrArg Bv h3) ?_
   refine aR [] [6] [] [I 1] [] [] hB trivial (Zan (Zaj ?_))
   refine Zao hB (I 1) (by kernel_rfl) (.inl (by first|rfl|(exfalso;simp_all;done))) rfl (fun _=>trivial)
  refine Ztt (congrArg Bv h3) ?_
  refine Zar (Zac (Zah ?_))
  refine aQ [(1,.call [(true,.any),(true,.any),(true,.any)] true (Bv true))] [35] [] [Con Tryz.prog 62 [I band,I 0,I 72] true (Bv true)∧True] hB ⟨⟨(Zau (Ziw.2 hbd) (Zey band 0 72)),trivial⟩,trivial⟩ (Zbo (Zar (Zac ?_)))
  refine aR [] [6] [] [I 0] [] [] hB trivial (Zan ?_)
  refine Zao hB (I 0) (by kernel_rfl) (.inl rfl) rfl (fun _=>trivial)
theorem Zht (n:Int) (hn:-9223372036854775807≤n∧n≤9223372036854775807):Con Tryz.prog 112 [I n] true (I (n.natAbs:Int)):=by
  refine Zcm (fn:=Tryz.f112) (nt:=8) Tryz.func112 rfl rfl rfl rfl (by simp [Zaf,Zai]) fun B hB=> ?_
  refine aQ [] [0] [] [] hB trivial (Zah (Zah ?_))
  by_cases h1:n<0
  ·refine Zbn [(1,.dec true)] [0,4] [] [_] hB ⟨h1,trivial⟩ (Zac (Zbr ?_))
   refine aR [] [2] [] [I (-n)] [] [inR .i64 (-n)] hB ⟨(Zad om om),trivial⟩ (Zan (Zaj ?_))
   refine Zao hB (I (-n)) (by kernel_rfl) (.inl (by refine congrArg I ?_;omega)) rfl (fun _=>trivial)
  refine Zbn [(1,.dec false)] [0,4] [] [_] hB ⟨h1,trivial⟩ (Zac (Zbo (Zar (Zac ?_))))
  refine aR [] [2] [] [I n] [] [] hB trivial (Zan ?_)
  refine Zao hB (I n) (by kernel_rfl) (.inl (by refine congrArg I ?_;omega)) rfl (fun _=>trivial)
theorem Yeo (n:Int) (m:Int) (band:Int) (hn:0≤n∧n≤4611686018427387904) (hm:0≤m∧m≤4611686018427387904):Con Tryz.prog 76 [I n,I m,I band] true (Bv (inB band 0 72&&decide (((n-m).natAbs:Int)≤band))):=by
  refine Zcm (fn:=Tryz.f76) (nt:=17) Tryz.func76 rfl rfl rfl rfl (by simp [Zaf,Zai]) fun B hB=> ?_
  refine aQ [] [0,1,2] [] [] hB trivial (Zah ?_)
  rcases Bool.eq_false_or_eq_true (inB band 0 72) with h1|h1
  ·refine Zeo [(1,.call [(true,.any),(true,.any),(true,.any)] true (Bv true)),(6,.call [(true,.any)] true (I ((n-m).natAbs:Int)))] [6] [] [Bv (decide (((n-m).natAbs:Int)≤band))] [] [Con Tryz.prog 62 [I band,I 0,I 72] true (Bv true)∧True,inR .i64 (n-m),_∧True] hB ⟨⟨(Zau h1 (Zey band 0 72)),trivial⟩,(Zad om om),⟨(Zht (n-m) om),trivial⟩,trivial⟩ (Zac (Zan ?_))
   refine Zao hB (Bv (decide (((n-m).natAbs:Int)≤band))) (by kernel_rfl) (.inl (by refine congrArg Bv ?_;first|(simp [*];done)|(simp [inB] at*;omega))) rfl (fun _=>trivial)
  refine Zeo [(1,.call [(true,.any),(true,.any),(true,.any)] true (Bv false))] [6] [] [Bv false] [] [Con Tryz.prog 62 [I band,I 0,I 72] true (Bv false)∧True] hB ⟨⟨(Zau h1 (Zey band 0 72)),trivial⟩,trivial⟩ (Zac (Zan ?_))
  refine Zao hB (Bv false) (by kernel_rfl) (.inl (by refine congrArg Bv ?_;first|(simp [*];done)|(simp [inB] at*;omega))) rfl (fun _=>trivial)
theorem Yco (a:List Feat) (b:List Feat) (band:Int) (ha:a.length≤100000) (hb:b.length≤100000):Con Tryz.prog 35 [Zag false a,Zag false b,I band] true (Bv (inB band 0 72&&decide (((((a.length:Int)-(b.length:Int)).natAbs:Int)≤band)))):=by
 refine Zcm (fn:=Tryz.f35) (nt:=13) Tryz.func35 rfl rfl rfl rfl (by simp [Zaf,Zai,Zdx]) fun B hB=> ?_
 refine Zck (x:=Zag false a) 0 rfl (fun len_a=> ?_)
 simp [Zei,Zhv,Zjs,Zej,Zag] at len_a
 refine Zck (x:=Zag false b) 1 rfl (fun len_b=> ?_)
 simp [Zei,Zhv,Zjs,Zej,Zag] at len_b
 refine aQ [] [0,1,2] [] [] hB trivial ?_
 refine aR [(5,.call [(true,.any),(true,.any),(true,.any)] true (Bv (inB band 0 72&&decide ((((a.length:Int)-(b.length:Int)).natAbs:Int)≤band))))] [6] [] [Bv (inB band 0 72&&decide ((((a.length:Int)-(b.length:Int)).natAbs:Int)≤band))] [] [_∧True] hB ⟨⟨(Yeo (a.length:Int) (b.length:Int) band om om),trivial⟩,trivial⟩ (Zan ?_)
 refine Zao hB (Bv (inB band 0 72&&decide ((((a.length:Int)-(b.length:Int)).natAbs:Int)≤band))) (by kernel_rfl) (.inl (by first|rfl|(refine congrArg Bv ?_;simp [*];done)|(refine congrArg Bv ?_;simp [*];omega)|(refine congrArg Bv ?_;simp_all [];done)|(refine congrArg Bv ?_;simp_all [];omega))) rfl (fun _=>trivial)
theorem Yee (a:Feat) (b:Feat) (ha:okF a=true) (hb:okF b=true):Con Tryz.prog 113 [Zky a,Zky b] true (I (Zcb a b)):=by
 have ha':=Zfn.1 ha
 have hb':=Zfn.1 hb
 refine Zcm (fn:=Tryz.f113) (nt:=31) Tryz.func113 rfl rfl rfl rfl (by simp [Zaf,Zai]) fun B hB=> ?_
 refine aQ [(0,.new 2),(1,.new 3)] [2,3] [2,3] [] hB trivial ?_
 refine aQ [(5,.call [(true,.any)] true (I ((a.D-b.D).natAbs:Int)))] [2,3,5] [2,3] [inR .i64 (a.D-b.D),_∧True] hB ⟨(Zad om om),⟨(Zht (a.D-b.D) om),trivial⟩,trivial⟩ ?_
 refine aR [(5,.call [(true,.any)] true (I ((a.X-b.X).natAbs:Int))),(11,.call [(true,.any)] true (I ((a.Y-b.Y).natAbs:Int))),(16,.call [(true,.any),(true,.any)] true (I (min ((a.D-b.D).natAbs:Int) (8-((a.D-b.D).natAbs:Int)))))] [4] [] [I ((((a.X-b.X).natAbs:Int)+((a.Y-b.Y).natAbs:Int))+(16*(min ((a.D-b.D).natAbs:Int) (8-((a.D-b.D).natAbs:Int)))))] [] [inR .i64 (a.X-b.X),_∧True,inR .i64 (a.Y-b.Y),_∧True,inR .i64 (((a.X-b.X).natAbs:Int)+((a.Y-b.Y).natAbs:Int)),inR .i64 (8-((a.D-b.D).natAbs:Int)),_∧True,inR .i64 (16*(min ((a.D-b.D).natAbs:Int) (8-((a.D-b.D).natAbs:Int)))),inR .i64 ((((a.X-b.X).natAbs:Int)+((a.Y-b.Y).natAbs:Int))+(16*(min ((a.D-b.D).natAbs:Int) (8-((a.D-b.D).natAbs:Int)))))] hB ⟨(Zad om om),⟨(Zht (a.X-b.X) om),trivial⟩,(Zad om om),⟨(Zht (a.Y-b.Y) om),trivial⟩,(Zad om om),(Zad om om),⟨(Zgf ((a.D-b.D).natAbs:Int) (8-((a.D-b.D).natAbs:Int))),trivial⟩,(Zad om om),(Zad om om),trivial⟩ (Zan ?_)
 refine Zao hB (I ((((a.X-b.X).natAbs:Int)+((a.Y-b.Y).natAbs:Int))+(16*(min ((a.D-b.D).natAbs:Int) (8-((a.D-b.D).natAbs:Int)))))) (by kernel_rfl) (.inl (by refine congrArg I ?_;first|rfl|(unfold Zcb;omega))) rfl (fun _=>trivial)
end Go.Proofs.YtomafbpfgpkolaaGreatDoor.Ax
