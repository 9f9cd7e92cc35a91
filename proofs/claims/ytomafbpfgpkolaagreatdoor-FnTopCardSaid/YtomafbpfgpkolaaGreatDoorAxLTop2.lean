/- Contracts that the statement FnTop reaches, part 2. No conditions. -/
import Derived.Test.YtomafbpfgpkolaaGreatDoorAxLTop1
import Derived.LaidMore
import Derived.Lay
import Derived.Lib.IndexBytes
import Derived.Lib.ItoaNum
import Derived.Lib.ParseIntBCases
import Derived.Lib.Repeat
import Derived.Lib.SplitLaws
import Derived.OpenShut
import Derived.SevenTiedAt
import Derived.Shelf.Strings.SlTrimAscii
import Derived.Stop.Joined
import Derived.Test.YtomafbpfgpkolaaGreatDoorAxBd
import Derived.Test.YtomafbpfgpkolaaGreatDoorAxR
import Derived.Test.YtomafbpfgpkolaaGreatDoorAxS
import Derived.Test.YtomafbpfgpkolaaGreatDoorAxSF
import Derived.Test.YtomafbpfgpkolaaGreatDoorAxY
import Derived.Test.YtomafbpfgpkolaaGreatDoorSfFndShelf
namespace Go.Proofs.YtomafbpfgpkolaaGreatDoor.Ax
open Go.RowKit Go.ChangeShapes Go.WideShapes
set_option linter.unusedVariables false
set_option linter.unusedSimpArgs false
theorem Zro (x:Int) (y:Int):Con Tryz.prog 99 [I x,I y] true (I (Zez x y)):=by
  refine Zcm (fn:=Tryz.f99) (nt:=20) Tryz.func99 rfl rfl rfl rfl (by simp [Zaf,Zai]) fun B hB=> ?_
  refine aQ [] [0,1] [] [] hB trivial ?_
  refine aQ [(1,.call [(true,.any)] true (Bv false))] [0,1,5] [] [_∧True] hB ⟨⟨(Zym x),trivial⟩,trivial⟩ ?_
  refine aQ [(1,.call [(true,.any)] true (Bv false))] [0,1,5,6] [] [_∧True] hB ⟨⟨(Zym y),trivial⟩,trivial⟩ (Zah ?_)
  refine aQ [] [0,1,6,11] [] [] hB trivial (Zbo (Zar (Zac (Zah ?_))))
  refine aQ [] [0,1,13] [] [] hB trivial (Zbo (Zar (Zac (Zah (Zah ?_)))))
  by_cases h1:x<y
  ·refine Zbn [(2,.dec true)] [0,1,16] [] [_] hB ⟨h1,trivial⟩ (Zac (Zbr ?_))
   refine aR [] [4] [] [I (-1)] [] [] hB trivial (Zan (Zaj ?_))
   refine Zao hB (I (-1)) (by kernel_rfl) (.inl (by refine congrArg I ?_;unfold Zez;first|(rw [if_pos om];done)|(rw [if_neg om,if_pos om];done)|(rw [if_neg om,if_neg om];done))) rfl (fun _=>trivial)
  refine Zbn [(2,.dec false)] [0,1,16] [] [_] hB ⟨h1,trivial⟩ (Zac (Zbo (Zar (Zac (Zah (Zah ?_))))))
  by_cases h2:y<x
  ·refine Zbn [(2,.dec true)] [19] [] [_] hB ⟨h2,trivial⟩ (Zac (Zbr ?_))
   refine aR [] [4] [] [I 1] [] [] hB trivial (Zan (Zaj ?_))
   refine Zao hB (I 1) (by kernel_rfl) (.inl (by refine congrArg I ?_;unfold Zez;first|(rw [if_pos om];done)|(rw [if_neg om,if_pos om];done)|(rw [if_neg om,if_neg om];done))) rfl (fun _=>trivial)
  refine Zbn [(2,.dec false)] [19] [] [_] hB ⟨h2,trivial⟩ (Zac (Zbo (Zar (Zac ?_))))
  refine aR [] [4] [] [I 0] [] [] hB trivial (Zan ?_)
  refine Zao hB (I 0) (by kernel_rfl) (.inl (by refine congrArg I ?_;unfold Zez;first|(rw [if_pos om];done)|(rw [if_neg om,if_pos om];done)|(rw [if_neg om,if_neg om];done))) rfl (fun _=>trivial)
theorem Zyn (x:ByteArray):Con Tryz.prog 125 [Sv x] true (Bv false):=by
 refine Zcm (fn:=Tryz.f125) (nt:=6) Tryz.func125 rfl rfl rfl rfl (by simp [Zaf,Zai]) fun B hB=> ?_
 refine aQ [] [0] [] [] hB trivial ?_
 refine aR [(2,.dec false)] [2] [] [Bv false] [] [¬ (x≠x)] hB ⟨(fun hq=>hq rfl),trivial⟩ (Zan ?_)
 refine Zao hB (Bv false) (by kernel_rfl) (.inl rfl) rfl (fun _=>trivial)
theorem Yat (x:ByteArray) (y:ByteArray):Con Tryz.prog 100 [Sv x,Sv y] true (I (Zih x y)):=by
  refine Zcm (fn:=Tryz.f100) (nt:=20) Tryz.func100 rfl rfl rfl rfl (by simp [Zaf,Zai]) fun B hB=> ?_
  refine aQ [] [0,1] [] [] hB trivial ?_
  refine aQ [(1,.call [(true,.any)] true (Bv false))] [0,1,5] [] [_∧True] hB ⟨⟨(Zyn x),trivial⟩,trivial⟩ ?_
  refine aQ [(1,.call [(true,.any)] true (Bv false))] [0,1,5,6] [] [_∧True] hB ⟨⟨(Zyn y),trivial⟩,trivial⟩ (Zah ?_)
  refine aQ [] [0,1,6,11] [] [] hB trivial (Zbo (Zar (Zac (Zah ?_))))
  refine aQ [] [0,1,13] [] [] hB trivial (Zbo (Zar (Zac (Zah (Zah ?_)))))
  by_cases h1:Zfz x y=true
  ·refine Zbn [(2,.dec true)] [0,1,16] [] [_] hB ⟨h1,trivial⟩ (Zac (Zbr ?_))
   refine aR [] [4] [] [I (-1)] [] [] hB trivial (Zan (Zaj ?_))
   refine Zao hB (I (-1)) (by kernel_rfl) (.inl (by refine congrArg I ?_;unfold Zih;first|(rw [if_pos (by assumption)];done)|(rw [if_neg (by assumption),if_pos (by assumption)];done)|(rw [if_neg (by assumption),if_neg (by assumption)];done))) rfl (fun _=>trivial)
  refine Zbn [(2,.dec false)] [0,1,16] [] [_] hB ⟨h1,trivial⟩ (Zac (Zbo (Zar (Zac (Zah (Zah ?_))))))
  by_cases h2:Zfz x y=false∧x≠y
  ·refine Zbn [(2,.dec true)] [19] [] [_] hB ⟨h2,trivial⟩ (Zac (Zbr ?_))
   refine aR [] [4] [] [I 1] [] [] hB trivial (Zan (Zaj ?_))
   refine Zao hB (I 1) (by kernel_rfl) (.inl (by refine congrArg I ?_;unfold Zih;first|(rw [if_pos (by assumption)];done)|(rw [if_neg (by assumption),if_pos (by assumption)];done)|(rw [if_neg (by assumption),if_neg (by assumption)];done))) rfl (fun _=>trivial)
  refine Zbn [(2,.dec false)] [19] [] [_] hB ⟨h2,trivial⟩ (Zac (Zbo (Zar (Zac ?_))))
  refine aR [] [4] [] [I 0] [] [] hB trivial (Zan ?_)
  refine Zao hB (I 0) (by kernel_rfl) (.inl (by refine congrArg I ?_;unfold Zih;first|(rw [if_pos (by assumption)];done)|(rw [if_neg (by assumption),if_pos (by assumption)];done)|(rw [if_neg (by assumption),if_neg (by assumption)];done))) rfl (fun _=>trivial)
theorem OrI_ok (vals:List Int):Con Tryz.prog 98 [slI false vals] true (I (orL vals)):=by
  refine Zcm (fn:=Tryz.f98) (nt:=18) Tryz.func98 rfl rfl rfl rfl (by simp [Zaf,Zai,Ydy]) fun B hB=> ?_
  refine Zck (x:=slI false vals) 0 rfl (fun len_vals=> ?_)
  simp [Zei,Zhv,cI,fI,slI] at len_vals
  refine aQ [] [0] [] [] hB trivial ?_
  refine aQ [] [0,3] [] [] hB trivial (Zah ?_)
  refine aR [] [3,6,7,8] [] [I 0,slI false vals,I (vals.length:Int),I 0] [] [] hB trivial (Zbg ?_)
  refine Zdm (fun gn gσ=>∃(t8:Int),gn=((vals.length:Int)-t8).toNat∧(0≤t8∧t8≤(vals.length:Int))∧(∀j:Nat,(j:Int)<t8→at_ vals j=0)∧gσ=mkS [(3,I 0),(6,slI false vals),(7,I (vals.length:Int)),(8,I t8)] []) (((vals.length:Int)-0).toNat) ⟨0,rfl,om,(by intro j hj;omega),rfl⟩ (fun gn gσ hI=> ?_)
  obtain ⟨t8,rfl,hi0,hz0,rfl⟩:=hI
  refine Zah ?_
  by_cases h1:t8<(vals.length:Int)
  ·have hi:t8.toNat<vals.length:=by omega
   refine Zbn [(0,.dec true)] [3,6,7,8,9] [] [_] hB ⟨h1,trivial⟩ (Zac (Zah (Zbr (Zar (Zac (Zah (Zbg ?_)))))))
   refine aQ [] [3,5,6,7,8] [] [(0:Int)≤t8∧t8<(vals.length:Int)] hB ⟨⟨om,om⟩,trivial⟩ (Zah ?_)
   by_cases h2:(at_ vals t8.toNat)=0
   ·refine Zbn [(2,.dec false)] [3,5,6,7,8,14] [] [¬ ((at_ vals t8.toNat)≠0)] hB ⟨(fun hq=>hq h2),trivial⟩ (Zac (Zbo (Zar (Zbq 1 (Zac ?_)))))
    refine Zeo [] [3,6,7,8] [] [I 0,slI false vals,I (vals.length:Int),I (t8+1)] [] [inR .i64 (t8+1)] hB ⟨(Zad om om),trivial⟩ ?_
    exact Zbs _ om ⟨(t8+1),rfl,om,(by intro j hj;by_cases ej:j=t8.toNat;(subst ej;assumption);exact hz0 j om),rfl⟩
   refine Zbn [(2,.dec true)] [3,5,6,7,8,14] [] [_] hB ⟨h2,trivial⟩ (Zac (Zbr ?_))
   refine aR [] [2] [] [I (at_ vals t8.toNat)] [] [] hB trivial (Zan ?_)
   refine Zaz (Zaj (Zaj (Zaz (Zaj ?_))))
   refine Zao hB (I (at_ vals t8.toNat)) (by kernel_rfl) (.inl (by refine congrArg I ?_;first|(rw [Zwa (fun j hj=>hz0 j om)];done)|(rw [Zyo hi (fun j hj=>hz0 j om) (by assumption)];done)|(rw [Zyo hi (fun j hj=>hz0 j om) (by assumption)]))) rfl (fun _=>trivial)
  refine Zbn [(0,.dec false)] [3,6,7,8,9] [] [_] hB ⟨h1,trivial⟩ (Zac (Zah (Zbo (Zcy (Zam (Zam (Zbi (Zac ?_))))))))
  refine aR [] [2] [] [I 0] [] [] hB trivial (Zan ?_)
  refine Zao hB (I 0) (by kernel_rfl) (.inl (by refine congrArg I ?_;first|(rw [Zwa (fun j hj=>hz0 j om)];done)|(rw [Zyo hi (fun j hj=>hz0 j om) (by assumption)];done)|(rw [Zyo hi (fun j hj=>hz0 j om) (by assumption)]))) rfl (fun _=>trivial)
theorem Zrp (a:Edge) (b:Edge):Con Tryz.prog 55 [Znb a,Znb b] true (I (Zjv a b)):=by
 refine Zcm (fn:=Tryz.f55) (nt:=22) Tryz.func55 rfl rfl rfl rfl (by simp [Zaf,Zai]) fun B hB=> ?_
 refine aQ [(0,.new 2),(1,.new 3)] [2,3] [2,3] [] hB trivial ?_
 refine aR [(4,.call [(true,.any),(true,.any)] true (I (Zez a.From b.From))),(9,.call [(true,.any),(true,.any)] true (I (Zez a.To b.To))),(14,.call [(true,.any),(true,.any)] true (I (Zih a.Label b.Label))),(15,.new 20),(16,.call [(false,slI false ([(Zez a.From b.From),(Zez a.To b.To),(Zih a.Label b.Label)]))] true (I (orL ([(Zez a.From b.From),(Zez a.To b.To),(Zih a.Label b.Label)]))))] [4] [] [I (orL ([(Zez a.From b.From),(Zez a.To b.To),(Zih a.Label b.Label)]))] [] [_∧True,_∧True,_∧True,_∧((false=true→true=true)∧1=1∧3=(([(Zez a.From b.From),(Zez a.To b.To),(Zih a.Label b.Label)]).length)∧∀i_,i_<(([(Zez a.From b.From),(Zez a.To b.To),(Zih a.Label b.Label)]).length)→(Zhu [I (Zez a.From b.From),I (Zez a.To b.To),I (Zih a.Label b.Label)] 1) i_=(fI ([(Zez a.From b.From),(Zez a.To b.To),(Zih a.Label b.Label)])) i_∨(AV.idsL ((fI ([(Zez a.From b.From),(Zez a.To b.To),(Zih a.Label b.Label)])) i_)=[]∧leL (fun _=>none) false ((Zhu [I (Zez a.From b.From),I (Zez a.To b.To),I (Zih a.Label b.Label)] 1) i_) ((fI ([(Zez a.From b.From),(Zez a.To b.To),(Zih a.Label b.Label)])) i_)))∧True] hB ⟨⟨(Zro a.From b.From),trivial⟩,⟨(Zro a.To b.To),trivial⟩,⟨(Yat a.Label b.Label),trivial⟩,⟨(OrI_ok ([(Zez a.From b.From),(Zez a.To b.To),(Zih a.Label b.Label)])),⟨(fun h=>by cases h),rfl,(by first|rfl|(simp;done)|(simp;omega)|omega),fun i_ hi_=> .inl (match i_,hi_ with|0,_=>rfl|1,_=>rfl|2,_=>rfl|(i+3),h=>absurd h (by simp))⟩,trivial⟩,trivial⟩ (Zan ?_)
 refine Zao hB (I (orL ([(Zez a.From b.From),(Zez a.To b.To),(Zih a.Label b.Label)]))) (by kernel_rfl) (.inl (by rfl)) rfl (fun _=>trivial)
theorem Zrq (l:Lattice) (hl:Zdg l):Con Tryz.prog 20 [Zcr l] true (Bv true):=by
  have hn:=hl.1
  have hc:=hl.2.1
  refine Zcm (fn:=Tryz.f20) (nt:=48) Tryz.func20 rfl rfl rfl rfl (by simp [Zaf,Zai,Zff]) fun B hB=> ?_
  refine Zck (x:=Zcr l) 0 rfl (fun len_l=> ?_)
  simp [Zei,Zhv,Zln,Zdq,Zbk] at len_l
  refine aQ [(0,.new 1)] [1] [1] [] hB trivial (Zah ?_)
  refine aR [] [1,6,7,8] [1] [.ref 1 0,Zbk false l.Edges,I (l.Edges.length:Int),I 0] [some (Zbm l)] [] hB trivial (Zbg ?_)
  refine Zdm (fun gn gσ=>∃(t8:Int),gn=((l.Edges.length:Int)-t8).toNat∧(0≤t8∧t8≤(l.Edges.length:Int))∧gσ=mkS [(1,.ref 1 0),(6,Zbk false l.Edges),(7,I (l.Edges.length:Int)),(8,I t8)] [(1,Zbm l)]) (((l.Edges.length:Int)-0).toNat) ⟨0,rfl,om,rfl⟩ (fun gn gσ hI=> ?_)
  obtain ⟨t8,rfl,hi0,rfl⟩:=hI
  refine Zah ?_
  by_cases h1:t8<(l.Edges.length:Int)
  ·have hi:t8.toNat<l.Edges.length:=by omega
   have hed:=hl.2.2.1 _ hi
   refine Zbn [(0,.dec true)] [1,6,7,8,9] [1] [_] hB ⟨h1,trivial⟩ (Zac (Zah (Zbr (Zar (Zac (Zah (Zbg ?_)))))))
   refine aQ [(3,.new 4)] [1,3,4,6,7,8] [1,4] [(0:Int)≤t8∧t8<(l.Edges.length:Int)] hB ⟨⟨om,om⟩,trivial⟩ (Zah ?_)
   by_cases h2:0<t8
   ·have hpr:=Zrr hl.2.2.2 (show (t8-1).toNat<t8.toNat by omega) hi
    refine Zbn [(2,.call [(true,.any),(true,.any)] true (Bv true)),(7,.call [(true,.any)] true (Bv true)),(12,.dec true),(21,.call [(true,.any),(true,.any)] true (I (Zjv (at_ l.Edges ((t8-1).toNat)) (at_ l.Edges t8.toNat)))),(22,.dec false)] [1,6,7,8,37] [1] [_∧True,Con Tryz.prog 54 [Sv ((at_ l.Edges t8.toNat).Label)] true (Bv true)∧True,_,inR .i64 (t8-1),(0:Int)≤(t8-1)∧(t8-1)<(l.Edges.length:Int),_∧True,¬ (0≤(Zjv (at_ l.Edges ((t8-1).toNat)) (at_ l.Edges t8.toNat)))] hB ⟨⟨(Zot l (at_ l.Edges t8.toNat) hed om),trivial⟩,⟨(Zau hed.2.2 (Zlv ((at_ l.Edges t8.toNat).Label) (by have:=Zgt hed.2.2;omega))),trivial⟩,h2,(Zad om om),⟨om,om⟩,⟨(Zrp (at_ l.Edges ((t8-1).toNat)) (at_ l.Edges t8.toNat)),trivial⟩,om,trivial⟩ (Zac (Zbo (Zar (Zbq 1 (Zac ?_)))))
    refine Zeo [] [1,6,7,8] [1] [.ref 1 0,Zbk false l.Edges,I (l.Edges.length:Int),I (t8+1)] [some (Zbm l)] [inR .i64 (t8+1)] hB ⟨(Zad om om),trivial⟩ ?_
    exact Zbs _ om ⟨(t8+1),rfl,om,rfl⟩
   refine Zbn [(2,.call [(true,.any),(true,.any)] true (Bv true)),(7,.call [(true,.any)] true (Bv true)),(12,.dec false)] [1,6,7,8,37] [1] [_∧True,Con Tryz.prog 54 [Sv ((at_ l.Edges t8.toNat).Label)] true (Bv true)∧True,_] hB ⟨⟨(Zot l (at_ l.Edges t8.toNat) hed om),trivial⟩,⟨(Zau hed.2.2 (Zlv ((at_ l.Edges t8.toNat).Label) (by have:=Zgt hed.2.2;omega))),trivial⟩,h2,trivial⟩ (Zac (Zbo (Zar (Zbq 1 (Zac ?_)))))
   refine Zeo [] [1,6,7,8] [1] [.ref 1 0,Zbk false l.Edges,I (l.Edges.length:Int),I (t8+1)] [some (Zbm l)] [inR .i64 (t8+1)] hB ⟨(Zad om om),trivial⟩ ?_
   exact Zbs _ om ⟨(t8+1),rfl,om,rfl⟩
  refine Zbn [(0,.dec false)] [1,6,7,8,9] [1] [_] hB ⟨h1,trivial⟩ (Zac (Zah (Zbo (Zcy (Zam (Zam (Zbi (Zac ?_))))))))
  refine aR [(2,.call [(true,.any),(true,.any),(true,.any)] true (Bv true)),(7,.dec true)] [2] [] [Bv true] [] [Con Tryz.prog 56 [I l.Nodes,I 1,I 20] true (Bv true)∧True,(l.Edges.length:Int)≤200] hB ⟨⟨(Zau (Ziw.2 hl.1) (Zee l.Nodes 1 20)),trivial⟩,om,trivial⟩ (Zan ?_)
  refine Zao hB (Bv true) (by kernel_rfl) (.inl rfl) rfl (fun _=>trivial)
theorem Zyp (s:ByteArray) (hs:s.size≤1000):Con Tryz.prog 57 [Sv s] true (Bv (Zjh s)):=by
  refine Zcm (fn:=Tryz.f57) (nt:=24) Tryz.func57 rfl rfl rfl rfl (by simp [Zaf,Zai]) fun B hB=> ?_
  refine aQ [] [0] [] [] hB trivial (Zah ?_)
  refine aR [] [0,6,7,8] [] [Sv s,.sl true 1 s.size (Zha s),I (s.size:Int),I 0] [] [s.size≤140737488355328] hB ⟨om,trivial⟩ (Zbg ?_)
  refine Zdm (fun gn gσ=>∃(t8:Int),gn=((s.size:Int)-t8).toNat∧(0≤t8∧t8≤(s.size:Int))∧(∀j:Nat,(j:Int)<t8→letB (bAt s j)=true)∧gσ=mkS [(0,Sv s),(6,.sl true 1 s.size (Zha s)),(7,I (s.size:Int)),(8,I t8)] []) (((s.size:Int)-0).toNat) ⟨0,rfl,om,(by intro j hj;omega),rfl⟩ (fun gn gσ hI=> ?_)
  obtain ⟨t8,rfl,hi0,hz0,rfl⟩:=hI
  refine Zah ?_
  by_cases h1:t8<(s.size:Int)
  ·refine Zbn [(0,.dec true)] [0,6,7,8,9] [] [_] hB ⟨h1,trivial⟩ (Zac (Zah (Zbr (Zar (Zac (Zah (Zbg ?_)))))))
   refine aQ [] [0,4,6,7,8] [] [(0:Int)≤t8∧t8<(s.size:Int)] hB ⟨⟨om,om⟩,trivial⟩ (Zah ?_)
   rcases Bool.eq_false_or_eq_true (inB (bAt s t8.toNat) 97 122) with h2|h2
   ·refine Zbn [(1,.call [(true,.any)] true (Bv true))] [0,6,7,8,14] [] [Con Tryz.prog 96 [.val (.int .u8 (bAt s t8.toNat))] true (Bv true)∧True] hB ⟨⟨(Zau h2 (Zjw (bAt s t8.toNat))),trivial⟩,trivial⟩ (Zac (Zbo (Zar (Zbq 1 (Zac ?_)))))
    refine Zeo [] [0,6,7,8] [] [Sv s,.sl true 1 s.size (Zha s),I (s.size:Int),I (t8+1)] [] [inR .i64 (t8+1)] hB ⟨(Zad om om),trivial⟩ ?_
    exact Zbs _ om ⟨(t8+1),rfl,om,(by intro j hj;by_cases ej:j=t8.toNat;(subst ej;assumption);exact hz0 j om),rfl⟩
   refine Zbn [(1,.call [(true,.any)] true (Bv false))] [0,6,7,8,14] [] [Con Tryz.prog 96 [.val (.int .u8 (bAt s t8.toNat))] true (Bv false)∧True] hB ⟨⟨(Zau h2 (Zjw (bAt s t8.toNat))),trivial⟩,trivial⟩ (Zac (Zbr ?_))
   refine aR [] [2] [] [Bv false] [] [] hB trivial (Zan ?_)
   refine Zaz (Zaj (Zaj (Zaz (Zaj ?_))))
   refine Zao hB (Bv false) (by kernel_rfl) (.inl (by first|(refine congrArg Bv ?_;rw [Zrs (fun j hj=>hz0 j om)];first|exact decide_eq_decide.2 ⟨fun _=>by omega,fun _=>by omega⟩|exact (decide_eq_true om).symm|exact (decide_eq_false om).symm|(simp;omega))|(refine congrArg Bv ?_;exact (Zrt (j:=t8.toNat) om (by assumption)).symm))) rfl (fun _=>trivial)
  refine Zbn [(0,.dec false)] [0,6,7,8,9] [] [_] hB ⟨h1,trivial⟩ (Zac (Zah (Zbo (Zcy (Zam (Zam (Zbi (Zac (Zah ?_)))))))))
  by_cases h3:1≤(s.size:Int)
  ·refine Zeo [(2,.dec true)] [2] [] [Bv (decide ((s.size:Int)≤10))] [] [_] hB ⟨h3,trivial⟩ (Zac (Zan ?_))
   refine Zao hB (Bv (decide ((s.size:Int)≤10))) (by kernel_rfl) (.inl (by first|(refine congrArg Bv ?_;rw [Zrs (fun j hj=>hz0 j om)];first|exact decide_eq_decide.2 ⟨fun _=>by omega,fun _=>by omega⟩|exact (decide_eq_true om).symm|exact (decide_eq_false om).symm|(simp;omega))|(refine congrArg Bv ?_;exact (Zrt (j:=t8.toNat) om (by assumption)).symm))) rfl (fun _=>trivial)
  refine Zeo [(2,.dec false)] [2] [] [Bv false] [] [_] hB ⟨h3,trivial⟩ (Zac (Zan ?_))
  refine Zao hB (Bv false) (by kernel_rfl) (.inl (by first|(refine congrArg Bv ?_;rw [Zrs (fun j hj=>hz0 j om)];first|exact decide_eq_decide.2 ⟨fun _=>by omega,fun _=>by omega⟩|exact (decide_eq_true om).symm|exact (decide_eq_false om).symm|(simp;omega))|(refine congrArg Bv ?_;exact (Zrt (j:=t8.toNat) om (by assumption)).symm))) rfl (fun _=>trivial)
theorem Zru (lx:Lexicon) (hx:Zhh lx):Con Tryz.prog 21 [.agg [Zav false lx.Entries]] true (Bv true):=by
  have hc:=hx.1
  refine Zcm (fn:=Tryz.f21) (nt:=44) Tryz.func21 rfl rfl rfl rfl (by simp [Zaf,Zai,Zfm]) fun B hB=> ?_
  refine Zck (x:= .agg [Zav false lx.Entries]) 0 rfl (fun len_lx=> ?_)
  simp [Zei,Zhv,Ziu,Zde,Zav] at len_lx
  refine aQ [(0,.new 1)] [1] [1] [] hB trivial (Zah ?_)
  refine aR [] [1,6,7,8] [1] [.ref 1 0,Zav false lx.Entries,I (lx.Entries.length:Int),I 0] [some (.box [Zav false lx.Entries])] [] hB trivial (Zbg ?_)
  refine Zdm (fun gn gσ=>∃(t8:Int),gn=((lx.Entries.length:Int)-t8).toNat∧(0≤t8∧t8≤(lx.Entries.length:Int))∧gσ=mkS [(1,.ref 1 0),(6,Zav false lx.Entries),(7,I (lx.Entries.length:Int)),(8,I t8)] [(1,.box [Zav false lx.Entries])]) (((lx.Entries.length:Int)-0).toNat) ⟨0,rfl,om,rfl⟩ (fun gn gσ hI=> ?_)
  obtain ⟨t8,rfl,hi0,rfl⟩:=hI
  refine Zah ?_
  by_cases h1:t8<(lx.Entries.length:Int)
  ·have hi:t8.toNat<lx.Entries.length:=by omega
   have hen:=hx.2.1 _ (Zca hi)
   have hed:=hen
   refine Zbn [(0,.dec true)] [1,6,7,8,9] [1] [_] hB ⟨h1,trivial⟩ (Zac (Zah (Zbr (Zar (Zac (Zah (Zbg ?_)))))))
   refine aQ [(3,.new 4)] [1,3,4,6,7,8] [1,4] [(0:Int)≤t8∧t8<(lx.Entries.length:Int)] hB ⟨⟨om,om⟩,trivial⟩ (Zah ?_)
   by_cases h2:0<t8
   ·have hpr:=Zrr hx.2.2 (show (t8-1).toNat<t8.toNat by omega) hi
    have hpa:=(cmpN_w.anti _ _).1 hpr
    refine Zbn [(2,.call [(true,.any)] true (Bv true)),(7,.call [(true,.any)] true (Bv true)),(12,.dec true),(23,.dec false)] [1,6,7,8,38] [1] [Con Tryz.prog 57 [Sv ((at_ lx.Entries t8.toNat).Word)] true (Bv true)∧True,Con Tryz.prog 58 [I ((at_ lx.Entries t8.toNat).Cost)] true (Bv true)∧True,_,inR .i64 (t8-1),(0:Int)≤(t8-1)∧(t8-1)<(lx.Entries.length:Int),¬ (Zfz ((at_ lx.Entries t8.toNat).Word) ((at_ lx.Entries ((t8-1).toNat)).Word)=true∨((at_ lx.Entries t8.toNat).Word)=((at_ lx.Entries ((t8-1).toNat)).Word))] hB ⟨⟨(Zau hen.1 (Zyp ((at_ lx.Entries t8.toNat).Word) (by have:=(Zfv.1 hen.1).1;omega))),trivial⟩,⟨(Zau (Ziw.2 hen.2) (Zrv ((at_ lx.Entries t8.toNat).Cost))),trivial⟩,h2,(Zad om om),⟨om,om⟩,(by have q:=Zjx.1 (show Zih _ _<0 from hpr);exact fun z=>z.elim (fun a=>by rw [Zwb q] at a;cases a) (fun a=>Yie q a.symm)),trivial⟩ (Zac (Zbo (Zar (Zbq 1 (Zac ?_)))))
    refine Zeo [] [1,6,7,8] [1] [.ref 1 0,Zav false lx.Entries,I (lx.Entries.length:Int),I (t8+1)] [some (.box [Zav false lx.Entries])] [inR .i64 (t8+1)] hB ⟨(Zad om om),trivial⟩ ?_
    exact Zbs _ om ⟨(t8+1),rfl,om,rfl⟩
   refine Zbn [(2,.call [(true,.any)] true (Bv true)),(7,.call [(true,.any)] true (Bv true)),(12,.dec false)] [1,6,7,8,38] [1] [Con Tryz.prog 57 [Sv ((at_ lx.Entries t8.toNat).Word)] true (Bv true)∧True,Con Tryz.prog 58 [I ((at_ lx.Entries t8.toNat).Cost)] true (Bv true)∧True,_] hB ⟨⟨(Zau hen.1 (Zyp ((at_ lx.Entries t8.toNat).Word) (by have:=(Zfv.1 hen.1).1;omega))),trivial⟩,⟨(Zau (Ziw.2 hen.2) (Zrv ((at_ lx.Entries t8.toNat).Cost))),trivial⟩,h2,trivial⟩ (Zac (Zbo (Zar (Zbq 1 (Zac ?_)))))
   refine Zeo [] [1,6,7,8] [1] [.ref 1 0,Zav false lx.Entries,I (lx.Entries.length:Int),I (t8+1)] [some (.box [Zav false lx.Entries])] [inR .i64 (t8+1)] hB ⟨(Zad om om),trivial⟩ ?_
   exact Zbs _ om ⟨(t8+1),rfl,om,rfl⟩
  refine Zbn [(0,.dec false)] [1,6,7,8,9] [1] [_] hB ⟨h1,trivial⟩ (Zac (Zah (Zbo (Zcy (Zam (Zam (Zbi (Zac ?_))))))))
  refine aR [(3,.dec true)] [2] [] [Bv true] [] [(lx.Entries.length:Int)≤60] hB ⟨om,trivial⟩ (Zan ?_)
  refine Zao hB (Bv true) (by kernel_rfl) (.inl rfl) rfl (fun _=>trivial)
def Zit (n:Nat) (p:Nat→Bool):Int:=match (List.range n).find? p with
 |some i=>i
 |none=>-1
theorem Yel {n:Nat} {p:Nat→Bool} {k:Nat} (hk:k<n) (hp:p k=true) (hn:∀i,i<k→p i=false):Zit n p=k:=by
 have h:(List.range n).find? p=some k:=by
  rw [List.find?_range_eq_some]
  exact ⟨hp,List.mem_range.2 hk,fun j hj=>by simpa using hn j hj⟩
 simp [Zit,h]
theorem Zrh {n:Nat} {p:Nat→Bool} (hn:∀i,i<n→p i=false):Zit n p=-1:=by
 have h:(List.range n).find? p=none:=by
  rw [List.find?_range_eq_none]
  intro i hi;simpa using hn i hi
 simp [Zit,h]
theorem Zyq (n:Nat) (p:Nat→Bool):(Zit n p=-1∧∀i,i<n→p i=false)∨∃k:Nat,Zit n p=k∧k<n∧p k=true∧∀i,i<k→p i=false:=by
 by_cases h:∃k,k<n∧p k=true
 ·right
  obtain ⟨k,hk,hp⟩:=h
  cases e:(List.range n).find? p with
  |none=>rw [List.find?_range_eq_none] at e;exact absurd hp (by simpa using e k hk)
  |some i=>
   have e':=e
   rw [List.find?_range_eq_some] at e
   exact ⟨i,by simp [Zit,e'],List.mem_range.1 e.2.1,e.1,fun j hj=>by simpa using e.2.2 j hj⟩
 ·left
  have h':∀i,i<n→p i=false:=fun i hi=>by rw [←Bool.not_eq_true];exact fun hp=>h ⟨i,hi,hp⟩
  exact ⟨Zrh h',h'⟩
theorem Yem (n:Nat) (p:Nat→Bool):decide (0≤Zit n p)=Yar n p:=by
 rcases Zyq n p with ⟨h1,h2⟩|⟨k,h1,h2,h3,_⟩
 ·rw [h1,Znc h2];decide
 ·rw [h1,Yau h2 h3];simp
theorem Yav (l:Lattice) (w:ByteArray) (hl:Zdg l) (hw:w.size≤1000):Con Tryz.prog 59 [Zcr l,Sv w] true (I (tcF l w)):=by
  have hn:=hl.1
  have hc:=hl.2.1
  refine Zcm (fn:=Tryz.f59) (nt:=96) Tryz.func59 rfl rfl rfl rfl (by simp [Zaf,Zai,Zff]) fun B hB=> ?_
  refine Zck (x:=Zcr l) 0 rfl (fun len_l=> ?_)
  simp [Zei,Zhv,Zln,Zdq,Zbk] at len_l
  refine aQ [(0,.new 2)] [1,2] [2] [] hB trivial ?_
  refine aQ [(2,.new 15)] [1,2,5] [2,15] [(0:Int)≤l.Nodes∧(l.Nodes:Int)≤l.Nodes∧(8:Int)*l.Nodes≤281474976710656∧l.Nodes≤9223372036854775807] hB ⟨⟨om,om,om,om⟩,trivial⟩ (Zah ?_)
  refine aR [] [1,2,5,17,18] [2,15] [Sv w,.ref 2 0,.arr 15,I (l.Nodes.toNat:Int),I 0] [some (Zbm l),some (.arr 1 l.Nodes.toNat (fun _=>[I 0]))] [] hB trivial (Zbg ?_)
  refine Zpw hB [] (T:=[(1,Sv w),(2,.ref 2 0),(5,.arr 15),(17,I (l.Nodes.toNat:Int)),(18,I 0)]) (O:=[(2,Zbm l),(15,tAI (List.replicate l.Nodes.toNat (0:Int)))]) rfl (⟨.inl rfl,.inl rfl,.inl rfl,.inl rfl,.inl rfl,trivial⟩) (⟨.inl rfl,.inr ⟨rfl,(by first|rfl|(simp;done)|(simp;omega)|omega),fun i_ hi_=> .inl (Zhy (enc:=cI) rfl i_ hi_)⟩,trivial⟩) ?_
  refine Zdm (fun gn gσ=>∃(t18:Int) (cs:List Int),gn=(l.Nodes-t18).toNat∧(0≤t18∧t18≤l.Nodes)∧(cs=farN l.Nodes.toNat t18.toNat)∧(cs.length=l.Nodes.toNat)∧gσ=mkS [(1,Sv w),(2,.ref 2 0),(5,.arr 15),(17,I (l.Nodes.toNat:Int)),(18,I t18)] [(2,Zbm l),(15,tAI cs)]) ((l.Nodes-0).toNat) ⟨0,(List.replicate l.Nodes.toNat (0:Int)),rfl,om,(by exact far_0 rfl),(by simp),rfl⟩ (fun gn gσ hI=> ?_)
  obtain ⟨t18,cs,rfl,hi0,hcs,hcl,rfl⟩:=hI
  refine Zah ?_
  by_cases h1:t18<(l.Nodes.toNat:Int)
  ·refine Zbn [(0,.dec true)] [1,2,5,17,18,19] [2,15] [_] hB ⟨h1,trivial⟩ (Zac (Zah (Zbr (Zar (Zac (Zah (Zbg ?_)))))))
   refine aQ [] [1,2,5,6,17,18] [2,15] [] hB trivial ?_
   refine Zbn [] [1,2,5,17,18] [2,15] [(0:Int)≤t18∧t18<(cs.length:Int),t18.toNat<cs.length] hB ⟨⟨om,om⟩,om,trivial⟩ (Zbq 1 (Zac ?_))
   refine Zeo [] [1,2,5,17,18] [2,15] [Sv w,.ref 2 0,.arr 15,I (l.Nodes.toNat:Int),I (t18+1)] [some (Zbm l),some (.arr 1 cs.length (fun q=>bif Nat.beq q t18.toNat then [I 1099511627776] else (fI cs) q))] [inR .i64 (t18+1)] hB ⟨(Zad om om),trivial⟩ ?_
   refine Znk hB [] (T:=[(1,Sv w),(2,.ref 2 0),(5,.arr 15),(17,I (l.Nodes.toNat:Int)),(18,I (t18+1))]) (O:=[(2,Zbm l),(15,tAI (cs.set t18.toNat 1099511627776))]) rfl (⟨.inl rfl,.inl rfl,.inl rfl,.inl rfl,.inl rfl,trivial⟩) (⟨.inl rfl,.inr ⟨rfl,(by first|rfl|(simp;done)|(simp;omega)|omega),fun i_ hi_=> .inl (Zgc (enc:=cI) rfl i_ hi_)⟩,trivial⟩) (Zbs _ om ⟨(t18+1),(cs.set t18.toNat 1099511627776),rfl,om,(by rw [hcs,Ycu om,show (t18+1).toNat=t18.toNat+1 from by omega]),(by rw [List.length_set];exact hcl),rfl⟩)
  have hcf:cs=List.replicate l.Nodes.toNat 1099511627776:=by rw [hcs,show t18.toNat=l.Nodes.toNat from by omega,Yif]
  refine Zbn [(0,.dec false)] [1,2,5,17,18,19] [2,15] [_] hB ⟨h1,trivial⟩ (Zac (Zah (Zbo (Zcy (Zam (Zam (Zbi (Zac ?_))))))))
  refine aQ [] [1,2,5] [2,15] [(0:Int)≤0∧0<(cs.length:Int),0<cs.length] hB ⟨⟨om,om⟩,om,trivial⟩ (Zah ?_)
  refine aR [] [1,2,5,28,29] [2,15] [Sv w,.ref 2 0,.arr 15,I (w.size:Int),I 0] [some (Zbm l),some (.arr 1 cs.length (fun q=>bif Nat.beq q 0 then [I 0] else (fI cs) q))] [] hB trivial (Zbg ?_)
  refine Zpw hB [] (T:=[(1,Sv w),(2,.ref 2 0),(5,.arr 15),(28,I (w.size:Int)),(29,I 0)]) (O:=[(2,Zbm l),(15,tAI (cs.set 0 0))]) rfl (⟨.inl rfl,.inl rfl,.inl rfl,.inl rfl,.inl rfl,trivial⟩) (⟨.inl rfl,.inr ⟨rfl,(by first|rfl|(simp;done)|(simp;omega)|omega),fun i_ hi_=> .inl (Zgc (enc:=cI) rfl i_ hi_)⟩,trivial⟩) ?_
  refine Zdm (fun gn gσ=>∃(c2:List Int) (t29:Int),gn=((w.size:Int)-t29).toNat∧(0≤t29∧t29≤(w.size:Int))∧(c2=Zlo l w t29.toNat)∧(∀j:Nat,(j:Int)<t29→tcA l w j=true)∧gσ=mkS [(1,Sv w),(2,.ref 2 0),(5,.arr 15),(28,I (w.size:Int)),(29,I t29)] [(2,Zbm l),(15,tAI c2)]) (((w.size:Int)-0).toNat) ⟨(cs.set 0 0),0,rfl,om,(by rw [hcf];rfl),(by intro j hj;omega),rfl⟩ (fun gn gσ hI=> ?_)
  obtain ⟨c2,t29,rfl,hi9,hc2,hal,rfl⟩:=hI
  have hrow:=Zll hl w t29.toNat
  rw [←hc2] at hrow
  have hrl:=hrow.1
  refine Zah ?_
  by_cases h2:t29<(w.size:Int)
  ·have hi9:t29.toNat<w.size:=by omega
   refine Zbn [(0,.dec true)] [1,2,5,28,29,30] [2,15] [_] hB ⟨h2,trivial⟩ (Zac (Zah (Zbr (Zar (Zac (Zah (Zbg ?_)))))))
   refine aQ [] [1,2,5,7,28,29] [2,15] [] hB trivial ?_
   refine aQ [(2,.new 34)] [1,2,5,7,8,28,29] [2,15,34] [(0:Int)≤l.Nodes∧(l.Nodes:Int)≤l.Nodes∧(8:Int)*l.Nodes≤281474976710656∧l.Nodes≤9223372036854775807] hB ⟨⟨om,om,om,om⟩,trivial⟩ (Zah ?_)
   refine aR [] [1,2,5,7,8,28,29,36,37] [2,15,34] [Sv w,.ref 2 0,.arr 15,I t29,.arr 34,I (w.size:Int),I t29,I (l.Nodes.toNat:Int),I 0] [some (Zbm l),some (tAI c2),some (.arr 1 l.Nodes.toNat (fun _=>[I 0]))] [] hB trivial (Zbg ?_)
   refine Zpw hB [] (T:=[(1,Sv w),(2,.ref 2 0),(5,.arr 15),(7,I t29),(8,.arr 34),(28,I (w.size:Int)),(29,I t29),(36,I (l.Nodes.toNat:Int)),(37,I 0)]) (O:=[(2,Zbm l),(15,tAI c2),(34,tAI (List.replicate l.Nodes.toNat (0:Int)))]) rfl (⟨.inl rfl,.inl rfl,.inl rfl,.inl rfl,.inl rfl,.inl rfl,.inl rfl,.inl rfl,.inl rfl,trivial⟩) (⟨.inl rfl,.inl rfl,.inr ⟨rfl,(by first|rfl|(simp;done)|(simp;omega)|omega),fun i_ hi_=> .inl (Zhy (enc:=cI) rfl i_ hi_)⟩,trivial⟩) ?_
   refine Zdm (fun gn gσ=>∃(t37:Int) (nx:List Int),gn=(l.Nodes-t37).toNat∧(0≤t37∧t37≤l.Nodes)∧(nx=farN l.Nodes.toNat t37.toNat)∧(nx.length=l.Nodes.toNat)∧gσ=mkS [(1,Sv w),(2,.ref 2 0),(5,.arr 15),(7,I t29),(8,.arr 34),(28,I (w.size:Int)),(29,I t29),(36,I (l.Nodes.toNat:Int)),(37,I t37)] [(2,Zbm l),(15,tAI c2),(34,tAI nx)]) ((l.Nodes-0).toNat) ⟨0,(List.replicate l.Nodes.toNat (0:Int)),rfl,om,(by exact far_0 rfl),(by simp),rfl⟩ (fun gn gσ hI=> ?_)
   obtain ⟨t37,nx,rfl,hi7,hnx,hnl,rfl⟩:=hI
   refine Zah ?_
   by_cases h3:t37<(l.Nodes.toNat:Int)
   ·refine Zbn [(0,.dec true)] [1,2,5,7,8,28,29,36,37,38] [2,15,34] [_] hB ⟨h3,trivial⟩ (Zac (Zah (Zbr (Zar (Zac (Zah (Zbg ?_)))))))
    refine aQ [] [1,2,5,7,8,9,28,29,36,37] [2,15,34] [] hB trivial ?_
    refine Zbn [] [1,2,5,7,8,28,29,36,37] [2,15,34] [(0:Int)≤t37∧t37<(nx.length:Int),t37.toNat<nx.length] hB ⟨⟨om,om⟩,om,trivial⟩ (Zbq 5 (Zac ?_))
    refine Zeo [] [1,2,5,7,8,28,29,36,37] [2,15,34] [Sv w,.ref 2 0,.arr 15,I t29,.arr 34,I (w.size:Int),I t29,I (l.Nodes.toNat:Int),I (t37+1)] [some (Zbm l),some (tAI c2),some (.arr 1 nx.length (fun q=>bif Nat.beq q t37.toNat then [I 1099511627776] else (fI nx) q))] [inR .i64 (t37+1)] hB ⟨(Zad om om),trivial⟩ ?_
    refine Znk hB [] (T:=[(1,Sv w),(2,.ref 2 0),(5,.arr 15),(7,I t29),(8,.arr 34),(28,I (w.size:Int)),(29,I t29),(36,I (l.Nodes.toNat:Int)),(37,I (t37+1))]) (O:=[(2,Zbm l),(15,tAI c2),(34,tAI (nx.set t37.toNat 1099511627776))]) rfl (⟨.inl rfl,.inl rfl,.inl rfl,.inl rfl,.inl rfl,.inl rfl,.inl rfl,.inl rfl,.inl rfl,trivial⟩) (⟨.inl rfl,.inl rfl,.inr ⟨rfl,(by first|rfl|(simp;done)|(simp;omega)|omega),fun i_ hi_=> .inl (Zgc (enc:=cI) rfl i_ hi_)⟩,trivial⟩) (Zbs _ om ⟨(t37+1),(nx.set t37.toNat 1099511627776),rfl,om,(by rw [hnx,Ycu om,show (t37+1).toNat=t37.toNat+1 from by omega]),(by rw [List.length_set];exact hnl),rfl⟩)
   have hnf:nx=List.replicate l.Nodes.toNat 1099511627776:=by rw [hnx,show t37.toNat=l.Nodes.toNat from by omega,Yif]
   refine Zbn [(0,.dec false)] [1,2,5,7,8,28,29,36,37,38] [2,15,34] [_] hB ⟨h3,trivial⟩ (Zac (Zah (Zbo (Zcy (Zam (Zam (Zbi (Zac ?_))))))))
   refine aQ [] [1,2,5,7,8,10,28,29] [2,15,34] [] hB trivial (Zah ?_)
   refine aR [] [1,2,5,7,8,10,28,29,45,46,47] [2,15,34] [Sv w,.ref 2 0,.arr 15,I t29,.arr 34,Bv false,I (w.size:Int),I t29,Zbk false l.Edges,I (l.Edges.length:Int),I 0] [some (Zbm l),some (tAI c2),some (tAI nx)] [] hB trivial (Zbg ?_)
   refine Zdm (fun gn gσ=>∃(alive:Bool) (t47:Int) (n2:List Int),gn=((l.Edges.length:Int)-t47).toNat∧(0≤t47∧t47≤(l.Edges.length:Int))∧((n2,alive)=Zry l c2 (chA w t29.toNat) t47.toNat)∧gσ=mkS [(1,Sv w),(2,.ref 2 0),(5,.arr 15),(7,I t29),(8,.arr 34),(10,Bv alive),(28,I (w.size:Int)),(29,I t29),(45,Zbk false l.Edges),(46,I (l.Edges.length:Int)),(47,I t47)] [(2,Zbm l),(15,tAI c2),(34,tAI n2)]) (((l.Edges.length:Int)-0).toNat) ⟨false,0,nx,rfl,om,(by rw [hnf];rfl),rfl⟩ (fun gn gσ hI=> ?_)
   obtain ⟨alive,t47,n2,rfl,hi4,hn2,rfl⟩:=hI
   have hre:=Zwc hl om hrow (chA w t29.toNat) t47.toNat om
   rw [←hn2] at hre
   replace hre:Zyr l.Nodes.toNat _ n2:=hre
   have hnl2:=hre.1
   refine Zah ?_
   by_cases h4:t47<(l.Edges.length:Int)
   ·have hi:t47.toNat<l.Edges.length:=by omega
    have hed:=hl.2.2.1 _ hi
    have hee:=hed.1
    have hec:=hed.2.1
    have hr1:=hrow.2 (at_ l.Edges t47.toNat).From.toNat om
    have hr2:=hre.2 (at_ l.Edges t47.toNat).To.toNat om
    refine Zbn [(0,.dec true)] [1,2,5,7,8,10,28,29,45,46,47,48] [2,15,34] [_] hB ⟨h4,trivial⟩ (Zac (Zah (Zbr (Zar (Zac (Zah (Zbg ?_)))))))
    refine aQ [(2,.new 12)] [1,2,5,7,8,10,12,28,29,45,46,47] [2,12,15,34] [(0:Int)≤t47∧t47<(l.Edges.length:Int)] hB ⟨⟨om,om⟩,trivial⟩ (Zah ?_)
    by_cases h5:((at_ l.Edges t47.toNat).Label)=(w.extract t29.toNat (t29+1).toNat)
    ·have hlb:=h5
     rw [show w.extract t29.toNat (t29+1).toNat=chA w t29.toNat from by rw [show (t29+1).toNat=t29.toNat+1 from by omega];rfl] at hlb
     by_cases h6:(at_ c2 (((at_ l.Edges t47.toNat).From).toNat))<1099511627776
     ·refine Zbn [(7,.dec true),(14,.dec true)] [1,2,5,7,8,10,12,28,29,45,46,47,66] [2,12,15,34] [inR .i64 (t29+1),(0:Int)≤t29∧t29≤(t29+1)∧(t29+1)≤(w.size:Int),_,(0:Int)≤((at_ l.Edges t47.toNat).From)∧((at_ l.Edges t47.toNat).From)<(c2.length:Int),((at_ l.Edges t47.toNat).From).toNat<c2.length,_] hB ⟨(Zad om om),⟨om,om,om⟩,h5,⟨om,om⟩,om,h6,trivial⟩ (Zac (Zbr ?_))
      refine aQ [] [1,2,5,7,8,28,29,45,46,47] [2,15,34] [(0:Int)≤((at_ l.Edges t47.toNat).To)∧((at_ l.Edges t47.toNat).To)<(n2.length:Int),((at_ l.Edges t47.toNat).To).toNat<n2.length,(0:Int)≤((at_ l.Edges t47.toNat).From)∧((at_ l.Edges t47.toNat).From)<(c2.length:Int),((at_ l.Edges t47.toNat).From).toNat<c2.length,inR .i64 ((at_ c2 (((at_ l.Edges t47.toNat).From).toNat))+((at_ l.Edges t47.toNat).Cost)),(0:Int)≤((at_ l.Edges t47.toNat).To)∧((at_ l.Edges t47.toNat).To)<(n2.length:Int),((at_ l.Edges t47.toNat).To).toNat<n2.length] hB ⟨⟨om,om⟩,om,⟨om,om⟩,om,(Zad om om),⟨om,om⟩,om,trivial⟩ ?_
      refine Zbn [] [1,2,5,7,8,10,28,29,45,46,47] [2,15,34] [] hB trivial (Zbq 7 (Zac ?_))
      refine Zeo [] [1,2,5,7,8,10,28,29,45,46,47] [2,15,34] [Sv w,.ref 2 0,.arr 15,I t29,.arr 34,Bv true,I (w.size:Int),I t29,Zbk false l.Edges,I (l.Edges.length:Int),I (t47+1)] [some (Zbm l),some (tAI c2),some (.arr 1 n2.length (fun q=>bif Nat.beq q (((at_ l.Edges t47.toNat).To).toNat) then [I (min (at_ n2 (((at_ l.Edges t47.toNat).To).toNat)) ((at_ c2 (((at_ l.Edges t47.toNat).From).toNat))+((at_ l.Edges t47.toNat).Cost)))] else (fI n2) q))] [inR .i64 (t47+1)] hB ⟨(Zad om om),trivial⟩ ?_
      refine Znk hB [] (T:=[(1,Sv w),(2,.ref 2 0),(5,.arr 15),(7,I t29),(8,.arr 34),(10,Bv true),(28,I (w.size:Int)),(29,I t29),(45,Zbk false l.Edges),(46,I (l.Edges.length:Int)),(47,I (t47+1))]) (O:=[(2,Zbm l),(15,tAI c2),(34,tAI (n2.set (((at_ l.Edges t47.toNat).To).toNat) (min (at_ n2 (((at_ l.Edges t47.toNat).To).toNat)) ((at_ c2 (((at_ l.Edges t47.toNat).From).toNat))+((at_ l.Edges t47.toNat).Cost)))))]) rfl (⟨.inl rfl,.inl rfl,.inl rfl,.inl rfl,.inl rfl,.inl rfl,.inl rfl,.inl rfl,.inl rfl,.inl rfl,.inl rfl,trivial⟩) (⟨.inl rfl,.inl rfl,.inr ⟨rfl,(by first|rfl|(simp;done)|(simp;omega)|omega),fun i_ hi_=> .inl (Zgc (enc:=cI) rfl i_ hi_)⟩,trivial⟩) (Zbs _ om ⟨true,(t47+1),(n2.set (((at_ l.Edges t47.toNat).To).toNat) (min (at_ n2 (((at_ l.Edges t47.toNat).To).toNat)) ((at_ c2 (((at_ l.Edges t47.toNat).From).toNat))+((at_ l.Edges t47.toNat).Cost)))),rfl,om,(by rw [show (t47+1).toNat=t47.toNat+1 from by omega];show _=(if _ then _ else _);rw [←hn2];first|(rw [if_pos ⟨by assumption,by assumption⟩];done)|(rw [if_neg (fun q=>absurd q.1 (by assumption))];done)|(rw [if_neg (fun q=>absurd q.2 (by assumption))];done)),rfl⟩)
     refine Zbn [(7,.dec true),(14,.dec false)] [1,2,5,7,8,10,12,28,29,45,46,47,66] [2,12,15,34] [inR .i64 (t29+1),(0:Int)≤t29∧t29≤(t29+1)∧(t29+1)≤(w.size:Int),_,(0:Int)≤((at_ l.Edges t47.toNat).From)∧((at_ l.Edges t47.toNat).From)<(c2.length:Int),((at_ l.Edges t47.toNat).From).toNat<c2.length,_] hB ⟨(Zad om om),⟨om,om,om⟩,h5,⟨om,om⟩,om,h6,trivial⟩ (Zac (Zbo (Zar (Zbq 7 (Zac ?_)))))
     refine Zeo [] [1,2,5,7,8,10,28,29,45,46,47] [2,15,34] [Sv w,.ref 2 0,.arr 15,I t29,.arr 34,Bv alive,I (w.size:Int),I t29,Zbk false l.Edges,I (l.Edges.length:Int),I (t47+1)] [some (Zbm l),some (tAI c2),some (tAI n2)] [inR .i64 (t47+1)] hB ⟨(Zad om om),trivial⟩ ?_
     exact Zbs _ om ⟨alive,(t47+1),n2,rfl,om,(by rw [show (t47+1).toNat=t47.toNat+1 from by omega];show _=(if _ then _ else _);rw [←hn2];first|(rw [if_pos ⟨by assumption,by assumption⟩];done)|(rw [if_neg (fun q=>absurd q.1 (by assumption))];done)|(rw [if_neg (fun q=>absurd q.2 (by assumption))];done)),rfl⟩
    have hlb:=h5
    rw [show w.extract t29.toNat (t29+1).toNat=chA w t29.toNat from by rw [show (t29+1).toNat=t29.toNat+1 from by omega];rfl] at hlb
    refine Zbn [(7,.dec false)] [1,2,5,7,8,10,12,28,29,45,46,47,66] [2,12,15,34] [inR .i64 (t29+1),(0:Int)≤t29∧t29≤(t29+1)∧(t29+1)≤(w.size:Int),_] hB ⟨(Zad om om),⟨om,om,om⟩,h5,trivial⟩ (Zac (Zbo (Zar (Zbq 7 (Zac ?_)))))
    refine Zeo [] [1,2,5,7,8,10,28,29,45,46,47] [2,15,34] [Sv w,.ref 2 0,.arr 15,I t29,.arr 34,Bv alive,I (w.size:Int),I t29,Zbk false l.Edges,I (l.Edges.length:Int),I (t47+1)] [some (Zbm l),some (tAI c2),some (tAI n2)] [inR .i64 (t47+1)] hB ⟨(Zad om om),trivial⟩ ?_
    exact Zbs _ om ⟨alive,(t47+1),n2,rfl,om,(by rw [show (t47+1).toNat=t47.toNat+1 from by omega];show _=(if _ then _ else _);rw [←hn2];first|(rw [if_pos ⟨by assumption,by assumption⟩];done)|(rw [if_neg (fun q=>absurd q.1 (by assumption))];done)|(rw [if_neg (fun q=>absurd q.2 (by assumption))];done)),rfl⟩
   have hie:t47.toNat=l.Edges.length:=by omega
   refine Zbn [(0,.dec false)] [1,2,5,7,8,10,28,29,45,46,47,48] [2,15,34] [_] hB ⟨h4,trivial⟩ (Zac (Zah (Zbo (Zcy (Zam (Zam (Zbi (Zac (Zah ?_)))))))))
   refine Zah ?_
   rcases Bool.eq_false_or_eq_true alive with h7|h7
   ·subst h7
    refine Zbn [] [1,2,8,28,29,87] [2,34] [] hB trivial (Zac (Zbo (Zar (Zac ?_))))
    refine Zbn [] [1,2,5,28,29] [2,34] [] hB trivial (Zbq 3 (Zac ?_))
    refine Zeo [] [1,2,5,28,29] [2,34] [Sv w,.ref 2 0,.arr 34,I (w.size:Int),I (t29+1)] [some (Zbm l),some (tAI n2)] [inR .i64 (t29+1)] hB ⟨(Zad om om),trivial⟩ ?_
    refine Znk hB [(15,34)] (T:=[(1,Sv w),(2,.ref 2 0),(5,.arr 15),(28,I (w.size:Int)),(29,I (t29+1))]) (O:=[(2,Zbm l),(15,tAI n2)]) rfl (⟨.inl rfl,.inl rfl,.inl rfl,.inl rfl,.inl rfl,trivial⟩) (⟨.inl rfl,.inl rfl,trivial⟩) (Zbs _ om ⟨n2,(t29+1),rfl,om,(by rw [show (t29+1).toNat=t29.toNat+1 from by omega];show _=(Zry l (Zlo l w t29.toNat) (chA w t29.toNat) l.Edges.length).1;rw [←hc2,←hie,←hn2]),(by intro j hj;by_cases ej:j=t29.toNat;(subst ej;show (Zry l (Zlo l w t29.toNat) (chA w t29.toNat) l.Edges.length).2=true;rw [←hc2,←hie,←hn2]);exact hal j om),rfl⟩)
   subst h7
   refine Zbn [] [1,2,8,28,29,87] [2,34] [] hB trivial (Zac (Zbr ?_))
   refine aR [] [4] [] [I 1099511627776] [] [] hB trivial (Zan ?_)
   refine Zaj (Zaz (Zaj (Zaj (Zaz (Zaj ?_)))))
   refine Zao hB (I 1099511627776) (by kernel_rfl) (.inl (by refine congrArg I ?_;first|(unfold tcF;rw [if_pos (Yau hi9 (by show (!(Zry l (Zlo l w t29.toNat) _ _).2)=true;rw [←hc2,←hie,←hn2];rfl))];done)|(unfold tcF;rw [if_neg (by rw [Znc (fun j hj=>by rw [hal j om];rfl)];decide),←hie9,←hc2];done))) rfl (fun _=>trivial)
  have hie9:t29.toNat=w.size:=by omega
  have hrow:=Zll hl w t29.toNat
  rw [←hc2] at hrow
  have hrl:=hrow.1
  refine Zbn [(0,.dec false)] [1,2,5,28,29,30] [2,15] [_] hB ⟨h2,trivial⟩ (Zac (Zah (Zbo (Zcy (Zam (Zam (Zbi (Zac ?_))))))))
  refine aR [] [4] [] [I (at_ c2 ((l.Nodes-1).toNat))] [] [inR .i64 (l.Nodes-1),(0:Int)≤(l.Nodes-1)∧(l.Nodes-1)<(c2.length:Int),(l.Nodes-1).toNat<c2.length] hB ⟨(Zad om om),⟨om,om⟩,om,trivial⟩ (Zan ?_)
  refine Zao hB (I (at_ c2 ((l.Nodes-1).toNat))) (by kernel_rfl) (.inl (by refine congrArg I ?_;first|(unfold tcF;rw [if_pos (Yau hi9 (by show (!(Zry l (Zlo l w t29.toNat) _ _).2)=true;rw [←hc2,←hie,←hn2];rfl))];done)|(unfold tcF;rw [if_neg (by rw [Znc (fun j hj=>by rw [hal j om];rfl)];decide),←hie9,←hc2];done))) rfl (fun _=>trivial)
theorem Zwd (w:ByteArray):w.extract 0 0=⟨#[]⟩:=by
 apply ByteArray.ext
 simp
theorem Zwe (w:ByteArray) {k:Nat} (h:k<w.size):w.extract 0 (k+1)=w.extract 0 k++chA w k:=by
 apply Ztj
 rw [Zlm]
 unfold chA
 have e:∀a b:Nat,(w.extract a b).toList=(w.data.toList.drop a).take (b-a):=fun a b=>by rw [Lib.toList_data];simp [ByteArray.data_extract,Array.toList_extract,List.extract_eq_take_drop]
 rw [e,e,e,Nat.sub_zero,Nat.sub_zero,List.drop_zero,Nat.add_sub_cancel_left,List.take_add]
theorem Znd (w:ByteArray):w.extract 0 w.size=w:=by
 apply Ztj
 rw [Lib.toList_data,Lib.toList_data,ByteArray.data_extract,Array.toList_extract,List.extract_eq_take_drop,List.drop_zero,Nat.sub_zero,List.take_of_length_le]
 exact Nat.le_refl _
theorem Yig (w:ByteArray) {k:Nat} (h:k≤w.size):(w.extract 0 k).size=k:=by rw [ByteArray.size_extract];omega
theorem chA_sz (w:ByteArray) {k:Nat} (h:k<w.size):(chA w k).size=1:=by unfold chA;rw [ByteArray.size_extract];omega
def tcC (l:Lattice) (c:List Int) (ch:ByteArray) (i n:Nat) (v:Int):Prop:=∃i':Nat,i'<i∧(at_ l.Edges i').Label=ch∧at_ c (at_ l.Edges i').From.toNat<1099511627776∧(at_ l.Edges i').To=(n:Int)∧v=at_ c (at_ l.Edges i').From.toNat+(at_ l.Edges i').Cost
theorem Yaw {l:Lattice} (hl:Zdg l) {b:Int} (hb:0≤b) {c:List Int} (hc:Zyr l.Nodes.toNat b c) (ch:ByteArray):∀i:Nat,i≤l.Edges.length→(∀n:Nat,n<l.Nodes.toNat→(at_ (Zry l c ch i).1 n<1099511627776→tcC l c ch i n (at_ (Zry l c ch i).1 n))∧∀v,tcC l c ch i n v→at_ (Zry l c ch i).1 n≤v)∧((∃i':Nat,i'<i∧(at_ l.Edges i').Label=ch∧at_ c (at_ l.Edges i').From.toNat<1099511627776)→(Zry l c ch i).2=true)
 |0,_=>⟨fun n hn=>⟨fun q=>by
   have e:at_ (Zry l c ch 0).1 n=1099511627776:=Yih hn
   omega,fun v ⟨i',h,_⟩=>absurd h (Nat.not_lt_zero _)⟩,fun ⟨i',h,_⟩=>absurd h (Nat.not_lt_zero _)⟩
 |i+1,hi=>by
  have ih:=Yaw hl hb hc ch i om
  have ok:=Zwc hl hb hc ch i om
  have he:=hl.2.2.1 i om
  have h1:=he.1
  have hup:∀n v,tcC l c ch i n v→tcC l c ch (i+1) n v:=fun n v ⟨i',a,q⟩=>⟨i',by omega,q⟩
  unfold Zry
  split
  ·rename_i q
   have hnew:tcC l c ch (i+1) (at_ l.Edges i).To.toNat (at_ c (at_ l.Edges i).From.toNat+(at_ l.Edges i).Cost):=⟨i,by omega,q.1,q.2,by omega,rfl⟩
   refine ⟨fun n hn=> ?_,fun _=>rfl⟩
   by_cases e:n=(at_ l.Edges i).To.toNat
   ·subst e
    dsimp only
    rw [Zdb (by rw [ok.1];exact hn)]
    have a:=ih.1 _ hn
    constructor
    ·intro hlt
     rcases Int.le_total (at_ (Zry l c ch i).1 (at_ l.Edges i).To.toNat) (at_ c (at_ l.Edges i).From.toNat+(at_ l.Edges i).Cost) with z|z
     ·rw [Int.min_eq_left z] at hlt⊢
      exact hup _ _ (a.1 hlt)
     ·rw [Int.min_eq_right z];exact hnew
    ·rintro v ⟨i',h2,h3,h4,h5,h6⟩
     by_cases e2:i'=i
     ·subst e2;rw [h6];exact Int.min_le_right _ _
     ·exact Int.le_trans (Int.min_le_left _ _) (a.2 v ⟨i',by omega,h3,h4,h5,h6⟩)
   ·dsimp only
    rw [Zdz e]
    have a:=ih.1 _ hn
    refine ⟨fun hlt=>hup _ _ (a.1 hlt),fun v ⟨i',h2,h3,h4,h5,h6⟩=> ?_⟩
    by_cases e2:i'=i
    ·subst e2;exact absurd h5 om
    ·exact a.2 v ⟨i',by omega,h3,h4,h5,h6⟩
  ·rename_i q
   refine ⟨fun n hn=> ?_,fun ⟨i',h2,h3,h4⟩=> ?_⟩
   ·have a:=ih.1 _ hn
    refine ⟨fun hlt=>hup _ _ (a.1 hlt),fun v ⟨i',h2,h3,h4,h5,h6⟩=> ?_⟩
    by_cases e2:i'=i
    ·subst e2;exact absurd ⟨h3,h4⟩ q
    ·exact a.2 v ⟨i',by omega,h3,h4,h5,h6⟩
   ·by_cases e2:i'=i
    ·subst e2;exact absurd ⟨h3,h4⟩ q
    ·exact ih.2 ⟨i',by omega,h3,h4⟩
theorem Zpl {l:Lattice} (hl:Zdg l) {w:ByteArray} {k n:Nat} (hk:k<w.size) (hn:n<l.Nodes.toNat) {c:Int} (h:pth l n ⟨w.extract 0 (k+1),c⟩):∃e∈l.Edges,e.To=(n:Int)∧e.Label=chA w k∧∃c',pth l e.From.toNat ⟨w.extract 0 k,c'⟩∧c=c'+e.Cost:=by
 rcases (Zjy hl hn _).1 h with ⟨_,q⟩|⟨e,he,a,r,hr,q⟩
 ·have:=congrArg (fun r:Reading=>r.Text.size) q
  simp only [Yig w (show k+1≤w.size by omega)] at this
  exact absurd this (by show ¬ (k+1=0);omega)
 ·have t:=congrArg Reading.Text q
  have c2:=congrArg Reading.Cost q
  replace t:w.extract 0 (k+1)=r.Text++e.Label:=t
  replace c2:c=r.Cost+e.Cost:=c2
  rw [Zwe w hk] at t
  have z:=app_inj t (by rw [chA_sz w hk,Zgt (Yep hl he).2.2])
  refine ⟨e,he,a,z.2.symm,r.Cost,?_,c2⟩
  rw [z.1];exact hr
theorem Zpm {l:Lattice} (hl:Zdg l) (w:ByteArray):∀k:Nat,k≤w.size→∀n:Nat,n<l.Nodes.toNat→(at_ (Zlo l w k) n<1099511627776→pth l n ⟨w.extract 0 k,at_ (Zlo l w k) n⟩)∧∀c,pth l n ⟨w.extract 0 k,c⟩→at_ (Zlo l w k) n≤c
 |0,_,n,hn=>by
  rw [Zwd]
  show (at_ ((List.replicate l.Nodes.toNat (1099511627776:Int)).set 0 0) n<_→pth l n ⟨⟨#[]⟩,at_ ((List.replicate l.Nodes.toNat (1099511627776:Int)).set 0 0) n⟩)∧∀c,_→at_ ((List.replicate l.Nodes.toNat (1099511627776:Int)).set 0 0) n≤c
  by_cases e:n=0
  ·subst e
   rw [Zdb (by rw [List.length_replicate];exact hn)]
   exact ⟨fun _=>(Zjy hl hn _).2 (.inl ⟨rfl,rfl⟩),fun c hc=>(Zou hl 0 0 (Nat.le_refl _) hn _ hc).2.1⟩
  ·rw [Zdz e,Yih hn]
   refine ⟨fun q=>absurd q om,fun c hc=> ?_⟩
   rcases (Zjy hl hn _).1 hc with ⟨q,_⟩|⟨e2,he,a,r,hr,q⟩
   ·exact absurd q e
   ·have t:=congrArg (fun r:Reading=>r.Text.size) q
    replace t:(⟨#[]⟩:ByteArray).size=(r.Text++e2.Label).size:=t
    rw [ByteArray.size_append,Zgt (Yep hl he).2.2] at t
    exact absurd t (by show ¬ (0=_);omega)
 |k+1,hk,n,hn=>by
  have ih:=Zpm hl w k om
  have rk:=Zll hl w k
  have R:=(Yaw hl om rk (chA w k) l.Edges.length (Nat.le_refl _)).1 n hn
  show (at_ (Zry l (Zlo l w k) (chA w k) l.Edges.length).1 n<_→_)∧∀c,_→at_ (Zry l (Zlo l w k) (chA w k) l.Edges.length).1 n≤c
  constructor
  ·intro hlt
   obtain ⟨i',h1,h2,h3,h4,h5⟩:=R.1 hlt
   have b:=(hl.2.2.1 i' h1).1
   have p:=(ih (at_ l.Edges i').From.toNat om).1 h3
   show pth l n ⟨w.extract 0 (k+1),at_ (Zry l (Zlo l w k) (chA w k) l.Edges.length).1 n⟩
   rw [h5,Zwe w om]
   exact (Zjy hl hn _).2 (.inr ⟨at_ l.Edges i',Zca h1,h4,_,p,by rw [←h2];rfl⟩)
  ·intro c hc
   obtain ⟨e,he,h1,h2,c',h3,h4⟩:=Zpl hl (show k<w.size by omega) hn hc
   obtain ⟨i',hi,q⟩:=List.getElem_of_mem he
   rw [←Zea hi] at q
   subst q
   have b:=(hl.2.2.1 i' hi).1
   have p:=(ih (at_ l.Edges i').From.toNat om).2 c' h3
   have bd:=Zou hl _ _ (Nat.le_refl _) om _ h3
   have sz:=Yig w (show k≤w.size by omega)
   have hN:=hl.1
   have h5:=bd.1
   have h6:=bd.2.2
   replace h5:(w.extract 0 k).size≤(at_ l.Edges i').From.toNat:=h5
   replace h6:c'≤1000000*(((w.extract 0 k).size:Nat):Int):=h6
   have:=R.2 _ ⟨i',hi,h2,by omega,h1,rfl⟩
   omega
theorem Yii {l:Lattice} (hl:Zdg l) {w:ByteArray} :∀(d k n:Nat) (c:Int),k+d≤w.size→n<l.Nodes.toNat→pth l n ⟨w.extract 0 (k+d),c⟩→∃n' c',n'<l.Nodes.toNat∧pth l n' ⟨w.extract 0 k,c'⟩
 |0,k,n,c,_,hn,h=>⟨n,c,hn,h⟩
 |d+1,k,n,c,hk,hn,h=>by
  obtain ⟨e,he,h1,h2,c',h3,h4⟩:=Zpl hl (k:=k+d) om hn h
  have b:=(Yep hl he).1
  exact Yii hl d k _ c' om om h3
theorem Yij {l:Lattice} (hl:Zdg l) {w:ByteArray} {c:Int} (h:pth l (l.Nodes-1).toNat ⟨w,c⟩):tcF l w≤c:=by
 have hN:=hl.1
 have hn:(l.Nodes-1).toNat<l.Nodes.toNat:=by omega
 have ha:Yar w.size (fun k=> !(tcA l w k))=false:=Znc fun k hk=>by
  rw [←Znd w,show w.size=(k+1)+(w.size-(k+1)) from by omega] at h
  obtain ⟨n',c',h1,h2⟩:=Yii hl _ _ _ _ om hn h
  obtain ⟨e,he,h3,h4,c2,h5,h6⟩:=Zpl hl hk h1 h2
  obtain ⟨i',hi,q⟩:=List.getElem_of_mem he
  rw [←Zea hi] at q
  subst q
  have b:=(hl.2.2.1 i' hi).1
  have p:=(Zpm hl w k om (at_ l.Edges i').From.toNat om).2 c2 h5
  have bd:=Zou hl _ _ (Nat.le_refl _) om _ h5
  have sz:=Yig w (show k≤w.size by omega)
  have h7:=bd.1
  have h8:=bd.2.2
  replace h7:(w.extract 0 k).size≤(at_ l.Edges i').From.toNat:=h7
  replace h8:c2≤1000000*(((w.extract 0 k).size:Nat):Int):=h8
  have:tcA l w k=true:=(Yaw hl om (Zll hl w k) (chA w k) l.Edges.length (Nat.le_refl _)).2 ⟨i',hi,h4,by omega⟩
  rw [this];rfl
 unfold tcF
 rw [if_neg (by rw [ha];decide)]
 refine (Zpm hl w w.size (Nat.le_refl _) _ hn).2 c ?_
 rw [Znd];exact h
theorem Yax {l:Lattice} (hl:Zdg l) {w:ByteArray} (h:tcF l w<1099511627776):pth l (l.Nodes-1).toNat ⟨w,tcF l w⟩:=by
 have hN:=hl.1
 have e:tcF l w=if (Yar w.size fun k=> !(tcA l w k))=true then 1099511627776 else at_ (Zlo l w w.size) (l.Nodes-1).toNat:=rfl
 by_cases ha:(Yar w.size fun k=> !(tcA l w k))=true
 ·rw [if_pos ha] at e;omega
 ·rw [if_neg ha] at e
  have:=(Zpm hl w w.size (Nat.le_refl _) (l.Nodes-1).toNat om).1 om
  rw [Znd,←e] at this
  exact this
def clT (w:ByteArray) (T:List Int) (j m:Int):Int:=at_ T (j*((w.size:Int)+1)+m).toNat
theorem Zys {l:Lattice} {w:ByteArray} {j m:Int} (hj:0≤j∧j<l.Nodes) (hm:0≤m∧m≤w.size):0≤j*((w.size:Int)+1)+m∧j*((w.size:Int)+1)+m<l.Nodes*((w.size:Int)+1):=by
 have a:=Int.mul_nonneg hj.1 (show (0:Int)≤(w.size:Int)+1 by omega)
 have b:=Int.mul_le_mul_of_nonneg_right (show j+1≤l.Nodes by omega) (show (0:Int)≤(w.size:Int)+1 by omega)
 rw [Int.add_mul,Int.one_mul] at b
 omega
theorem clT_inj {n a b c d:Int} (hb:0≤b∧b<n) (hd:0≤d∧d<n) (h:a*n+b=c*n+d):a=c∧b=d:=by
 rcases Int.lt_trichotomy a c with q|q|q
 ·have:=Int.mul_le_mul_of_nonneg_right (show a+1≤c by omega) (show 0≤n by omega)
  rw [Int.add_mul,Int.one_mul] at this
  omega
 ·subst q;omega
 ·have:=Int.mul_le_mul_of_nonneg_right (show c+1≤a by omega) (show 0≤n by omega)
  rw [Int.add_mul,Int.one_mul] at this
  omega
theorem Yik {l:Lattice} {w:ByteArray} {T:List Int} (hT:(T.length:Int)=l.Nodes*((w.size:Int)+1)) {j m a b:Int} (hj:0≤j∧j<l.Nodes) (hm:0≤m∧m≤w.size) (ha:0≤a∧a<l.Nodes) (hb:0≤b∧b≤w.size) (v:Int):clT w (T.set (a*((w.size:Int)+1)+b).toNat v) j m=if j=a∧m=b then v else clT w T j m:=by
 have i1:=Zys hj hm
 have i2:=Zys ha hb
 unfold clT
 by_cases q:j=a∧m=b
 ·rw [if_pos q,q.1,q.2,Zdb om]
 ·rw [if_neg q,Zdz]
  intro e
  have:=clT_inj (n:=(w.size:Int)+1) (a:=j) (b:=m) (c:=a) (d:=b) om om om
  exact q this
def scCov (l:Lattice) (w:ByteArray) (T:List Int) (i':Nat) (m:Int):Prop:=0≤clT w T (at_ l.Edges i').From m→(at_ l.Edges i').Label=chA w m.toNat→0≤clT w T (at_ l.Edges i').To (m+1)∧clT w T (at_ l.Edges i').To (m+1)≤clT w T (at_ l.Edges i').From m+(at_ l.Edges i').Cost
def scI (l:Lattice) (w:ByteArray) (nd i k:Int) (T:List Int):Prop:=(T.length:Int)=l.Nodes*((w.size:Int)+1)∧clT w T 0 0=0∧(∀j m:Int,0≤j→j<l.Nodes→0≤m→m≤w.size→clT w T j m=-1∨(0≤clT w T j m∧pth l j.toNat ⟨w.extract 0 m.toNat,clT w T j m⟩))∧∀(i':Nat) (m:Int),i'<l.Edges.length→0≤m→m<w.size→((at_ l.Edges i').From<nd∨((at_ l.Edges i').From=nd∧((i':Int)<i∨((i':Int)=i∧m<k))))→scCov l w T i' m
theorem sc_start {l:Lattice} (hl:Zdg l) {w:ByteArray} {T:List Int} (hT:(T.length:Int)=l.Nodes*((w.size:Int)+1)) (h:∀j:Nat,j<T.length→at_ T j=-1):scI l w 0 0 0 (T.set 0 0):=by
 have hN:=hl.1
 have e0:T.set 0 (0:Int)=T.set ((0:Int)*((w.size:Int)+1)+0).toNat 0:=by simp
 have hc:∀j m:Int,0≤j→j<l.Nodes→0≤m→m≤w.size→clT w (T.set 0 0) j m=if j=0∧m=0 then 0 else-1:=fun j m h1 h2 h3 h4=>by
  rw [e0,Yik hT ⟨h1,h2⟩ ⟨h3,h4⟩ om om]
  split
  ·rfl
  ·have:=Zys (l:=l) (w:=w) ⟨h1,h2⟩ ⟨h3,h4⟩
   exact h _ om
 refine ⟨by rw [List.length_set];exact hT,by rw [hc 0 0 om om om om];rfl,fun j m h1 h2 h3 h4=> ?_,fun i' m hi h1 h2 h3=> ?_⟩
 ·rw [hc j m h1 h2 h3 h4]
  by_cases q:j=0∧m=0
  ·rw [if_pos q];right
   refine ⟨Int.le_refl _,?_⟩
   rw [q.1,q.2]
   show pth l 0 ⟨w.extract 0 0,0⟩
   rw [Zwd]
   exact (Zjy hl om _).2 (.inl ⟨rfl,rfl⟩)
  ·rw [if_neg q];exact .inl rfl
 ·have:=(hl.2.2.1 i' hi).1
  rcases h3 with h3|⟨h3,h4|h4⟩<;>omega
theorem Zft {l:Lattice} {w:ByteArray} {nd i k:Int} {T:List Int} (h:scI l w nd i k T) (hc:scCov l w T i.toNat k):scI l w nd i (k+1) T:=
 ⟨h.1,h.2.1,h.2.2.1,fun i' m hi h1 h2 h3=>by
  rcases h3 with h3|⟨h3,h4|⟨h4,h5⟩⟩
  ·exact h.2.2.2 i' m hi h1 h2 (.inl h3)
  ·exact h.2.2.2 i' m hi h1 h2 (.inr ⟨h3,.inl h4⟩)
  ·by_cases e:m=k
   ·subst e;have:i'=i.toNat:=by omega
    subst this;exact hc
   ·exact h.2.2.2 i' m hi h1 h2 (.inr ⟨h3,.inr ⟨h4,by omega⟩⟩)⟩
theorem Zyt {l:Lattice} (hl:Zdg l) {w:ByteArray} {nd i k:Int} {T:List Int} (h:scI l w nd i k T) (hi0:0≤i) (hi:i.toNat<l.Edges.length) (hk:0≤k∧k<w.size) (hf:(at_ l.Edges i.toNat).From=nd) (hc:0≤clT w T nd k) (hlb:(at_ l.Edges i.toNat).Label=chA w k.toNat)
  (ho:clT w T (at_ l.Edges i.toNat).To (k+1)<0∨clT w T nd k+(at_ l.Edges i.toNat).Cost<clT w T (at_ l.Edges i.toNat).To (k+1)):scI l w nd i (k+1) (T.set ((at_ l.Edges i.toNat).To*((w.size:Int)+1)+(k+1)).toNat (clT w T nd k+(at_ l.Edges i.toNat).Cost)):=by
 have he:=hl.2.2.1 i.toNat hi
 have b:=he.1
 have hcost:=he.2.1
 have hS:=fun (j m:Int) (h1:0≤j) (h2:j<l.Nodes) (h3:0≤m) (h4:m≤w.size)=>Yik (w:=w) h.1 (j:=j) (m:=m) ⟨h1,h2⟩ ⟨h3,h4⟩ (a:=(at_ l.Edges i.toNat).To) (b:=k+1) ⟨by omega,by omega⟩ ⟨by omega,by omega⟩ (clT w T nd k+(at_ l.Edges i.toNat).Cost)
 refine ⟨by rw [List.length_set];exact h.1,by rw [hS 0 0 om om om om,if_neg om];exact h.2.1,fun j m h1 h2 h3 h4=> ?_,fun i' m hi' h1 h2 h3=> ?_⟩
 ·rw [hS j m h1 h2 h3 h4]
  by_cases q:j=(at_ l.Edges i.toNat).To∧m=k+1
  ·rw [if_pos q]
   right
   refine ⟨by omega,?_⟩
   rcases h.2.2.1 nd k om om hk.1 om with z|z
   ·omega
   ·rw [q.1,q.2,show (k+1).toNat=k.toNat+1 from by omega,Zwe w om]
    exact (Zjy hl om _).2 (.inr ⟨_,Zca hi,by omega,⟨w.extract 0 k.toNat,clT w T nd k⟩,by rw [hf];exact z.2,by unfold rdr;rw [hlb]⟩)
  ·rw [if_neg q];exact h.2.2.1 j m h1 h2 h3 h4
 ·have b':=(hl.2.2.1 i' hi').1
  intro g1 g2
  rw [hS (at_ l.Edges i').From m om om h1 om,if_neg (by rcases h3 with h3|h3<;>omega)] at g1⊢
  rw [hS (at_ l.Edges i').To (m+1) om om om om]
  by_cases e:i'=i.toNat∧m=k
  ·obtain ⟨e1,e2⟩:=e
   subst e1;subst e2
   rw [if_pos ⟨rfl,rfl⟩,hf]
   rw [hf] at g1
   exact ⟨by omega,Int.le_refl _⟩
  ·have old:=h.2.2.2 i' m hi' h1 h2 (by
    rcases h3 with h3|⟨h3,h4|⟨h4,h5⟩⟩
    ·exact .inl h3
    ·exact .inr ⟨h3,.inl h4⟩
    ·refine .inr ⟨h3,.inr ⟨h4,?_⟩⟩
     have:i'=i.toNat:=by omega
     have:m≠k:=fun z=>e ⟨this,z⟩
     omega) g1 g2
   split
   ·rename_i q
    rw [q.1,q.2] at old
    refine ⟨by omega,?_⟩
    rcases ho with ho|ho<;>omega
   ·exact old
theorem Zwf {l:Lattice} {w:ByteArray} {nd i k:Int} {T:List Int} (h:scI l w nd i k T) (hi:0≤i) (hk:(w.size:Int)≤k∨(at_ l.Edges i.toNat).From≠nd):scI l w nd (i+1) 0 T:=
 ⟨h.1,h.2.1,h.2.2.1,fun i' m hi' h1 h2 h3=>by
  refine h.2.2.2 i' m hi' h1 h2 ?_
  rcases h3 with h3|⟨h3,h4|⟨h4,h5⟩⟩
  ·exact .inl h3
  ·by_cases e:(i':Int)=i
   ·rcases hk with hk|hk
    ·exact .inr ⟨h3,.inr ⟨e,by omega⟩⟩
    ·have:i'=i.toNat:=by omega
     subst this;exact absurd h3 hk
   ·exact .inr ⟨h3,.inl om⟩
  ·omega⟩
theorem sc_node {l:Lattice} {w:ByteArray} {nd i:Int} {T:List Int} (h:scI l w nd i 0 T) (hi:(l.Edges.length:Int)≤i):scI l w (nd+1) 0 0 T:=
 ⟨h.1,h.2.1,h.2.2.1,fun i' m hi' h1 h2 h3=>by
  refine h.2.2.2 i' m hi' h1 h2 ?_
  rcases h3 with h3|⟨h3,h4|⟨h4,h5⟩⟩
  ·by_cases e:(at_ l.Edges i').From=nd
   ·exact .inr ⟨e,.inl om⟩
   ·exact .inl om
  ·omega
  ·omega⟩
theorem sc_end {l:Lattice} (hl:Zdg l) {w:ByteArray} {nd:Int} {T:List Int} (hnd:l.Nodes≤nd) (h:scI l w nd 0 0 T):(clT w T (l.Nodes-1) w.size=-1∧¬ tcF l w<1099511627776)∨(0≤clT w T (l.Nodes-1) w.size∧clT w T (l.Nodes-1) w.size=tcF l w∧tcF l w<1099511627776):=by
 have hN:=hl.1
 have key:∀m:Nat,m≤w.size→∀j:Nat,j<l.Nodes.toNat→∀c,pth l j ⟨w.extract 0 m,c⟩→0≤clT w T j m∧clT w T j m≤c:=fun m=>by
  induction m with
  |zero=>
   intro _ j hj c hc
   rcases (Zjy hl hj _).1 hc with ⟨q1,q2⟩|⟨e2,he,a,r,hr,q⟩
   ·subst q1
    have:=congrArg Reading.Cost q2
    replace this:c=0:=this
    have z:clT w T ((0:Nat):Int) ((0:Nat):Int)=0:=h.2.1
    rw [z];omega
   ·have t:=congrArg (fun r:Reading=>r.Text.size) q
    replace t:(w.extract 0 0).size=(r.Text++e2.Label).size:=t
    rw [ByteArray.size_append,Zgt (Yep hl he).2.2,Zwd] at t
    exact absurd t (by show ¬ (0=_);omega)
  |succ m ih=>
   intro hm j hj c hc
   obtain ⟨e,he,h1,h2,c',h3,h4⟩:=Zpl hl (show m<w.size by omega) hj hc
   obtain ⟨i',hi,q⟩:=List.getElem_of_mem he
   rw [←Zea hi] at q
   subst q
   have b:=(hl.2.2.1 i' hi).1
   have a:=ih om (at_ l.Edges i').From.toNat om c' h3
   rw [show (((at_ l.Edges i').From.toNat:Nat):Int)=(at_ l.Edges i').From from by omega] at a
   have:=h.2.2.2 i' m hi om om (.inl om) a.1 h2
   rw [h1,show ((m:Nat):Int)+1=((m+1:Nat):Int) from by omega] at this
   omega
 have e1:(((l.Nodes-1).toNat:Nat):Int)=l.Nodes-1:=by omega
 have hv:=h.2.2.1 (l.Nodes-1) w.size om om om om
 have hk:=key w.size (Nat.le_refl _) (l.Nodes-1).toNat om
 rw [e1,Znd] at hk
 rw [show ((w.size:Int)).toNat=w.size from by omega,Znd] at hv
 by_cases q:tcF l w<1099511627776
 ·right
  have a:=hk _ (Yax hl q)
  rcases hv with z|z
  ·omega
  ·have:=Yij hl z.2
   exact ⟨a.1,by omega,q⟩
 ·left
  rcases hv with z|z
  ·exact ⟨z,q⟩
  ·have a:=Yij hl z.2
   have bd:=Zou hl _ _ (Nat.le_refl _) om _ z.2
   have b1:=bd.1
   have b2:=bd.2.2
   replace b1:w.size≤(l.Nodes-1).toNat:=b1
   replace b2:clT w T (l.Nodes-1) w.size≤1000000*((w.size:Nat):Int):=b2
   omega
theorem tcF_long {l:Lattice} (hl:Zdg l) {w:ByteArray} (h:20<w.size):¬ tcF l w<1099511627776:=fun q=>by
 have hN:=hl.1
 have bd:=(Zou hl _ _ (Nat.le_refl _) om _ (Yax hl q)).1
 replace bd:w.size≤(l.Nodes-1).toNat:=bd
 omega
theorem sc_bd {l:Lattice} (hl:Zdg l) {w:ByteArray} {j m v:Int} (hj:0≤j∧j<l.Nodes) (h:v=-1∨(0≤v∧pth l j.toNat ⟨w.extract 0 m.toNat,v⟩)):-1≤v∧v≤20000000:=by
 rcases h with q|q
 ·omega
 ·have hN:=hl.1
  have b:=Zou hl _ _ (Nat.le_refl _) om _ q.2
  have b1:=b.1
  have b2:=b.2.2
  replace b1:(w.extract 0 m.toNat).size≤j.toNat:=b1
  replace b2:v≤1000000*(((w.extract 0 m.toNat).size:Nat):Int):=b2
  omega
theorem Zmh {l:Lattice} {w:ByteArray} {T:List Int} {i:Nat} {k:Int} {nd:Int} (hf:(at_ l.Edges i).From=nd) (h:clT w T nd k<0∨¬ w.extract k.toNat (k+1).toNat=(at_ l.Edges i).Label∨(0≤clT w T (at_ l.Edges i).To (k+1)∧clT w T (at_ l.Edges i).To (k+1)≤clT w T nd k+(at_ l.Edges i).Cost)) (hk:0≤k):scCov l w T i k:=fun h1 h2=>by
 rw [hf] at h1⊢
 rcases h with h|h|h
 ·omega
 ·exact absurd (by rw [h2];unfold chA;rw [show (k+1).toNat=k.toNat+1 from by omega]) h
 ·exact h
theorem find_at {α:Type} [Inhabited α] {xs:List α} {p:α→Bool} {k:Nat} (hk:k<xs.length) (h:p (at_ xs k)=true) (hn:∀j:Nat,j<k→¬ p (at_ xs j)=true):xs.find? p=some (at_ xs k):=by
 rw [Zea hk] at*
 rw [List.find?_eq_some_iff_getElem]
 refine ⟨h,k,hk,rfl,fun j hj=> ?_⟩
 have:=hn j hj
 rw [Zea om] at this
 simpa using this
def entF (lx:Lexicon) (w:ByteArray):Option Entry:=lx.Entries.find? fun e=>decide (e.Word=w)
def entC (lx:Lexicon) (w:ByteArray):Int:=match entF lx w with
 |some e=>e.Cost
 |none=>0
theorem Yay {lx:Lexicon} {w:ByteArray} {k:Nat} (h:Zhh lx) (hk:k<lx.Entries.length) (hw:(at_ lx.Entries k).Word=w):entC lx w=(at_ lx.Entries k).Cost:=by
 have e:entF lx w=some (at_ lx.Entries k):=find_at hk (decide_eq_true hw) fun j hj q=>by
  have p:=Zrr h.2.2 hj hk
  have z:Zrz (at_ lx.Entries j) (at_ lx.Entries k)=0:=Zfq.2 ((of_decide_eq_true q).trans hw.symm)
  omega
 unfold entC;rw [e]
def Zpn (x:Found):Int:=IntKind.i64.wrap (x.Path+x.Own)
def Yaz (a b:Found):Int:=orL [Zez (Zpn a) (Zpn b),Zez (a.Word.size:Int) (b.Word.size:Int),Zih a.Word b.Word]
theorem Yil (a b:Found):Yaz a b=if Zez (Zpn a) (Zpn b)=0 then (if Zez (a.Word.size:Int) (b.Word.size:Int)=0 then Zih a.Word b.Word else Zez (a.Word.size:Int) (b.Word.size:Int)) else Zez (Zpn a) (Zpn b):=by
 unfold Yaz orL orL orL orL
 by_cases h1:Zez (Zpn a) (Zpn b)=0
 ·rw [if_pos h1,if_pos h1]
  by_cases h2:Zez (a.Word.size:Int) (b.Word.size:Int)=0
  ·rw [if_pos h2,if_pos h2];split
   ·rename_i h3;exact h3.symm
   ·rfl
  ·rw [if_neg h2,if_neg h2]
 ·rw [if_neg h1,if_neg h1]
theorem Ycv:CmpW Yaz:=by
 have h:Yaz=fun x y=>if Zez (Zpn x) (Zpn y)=0 then (fun x y:Found=>if Zez (x.Word.size:Int) (y.Word.size:Int)=0 then (fun x y:Found=>Zih x.Word y.Word) x y else Zez (x.Word.size:Int) (y.Word.size:Int)) x y else Zez (Zpn x) (Zpn y):=funext fun a=>funext fun b=>Yil a b
 rw [h]
 exact CmpW.lex (f:=Zpn) Ycw (CmpW.lex (f:=fun x:Found=>(x.Word.size:Int)) Ycw (cmpS_w.map Found.Word))
theorem cmpF_sum {a b:Found} (h:¬ Yaz b a<0):Zpn a≤Zpn b:=by
 rw [Yil] at h
 by_cases h1:Zez (Zpn b) (Zpn a)=0
 ·rw [Zie] at h1;omega
 ·rw [if_neg h1,Zpo] at h;omega
def okFd (l:Lattice) (lx:Lexicon) (f:Found):Prop:=(∃e∈lx.Entries,e.Word=f.Word∧e.Cost=f.Own)∧tcF l f.Word<1099511627776∧tcF l f.Word≤f.Path∧(0≤f.Path∧f.Path≤20000000)∧(0≤f.Own∧f.Own≤1000000)
theorem sum_is {l:Lattice} {lx:Lexicon} {f:Found} (h:okFd l lx f):Zpn f=f.Path+f.Own:=by
 have a:=h.2.2.2.1
 have b:=h.2.2.2.2
 unfold Zpn
 exact Zib (Zad om om)
def rdI (l:Lattice) (lx:Lexicon):Nat→List Found
 |0=>[]
 |i+1=>if tcF l (at_ lx.Entries i).Word<1099511627776 then rdI l lx i++[⟨(at_ lx.Entries i).Word,tcF l (at_ lx.Entries i).Word,(at_ lx.Entries i).Cost⟩] else rdI l lx i
theorem Zwg (l:Lattice) (lx:Lexicon):∀i,(rdI l lx i).length≤i
 |0=>Nat.le_refl _
 |i+1=>by
  have:=Zwg l lx i
  unfold rdI
  split
  ·rw [List.length_append];simp;omega
  ·omega
theorem Yim {l:Lattice} {lx:Lexicon} {f:Found} :∀i,i≤lx.Entries.length→(f∈rdI l lx i↔∃j,j<i∧tcF l (at_ lx.Entries j).Word<1099511627776∧f=⟨(at_ lx.Entries j).Word,tcF l (at_ lx.Entries j).Word,(at_ lx.Entries j).Cost⟩)
 |0,_=>⟨fun h=>(by cases h),fun ⟨j,h,_⟩=>absurd h (Nat.not_lt_zero _)⟩
 |i+1,hi=>by
  have ih:=Yim (l:=l) (lx:=lx) (f:=f) i om
  unfold rdI
  split
  ·rename_i q
   rw [List.mem_append,ih,List.mem_singleton]
   constructor
   ·rintro (⟨j,a,b⟩|h)
    ·exact ⟨j,by omega,b⟩
    ·exact ⟨i,by omega,q,h⟩
   ·rintro ⟨j,a,b,c⟩
    by_cases e:j=i
    ·subst e;exact .inr c
    ·exact .inl ⟨j,by omega,b,c⟩
  ·rename_i q
   rw [ih]
   constructor
   ·rintro ⟨j,a,b⟩;exact ⟨j,by omega,b⟩
   ·rintro ⟨j,a,b,c⟩
    by_cases e:j=i
    ·subst e;exact absurd b q
    ·exact ⟨j,by omega,b,c⟩
def rdA (l:Lattice) (lx:Lexicon):List Found:=rdI l lx lx.Entries.length
theorem Zzb {l:Lattice} (hl:Zdg l) {lx:Lexicon} (hx:Zhh lx) {f:Found} :f∈rdA l lx↔∃e∈lx.Entries,tcF l e.Word<1099511627776∧f=⟨e.Word,tcF l e.Word,e.Cost⟩:=by
 unfold rdA
 rw [Yim _ (Nat.le_refl _)]
 constructor
 ·rintro ⟨j,a,b,c⟩;exact ⟨_,Zca a,b,c⟩
 ·rintro ⟨e,he,b,c⟩
  obtain ⟨j,hj,q⟩:=List.getElem_of_mem he
  rw [←Zea hj] at q
  subst q
  exact ⟨j,hj,b,c⟩
theorem Yin {l:Lattice} (hl:Zdg l) {lx:Lexicon} (hx:Zhh lx) {f:Found} (h:f∈rdA l lx):okFd l lx f∧f.Path=tcF l f.Word:=by
 obtain ⟨e,he,a,rfl⟩:=(Zzb hl hx).1 h
 have b:=(hx.2.1 e he).2
 have c:=Yfb hl e.Word
 have d:=Zou hl _ _ (Nat.le_refl _) (by have:=hl.1;omega) _ (Yax hl a)
 have hN:=hl.1
 have d1:=d.1
 have d2:=d.2.2
 replace d1:e.Word.size≤(l.Nodes-1).toNat:=d1
 replace d2:tcF l e.Word≤1000000*((e.Word.size:Nat):Int):=d2
 exact ⟨⟨⟨e,he,rfl,rfl⟩,a,Int.le_refl _,⟨by show 0≤tcF l e.Word;omega,by show tcF l e.Word≤_;omega⟩,⟨by show 0≤e.Cost;omega,by show e.Cost≤_;omega⟩⟩,rfl⟩
theorem rd_min {l:Lattice} (hl:Zdg l) {lx:Lexicon} (hx:Zhh lx) {v:List Found} (hp:v.Perm (rdA l lx)) (hs:v.Pairwise fun x y=>¬ Yaz y x<0) (h0:0<v.length):at_ v 0∈rdA l lx∧∀f∈rdA l lx,(at_ v 0).Path+(at_ v 0).Own≤f.Path+f.Own:=by
 have m:=hp.mem_iff.1 (Zca h0)
 refine ⟨m,fun f hf=> ?_⟩
 obtain ⟨i,hi,q⟩:=List.getElem_of_mem (hp.mem_iff.2 hf)
 have s0:=sum_is (Yin hl hx m).1
 have s1:=sum_is (Yin hl hx hf).1
 by_cases e:i=0
 ·subst e;rw [←Zea hi] at q;rw [q];exact Int.le_refl _
 ·have:=cmpF_sum (Zrr hs (show 0<i by omega) hi)
  rw [Zea hi,q] at this
  omega
theorem Ycx {α:Type} {c:α→α→Int} (h:CmpW c):Go.Sort.SWO (ltOf c):=⟨fun x=>decide_eq_false (by have:=h.refl x;omega),fun x y z h1 h2=>decide_eq_true (h.trans x y z (Int.le_of_lt (of_decide_eq_true (p:=c x y<0) h1)) (of_decide_eq_true (p:=c y z<0) h2)),fun x y z h1 h2=>decide_eq_false fun h3=>by
 have q1:=of_decide_eq_false h1
 have q2:=of_decide_eq_false h2
 have a1:=h.anti y x
 have a2:=h.anti z y
 have a3:=h.anti x z
 have b1:=h.anti x y
 have b2:=h.anti y z
 have:=h.le (x:=z) (y:=y) (z:=x) om om
 omega⟩
theorem tl_inj {a b:ByteArray} (q:a.toList=b.toList):a=b:=by
 rw [Lib.toList_data,Lib.toList_data] at q
 cases a;cases b
 simp only [ByteArray.mk.injEq]
 exact Array.toList_inj.1 q
theorem sfNI (x:Int) (w:World):Calls Tryz.prog 124 #[.int .i64 x] w fun e w'=>e= .returned (.bool false)∧w'=w:=by
 go_enter Tryz.func124,Tryz.ntmps124
 go_wp2
 go_ret
 exact ⟨by simp,rfl⟩
theorem sfCI (x y:Int) (w:World):Calls Tryz.prog 99 #[.int .i64 x,.int .i64 y] w fun e w'=>e= .returned (.int .i64 (Zez x y))∧w'=w:=by
 go_enter Tryz.func99,Tryz.ntmps99
 go_wp2_with (go_at_call 124;refine (sfNI _ _).mono ?_;rintro e w' ⟨rfl,hw⟩;rw [hw])
 all_goals (go_ret;refine ⟨?_,rfl⟩;congr 2;unfold Zez;(repeat' split)<;>first|rfl|(exfalso;omega))
theorem sfNJ (x:Int) (w:World):Calls Tryz.prog 136 #[.int .i64 x] w fun e w'=>e= .returned (.bool false)∧w'=w:=by
 go_enter Tryz.func136,Tryz.ntmps136
 go_wp2
 go_ret
 exact ⟨by simp,rfl⟩
theorem sfCJ (x y:Int) (w:World):Calls Tryz.prog 103 #[.int .i64 x,.int .i64 y] w fun e w'=>e= .returned (.int .i64 (Zez x y))∧w'=w:=by
 go_enter Tryz.func103,Tryz.ntmps103
 go_wp2_with (go_at_call 136;refine (sfNJ _ _).mono ?_;rintro e w' ⟨rfl,hw⟩;rw [hw])
 all_goals (go_ret;refine ⟨?_,rfl⟩;congr 2;unfold Zez;(repeat' split)<;>first|rfl|(exfalso;omega))
theorem sfNS (x:ByteArray) (w:World):Calls Tryz.prog 125 #[.string x] w fun e w'=>e= .returned (.bool false)∧w'=w:=by
 go_enter Tryz.func125,Tryz.ntmps125
 go_wp2
 go_ret
 exact ⟨by simp,rfl⟩
theorem sfCS (x y:ByteArray) (w:World):Calls Tryz.prog 100 #[.string x,.string y] w fun e w'=>e= .returned (.int .i64 (Zih x y))∧w'=w:=by
 go_enter Tryz.func100,Tryz.ntmps100
 go_wp2_with (go_at_call 125;refine (sfNS _ _).mono ?_;rintro e w' ⟨rfl,hw⟩;rw [hw])
 all_goals (go_ret;refine ⟨?_,rfl⟩;congr 2;unfold Zih Zfz;(repeat' split)<;>first|rfl|(exfalso;simp_all;done)|(exfalso;rename_i h1 h2 h3;exact h3.2 (tl_inj (by simpa using h1))))
theorem sfOr (b n c:Nat) (xs:List Int) (w:World) (hn:n=xs.length) (hc:n≤9223372036854775807) (h:∀j,j<xs.length→w.cell? ⟨b,j,none⟩=some (.int .i64 (at_ xs j))):Calls Tryz.prog 98 #[.slice (some ⟨b,0,none⟩) n c] w fun e w'=>e= .returned (.int .i64 (orL xs))∧w'=w:=by
 go_enter Tryz.func98,Tryz.ntmps98
 go_wp2
 go_loop [8] (fun i=>∃k:Nat,k≤n∧i= .int .i64 k∧∀j,j<k→at_ xs j=0) (fun i=>n-(intOf i).toNat)
 case atStart=>exact ⟨0,Nat.zero_le _,rfl,fun j hj=>absurd hj (Nat.not_lt_zero _)⟩
 case round=>
  obtain ⟨k,hk,rfl,hz⟩:=hrel
  by_cases hlt:k<n
  ·have ck:=h k om
   have S:Hid (at_ xs k=0→∀j,j<k+1→at_ xs j=0):=fun q j hj=>by
    by_cases e:j=k
    ·rw [e];exact q
    ·exact hz j om
   have T:Hid (at_ xs k≠0→orL xs=at_ xs k):=fun q=>Zyo om hz q
   generalize at_ xs k=v at ck S T
   clear h hz
   by_cases hv:v=0
   ·have S2:Hid (∀j,j<k+1→at_ xs j=0):=S.out hv
    clear S T
    subst hv
    go_wp2
    exact ⟨⟨k+1,by omega,rfl,S2.out⟩,by simp [intOf];omega⟩
   ·have T2:Hid (orL xs=v):=T.out hv
    clear S T
    go_wp2
    go_ret
    exact ⟨by rw [T2.out];rfl,rfl⟩
  ·have:k=n:=by omega
   subst this
   have T:Hid (orL xs=0):=Zwa (fun j hj=>hz j om)
   clear h hz
   go_wp2
   all_goals (go_ret;exact ⟨by rw [T.out];rfl,rfl⟩)
def Ztk (x:Found):List Value:=[.string x.Word,.int .i64 x.Path,.int .i64 x.Own]
theorem srFcmp (x y:Found) (w:World):Calls Tryz.prog 61 (#[.agg (Ztk x).toArray,.agg (Ztk y).toArray]++#[]) w fun e w'=>e= .returned (.int .i64 (Yaz x y))∧∃q os',w'=Go.Sort.grow (w.drewN q) os':=by
 show Calls Tryz.prog 61 #[.agg #[.string x.Word,.int .i64 x.Path,.int .i64 x.Own],.agg #[.string y.Word,.int .i64 y.Path,.int .i64 y.Own]] w _
 go_enter Tryz.func61,Tryz.ntmps61
 go_wp2
 refine Zmb 23 (by kernel_rfl) (by kernel_rfl) (by kernel_rfl) ?_
 repeat (quiet_step (first|(go_at_call 99;exact Calls.quiet_of_same (sfCI _ _ _))|(go_at_call 103;exact Calls.quiet_of_same (sfCJ _ _ _))|(go_at_call 100;exact Calls.quiet_of_same (sfCS _ _ _))))
 refine wpQuiet_nil ?_
 intro _ hw'
 obtain ⟨nq,hw''⟩:=hw'
 subst hw''
 simp only [List.drop_succ_cons,List.drop_zero]
 go_wp2_with fail
 have hs_:∀f:Found,RowKit.wrap64 (f.Path+f.Own)=Zpn f:=fun f=>(IntWalk.i64_left _).symm
 simp only [hs_]
 refine (sfOr _ _ _ [Zez (Zpn x) (Zpn y),Zez (x.Word.size:Int) (y.Word.size:Int),Zih x.Word y.Word] _ rfl (by simp) (fun j hj=> ?_)).mono ?_
 ·have hj2:j=0∨j=1∨j=2:=by
   simp at hj;omega
  have e:∀(a b c:Obj),(((w.heap.push a).push b).push c)[w.heap.size+1+1]? =some c:=fun a b c=>by rw [Array.getElem?_push,if_pos (by simp)]
  unfold World.cell?
  rcases hj2 with rfl|rfl|rfl<;>(erw [e];rfl)
 rintro e w' ⟨rfl,rfl⟩
 go_wp2
 go_ret
 refine ⟨rfl,nq,#[.cells #[Value.string x.Word,Value.int IntKind.i64 x.Path,Value.int IntKind.i64 x.Own] 33 (0,0),.cells #[Value.string y.Word,Value.int IntKind.i64 y.Path,Value.int IntKind.i64 y.Own] 33 (0,0),.cells #[Value.int IntKind.i64 (Zez (Zpn x) (Zpn y)),Value.int IntKind.i64 (Zez (x.Word.size:Int) (y.Word.size:Int)),Value.int IntKind.i64 (Zih x.Word y.Word)] 3 (0,0)],?_⟩
 have e:∀(a b c:Obj),((w.heap.push a).push b).push c=w.heap++#[a,b,c]:=fun a b c=>Array.toList_inj.1 (by simp)
 unfold Go.Sort.grow
 show World.mk (((w.heap.push _).push _).push _) w.tape (w.drawn+nq) w.os w.output=World.mk (w.heap++#[_,_,_]) w.tape (w.drawn+nq) w.os w.output
 rw [e]
theorem Yeq (data:List Found) (hl:data.length≤4000000):∃(data':List Found),(data'.Perm data)∧(data'.Pairwise fun x_ y_=>¬ Yaz y_ x_<0)∧Zaw Tryz.prog 60 [.arr 8631,.fn 61 []] (Zae [(8631,Zfa data)]) true (.tup []) (Zae [(8631,Zfa data')]):=by
 refine ⟨Zom Yaz data,srt_perm (Ycx Ycv) data,srt_pw (Ycx Ycv) data,?_⟩
 exact Zxs (enc:=Ztk) (kc:=3) (by decide) (fun _=>rfl) (fun x v hv=>by simp only [Ztk,List.mem_cons,List.not_mem_nil,or_false] at hv;rcases hv with rfl|rfl|rfl<;>rfl) (cf:=Yaz) (Ycx Ycv)
  (fun blk off cap d w h1 h2 h3=>AnyQ.slices_SortFunc_eq Tryz.laysSfFnd 3 (fun w=>Zic (by kernel_rfl) w) (fun w=>Zce (by kernel_rfl) w) Ztk (fun _=>rfl) (fun x v hv=>by simp only [Ztk,List.mem_cons,List.not_mem_nil,or_false] at hv;rcases hv with rfl|rfl|rfl<;>rfl) Yaz (Ycx Ycv) 61 #[] blk off cap d w (enters_of Tryz.func61 (by kernel_rfl) rfl) (fun m os dk hdk x y=>srFcmp x y _) h1 h2 h3)
  (fun p cap fv w=>AnyF.slices_SortFunc_none Tryz.laysSfFnd p cap fv w) 8631 data om
theorem Yba (l:Lattice) (lx:Lexicon) (hl:Zdg l) (hx:Zhh lx):∃(v:List Found),(v.Perm (rdA l lx))∧(v.Pairwise fun x_ y_=>¬ Yaz y_ x_<0)∧Con Tryz.prog 22 [Zcr l,.agg [Zav false lx.Entries]] true (Zob true v):=by
  have hn20:=hl.1
  have hc:=hx.1
  have hh:∃r:(List Found),((r.Perm (rdA l lx))∧(r.Pairwise fun x_ y_=>¬ Yaz y_ x_<0)∧(True))∧Zaw Tryz.prog 22 [Zcr l,.agg [Zav false lx.Entries]] (Zae []) true (Zob true r) (Zae []):=by
    refine Zcv (Φ:=fun r:(List Found)=>(r.Perm (rdA l lx))∧(r.Pairwise fun x_ y_=>¬ Yaz y_ x_<0)∧(True)) [] (fun r=>[]) (fn:=Tryz.f22) (nt:=35) Tryz.func22 rfl rfl (args:=[Zcr l,.agg [Zav false lx.Entries]]) rfl (Zbc (.inl ⟨rfl,by simp [Zai,Zaf,Zff]⟩) (Zbc (.inl ⟨rfl,by simp [Zai,Zaf,Zfm]⟩) Zcw)) (res:=fun r=>Zob true r) ?_
    refine xQ [(0,.new 2),(1,.new 3)] [2,3] [2,3] [] trivial ?_
    refine xQ [] [2,3,5] [2,3] [] trivial (Zak ?_)
    refine xR [] [2,5,10,11,12] [2] [.ref 2 0,Zcj,Zav false lx.Entries,I (lx.Entries.length:Int),I 0] [some (Zbm l)] [] trivial (Zbb ?_)
    refine x_nil 5 705 3 (fun _=>[]) (by kernel_rfl) ?_
    refine Zdh [] (T:=[(2,.ref 2 0),(5,.arr 705),(10,Zav false lx.Entries),(11,I (lx.Entries.length:Int)),(12,I 0)]) (O:=[(2,Zbm l),(705,Zfa ([]:List Found))]) rfl (⟨.inl rfl,.inl rfl,.inl rfl,.inl rfl,.inl rfl,trivial⟩) (⟨.inl rfl,.inr ⟨rfl,(by first|rfl|(simp;done)|(simp;omega)|omega),fun i_ hi_=>absurd hi_ (Nat.not_lt_zero _)⟩,trivial⟩) ?_
    refine Zdc (X:=(List Found)×Int) (fun x=>mkS [(2,.ref 2 0),(5,.arr 705),(10,Zav false lx.Entries),(11,I (lx.Entries.length:Int)),(12,I x.2)] [(2,Zbm l),(705,Zfa x.1)]) (fun x=>(0≤x.2∧x.2≤(lx.Entries.length:Int))∧(x.1=rdI l lx x.2.toNat)∧True) (fun x=>((lx.Entries.length:Int)-x.2).toNat) (([]:List Found),0) rfl (show (0≤(0:Int)∧(0:Int)≤(lx.Entries.length:Int))∧(([]:List Found)=rdI l lx (0:Int).toNat)∧True from ⟨om,(by rfl),trivial⟩) (fun x hI=> ?_)
    obtain ⟨list,t12⟩:=x
    obtain ⟨hi0,hli,_⟩:(0≤t12∧t12≤(lx.Entries.length:Int))∧(list=rdI l lx t12.toNat)∧True:=hI
    show XW _ _ _ _ (mkS [(2,.ref 2 0),(5,.arr 705),(10,Zav false lx.Entries),(11,I (lx.Entries.length:Int)),(12,I t12)] [(2,Zbm l),(705,Zfa list)]) _ _
    refine Zak ?_
    by_cases h1:t12<(lx.Entries.length:Int)
    ·have hi:t12.toNat<lx.Entries.length:=by omega
     have hen:=hx.2.1 _ (Zca hi)
     have hwz:=(Zfv.1 hen.1).1
     have hii:(t12+1).toNat=t12.toNat+1:=by omega
     have hrl:=Zwg l lx t12.toNat
     rw [←hli] at hrl
     refine x_q [(0,.dec true)] [2,5,10,11,12,13] [2,705] [_] ⟨h1,trivial⟩ (Zab (Zak (Zeh (Zbd (Zab (Zak (Zbb ?_)))))))
     refine xQ [(2,.new 7)] [2,5,7,10,11,12] [2,7,705] [(0:Int)≤t12∧t12<(lx.Entries.length:Int)] ⟨⟨om,om⟩,trivial⟩ ?_
     refine xQ [(3,.call [(true,.any),(true,.any)] true (I (tcF l ((at_ lx.Entries t12.toNat).Word))))] [2,5,7,8,10,11,12] [2,7,705] [_∧True] ⟨⟨(Yav l ((at_ lx.Entries t12.toNat).Word) hl om),trivial⟩,trivial⟩ (Zak ?_)
     by_cases h2:(tcF l ((at_ lx.Entries t12.toNat).Word))<1099511627776
     ·have htc:=h2
      refine x_q [(1,.dec true)] [2,5,7,8,10,11,12,21] [2,7,705] [_] ⟨h2,trivial⟩ (Zab (Zeh ?_))
      refine x_q [(7,.new 29),(8,.new 30)] [2,5,10,11,12] [2,30] [(list.length+1)*32≤140737488355328] ⟨om,trivial⟩ (Zba 1 (Zab ?_))
      refine x_r [] [2,5,10,11,12] [2,30] [.ref 2 0,.arr 30,Zav false lx.Entries,I (lx.Entries.length:Int),I (t12+1)] [some (Zbm l),some (.arr 3 (list.length+1) (Zhc list.length (Yio list) (Zhu [Sv ((at_ lx.Entries t12.toNat).Word),I (tcF l ((at_ lx.Entries t12.toNat).Word)),I ((at_ lx.Entries t12.toNat).Cost)] 3)))] [inR .i64 (t12+1)] ⟨(Zad om om),trivial⟩ ?_
      refine Zcf [(705,30)] (T:=[(2,.ref 2 0),(5,.arr 705),(10,Zav false lx.Entries),(11,I (lx.Entries.length:Int)),(12,I (t12+1))]) (O:=[(2,Zbm l),(705,Zfa (list++[(Found.mk ((at_ lx.Entries t12.toNat).Word) (tcF l ((at_ lx.Entries t12.toNat).Word)) ((at_ lx.Entries t12.toNat).Cost))]))]) rfl (⟨.inl rfl,.inl rfl,.inl rfl,.inl rfl,.inl rfl,trivial⟩) (⟨.inl rfl,.inr ⟨rfl,(by first|rfl|(simp;done)|(simp;omega)|omega),fun i_ hi_=> .inl (Zec (enc:=Ycy) (xs:=list) rfl i_ hi_)⟩,trivial⟩) (Zay ((list++[(Found.mk ((at_ lx.Entries t12.toNat).Word) (tcF l ((at_ lx.Entries t12.toNat).Word)) ((at_ lx.Entries t12.toNat).Cost))]),(t12+1)) rfl (show (0≤(t12+1)∧(t12+1)≤(lx.Entries.length:Int))∧((list++[(Found.mk ((at_ lx.Entries t12.toNat).Word) (tcF l ((at_ lx.Entries t12.toNat).Word)) ((at_ lx.Entries t12.toNat).Cost))])=rdI l lx (t12+1).toNat)∧True from ⟨om,(by (rw [hii];show _=(if _ then _ else _);rw [←hli];first|(rw [if_pos htc];done)|(rw [if_neg htc];done))),trivial⟩) (by first|(show (((lx.Entries.length:Int)-(t12+1)).toNat:Nat)<((lx.Entries.length:Int)-t12).toNat;omega)|(dsimp only;omega)))
     have htc:=h2
     refine x_q [(1,.dec false)] [2,5,7,8,10,11,12,21] [2,7,705] [_] ⟨h2,trivial⟩ (Zab (Zga (Zbd (Zba 1 (Zab ?_)))))
     refine x_r [] [2,5,10,11,12] [2,705] [.ref 2 0,.arr 705,Zav false lx.Entries,I (lx.Entries.length:Int),I (t12+1)] [some (Zbm l),some (Zfa list)] [inR .i64 (t12+1)] ⟨(Zad om om),trivial⟩ ?_
     exact Zay (list,(t12+1)) rfl (show (0≤(t12+1)∧(t12+1)≤(lx.Entries.length:Int))∧(list=rdI l lx (t12+1).toNat)∧True from ⟨om,(by (rw [hii];show _=(if _ then _ else _);rw [←hli];first|(rw [if_pos htc];done)|(rw [if_neg htc];done))),trivial⟩) (by first|(show (((lx.Entries.length:Int)-(t12+1)).toNat:Nat)<((lx.Entries.length:Int)-t12).toNat;omega)|(dsimp only;omega))
    have hie:t12.toNat=lx.Entries.length:=by omega
    have hrl:=Zwg l lx t12.toNat
    rw [←hli] at hrl
    refine x_r [(0,.dec false)] [2,5,10,11,12,13] [2,705] [.ref 2 0,.arr 705,Zav false lx.Entries,I (lx.Entries.length:Int),I t12,Bv false] [some (Zbm l),some (Zfa list)] [_] ⟨h1,trivial⟩ (Zab (Zak (Zbt rfl (Zcp (Zas ?_)))))
    refine Zax ?_
    refine Zat (Zab (Zak ?_))
    refine Zdh [(8631,705)] (T:=[(2,.ref 2 0),(5,.arr 8631),(10,Zav false lx.Entries),(11,I (lx.Entries.length:Int)),(12,I t12),(13,Bv false)]) (O:=[(2,Zbm l),(8631,Zfa list)]) rfl (⟨.inl rfl,.inl rfl,.inl rfl,.inl rfl,.inl rfl,.inl rfl,trivial⟩) (⟨.inl rfl,.inl rfl,trivial⟩) ?_
    obtain ⟨data'_1,hx1_0,hx1_1,hc1⟩:=Yeq list om
    have hpm:=hx1_0
    have hsr:=hx1_1
    refine x_q [(1,.lend [(8631,Zfa list,Zfa data'_1)] [] [(true,.any),(true,.any)] true (.tup []))] [5] [8631] [Zaw Tryz.prog 60 [.arr 8631,.fn 61 []] (Zae [(8631,Zfa list)]) true (.tup []) (Zae [(8631,Zfa data'_1)])∧(((Zfa list:Ob)=Zfa list∨Zer Zeg true (Zfa list) (Zfa list))∧Zal false (Zfa list))∧True] ⟨⟨hc1,⟨.inl rfl,fun _ _=>Zyu false _⟩,trivial⟩,trivial⟩ (Zab ?_)
    refine xR [] [4] [8631] [.arr 8631] [some (Zfa data'_1)] [] trivial (Zdd ?_)
    refine Zbw data'_1 (show (data'_1.Perm (rdA l lx))∧(data'_1.Pairwise fun x_ y_=>¬ Yaz y_ x_<0)∧(True) from ⟨(by (rw [hli,hie] at hpm;exact hpm)),(by exact hsr),trivial⟩) (trivial) (.arr 8631) (by kernel_rfl) (.inr ⟨(fun _=>rfl),rfl,rfl,fun i _=> .inl rfl⟩) (fun _=>rfl) (fun _=>(tagFound true _))
  obtain ⟨v,⟨hh0,hh1,_⟩,hc⟩:=hh
  exact ⟨v,hh0,hh1,hc⟩
def preB (w t:ByteArray):Bool:=decide (t.size≤w.size∧w.extract 0 t.size=t)
theorem preB_app {w t:ByteArray} :preB w t=true↔∃u:ByteArray,w=t++u:=by
 unfold preB
 rw [decide_eq_true_eq]
 have ex:∀a b:Nat,(w.extract a b).toList=(w.data.toList.drop a).take (b-a):=fun a b=>by rw [Lib.toList_data];simp [ByteArray.data_extract,Array.toList_extract,List.extract_eq_take_drop]
 constructor
 ·rintro ⟨h1,h2⟩
  refine ⟨w.extract t.size w.size,Ztj ?_⟩
  rw [Zlm]
  conv=>rhs;rw [←h2]
  rw [ex,ex,Lib.toList_data,h2,Nat.sub_zero,List.drop_zero]
  have:(w.data.toList.drop t.size).take (w.size-t.size)=w.data.toList.drop t.size:=List.take_of_length_le (by rw [List.length_drop];exact Nat.le_refl _)
  rw [this,List.take_append_drop]
 ·rintro ⟨u,rfl⟩
  refine ⟨by rw [ByteArray.size_append];omega,Ztj ?_⟩
  rw [Lib.toList_data,ByteArray.data_extract,Array.toList_extract,List.extract_eq_take_drop,ByteArray.data_append,Array.toList_append,List.drop_zero,Nat.sub_zero,List.take_append_of_le_length (by exact Nat.le_refl _),List.take_of_length_le (by exact Nat.le_refl _),Lib.toList_data]
def Zkj (xs:List Int):ByteArray:=⟨(xs.map fun n=>UInt8.ofNat n.toNat).toArray⟩
theorem Zch (xs:List Int):(Zkj xs).size=xs.length:=by simp [Zkj,ByteArray.size]
theorem Znt {xs:List Int} {i:Nat} (h:i<xs.length) (hb:0≤at_ xs i∧at_ xs i≤255):bAt (Zkj xs) i=at_ xs i:=by
 have e:(Zkj xs).data.toList[i]? =some (UInt8.ofNat (at_ xs i).toNat):=by simp [Zkj,at_,List.getElem?_eq_getElem h]
 rw [bAt,List.getD_eq_getElem?_getD,e]
 simp
 omega
theorem Ycm {xs:List Int} (h:∀x∈xs,0≤x∧x≤255) {n:Nat} {f:Nat→List AV} (hn:n=xs.length) (hf:∀i,i<xs.length→f i=fU8 xs i∨False):(Zkj xs).size=n∧∀i,i<n→f i=Zha (Zkj xs) i:=by
 subst hn
 refine ⟨Zch xs,fun i hi=> ?_⟩
 rw [(hf i hi).resolve_right id]
 unfold Zha
 rw [Znt hi (h _ (Zca hi))]
 rfl
theorem Yhe {xs:List Int} (h:∀x∈xs,0≤x∧x≤255):(Zkj xs).size=xs.length∧∀i,i<xs.length→fU8 xs i=Zha (Zkj xs) i:=Ycm h rfl fun i _=> .inl rfl
def bytesL (s:ByteArray):List Int:=s.data.toList.map fun b=>(b.toNat:Int)
@[simp] theorem bytesL_len (s : ByteArray) : (bytesL s).length = s.size := by unfold bytesL; rw [List.length_map, Array.length_toList]; rfl
theorem fd_facts {l:Lattice} (hl:Zdg l) {lx:Lexicon} (hx:Zhh lx) {f:Found} (h:f∈rdA l lx):tcF l f.Word<1099511627776∧f.Path=tcF l f.Word∧f.Own=entC lx f.Word∧(∃e∈lx.Entries,e.Word=f.Word)∧f.Word.size≤10∧(0≤f.Path∧f.Path≤20000000)∧(0≤f.Own∧f.Own≤1000000):=by
 have a:=Yin hl hx h
 obtain ⟨e,he,h1,h2⟩:=a.1.1
 have hw:=(Zfv.1 (hx.2.1 e he).1).1
 refine ⟨a.1.2.1,a.2,?_,⟨e,he,h1⟩,by rw [←h1];exact hw.2,a.1.2.2.2.1,a.1.2.2.2.2⟩
 obtain ⟨j,hj,q⟩:=List.getElem_of_mem he
 rw [←Zea hj] at q
 rw [Yay hx hj (by rw [q];exact h1),q];exact h2.symm
theorem Zpt (l:Lattice) (lx:Lexicon) (hl:Zdg l) (hx:Zhh lx):∃(v:Found) (c:Int),((c=0∧v∈rdA l lx∧∀f∈rdA l lx,v.Path+v.Own≤f.Path+f.Own)∨(c=3∧(rdA l lx).length=0))∧Con Tryz.prog 6 [Zcr l,.agg [Zav false lx.Entries]] true (.tup [Zpu v,I c]):=by
  have hc:=hx.1
  have hh:∃r:Found×Int,(((r.2=0∧r.1∈rdA l lx∧∀f∈rdA l lx,r.1.Path+r.1.Own≤f.Path+f.Own)∨(r.2=3∧(rdA l lx).length=0))∧(True))∧Zaw Tryz.prog 6 [Zcr l,.agg [Zav false lx.Entries]] (Zae []) true (.tup [Zpu r.1,I r.2]) (Zae []):=by
    refine Zcv (Φ:=fun r:Found×Int=>((r.2=0∧r.1∈rdA l lx∧∀f∈rdA l lx,r.1.Path+r.1.Own≤f.Path+f.Own)∨(r.2=3∧(rdA l lx).length=0))∧(True)) [] (fun r=>[]) (fn:=Tryz.f6) (nt:=26) Tryz.func6 rfl rfl (args:=[Zcr l,.agg [Zav false lx.Entries]]) rfl (Zbc (.inl ⟨rfl,by simp [Zai,Zaf,Zff]⟩) (Zbc (.inl ⟨rfl,by simp [Zai,Zaf,Zfm]⟩) Zcw)) (res:=fun r=> .tup [Zpu r.1,I r.2]) ?_
    refine xQ [(0,.new 2),(1,.new 3),(2,.new 4)] [2,3,4] [2,3,4] [] trivial (Zak ?_)
    refine xQ [(1,.call [(true,.any)] true (Bv true)),(5,.call [(true,.any)] true (Bv true))] [2,3,4,14] [2,3,4] [_∧True,_∧True] ⟨⟨(Zrq l hl),trivial⟩,⟨(Zru lx hx),trivial⟩,trivial⟩ (Zga (Zbd (Zab (Zak ?_))))
    obtain ⟨v_1,hx1_0,hx1_1,hc1⟩:=Yba l lx hl hx
    have hpm:=hx1_0
    have hpw:=hx1_1
    have hpl:=hpm.length_eq
    have hrl:=Zwg l lx lx.Entries.length
    have hrl2:(rdA l lx).length≤lx.Entries.length:=hrl
    refine x_q [(2,.call [(true,.any),(true,.any)] true (Zob true v_1))] [4,6] [4] [_∧True] ⟨⟨hc1,trivial⟩,trivial⟩ (Zab (Zak (Zak ?_)))
    by_cases h1:(v_1.length:Int)=0
    ·refine x_q [(2,.dec true)] [4,6,21] [4] [_] ⟨h1,trivial⟩ (Zab (Zeh ?_))
     refine xR [] [4,5] [4] [.ref 4 0,I 3] [some (.box [Sv (⟨#[]⟩:ByteArray),I 0,I 0])] [] trivial (Zdd (Zda ?_))
     refine Zbw ((Found.mk (⟨#[]⟩:ByteArray) 0 0),3) (show ((3=0∧(Found.mk (⟨#[]⟩:ByteArray) 0 0)∈rdA l lx∧∀f∈rdA l lx,(Found.mk (⟨#[]⟩:ByteArray) 0 0).Path+(Found.mk (⟨#[]⟩:ByteArray) 0 0).Own≤f.Path+f.Own)∨(3=3∧(rdA l lx).length=0))∧(True) from ⟨(by first|exact .inr ⟨rfl,by omega⟩|exact .inl ⟨rfl,hpm.mem_iff.1 (Zca om),(rd_min hl hx hpm hpw om).2⟩),trivial⟩) (trivial) (.tup [.agg [Sv (⟨#[]⟩:ByteArray),I 0,I 0],I 3]) (by kernel_rfl) (.inl rfl) (fun _=>rfl) (fun _=>(by simp [Zai,Zaf]))
    refine x_q [(2,.dec false)] [4,6,21] [4] [_] ⟨h1,trivial⟩ (Zab (Zga (Zbd (Zab ?_))))
    refine xR [] [4,5] [4] [.ref 4 0,I 0] [some (Zkk (at_ v_1 0))] [(0:Int)≤0∧0<(v_1.length:Int)] ⟨⟨om,om⟩,trivial⟩ (Zdd ?_)
    refine Zbw ((at_ v_1 0),0) (show ((0=0∧(at_ v_1 0)∈rdA l lx∧∀f∈rdA l lx,(at_ v_1 0).Path+(at_ v_1 0).Own≤f.Path+f.Own)∨(0=3∧(rdA l lx).length=0))∧(True) from ⟨(by first|exact .inr ⟨rfl,by omega⟩|exact .inl ⟨rfl,hpm.mem_iff.1 (Zca om),(rd_min hl hx hpm hpw om).2⟩),trivial⟩) (trivial) (.tup [Zpu (at_ v_1 0),I 0]) (by kernel_rfl) (.inl rfl) (fun _=>rfl) (fun _=>(by simp [Zai,Zaf]))
  obtain ⟨⟨v,c⟩,⟨hh0,_⟩,hc⟩:=hh
  exact ⟨v,c,hh0,hc⟩
theorem Zsp (l:Lattice) (w:ByteArray) (hl:Zdg l) (hw:w.size≤20):∃(v:Int),((v=-1∧¬ tcF l w<1099511627776)∨(0≤v∧v=tcF l w∧tcF l w<1099511627776))∧Con Tryz.prog 24 [.ptr false [I l.Nodes,Zbk false l.Edges],Sv w] true (I v):=by
  have hn20:=hl.1
  have hc:=hl.2.1
  have hNn:0≤l.Nodes*((w.size:Int)+1)∧l.Nodes*((w.size:Int)+1)≤20*21:=⟨Int.mul_nonneg om om,Int.mul_le_mul om om om om⟩
  have hNn1:1≤l.Nodes*((w.size:Int)+1):=by have q_:=Int.mul_le_mul (show (1:Int)≤l.Nodes by omega) (show (1:Int)≤((w.size:Int)+1) by omega) om om;omega
  have hh:∃r:Int,(((r=-1∧¬ tcF l w<1099511627776)∨(0≤r∧r=tcF l w∧tcF l w<1099511627776))∧(True))∧Zaw Tryz.prog 24 [.ptr false [I l.Nodes,Zbk false l.Edges],Sv w] (Zae []) true (I r) (Zae []):=by
    refine Zcv (Φ:=fun r:Int=>((r=-1∧¬ tcF l w<1099511627776)∨(0≤r∧r=tcF l w∧tcF l w<1099511627776))∧(True)) [] (fun r=>[]) (fn:=Tryz.f24) (nt:=145) Tryz.func24 rfl rfl (args:=[.ptr false [I l.Nodes,Zbk false l.Edges],Sv w]) rfl (Zbc (.inl ⟨rfl,by simp [Zai,Zaf,Zff]⟩) (Zbc (.inl ⟨rfl,trivial⟩) Zcw)) (res:=fun r=>I r) ?_
    refine xQ [] [0,1] [] [] trivial ?_
    refine xQ [] [0,1,5] [] [inR .i64 ((w.size:Int)+1)] ⟨(Zad (by first|omega|(simp only [List.length_replicate,List.length_set];omega)) (by first|omega|(simp only [List.length_replicate,List.length_set];omega))),trivial⟩ ?_
    refine xQ [(6,.new 23)] [0,1,5,6] [23] [inR .i64 (l.Nodes*((w.size:Int)+1)),(0:Int)≤(l.Nodes*((w.size:Int)+1))∧((l.Nodes*((w.size:Int)+1)):Int)≤(l.Nodes*((w.size:Int)+1))∧(8:Int)*(l.Nodes*((w.size:Int)+1))≤281474976710656∧(l.Nodes*((w.size:Int)+1))≤9223372036854775807] ⟨(Zad (by first|omega|(simp only [List.length_replicate,List.length_set];omega)) (by first|omega|(simp only [List.length_replicate,List.length_set];omega))),⟨(by first|omega|(simp only [List.length_replicate,List.length_set];omega)),(by first|omega|(simp only [List.length_replicate,List.length_set];omega)),(by first|omega|(simp only [List.length_replicate,List.length_set];omega)),(by first|omega|(simp only [List.length_replicate,List.length_set];omega))⟩,trivial⟩ (Zak ?_)
    refine xR [] [0,1,5,6,25,26] [23] [.ptr false [I l.Nodes,Zbk false l.Edges],Sv w,I ((w.size:Int)+1),.arr 23,I (((l.Nodes*((w.size:Int)+1)).toNat):Int),I 0] [some (.arr 1 ((l.Nodes*((w.size:Int)+1)).toNat) (fun _=>[I 0]))] [] trivial (Zbb ?_)
    refine Zdh [] (T:=[(0,.ptr false [I l.Nodes,Zbk false l.Edges]),(1,Sv w),(5,I ((w.size:Int)+1)),(6,.arr 23),(25,I (((l.Nodes*((w.size:Int)+1)).toNat):Int)),(26,I 0)]) (O:=[(23,tAI (List.replicate ((l.Nodes*((w.size:Int)+1)).toNat) (0:Int)))]) rfl (⟨.inl rfl,.inl rfl,.inl rfl,.inl rfl,.inl rfl,.inl rfl,trivial⟩) (⟨.inr ⟨rfl,(by first|rfl|(simp;done)|(simp;omega)|omega),fun i_ hi_=> .inl (Zhy (enc:=cI) rfl i_ hi_)⟩,trivial⟩) ?_
    refine Zdc (X:=Int×(List Int)) (fun x=>mkS [(0,.ptr false [I l.Nodes,Zbk false l.Edges]),(1,Sv w),(5,I ((w.size:Int)+1)),(6,.arr 23),(25,I (((l.Nodes*((w.size:Int)+1)).toNat):Int)),(26,I x.1)] [(23,tAI x.2)]) (fun x=>(0≤x.1∧x.1≤(x.2.length:Int))∧(∀j:Nat,(j:Int)<x.1→at_ x.2 j=-1)∧((x.2.length:Int)=l.Nodes*((w.size:Int)+1))∧True) (fun x=>(l.Nodes*((w.size:Int)+1)-x.1).toNat) (0,(List.replicate ((l.Nodes*((w.size:Int)+1)).toNat) (0:Int))) rfl (show (0≤(0:Int)∧(0:Int)≤((List.replicate ((l.Nodes*((w.size:Int)+1)).toNat) (0:Int)).length:Int))∧(∀j:Nat,(j:Int)<(0:Int)→at_ (List.replicate ((l.Nodes*((w.size:Int)+1)).toNat) (0:Int)) j=-1)∧(((List.replicate ((l.Nodes*((w.size:Int)+1)).toNat) (0:Int)).length:Int)=l.Nodes*((w.size:Int)+1))∧True from ⟨om,(by intro j hj;omega),(by (simp;omega)),trivial⟩) (fun x hI=> ?_)
    obtain ⟨t26,cs⟩:=x
    obtain ⟨hi0,hcs,hcl,_⟩:(0≤t26∧t26≤(cs.length:Int))∧(∀j:Nat,(j:Int)<t26→at_ cs j=-1)∧((cs.length:Int)=l.Nodes*((w.size:Int)+1))∧True:=hI
    show XW _ _ _ _ (mkS [(0,.ptr false [I l.Nodes,Zbk false l.Edges]),(1,Sv w),(5,I ((w.size:Int)+1)),(6,.arr 23),(25,I (((l.Nodes*((w.size:Int)+1)).toNat):Int)),(26,I t26)] [(23,tAI cs)]) _ _
    refine Zak ?_
    by_cases h1:t26<(((l.Nodes*((w.size:Int)+1)).toNat):Int)
    ·refine x_q [(0,.dec true)] [0,1,5,6,25,26,27] [23] [_] ⟨h1,trivial⟩ (Zab (Zak (Zeh (Zbd (Zab (Zak (Zbb ?_)))))))
     refine xQ [] [0,1,5,6,7,25,26] [23] [] trivial ?_
     refine x_q [] [0,1,5,6,25,26] [23] [(0:Int)≤t26∧t26<(cs.length:Int),t26.toNat<cs.length] ⟨⟨(by first|omega|(simp only [List.length_replicate,List.length_set];omega)),(by first|omega|(simp only [List.length_replicate,List.length_set];omega))⟩,(by first|omega|(simp only [List.length_replicate,List.length_set];omega)),trivial⟩ (Zba 1 (Zab ?_))
     refine x_r [] [0,1,5,6,25,26] [23] [.ptr false [I l.Nodes,Zbk false l.Edges],Sv w,I ((w.size:Int)+1),.arr 23,I (((l.Nodes*((w.size:Int)+1)).toNat):Int),I (t26+1)] [some (.arr 1 cs.length (fun q=>bif Nat.beq q t26.toNat then [I (-1)] else (fI cs) q))] [inR .i64 (t26+1)] ⟨(Zad (by first|omega|(simp only [List.length_replicate,List.length_set];omega)) (by first|omega|(simp only [List.length_replicate,List.length_set];omega))),trivial⟩ ?_
     refine Zcf [] (T:=[(0,.ptr false [I l.Nodes,Zbk false l.Edges]),(1,Sv w),(5,I ((w.size:Int)+1)),(6,.arr 23),(25,I (((l.Nodes*((w.size:Int)+1)).toNat):Int)),(26,I (t26+1))]) (O:=[(23,tAI (cs.set t26.toNat (-1)))]) rfl (⟨.inl rfl,.inl rfl,.inl rfl,.inl rfl,.inl rfl,.inl rfl,trivial⟩) (⟨.inr ⟨rfl,(by first|rfl|(simp;done)|(simp;omega)|omega),fun i_ hi_=> .inl (Zgc (enc:=cI) rfl i_ hi_)⟩,trivial⟩) (Zay ((t26+1),(cs.set t26.toNat (-1))) rfl (show (0≤(t26+1)∧(t26+1)≤((cs.set t26.toNat (-1)).length:Int))∧(∀j:Nat,(j:Int)<(t26+1)→at_ (cs.set t26.toNat (-1)) j=-1)∧(((cs.set t26.toNat (-1)).length:Int)=l.Nodes*((w.size:Int)+1))∧True from ⟨(by (simp;omega)),(by intro j hj;by_cases ej:j=t26.toNat;(subst ej;rw [Zdb om]);(rw [Zdz ej];exact hcs j om)),(by (rw [List.length_set];exact hcl)),trivial⟩) (by first|(show ((l.Nodes*((w.size:Int)+1)-(t26+1)).toNat:Nat)<(l.Nodes*((w.size:Int)+1)-t26).toNat;omega)|(dsimp only;omega)))
    have hcf:∀j:Nat,j<cs.length→at_ cs j=-1:=fun j hj=>hcs j om
    refine x_r [(0,.dec false)] [0,1,5,6,25,26,27] [23] [.ptr false [I l.Nodes,Zbk false l.Edges],Sv w,I ((w.size:Int)+1),.arr 23,I (((l.Nodes*((w.size:Int)+1)).toNat):Int),I t26,Bv false] [some (tAI cs)] [_] ⟨h1,trivial⟩ (Zab (Zak (Zbt rfl (Zcp (Zas ?_)))))
    refine Zax ?_
    refine Zat (Zab ?_)
    refine xR [] [0,1,5,6] [23] [.ptr false [I l.Nodes,Zbk false l.Edges],Sv w,I ((w.size:Int)+1),.arr 23] [some (.arr 1 cs.length (fun q=>bif Nat.beq q 0 then [I 0] else (fI cs) q))] [(0:Int)≤0∧0<(cs.length:Int),0<cs.length] ⟨⟨(by first|omega|(simp only [List.length_replicate,List.length_set];omega)),(by first|omega|(simp only [List.length_replicate,List.length_set];omega))⟩,(by first|omega|(simp only [List.length_replicate,List.length_set];omega)),trivial⟩ (Zak (Zak ?_))
    refine Zdh [] (T:=[(0,.ptr false [I l.Nodes,Zbk false l.Edges]),(1,Sv w),(5,I ((w.size:Int)+1)),(6,.arr 23)]) (O:=[(23,tAI (cs.set 0 0))]) rfl (⟨.inl rfl,.inl rfl,.inl rfl,.inl rfl,trivial⟩) (⟨.inr ⟨rfl,(by first|rfl|(simp;done)|(simp;omega)|omega),fun i_ hi_=> .inl (Zgc (enc:=cI) rfl i_ hi_)⟩,trivial⟩) ?_
    refine x_r [] [0,1,5,6,8] [23] [.ptr false [I l.Nodes,Zbk false l.Edges],Sv w,I ((w.size:Int)+1),.arr 23,I 0] [some (tAI (cs.set 0 0))] [] trivial (Zab (Zbb ?_))
    refine Zdc (X:=Int×(List Int)) (fun x=>mkS [(0,.ptr false [I l.Nodes,Zbk false l.Edges]),(1,Sv w),(5,I ((w.size:Int)+1)),(6,.arr 23),(8,I x.1)] [(23,tAI x.2)]) (fun x=>(0≤x.1∧x.1≤l.Nodes)∧(scI l w x.1 0 0 x.2)∧True) (fun x=>(l.Nodes-x.1).toNat) (0,(cs.set 0 0)) rfl (show (0≤(0:Int)∧(0:Int)≤l.Nodes)∧(scI l w (0:Int) 0 0 (cs.set 0 0))∧True from ⟨om,(by exact sc_start hl hcl hcf),trivial⟩) (fun x hI=> ?_)
    obtain ⟨node,c2⟩:=x
    obtain ⟨hn0,hsc,_⟩:(0≤node∧node≤l.Nodes)∧(scI l w node 0 0 c2)∧True:=hI
    show XW _ _ _ _ (mkS [(0,.ptr false [I l.Nodes,Zbk false l.Edges]),(1,Sv w),(5,I ((w.size:Int)+1)),(6,.arr 23),(8,I node)] [(23,tAI c2)]) _ _
    refine Zak (Zak ?_)
    by_cases h2:node<l.Nodes
    ·have hcl2:=hsc.1
     refine x_q [(5,.dec true)] [0,1,5,6,8,40] [23] [_] ⟨h2,trivial⟩ (Zab (Zeh (Zbd (Zab (Zak (Zbb ?_))))))
     refine xR [] [0,1,5,6,8,9] [23] [.ptr false [I l.Nodes,Zbk false l.Edges],Sv w,I ((w.size:Int)+1),.arr 23,I node,I 0] [some (tAI c2)] [] trivial (Zbb ?_)
     refine Zdc (X:=Int×(List Int)) (fun x=>mkS [(0,.ptr false [I l.Nodes,Zbk false l.Edges]),(1,Sv w),(5,I ((w.size:Int)+1)),(6,.arr 23),(8,I node),(9,I x.1)] [(23,tAI x.2)]) (fun x=>(0≤x.1∧x.1≤(l.Edges.length:Int))∧(scI l w node x.1 0 x.2)∧True) (fun x=>((l.Edges.length:Int)-x.1).toNat) (0,c2) rfl (show (0≤(0:Int)∧(0:Int)≤(l.Edges.length:Int))∧(scI l w node (0:Int) 0 c2)∧True from ⟨om,(by exact hsc),trivial⟩) (fun x hI=> ?_)
     obtain ⟨i,c3⟩:=x
     obtain ⟨hi1,hsc3,_⟩:(0≤i∧i≤(l.Edges.length:Int))∧(scI l w node i 0 c3)∧True:=hI
     show XW _ _ _ _ (mkS [(0,.ptr false [I l.Nodes,Zbk false l.Edges]),(1,Sv w),(5,I ((w.size:Int)+1)),(6,.arr 23),(8,I node),(9,I i)] [(23,tAI c3)]) _ _
     have hcl3:=hsc3.1
     refine Zak (Zak ?_)
     by_cases h3:i<(l.Edges.length:Int)
     ·have hi:i.toNat<l.Edges.length:=by omega
      have hed:=hl.2.2.1 _ hi
      have he1:=hed.1
      have he2:=hed.2.1
      have he3:=Zgt hed.2.2
      refine x_q [(6,.dec true)] [0,1,5,6,8,9,49] [23] [_] ⟨h3,trivial⟩ (Zab (Zeh (Zbd (Zab (Zak (Zbb ?_))))))
      refine xQ [] [0,1,5,6,8,9,10] [23] [(0:Int)≤i∧i<(l.Edges.length:Int)] ⟨⟨(by first|omega|(simp only [List.length_replicate,List.length_set];omega)),(by first|omega|(simp only [List.length_replicate,List.length_set];omega))⟩,trivial⟩ ?_
      refine xR [] [0,1,5,6,8,9,10,11] [23] [.ptr false [I l.Nodes,Zbk false l.Edges],Sv w,I ((w.size:Int)+1),.arr 23,I node,I i,.ptr false [I ((at_ l.Edges i.toNat).From),I ((at_ l.Edges i.toNat).To),Sv ((at_ l.Edges i.toNat).Label),I ((at_ l.Edges i.toNat).Cost)],I 0] [some (tAI c3)] [] trivial (Zbb ?_)
      refine Zdc (X:=Int×(List Int)) (fun x=>mkS [(0,.ptr false [I l.Nodes,Zbk false l.Edges]),(1,Sv w),(5,I ((w.size:Int)+1)),(6,.arr 23),(8,I node),(9,I i),(10,.ptr false [I ((at_ l.Edges i.toNat).From),I ((at_ l.Edges i.toNat).To),Sv ((at_ l.Edges i.toNat).Label),I ((at_ l.Edges i.toNat).Cost)]),(11,I x.1)] [(23,tAI x.2)]) (fun x=>(0≤x.1∧x.1≤(w.size:Int))∧(scI l w node i x.1 x.2)∧True) (fun x=>((w.size:Int)-x.1).toNat) (0,c3) rfl (show (0≤(0:Int)∧(0:Int)≤(w.size:Int))∧(scI l w node i (0:Int) c3)∧True from ⟨om,(by exact hsc3),trivial⟩) (fun x hI=> ?_)
      obtain ⟨k,c4⟩:=x
      obtain ⟨hk0,hsc4,_⟩:(0≤k∧k≤(w.size:Int))∧(scI l w node i k c4)∧True:=hI
      show XW _ _ _ _ (mkS [(0,.ptr false [I l.Nodes,Zbk false l.Edges]),(1,Sv w),(5,I ((w.size:Int)+1)),(6,.arr 23),(8,I node),(9,I i),(10,.ptr false [I ((at_ l.Edges i.toNat).From),I ((at_ l.Edges i.toNat).To),Sv ((at_ l.Edges i.toNat).Label),I ((at_ l.Edges i.toNat).Cost)]),(11,I k)] [(23,tAI c4)]) _ _
      have hcl4_:=hsc4.1
      refine Zak (Zak ?_)
      by_cases h4:(k+1)<((w.size:Int)+1)
      ·have hkw:k<(w.size:Int):=by omega
       by_cases h5:((at_ l.Edges i.toNat).From)=node
       ·have hff:=h5
        have ix1:=Zys (l:=l) (w:=w) (j:=node) (m:=k) om om
        have ix2:=Zys (l:=l) (w:=w) (j:=(at_ l.Edges i.toNat).To) (m:=k+1) om om
        have hcl4:=hsc4.1
        have hv1:=hsc4.2.2.1 node k om om om om
        have hv2:=hsc4.2.2.1 (at_ l.Edges i.toNat).To (k+1) om om om om
        have hc1:clT w c4 node k=at_ c4 (node*((w.size:Int)+1)+k).toNat:=rfl
        have hc2:clT w c4 (at_ l.Edges i.toNat).To (k+1)=at_ c4 ((at_ l.Edges i.toNat).To*((w.size:Int)+1)+k+1).toNat:=by unfold clT;rw [Int.add_assoc]
        have hbd1:=sc_bd hl om hv1
        have hbd2:=sc_bd hl om hv2
        rw [hc1] at hbd1 hv1
        rw [hc2] at hbd2 hv2
        have hn1:0≤node*((w.size:Int)+1):=Int.mul_nonneg om om
        have hn2:0≤(at_ l.Edges i.toNat).To*((w.size:Int)+1):=Int.mul_nonneg om om
        refine x_q [(3,.dec true),(10,.dec true)] [0,1,5,6,8,9,10,11,69] [23] [inR .i64 (k+1),_,_] ⟨(Zad (by first|omega|(simp only [List.length_replicate,List.length_set];omega)) (by first|omega|(simp only [List.length_replicate,List.length_set];omega))),h4,h5,trivial⟩ (Zab (Zeh (Zbd (Zab (Zak (Zbb ?_))))))
        refine xQ [] [0,1,5,6,8,9,10,11,12] [23] [inR .i64 (node*((w.size:Int)+1)),inR .i64 ((node*((w.size:Int)+1))+k),(0:Int)≤((node*((w.size:Int)+1))+k)∧((node*((w.size:Int)+1))+k)<(c4.length:Int),((node*((w.size:Int)+1))+k).toNat<c4.length] ⟨(Zad (by first|omega|(simp only [List.length_replicate,List.length_set];omega)) (by first|omega|(simp only [List.length_replicate,List.length_set];omega))),(Zad (by first|omega|(simp only [List.length_replicate,List.length_set];omega)) (by first|omega|(simp only [List.length_replicate,List.length_set];omega))),⟨(by first|omega|(simp only [List.length_replicate,List.length_set];omega)),(by first|omega|(simp only [List.length_replicate,List.length_set];omega))⟩,(by first|omega|(simp only [List.length_replicate,List.length_set];omega)),trivial⟩ (Zak (Zak ?_))
        by_cases h6:(at_ c4 (((node*((w.size:Int)+1))+k).toNat))<0
        ·refine x_q [(1,.dec true)] [0,1,5,6,8,9,10,11,12,93] [23] [_] ⟨h6,trivial⟩ (Zab (Zeh (Zcp (Zas (Zat (Zab ?_))))))
         refine x_r [] [0,1,5,6,8,9,10,11] [23] [.ptr false [I l.Nodes,Zbk false l.Edges],Sv w,I ((w.size:Int)+1),.arr 23,I node,I i,.ptr false [I ((at_ l.Edges i.toNat).From),I ((at_ l.Edges i.toNat).To),Sv ((at_ l.Edges i.toNat).Label),I ((at_ l.Edges i.toNat).Cost)],I (k+1)] [some (tAI c4)] [inR .i64 (k+1)] ⟨(Zad (by first|omega|(simp only [List.length_replicate,List.length_set];omega)) (by first|omega|(simp only [List.length_replicate,List.length_set];omega))),trivial⟩ ?_
         exact Zay ((k+1),c4) rfl (show (0≤(k+1)∧(k+1)≤(w.size:Int))∧(scI l w node i (k+1) c4)∧True from ⟨om,(by (first|exact Zft hsc4 (Zmh hff (.inl (by rw [hc1];omega)) om)|exact Zft hsc4 (Zmh hff (.inr (.inl (by assumption))) om)|exact Zft hsc4 (Zmh hff (.inr (.inr (by rw [hc1,hc2];omega))) om)|(have q_:=Zyt hl hsc4 om hi ⟨by omega,hkw⟩ hff (by rw [hc1];omega) (by rw [←hlb];unfold chA;rw [show (k+1).toNat=k.toNat+1 from by omega]) (by rw [hc1,hc2];omega);rw [hc1,←Int.add_assoc] at q_;exact q_))),trivial⟩) (by first|(show (((w.size:Int)-(k+1)).toNat:Nat)<((w.size:Int)-k).toNat;omega)|(dsimp only;omega))
        by_cases h7:(w.extract k.toNat (k+1).toNat)=((at_ l.Edges i.toNat).Label)
        ·have hlb:=h7
         refine x_q [(1,.dec false),(12,.dec false)] [0,1,5,6,8,9,10,11,12,93] [23] [_,inR .i64 (k+1),(0:Int)≤k∧k≤(k+1)∧(k+1)≤(w.size:Int),¬ ((w.extract k.toNat (k+1).toNat)≠((at_ l.Edges i.toNat).Label))] ⟨h6,(Zad (by first|omega|(simp only [List.length_replicate,List.length_set];omega)) (by first|omega|(simp only [List.length_replicate,List.length_set];omega))),⟨(by first|omega|(simp only [List.length_replicate,List.length_set];omega)),(by first|omega|(simp only [List.length_replicate,List.length_set];omega)),(by first|omega|(simp only [List.length_replicate,List.length_set];omega))⟩,(fun hq=>hq h7),trivial⟩ (Zab (Zga (Zbd (Zab ?_))))
         refine xQ [] [0,1,5,6,8,9,10,11,12,13] [23] [inR .i64 (((at_ l.Edges i.toNat).To)*((w.size:Int)+1)),inR .i64 ((((at_ l.Edges i.toNat).To)*((w.size:Int)+1))+k),inR .i64 (((((at_ l.Edges i.toNat).To)*((w.size:Int)+1))+k)+1),(0:Int)≤(((((at_ l.Edges i.toNat).To)*((w.size:Int)+1))+k)+1)∧(((((at_ l.Edges i.toNat).To)*((w.size:Int)+1))+k)+1)<(c4.length:Int),(((((at_ l.Edges i.toNat).To)*((w.size:Int)+1))+k)+1).toNat<c4.length] ⟨(Zad (by first|omega|(simp only [List.length_replicate,List.length_set];omega)) (by first|omega|(simp only [List.length_replicate,List.length_set];omega))),(Zad (by first|omega|(simp only [List.length_replicate,List.length_set];omega)) (by first|omega|(simp only [List.length_replicate,List.length_set];omega))),(Zad (by first|omega|(simp only [List.length_replicate,List.length_set];omega)) (by first|omega|(simp only [List.length_replicate,List.length_set];omega))),⟨(by first|omega|(simp only [List.length_replicate,List.length_set];omega)),(by first|omega|(simp only [List.length_replicate,List.length_set];omega))⟩,(by first|omega|(simp only [List.length_replicate,List.length_set];omega)),trivial⟩ (Zak ?_)
         by_cases h8:(at_ c4 ((((((at_ l.Edges i.toNat).To)*((w.size:Int)+1))+k)+1).toNat))<0
         ·refine x_q [(1,.dec true)] [0,1,5,6,8,9,10,11,12,117] [23] [_] ⟨h8,trivial⟩ (Zab (Zeh ?_))
          refine x_q [] [0,1,5,6,8,9,10,11] [23] [inR .i64 (((at_ l.Edges i.toNat).To)*((w.size:Int)+1)),inR .i64 ((((at_ l.Edges i.toNat).To)*((w.size:Int)+1))+k),inR .i64 (((((at_ l.Edges i.toNat).To)*((w.size:Int)+1))+k)+1),inR .i64 ((at_ c4 (((node*((w.size:Int)+1))+k).toNat))+((at_ l.Edges i.toNat).Cost)),(0:Int)≤(((((at_ l.Edges i.toNat).To)*((w.size:Int)+1))+k)+1)∧(((((at_ l.Edges i.toNat).To)*((w.size:Int)+1))+k)+1)<(c4.length:Int),(((((at_ l.Edges i.toNat).To)*((w.size:Int)+1))+k)+1).toNat<c4.length] ⟨(Zad (by first|omega|(simp only [List.length_replicate,List.length_set];omega)) (by first|omega|(simp only [List.length_replicate,List.length_set];omega))),(Zad (by first|omega|(simp only [List.length_replicate,List.length_set];omega)) (by first|omega|(simp only [List.length_replicate,List.length_set];omega))),(Zad (by first|omega|(simp only [List.length_replicate,List.length_set];omega)) (by first|omega|(simp only [List.length_replicate,List.length_set];omega))),(Zad (by first|omega|(simp only [List.length_replicate,List.length_set];omega)) (by first|omega|(simp only [List.length_replicate,List.length_set];omega))),⟨(by first|omega|(simp only [List.length_replicate,List.length_set];omega)),(by first|omega|(simp only [List.length_replicate,List.length_set];omega))⟩,(by first|omega|(simp only [List.length_replicate,List.length_set];omega)),trivial⟩ (Zba 7 (Zab ?_))
          refine x_r [] [0,1,5,6,8,9,10,11] [23] [.ptr false [I l.Nodes,Zbk false l.Edges],Sv w,I ((w.size:Int)+1),.arr 23,I node,I i,.ptr false [I ((at_ l.Edges i.toNat).From),I ((at_ l.Edges i.toNat).To),Sv ((at_ l.Edges i.toNat).Label),I ((at_ l.Edges i.toNat).Cost)],I (k+1)] [some (.arr 1 c4.length (fun q=>bif Nat.beq q ((((((at_ l.Edges i.toNat).To)*((w.size:Int)+1))+k)+1).toNat) then [I ((at_ c4 (((node*((w.size:Int)+1))+k).toNat))+((at_ l.Edges i.toNat).Cost))] else (fI c4) q))] [inR .i64 (k+1)] ⟨(Zad (by first|omega|(simp only [List.length_replicate,List.length_set];omega)) (by first|omega|(simp only [List.length_replicate,List.length_set];omega))),trivial⟩ ?_
          refine Zcf [] (T:=[(0,.ptr false [I l.Nodes,Zbk false l.Edges]),(1,Sv w),(5,I ((w.size:Int)+1)),(6,.arr 23),(8,I node),(9,I i),(10,.ptr false [I ((at_ l.Edges i.toNat).From),I ((at_ l.Edges i.toNat).To),Sv ((at_ l.Edges i.toNat).Label),I ((at_ l.Edges i.toNat).Cost)]),(11,I (k+1))]) (O:=[(23,tAI (c4.set ((((((at_ l.Edges i.toNat).To)*((w.size:Int)+1))+k)+1).toNat) ((at_ c4 (((node*((w.size:Int)+1))+k).toNat))+((at_ l.Edges i.toNat).Cost))))]) rfl (⟨.inl rfl,.inl rfl,.inl rfl,.inl rfl,.inl rfl,.inl rfl,.inl rfl,.inl rfl,trivial⟩) (⟨.inr ⟨rfl,(by first|rfl|(simp;done)|(simp;omega)|omega),fun i_ hi_=> .inl (Zgc (enc:=cI) rfl i_ hi_)⟩,trivial⟩) (Zay ((k+1),(c4.set ((((((at_ l.Edges i.toNat).To)*((w.size:Int)+1))+k)+1).toNat) ((at_ c4 (((node*((w.size:Int)+1))+k).toNat))+((at_ l.Edges i.toNat).Cost)))) rfl (show (0≤(k+1)∧(k+1)≤(w.size:Int))∧(scI l w node i (k+1) (c4.set ((((((at_ l.Edges i.toNat).To)*((w.size:Int)+1))+k)+1).toNat) ((at_ c4 (((node*((w.size:Int)+1))+k).toNat))+((at_ l.Edges i.toNat).Cost))))∧True from ⟨om,(by (first|exact Zft hsc4 (Zmh hff (.inl (by rw [hc1];omega)) om)|exact Zft hsc4 (Zmh hff (.inr (.inl (by assumption))) om)|exact Zft hsc4 (Zmh hff (.inr (.inr (by rw [hc1,hc2];omega))) om)|(have q_:=Zyt hl hsc4 om hi ⟨by omega,hkw⟩ hff (by rw [hc1];omega) (by rw [←hlb];unfold chA;rw [show (k+1).toNat=k.toNat+1 from by omega]) (by rw [hc1,hc2];omega);rw [hc1,←Int.add_assoc] at q_;exact q_))),trivial⟩) (by first|(show (((w.size:Int)-(k+1)).toNat:Nat)<((w.size:Int)-k).toNat;omega)|(dsimp only;omega)))
         by_cases h9:((at_ c4 (((node*((w.size:Int)+1))+k).toNat))+((at_ l.Edges i.toNat).Cost))<(at_ c4 ((((((at_ l.Edges i.toNat).To)*((w.size:Int)+1))+k)+1).toNat))
         ·refine x_q [(1,.dec false),(10,.dec true)] [0,1,5,6,8,9,10,11,12,117] [23] [_,inR .i64 ((at_ c4 (((node*((w.size:Int)+1))+k).toNat))+((at_ l.Edges i.toNat).Cost)),_] ⟨h8,(Zad (by first|omega|(simp only [List.length_replicate,List.length_set];omega)) (by first|omega|(simp only [List.length_replicate,List.length_set];omega))),h9,trivial⟩ (Zab (Zeh ?_))
          refine x_q [] [0,1,5,6,8,9,10,11] [23] [inR .i64 (((at_ l.Edges i.toNat).To)*((w.size:Int)+1)),inR .i64 ((((at_ l.Edges i.toNat).To)*((w.size:Int)+1))+k),inR .i64 (((((at_ l.Edges i.toNat).To)*((w.size:Int)+1))+k)+1),inR .i64 ((at_ c4 (((node*((w.size:Int)+1))+k).toNat))+((at_ l.Edges i.toNat).Cost)),(0:Int)≤(((((at_ l.Edges i.toNat).To)*((w.size:Int)+1))+k)+1)∧(((((at_ l.Edges i.toNat).To)*((w.size:Int)+1))+k)+1)<(c4.length:Int),(((((at_ l.Edges i.toNat).To)*((w.size:Int)+1))+k)+1).toNat<c4.length] ⟨(Zad (by first|omega|(simp only [List.length_replicate,List.length_set];omega)) (by first|omega|(simp only [List.length_replicate,List.length_set];omega))),(Zad (by first|omega|(simp only [List.length_replicate,List.length_set];omega)) (by first|omega|(simp only [List.length_replicate,List.length_set];omega))),(Zad (by first|omega|(simp only [List.length_replicate,List.length_set];omega)) (by first|omega|(simp only [List.length_replicate,List.length_set];omega))),(Zad (by first|omega|(simp only [List.length_replicate,List.length_set];omega)) (by first|omega|(simp only [List.length_replicate,List.length_set];omega))),⟨(by first|omega|(simp only [List.length_replicate,List.length_set];omega)),(by first|omega|(simp only [List.length_replicate,List.length_set];omega))⟩,(by first|omega|(simp only [List.length_replicate,List.length_set];omega)),trivial⟩ (Zba 7 (Zab ?_))
          refine x_r [] [0,1,5,6,8,9,10,11] [23] [.ptr false [I l.Nodes,Zbk false l.Edges],Sv w,I ((w.size:Int)+1),.arr 23,I node,I i,.ptr false [I ((at_ l.Edges i.toNat).From),I ((at_ l.Edges i.toNat).To),Sv ((at_ l.Edges i.toNat).Label),I ((at_ l.Edges i.toNat).Cost)],I (k+1)] [some (.arr 1 c4.length (fun q=>bif Nat.beq q ((((((at_ l.Edges i.toNat).To)*((w.size:Int)+1))+k)+1).toNat) then [I ((at_ c4 (((node*((w.size:Int)+1))+k).toNat))+((at_ l.Edges i.toNat).Cost))] else (fI c4) q))] [inR .i64 (k+1)] ⟨(Zad (by first|omega|(simp only [List.length_replicate,List.length_set];omega)) (by first|omega|(simp only [List.length_replicate,List.length_set];omega))),trivial⟩ ?_
          refine Zcf [] (T:=[(0,.ptr false [I l.Nodes,Zbk false l.Edges]),(1,Sv w),(5,I ((w.size:Int)+1)),(6,.arr 23),(8,I node),(9,I i),(10,.ptr false [I ((at_ l.Edges i.toNat).From),I ((at_ l.Edges i.toNat).To),Sv ((at_ l.Edges i.toNat).Label),I ((at_ l.Edges i.toNat).Cost)]),(11,I (k+1))]) (O:=[(23,tAI (c4.set ((((((at_ l.Edges i.toNat).To)*((w.size:Int)+1))+k)+1).toNat) ((at_ c4 (((node*((w.size:Int)+1))+k).toNat))+((at_ l.Edges i.toNat).Cost))))]) rfl (⟨.inl rfl,.inl rfl,.inl rfl,.inl rfl,.inl rfl,.inl rfl,.inl rfl,.inl rfl,trivial⟩) (⟨.inr ⟨rfl,(by first|rfl|(simp;done)|(simp;omega)|omega),fun i_ hi_=> .inl (Zgc (enc:=cI) rfl i_ hi_)⟩,trivial⟩) (Zay ((k+1),(c4.set ((((((at_ l.Edges i.toNat).To)*((w.size:Int)+1))+k)+1).toNat) ((at_ c4 (((node*((w.size:Int)+1))+k).toNat))+((at_ l.Edges i.toNat).Cost)))) rfl (show (0≤(k+1)∧(k+1)≤(w.size:Int))∧(scI l w node i (k+1) (c4.set ((((((at_ l.Edges i.toNat).To)*((w.size:Int)+1))+k)+1).toNat) ((at_ c4 (((node*((w.size:Int)+1))+k).toNat))+((at_ l.Edges i.toNat).Cost))))∧True from ⟨om,(by (first|exact Zft hsc4 (Zmh hff (.inl (by rw [hc1];omega)) om)|exact Zft hsc4 (Zmh hff (.inr (.inl (by assumption))) om)|exact Zft hsc4 (Zmh hff (.inr (.inr (by rw [hc1,hc2];omega))) om)|(have q_:=Zyt hl hsc4 om hi ⟨by omega,hkw⟩ hff (by rw [hc1];omega) (by rw [←hlb];unfold chA;rw [show (k+1).toNat=k.toNat+1 from by omega]) (by rw [hc1,hc2];omega);rw [hc1,←Int.add_assoc] at q_;exact q_))),trivial⟩) (by first|(show (((w.size:Int)-(k+1)).toNat:Nat)<((w.size:Int)-k).toNat;omega)|(dsimp only;omega)))
         refine x_q [(1,.dec false),(10,.dec false)] [0,1,5,6,8,9,10,11,12,117] [23] [_,inR .i64 ((at_ c4 (((node*((w.size:Int)+1))+k).toNat))+((at_ l.Edges i.toNat).Cost)),_] ⟨h8,(Zad (by first|omega|(simp only [List.length_replicate,List.length_set];omega)) (by first|omega|(simp only [List.length_replicate,List.length_set];omega))),h9,trivial⟩ (Zab (Zga (Zbd (Zba 7 (Zab ?_)))))
         refine x_r [] [0,1,5,6,8,9,10,11] [23] [.ptr false [I l.Nodes,Zbk false l.Edges],Sv w,I ((w.size:Int)+1),.arr 23,I node,I i,.ptr false [I ((at_ l.Edges i.toNat).From),I ((at_ l.Edges i.toNat).To),Sv ((at_ l.Edges i.toNat).Label),I ((at_ l.Edges i.toNat).Cost)],I (k+1)] [some (tAI c4)] [inR .i64 (k+1)] ⟨(Zad (by first|omega|(simp only [List.length_replicate,List.length_set];omega)) (by first|omega|(simp only [List.length_replicate,List.length_set];omega))),trivial⟩ ?_
         exact Zay ((k+1),c4) rfl (show (0≤(k+1)∧(k+1)≤(w.size:Int))∧(scI l w node i (k+1) c4)∧True from ⟨om,(by (first|exact Zft hsc4 (Zmh hff (.inl (by rw [hc1];omega)) om)|exact Zft hsc4 (Zmh hff (.inr (.inl (by assumption))) om)|exact Zft hsc4 (Zmh hff (.inr (.inr (by rw [hc1,hc2];omega))) om)|(have q_:=Zyt hl hsc4 om hi ⟨by omega,hkw⟩ hff (by rw [hc1];omega) (by rw [←hlb];unfold chA;rw [show (k+1).toNat=k.toNat+1 from by omega]) (by rw [hc1,hc2];omega);rw [hc1,←Int.add_assoc] at q_;exact q_))),trivial⟩) (by first|(show (((w.size:Int)-(k+1)).toNat:Nat)<((w.size:Int)-k).toNat;omega)|(dsimp only;omega))
        have hlb:=h7
        refine x_q [(1,.dec false),(12,.dec true)] [0,1,5,6,8,9,10,11,12,93] [23] [_,inR .i64 (k+1),(0:Int)≤k∧k≤(k+1)∧(k+1)≤(w.size:Int),_] ⟨h6,(Zad (by first|omega|(simp only [List.length_replicate,List.length_set];omega)) (by first|omega|(simp only [List.length_replicate,List.length_set];omega))),⟨(by first|omega|(simp only [List.length_replicate,List.length_set];omega)),(by first|omega|(simp only [List.length_replicate,List.length_set];omega)),(by first|omega|(simp only [List.length_replicate,List.length_set];omega))⟩,h7,trivial⟩ (Zab (Zeh (Zcp (Zas (Zat (Zab ?_))))))
        refine x_r [] [0,1,5,6,8,9,10,11] [23] [.ptr false [I l.Nodes,Zbk false l.Edges],Sv w,I ((w.size:Int)+1),.arr 23,I node,I i,.ptr false [I ((at_ l.Edges i.toNat).From),I ((at_ l.Edges i.toNat).To),Sv ((at_ l.Edges i.toNat).Label),I ((at_ l.Edges i.toNat).Cost)],I (k+1)] [some (tAI c4)] [inR .i64 (k+1)] ⟨(Zad (by first|omega|(simp only [List.length_replicate,List.length_set];omega)) (by first|omega|(simp only [List.length_replicate,List.length_set];omega))),trivial⟩ ?_
        exact Zay ((k+1),c4) rfl (show (0≤(k+1)∧(k+1)≤(w.size:Int))∧(scI l w node i (k+1) c4)∧True from ⟨om,(by (first|exact Zft hsc4 (Zmh hff (.inl (by rw [hc1];omega)) om)|exact Zft hsc4 (Zmh hff (.inr (.inl (by assumption))) om)|exact Zft hsc4 (Zmh hff (.inr (.inr (by rw [hc1,hc2];omega))) om)|(have q_:=Zyt hl hsc4 om hi ⟨by omega,hkw⟩ hff (by rw [hc1];omega) (by rw [←hlb];unfold chA;rw [show (k+1).toNat=k.toNat+1 from by omega]) (by rw [hc1,hc2];omega);rw [hc1,←Int.add_assoc] at q_;exact q_))),trivial⟩) (by first|(show (((w.size:Int)-(k+1)).toNat:Nat)<((w.size:Int)-k).toNat;omega)|(dsimp only;omega))
       have hfo:=h5
       refine x_r [(3,.dec true),(10,.dec false)] [0,1,5,6,8,9,10,11,69] [23] [.ptr false [I l.Nodes,Zbk false l.Edges],Sv w,I ((w.size:Int)+1),.arr 23,I node,I i,.ptr false [I ((at_ l.Edges i.toNat).From),I ((at_ l.Edges i.toNat).To),Sv ((at_ l.Edges i.toNat).Label),I ((at_ l.Edges i.toNat).Cost)],I k,Bv false] [some (tAI c4)] [inR .i64 (k+1),_,_] ⟨(Zad (by first|omega|(simp only [List.length_replicate,List.length_set];omega)) (by first|omega|(simp only [List.length_replicate,List.length_set];omega))),h4,h5,trivial⟩ (Zab (Zbt rfl (Zcp (Zas ?_))))
       refine Zax ?_
       refine Zat (Zba 5 (Zab ?_))
       refine x_r [] [0,1,5,6,8,9] [23] [.ptr false [I l.Nodes,Zbk false l.Edges],Sv w,I ((w.size:Int)+1),.arr 23,I node,I (i+1)] [some (tAI c4)] [inR .i64 (i+1)] ⟨(Zad (by first|omega|(simp only [List.length_replicate,List.length_set];omega)) (by first|omega|(simp only [List.length_replicate,List.length_set];omega))),trivial⟩ ?_
       exact Zay ((i+1),c4) rfl (show (0≤(i+1)∧(i+1)≤(l.Edges.length:Int))∧(scI l w node (i+1) 0 c4)∧True from ⟨om,(by first|exact Zwf hsc4 om (.inl hko)|exact Zwf hsc4 om (.inr hfo)),trivial⟩) (by first|(show (((l.Edges.length:Int)-(i+1)).toNat:Nat)<((l.Edges.length:Int)-i).toNat;omega)|(dsimp only;omega))
      have hko:(w.size:Int)≤k:=by omega
      refine x_r [(3,.dec false)] [0,1,5,6,8,9,10,11,69] [23] [.ptr false [I l.Nodes,Zbk false l.Edges],Sv w,I ((w.size:Int)+1),.arr 23,I node,I i,.ptr false [I ((at_ l.Edges i.toNat).From),I ((at_ l.Edges i.toNat).To),Sv ((at_ l.Edges i.toNat).Label),I ((at_ l.Edges i.toNat).Cost)],I k,Bv false] [some (tAI c4)] [inR .i64 (k+1),_] ⟨(Zad (by first|omega|(simp only [List.length_replicate,List.length_set];omega)) (by first|omega|(simp only [List.length_replicate,List.length_set];omega))),h4,trivial⟩ (Zab (Zbt rfl (Zcp (Zas ?_))))
      refine Zax ?_
      refine Zat (Zba 5 (Zab ?_))
      refine x_r [] [0,1,5,6,8,9] [23] [.ptr false [I l.Nodes,Zbk false l.Edges],Sv w,I ((w.size:Int)+1),.arr 23,I node,I (i+1)] [some (tAI c4)] [inR .i64 (i+1)] ⟨(Zad (by first|omega|(simp only [List.length_replicate,List.length_set];omega)) (by first|omega|(simp only [List.length_replicate,List.length_set];omega))),trivial⟩ ?_
      exact Zay ((i+1),c4) rfl (show (0≤(i+1)∧(i+1)≤(l.Edges.length:Int))∧(scI l w node (i+1) 0 c4)∧True from ⟨om,(by first|exact Zwf hsc4 om (.inl hko)|exact Zwf hsc4 om (.inr hfo)),trivial⟩) (by first|(show (((l.Edges.length:Int)-(i+1)).toNat:Nat)<((l.Edges.length:Int)-i).toNat;omega)|(dsimp only;omega))
     refine x_r [(6,.dec false)] [0,1,5,6,8,9,49] [23] [.ptr false [I l.Nodes,Zbk false l.Edges],Sv w,I ((w.size:Int)+1),.arr 23,I node,I i,Bv false] [some (tAI c3)] [_] ⟨h3,trivial⟩ (Zab (Zbt rfl (Zcp (Zas ?_))))
     refine Zax ?_
     refine Zat (Zba 3 (Zab ?_))
     refine x_r [] [0,1,5,6,8] [23] [.ptr false [I l.Nodes,Zbk false l.Edges],Sv w,I ((w.size:Int)+1),.arr 23,I (node+1)] [some (tAI c3)] [inR .i64 (node+1)] ⟨(Zad (by first|omega|(simp only [List.length_replicate,List.length_set];omega)) (by first|omega|(simp only [List.length_replicate,List.length_set];omega))),trivial⟩ ?_
     exact Zay ((node+1),c3) rfl (show (0≤(node+1)∧(node+1)≤l.Nodes)∧(scI l w (node+1) 0 0 c3)∧True from ⟨om,(by exact sc_node hsc3 om),trivial⟩) (by first|(show ((l.Nodes-(node+1)).toNat:Nat)<(l.Nodes-node).toNat;omega)|(dsimp only;omega))
    have hcl2:=hsc.1
    have hend:=sc_end hl om hsc
    have hixe:(l.Nodes*((w.size:Int)+1)-1).toNat=((l.Nodes-1)*((w.size:Int)+1)+(w.size:Int)).toNat:=by rw [Int.sub_mul];omega
    have hcle:clT w c2 (l.Nodes-1) w.size=at_ c2 (l.Nodes*((w.size:Int)+1)-1).toNat:=by rw [hixe];rfl
    refine x_r [(5,.dec false)] [0,1,5,6,8,40] [23] [.ptr false [I l.Nodes,Zbk false l.Edges],Sv w,I ((w.size:Int)+1),.arr 23,I node,Bv false] [some (tAI c2)] [_] ⟨h2,trivial⟩ (Zab (Zbt rfl (Zcp (Zas ?_))))
    refine Zax ?_
    refine Zat (Zab ?_)
    refine xR [] [4] [] [I (at_ c2 (((l.Nodes*((w.size:Int)+1))-1).toNat))] [] [inR .i64 (l.Nodes*((w.size:Int)+1)),inR .i64 ((l.Nodes*((w.size:Int)+1))-1),(0:Int)≤((l.Nodes*((w.size:Int)+1))-1)∧((l.Nodes*((w.size:Int)+1))-1)<(c2.length:Int),((l.Nodes*((w.size:Int)+1))-1).toNat<c2.length] ⟨(Zad (by first|omega|(simp only [List.length_replicate,List.length_set];omega)) (by first|omega|(simp only [List.length_replicate,List.length_set];omega))),(Zad (by first|omega|(simp only [List.length_replicate,List.length_set];omega)) (by first|omega|(simp only [List.length_replicate,List.length_set];omega))),⟨(by first|omega|(simp only [List.length_replicate,List.length_set];omega)),(by first|omega|(simp only [List.length_replicate,List.length_set];omega))⟩,(by first|omega|(simp only [List.length_replicate,List.length_set];omega)),trivial⟩ (Zdd ?_)
    refine Zbw (at_ c2 (((l.Nodes*((w.size:Int)+1))-1).toNat)) (show (((at_ c2 (((l.Nodes*((w.size:Int)+1))-1).toNat))=-1∧¬ tcF l w<1099511627776)∨(0≤(at_ c2 (((l.Nodes*((w.size:Int)+1))-1).toNat))∧(at_ c2 (((l.Nodes*((w.size:Int)+1))-1).toNat))=tcF l w∧tcF l w<1099511627776))∧(True) from ⟨(by (rw [←hcle];exact hend)),trivial⟩) (trivial) (I (at_ c2 (((l.Nodes*((w.size:Int)+1))-1).toNat))) (by kernel_rfl) (.inl rfl) (fun _=>rfl) (fun _=>trivial)
  obtain ⟨v,⟨hh0,_⟩,hc⟩:=hh
  exact ⟨v,hh0,hc⟩
theorem Zhx (l:Lattice) (w:ByteArray) (hl:Zdg l) (hw:w.size≤1000):∃(v:Int) (c:Int),((c=0∧v=tcF l w∧tcF l w<1099511627776)∨(c=3∧¬ tcF l w<1099511627776))∧Con Tryz.prog 7 [Zcr l,Sv w] true (.tup [I v,I c]):=by
  have hh:∃r:Int×Int,(((r.2=0∧r.1=tcF l w∧tcF l w<1099511627776)∨(r.2=3∧¬ tcF l w<1099511627776))∧(True))∧Zaw Tryz.prog 7 [Zcr l,Sv w] (Zae []) true (.tup [I r.1,I r.2]) (Zae []):=by
    refine Zcv (Φ:=fun r:Int×Int=>((r.2=0∧r.1=tcF l w∧tcF l w<1099511627776)∨(r.2=3∧¬ tcF l w<1099511627776))∧(True)) [] (fun r=>[]) (fn:=Tryz.f7) (nt:=17) Tryz.func7 rfl rfl (args:=[Zcr l,Sv w]) rfl (Zbc (.inl ⟨rfl,by simp [Zai,Zaf,Zff]⟩) (Zbc (.inl ⟨rfl,trivial⟩) Zcw)) (res:=fun r=> .tup [I r.1,I r.2]) ?_
    refine xQ [(0,.new 2)] [1,2] [2] [] trivial (Zak ?_)
    refine xQ [(0,.call [(false,.ptr false [I l.Nodes,Zbk false l.Edges])] true (Bv true))] [1,2,8] [2] [_∧((false=true→true=true)∧AV.idsL [I l.Nodes,Zbk false l.Edges]=[]∧(Zcn (I l.Nodes)=Zcn (I l.Nodes))∧((false=true→false=true)∧4=4∧l.Edges.length=l.Edges.length∧∀i_,i_<l.Edges.length→(Zdq l.Edges) i_=(Zdq l.Edges) i_∨(AV.idsL ((Zdq l.Edges) i_)=[]∧leL (fun _=>none) false ((Zdq l.Edges) i_) ((Zdq l.Edges) i_)))∧([]:List AV)=[])∧True] ⟨⟨(Ycz l hl),⟨(fun h=>by cases h),rfl,⟨rfl,⟨⟨(fun h=>by cases h),rfl,rfl,fun i _=> .inl rfl⟩,rfl⟩⟩⟩,trivial⟩,trivial⟩ (Zga (Zbd (Zab (Zak (Zak ?_)))))
    by_cases h1:20<(w.size:Int)
    ·have hlg:=tcF_long hl (w:=w) om
     refine x_q [(2,.dec true)] [1,2,11] [2] [_] ⟨h1,trivial⟩ (Zab (Zeh ?_))
     refine xR [] [4,5] [] [I 0,I 3] [] [] trivial (Zdd (Zda ?_))
     refine Zbw (0,3) (show ((3=0∧0=tcF l w∧tcF l w<1099511627776)∨(3=3∧¬ tcF l w<1099511627776))∧(True) from ⟨(by first|exact .inr ⟨rfl,hlg⟩|(rcases htc with q|q;(first|exact .inr ⟨rfl,q.2⟩|omega);(first|exact .inl ⟨rfl,q.2.1,q.2.2⟩|omega))),trivial⟩) (trivial) (.tup [I 0,I 3]) (by kernel_rfl) (.inl rfl) (fun _=>rfl) (fun _=>(by simp [Zai,Zaf]))
    refine x_q [(2,.dec false)] [1,2,11] [2] [_] ⟨h1,trivial⟩ (Zab (Zga (Zbd (Zab (Zak ?_)))))
    obtain ⟨v_1,hx1_0,hc1⟩:=Zsp l w hl om
    have htc:=hx1_0
    refine x_q [(1,.call [(false,.ptr false [I l.Nodes,Zbk false l.Edges]),(true,.any)] true (I v_1))] [6] [] [_∧((false=true→true=true)∧AV.idsL [I l.Nodes,Zbk false l.Edges]=[]∧(Zcn (I l.Nodes)=Zcn (I l.Nodes))∧((false=true→false=true)∧4=4∧l.Edges.length=l.Edges.length∧∀i_,i_<l.Edges.length→(Zdq l.Edges) i_=(Zdq l.Edges) i_∨(AV.idsL ((Zdq l.Edges) i_)=[]∧leL (fun _=>none) false ((Zdq l.Edges) i_) ((Zdq l.Edges) i_)))∧([]:List AV)=[])∧True] ⟨⟨hc1,⟨(fun h=>by cases h),rfl,⟨rfl,⟨⟨(fun h=>by cases h),rfl,rfl,fun i _=> .inl rfl⟩,rfl⟩⟩⟩,trivial⟩,trivial⟩ (Zab (Zak (Zak ?_)))
    by_cases h2:v_1<0
    ·refine x_q [(1,.dec true)] [6,15] [] [_] ⟨h2,trivial⟩ (Zab (Zeh ?_))
     refine xR [] [4,5] [] [I 0,I 3] [] [] trivial (Zdd (Zda ?_))
     refine Zbw (0,3) (show ((3=0∧0=tcF l w∧tcF l w<1099511627776)∨(3=3∧¬ tcF l w<1099511627776))∧(True) from ⟨(by first|exact .inr ⟨rfl,hlg⟩|(rcases htc with q|q;(first|exact .inr ⟨rfl,q.2⟩|omega);(first|exact .inl ⟨rfl,q.2.1,q.2.2⟩|omega))),trivial⟩) (trivial) (.tup [I 0,I 3]) (by kernel_rfl) (.inl rfl) (fun _=>rfl) (fun _=>(by simp [Zai,Zaf]))
    refine x_q [(1,.dec false)] [6,15] [] [_] ⟨h2,trivial⟩ (Zab (Zga (Zbd (Zab ?_))))
    refine xR [] [4,5] [] [I v_1,I 0] [] [] trivial (Zdd ?_)
    refine Zbw (v_1,0) (show ((0=0∧v_1=tcF l w∧tcF l w<1099511627776)∨(0=3∧¬ tcF l w<1099511627776))∧(True) from ⟨(by first|exact .inr ⟨rfl,hlg⟩|(rcases htc with q|q;(first|exact .inr ⟨rfl,q.2⟩|omega);(first|exact .inl ⟨rfl,q.2.1,q.2.2⟩|omega))),trivial⟩) (trivial) (.tup [I v_1,I 0]) (by kernel_rfl) (.inl rfl) (fun _=>rfl) (fun _=>(by simp [Zai,Zaf]))
  obtain ⟨⟨v,c⟩,⟨hh0,_⟩,hc⟩:=hh
  exact ⟨v,c,hh0,hc⟩
theorem Zlf (n:Int):Con Tryz.prog 8 [I n] true (Bv (decide (0≤n∧n≤100000000))):=by
  refine Zcm (fn:=Tryz.f8) (nt:=9) Tryz.func8 rfl rfl rfl rfl (by simp [Zaf,Zai]) fun B hB=> ?_
  refine aQ [] [0] [] [] hB trivial (Zah ?_)
  by_cases h1:0≤n
  ·refine Zeo [(1,.dec true)] [2] [] [Bv (decide (n≤100000000))] [] [_] hB ⟨h1,trivial⟩ (Zac (Zan ?_))
   refine Zao hB (Bv (decide (n≤100000000))) (by kernel_rfl) (.inl (by refine congrArg Bv ?_;first|(symm;exact decide_eq_true om)|exact decide_eq_true om|(symm;exact decide_eq_false om)|exact (decide_eq_decide.2 om)|(simp [*];done))) rfl (fun _=>trivial)
  refine Zeo [(1,.dec false)] [2] [] [Bv false] [] [_] hB ⟨h1,trivial⟩ (Zac (Zan ?_))
  refine Zao hB (Bv false) (by kernel_rfl) (.inl (by refine congrArg Bv ?_;first|(symm;exact decide_eq_true om)|exact decide_eq_true om|(symm;exact decide_eq_false om)|exact (decide_eq_decide.2 om)|(simp [*];done))) rfl (fun _=>trivial)
theorem Zne (s:ByteArray) (hs:Zjh s=true):Con Tryz.prog 66 [Sv s] true (Bv true):=by
  have hw:=Zfv.1 hs
  have hz:=hw.1
  refine Zcm (fn:=Tryz.f66) (nt:=18) Tryz.func66 rfl rfl rfl rfl (by simp [Zaf,Zai]) fun B hB=> ?_
  refine aQ [] [0] [] [] hB trivial (Zah ?_)
  refine aR [] [0,3] [] [Sv s,I 0] [] [] hB trivial (Zbg ?_)
  refine Zdm (fun gn gσ=>∃(i:Int),gn=((s.size:Int)-i).toNat∧(0≤i∧i≤(s.size:Int))∧gσ=mkS [(0,Sv s),(3,I i)] []) (((s.size:Int)-0).toNat) ⟨0,rfl,om,rfl⟩ (fun gn gσ hI=> ?_)
  obtain ⟨i,rfl,hi0,rfl⟩:=hI
  refine Zah (Zah ?_)
  by_cases h1:i<(s.size:Int)
  ·have hi:i.toNat<s.size:=by omega
   have hlt:=hw.2 _ hi
   refine Zbn [(3,.dec true)] [0,3,7] [] [_] hB ⟨h1,trivial⟩ (Zac (Zbr (Zar (Zac (Zah (Zbg ?_))))))
   refine aQ [(3,.call [(true,.any)] true (Bv true))] [0,3,14] [] [(0:Int)≤i∧i<(s.size:Int),Con Tryz.prog 106 [.val (.int .u8 (bAt s i.toNat))] true (Bv true)∧True] hB ⟨⟨om,om⟩,⟨(Zau hlt (Zjz (bAt s i.toNat))),trivial⟩,trivial⟩ (Zbo (Zar (Zbq 1 (Zac ?_))))
   refine Zeo [] [0,3] [] [Sv s,I (i+1)] [] [inR .i64 (i+1)] hB ⟨(Zad om om),trivial⟩ ?_
   exact Zbs _ om ⟨(i+1),rfl,om,rfl⟩
  refine Zbn [(3,.dec false)] [0,3,7] [] [_] hB ⟨h1,trivial⟩ (Zac (Zbo (Zcy (Zam (Zam (Zbi (Zac ?_)))))))
  refine aR [(2,.call [(true,.any),(true,.any),(true,.any)] true (Bv (inB (s.size:Int) 1 10)))] [2] [] [Bv (inB (s.size:Int) 1 10)] [] [_∧True] hB ⟨⟨(Zey (s.size:Int) 1 10),trivial⟩,trivial⟩ (Zan ?_)
  refine Zao hB (Bv (inB (s.size:Int) 1 10)) (by kernel_rfl) (.inl (by first|rfl|(refine congrArg Bv ?_;exact Ziw.2 om)|(refine congrArg Bv ?_;simp [inB];omega))) rfl (fun _=>trivial)
theorem l16Ok_ok (lx:Lexicon) (hx:Zhh lx):Con Tryz.prog 25 [.ptr false [Zav false lx.Entries]] true (Bv true):=by
  have hc:=hx.1
  refine Zcm (fn:=Tryz.f25) (nt:=60) Tryz.func25 rfl rfl rfl rfl (by simp [Zaf,Zai,Zfm]) fun B hB=> ?_
  refine Zck (x:= .ptr false [Zav false lx.Entries]) 0 rfl (fun len_lx=> ?_)
  simp [Zei,Zhv,Ziu,Zde,Zav] at len_lx
  refine aQ [] [0] [] [] hB trivial (Zah ?_)
  refine aR [] [0,3] [] [.ptr false [Zav false lx.Entries],I 0] [] [] hB trivial (Zbg ?_)
  refine Zdm (fun gn gσ=>∃(i:Int),gn=((lx.Entries.length:Int)-i).toNat∧(0≤i∧i≤(lx.Entries.length:Int))∧gσ=mkS [(0,.ptr false [Zav false lx.Entries]),(3,I i)] []) (((lx.Entries.length:Int)-0).toNat) ⟨0,rfl,om,rfl⟩ (fun gn gσ hI=> ?_)
  obtain ⟨i,rfl,hi0,rfl⟩:=hI
  refine Zah (Zah ?_)
  by_cases h1:i<(lx.Entries.length:Int)
  ·have hi:i.toNat<lx.Entries.length:=by omega
   have hen:=hx.2.1 _ (Zca hi)
   have hed:=hen
   refine Zbn [(6,.dec true)] [0,3,11] [] [_] hB ⟨h1,trivial⟩ (Zac (Zbr (Zar (Zac (Zah (Zbg ?_))))))
   refine aQ [] [0,3,4] [] [(0:Int)≤i∧i<(lx.Entries.length:Int)] hB ⟨⟨om,om⟩,trivial⟩ (Zah ?_)
   by_cases h2:0<i
   ·have hpr:=Zrr hx.2.2 (show (i-1).toNat<i.toNat by omega) hi
    have hpa:=(cmpN_w.anti _ _).1 hpr
    refine Zbn [(4,.call [(true,.any)] true (Bv true)),(11,.call [(true,.any),(true,.any),(true,.any)] true (Bv true)),(16,.dec true),(31,.dec false)] [0,3,53] [] [_∧True,Con Tryz.prog 62 [I ((at_ lx.Entries i.toNat).Cost),I 0,I 1000000] true (Bv true)∧True,_,inR .i64 (i-1),(0:Int)≤(i-1)∧(i-1)<(lx.Entries.length:Int),¬ (Zfz ((at_ lx.Entries i.toNat).Word) ((at_ lx.Entries ((i-1).toNat)).Word)=true∨((at_ lx.Entries i.toNat).Word)=((at_ lx.Entries ((i-1).toNat)).Word))] hB ⟨⟨(Zne ((at_ lx.Entries i.toNat).Word) hen.1),trivial⟩,⟨(Zau (Ziw.2 hen.2) (Zey ((at_ lx.Entries i.toNat).Cost) 0 1000000)),trivial⟩,h2,(Zad om om),⟨om,om⟩,(by have q:=Zjx.1 (show Zih _ _<0 from hpr);exact fun z=>z.elim (fun a=>by rw [Zwb q] at a;cases a) (fun a=>Yie q a.symm)),trivial⟩ (Zac (Zbo (Zar (Zbq 1 (Zac ?_)))))
    refine Zeo [] [0,3] [] [.ptr false [Zav false lx.Entries],I (i+1)] [] [inR .i64 (i+1)] hB ⟨(Zad om om),trivial⟩ ?_
    exact Zbs _ om ⟨(i+1),rfl,om,rfl⟩
   refine Zbn [(4,.call [(true,.any)] true (Bv true)),(11,.call [(true,.any),(true,.any),(true,.any)] true (Bv true)),(16,.dec false)] [0,3,53] [] [_∧True,Con Tryz.prog 62 [I ((at_ lx.Entries i.toNat).Cost),I 0,I 1000000] true (Bv true)∧True,_] hB ⟨⟨(Zne ((at_ lx.Entries i.toNat).Word) hen.1),trivial⟩,⟨(Zau (Ziw.2 hen.2) (Zey ((at_ lx.Entries i.toNat).Cost) 0 1000000)),trivial⟩,h2,trivial⟩ (Zac (Zbo (Zar (Zbq 1 (Zac ?_)))))
   refine Zeo [] [0,3] [] [.ptr false [Zav false lx.Entries],I (i+1)] [] [inR .i64 (i+1)] hB ⟨(Zad om om),trivial⟩ ?_
   exact Zbs _ om ⟨(i+1),rfl,om,rfl⟩
  refine Zbn [(6,.dec false)] [0,3,11] [] [_] hB ⟨h1,trivial⟩ (Zac (Zbo (Zcy (Zam (Zam (Zbi (Zac ?_)))))))
  refine aR [(5,.dec true)] [2] [] [Bv true] [] [(lx.Entries.length:Int)≤60] hB ⟨om,trivial⟩ (Zan ?_)
  refine Zao hB (Bv true) (by kernel_rfl) (.inl rfl) rfl (fun _=>trivial)
theorem Yer (lx:Lexicon) (word:ByteArray) (hc:lx.Entries.length≤1000):∃(v:Int),((v=-1∧∀j:Nat,j<lx.Entries.length→(at_ lx.Entries j).Word≠word)∨((0≤v∧v<(lx.Entries.length:Int))∧(at_ lx.Entries v.toNat).Word=word))∧Con Tryz.prog 26 [.ptr false [Zav false lx.Entries],Sv word] true (I v):=by
  have hh:∃r:Int,(((r=-1∧∀j:Nat,j<lx.Entries.length→(at_ lx.Entries j).Word≠word)∨((0≤r∧r<(lx.Entries.length:Int))∧(at_ lx.Entries r.toNat).Word=word))∧(True))∧Zaw Tryz.prog 26 [.ptr false [Zav false lx.Entries],Sv word] (Zae []) true (I r) (Zae []):=by
    refine Zcv (Φ:=fun r:Int=>((r=-1∧∀j:Nat,j<lx.Entries.length→(at_ lx.Entries j).Word≠word)∨((0≤r∧r<(lx.Entries.length:Int))∧(at_ lx.Entries r.toNat).Word=word))∧(True)) [] (fun r=>[]) (fn:=Tryz.f26) (nt:=26) Tryz.func26 rfl rfl (args:=[.ptr false [Zav false lx.Entries],Sv word]) rfl (Zbc (.inl ⟨rfl,by simp [Zai,Zaf,Zfm]⟩) (Zbc (.inl ⟨rfl,trivial⟩) Zcw)) (res:=fun r=>I r) ?_
    refine xQ [] [0,1] [] [] trivial (Zak ?_)
    refine xR [] [0,1,5] [] [.ptr false [Zav false lx.Entries],Sv word,I 0] [] [] trivial (Zbb ?_)
    refine Zdc (X:=Int) (fun x=>mkS [(0,.ptr false [Zav false lx.Entries]),(1,Sv word),(5,I x)] []) (fun x=>(0≤x∧x≤(lx.Entries.length:Int))∧(∀j:Nat,(j:Int)<x→(at_ lx.Entries j).Word≠word)∧True) (fun x=>((lx.Entries.length:Int)-x).toNat) 0 rfl (show (0≤(0:Int)∧(0:Int)≤(lx.Entries.length:Int))∧(∀j:Nat,(j:Int)<(0:Int)→(at_ lx.Entries j).Word≠word)∧True from ⟨om,(by intro j hj;omega),trivial⟩) (fun x hI=> ?_)
    obtain ⟨i,hxx⟩:∃i:Int,i=x:=⟨x,rfl⟩
    subst hxx
    obtain ⟨hi0,hno,_⟩:(0≤i∧i≤(lx.Entries.length:Int))∧(∀j:Nat,(j:Int)<i→(at_ lx.Entries j).Word≠word)∧True:=hI
    show XW _ _ _ _ (mkS [(0,.ptr false [Zav false lx.Entries]),(1,Sv word),(5,I i)] []) _ _
    refine Zak (Zak ?_)
    by_cases h1:i<(lx.Entries.length:Int)
    ·have hi:i.toNat<lx.Entries.length:=by omega
     refine x_q [(6,.dec true)] [0,1,5,12] [] [_] ⟨h1,trivial⟩ (Zab (Zeh (Zbd (Zab (Zak (Zbb (Zak ?_)))))))
     by_cases h2:((at_ lx.Entries i.toNat).Word)=word
     ·refine x_q [(9,.dec true)] [0,1,5,24] [] [(0:Int)≤i∧i<(lx.Entries.length:Int),_] ⟨⟨om,om⟩,h2,trivial⟩ (Zab (Zeh ?_))
      refine xR [] [4] [] [I i] [] [] trivial (Zdd ?_)
      refine Zin (Zda (Zpx (Zin (Zda ?_))))
      refine Zbw i (show ((i=-1∧∀j:Nat,j<lx.Entries.length→(at_ lx.Entries j).Word≠word)∨((0≤i∧i<(lx.Entries.length:Int))∧(at_ lx.Entries i.toNat).Word=word))∧(True) from ⟨(by first|exact .inr ⟨by omega,by assumption⟩|exact .inl ⟨rfl,fun j hj=>hno j om⟩),trivial⟩) (trivial) (I i) (by kernel_rfl) (.inl rfl) (fun _=>rfl) (fun _=>trivial)
     refine x_q [(9,.dec false)] [0,1,5,24] [] [(0:Int)≤i∧i<(lx.Entries.length:Int),_] ⟨⟨om,om⟩,h2,trivial⟩ (Zab (Zga (Zbd (Zba 1 (Zab ?_)))))
     refine x_r [] [0,1,5] [] [.ptr false [Zav false lx.Entries],Sv word,I (i+1)] [] [inR .i64 (i+1)] ⟨(Zad om om),trivial⟩ ?_
     exact Zay (i+1) rfl (show (0≤(i+1)∧(i+1)≤(lx.Entries.length:Int))∧(∀j:Nat,(j:Int)<(i+1)→(at_ lx.Entries j).Word≠word)∧True from ⟨om,(by intro j hj;by_cases ej:j=i.toNat;(subst ej;assumption);exact hno j om),trivial⟩) (by first|(show (((lx.Entries.length:Int)-(i+1)).toNat:Nat)<((lx.Entries.length:Int)-i).toNat;omega)|(dsimp only;omega))
    refine x_r [(6,.dec false)] [0,1,5,12] [] [.ptr false [Zav false lx.Entries],Sv word,I i,Bv false] [] [_] ⟨h1,trivial⟩ (Zab (Zbt rfl (Zcp (Zas ?_))))
    refine Zax ?_
    refine Zat (Zab ?_)
    refine xR [] [4] [] [I (-1)] [] [] trivial (Zdd ?_)
    refine Zbw (-1) (show (((-1)=-1∧∀j:Nat,j<lx.Entries.length→(at_ lx.Entries j).Word≠word)∨((0≤(-1)∧(-1)<(lx.Entries.length:Int))∧(at_ lx.Entries (-1).toNat).Word=word))∧(True) from ⟨(by first|exact .inr ⟨by omega,by assumption⟩|exact .inl ⟨rfl,fun j hj=>hno j om⟩),trivial⟩) (trivial) (I (-1)) (by kernel_rfl) (.inl rfl) (fun _=>rfl) (fun _=>trivial)
  obtain ⟨v,⟨hh0,_⟩,hc⟩:=hh
  exact ⟨v,hh0,hc⟩
theorem Zow (lx:Lexicon) (word:ByteArray) (hx:Zhh lx):∃(v:Int) (c:Int),((c=0∧v=entC lx word∧∃e∈lx.Entries,e.Word=word)∨(c=3∧∀e∈lx.Entries,e.Word≠word))∧Con Tryz.prog 9 [.agg [Zav false lx.Entries],Sv word] true (.tup [I v,I c]):=by
  have hc:=hx.1
  have hh:∃r:Int×Int,(((r.2=0∧r.1=entC lx word∧∃e∈lx.Entries,e.Word=word)∨(r.2=3∧∀e∈lx.Entries,e.Word≠word))∧(True))∧Zaw Tryz.prog 9 [.agg [Zav false lx.Entries],Sv word] (Zae []) true (.tup [I r.1,I r.2]) (Zae []):=by
    refine Zcv (Φ:=fun r:Int×Int=>((r.2=0∧r.1=entC lx word∧∃e∈lx.Entries,e.Word=word)∨(r.2=3∧∀e∈lx.Entries,e.Word≠word))∧(True)) [] (fun r=>[]) (fn:=Tryz.f9) (nt:=19) Tryz.func9 rfl rfl (args:=[.agg [Zav false lx.Entries],Sv word]) rfl (Zbc (.inl ⟨rfl,by simp [Zai,Zaf,Zfm]⟩) (Zbc (.inl ⟨rfl,trivial⟩) Zcw)) (res:=fun r=> .tup [I r.1,I r.2]) ?_
    refine xQ [(0,.new 2)] [1,2] [2] [] trivial (Zak ?_)
    refine xQ [(0,.call [(false,.ptr false [Zav false lx.Entries])] true (Bv true))] [1,2,8] [2] [_∧((false=true→true=true)∧AV.idsL [Zav false lx.Entries]=[]∧((false=true→false=true)∧2=2∧lx.Entries.length=lx.Entries.length∧∀i_,i_<lx.Entries.length→(Zde lx.Entries) i_=(Zde lx.Entries) i_∨(AV.idsL ((Zde lx.Entries) i_)=[]∧leL (fun _=>none) false ((Zde lx.Entries) i_) ((Zde lx.Entries) i_)))∧([]:List AV)=[])∧True] ⟨⟨(l16Ok_ok lx hx),⟨(fun h=>by cases h),rfl,⟨⟨(fun h=>by cases h),rfl,rfl,fun i _=> .inl rfl⟩,rfl⟩⟩,trivial⟩,trivial⟩ (Zga (Zbd (Zab (Zak ?_))))
    obtain ⟨v_1,hx1_0,hc1⟩:=Yer lx word om
    have hfd:=hx1_0
    refine x_q [(1,.call [(false,.ptr false [Zav false lx.Entries]),(true,.any)] true (I v_1))] [2,6] [2] [_∧((false=true→true=true)∧AV.idsL [Zav false lx.Entries]=[]∧((false=true→false=true)∧2=2∧lx.Entries.length=lx.Entries.length∧∀i_,i_<lx.Entries.length→(Zde lx.Entries) i_=(Zde lx.Entries) i_∨(AV.idsL ((Zde lx.Entries) i_)=[]∧leL (fun _=>none) false ((Zde lx.Entries) i_) ((Zde lx.Entries) i_)))∧([]:List AV)=[])∧True] ⟨⟨hc1,⟨(fun h=>by cases h),rfl,⟨⟨(fun h=>by cases h),rfl,rfl,fun i _=> .inl rfl⟩,rfl⟩⟩,trivial⟩,trivial⟩ (Zab (Zak (Zak ?_)))
    by_cases h1:v_1<0
    ·refine x_q [(1,.dec true)] [2,6,12] [2] [_] ⟨h1,trivial⟩ (Zab (Zeh ?_))
     refine xR [] [4,5] [] [I 0,I 3] [] [] trivial (Zdd (Zda ?_))
     refine Zbw (0,3) (show ((3=0∧0=entC lx word∧∃e∈lx.Entries,e.Word=word)∨(3=3∧∀e∈lx.Entries,e.Word≠word))∧(True) from ⟨(by first|(rcases hfd with q|q;omega;exact .inl ⟨rfl,(Yay hx om q.2).symm,_,Zca om,q.2⟩)|(rcases hfd with q|q;(exact .inr ⟨rfl,fun e he z=>by obtain ⟨j,hj,q2⟩:=List.getElem_of_mem he;exact q.2 j hj (by rw [Zea hj,q2];exact z)⟩);omega)),trivial⟩) (trivial) (.tup [I 0,I 3]) (by kernel_rfl) (.inl rfl) (fun _=>rfl) (fun _=>(by simp [Zai,Zaf]))
    refine x_q [(1,.dec false)] [2,6,12] [2] [_] ⟨h1,trivial⟩ (Zab (Zga (Zbd (Zab ?_))))
    refine xR [] [4,5] [] [I ((at_ lx.Entries v_1.toNat).Cost),I 0] [] [(0:Int)≤v_1∧v_1<(lx.Entries.length:Int)] ⟨⟨om,om⟩,trivial⟩ (Zdd ?_)
    refine Zbw ((at_ lx.Entries v_1.toNat).Cost,0) (show ((0=0∧((at_ lx.Entries v_1.toNat).Cost)=entC lx word∧∃e∈lx.Entries,e.Word=word)∨(0=3∧∀e∈lx.Entries,e.Word≠word))∧(True) from ⟨(by first|(rcases hfd with q|q;omega;exact .inl ⟨rfl,(Yay hx om q.2).symm,_,Zca om,q.2⟩)|(rcases hfd with q|q;(exact .inr ⟨rfl,fun e he z=>by obtain ⟨j,hj,q2⟩:=List.getElem_of_mem he;exact q.2 j hj (by rw [Zea hj,q2];exact z)⟩);omega)),trivial⟩) (trivial) (.tup [I ((at_ lx.Entries v_1.toNat).Cost),I 0]) (by kernel_rfl) (.inl rfl) (fun _=>rfl) (fun _=>(by simp [Zai,Zaf]))
  obtain ⟨⟨v,c⟩,⟨hh0,_⟩,hc⟩:=hh
  exact ⟨v,c,hh0,hc⟩
theorem Zmx (a:Int) (b:Int):Con Tryz.prog 67 [I a,I b] true (I (max a b)):=by
  refine Zcm (fn:=Tryz.f67) (nt:=10) Tryz.func67 rfl rfl rfl rfl (by simp [Zaf,Zai]) fun B hB=> ?_
  refine aQ [] [0,1] [] [] hB trivial (Zah (Zah ?_))
  by_cases h1:b<a
  ·refine Zbn [(2,.dec true)] [0,1,7] [] [_] hB ⟨h1,trivial⟩ (Zac (Zbr ?_))
   refine aR [] [4] [] [I a] [] [] hB trivial (Zan (Zaj ?_))
   refine Zao hB (I a) (by kernel_rfl) (.inl (by refine congrArg I ?_;omega)) rfl (fun _=>trivial)
  refine Zbn [(2,.dec false)] [0,1,7] [] [_] hB ⟨h1,trivial⟩ (Zac (Zbo (Zar (Zac ?_))))
  refine aR [] [4] [] [I b] [] [] hB trivial (Zan ?_)
  refine Zao hB (I b) (by kernel_rfl) (.inl (by refine congrArg I ?_;omega)) rfl (fun _=>trivial)
def okF (p:Feat):Bool:=inB p.X 0 255&&(inB p.Y 0 255&&inB p.D 0 7)
theorem Zfn {p:Feat} :okF p=true↔(0≤p.X∧p.X≤255)∧(0≤p.Y∧p.Y≤255)∧(0≤p.D∧p.D≤7):=by simp [okF,inB,and_assoc]
def Zbf (xs:List Feat) (m:Int):Bool:=decide (1≤(xs.length:Int)∧(xs.length:Int)≤m)&&Zng xs.length (fun j=>okF (at_ xs j))
theorem Zdr {xs:List Feat} {m:Int} (h:Zbf xs m=true):1≤xs.length∧(xs.length:Int)≤m:=by
 simp only [Zbf,Bool.and_eq_true,decide_eq_true_eq] at h;omega
theorem Zdk {xs:List Feat} {m:Int} (h:Zbf xs m=true) {j:Nat} (hj:j<xs.length):okF (at_ xs j)=true:=by
 simp only [Zbf,Bool.and_eq_true] at h
 exact Zmw h.2 hj
theorem Zji {xs:List Feat} {m:Int} (h1:1≤xs.length) (h2:(xs.length:Int)≤m) (h:∀z∈xs,okF z=true):Zbf xs m=true:=by
 simp only [Zbf,Bool.and_eq_true,decide_eq_true_eq]
 exact ⟨by omega,Zhe fun j hj=>h _ (Zca hj)⟩
theorem Ztl (s:l00Src) (most:Int) (hs:Zbh s) (ha:s.atx≤3999999999999999000) (hmo:1≤most∧most≤60):∃(v:List Feat) (s':l00Src),(Zbh s')∧(s'.code=s.code)∧(s.atx+0≤s'.atx∧s'.atx≤s.atx+400)∧(Zbf v 72=true)∧((v.length:Int)≤most)∧Zaw Tryz.prog 27 [.ref 7001 0,I most] (Zae [(7001,Zaa s)]) true (Zag true v) (Zae [(7001,Zaa s')]):=by
  have hh:∃r:(List Feat)×l00Src,((Zbh r.2)∧(r.2.code=s.code)∧(s.atx+0≤r.2.atx∧r.2.atx≤s.atx+400)∧(Zbf r.1 72=true)∧((r.1.length:Int)≤most)∧(True))∧Zaw Tryz.prog 27 [.ref 7001 0,I most] (Zae [(7001,Zaa s)]) true (Zag true r.1) (Zae [(7001,Zaa r.2)]):=by
    refine Zcv (Φ:=fun r:(List Feat)×l00Src=>(Zbh r.2)∧(r.2.code=s.code)∧(s.atx+0≤r.2.atx∧r.2.atx≤s.atx+400)∧(Zbf r.1 72=true)∧((r.1.length:Int)≤most)∧(True)) [(7001,Zaa s)] (fun r=>[(7001,Zaa r.2)]) (fn:=Tryz.f27) (nt:=45) Tryz.func27 rfl rfl (args:=[.ref 7001 0,I most]) rfl (Zbc (.inr trivial) (Zbc (.inl ⟨rfl,trivial⟩) Zcw)) (res:=fun r=>Zag true r.1) ?_
    refine xQ [] [0,1] [7001] [] trivial ?_
    refine xQ [(0,.new 9)] [0,1,5] [9,7001] [] trivial (Zak ?_)
    obtain ⟨v_1,s'_1,hx1_0,hx1_1,hx1_2,hx1_3,hc1⟩:=Zcl s 256 (by first|assumption|(simp only [Zbh] at*;simp_all;done)) om
    refine x_q [(1,.lend [(7001,Zaa s,Zaa s'_1)] [] [(true,.any),(true,.any)] true (I v_1))] [0,1,5,6] [9,7001] [Zaw Tryz.prog 28 [.ref 7001 0,I 256] (Zae [(7001,Zaa s)]) true (I v_1) (Zae [(7001,Zaa s'_1)])∧(((Zaa s:Ob)=Zaa s∨Zer Zeg true (Zaa s) (Zaa s))∧Zal false (Zaa s))∧True] ⟨⟨hc1,⟨.inl rfl,(by simp [Zal,Zaf,Zai,Zcx])⟩,trivial⟩,trivial⟩ (Zab (Zak ?_))
    obtain ⟨v_2,s'_2,hx2_0,hx2_1,hx2_2,hx2_3,hc2⟩:=Zcl s'_1 256 (by first|assumption|(simp only [Zbh] at*;simp_all;done)) om
    refine x_q [(1,.lend [(7001,Zaa s'_1,Zaa s'_2)] [] [(true,.any),(true,.any)] true (I v_2))] [0,1,5,6,7] [9,7001] [Zaw Tryz.prog 28 [.ref 7001 0,I 256] (Zae [(7001,Zaa s'_1)]) true (I v_2) (Zae [(7001,Zaa s'_2)])∧(((Zaa s'_1:Ob)=Zaa s'_1∨Zer Zeg true (Zaa s'_1) (Zaa s'_1))∧Zal false (Zaa s'_1))∧True] ⟨⟨hc2,⟨.inl rfl,(by simp [Zal,Zaf,Zai,Zcx])⟩,trivial⟩,trivial⟩ (Zab (Zak (Zak ?_)))
    obtain ⟨v_3,s'_3,hx3_0,hx3_1,hx3_2,hx3_3,hc3⟩:=Zcl s'_2 most (by first|assumption|(simp only [Zbh] at*;simp_all;done)) om
    refine x_r [(2,.lend [(7001,Zaa s'_2,Zaa s'_3)] [] [(true,.any),(true,.any)] true (I v_3))] [0,5,6,7,8] [9,7001] [.ref 7001 0,.arr 9,I v_1,I v_2,I (1+v_3)] [some (.arr 3 0 (Zhu [] 3)),some (Zaa s'_3)] [Zaw Tryz.prog 28 [.ref 7001 0,I most] (Zae [(7001,Zaa s'_2)]) true (I v_3) (Zae [(7001,Zaa s'_3)])∧(((Zaa s'_2:Ob)=Zaa s'_2∨Zer Zeg true (Zaa s'_2) (Zaa s'_2))∧Zal false (Zaa s'_2))∧True,inR .i64 (1+v_3)] ⟨⟨hc3,⟨.inl rfl,(by simp [Zal,Zaf,Zai,Zcx])⟩,trivial⟩,(Zad om om),trivial⟩ (Zab (Zbb ?_))
    refine Zdh [] (T:=[(0,.ref 7001 0),(5,.arr 9),(6,I v_1),(7,I v_2),(8,I (1+v_3))]) (O:=[(9,Zov ([]:List Feat)),(7001,Zaa s'_3)]) rfl (⟨.inl rfl,.inl rfl,.inl rfl,.inl rfl,.inl rfl,trivial⟩) (⟨.inr ⟨rfl,(by first|rfl|(simp;done)|(simp;omega)|omega),fun i_ hi_=>absurd hi_ (Nat.not_lt_zero _)⟩,.inl rfl,trivial⟩) ?_
    refine Zdc (X:=(List Feat)×Int×Int×Int×l00Src) (fun x=>mkS [(0,.ref 7001 0),(5,.arr 9),(6,I x.2.1),(7,I x.2.2.1),(8,I x.2.2.2.1)] [(9,Zov x.1),(7001,Zaa x.2.2.2.2)]) (fun x=>(Zbh x.2.2.2.2∧x.2.2.2.2.code=s.code∧s.atx≤x.2.2.2.2.atx∧x.2.2.2.2.atx≤s.atx+6+6*(most-x.2.2.2.1))∧(0≤x.2.2.2.1∧x.2.2.2.1≤most)∧((x.1.length:Int)+x.2.2.2.1≤most)∧(1≤(x.1.length:Int)+x.2.2.2.1)∧(∀z∈x.1,okF z=true)∧((0≤x.2.1∧x.2.1≤255)∧0≤x.2.2.1∧x.2.2.1≤255)∧True) (fun x=>x.2.2.2.1.toNat) (([]:List Feat),v_1,v_2,(1+v_3),s'_3) rfl (show (Zbh s'_3∧s'_3.code=s.code∧s.atx≤s'_3.atx∧s'_3.atx≤s.atx+6+6*(most-(1+v_3)))∧(0≤(1+v_3)∧(1+v_3)≤most)∧((([]:List Feat).length:Int)+(1+v_3)≤most)∧(1≤(([]:List Feat).length:Int)+(1+v_3))∧(∀z∈([]:List Feat),okF z=true)∧((0≤v_1∧v_1≤255)∧0≤v_2∧v_2≤255)∧True from ⟨(by exact ⟨by assumption,by first|assumption|rfl|(simp only [*];done),by omega,by omega⟩),om,(by simp;omega),(by simp;omega),(by simp),om,trivial⟩) (fun x hI=> ?_)
    obtain ⟨out,x,y,k,src⟩:=x
    obtain ⟨hs0,hk0,hl0,hl1,hz0,hxy,_⟩:(Zbh src∧src.code=s.code∧s.atx≤src.atx∧src.atx≤s.atx+6+6*(most-k))∧(0≤k∧k≤most)∧((out.length:Int)+k≤most)∧(1≤(out.length:Int)+k)∧(∀z∈out,okF z=true)∧((0≤x∧x≤255)∧0≤y∧y≤255)∧True:=hI
    show XW _ _ _ _ (mkS [(0,.ref 7001 0),(5,.arr 9),(6,I x),(7,I y),(8,I k)] [(9,Zov out),(7001,Zaa src)]) _ _
    refine Zak (Zak ?_)
    by_cases h1:0<k
    ·refine x_q [(1,.dec true)] [0,5,6,7,8,19] [9,7001] [_] ⟨h1,trivial⟩ (Zab (Zeh (Zbd (Zab (Zak (Zbb (Zak ?_)))))))
     obtain ⟨v_4,s'_4,hx4_0,hx4_1,hx4_2,hx4_3,hc4⟩:=Zcl src 8 (by first|assumption|(simp only [Zbh] at*;simp_all;done)) om
     refine x_q [(4,.lend [(7001,Zaa src,Zaa s'_4)] [] [(true,.any),(true,.any)] true (I v_4)),(6,.new 28),(7,.new 29)] [0,5,6,7,8] [29,7001] [Zaw Tryz.prog 28 [.ref 7001 0,I 8] (Zae [(7001,Zaa src)]) true (I v_4) (Zae [(7001,Zaa s'_4)])∧(((Zaa src:Ob)=Zaa src∨Zer Zeg true (Zaa src) (Zaa src))∧Zal false (Zaa src))∧True,(out.length+1)*24≤140737488355328] ⟨⟨hc4,⟨.inl rfl,(by simp [Zal,Zaf,Zai,Zcx])⟩,trivial⟩,om,trivial⟩ (Zab (Zak ?_))
     obtain ⟨v_5,s'_5,hx5_0,hx5_1,hx5_2,hx5_3,hc5⟩:=Zcl s'_4 61 (by first|assumption|(simp only [Zbh] at*;simp_all;done)) om
     refine x_q [(2,.lend [(7001,Zaa s'_4,Zaa s'_5)] [] [(true,.any),(true,.any)] true (I v_5)),(5,.call [(true,.any),(true,.any)] true (I (min 255 ((x+v_5)-30)))),(6,.call [(true,.any),(true,.any)] true (I (max 0 (min 255 ((x+v_5)-30)))))] [0,5,6,7,8] [29,7001] [Zaw Tryz.prog 28 [.ref 7001 0,I 61] (Zae [(7001,Zaa s'_4)]) true (I v_5) (Zae [(7001,Zaa s'_5)])∧(((Zaa s'_4:Ob)=Zaa s'_4∨Zer Zeg true (Zaa s'_4) (Zaa s'_4))∧Zal false (Zaa s'_4))∧True,inR .i64 (x+v_5),inR .i64 ((x+v_5)-30),_∧True,_∧True] ⟨⟨hc5,⟨.inl rfl,(by simp [Zal,Zaf,Zai,Zcx])⟩,trivial⟩,(Zad om om),(Zad om om),⟨(Zgf 255 ((x+v_5)-30)),trivial⟩,⟨(Zmx 0 (min 255 ((x+v_5)-30))),trivial⟩,trivial⟩ (Zab ?_)
     obtain ⟨v_6,s'_6,hx6_0,hx6_1,hx6_2,hx6_3,hc6⟩:=Zcl s'_5 61 (by first|assumption|(simp only [Zbh] at*;simp_all;done)) om
     refine x_q [(2,.lend [(7001,Zaa s'_5,Zaa s'_6)] [] [(true,.any),(true,.any)] true (I v_6)),(5,.call [(true,.any),(true,.any)] true (I (min 255 ((y+v_6)-30)))),(6,.call [(true,.any),(true,.any)] true (I (max 0 (min 255 ((y+v_6)-30)))))] [0,5,6,7,8] [29,7001] [Zaw Tryz.prog 28 [.ref 7001 0,I 61] (Zae [(7001,Zaa s'_5)]) true (I v_6) (Zae [(7001,Zaa s'_6)])∧(((Zaa s'_5:Ob)=Zaa s'_5∨Zer Zeg true (Zaa s'_5) (Zaa s'_5))∧Zal false (Zaa s'_5))∧True,inR .i64 (y+v_6),inR .i64 ((y+v_6)-30),_∧True,_∧True] ⟨⟨hc6,⟨.inl rfl,(by simp [Zal,Zaf,Zai,Zcx])⟩,trivial⟩,(Zad om om),(Zad om om),⟨(Zgf 255 ((y+v_6)-30)),trivial⟩,⟨(Zmx 0 (min 255 ((y+v_6)-30))),trivial⟩,trivial⟩ (Zba 1 (Zab ?_))
     refine x_r [] [0,5,6,7,8] [29,7001] [.ref 7001 0,.arr 29,I (max 0 (min 255 ((x+v_5)-30))),I (max 0 (min 255 ((y+v_6)-30))),I (k-1)] [some (.arr 3 (out.length+1) (Zhc out.length (Zej out) (Zhu [I x,I y,I v_4] 3))),some (Zaa s'_6)] [inR .i64 (k-1)] ⟨(Zad om om),trivial⟩ ?_
     refine Zcf [(9,29)] (T:=[(0,.ref 7001 0),(5,.arr 9),(6,I (max 0 (min 255 ((x+v_5)-30)))),(7,I (max 0 (min 255 ((y+v_6)-30)))),(8,I (k-1))]) (O:=[(9,Zov (out++[(Feat.mk x y v_4)])),(7001,Zaa s'_6)]) rfl (⟨.inl rfl,.inl rfl,.inl rfl,.inl rfl,.inl rfl,trivial⟩) (⟨.inr ⟨rfl,(by first|rfl|(simp;done)|(simp;omega)|omega),fun i_ hi_=> .inl (Zec (enc:=Zjs) (xs:=out) rfl i_ hi_)⟩,.inl rfl,trivial⟩) (Zay ((out++[(Feat.mk x y v_4)]),(max 0 (min 255 ((x+v_5)-30))),(max 0 (min 255 ((y+v_6)-30))),(k-1),s'_6) rfl (show (Zbh s'_6∧s'_6.code=s.code∧s.atx≤s'_6.atx∧s'_6.atx≤s.atx+6+6*(most-(k-1)))∧(0≤(k-1)∧(k-1)≤most)∧(((out++[(Feat.mk x y v_4)]).length:Int)+(k-1)≤most)∧(1≤((out++[(Feat.mk x y v_4)]).length:Int)+(k-1))∧(∀z∈(out++[(Feat.mk x y v_4)]),okF z=true)∧((0≤(max 0 (min 255 ((x+v_5)-30)))∧(max 0 (min 255 ((x+v_5)-30)))≤255)∧0≤(max 0 (min 255 ((y+v_6)-30)))∧(max 0 (min 255 ((y+v_6)-30)))≤255)∧True from ⟨(by exact ⟨by assumption,by first|assumption|rfl|(simp only [*];done),by omega,by omega⟩),om,(by simp;omega),(by simp;omega),(by intro z hz;rcases List.mem_append.1 hz with hz|hz;(exact hz0 z hz);(simp only [List.mem_singleton] at hz;subst hz;exact Zfn.2 ⟨by dsimp only;omega,by dsimp only;omega,by dsimp only;omega⟩)),om,trivial⟩) (by first|(show ((k-1).toNat:Nat)<k.toNat;omega)|(dsimp only;omega)))
    refine x_r [(1,.dec false)] [0,5,6,7,8,19] [9,7001] [.ref 7001 0,.arr 9,I x,I y,I k,Bv false] [some (Zov out),some (Zaa src)] [_] ⟨h1,trivial⟩ (Zab (Zbt rfl (Zcp (Zas ?_))))
    refine Zax ?_
    refine Zat (Zab ?_)
    refine xR [] [4] [9,7001] [.arr 9] [some (Zov out),some (Zaa src)] [] trivial (Zdd ?_)
    refine Zbw (out,src) (show (Zbh src)∧(src.code=s.code)∧(s.atx+0≤src.atx∧src.atx≤s.atx+400)∧(Zbf out 72=true)∧((out.length:Int)≤most)∧(True) from ⟨(by first|omega|(simp_all;done)|exact hs0.1|exact hs0.2.1|exact Zji om om hz0),(by first|omega|(simp_all;done)|exact hs0.1|exact hs0.2.1|exact Zji om om hz0),(by first|omega|(simp_all;done)|exact hs0.1|exact hs0.2.1|exact Zji om om hz0),(by first|omega|(simp_all;done)|exact hs0.1|exact hs0.2.1|exact Zji om om hz0),(by first|omega|(simp_all;done)|exact hs0.1|exact hs0.2.1|exact Zji om om hz0),trivial⟩) (⟨.inl rfl,trivial⟩) (.arr 9) (by kernel_rfl) (.inr ⟨(fun _=>rfl),rfl,rfl,fun i _=> .inl rfl⟩) (fun _=>rfl) (fun _=>(Zdx true _))
  obtain ⟨⟨v,s'⟩,⟨hh0,hh1,hh2,hh3,hh4,_⟩,hc⟩:=hh
  exact ⟨v,s',hh0,hh1,hh2,hh3,hh4,hc⟩
theorem Zxz (s:l00Src) (n:Int) (hs:Zbh s) (ha:s.atx≤3999999999999999980):∃(v:Bool) (s':l00Src),(Zbh s')∧(s'.code=s.code)∧(s.atx+0≤s'.atx∧s'.atx≤s.atx+2)∧Zaw Tryz.prog 29 [.ref 7001 0,I n] (Zae [(7001,Zaa s)]) true (Bv v) (Zae [(7001,Zaa s')]):=by
 have hh:∃r:Bool×l00Src,((Zbh r.2)∧(r.2.code=s.code)∧(s.atx+0≤r.2.atx∧r.2.atx≤s.atx+2)∧(True))∧Zaw Tryz.prog 29 [.ref 7001 0,I n] (Zae [(7001,Zaa s)]) true (Bv r.1) (Zae [(7001,Zaa r.2)]):=by
  refine Zcv (Φ:=fun r:Bool×l00Src=>(Zbh r.2)∧(r.2.code=s.code)∧(s.atx+0≤r.2.atx∧r.2.atx≤s.atx+2)∧(True)) [(7001,Zaa s)] (fun r=>[(7001,Zaa r.2)]) (fn:=Tryz.f29) (nt:=9) Tryz.func29 rfl rfl (args:=[.ref 7001 0,I n]) rfl (Zbc (.inr trivial) (Zbc (.inl ⟨rfl,trivial⟩) Zcw)) (res:=fun r=>Bv r.1) ?_
  refine xQ [] [0,1] [7001] [] trivial (Zak ?_)
  obtain ⟨v_1,s'_1,hx1_0,hx1_1,hx1_2,hx1_3,hc1⟩:=Zcl s n (by first|assumption|(simp only [Zbh] at*;simp_all;done)) om
  refine x_r [(2,.lend [(7001,Zaa s,Zaa s'_1)] [] [(true,.any),(true,.any)] true (I v_1))] [4] [7001] [Bv (decide (v_1=0))] [some (Zaa s'_1)] [Zaw Tryz.prog 28 [.ref 7001 0,I n] (Zae [(7001,Zaa s)]) true (I v_1) (Zae [(7001,Zaa s'_1)])∧(((Zaa s:Ob)=Zaa s∨Zer Zeg true (Zaa s) (Zaa s))∧Zal false (Zaa s))∧True] ⟨⟨hc1,⟨.inl rfl,(by simp [Zal,Zaf,Zai,Zcx])⟩,trivial⟩,trivial⟩ (Zab (Zdd ?_))
  refine Zbw (decide (v_1=0),s'_1) (show (Zbh s'_1)∧(s'_1.code=s.code)∧(s.atx+0≤s'_1.atx∧s'_1.atx≤s.atx+2)∧(True) from ⟨(by first|omega|rfl|assumption|(dsimp only;first|omega|rfl|assumption)|(simp only [*];done)|(simp_all;done)),(by first|omega|rfl|assumption|(dsimp only;first|omega|rfl|assumption)|(simp only [*];done)|(simp_all;done)),(by first|omega|rfl|assumption|(dsimp only;first|omega|rfl|assumption)|(simp only [*];done)|(simp_all;done)),trivial⟩) (⟨.inl rfl,trivial⟩) (Bv (decide (v_1=0))) (by kernel_rfl) (.inl rfl) (fun _=>rfl) (fun _=>trivial)
 obtain ⟨⟨v,s'⟩,⟨hh0,hh1,hh2,_⟩,hc⟩:=hh
 exact ⟨v,s',hh0,hh1,hh2,hc⟩
theorem Zrw {xs:List Feat} {k:Nat} {y:Feat} (h:Zbf xs 72=true) (hy:okF y=true):Zbf (xs.set k y) 72=true:=by
 simp only [Zbf,Bool.and_eq_true,decide_eq_true_eq,List.length_set] at h⊢
 refine ⟨h.1,Zhe fun j hj=> ?_⟩
 by_cases e:j=k
 ·subst e;rw [Zdb hj];exact hy
 ·have:=Zmw h.2 hj
  have h':¬ k=j:=fun q=>e q.symm
  have e2:at_ (xs.set k y) j=at_ xs j:=by simp [at_,List.getElem?_set,h']
  rw [e2];exact this
theorem Zsr (code:List Int) (hc:(∀j,j<code.length→0≤at_ code j∧at_ code j≤255)∧code.length≤4611686018427387904):∃(a:List Feat) (lists:List (List Feat)) (band:Int),(Zbf a 72=true)∧(lists.length≤5∧∀l∈lists,Zbf l 72=true)∧(0≤band∧band≤8)∧Con Tryz.prog 10 [Zhw false code] true (.tup [Zag true a,Zbu true lists,I band]):=by
  have hh:∃r:(List Feat)×(List (List Feat))×Int,((Zbf r.1 72=true)∧(r.2.1.length≤5∧∀l∈r.2.1,Zbf l 72=true)∧(0≤r.2.2∧r.2.2≤8)∧(True))∧Zaw Tryz.prog 10 [Zhw false code] (Zae []) true (.tup [Zag true r.1,Zbu true r.2.1,I r.2.2]) (Zae []):=by
    refine Zcv (Φ:=fun r:(List Feat)×(List (List Feat))×Int=>(Zbf r.1 72=true)∧(r.2.1.length≤5∧∀l∈r.2.1,Zbf l 72=true)∧(0≤r.2.2∧r.2.2≤8)∧(True)) [] (fun r=>[]) (fn:=Tryz.f10) (nt:=41) Tryz.func10 rfl rfl (args:=[Zhw false code]) rfl (Zbc (.inl ⟨rfl,Zcx false _⟩) Zcw) (res:=fun r=> .tup [Zag true r.1,Zbu true r.2.1,I r.2.2]) ?_
    refine xQ [] [0] [] [] trivial (Zak ?_)
    obtain ⟨s'_1,hx1_0,hc1⟩:=Znw code
    have hsrc:Zbh s'_1:=⟨by rw [hx1_0.1];exact hc.1,by rw [hx1_0.2];decide,by rw [hx1_0.1];exact hc.2⟩
    have hat0:=hx1_0.2
    refine x_q [(1,.lend [] [(7001,Zaa s'_1)] [(true,.any)] false (.ref 7001 0))] [5] [7001] [Zaw Tryz.prog 17 [Zhw false code] (Zae []) false (.ref 7001 0) (Zae [(7001,Zaa s'_1)])∧True] ⟨⟨hc1,trivial⟩,trivial⟩ (Zab (Zak ?_))
    obtain ⟨v_2,s'_2,hx2_0,hx2_1,hx2_2,hx2_3,hx2_4,hc2⟩:=Ztl s'_1 8 (by first|assumption|(simp only [Zbh] at*;simp_all;done)) om om
    have hofa:Zbf v_2 72=true:=hx2_3
    have hna:=Zdr hofa
    have hf0:=Zfn.1 (Zdk hofa (j:=0) om)
    refine x_q [(1,.lend [(7001,Zaa s'_1,Zaa s'_2)] [] [(true,.any),(true,.any)] true (Zag true v_2))] [5,6] [7001] [Zaw Tryz.prog 27 [.ref 7001 0,I 8] (Zae [(7001,Zaa s'_1)]) true (Zag true v_2) (Zae [(7001,Zaa s'_2)])∧(((Zaa s'_1:Ob)=Zaa s'_1∨Zer Zeg true (Zaa s'_1) (Zaa s'_1))∧Zal false (Zaa s'_1))∧True] ⟨⟨hc2,⟨.inl rfl,(by simp [Zal,Zaf,Zai,Zcx])⟩,trivial⟩,trivial⟩ (Zab ?_)
    refine xQ [(0,.new 14)] [5,6,7] [14,7001] [] trivial (Zak (Zak ?_))
    obtain ⟨v_3,s'_3,hx3_0,hx3_1,hx3_2,hx3_3,hc3⟩:=Zcl s'_2 6 (by first|assumption|(simp only [Zbh] at*;simp_all;done)) om
    refine x_r [(1,.lend [(7001,Zaa s'_2,Zaa s'_3)] [] [(true,.any),(true,.any)] true (I v_3))] [5,6,7,8] [14,7001] [.ref 7001 0,Zag true v_2,.arr 14,I v_3] [some (.arr 1 0 (Zhu [] 1)),some (Zaa s'_3)] [Zaw Tryz.prog 28 [.ref 7001 0,I 6] (Zae [(7001,Zaa s'_2)]) true (I v_3) (Zae [(7001,Zaa s'_3)])∧(((Zaa s'_2:Ob)=Zaa s'_2∨Zer Zeg true (Zaa s'_2) (Zaa s'_2))∧Zal false (Zaa s'_2))∧True] ⟨⟨hc3,⟨.inl rfl,(by simp [Zal,Zaf,Zai,Zcx])⟩,trivial⟩,trivial⟩ (Zab (Zbb ?_))
    refine Zdh [] (T:=[(5,.ref 7001 0),(6,Zag true v_2),(7,.arr 14),(8,I v_3)]) (O:=[(14,Zfo true ([]:List (List Feat))),(7001,Zaa s'_3)]) rfl (⟨.inl rfl,.inl rfl,.inl rfl,.inl rfl,trivial⟩) (⟨.inr ⟨rfl,(by first|rfl|(simp;done)|(simp;omega)|omega),fun i_ hi_=>absurd hi_ (Nat.not_lt_zero _)⟩,.inl rfl,trivial⟩) ?_
    refine Zdc (X:=(List (List Feat))×Int×l00Src) (fun x=>mkS [(5,.ref 7001 0),(6,Zag true v_2),(7,.arr 14),(8,I x.2.1)] [(14,Zfo true x.1),(7001,Zaa x.2.2)]) (fun x=>(Zbh x.2.2∧x.2.2.atx≤1000+600*(5-x.2.1))∧(0≤x.2.1∧x.2.1≤5)∧((x.1.length:Int)+x.2.1≤5)∧(∀l∈x.1,Zbf l 72=true)∧True) (fun x=>x.2.1.toNat) (([]:List (List Feat)),v_3,s'_3) rfl (show (Zbh s'_3∧s'_3.atx≤1000+600*(5-v_3))∧(0≤v_3∧v_3≤5)∧((([]:List (List Feat)).length:Int)+v_3≤5)∧(∀l∈([]:List (List Feat)),Zbf l 72=true)∧True from ⟨(by first|assumption|(constructor<;>first|assumption|omega)),om,(by simp;omega),(by simp),trivial⟩) (fun x hI=> ?_)
    obtain ⟨ls,k,src⟩:=x
    obtain ⟨hs0,hk0,hl0,hz0,_⟩:(Zbh src∧src.atx≤1000+600*(5-k))∧(0≤k∧k≤5)∧((ls.length:Int)+k≤5)∧(∀l∈ls,Zbf l 72=true)∧True:=hI
    show XW _ _ _ _ (mkS [(5,.ref 7001 0),(6,Zag true v_2),(7,.arr 14),(8,I k)] [(14,Zfo true ls),(7001,Zaa src)]) _ _
    refine Zak (Zak ?_)
    by_cases h1:0<k
    ·refine x_q [(1,.dec true)] [5,6,7,8,18] [14,7001] [_] ⟨h1,trivial⟩ (Zab (Zeh (Zbd (Zab (Zak (Zbb (Zak ?_)))))))
     obtain ⟨v_4,s'_4,hx4_0,hx4_1,hx4_2,hx4_3,hx4_4,hc4⟩:=Ztl src 8 (by first|assumption|(simp only [Zbh] at*;simp_all;done)) om om
     have hof:=hx4_3
     refine x_q [(1,.lend [(7001,Zaa src,Zaa s'_4)] [] [(true,.any),(true,.any)] true (Zag true v_4))] [5,6,7,8,9] [14,7001] [Zaw Tryz.prog 27 [.ref 7001 0,I 8] (Zae [(7001,Zaa src)]) true (Zag true v_4) (Zae [(7001,Zaa s'_4)])∧(((Zaa src:Ob)=Zaa src∨Zer Zeg true (Zaa src) (Zaa src))∧Zal false (Zaa src))∧True] ⟨⟨hc4,⟨.inl rfl,(by simp [Zal,Zaf,Zai,Zcx])⟩,trivial⟩,trivial⟩ (Zab (Zak (Zak ?_)))
     obtain ⟨v_5,s'_5,hx5_0,hx5_1,hx5_2,hc5⟩:=Zxz s'_4 2 (by first|assumption|(simp only [Zbh] at*;simp_all;done)) om
     rcases Bool.eq_false_or_eq_true v_5 with h2|h2
     ·subst h2
      refine x_q [(1,.lend [(7001,Zaa s'_4,Zaa s'_5)] [] [(true,.any),(true,.any)] true (Bv true))] [5,6,7,8,9,24] [14,7001] [Zaw Tryz.prog 29 [.ref 7001 0,I 2] (Zae [(7001,Zaa s'_4)]) true (Bv true) (Zae [(7001,Zaa s'_5)])∧(((Zaa s'_4:Ob)=Zaa s'_4∨Zer Zeg true (Zaa s'_4) (Zaa s'_4))∧Zal false (Zaa s'_4))∧True] ⟨⟨hc5,⟨.inl rfl,(by simp [Zal,Zaf,Zai,Zcx])⟩,trivial⟩,trivial⟩ (Zab (Zeh ?_))
      refine xR [(0,.new 25),(2,.new 27)] [5,6,7,8,9] [14,27,7001] [.ref 7001 0,Zag true v_2,.arr 14,I k,.arr 27] [some (Zfo true ls),some (.arr 3 (0+v_2.length) (Zhc 0 (Zhu [] 3) (Zej v_2))),some (Zaa s'_5)] [(0+v_2.length)*24≤140737488355328] ⟨om,trivial⟩ ?_
      refine Zdh [] (T:=[(5,.ref 7001 0),(6,Zag true v_2),(7,.arr 14),(8,I k),(9,.arr 27)]) (O:=[(14,Zfo true ls),(27,Zov v_2),(7001,Zaa s'_5)]) rfl (⟨.inl rfl,.inl rfl,.inl rfl,.inl rfl,.inl rfl,trivial⟩) (⟨.inl rfl,.inr ⟨rfl,(by first|rfl|(simp;done)|(simp;omega)|omega),fun i_ hi_=> .inl (Zpz i_)⟩,.inl rfl,trivial⟩) ?_
      obtain ⟨v_6,s'_6,hx6_0,hx6_1,hx6_2,hx6_3,hc6⟩:=Zcl s'_5 256 (by first|assumption|(simp only [Zbh] at*;simp_all;done)) om
      refine x_r [(2,.lend [(7001,Zaa s'_5,Zaa s'_6)] [] [(true,.any),(true,.any)] true (I v_6))] [5,6,7,8,9] [14,27,7001] [.ref 7001 0,Zag true v_2,.arr 14,I k,.arr 27] [some (Zfo true ls),some (.arr 3 v_2.length (fun q=>bif Nat.beq q 0 then [I ((at_ v_2 0).X),I v_6,I ((at_ v_2 0).D)] else (Zej v_2) q)),some (Zaa s'_6)] [Zaw Tryz.prog 28 [.ref 7001 0,I 256] (Zae [(7001,Zaa s'_5)]) true (I v_6) (Zae [(7001,Zaa s'_6)])∧(((Zaa s'_5:Ob)=Zaa s'_5∨Zer Zeg true (Zaa s'_5) (Zaa s'_5))∧Zal false (Zaa s'_5))∧True,(0:Int)≤0∧0<(v_2.length:Int),0<v_2.length] ⟨⟨hc6,⟨.inl rfl,(by simp [Zal,Zaf,Zai,Zcx])⟩,trivial⟩,⟨om,om⟩,om,trivial⟩ (Zab ?_)
      refine Zdh [] (T:=[(5,.ref 7001 0),(6,Zag true v_2),(7,.arr 14),(8,I k),(9,.arr 27)]) (O:=[(14,Zfo true ls),(27,Zov (v_2.set 0 (Feat.mk ((at_ v_2 0).X) v_6 ((at_ v_2 0).D)))),(7001,Zaa s'_6)]) rfl (⟨.inl rfl,.inl rfl,.inl rfl,.inl rfl,.inl rfl,trivial⟩) (⟨.inl rfl,.inr ⟨rfl,(by first|rfl|(simp;done)|(simp;omega)|omega),fun i_ hi_=> .inl (Zgc (enc:=Zjs) rfl i_ hi_)⟩,.inl rfl,trivial⟩) ?_
      refine Zdh [] (T:=[(5,.ref 7001 0),(6,Zag true v_2),(7,.arr 14),(8,I k),(9,Zag true (v_2.set 0 (Feat.mk ((at_ v_2 0).X) v_6 ((at_ v_2 0).D))))]) (O:=[(14,Zfo true ls),(7001,Zaa s'_6)]) rfl (⟨.inl rfl,.inl rfl,.inl rfl,.inl rfl,.inr ⟨(fun _=>rfl),rfl,rfl,fun i _=> .inl rfl⟩,trivial⟩) (⟨.inl rfl,.inl rfl,trivial⟩) ?_
      refine x_r [(2,.new 35),(3,.new 36)] [5,6,7,8] [36,7001] [.ref 7001 0,Zag true v_2,.arr 36,I k] [some (.arr 1 (ls.length+1) (Zhc ls.length (Zes true ls) (Zhu [Zag true (v_2.set 0 (Feat.mk ((at_ v_2 0).X) v_6 ((at_ v_2 0).D)))] 1))),some (Zaa s'_6)] [(ls.length+1)*24≤140737488355328] ⟨om,trivial⟩ (Zba 1 (Zab ?_))
      refine Zdh [] (T:=[(5,.ref 7001 0),(6,Zag true v_2),(7,.arr 36),(8,I k)]) (O:=[(36,Zfo true (ls++[(v_2.set 0 (Feat.mk ((at_ v_2 0).X) v_6 ((at_ v_2 0).D)))])),(7001,Zaa s'_6)]) rfl (⟨.inl rfl,.inl rfl,.inl rfl,.inl rfl,trivial⟩) (⟨.inr ⟨rfl,(by first|rfl|(simp;done)|(simp;omega)|omega),fun i_ hi_=> .inl (Zec (enc:=(Zlu true)) (xs:=ls) rfl i_ hi_)⟩,.inl rfl,trivial⟩) ?_
      refine x_r [] [5,6,7,8] [36,7001] [.ref 7001 0,Zag true v_2,.arr 36,I (k-1)] [some (Zfo true (ls++[(v_2.set 0 (Feat.mk ((at_ v_2 0).X) v_6 ((at_ v_2 0).D)))])),some (Zaa s'_6)] [inR .i64 (k-1)] ⟨(Zad om om),trivial⟩ ?_
      refine Zcf [(14,36)] (T:=[(5,.ref 7001 0),(6,Zag true v_2),(7,.arr 14),(8,I (k-1))]) (O:=[(14,Zfo true (ls++[(v_2.set 0 (Feat.mk ((at_ v_2 0).X) v_6 ((at_ v_2 0).D)))])),(7001,Zaa s'_6)]) rfl (⟨.inl rfl,.inl rfl,.inl rfl,.inl rfl,trivial⟩) (⟨.inl rfl,.inl rfl,trivial⟩) (Zay ((ls++[(v_2.set 0 (Feat.mk ((at_ v_2 0).X) v_6 ((at_ v_2 0).D)))]),(k-1),s'_6) rfl (show (Zbh s'_6∧s'_6.atx≤1000+600*(5-(k-1)))∧(0≤(k-1)∧(k-1)≤5)∧(((ls++[(v_2.set 0 (Feat.mk ((at_ v_2 0).X) v_6 ((at_ v_2 0).D)))]).length:Int)+(k-1)≤5)∧(∀l∈(ls++[(v_2.set 0 (Feat.mk ((at_ v_2 0).X) v_6 ((at_ v_2 0).D)))]),Zbf l 72=true)∧True from ⟨(by constructor<;>first|assumption|omega),om,(by simp;omega),(by intro l hl;rcases List.mem_append.1 hl with hl|hl;(exact hz0 l hl);(simp only [List.mem_singleton] at hl;subst hl;first|assumption|exact Zrw hofa (Zfn.2 ⟨by dsimp only;omega,by dsimp only;omega,by dsimp only;omega⟩))),trivial⟩) (by first|(show ((k-1).toNat:Nat)<k.toNat;omega)|(dsimp only;omega)))
     subst h2
     refine x_q [(1,.lend [(7001,Zaa s'_4,Zaa s'_5)] [] [(true,.any),(true,.any)] true (Bv false))] [5,6,7,8,9,24] [14,7001] [Zaw Tryz.prog 29 [.ref 7001 0,I 2] (Zae [(7001,Zaa s'_4)]) true (Bv false) (Zae [(7001,Zaa s'_5)])∧(((Zaa s'_4:Ob)=Zaa s'_4∨Zer Zeg true (Zaa s'_4) (Zaa s'_4))∧Zal false (Zaa s'_4))∧True] ⟨⟨hc5,⟨.inl rfl,(by simp [Zal,Zaf,Zai,Zcx])⟩,trivial⟩,trivial⟩ (Zab (Zga (Zbd (Zab ?_))))
     refine x_r [(2,.new 35),(3,.new 36)] [5,6,7,8] [36,7001] [.ref 7001 0,Zag true v_2,.arr 36,I k] [some (.arr 1 (ls.length+1) (Zhc ls.length (Zes true ls) (Zhu [Zag true v_4] 1))),some (Zaa s'_5)] [(ls.length+1)*24≤140737488355328] ⟨om,trivial⟩ (Zba 1 (Zab ?_))
     refine Zdh [] (T:=[(5,.ref 7001 0),(6,Zag true v_2),(7,.arr 36),(8,I k)]) (O:=[(36,Zfo true (ls++[v_4])),(7001,Zaa s'_5)]) rfl (⟨.inl rfl,.inl rfl,.inl rfl,.inl rfl,trivial⟩) (⟨.inr ⟨rfl,(by first|rfl|(simp;done)|(simp;omega)|omega),fun i_ hi_=> .inl (Zec (enc:=(Zlu true)) (xs:=ls) rfl i_ hi_)⟩,.inl rfl,trivial⟩) ?_
     refine x_r [] [5,6,7,8] [36,7001] [.ref 7001 0,Zag true v_2,.arr 36,I (k-1)] [some (Zfo true (ls++[v_4])),some (Zaa s'_5)] [inR .i64 (k-1)] ⟨(Zad om om),trivial⟩ ?_
     refine Zcf [(14,36)] (T:=[(5,.ref 7001 0),(6,Zag true v_2),(7,.arr 14),(8,I (k-1))]) (O:=[(14,Zfo true (ls++[v_4])),(7001,Zaa s'_5)]) rfl (⟨.inl rfl,.inl rfl,.inl rfl,.inl rfl,trivial⟩) (⟨.inl rfl,.inl rfl,trivial⟩) (Zay ((ls++[v_4]),(k-1),s'_5) rfl (show (Zbh s'_5∧s'_5.atx≤1000+600*(5-(k-1)))∧(0≤(k-1)∧(k-1)≤5)∧(((ls++[v_4]).length:Int)+(k-1)≤5)∧(∀l∈(ls++[v_4]),Zbf l 72=true)∧True from ⟨(by constructor<;>first|assumption|omega),om,(by simp;omega),(by intro l hl;rcases List.mem_append.1 hl with hl|hl;(exact hz0 l hl);(simp only [List.mem_singleton] at hl;subst hl;first|assumption|exact Zrw hofa (Zfn.2 ⟨by dsimp only;omega,by dsimp only;omega,by dsimp only;omega⟩))),trivial⟩) (by first|(show ((k-1).toNat:Nat)<k.toNat;omega)|(dsimp only;omega)))
    refine x_r [(1,.dec false)] [5,6,7,8,18] [14,7001] [.ref 7001 0,Zag true v_2,.arr 14,I k,Bv false] [some (Zfo true ls),some (Zaa src)] [_] ⟨h1,trivial⟩ (Zab (Zbt rfl (Zcp (Zas ?_))))
    refine Zax ?_
    refine Zat (Zab (Zak ?_))
    obtain ⟨v_7,s'_7,hx7_0,hx7_1,hx7_2,hx7_3,hc7⟩:=Zcl src 9 (by first|assumption|(simp only [Zbh] at*;simp_all;done)) om
    refine x_r [(3,.lend [(7001,Zaa src,Zaa s'_7)] [] [(true,.any),(true,.any)] true (I v_7))] [2,3,4] [14] [Zag true v_2,.arr 14,I v_7] [some (Zfo true ls)] [Zaw Tryz.prog 28 [.ref 7001 0,I 9] (Zae [(7001,Zaa src)]) true (I v_7) (Zae [(7001,Zaa s'_7)])∧(((Zaa src:Ob)=Zaa src∨Zer Zeg true (Zaa src) (Zaa src))∧Zal false (Zaa src))∧True] ⟨⟨hc7,⟨.inl rfl,(by simp [Zal,Zaf,Zai,Zcx])⟩,trivial⟩,trivial⟩ (Zab (Zdd ?_))
    refine Zbw (v_2,ls,v_7) (show (Zbf v_2 72=true)∧(ls.length≤5∧∀l∈ls,Zbf l 72=true)∧(0≤v_7∧v_7≤8)∧(True) from ⟨(by first|assumption|omega|exact ⟨by omega,hz0⟩),(by first|assumption|omega|exact ⟨by omega,hz0⟩),(by first|assumption|omega|exact ⟨by omega,hz0⟩),trivial⟩) (trivial) (.tup [Zag true v_2,.arr 14,I v_7]) (by kernel_rfl) (.inr ⟨⟨(fun _=>rfl),rfl,rfl,fun i _=> .inl rfl⟩,⟨⟨(fun _=>rfl),rfl,rfl,fun i _=> .inl rfl⟩,⟨rfl,rfl⟩⟩⟩) (fun _=>rfl) (fun _=>(by simp [Zai,Zaf,Zdx,Zmv]))
  obtain ⟨⟨a,lists,band⟩,⟨hh0,hh1,hh2,_⟩,hc⟩:=hh
  exact ⟨a,lists,band,hh0,hh1,hh2,hc⟩
end Go.Proofs.YtomafbpfgpkolaaGreatDoor.Ax
