/- Contracts that the statement FnTop reaches, part 4. No conditions. -/
import Derived.Test.YtomafbpfgpkolaaGreatDoorAxLTop3
import Derived.LaidMore
import Derived.Lay
import Derived.Lib.IndexBytes
import Derived.Lib.ItoaNum
import Derived.Lib.ParseIntBCases
import Derived.Lib.Repeat
import Derived.Lib.SplitLaws
import Derived.OpenShut
import Derived.SevenTiedAt
import Derived.Shelf.Strings.SlTrimAscii
import Derived.Stop.Joined
import Derived.Test.YtomafbpfgpkolaaGreatDoorAxBd
import Derived.Test.YtomafbpfgpkolaaGreatDoorAxR
import Derived.Test.YtomafbpfgpkolaaGreatDoorAxS
import Derived.Test.YtomafbpfgpkolaaGreatDoorAxSF
import Derived.Test.YtomafbpfgpkolaaGreatDoorAxY
import Derived.Test.YtomafbpfgpkolaaGreatDoorSfFndShelf
namespace Go.Proofs.YtomafbpfgpkolaaGreatDoor.Ax
open Go.RowKit Go.ChangeShapes Go.WideShapes
set_option linter.unusedVariables false
set_option linter.unusedSimpArgs false
set_option maxHeartbeats 4000000 in
theorem Yah (a:List Feat) (b:List Feat) (band:Int) (hab:Zte a b) (hbd:0≤band∧band≤1000):∃(out:List Int),(Zsl a b band out (a.length*b.length))∧Con Tryz.prog 77 [Zag false a,Zag false b,I band] true (slI true out):=by
  have hla:=hab.2.2
  have hnm:(a.length:Int)*(b.length:Int)=((a.length*b.length:Nat):Int):=(Int.natCast_mul _ _).symm
  have hnl:=Nat.mul_le_mul hla.1 hla.2
  have hh:∃r:(List Int),((Zsl a b band r (a.length*b.length))∧(True))∧Zaw Tryz.prog 77 [Zag false a,Zag false b,I band] (Zae []) true (slI true r) (Zae []):=by
    refine Zcv (Φ:=fun r:(List Int)=>(Zsl a b band r (a.length*b.length))∧(True)) [] (fun r=>[]) (fn:=Tryz.f77) (nt:=117) Tryz.func77 rfl rfl (args:=[Zag false a,Zag false b,I band]) rfl (Zbc (.inl ⟨rfl,Zdx false _⟩) (Zbc (.inl ⟨rfl,Zdx false _⟩) (Zbc (.inl ⟨rfl,trivial⟩) Zcw))) (res:=fun r=>slI true r) ?_
    refine xQ [] [0,1,2] [] [] trivial ?_
    refine xQ [] [0,1,2,7] [] [] trivial ?_
    refine xQ [] [0,1,2,7,8] [] [] trivial ?_
    refine xQ [(3,.new 20)] [0,1,2,7,8,9] [20] [inR .i64 ((a.length:Int)*(b.length:Int)),(0:Int)≤((a.length:Int)*(b.length:Int))∧(((a.length:Int)*(b.length:Int)):Int)≤((a.length:Int)*(b.length:Int))∧(8:Int)*((a.length:Int)*(b.length:Int))≤281474976710656∧((a.length:Int)*(b.length:Int))≤9223372036854775807] ⟨(Zad om om),⟨om,om,om,om⟩,trivial⟩ (Zak ?_)
    refine xR [] [0,1,2,7,8,9,10] [20] [Zag false a,Zag false b,I band,I (a.length:Int),I (b.length:Int),.arr 20,I 0] [some (.arr 1 (((a.length:Int)*(b.length:Int)).toNat) (fun _=>[I 0]))] [] trivial (Zbb ?_)
    refine Zdh [] (T:=[(0,Zag false a),(1,Zag false b),(2,I band),(7,I (a.length:Int)),(8,I (b.length:Int)),(9,.arr 20),(10,I 0)]) (O:=[(20,tAI (List.replicate (((a.length:Int)*(b.length:Int)).toNat) (0:Int)))]) rfl (⟨.inl rfl,.inl rfl,.inl rfl,.inl rfl,.inl rfl,.inl rfl,.inl rfl,trivial⟩) (⟨.inr ⟨rfl,(by first|rfl|(simp;done)|(simp;omega)|omega),fun i_ hi_=> .inl (Zhy (enc:=cI) rfl i_ hi_)⟩,trivial⟩) ?_
    refine Zdc (X:=Int×(List Int)) (fun x=>mkS [(0,Zag false a),(1,Zag false b),(2,I band),(7,I (a.length:Int)),(8,I (b.length:Int)),(9,.arr 20),(10,I x.1)] [(20,tAI x.2)]) (fun x=>(0≤x.1∧x.1≤(a.length:Int))∧(Zsl a b band x.2 (x.1.toNat*b.length))∧True) (fun x=>((a.length:Int)-x.1).toNat) (0,(List.replicate (((a.length:Int)*(b.length:Int)).toNat) (0:Int))) rfl (show (0≤(0:Int)∧(0:Int)≤(a.length:Int))∧(Zsl a b band (List.replicate (((a.length:Int)*(b.length:Int)).toNat) (0:Int)) ((0:Int).toNat*b.length))∧True from ⟨om,(by exact ⟨by simp;omega,fun p q _ _ hk=>by rw [show (0:Int).toNat=0 from rfl,Nat.zero_mul] at hk;omega⟩),trivial⟩) (fun x hI=> ?_)
    obtain ⟨i,fl⟩:=x
    obtain ⟨hi0,hfl,_⟩:(0≤i∧i≤(a.length:Int))∧(Zsl a b band fl (i.toNat*b.length))∧True:=hI
    show XW _ _ _ _ (mkS [(0,Zag false a),(1,Zag false b),(2,I band),(7,I (a.length:Int)),(8,I (b.length:Int)),(9,.arr 20),(10,I i)] [(20,tAI fl)]) _ _
    refine Zak (Zak ?_)
    by_cases h1:i<(a.length:Int)
    ·have hi:i.toNat<a.length:=by omega
     have hix:((i.toNat:Nat):Int)=i:=by omega
     refine x_q [(2,.dec true)] [0,1,2,7,8,9,10,23] [20] [_] ⟨h1,trivial⟩ (Zab (Zeh (Zbd (Zab (Zak (Zbb ?_))))))
     refine xR [] [0,1,2,7,8,9,10,11] [20] [Zag false a,Zag false b,I band,I (a.length:Int),I (b.length:Int),.arr 20,I i,I 0] [some (tAI fl)] [] trivial (Zbb ?_)
     refine Zdc (X:=Int×(List Int)) (fun x=>mkS [(0,Zag false a),(1,Zag false b),(2,I band),(7,I (a.length:Int)),(8,I (b.length:Int)),(9,.arr 20),(10,I i),(11,I x.1)] [(20,tAI x.2)]) (fun x=>(0≤x.1∧x.1≤(b.length:Int))∧(Zsl a b band x.2 (i.toNat*b.length+x.1.toNat))∧True) (fun x=>((b.length:Int)-x.1).toNat) (0,fl) rfl (show (0≤(0:Int)∧(0:Int)≤(b.length:Int))∧(Zsl a b band fl (i.toNat*b.length+(0:Int).toNat))∧True from ⟨om,(by exact hfl),trivial⟩) (fun x hI=> ?_)
     obtain ⟨j,fl'⟩:=x
     obtain ⟨hj0,hin,_⟩:(0≤j∧j≤(b.length:Int))∧(Zsl a b band fl' (i.toNat*b.length+j.toNat))∧True:=hI
     show XW _ _ _ _ (mkS [(0,Zag false a),(1,Zag false b),(2,I band),(7,I (a.length:Int)),(8,I (b.length:Int)),(9,.arr 20),(10,I i),(11,I j)] [(20,tAI fl')]) _ _
     refine Zak (Zak ?_)
     by_cases h2:j<(b.length:Int)
     ·have hj:j.toNat<b.length:=by omega
      have hjx:((j.toNat:Nat):Int)=j:=by omega
      have hcb:=Zex (hab.1 _ hi) (hab.2.1 _ hj)
      have hsb:=sb_at hab hin hi hj
      rw [hix,hjx] at hsb
      have hol:=hin.1
      have hlt:=Yhl (j:=0) hi hj
      have hpr:i*(b.length:Int)=((i.toNat*b.length:Nat):Int):=by rw [Int.natCast_mul,hix]
      have hpq:(i-1)*(b.length:Int)=((i.toNat*b.length:Nat):Int)-b.length:=by rw [Int.sub_mul,Int.one_mul,hpr]
      have hps:=Nat.mul_le_mul (show i.toNat≤72 by omega) (show b.length≤72 by omega)
      have hpt:1≤i→b.length≤i.toNat*b.length:=fun q=>Nat.le_mul_of_pos_left _ om
      have hka:(i*(b.length:Int)+j).toNat=i.toNat*b.length+j.toNat:=by omega
      have hn1:0<i→0<j→0≤at_ fl' ((i-1)*(b.length:Int)+j-1).toNat:=fun q1 q2=>fl_nn hab hin om om om
      have hn2:0<i→0≤at_ fl' ((i-1)*(b.length:Int)+j).toNat:=fun q1=>fl_nn hab hin om om om
      have hn3:0<j→0≤at_ fl' (i*(b.length:Int)+j-1).toNat:=fun q1=>fl_nn hab hin om om om
      refine x_q [(2,.dec true)] [0,1,2,7,8,9,10,11,28] [20] [_] ⟨h2,trivial⟩ (Zab (Zeh (Zbd (Zab (Zak (Zbb ?_))))))
      refine xR [] [0,1,2,7,8,9,10,11,12] [20] [Zag false a,Zag false b,I band,I (a.length:Int),I (b.length:Int),.arr 20,I i,I j,I 1000000000] [some (tAI fl')] [] trivial ?_
      refine x_cut (X:=Int) (fun x=>mkS [(0,Zag false a),(1,Zag false b),(2,I band),(7,I (a.length:Int)),(8,I (b.length:Int)),(9,.arr 20),(10,I i),(11,I j),(12,I x)] [(20,tAI fl')]) (fun x=>(x=sb0 i j)∧True) ?_ (fun x hI=> ?_)
      ·refine Zak ?_
       by_cases h3:i=0
       ·by_cases h4:j=0
        ·refine x_q [(1,.dec true),(4,.dec true)] [0,1,2,7,8,9,10,11,12,36] [20] [_,_] ⟨h3,h4,trivial⟩ (Zab (Zeh ?_))
         refine x_r [] [0,1,2,7,8,9,10,11,12] [20] [Zag false a,Zag false b,I band,I (a.length:Int),I (b.length:Int),.arr 20,I i,I j,I 0] [some (tAI fl')] [] trivial ?_
         exact Zlq 0 rfl (show (0=sb0 i j)∧True from ⟨(by unfold sb0;split<;>omega),trivial⟩)
        refine x_r [(1,.dec true),(4,.dec false)] [0,1,2,7,8,9,10,11,12,36] [20] [Zag false a,Zag false b,I band,I (a.length:Int),I (b.length:Int),.arr 20,I i,I j,I 1000000000,Bv false] [some (tAI fl')] [_,_] ⟨h3,h4,trivial⟩ (Zab (Zbt rfl (Zbd ?_)))
        refine Zcf [] (T:=[(0,Zag false a),(1,Zag false b),(2,I band),(7,I (a.length:Int)),(8,I (b.length:Int)),(9,.arr 20),(10,I i),(11,I j),(12,I 1000000000)]) (O:=[(20,tAI fl')]) rfl (⟨.inl rfl,.inl rfl,.inl rfl,.inl rfl,.inl rfl,.inl rfl,.inl rfl,.inl rfl,.inl rfl,trivial⟩) (⟨.inl rfl,trivial⟩) (Zlq 1000000000 rfl (show (1000000000=sb0 i j)∧True from ⟨(by unfold sb0;split<;>omega),trivial⟩))
       refine x_r [(1,.dec false)] [0,1,2,7,8,9,10,11,12,36] [20] [Zag false a,Zag false b,I band,I (a.length:Int),I (b.length:Int),.arr 20,I i,I j,I 1000000000,Bv false] [some (tAI fl')] [_] ⟨h3,trivial⟩ (Zab (Zbt rfl (Zbd ?_)))
       refine Zcf [] (T:=[(0,Zag false a),(1,Zag false b),(2,I band),(7,I (a.length:Int)),(8,I (b.length:Int)),(9,.arr 20),(10,I i),(11,I j),(12,I 1000000000)]) (O:=[(20,tAI fl')]) rfl (⟨.inl rfl,.inl rfl,.inl rfl,.inl rfl,.inl rfl,.inl rfl,.inl rfl,.inl rfl,.inl rfl,trivial⟩) (⟨.inl rfl,trivial⟩) (Zlq 1000000000 rfl (show (1000000000=sb0 i j)∧True from ⟨(by unfold sb0;split<;>omega),trivial⟩))
      obtain ⟨q0,hxx⟩:∃q0:Int,q0=x:=⟨x,rfl⟩
      subst hxx
      obtain ⟨hq0,_⟩:(q0=sb0 i j)∧True:=hI
      show XW _ _ _ _ (mkS [(0,Zag false a),(1,Zag false b),(2,I band),(7,I (a.length:Int)),(8,I (b.length:Int)),(9,.arr 20),(10,I i),(11,I j),(12,I q0)] [(20,tAI fl')]) _ _
      refine x_cut (X:=Int) (fun x=>mkS [(0,Zag false a),(1,Zag false b),(2,I band),(7,I (a.length:Int)),(8,I (b.length:Int)),(9,.arr 20),(10,I i),(11,I j),(12,I x)] [(20,tAI fl')]) (fun x=>(x=sb1 fl' b.length i j)∧True) ?_ (fun x hI=> ?_)
      ·refine Zak ?_
       by_cases h5:0<i
       ·by_cases h6:0<j
        ·refine x_q [(1,.dec true),(4,.dec true)] [0,1,2,7,8,9,10,11,12,42] [20] [_,_] ⟨h5,h6,trivial⟩ (Zab (Zeh ?_))
         refine x_r [(11,.call [(true,.any),(true,.any)] true (I (min q0 (at_ fl' (((((i-1)*(b.length:Int))+j)-1).toNat)))))] [0,1,2,7,8,9,10,11,12] [20] [Zag false a,Zag false b,I band,I (a.length:Int),I (b.length:Int),.arr 20,I i,I j,I (min q0 (at_ fl' (((((i-1)*(b.length:Int))+j)-1).toNat)))] [some (tAI fl')] [inR .i64 (i-1),inR .i64 ((i-1)*(b.length:Int)),inR .i64 (((i-1)*(b.length:Int))+j),inR .i64 ((((i-1)*(b.length:Int))+j)-1),(0:Int)≤((((i-1)*(b.length:Int))+j)-1)∧((((i-1)*(b.length:Int))+j)-1)<(fl'.length:Int),((((i-1)*(b.length:Int))+j)-1).toNat<fl'.length,_∧True] ⟨(Zad om om),(Zad om om),(Zad om om),(Zad om om),⟨om,om⟩,om,⟨(Zgf q0 (at_ fl' (((((i-1)*(b.length:Int))+j)-1).toNat))),trivial⟩,trivial⟩ ?_
         exact Zlq (min q0 (at_ fl' (((((i-1)*(b.length:Int))+j)-1).toNat))) rfl (show ((min q0 (at_ fl' (((((i-1)*(b.length:Int))+j)-1).toNat)))=sb1 fl' b.length i j)∧True from ⟨(by unfold sb1;split<;>omega),trivial⟩)
        refine x_r [(1,.dec true),(4,.dec false)] [0,1,2,7,8,9,10,11,12,42] [20] [Zag false a,Zag false b,I band,I (a.length:Int),I (b.length:Int),.arr 20,I i,I j,I q0,Bv false] [some (tAI fl')] [_,_] ⟨h5,h6,trivial⟩ (Zab (Zbt rfl (Zbd ?_)))
        refine Zcf [] (T:=[(0,Zag false a),(1,Zag false b),(2,I band),(7,I (a.length:Int)),(8,I (b.length:Int)),(9,.arr 20),(10,I i),(11,I j),(12,I q0)]) (O:=[(20,tAI fl')]) rfl (⟨.inl rfl,.inl rfl,.inl rfl,.inl rfl,.inl rfl,.inl rfl,.inl rfl,.inl rfl,.inl rfl,trivial⟩) (⟨.inl rfl,trivial⟩) (Zlq q0 rfl (show (q0=sb1 fl' b.length i j)∧True from ⟨(by unfold sb1;split<;>omega),trivial⟩))
       refine x_r [(1,.dec false)] [0,1,2,7,8,9,10,11,12,42] [20] [Zag false a,Zag false b,I band,I (a.length:Int),I (b.length:Int),.arr 20,I i,I j,I q0,Bv false] [some (tAI fl')] [_] ⟨h5,trivial⟩ (Zab (Zbt rfl (Zbd ?_)))
       refine Zcf [] (T:=[(0,Zag false a),(1,Zag false b),(2,I band),(7,I (a.length:Int)),(8,I (b.length:Int)),(9,.arr 20),(10,I i),(11,I j),(12,I q0)]) (O:=[(20,tAI fl')]) rfl (⟨.inl rfl,.inl rfl,.inl rfl,.inl rfl,.inl rfl,.inl rfl,.inl rfl,.inl rfl,.inl rfl,trivial⟩) (⟨.inl rfl,trivial⟩) (Zlq q0 rfl (show (q0=sb1 fl' b.length i j)∧True from ⟨(by unfold sb1;split<;>omega),trivial⟩))
      obtain ⟨q1,hxx⟩:∃q1:Int,q1=x:=⟨x,rfl⟩
      subst hxx
      obtain ⟨hq1,_⟩:(q1=sb1 fl' b.length i j)∧True:=hI
      show XW _ _ _ _ (mkS [(0,Zag false a),(1,Zag false b),(2,I band),(7,I (a.length:Int)),(8,I (b.length:Int)),(9,.arr 20),(10,I i),(11,I j),(12,I q1)] [(20,tAI fl')]) _ _
      refine x_cut (X:=Int) (fun x=>mkS [(0,Zag false a),(1,Zag false b),(2,I band),(7,I (a.length:Int)),(8,I (b.length:Int)),(9,.arr 20),(10,I i),(11,I j),(12,I x)] [(20,tAI fl')]) (fun x=>(x=sb2 fl' b.length i j)∧True) ?_ (fun x hI=> ?_)
      ·refine Zak ?_
       by_cases h7:0<i
       ·refine x_q [(1,.dec true)] [0,1,2,7,8,9,10,11,12,56] [20] [_] ⟨h7,trivial⟩ (Zab (Zeh ?_))
        refine x_r [(10,.call [(true,.any),(true,.any)] true (I (min q1 (at_ fl' ((((i-1)*(b.length:Int))+j).toNat)))))] [0,1,2,7,8,9,10,11,12] [20] [Zag false a,Zag false b,I band,I (a.length:Int),I (b.length:Int),.arr 20,I i,I j,I (min q1 (at_ fl' ((((i-1)*(b.length:Int))+j).toNat)))] [some (tAI fl')] [inR .i64 (i-1),inR .i64 ((i-1)*(b.length:Int)),inR .i64 (((i-1)*(b.length:Int))+j),(0:Int)≤(((i-1)*(b.length:Int))+j)∧(((i-1)*(b.length:Int))+j)<(fl'.length:Int),(((i-1)*(b.length:Int))+j).toNat<fl'.length,_∧True] ⟨(Zad om om),(Zad om om),(Zad om om),⟨om,om⟩,om,⟨(Zgf q1 (at_ fl' ((((i-1)*(b.length:Int))+j).toNat))),trivial⟩,trivial⟩ ?_
        exact Zlq (min q1 (at_ fl' ((((i-1)*(b.length:Int))+j).toNat))) rfl (show ((min q1 (at_ fl' ((((i-1)*(b.length:Int))+j).toNat)))=sb2 fl' b.length i j)∧True from ⟨(by unfold sb2;split<;>omega),trivial⟩)
       refine x_r [(1,.dec false)] [0,1,2,7,8,9,10,11,12,56] [20] [Zag false a,Zag false b,I band,I (a.length:Int),I (b.length:Int),.arr 20,I i,I j,I q1,Bv false] [some (tAI fl')] [_] ⟨h7,trivial⟩ (Zab (Zbt rfl (Zbd ?_)))
       refine Zcf [] (T:=[(0,Zag false a),(1,Zag false b),(2,I band),(7,I (a.length:Int)),(8,I (b.length:Int)),(9,.arr 20),(10,I i),(11,I j),(12,I q1)]) (O:=[(20,tAI fl')]) rfl (⟨.inl rfl,.inl rfl,.inl rfl,.inl rfl,.inl rfl,.inl rfl,.inl rfl,.inl rfl,.inl rfl,trivial⟩) (⟨.inl rfl,trivial⟩) (Zlq q1 rfl (show (q1=sb2 fl' b.length i j)∧True from ⟨(by unfold sb2;split<;>omega),trivial⟩))
      obtain ⟨q2,hxx⟩:∃q2:Int,q2=x:=⟨x,rfl⟩
      subst hxx
      obtain ⟨hq2,_⟩:(q2=sb2 fl' b.length i j)∧True:=hI
      show XW _ _ _ _ (mkS [(0,Zag false a),(1,Zag false b),(2,I band),(7,I (a.length:Int)),(8,I (b.length:Int)),(9,.arr 20),(10,I i),(11,I j),(12,I q2)] [(20,tAI fl')]) _ _
      refine x_cut (X:=Int) (fun x=>mkS [(0,Zag false a),(1,Zag false b),(2,I band),(7,I (a.length:Int)),(8,I (b.length:Int)),(9,.arr 20),(10,I i),(11,I j),(12,I x)] [(20,tAI fl')]) (fun x=>(x=sb3 fl' b.length i j)∧True) ?_ (fun x hI=> ?_)
      ·refine Zak ?_
       by_cases h8:0<j
       ·refine x_q [(1,.dec true)] [0,1,2,7,8,9,10,11,12,69] [20] [_] ⟨h8,trivial⟩ (Zab (Zeh ?_))
        refine x_r [(10,.call [(true,.any),(true,.any)] true (I (min q2 (at_ fl' ((((i*(b.length:Int))+j)-1).toNat)))))] [0,1,2,7,8,9,10,11,12] [20] [Zag false a,Zag false b,I band,I (a.length:Int),I (b.length:Int),.arr 20,I i,I j,I (min q2 (at_ fl' ((((i*(b.length:Int))+j)-1).toNat)))] [some (tAI fl')] [inR .i64 (i*(b.length:Int)),inR .i64 ((i*(b.length:Int))+j),inR .i64 (((i*(b.length:Int))+j)-1),(0:Int)≤(((i*(b.length:Int))+j)-1)∧(((i*(b.length:Int))+j)-1)<(fl'.length:Int),(((i*(b.length:Int))+j)-1).toNat<fl'.length,_∧True] ⟨(Zad om om),(Zad om om),(Zad om om),⟨om,om⟩,om,⟨(Zgf q2 (at_ fl' ((((i*(b.length:Int))+j)-1).toNat))),trivial⟩,trivial⟩ ?_
        exact Zlq (min q2 (at_ fl' ((((i*(b.length:Int))+j)-1).toNat))) rfl (show ((min q2 (at_ fl' ((((i*(b.length:Int))+j)-1).toNat)))=sb3 fl' b.length i j)∧True from ⟨(by unfold sb3;split<;>omega),trivial⟩)
       refine x_r [(1,.dec false)] [0,1,2,7,8,9,10,11,12,69] [20] [Zag false a,Zag false b,I band,I (a.length:Int),I (b.length:Int),.arr 20,I i,I j,I q2,Bv false] [some (tAI fl')] [_] ⟨h8,trivial⟩ (Zab (Zbt rfl (Zbd ?_)))
       refine Zcf [] (T:=[(0,Zag false a),(1,Zag false b),(2,I band),(7,I (a.length:Int)),(8,I (b.length:Int)),(9,.arr 20),(10,I i),(11,I j),(12,I q2)]) (O:=[(20,tAI fl')]) rfl (⟨.inl rfl,.inl rfl,.inl rfl,.inl rfl,.inl rfl,.inl rfl,.inl rfl,.inl rfl,.inl rfl,trivial⟩) (⟨.inl rfl,trivial⟩) (Zlq q2 rfl (show (q2=sb3 fl' b.length i j)∧True from ⟨(by unfold sb3;split<;>omega),trivial⟩))
      obtain ⟨q3,hxx⟩:∃q3:Int,q3=x:=⟨x,rfl⟩
      subst hxx
      obtain ⟨hq3,_⟩:(q3=sb3 fl' b.length i j)∧True:=hI
      show XW _ _ _ _ (mkS [(0,Zag false a),(1,Zag false b),(2,I band),(7,I (a.length:Int)),(8,I (b.length:Int)),(9,.arr 20),(10,I i),(11,I j),(12,I q3)] [(20,tAI fl')]) _ _
      refine Zak ?_
      by_cases h9:q3=1000000000
      ·refine x_q [(1,.dec true)] [0,1,2,7,8,9,10,11,12,90] [20] [_] ⟨h9,trivial⟩ (Zab (Zeh ?_))
       refine x_r [] [0,1,2,7,8,9,10,11] [20] [Zag false a,Zag false b,I band,I (a.length:Int),I (b.length:Int),.arr 20,I i,I j] [some (.arr 1 fl'.length (fun q=>bif Nat.beq q (((i*(b.length:Int))+j).toNat) then [I 1000000000] else (fI fl') q))] [inR .i64 (i*(b.length:Int)),inR .i64 ((i*(b.length:Int))+j),(0:Int)≤((i*(b.length:Int))+j)∧((i*(b.length:Int))+j)<(fl'.length:Int),((i*(b.length:Int))+j).toNat<fl'.length] ⟨(Zad om om),(Zad om om),⟨om,om⟩,om,trivial⟩ (Zba 3 (Zab ?_))
       refine Zdh [] (T:=[(0,Zag false a),(1,Zag false b),(2,I band),(7,I (a.length:Int)),(8,I (b.length:Int)),(9,.arr 20),(10,I i),(11,I j)]) (O:=[(20,tAI (fl'.set (((i*(b.length:Int))+j).toNat) 1000000000))]) rfl (⟨.inl rfl,.inl rfl,.inl rfl,.inl rfl,.inl rfl,.inl rfl,.inl rfl,.inl rfl,trivial⟩) (⟨.inr ⟨rfl,(by first|rfl|(simp;done)|(simp;omega)|omega),fun i_ hi_=> .inl (Zgc (enc:=cI) rfl i_ hi_)⟩,trivial⟩) ?_
       refine x_r [] [0,1,2,7,8,9,10,11] [20] [Zag false a,Zag false b,I band,I (a.length:Int),I (b.length:Int),.arr 20,I i,I (j+1)] [some (tAI (fl'.set (((i*(b.length:Int))+j).toNat) 1000000000))] [inR .i64 (j+1)] ⟨(Zad om om),trivial⟩ ?_
       exact Zay ((j+1),(fl'.set (((i*(b.length:Int))+j).toNat) 1000000000)) rfl (show (0≤(j+1)∧(j+1)≤(b.length:Int))∧(Zsl a b band (fl'.set (((i*(b.length:Int))+j).toNat) 1000000000) (i.toNat*b.length+(j+1).toNat))∧True from ⟨om,(by rw [show (j+1).toNat=j.toNat+1 from by omega];exact Yai hin hi hj hka (by rw [hsb.2,←hq3];split<;>omega)),trivial⟩) (by first|(show (((b.length:Int)-(j+1)).toNat:Nat)<((b.length:Int)-j).toNat;omega)|(dsimp only;omega))
      by_cases h10:band<((i-j).natAbs:Int)
      ·refine x_q [(1,.dec false),(6,.call [(true,.any)] true (I ((i-j).natAbs:Int))),(8,.dec true)] [0,1,2,7,8,9,10,11,12,90] [20] [_,inR .i64 (i-j),_∧True,_] ⟨h9,(Zad om om),⟨(Zht (i-j) om),trivial⟩,h10,trivial⟩ (Zab (Zeh ?_))
       refine x_r [] [0,1,2,7,8,9,10,11] [20] [Zag false a,Zag false b,I band,I (a.length:Int),I (b.length:Int),.arr 20,I i,I j] [some (.arr 1 fl'.length (fun q=>bif Nat.beq q (((i*(b.length:Int))+j).toNat) then [I 1000000000] else (fI fl') q))] [inR .i64 (i*(b.length:Int)),inR .i64 ((i*(b.length:Int))+j),(0:Int)≤((i*(b.length:Int))+j)∧((i*(b.length:Int))+j)<(fl'.length:Int),((i*(b.length:Int))+j).toNat<fl'.length] ⟨(Zad om om),(Zad om om),⟨om,om⟩,om,trivial⟩ (Zba 3 (Zab ?_))
       refine Zdh [] (T:=[(0,Zag false a),(1,Zag false b),(2,I band),(7,I (a.length:Int)),(8,I (b.length:Int)),(9,.arr 20),(10,I i),(11,I j)]) (O:=[(20,tAI (fl'.set (((i*(b.length:Int))+j).toNat) 1000000000))]) rfl (⟨.inl rfl,.inl rfl,.inl rfl,.inl rfl,.inl rfl,.inl rfl,.inl rfl,.inl rfl,trivial⟩) (⟨.inr ⟨rfl,(by first|rfl|(simp;done)|(simp;omega)|omega),fun i_ hi_=> .inl (Zgc (enc:=cI) rfl i_ hi_)⟩,trivial⟩) ?_
       refine x_r [] [0,1,2,7,8,9,10,11] [20] [Zag false a,Zag false b,I band,I (a.length:Int),I (b.length:Int),.arr 20,I i,I (j+1)] [some (tAI (fl'.set (((i*(b.length:Int))+j).toNat) 1000000000))] [inR .i64 (j+1)] ⟨(Zad om om),trivial⟩ ?_
       exact Zay ((j+1),(fl'.set (((i*(b.length:Int))+j).toNat) 1000000000)) rfl (show (0≤(j+1)∧(j+1)≤(b.length:Int))∧(Zsl a b band (fl'.set (((i*(b.length:Int))+j).toNat) 1000000000) (i.toNat*b.length+(j+1).toNat))∧True from ⟨om,(by rw [show (j+1).toNat=j.toNat+1 from by omega];exact Yai hin hi hj hka (by rw [hsb.2,←hq3];split<;>omega)),trivial⟩) (by first|(show (((b.length:Int)-(j+1)).toNat:Nat)<((b.length:Int)-j).toNat;omega)|(dsimp only;omega))
      refine x_q [(1,.dec false),(6,.call [(true,.any)] true (I ((i-j).natAbs:Int))),(8,.dec false)] [0,1,2,7,8,9,10,11,12,90] [20] [_,inR .i64 (i-j),_∧True,_] ⟨h9,(Zad om om),⟨(Zht (i-j) om),trivial⟩,h10,trivial⟩ (Zab (Zga ?_))
      refine x_r [(15,.call [(true,.any),(true,.any)] true (I (Zcb (at_ a i.toNat) (at_ b j.toNat))))] [0,1,2,7,8,9,10,11] [20] [Zag false a,Zag false b,I band,I (a.length:Int),I (b.length:Int),.arr 20,I i,I j] [some (.arr 1 fl'.length (fun q=>bif Nat.beq q (((i*(b.length:Int))+j).toNat) then [I (q3+(Zcb (at_ a i.toNat) (at_ b j.toNat)))] else (fI fl') q))] [inR .i64 (i*(b.length:Int)),inR .i64 ((i*(b.length:Int))+j),(0:Int)≤i∧i<(a.length:Int),(0:Int)≤j∧j<(b.length:Int),_∧True,inR .i64 (q3+(Zcb (at_ a i.toNat) (at_ b j.toNat))),(0:Int)≤((i*(b.length:Int))+j)∧((i*(b.length:Int))+j)<(fl'.length:Int),((i*(b.length:Int))+j).toNat<fl'.length] ⟨(Zad om om),(Zad om om),⟨om,om⟩,⟨om,om⟩,⟨(Yee (at_ a i.toNat) (at_ b j.toNat) (by first|exact hab.1 _ om|exact hab.2.1 _ om) (by first|exact hab.1 _ om|exact hab.2.1 _ om)),trivial⟩,(Zad om om),⟨om,om⟩,om,trivial⟩ (Zba 3 (Zab ?_))
      refine Zdh [] (T:=[(0,Zag false a),(1,Zag false b),(2,I band),(7,I (a.length:Int)),(8,I (b.length:Int)),(9,.arr 20),(10,I i),(11,I j)]) (O:=[(20,tAI (fl'.set (((i*(b.length:Int))+j).toNat) (q3+(Zcb (at_ a i.toNat) (at_ b j.toNat)))))]) rfl (⟨.inl rfl,.inl rfl,.inl rfl,.inl rfl,.inl rfl,.inl rfl,.inl rfl,.inl rfl,trivial⟩) (⟨.inr ⟨rfl,(by first|rfl|(simp;done)|(simp;omega)|omega),fun i_ hi_=> .inl (Zgc (enc:=cI) rfl i_ hi_)⟩,trivial⟩) ?_
      refine x_r [] [0,1,2,7,8,9,10,11] [20] [Zag false a,Zag false b,I band,I (a.length:Int),I (b.length:Int),.arr 20,I i,I (j+1)] [some (tAI (fl'.set (((i*(b.length:Int))+j).toNat) (q3+(Zcb (at_ a i.toNat) (at_ b j.toNat)))))] [inR .i64 (j+1)] ⟨(Zad om om),trivial⟩ ?_
      exact Zay ((j+1),(fl'.set (((i*(b.length:Int))+j).toNat) (q3+(Zcb (at_ a i.toNat) (at_ b j.toNat))))) rfl (show (0≤(j+1)∧(j+1)≤(b.length:Int))∧(Zsl a b band (fl'.set (((i*(b.length:Int))+j).toNat) (q3+(Zcb (at_ a i.toNat) (at_ b j.toNat)))) (i.toNat*b.length+(j+1).toNat))∧True from ⟨om,(by rw [show (j+1).toNat=j.toNat+1 from by omega];exact Yai hin hi hj hka (by rw [hsb.2,←hq3];split<;>omega)),trivial⟩) (by first|(show (((b.length:Int)-(j+1)).toNat:Nat)<((b.length:Int)-j).toNat;omega)|(dsimp only;omega))
     have hje:j.toNat=b.length:=by omega
     refine x_r [(2,.dec false)] [0,1,2,7,8,9,10,11,28] [20] [Zag false a,Zag false b,I band,I (a.length:Int),I (b.length:Int),.arr 20,I i,I j,Bv false] [some (tAI fl')] [_] ⟨h2,trivial⟩ (Zab (Zbt rfl (Zcp (Zas ?_))))
     refine Zax ?_
     refine Zat (Zba 1 (Zab ?_))
     refine x_r [] [0,1,2,7,8,9,10] [20] [Zag false a,Zag false b,I band,I (a.length:Int),I (b.length:Int),.arr 20,I (i+1)] [some (tAI fl')] [inR .i64 (i+1)] ⟨(Zad om om),trivial⟩ ?_
     exact Zay ((i+1),fl') rfl (show (0≤(i+1)∧(i+1)≤(a.length:Int))∧(Zsl a b band fl' ((i+1).toNat*b.length))∧True from ⟨om,(by rw [show (i+1).toNat=i.toNat+1 from by omega];exact fl_done hin hje),trivial⟩) (by first|(show (((a.length:Int)-(i+1)).toNat:Nat)<((a.length:Int)-i).toNat;omega)|(dsimp only;omega))
    have hie:i.toNat=a.length:=by omega
    rw [hie] at hfl
    refine x_r [(2,.dec false)] [0,1,2,7,8,9,10,23] [20] [Zag false a,Zag false b,I band,I (a.length:Int),I (b.length:Int),.arr 20,I i,Bv false] [some (tAI fl)] [_] ⟨h1,trivial⟩ (Zab (Zbt rfl (Zcp (Zas ?_))))
    refine Zax ?_
    refine Zat (Zab ?_)
    refine xR [] [6] [20] [.arr 20] [some (tAI fl)] [] trivial (Zdd ?_)
    refine Zbw fl (show (Zsl a b band fl (a.length*b.length))∧(True) from ⟨(by first|assumption|exact hfl),trivial⟩) (trivial) (.arr 20) (by kernel_rfl) (.inr ⟨(fun _=>rfl),rfl,rfl,fun i _=> .inl rfl⟩) (fun _=>rfl) (fun _=>(Ydy true _))
  obtain ⟨out,⟨hh0,_⟩,hc⟩:=hh
  exact ⟨out,hh0,hc⟩
theorem Yaj (a:List Feat) (b:List Feat) (band:Int) (hab:Zte a b) (hbd:0≤band∧band≤1000) (h1:1≤a.length∧1≤b.length):∃(v:Int),(v=cv Zgi a b band (a.length-1) (b.length-1))∧Con Tryz.prog 36 [Zag false a,Zag false b,I band] true (I v):=by
 have hh:∃r:Int,((r=cv Zgi a b band (a.length-1) (b.length-1))∧(True))∧Zaw Tryz.prog 36 [Zag false a,Zag false b,I band] (Zae []) true (I r) (Zae []):=by
  refine Zcv (Φ:=fun r:Int=>(r=cv Zgi a b band (a.length-1) (b.length-1))∧(True)) [] (fun r=>[]) (fn:=Tryz.f36) (nt:=18) Tryz.func36 rfl rfl (args:=[Zag false a,Zag false b,I band]) rfl (Zbc (.inl ⟨rfl,Zdx false _⟩) (Zbc (.inl ⟨rfl,Zdx false _⟩) (Zbc (.inl ⟨rfl,trivial⟩) Zcw))) (res:=fun r=>I r) ?_
  refine xQ [] [0,1,2] [] [] trivial (Zak ?_)
  obtain ⟨out_1,hx1_0,hc1⟩:=Yah a b band hab om
  have hls:=fl_last hx1_0 h1.1 h1.2
  have hlq:=Nat.mul_le_mul hab.2.2.1 hab.2.2.2
  rw [←hx1_0.1] at hlq
  refine x_q [(3,.call [(true,.any),(true,.any),(true,.any)] true (slI true out_1))] [7] [] [_∧True] ⟨⟨hc1,trivial⟩,trivial⟩ (Zab ?_)
  refine xR [] [6] [] [I (at_ out_1 (((out_1.length:Int)-1).toNat))] [] [inR .i64 ((out_1.length:Int)-1),(0:Int)≤((out_1.length:Int)-1)∧((out_1.length:Int)-1)<(out_1.length:Int)] ⟨(Zad om om),⟨om,om⟩,trivial⟩ (Zdd ?_)
  refine Zbw (at_ out_1 (((out_1.length:Int)-1).toNat)) (show ((at_ out_1 (((out_1.length:Int)-1).toNat))=cv Zgi a b band (a.length-1) (b.length-1))∧(True) from ⟨(by (rw [←hls.1];congr 1;omega)),trivial⟩) (trivial) (I (at_ out_1 (((out_1.length:Int)-1).toNat))) (by kernel_rfl) (.inl rfl) (fun _=>rfl) (fun _=>trivial)
 obtain ⟨v,⟨hh0,_⟩,hc⟩:=hh
 exact ⟨v,hh0,hc⟩
def Yef (a:List Feat) (ls:List (List Feat)) (band:Int) (k:Nat) (ix lst:Int):Prop:=∃m:Int,Zls a ls band k ix lst m∧(m=0↔ix<0)∧0≤m
theorem Zvl {a:List Feat} {ls:List (List Feat)} {band ix lst:Int} {k:Nat} (h:Yef a ls band k ix lst) (hin:inL a ls band k=true) (hl:ix<0∨Zyx a ls band k<lst):Yef a ls band (k+1) (k:Int) (Zyx a ls band k):=by
 obtain ⟨m,h1,h2,h3⟩:=h
 exact ⟨m+1,Zjo h1 hin (hl.elim (fun q=> .inl (h2.2 q)) .inr),by omega,by omega⟩
theorem Zvm {a:List Feat} {ls:List (List Feat)} {band ix lst:Int} {k:Nat} (h:Yef a ls band k ix lst) (hin:inL a ls band k=true) (h0:¬ ix<0) (hl:¬ Zyx a ls band k<lst):Yef a ls band (k+1) ix lst:=by
 obtain ⟨m,h1,h2,h3⟩:=h
 exact ⟨m+1,Zjp h1 hin (fun q=>h0 (h2.1 q)) hl,by omega,by omega⟩
theorem Zvn {a:List Feat} {ls:List (List Feat)} {band ix lst:Int} {k:Nat} (h:Yef a ls band k ix lst) (hin:¬ inL a ls band k=true):Yef a ls band (k+1) ix lst:=by
 obtain ⟨m,h1,h2⟩:=h
 exact ⟨m,Zfg h1 (fun q=>absurd q hin),h2⟩
theorem Zke (a:List Feat) (lists:List (List Feat)) (band:Int) (oka:Zbf a 72=true) (hls:lists.length≤18∧∀l∈lists,Zbf l 72=true) (hbd:0≤band∧band≤72):∃(index:Int) (least:Int) (c:Int),(∃many:Int,Zls a lists band lists.length index least many∧(c=if many=0 then 3 else 0)∧(many=0→index=0∧least=0))∧Con Tryz.prog 12 [Zag false a,Zbu false lists,I band] true (.tup [I index,I least,I c]):=by
  have hna0:=Zdr oka
  have hh:∃r:Int×Int×Int,((∃many:Int,Zls a lists band lists.length r.1 r.2.1 many∧(r.2.2=if many=0 then 3 else 0)∧(many=0→r.1=0∧r.2.1=0))∧(True))∧Zaw Tryz.prog 12 [Zag false a,Zbu false lists,I band] (Zae []) true (.tup [I r.1,I r.2.1,I r.2.2]) (Zae []):=by
    refine Zcv (Φ:=fun r:Int×Int×Int=>(∃many:Int,Zls a lists band lists.length r.1 r.2.1 many∧(r.2.2=if many=0 then 3 else 0)∧(many=0→r.1=0∧r.2.1=0))∧(True)) [] (fun r=>[]) (fn:=Tryz.f12) (nt:=55) Tryz.func12 rfl rfl (args:=[Zag false a,Zbu false lists,I band]) rfl (Zbc (.inl ⟨rfl,Zdx false _⟩) (Zbc (.inl ⟨rfl,Zmv false _⟩) (Zbc (.inl ⟨rfl,trivial⟩) Zcw))) (res:=fun r=> .tup [I r.1,I r.2.1,I r.2.2]) ?_
    refine xQ [] [0,1,2] [] [] trivial ?_
    refine xQ [(3,.call [(true,.any),(true,.any),(true,.any)] true (I 0))] [0,1,2,9] [] [_∧True] ⟨⟨(Yeg a lists band oka hls hbd),trivial⟩,trivial⟩ (Zak ?_)
    refine xQ [(1,.dec false)] [0,1,2,9,19] [] [¬ ((0:Int)≠0)] ⟨(fun hq=>hq (by decide)),trivial⟩ (Zga (Zbd (Zab ?_)))
    refine xQ [] [0,1,2,10] [] [] trivial ?_
    refine xQ [] [0,1,2,10,11] [] [] trivial (Zak ?_)
    refine xR [] [0,1,2,10,11,12] [] [Zag false a,Zbu false lists,I band,I (-1),I 0,I 0] [] [] trivial (Zbb ?_)
    refine Zdc (X:=Int×Int×Int) (fun x=>mkS [(0,Zag false a),(1,Zbu false lists),(2,I band),(10,I x.1),(11,I x.2.1),(12,I x.2.2)] []) (fun x=>(0≤x.2.2∧x.2.2≤(lists.length:Int))∧(Yef a lists band x.2.2.toNat x.1 x.2.1)∧True) (fun x=>((lists.length:Int)-x.2.2).toNat) ((-1),0,0) rfl (show (0≤(0:Int)∧(0:Int)≤(lists.length:Int))∧(Yef a lists band (0:Int).toNat (-1) (0:Int))∧True from ⟨om,(by exact ⟨0,.inl ⟨rfl,fun j hj=>absurd hj (Nat.not_lt_zero _)⟩,by omega,by omega⟩),trivial⟩) (fun x hI=> ?_)
    obtain ⟨ix_,bs_,i⟩:=x
    obtain ⟨hi0,hns,_⟩:(0≤i∧i≤(lists.length:Int))∧(Yef a lists band i.toNat ix_ bs_)∧True:=hI
    show XW _ _ _ _ (mkS [(0,Zag false a),(1,Zbu false lists),(2,I band),(10,I ix_),(11,I bs_),(12,I i)] []) _ _
    refine Zak (Zak ?_)
    by_cases h1:i<(lists.length:Int)
    ·have hi:i.toNat<lists.length:=by omega
     have hix:((i.toNat:Nat):Int)=i:=by omega
     have hnx:(i+1).toNat=i.toNat+1:=by omega
     have okl:=hls.2 _ (Zca hi)
     have hna:=Zdr oka
     have hnl:=Zdr okl
     refine x_q [(3,.dec true)] [0,1,2,10,11,12,24] [] [_] ⟨h1,trivial⟩ (Zab (Zeh (Zbd (Zab (Zak (Zbb (Zak (Zak ?_))))))))
     rcases Bool.eq_false_or_eq_true (inB band 0 72&&decide (((((a.length:Int)-((at_ lists i.toNat).length:Int)).natAbs:Int)≤band))) with h2|h2
     ·have hin:inL a lists band i.toNat=true:=h2
      refine x_q [(6,.call [(true,.any),(true,.any),(true,.any)] true (Bv true))] [0,1,2,10,11,12,34] [] [(0:Int)≤i∧i<(lists.length:Int),Con Tryz.prog 35 [Zag false a,Zag false (at_ lists i.toNat),I band] true (Bv true)∧True] ⟨⟨om,om⟩,⟨(Zau h2 (Yco a (at_ lists i.toNat) band om om)),trivial⟩,trivial⟩ (Zab (Zga (Zbd (Zab (Zak ?_)))))
      obtain ⟨v_1,hx1_0,hc1⟩:=Yaj a (at_ lists i.toNat) band (Zrb oka okl) om om
      have hel:v_1=Zyx a lists band i.toNat:=hx1_0
      refine x_q [(6,.call [(true,.any),(true,.any),(true,.any)] true (I v_1))] [0,1,2,10,11,12,13] [] [(0:Int)≤i∧i<(lists.length:Int),_∧True] ⟨⟨om,om⟩,⟨hc1,trivial⟩,trivial⟩ (Zab (Zak ?_))
      by_cases h3:ix_<0
      ·refine x_q [(1,.dec true)] [0,1,2,10,11,12,13,48] [] [_] ⟨h3,trivial⟩ (Zab (Zeh ?_))
       refine xQ [] [0,1,2,10,12,13] [] [] trivial ?_
       refine x_q [] [0,1,2,10,11,12] [] [] trivial (Zba 1 (Zab ?_))
       refine x_r [] [0,1,2,10,11,12] [] [Zag false a,Zbu false lists,I band,I i,I v_1,I (i+1)] [] [inR .i64 (i+1)] ⟨(Zad om om),trivial⟩ ?_
       exact Zay (i,v_1,(i+1)) rfl (show (0≤(i+1)∧(i+1)≤(lists.length:Int))∧(Yef a lists band (i+1).toNat i v_1)∧True from ⟨om,(by rw [hnx];first|exact Zvn hns hin|(rw [hel];have q:=Zvl hns hin (by first|(left;assumption)|(right;omega));rwa [hix] at q)|exact Zvm hns hin (by assumption) om),trivial⟩) (by first|(show (((lists.length:Int)-(i+1)).toNat:Nat)<((lists.length:Int)-i).toNat;omega)|(dsimp only;omega))
      by_cases h4:v_1<bs_
      ·refine x_q [(1,.dec false),(5,.dec true)] [0,1,2,10,11,12,13,48] [] [_,_] ⟨h3,h4,trivial⟩ (Zab (Zeh ?_))
       refine xQ [] [0,1,2,10,12,13] [] [] trivial ?_
       refine x_q [] [0,1,2,10,11,12] [] [] trivial (Zba 1 (Zab ?_))
       refine x_r [] [0,1,2,10,11,12] [] [Zag false a,Zbu false lists,I band,I i,I v_1,I (i+1)] [] [inR .i64 (i+1)] ⟨(Zad om om),trivial⟩ ?_
       exact Zay (i,v_1,(i+1)) rfl (show (0≤(i+1)∧(i+1)≤(lists.length:Int))∧(Yef a lists band (i+1).toNat i v_1)∧True from ⟨om,(by rw [hnx];first|exact Zvn hns hin|(rw [hel];have q:=Zvl hns hin (by first|(left;assumption)|(right;omega));rwa [hix] at q)|exact Zvm hns hin (by assumption) om),trivial⟩) (by first|(show (((lists.length:Int)-(i+1)).toNat:Nat)<((lists.length:Int)-i).toNat;omega)|(dsimp only;omega))
      refine x_q [(1,.dec false),(5,.dec false)] [0,1,2,10,11,12,13,48] [] [_,_] ⟨h3,h4,trivial⟩ (Zab (Zga (Zbd (Zba 1 (Zab ?_)))))
      refine x_r [] [0,1,2,10,11,12] [] [Zag false a,Zbu false lists,I band,I ix_,I bs_,I (i+1)] [] [inR .i64 (i+1)] ⟨(Zad om om),trivial⟩ ?_
      exact Zay (ix_,bs_,(i+1)) rfl (show (0≤(i+1)∧(i+1)≤(lists.length:Int))∧(Yef a lists band (i+1).toNat ix_ bs_)∧True from ⟨om,(by rw [hnx];first|exact Zvn hns hin|(rw [hel];have q:=Zvl hns hin (by first|(left;assumption)|(right;omega));rwa [hix] at q)|exact Zvm hns hin (by assumption) om),trivial⟩) (by first|(show (((lists.length:Int)-(i+1)).toNat:Nat)<((lists.length:Int)-i).toNat;omega)|(dsimp only;omega))
     have hin:¬ inL a lists band i.toNat=true:=by unfold inL;rw [h2];decide
     refine x_q [(6,.call [(true,.any),(true,.any),(true,.any)] true (Bv false))] [0,1,2,10,11,12,34] [] [(0:Int)≤i∧i<(lists.length:Int),Con Tryz.prog 35 [Zag false a,Zag false (at_ lists i.toNat),I band] true (Bv false)∧True] ⟨⟨om,om⟩,⟨(Zau h2 (Yco a (at_ lists i.toNat) band om om)),trivial⟩,trivial⟩ (Zab (Zeh (Zcp (Zas (Zat (Zab ?_))))))
     refine x_r [] [0,1,2,10,11,12] [] [Zag false a,Zbu false lists,I band,I ix_,I bs_,I (i+1)] [] [inR .i64 (i+1)] ⟨(Zad om om),trivial⟩ ?_
     exact Zay (ix_,bs_,(i+1)) rfl (show (0≤(i+1)∧(i+1)≤(lists.length:Int))∧(Yef a lists band (i+1).toNat ix_ bs_)∧True from ⟨om,(by rw [hnx];first|exact Zvn hns hin|(rw [hel];have q:=Zvl hns hin (by first|(left;assumption)|(right;omega));rwa [hix] at q)|exact Zvm hns hin (by assumption) om),trivial⟩) (by first|(show (((lists.length:Int)-(i+1)).toNat:Nat)<((lists.length:Int)-i).toNat;omega)|(dsimp only;omega))
    have hie:i.toNat=lists.length:=by omega
    rw [hie] at hns
    refine x_r [(3,.dec false)] [0,1,2,10,11,12,24] [] [Zag false a,Zbu false lists,I band,I ix_,I bs_,I i,Bv false] [] [_] ⟨h1,trivial⟩ (Zab (Zbt rfl (Zcp (Zas ?_))))
    refine Zax ?_
    refine Zat (Zab (Zak (Zak ?_)))
    by_cases h5:ix_<0
    ·refine x_q [(1,.dec true)] [10,11,52] [] [_] ⟨h5,trivial⟩ (Zab (Zeh ?_))
     refine xR [] [6,7,8] [] [I 0,I 0,I 3] [] [] trivial (Zdd (Zda ?_))
     refine Zbw (0,0,3) (show (∃many:Int,Zls a lists band lists.length 0 0 many∧(3=if many=0 then 3 else 0)∧(many=0→0=0∧0=0))∧(True) from ⟨(by obtain ⟨m,h1,h2,h3⟩:=hns;first|exact ⟨0,by rw [h2.2 (by assumption)] at h1;exact Znu h1,(if_pos rfl).symm,fun _=>⟨rfl,rfl⟩⟩|exact ⟨m,h1,by rw [if_neg (fun q=>by have:=h2.1 q;omega)],fun q=>by have:=h2.1 q;omega⟩),trivial⟩) (trivial) (.tup [I 0,I 0,I 3]) (by kernel_rfl) (.inl rfl) (fun _=>rfl) (fun _=>(by simp [Zai,Zaf]))
    refine x_q [(1,.dec false)] [10,11,52] [] [_] ⟨h5,trivial⟩ (Zab (Zga (Zbd (Zab ?_))))
    refine xR [] [6,7,8] [] [I ix_,I bs_,I 0] [] [] trivial (Zdd ?_)
    refine Zbw (ix_,bs_,0) (show (∃many:Int,Zls a lists band lists.length ix_ bs_ many∧(0=if many=0 then 3 else 0)∧(many=0→ix_=0∧bs_=0))∧(True) from ⟨(by obtain ⟨m,h1,h2,h3⟩:=hns;first|exact ⟨0,by rw [h2.2 (by assumption)] at h1;exact Znu h1,(if_pos rfl).symm,fun _=>⟨rfl,rfl⟩⟩|exact ⟨m,h1,by rw [if_neg (fun q=>by have:=h2.1 q;omega)],fun q=>by have:=h2.1 q;omega⟩),trivial⟩) (trivial) (.tup [I ix_,I bs_,I 0]) (by kernel_rfl) (.inl rfl) (fun _=>rfl) (fun _=>(by simp [Zai,Zaf]))
  obtain ⟨⟨index,least,c⟩,⟨hh0,_⟩,hc⟩:=hh
  exact ⟨index,least,c,hh0,hc⟩
def okP (p:Point):Bool:=inB p.X 0 4095&&(inB p.Y 0 4095&&inB p.T 0 3600000)
theorem Zrc {p:Point} :okP p=true↔(0≤p.X∧p.X≤4095)∧(0≤p.Y∧p.Y≤4095)∧(0≤p.T∧p.T≤3600000):=by simp [okP,inB,and_assoc]
def Yak (xs:List Point) (j:Nat):Bool:=okP (at_ xs j)&&(decide (j=0)||decide ((at_ xs (j-1)).T<(at_ xs j).T))
def Zbe (s:Stroke):Bool:=decide (1≤(s.Points.length:Int)∧(s.Points.length:Int)≤60)&&Zng s.Points.length (Yak s.Points)
theorem okPt_no {xs:List Point} {i:Int} (hi:0<i) (h:(at_ xs i.toNat).T≤(at_ xs (i-1).toNat).T):Yak xs i.toNat=false:=by
 have e:(i-1).toNat=i.toNat-1:=by omega
 rw [e] at h
 have:¬ i.toNat=0:=by omega
 simp [Yak,this];intro _;omega
theorem okPt_bad {xs:List Point} {j:Nat} (h:okP (at_ xs j)=false):Yak xs j=false:=by simp [Yak,h]
theorem okPt_yes {xs:List Point} {i:Int} (h1:okP (at_ xs i.toNat)=true) (hi:0<i) (h:¬ (at_ xs i.toNat).T≤(at_ xs (i-1).toNat).T):Yak xs i.toNat=true:=by
 have e:(i-1).toNat=i.toNat-1:=by omega
 rw [e] at h
 simp [Yak,h1];right;omega
theorem Yhm {xs:List Point} {i:Int} (h1:okP (at_ xs i.toNat)=true) (h0:0≤i) (hi:¬ 0<i):Yak xs i.toNat=true:=by
 have:i.toNat=0:=by omega
 simp [Yak,this] at h1⊢;exact h1
theorem Zrd {s:Stroke} (h:Zbe s=true):1≤(s.Points.length:Int)∧(s.Points.length:Int)≤60:=by
 simp only [Zbe,Bool.and_eq_true,decide_eq_true_eq] at h
 exact h.1
def Zsm (s:Stroke):Int:=(at_ s.Points (s.Points.length-1)).T
def Zxx (xs:List Stroke) (j:Nat):Bool:=Zbe (at_ xs j)&&(decide (j=0)||decide (Zsm (at_ xs (j-1))<(at_ (at_ xs j).Points 0).T))
def Zcs (x:Ink):Bool:=decide ((x.Strokes.length:Int)≤16)&&Zng x.Strokes.length (Zxx x.Strokes)
theorem okSA_bad {xs:List Stroke} {j:Nat} (h:Zbe (at_ xs j)=false):Zxx xs j=false:=by simp [Zxx,h]
theorem okSA_no {xs:List Stroke} {i:Int} (hi:0<i) (h:(at_ (at_ xs i.toNat).Points 0).T≤(at_ (at_ xs (i-1).toNat).Points ((at_ xs (i-1).toNat).Points.length-1)).T):Zxx xs i.toNat=false:=by
 have e:(i-1).toNat=i.toNat-1:=by omega
 rw [e] at h
 have:¬ i.toNat=0:=by omega
 unfold Zxx Zsm;simp [this];intro _;omega
theorem okSA_yes {xs:List Stroke} {i:Int} (h1:Zbe (at_ xs i.toNat)=true) (hi:0<i) (h:¬ (at_ (at_ xs i.toNat).Points 0).T≤(at_ (at_ xs (i-1).toNat).Points ((at_ xs (i-1).toNat).Points.length-1)).T):Zxx xs i.toNat=true:=by
 have e:(i-1).toNat=i.toNat-1:=by omega
 rw [e] at h
 unfold Zxx Zsm;simp [h1];right;omega
theorem Yhn {xs:List Stroke} {i:Int} (h1:Zbe (at_ xs i.toNat)=true) (h0:0≤i) (hi:¬ 0<i):Zxx xs i.toNat=true:=by
 have:i.toNat=0:=by omega
 simp [Zxx,this] at h1⊢;exact h1
theorem Znv {xs:List Stroke} {j:Nat} (h:Zxx xs j=true):Zbe (at_ xs j)=true:=by
 simp only [Zxx,Bool.and_eq_true] at h;exact h.1
theorem Zpr {x:Ink} (h:Zcs x=true):∀j,j<x.Strokes.length→Zbe (at_ x.Strokes j)=true:=by
 simp only [Zcs,Bool.and_eq_true] at h
 exact fun j hj=>Znv (Zmw h.2 hj)
theorem Znj {x:Ink} (h:Zcs x=true):∀s∈x.Strokes,Zbe s=true:=by
 intro s hs
 obtain ⟨j,hj,e⟩:=List.getElem_of_mem hs
 have:=Zpr h j hj
 simpa [at_,hj,e] using this
theorem Yho {x:Ink} (h:Zcs x=true):(x.Strokes.length:Int)≤16:=by
 simp only [Zcs,Bool.and_eq_true,decide_eq_true_eq] at h
 exact h.1
theorem Ycp {α:Type} [Inhabited α] {xs:List α} (h:1≤xs.length):at_ xs (xs.length-1)∈xs:=Zca om
theorem Zjq {α:Type} {P:α→Prop} {xs:List α} {x:α} (h:∀y∈xs,P y) (hx:P x):∀y∈xs++[x],P y:=by
 intro y hy
 rcases List.mem_append.1 hy with h1|h1
 ·exact h y h1
 ·simp at h1;subst h1;exact hx
theorem Zre {pts:List Point} (h1:1≤(pts.length:Int)) (h2:(pts.length:Int)≤60) (hp:∀p∈pts,okP p=true) (hw:pts.Pairwise fun p q=>p.T<q.T):Zbe ⟨pts⟩=true:=by
 simp only [Zbe,Bool.and_eq_true,decide_eq_true_eq]
 refine ⟨⟨h1,h2⟩,Zhe fun j hj=> ?_⟩
 simp only [Yak,Bool.and_eq_true,Bool.or_eq_true,decide_eq_true_eq]
 refine ⟨hp _ (Zca hj),?_⟩
 by_cases e:j=0
 ·exact .inl e
 ·right
  have:=List.pairwise_iff_getElem.1 hw (j-1) j om hj om
  rw [Zea om,Zea hj];exact this
def dpts (pts:List Point) (t:Int):Prop:=(∀p∈pts,p.T<t)∧pts.Pairwise fun p q=>p.T<q.T
theorem dpts_nil (t:Int):dpts [] t:=⟨fun _ h=>by simp at h,.nil⟩
theorem Zxy {pts:List Point} {p:Point} {t t':Int} (h:dpts pts t) (e:p.T=t) (ht:t<t'):dpts (pts++[p]) t':=by
 refine ⟨Zjq (fun q hq=>Int.lt_trans (h.1 q hq) ht) om,?_⟩
 rw [List.pairwise_append]
 refine ⟨h.2,List.pairwise_singleton _ _,fun q hq r hr=> ?_⟩
 simp at hr;subst hr;rw [e];exact h.1 q hq
def Yal (ss:List Stroke) (t:Int):Prop:=Zcs ⟨ss⟩=true∧∀s∈ss,Zsm s<t
theorem Ycq (t:Int):Yal [] t:=⟨rfl,fun _ h=>by simp at h⟩
theorem Zkw {ss:List Stroke} {s:Stroke} {t t':Int} (h:Yal ss t) (hs:Zbe s=true) (hf:∀p∈s.Points,t≤p.T) (hl:Zsm s<t') (ht:t≤t') (hn:ss.length≤15):Yal (ss++[s]) t':=by
 obtain ⟨h1,h2⟩:=h
 refine ⟨?_,Zjq (fun q hq=>Int.lt_of_lt_of_le (h2 q hq) ht) hl⟩
 simp only [Zcs,Bool.and_eq_true,decide_eq_true_eq] at h1⊢
 refine ⟨by simp;omega,Zhe fun j hj=> ?_⟩
 simp only [List.length_append,List.length_cons,List.length_nil] at hj
 have e1:∀k,k<ss.length→at_ (ss++[s]) k=at_ ss k:=fun k hk=>by simp [at_,List.getElem?_append_left hk]
 by_cases e:j<ss.length
 ·have:=Zmw h1.2 e
  simp only [Zxx] at this⊢
  rw [e1 j e,e1 (j-1) om];exact this
 ·have ej:j=ss.length:=by omega
  subst ej
  have e2:at_ (ss++[s]) ss.length=s:=by simp [at_]
  simp only [Zxx,e2,hs,Bool.true_and,Bool.or_eq_true,decide_eq_true_eq]
  by_cases h0:ss.length=0
  ·exact .inl h0
  ·right
   rw [e1 _ om]
   have q1:=h2 _ (Zca (xs:=ss) (i:=ss.length-1) om)
   have hln:=Zrd hs
   have q2:=hf _ (Zca (xs:=s.Points) (i:=0) om)
   omega
theorem two_ok {a b:Point} (ha:okP a=true) (hb:okP b=true) (h:a.T<b.T):Zbe ⟨[a,b]⟩=true:=Zre (by simp) (by simp) (fun p hp=>by simp at hp;rcases hp with rfl|rfl;exact ha;exact hb) (by simp [h])
theorem Zvo {ss:List Stroke} {t t' x1 y1 x2 y2 t2:Int} (h:Yal ss t) (h1:(0≤x1∧x1≤4095)∧0≤y1∧y1≤4095) (h2:(0≤x2∧x2≤4095)∧0≤y2∧y2≤4095) (ht:0≤t∧t<t2∧t2≤3600000) (ht2:t2<t') (hn:ss.length≤15):Yal (ss++[⟨[⟨x1,y1,t⟩,⟨x2,y2,t2⟩]⟩]) t':=
 Zkw h (two_ok (Zrc.2 ⟨h1.1,h1.2,by dsimp only;omega⟩) (Zrc.2 ⟨h2.1,h2.2,by dsimp only;omega⟩) ht.2.1) (fun p hp=>by simp at hp;rcases hp with rfl|rfl;exact Int.le_refl _;(dsimp only;omega)) (by simp [Zsm,at_];exact ht2) om hn
theorem Zkg (s:l00Src) (time:Int) (px:Int) (py:Int) (hs:Zbh s) (ha:s.atx≤3999999999999999600) (ht:0≤time∧time≤100000∧0≤px∧px≤100000∧0≤py∧py≤100000):∃(s':l00Src) (pts:List Point),(Zbh s')∧(s'.code=s.code)∧(s.atx+0≤s'.atx∧s'.atx≤s.atx+200)∧(1≤pts.length∧pts.length≤10)∧(∀p∈pts,time≤p.T∧p.T≤time+210)∧(px≤4095∧py≤4095→Zbe ⟨pts⟩=true)∧Zaw Tryz.prog 78 [.ref 7001 0,I time,I px,I py] (Zae [(7001,Zaa s)]) false (.agg [.arr 8001]) (Zae [(7001,Zaa s'),(8001,Zef pts)]):=by
  have hh:∃r:l00Src×(List Point),((Zbh r.1)∧(r.1.code=s.code)∧(s.atx+0≤r.1.atx∧r.1.atx≤s.atx+200)∧(1≤r.2.length∧r.2.length≤10)∧(∀p∈r.2,time≤p.T∧p.T≤time+210)∧(px≤4095∧py≤4095→Zbe ⟨r.2⟩=true)∧(True))∧Zaw Tryz.prog 78 [.ref 7001 0,I time,I px,I py] (Zae [(7001,Zaa s)]) false (.agg [.arr 8001]) (Zae [(7001,Zaa r.1),(8001,Zef r.2)]):=by
    refine Zcv (Φ:=fun r:l00Src×(List Point)=>(Zbh r.1)∧(r.1.code=s.code)∧(s.atx+0≤r.1.atx∧r.1.atx≤s.atx+200)∧(1≤r.2.length∧r.2.length≤10)∧(∀p∈r.2,time≤p.T∧p.T≤time+210)∧(px≤4095∧py≤4095→Zbe ⟨r.2⟩=true)∧(True)) [(7001,Zaa s)] (fun r=>[(7001,Zaa r.1),(8001,Zef r.2)]) (fn:=Tryz.f78) (nt:=68) Tryz.func78 rfl rfl (args:=[.ref 7001 0,I time,I px,I py]) rfl (Zbc (.inr trivial) (Zbc (.inl ⟨rfl,trivial⟩) (Zbc (.inl ⟨rfl,trivial⟩) (Zbc (.inl ⟨rfl,trivial⟩) Zcw)))) (res:=fun r=> .agg [.arr 8001]) ?_
    refine xQ [(0,.new 8)] [0,1,2,3,8] [8,7001] [] trivial ?_
    refine xQ [(1,.new 9)] [0,1,2,3,8,9] [8,9,7001] [] trivial (Zak ?_)
    obtain ⟨v_1,s'_1,hx1_0,hx1_1,hx1_2,hx1_3,hc1⟩:=Zcl s 60 (by first|assumption|(simp only [Zbh] at*;simp_all;done)) om
    refine x_q [(1,.lend [(7001,Zaa s,Zaa s'_1)] [] [(true,.any),(true,.any)] true (I v_1))] [0,1,2,3,8,9,10] [8,9,7001] [Zaw Tryz.prog 28 [.ref 7001 0,I 60] (Zae [(7001,Zaa s)]) true (I v_1) (Zae [(7001,Zaa s'_1)])∧(((Zaa s:Ob)=Zaa s∨Zer Zeg true (Zaa s) (Zaa s))∧Zal false (Zaa s))∧True,inR .i64 (v_1-20)] ⟨⟨hc1,⟨.inl rfl,(by simp [Zal,Zaf,Zai,Zcx])⟩,trivial⟩,(Zad om om),trivial⟩ (Zab (Zak ?_))
    obtain ⟨v_2,s'_2,hx2_0,hx2_1,hx2_2,hx2_3,hc2⟩:=Zcl s'_1 60 (by first|assumption|(simp only [Zbh] at*;simp_all;done)) om
    refine x_q [(1,.lend [(7001,Zaa s'_1,Zaa s'_2)] [] [(true,.any),(true,.any)] true (I v_2))] [0,1,2,3,8,9,10,11] [8,9,7001] [Zaw Tryz.prog 28 [.ref 7001 0,I 60] (Zae [(7001,Zaa s'_1)]) true (I v_2) (Zae [(7001,Zaa s'_2)])∧(((Zaa s'_1:Ob)=Zaa s'_1∨Zer Zeg true (Zaa s'_1) (Zaa s'_1))∧Zal false (Zaa s'_1))∧True,inR .i64 (v_2-30)] ⟨⟨hc2,⟨.inl rfl,(by simp [Zal,Zaf,Zai,Zcx])⟩,trivial⟩,(Zad om om),trivial⟩ (Zab (Zak (Zak ?_)))
    obtain ⟨v_3,s'_3,hx3_0,hx3_1,hx3_2,hx3_3,hc3⟩:=Zcl s'_2 10 (by first|assumption|(simp only [Zbh] at*;simp_all;done)) om
    refine x_r [(1,.lend [(7001,Zaa s'_2,Zaa s'_3)] [] [(true,.any),(true,.any)] true (I v_3))] [0,1,2,3,8,9,10,11,12] [8,9,7001] [.ref 7001 0,I time,I px,I py,.ref 8 0,.ref 9 0,I (v_1-20),I (v_2-30),I (1+v_3)] [some (.box [Zcj]),some (.box [Zcj]),some (Zaa s'_3)] [Zaw Tryz.prog 28 [.ref 7001 0,I 10] (Zae [(7001,Zaa s'_2)]) true (I v_3) (Zae [(7001,Zaa s'_3)])∧(((Zaa s'_2:Ob)=Zaa s'_2∨Zer Zeg true (Zaa s'_2) (Zaa s'_2))∧Zal false (Zaa s'_2))∧True,inR .i64 (1+v_3)] ⟨⟨hc3,⟨.inl rfl,(by simp [Zal,Zaf,Zai,Zcx])⟩,trivial⟩,(Zad om om),trivial⟩ (Zab (Zbb ?_))
    refine Zka 9 0 790 3 (fun _=>[]) rfl (by kernel_rfl) ?_
    refine Zdh [] (T:=[(0,.ref 7001 0),(1,I time),(2,I px),(3,I py),(8,.ref 8 0),(9,.ref 9 0),(10,I (v_1-20)),(11,I (v_2-30)),(12,I (1+v_3))]) (O:=[(8,.box [Zcj]),(9,.box [.arr 790]),(790,Zef ([]:List Point)),(7001,Zaa s'_3)]) rfl (⟨.inl rfl,.inl rfl,.inl rfl,.inl rfl,.inl rfl,.inl rfl,.inl rfl,.inl rfl,.inl rfl,trivial⟩) (⟨.inl rfl,.inl rfl,.inr ⟨rfl,(by first|rfl|(simp;done)|(simp;omega)|omega),fun i_ hi_=>absurd hi_ (Nat.not_lt_zero _)⟩,.inl rfl,trivial⟩) ?_
    refine Zdc (X:=Int×Int×Int×Int×Int×Int×(List Point)×l00Src) (fun x=>mkS [(0,.ref 7001 0),(1,I x.1),(2,I x.2.1),(3,I x.2.2.1),(8,.ref 8 0),(9,.ref 9 0),(10,I x.2.2.2.1),(11,I x.2.2.2.2.1),(12,I x.2.2.2.2.2.1)] [(8,.box [Zcj]),(9,.box [.arr 790]),(790,Zef x.2.2.2.2.2.2.1),(7001,Zaa x.2.2.2.2.2.2.2)]) (fun x=>(Zbh x.2.2.2.2.2.2.2∧x.2.2.2.2.2.2.2.code=s.code∧s.atx≤x.2.2.2.2.2.2.2.atx∧x.2.2.2.2.2.2.2.atx≤s.atx+6+12*(10-x.2.2.2.2.2.1))∧(0≤x.2.2.2.2.2.1∧x.2.2.2.2.2.1≤10)∧((x.2.2.2.2.2.2.1.length:Int)+x.2.2.2.2.2.1≤10∧1≤(x.2.2.2.2.2.2.1.length:Int)+x.2.2.2.2.2.1)∧(time≤x.1∧x.1≤time+21*(10-x.2.2.2.2.2.1))∧(∀p∈x.2.2.2.2.2.2.1,time≤p.T∧p.T≤time+210)∧(0≤x.2.1∧x.2.1≤100000∧0≤x.2.2.1∧x.2.2.1≤100000)∧(-40≤x.2.2.2.1∧x.2.2.2.1≤60∧-40≤x.2.2.2.2.1∧x.2.2.2.2.1≤60)∧(dpts x.2.2.2.2.2.2.1 x.1)∧(px≤4095∧py≤4095→(x.2.1≤4095∧x.2.2.1≤4095)∧∀p∈x.2.2.2.2.2.2.1,okP p=true)∧True) (fun x=>x.2.2.2.2.2.1.toNat) (time,px,py,(v_1-20),(v_2-30),(1+v_3),([]:List Point),s'_3) rfl (show (Zbh s'_3∧s'_3.code=s.code∧s.atx≤s'_3.atx∧s'_3.atx≤s.atx+6+12*(10-(1+v_3)))∧(0≤(1+v_3)∧(1+v_3)≤10)∧((([]:List Point).length:Int)+(1+v_3)≤10∧1≤(([]:List Point).length:Int)+(1+v_3))∧(time≤time∧time≤time+21*(10-(1+v_3)))∧(∀p∈([]:List Point),time≤p.T∧p.T≤time+210)∧(0≤px∧px≤100000∧0≤py∧py≤100000)∧(-40≤(v_1-20)∧(v_1-20)≤60∧-40≤(v_2-30)∧(v_2-30)≤60)∧(dpts ([]:List Point) time)∧(px≤4095∧py≤4095→(px≤4095∧py≤4095)∧∀p∈([]:List Point),okP p=true)∧True from ⟨(by exact ⟨by assumption,by first|assumption|rfl|(simp only [*];done),by omega,by omega⟩),om,(by simp;omega),om,(by (intro z hz;simp at hz)),om,om,(by exact dpts_nil _),(by exact fun q=>⟨q,fun p hp=>by simp at hp⟩),trivial⟩) (fun x hI=> ?_)
    obtain ⟨time',x',y',dx,dy,k,pts,src⟩:=x
    obtain ⟨hs0,hk0,hl0,ht0,hp0,hx0,hd0,hdp,hok,_⟩:(Zbh src∧src.code=s.code∧s.atx≤src.atx∧src.atx≤s.atx+6+12*(10-k))∧(0≤k∧k≤10)∧((pts.length:Int)+k≤10∧1≤(pts.length:Int)+k)∧(time≤time'∧time'≤time+21*(10-k))∧(∀p∈pts,time≤p.T∧p.T≤time+210)∧(0≤x'∧x'≤100000∧0≤y'∧y'≤100000)∧(-40≤dx∧dx≤60∧-40≤dy∧dy≤60)∧(dpts pts time')∧(px≤4095∧py≤4095→(x'≤4095∧y'≤4095)∧∀p∈pts,okP p=true)∧True:=hI
    show XW _ _ _ _ (mkS [(0,.ref 7001 0),(1,I time'),(2,I x'),(3,I y'),(8,.ref 8 0),(9,.ref 9 0),(10,I dx),(11,I dy),(12,I k)] [(8,.box [Zcj]),(9,.box [.arr 790]),(790,Zef pts),(7001,Zaa src)]) _ _
    refine Zak (Zak ?_)
    by_cases h1:0<k
    ·refine x_q [(1,.dec true)] [0,1,2,3,8,9,10,11,12,24] [8,9,790,7001] [_] ⟨h1,trivial⟩ (Zab (Zeh (Zbd (Zab (Zak (Zbb ?_))))))
     refine xQ [(6,.new 33),(7,.new 34)] [0,1,2,3,8,9,10,11,12] [8,9,34,7001] [(pts.length+1)*24≤140737488355328] ⟨om,trivial⟩ (Zak ?_)
     obtain ⟨v_4,s'_4,hx4_0,hx4_1,hx4_2,hx4_3,hc4⟩:=Zcl src 20 (by first|assumption|(simp only [Zbh] at*;simp_all;done)) om
     refine x_q [(2,.lend [(7001,Zaa src,Zaa s'_4)] [] [(true,.any),(true,.any)] true (I v_4))] [0,1,2,3,8,9,10,11,12] [8,9,34,7001] [Zaw Tryz.prog 28 [.ref 7001 0,I 20] (Zae [(7001,Zaa src)]) true (I v_4) (Zae [(7001,Zaa s'_4)])∧(((Zaa src:Ob)=Zaa src∨Zer Zeg true (Zaa src) (Zaa src))∧Zal false (Zaa src))∧True,inR .i64 (1+v_4),inR .i64 (time'+(1+v_4))] ⟨⟨hc4,⟨.inl rfl,(by simp [Zal,Zaf,Zai,Zcx])⟩,trivial⟩,(Zad om om),(Zad om om),trivial⟩ (Zab (Zak ?_))
     obtain ⟨v_5,s'_5,hx5_0,hx5_1,hx5_2,hx5_3,hc5⟩:=Zcl s'_4 9 (by first|assumption|(simp only [Zbh] at*;simp_all;done)) om
     refine x_q [(4,.lend [(7001,Zaa s'_4,Zaa s'_5)] [] [(true,.any),(true,.any)] true (I v_5)),(7,.call [(true,.any),(true,.any)] true (I (min 4095 (((x'+dx)+v_5)-4)))),(8,.call [(true,.any),(true,.any)] true (I (max 0 (min 4095 (((x'+dx)+v_5)-4)))))] [0,1,2,3,8,9,10,11,12] [8,9,34,7001] [inR .i64 (x'+dx),Zaw Tryz.prog 28 [.ref 7001 0,I 9] (Zae [(7001,Zaa s'_4)]) true (I v_5) (Zae [(7001,Zaa s'_5)])∧(((Zaa s'_4:Ob)=Zaa s'_4∨Zer Zeg true (Zaa s'_4) (Zaa s'_4))∧Zal false (Zaa s'_4))∧True,inR .i64 ((x'+dx)+v_5),inR .i64 (((x'+dx)+v_5)-4),_∧True,_∧True] ⟨(Zad om om),⟨hc5,⟨.inl rfl,(by simp [Zal,Zaf,Zai,Zcx])⟩,trivial⟩,(Zad om om),(Zad om om),⟨(Zgf 4095 (((x'+dx)+v_5)-4)),trivial⟩,⟨(Zmx 0 (min 4095 (((x'+dx)+v_5)-4))),trivial⟩,trivial⟩ (Zab (Zak ?_))
     obtain ⟨v_6,s'_6,hx6_0,hx6_1,hx6_2,hx6_3,hc6⟩:=Zcl s'_5 9 (by first|assumption|(simp only [Zbh] at*;simp_all;done)) om
     refine x_q [(4,.lend [(7001,Zaa s'_5,Zaa s'_6)] [] [(true,.any),(true,.any)] true (I v_6)),(7,.call [(true,.any),(true,.any)] true (I (min 4095 (((y'+dy)+v_6)-4)))),(8,.call [(true,.any),(true,.any)] true (I (max 0 (min 4095 (((y'+dy)+v_6)-4)))))] [0,1,2,3,8,9,10,11,12] [8,9,34,7001] [inR .i64 (y'+dy),Zaw Tryz.prog 28 [.ref 7001 0,I 9] (Zae [(7001,Zaa s'_5)]) true (I v_6) (Zae [(7001,Zaa s'_6)])∧(((Zaa s'_5:Ob)=Zaa s'_5∨Zer Zeg true (Zaa s'_5) (Zaa s'_5))∧Zal false (Zaa s'_5))∧True,inR .i64 ((y'+dy)+v_6),inR .i64 (((y'+dy)+v_6)-4),_∧True,_∧True] ⟨(Zad om om),⟨hc6,⟨.inl rfl,(by simp [Zal,Zaf,Zai,Zcx])⟩,trivial⟩,(Zad om om),(Zad om om),⟨(Zgf 4095 (((y'+dy)+v_6)-4)),trivial⟩,⟨(Zmx 0 (min 4095 (((y'+dy)+v_6)-4))),trivial⟩,trivial⟩ (Zab (Zak ?_))
     obtain ⟨v_7,s'_7,hx7_0,hx7_1,hx7_2,hc7⟩:=Zxz s'_6 3 (by first|assumption|(simp only [Zbh] at*;simp_all;done)) om
     rcases Bool.eq_false_or_eq_true v_7 with h2|h2
     ·subst h2
      refine x_q [(1,.lend [(7001,Zaa s'_6,Zaa s'_7)] [] [(true,.any),(true,.any)] true (Bv true))] [0,1,2,3,8,9,10,11,12,60] [8,9,34,7001] [Zaw Tryz.prog 29 [.ref 7001 0,I 3] (Zae [(7001,Zaa s'_6)]) true (Bv true) (Zae [(7001,Zaa s'_7)])∧(((Zaa s'_6:Ob)=Zaa s'_6∨Zer Zeg true (Zaa s'_6) (Zaa s'_6))∧Zal false (Zaa s'_6))∧True] ⟨⟨hc7,⟨.inl rfl,(by simp [Zal,Zaf,Zai,Zcx])⟩,trivial⟩,trivial⟩ (Zab (Zeh (Zak ?_)))
      obtain ⟨v_8,s'_8,hx8_0,hx8_1,hx8_2,hx8_3,hc8⟩:=Zcl s'_7 80 (by first|assumption|(simp only [Zbh] at*;simp_all;done)) om
      refine x_q [(1,.lend [(7001,Zaa s'_7,Zaa s'_8)] [] [(true,.any),(true,.any)] true (I v_8))] [0,1,2,3,8,9,10,12] [8,9,34,7001] [Zaw Tryz.prog 28 [.ref 7001 0,I 80] (Zae [(7001,Zaa s'_7)]) true (I v_8) (Zae [(7001,Zaa s'_8)])∧(((Zaa s'_7:Ob)=Zaa s'_7∨Zer Zeg true (Zaa s'_7) (Zaa s'_7))∧Zal false (Zaa s'_7))∧True,inR .i64 (v_8-40)] ⟨⟨hc8,⟨.inl rfl,(by simp [Zal,Zaf,Zai,Zcx])⟩,trivial⟩,(Zad om om),trivial⟩ (Zab ?_)
      obtain ⟨v_9,s'_9,hx9_0,hx9_1,hx9_2,hx9_3,hc9⟩:=Zcl s'_8 80 (by first|assumption|(simp only [Zbh] at*;simp_all;done)) om
      refine x_q [(1,.lend [(7001,Zaa s'_8,Zaa s'_9)] [] [(true,.any),(true,.any)] true (I v_9))] [0,1,2,3,8,9,10,11,12] [8,9,34,7001] [Zaw Tryz.prog 28 [.ref 7001 0,I 80] (Zae [(7001,Zaa s'_8)]) true (I v_9) (Zae [(7001,Zaa s'_9)])∧(((Zaa s'_8:Ob)=Zaa s'_8∨Zer Zeg true (Zaa s'_8) (Zaa s'_8))∧Zal false (Zaa s'_8))∧True,inR .i64 (v_9-40)] ⟨⟨hc9,⟨.inl rfl,(by simp [Zal,Zaf,Zai,Zcx])⟩,trivial⟩,(Zad om om),trivial⟩ (Zba 1 (Zab ?_))
      refine x_r [] [0,1,2,3,8,9,10,11,12] [8,9,34,7001] [.ref 7001 0,I (time'+(1+v_4)),I (max 0 (min 4095 (((x'+dx)+v_5)-4))),I (max 0 (min 4095 (((y'+dy)+v_6)-4))),.ref 8 0,.ref 9 0,I (v_8-40),I (v_9-40),I (k-1)] [some (.box [Zcj]),some (.box [.arr 34]),some (.arr 3 (pts.length+1) (Zhc pts.length (Zdy pts) (Zhu [I x',I y',I time'] 3))),some (Zaa s'_9)] [inR .i64 (k-1)] ⟨(Zad om om),trivial⟩ ?_
      refine Zcf [(790,34)] (T:=[(0,.ref 7001 0),(1,I (time'+(1+v_4))),(2,I (max 0 (min 4095 (((x'+dx)+v_5)-4)))),(3,I (max 0 (min 4095 (((y'+dy)+v_6)-4)))),(8,.ref 8 0),(9,.ref 9 0),(10,I (v_8-40)),(11,I (v_9-40)),(12,I (k-1))]) (O:=[(8,.box [Zcj]),(9,.box [.arr 790]),(790,Zef (pts++[(Point.mk x' y' time')])),(7001,Zaa s'_9)]) rfl (⟨.inl rfl,.inl rfl,.inl rfl,.inl rfl,.inl rfl,.inl rfl,.inl rfl,.inl rfl,.inl rfl,trivial⟩) (⟨.inl rfl,.inl rfl,.inr ⟨rfl,(by first|rfl|(simp;done)|(simp;omega)|omega),fun i_ hi_=> .inl (Zec (enc:=Zgw) (xs:=pts) rfl i_ hi_)⟩,.inl rfl,trivial⟩) (Zay ((time'+(1+v_4)),(max 0 (min 4095 (((x'+dx)+v_5)-4))),(max 0 (min 4095 (((y'+dy)+v_6)-4))),(v_8-40),(v_9-40),(k-1),(pts++[(Point.mk x' y' time')]),s'_9) rfl (show (Zbh s'_9∧s'_9.code=s.code∧s.atx≤s'_9.atx∧s'_9.atx≤s.atx+6+12*(10-(k-1)))∧(0≤(k-1)∧(k-1)≤10)∧(((pts++[(Point.mk x' y' time')]).length:Int)+(k-1)≤10∧1≤((pts++[(Point.mk x' y' time')]).length:Int)+(k-1))∧(time≤(time'+(1+v_4))∧(time'+(1+v_4))≤time+21*(10-(k-1)))∧(∀p∈(pts++[(Point.mk x' y' time')]),time≤p.T∧p.T≤time+210)∧(0≤(max 0 (min 4095 (((x'+dx)+v_5)-4)))∧(max 0 (min 4095 (((x'+dx)+v_5)-4)))≤100000∧0≤(max 0 (min 4095 (((y'+dy)+v_6)-4)))∧(max 0 (min 4095 (((y'+dy)+v_6)-4)))≤100000)∧(-40≤(v_8-40)∧(v_8-40)≤60∧-40≤(v_9-40)∧(v_9-40)≤60)∧(dpts (pts++[(Point.mk x' y' time')]) (time'+(1+v_4)))∧(px≤4095∧py≤4095→((max 0 (min 4095 (((x'+dx)+v_5)-4)))≤4095∧(max 0 (min 4095 (((y'+dy)+v_6)-4)))≤4095)∧∀p∈(pts++[(Point.mk x' y' time')]),okP p=true)∧True from ⟨(by exact ⟨by assumption,by first|assumption|rfl|(simp only [*];done),by omega,by omega⟩),om,(by simp;omega),om,(by exact Zjq hp0 (by dsimp only;omega)),om,om,(by exact Zxy hdp rfl om),(by exact fun q=>⟨by have:=(hok q).1;omega,Zjq (hok q).2 (Zrc.2 ⟨by have:=(hok q).1;dsimp only;omega,by have:=(hok q).1;dsimp only;omega,by dsimp only;omega⟩)⟩),trivial⟩) (by first|(show ((k-1).toNat:Nat)<k.toNat;omega)|(dsimp only;omega)))
     subst h2
     refine x_q [(1,.lend [(7001,Zaa s'_6,Zaa s'_7)] [] [(true,.any),(true,.any)] true (Bv false))] [0,1,2,3,8,9,10,11,12,60] [8,9,34,7001] [Zaw Tryz.prog 29 [.ref 7001 0,I 3] (Zae [(7001,Zaa s'_6)]) true (Bv false) (Zae [(7001,Zaa s'_7)])∧(((Zaa s'_6:Ob)=Zaa s'_6∨Zer Zeg true (Zaa s'_6) (Zaa s'_6))∧Zal false (Zaa s'_6))∧True] ⟨⟨hc7,⟨.inl rfl,(by simp [Zal,Zaf,Zai,Zcx])⟩,trivial⟩,trivial⟩ (Zab (Zga (Zbd (Zba 1 (Zab ?_)))))
     refine x_r [] [0,1,2,3,8,9,10,11,12] [8,9,34,7001] [.ref 7001 0,I (time'+(1+v_4)),I (max 0 (min 4095 (((x'+dx)+v_5)-4))),I (max 0 (min 4095 (((y'+dy)+v_6)-4))),.ref 8 0,.ref 9 0,I dx,I dy,I (k-1)] [some (.box [Zcj]),some (.box [.arr 34]),some (.arr 3 (pts.length+1) (Zhc pts.length (Zdy pts) (Zhu [I x',I y',I time'] 3))),some (Zaa s'_7)] [inR .i64 (k-1)] ⟨(Zad om om),trivial⟩ ?_
     refine Zcf [(790,34)] (T:=[(0,.ref 7001 0),(1,I (time'+(1+v_4))),(2,I (max 0 (min 4095 (((x'+dx)+v_5)-4)))),(3,I (max 0 (min 4095 (((y'+dy)+v_6)-4)))),(8,.ref 8 0),(9,.ref 9 0),(10,I dx),(11,I dy),(12,I (k-1))]) (O:=[(8,.box [Zcj]),(9,.box [.arr 790]),(790,Zef (pts++[(Point.mk x' y' time')])),(7001,Zaa s'_7)]) rfl (⟨.inl rfl,.inl rfl,.inl rfl,.inl rfl,.inl rfl,.inl rfl,.inl rfl,.inl rfl,.inl rfl,trivial⟩) (⟨.inl rfl,.inl rfl,.inr ⟨rfl,(by first|rfl|(simp;done)|(simp;omega)|omega),fun i_ hi_=> .inl (Zec (enc:=Zgw) (xs:=pts) rfl i_ hi_)⟩,.inl rfl,trivial⟩) (Zay ((time'+(1+v_4)),(max 0 (min 4095 (((x'+dx)+v_5)-4))),(max 0 (min 4095 (((y'+dy)+v_6)-4))),dx,dy,(k-1),(pts++[(Point.mk x' y' time')]),s'_7) rfl (show (Zbh s'_7∧s'_7.code=s.code∧s.atx≤s'_7.atx∧s'_7.atx≤s.atx+6+12*(10-(k-1)))∧(0≤(k-1)∧(k-1)≤10)∧(((pts++[(Point.mk x' y' time')]).length:Int)+(k-1)≤10∧1≤((pts++[(Point.mk x' y' time')]).length:Int)+(k-1))∧(time≤(time'+(1+v_4))∧(time'+(1+v_4))≤time+21*(10-(k-1)))∧(∀p∈(pts++[(Point.mk x' y' time')]),time≤p.T∧p.T≤time+210)∧(0≤(max 0 (min 4095 (((x'+dx)+v_5)-4)))∧(max 0 (min 4095 (((x'+dx)+v_5)-4)))≤100000∧0≤(max 0 (min 4095 (((y'+dy)+v_6)-4)))∧(max 0 (min 4095 (((y'+dy)+v_6)-4)))≤100000)∧(-40≤dx∧dx≤60∧-40≤dy∧dy≤60)∧(dpts (pts++[(Point.mk x' y' time')]) (time'+(1+v_4)))∧(px≤4095∧py≤4095→((max 0 (min 4095 (((x'+dx)+v_5)-4)))≤4095∧(max 0 (min 4095 (((y'+dy)+v_6)-4)))≤4095)∧∀p∈(pts++[(Point.mk x' y' time')]),okP p=true)∧True from ⟨(by exact ⟨by assumption,by first|assumption|rfl|(simp only [*];done),by omega,by omega⟩),om,(by simp;omega),om,(by exact Zjq hp0 (by dsimp only;omega)),om,om,(by exact Zxy hdp rfl om),(by exact fun q=>⟨by have:=(hok q).1;omega,Zjq (hok q).2 (Zrc.2 ⟨by have:=(hok q).1;dsimp only;omega,by have:=(hok q).1;dsimp only;omega,by dsimp only;omega⟩)⟩),trivial⟩) (by first|(show ((k-1).toNat:Nat)<k.toNat;omega)|(dsimp only;omega)))
    refine x_r [(1,.dec false)] [0,1,2,3,8,9,10,11,12,24] [8,9,790,7001] [.ref 7001 0,I time',I x',I y',.ref 8 0,.ref 9 0,I dx,I dy,I k,Bv false] [some (.box [Zcj]),some (.box [.arr 790]),some (Zef pts),some (Zaa src)] [_] ⟨h1,trivial⟩ (Zab (Zbt rfl (Zcp (Zas ?_))))
    refine Zax ?_
    refine Zat (Zab ?_)
    refine xR [] [8] [8,790,7001] [.ref 8 0] [some (.box [.arr 790]),some (Zef pts),some (Zaa src)] [] trivial (Zdd ?_)
    refine Zcf [(8001,790)] (T:=[(8,.ref 8 0)]) (O:=[(8,.box [.arr 8001]),(7001,Zaa src),(8001,Zef pts)]) rfl (⟨.inl rfl,trivial⟩) (⟨.inl rfl,.inl rfl,.inl rfl,trivial⟩) ?_
    refine Zbw (src,pts) (show (Zbh src)∧(src.code=s.code)∧(s.atx+0≤src.atx∧src.atx≤s.atx+200)∧(1≤pts.length∧pts.length≤10)∧(∀p∈pts,time≤p.T∧p.T≤time+210)∧(px≤4095∧py≤4095→Zbe ⟨pts⟩=true)∧(True) from ⟨(by first|exact fun q=>Zre om om (hok q).2 hdp.2|omega|assumption|(simp_all;done)),(by first|exact fun q=>Zre om om (hok q).2 hdp.2|omega|assumption|(simp_all;done)),(by first|exact fun q=>Zre om om (hok q).2 hdp.2|omega|assumption|(simp_all;done)),(by first|exact fun q=>Zre om om (hok q).2 hdp.2|omega|assumption|(simp_all;done)),(by first|exact fun q=>Zre om om (hok q).2 hdp.2|omega|assumption|(simp_all;done)),(by first|exact fun q=>Zre om om (hok q).2 hdp.2|omega|assumption|(simp_all;done)),trivial⟩) (⟨.inl rfl,.inl rfl,trivial⟩) (.agg [.arr 8001]) (by kernel_rfl) (.inl rfl) (fun h=>by cases h) (fun h=>by cases h)
  obtain ⟨⟨s',pts⟩,⟨hh0,hh1,hh2,hh3,hh4,hh5,_⟩,hc⟩:=hh
  exact ⟨s',pts,hh0,hh1,hh2,hh3,hh4,hh5,hc⟩
theorem Zli (s:Stroke) (hl:1≤s.Points.length):Con Tryz.prog 79 [.ptr false [Zbj false s.Points]] true (I ((at_ s.Points (s.Points.length-1)).T)):=by
 refine Zcm (fn:=Tryz.f79) (nt:=16) Tryz.func79 rfl rfl rfl rfl (by simp [Zaf,Zai,Zil]) fun B hB=> ?_
 refine Zck (x:= .ptr false [Zbj false s.Points]) 0 rfl (fun len_s=> ?_)
 simp [Zei,Zhv,Zgw,Zdy,Zbj] at len_s
 refine aQ [] [0] [] [] hB trivial ?_
 refine aR [] [2] [] [I ((at_ s.Points (((s.Points.length:Int)-1).toNat)).T)] [] [inR .i64 ((s.Points.length:Int)-1),(0:Int)≤((s.Points.length:Int)-1)∧((s.Points.length:Int)-1)<(s.Points.length:Int)] hB ⟨(Zad om om),⟨om,om⟩,trivial⟩ (Zan ?_)
 refine Zao hB (I ((at_ s.Points (((s.Points.length:Int)-1).toNat)).T)) (by kernel_rfl) (.inl (by (have e:((s.Points.length:Int)-1).toNat=s.Points.length-1:=by omega);rw [e])) rfl (fun _=>trivial)
def Zvp (F:Nat) (x:Stroke) (i:Nat):List AV:=[.row F i]
def Zix (F:Nat) (xs:List Stroke) (i:Nat):List AV:=Zvp F (at_ xs i) i
def Zmf (xs:List Stroke) (p:Nat):Nat:=((at_ xs p).Points).length
def Zjr (xs:List Stroke) (p:Nat):Nat→List AV:=Zdy ((at_ xs p).Points)
abbrev Zcq (F:Nat) (xs:List Stroke):Ob:= .oar [F] 1 xs.length (Zix F xs)
abbrev Zci (xs:List Stroke):Ob:= .fam xs.length 3 (Zmf xs) (Zjr xs)
theorem Zya {ob:Nat→Option Ob} {F:Nat} (fr:Bool) (xs:List Stroke) (h:ob F=some (.fam xs.length 3 (Zmf xs) (Zjr xs))):∀i,i<xs.length→AV.idsL (Zbl fr xs i)=[]∧leL ob true (Zix F xs i) (Zbl fr xs i):=
 fun i hi=>And.intro rfl (And.intro (le_row h hi rfl (fun q _=> .inl rfl)) rfl)
theorem Zlj {F j N:Nat} (hF:Nat.beq F j=false) {xs:List Stroke} {x:Stroke} {g:Nat→List AV} (hN:N=xs.length) (hx:AV.joiL j F N (g 0)=Zvp F x N):∀i,i<(xs++[x]).length→AV.joiL j F N (Zhc xs.length (Zix F xs) g i)=Zix F (xs++[x]) i:=by
 subst hN
 intro i hi
 by_cases h:i<xs.length
 ·rw [Znl h]
  simp [Zix,Zvp,Zty h,AV.joiL,AV.joi,hF]
 ·have e:i=xs.length:=by simp at hi;omega
  subst e
  rw [Zlw (Nat.le_refl _),Nat.sub_self,hx]
  simp [Zix,Zpd (Nat.le_refl _),at_]
theorem Zlk {xs:List Stroke} (x:Stroke) {n:Nat} {f:Nat→List AV} (hn:n=x.Points.length) (hf:∀i,i<n→f i=Zdy x.Points i):xs.length+1=(xs++[x]).length∧3=3∧∀p,p<(xs++[x]).length→Zhm xs.length n (Zmf xs) p=Zmf (xs++[x]) p∧∀i,i<Zmf (xs++[x]) p→Zet xs.length f (Zjr xs) p i=Zjr (xs++[x]) p i∨(AV.idsL (Zjr (xs++[x]) p i)=[]∧leL (fun _=>none) false (Zet xs.length f (Zjr xs) p i) (Zjr (xs++[x]) p i)):=by
 refine ⟨by simp,rfl,fun p hp=> ?_⟩
 by_cases h:p<xs.length
 ·have e:Nat.beq p xs.length=false:=Bool.eq_false_iff.2 fun e=>by have:=Nat.eq_of_beq_eq_true e;omega
  simp [Zhm,Zet,e,Zmf,Zjr,Zty h]
 ·have e:p=xs.length:=by simp at hp;omega
  subst e
  have e2:at_ (xs++[x]) xs.length=x:=by simp [Zpd (Nat.le_refl _),at_]
  simp only [Zhm,Zet,Nat.beq_refl,cond_true,Zmf,Zjr,e2]
  exact ⟨hn,fun i hi=> .inl (hf i om)⟩
theorem Yeh (s:l00Src) (most:Int) (hs:Zbh s) (ha:s.atx≤3999999999999992000) (hm:0≤most∧most≤10):∃(s':l00Src) (ss:List Stroke),(Zbh s')∧(s'.code=s.code)∧(s.atx+0≤s'.atx∧s'.atx≤s.atx+4000)∧((ss.length:Int)≤most)∧(Zcs ⟨ss⟩=true)∧Zaw Tryz.prog 37 [.ref 7001 0,I most] (Zae [(7001,Zaa s)]) false (.agg [.arr 8321]) (Zae [(7001,Zaa s'),(8321,Zcq 8322 ss),(8322,Zci ss)]):=by
  have hh:∃r:l00Src×(List Stroke),((Zbh r.1)∧(r.1.code=s.code)∧(s.atx+0≤r.1.atx∧r.1.atx≤s.atx+4000)∧((r.2.length:Int)≤most)∧(Zcs ⟨r.2⟩=true)∧(True))∧Zaw Tryz.prog 37 [.ref 7001 0,I most] (Zae [(7001,Zaa s)]) false (.agg [.arr 8321]) (Zae [(7001,Zaa r.1),(8321,Zcq 8322 r.2),(8322,Zci r.2)]):=by
    refine Zcv (Φ:=fun r:l00Src×(List Stroke)=>(Zbh r.1)∧(r.1.code=s.code)∧(s.atx+0≤r.1.atx∧r.1.atx≤s.atx+4000)∧((r.2.length:Int)≤most)∧(Zcs ⟨r.2⟩=true)∧(True)) [(7001,Zaa s)] (fun r=>[(7001,Zaa r.1),(8321,Zcq 8322 r.2),(8322,Zci r.2)]) (fn:=Tryz.f37) (nt:=75) Tryz.func37 rfl rfl (args:=[.ref 7001 0,I most]) rfl (Zbc (.inr trivial) (Zbc (.inl ⟨rfl,trivial⟩) Zcw)) (res:=fun r=> .agg [.arr 8321]) ?_
    refine xQ [(0,.new 4)] [0,1,4] [4,7001] [] trivial ?_
    refine xQ [(1,.new 5)] [0,1,4,5] [4,5,7001] [] trivial ?_
    refine xQ [] [0,1,4,5,6] [4,5,7001] [] trivial (Zak ?_)
    obtain ⟨v_1,s'_1,hx1_0,hx1_1,hx1_2,hx1_3,hc1⟩:=Zcl s 200 (by first|assumption|(simp only [Zbh] at*;simp_all;done)) om
    refine x_q [(1,.lend [(7001,Zaa s,Zaa s'_1)] [] [(true,.any),(true,.any)] true (I v_1))] [0,1,4,5,6,7] [4,5,7001] [Zaw Tryz.prog 28 [.ref 7001 0,I 200] (Zae [(7001,Zaa s)]) true (I v_1) (Zae [(7001,Zaa s'_1)])∧(((Zaa s:Ob)=Zaa s∨Zer Zeg true (Zaa s) (Zaa s))∧Zal false (Zaa s))∧True] ⟨⟨hc1,⟨.inl rfl,(by simp [Zal,Zaf,Zai,Zcx])⟩,trivial⟩,trivial⟩ (Zab (Zak (Zak ?_)))
    obtain ⟨v_2,s'_2,hx2_0,hx2_1,hx2_2,hx2_3,hc2⟩:=Zcl s'_1 (most+1) (by first|assumption|(simp only [Zbh] at*;simp_all;done)) om
    refine x_r [(3,.lend [(7001,Zaa s'_1,Zaa s'_2)] [] [(true,.any),(true,.any)] true (I v_2))] [0,4,5,6,7,8] [4,5,7001] [.ref 7001 0,.ref 4 0,.ref 5 0,I 0,I v_1,I v_2] [some (.box [Zcj]),some (.box [Zcj]),some (Zaa s'_2)] [inR .i64 (most+1),Zaw Tryz.prog 28 [.ref 7001 0,I (most+1)] (Zae [(7001,Zaa s'_1)]) true (I v_2) (Zae [(7001,Zaa s'_2)])∧(((Zaa s'_1:Ob)=Zaa s'_1∨Zer Zeg true (Zaa s'_1) (Zaa s'_1))∧Zal false (Zaa s'_1))∧True] ⟨(Zad om om),⟨hc2,⟨.inl rfl,(by simp [Zal,Zaf,Zai,Zcx])⟩,trivial⟩,trivial⟩ (Zab (Zbb ?_))
    refine Zka 5 0 750 1 (fun _=>[]) rfl (by kernel_rfl) ?_
    refine x_fam 8322 3 (fun _=>0) (fun _ _=>[]) (by kernel_rfl) ?_
    refine Zdh [] (T:=[(0,.ref 7001 0),(4,.ref 4 0),(5,.ref 5 0),(6,I 0),(7,I v_1),(8,I v_2)]) (O:=[(4,.box [Zcj]),(5,.box [.arr 750]),(750,Zcq 8322 ([]:List Stroke)),(7001,Zaa s'_2),(8322,Zci ([]:List Stroke))]) rfl (⟨.inl rfl,.inl rfl,.inl rfl,.inl rfl,.inl rfl,.inl rfl,trivial⟩) (⟨.inl rfl,.inl rfl,.inr ⟨rfl,rfl,fun i hi=>absurd hi (Nat.not_lt_zero _)⟩,.inl rfl,.inr ⟨rfl,rfl,fun p hp=>absurd hp (Nat.not_lt_zero _)⟩,trivial⟩) ?_
    refine Zdc (X:=Int×Int×Int×(List Stroke)×l00Src) (fun x=>mkS [(0,.ref 7001 0),(4,.ref 4 0),(5,.ref 5 0),(6,I x.1),(7,I x.2.1),(8,I x.2.2.1)] [(4,.box [Zcj]),(5,.box [.arr 750]),(750,Zcq 8322 x.2.2.2.1),(7001,Zaa x.2.2.2.2),(8322,Zci x.2.2.2.1)]) (fun x=>(Zbh x.2.2.2.2∧x.2.2.2.2.code=s.code∧s.atx≤x.2.2.2.2.atx∧x.2.2.2.2.atx≤s.atx+10+260*(most-x.2.2.1))∧(0≤x.2.2.1∧x.2.2.1≤most)∧((x.2.2.2.1.length:Int)+x.2.2.1≤most)∧(0≤x.1∧x.1≤100+500*(most-x.2.2.1))∧(0≤x.2.1∧x.2.1≤200+300*(most-x.2.2.1))∧(Yal x.2.2.2.1 x.1)∧True) (fun x=>x.2.2.1.toNat) (0,v_1,v_2,([]:List Stroke),s'_2) rfl (show (Zbh s'_2∧s'_2.code=s.code∧s.atx≤s'_2.atx∧s'_2.atx≤s.atx+10+260*(most-v_2))∧(0≤v_2∧v_2≤most)∧((([]:List Stroke).length:Int)+v_2≤most)∧(0≤(0:Int)∧(0:Int)≤100+500*(most-v_2))∧(0≤v_1∧v_1≤200+300*(most-v_2))∧(Yal ([]:List Stroke) (0:Int))∧True from ⟨(by exact ⟨by assumption,by first|assumption|rfl|(simp only [*];done),by omega,by omega⟩),om,(by simp;omega),om,om,(by exact Ycq _),trivial⟩) (fun x hI=> ?_)
    obtain ⟨time,x,k,ss,src⟩:=x
    obtain ⟨hs0,hk0,hl0,ht0,hx0,hik,_⟩:(Zbh src∧src.code=s.code∧s.atx≤src.atx∧src.atx≤s.atx+10+260*(most-k))∧(0≤k∧k≤most)∧((ss.length:Int)+k≤most)∧(0≤time∧time≤100+500*(most-k))∧(0≤x∧x≤200+300*(most-k))∧(Yal ss time)∧True:=hI
    show XW _ _ _ _ (mkS [(0,.ref 7001 0),(4,.ref 4 0),(5,.ref 5 0),(6,I time),(7,I x),(8,I k)] [(4,.box [Zcj]),(5,.box [.arr 750]),(750,Zcq 8322 ss),(7001,Zaa src),(8322,Zci ss)]) _ _
    refine Zak (Zak ?_)
    by_cases h1:0<k
    ·refine x_q [(1,.dec true)] [0,4,5,6,7,8,19] [4,5,750,7001,8322] [_] ⟨h1,trivial⟩ (Zab (Zeh (Zbd (Zab (Zak (Zbb (Zak ?_)))))))
     obtain ⟨s'_3,pts_3,hx3_0,hx3_1,hx3_2,hx3_3,hx3_4,hx3_5,hc3⟩:=Zkg src time x 300 (by first|assumption|(simp only [Zbh] at*;simp_all;done)) om om
     have hlt:time≤(at_ (Stroke.mk pts_3).Points ((Stroke.mk pts_3).Points.length-1)).T∧(at_ (Stroke.mk pts_3).Points ((Stroke.mk pts_3).Points.length-1)).T≤time+210:=hx3_4 _ (Ycp (xs:=pts_3) om)
     have hvs:Zbe (Stroke.mk pts_3)=true:=hx3_5 ⟨by omega,by omega⟩
     have hvt:=hx3_4
     refine x_q [(3,.lend [(7001,Zaa src,Zaa s'_3)] [(8001,Zef pts_3)] [(true,.any),(true,.any),(true,.any),(true,.any)] false (.agg [.arr 8001])),(4,.new 9)] [0,4,5,6,7,8,9] [4,5,9,750,7001,8001,8322] [Zaw Tryz.prog 78 [.ref 7001 0,I time,I x,I 300] (Zae [(7001,Zaa src)]) false (.agg [.arr 8001]) (Zae [(7001,Zaa s'_3),(8001,Zef pts_3)])∧(((Zaa src:Ob)=Zaa src∨Zer Zeg true (Zaa src) (Zaa src))∧Zal false (Zaa src))∧True] ⟨⟨hc3,⟨.inl rfl,(by simp [Zal,Zaf,Zai,Zcx])⟩,trivial⟩,trivial⟩ (Zab (Zak (Zak ?_)))
     obtain ⟨v_4,s'_4,hx4_0,hx4_1,hx4_2,hc4⟩:=Zxz s'_3 3 (by first|assumption|(simp only [Zbh] at*;simp_all;done)) om
     rcases Bool.eq_false_or_eq_true v_4 with h2|h2
     ·subst h2
      refine x_q [(1,.lend [(7001,Zaa s'_3,Zaa s'_4)] [] [(true,.any),(true,.any)] true (Bv true))] [0,4,5,6,7,8,9,27] [4,5,9,750,7001,8001,8322] [Zaw Tryz.prog 29 [.ref 7001 0,I 3] (Zae [(7001,Zaa s'_3)]) true (Bv true) (Zae [(7001,Zaa s'_4)])∧(((Zaa s'_3:Ob)=Zaa s'_3∨Zer Zeg true (Zaa s'_3) (Zaa s'_3))∧Zal false (Zaa s'_3))∧True] ⟨⟨hc4,⟨.inl rfl,(by simp [Zal,Zaf,Zai,Zcx])⟩,trivial⟩,trivial⟩ (Zab (Zeh (Zak ?_)))
      obtain ⟨v_5,s'_5,hx5_0,hx5_1,hx5_2,hx5_3,hc5⟩:=Zcl s'_4 (x+60) (by first|assumption|(simp only [Zbh] at*;simp_all;done)) om
      refine x_q [(3,.lend [(7001,Zaa s'_4,Zaa s'_5)] [] [(true,.any),(true,.any)] true (I v_5))] [0,4,5,6,7,8,9,10] [4,5,9,750,7001,8001,8322] [inR .i64 (x+60),Zaw Tryz.prog 28 [.ref 7001 0,I (x+60)] (Zae [(7001,Zaa s'_4)]) true (I v_5) (Zae [(7001,Zaa s'_5)])∧(((Zaa s'_4:Ob)=Zaa s'_4∨Zer Zeg true (Zaa s'_4) (Zaa s'_4))∧Zal false (Zaa s'_4))∧True] ⟨(Zad om om),⟨hc5,⟨.inl rfl,(by simp [Zal,Zaf,Zai,Zcx])⟩,trivial⟩,trivial⟩ (Zab ?_)
      obtain ⟨v_6,s'_6,hx6_0,hx6_1,hx6_2,hx6_3,hc6⟩:=Zcl s'_5 200 (by first|assumption|(simp only [Zbh] at*;simp_all;done)) om
      refine x_q [(5,.lend [(7001,Zaa s'_5,Zaa s'_6)] [] [(true,.any),(true,.any)] true (I v_6)),(10,.new 42)] [0,4,5,7,8,9] [4,5,9,42,750,7001,8322] [Zaw Tryz.prog 28 [.ref 7001 0,I 200] (Zae [(7001,Zaa s'_5)]) true (I v_6) (Zae [(7001,Zaa s'_6)])∧(((Zaa s'_5:Ob)=Zaa s'_5∨Zer Zeg true (Zaa s'_5) (Zaa s'_5))∧Zal false (Zaa s'_5))∧True,inR .i64 (v_5+v_6),inR .i64 (time+5)] ⟨⟨hc6,⟨.inl rfl,(by simp [Zal,Zaf,Zai,Zcx])⟩,trivial⟩,(Zad om om),(Zad om om),trivial⟩ (Zab ?_)
      refine xQ [(3,.new 66),(4,.new 67)] [0,4,5,7,8,9] [4,5,9,42,67,7001,8322] [(ss.length+1)*24≤140737488355328] ⟨om,trivial⟩ ?_
      obtain ⟨v_7,s'_7,hx7_0,hx7_1,hx7_2,hx7_3,hc7⟩:=Zcl s'_6 50 (by first|assumption|(simp only [Zbh] at*;simp_all;done)) om
      refine x_q [(0,.call [(false,.ptr false [Zbj false ([(Point.mk v_5 200 time),(Point.mk (v_5+v_6) 210 (time+5))])])] true (I ((at_ (Stroke.mk ([(Point.mk v_5 200 time),(Point.mk (v_5+v_6) 210 (time+5))])).Points ((Stroke.mk ([(Point.mk v_5 200 time),(Point.mk (v_5+v_6) 210 (time+5))])).Points.length-1)).T))),(3,.lend [(7001,Zaa s'_6,Zaa s'_7)] [] [(true,.any),(true,.any)] true (I v_7))] [0,4,5,6,7,8] [4,5,42,67,7001,8322] [_∧((false=true→true=true)∧AV.idsL [Zbj false ([(Point.mk v_5 200 time),(Point.mk (v_5+v_6) 210 (time+5))])]=[]∧((false=true→true=true)∧3=3∧2=(([(Point.mk v_5 200 time),(Point.mk (v_5+v_6) 210 (time+5))]).length)∧∀i_,i_<(([(Point.mk v_5 200 time),(Point.mk (v_5+v_6) 210 (time+5))]).length)→(Zhu [I v_5,I 200,I time,I (v_5+v_6),I 210,I (time+5)] 3) i_=(Zdy ([(Point.mk v_5 200 time),(Point.mk (v_5+v_6) 210 (time+5))])) i_∨(AV.idsL ((Zdy ([(Point.mk v_5 200 time),(Point.mk (v_5+v_6) 210 (time+5))])) i_)=[]∧leL (fun _=>none) false ((Zhu [I v_5,I 200,I time,I (v_5+v_6),I 210,I (time+5)] 3) i_) ((Zdy ([(Point.mk v_5 200 time),(Point.mk (v_5+v_6) 210 (time+5))])) i_)))∧([]:List AV)=[])∧True,inR .i64 (((at_ (Stroke.mk ([(Point.mk v_5 200 time),(Point.mk (v_5+v_6) 210 (time+5))])).Points ((Stroke.mk ([(Point.mk v_5 200 time),(Point.mk (v_5+v_6) 210 (time+5))])).Points.length-1)).T)+1),Zaw Tryz.prog 28 [.ref 7001 0,I 50] (Zae [(7001,Zaa s'_6)]) true (I v_7) (Zae [(7001,Zaa s'_7)])∧(((Zaa s'_6:Ob)=Zaa s'_6∨Zer Zeg true (Zaa s'_6) (Zaa s'_6))∧Zal false (Zaa s'_6))∧True,inR .i64 ((((at_ (Stroke.mk ([(Point.mk v_5 200 time),(Point.mk (v_5+v_6) 210 (time+5))])).Points ((Stroke.mk ([(Point.mk v_5 200 time),(Point.mk (v_5+v_6) 210 (time+5))])).Points.length-1)).T)+1)+v_7)] ⟨⟨(Zli (Stroke.mk ([(Point.mk v_5 200 time),(Point.mk (v_5+v_6) 210 (time+5))])) (by first|assumption|(simp only;omega)|(simp;done))),⟨(fun h=>by cases h),rfl,⟨⟨(fun h=>by cases h),rfl,(by first|rfl|(simp;done)|(simp;omega)|omega),fun i_ hi_=> .inl (match i_,hi_ with|0,_=>rfl|1,_=>rfl|(i+2),h=>absurd h (by simp))⟩,rfl⟩⟩,trivial⟩,(Zad (by (first|omega|(simp [at_];omega))) (by (first|omega|(simp [at_];omega)))),⟨hc7,⟨.inl rfl,(by simp [Zal,Zaf,Zai,Zcx])⟩,trivial⟩,(Zad (by (first|omega|(simp [at_];omega))) (by (first|omega|(simp [at_];omega)))),trivial⟩ (Zba 1 (Zab ?_))
      refine x_r [] [0,4,5,6,7,8] [4,5,42,67,7001,8322] [.ref 7001 0,.ref 4 0,.ref 5 0,I ((((at_ (Stroke.mk ([(Point.mk v_5 200 time),(Point.mk (v_5+v_6) 210 (time+5))])).Points ((Stroke.mk ([(Point.mk v_5 200 time),(Point.mk (v_5+v_6) 210 (time+5))])).Points.length-1)).T)+1)+v_7),I x,I (k-1)] [some (.box [Zcj]),some (.box [.arr 67]),some (.arr 3 2 (Zhu [I v_5,I 200,I time,I (v_5+v_6),I 210,I (time+5)] 3)),some (.oar [8322,42] 1 (ss.length+1) (Zhc ss.length (Zix 8322 ss) (Zhu [.arr 42] 1))),some (Zaa s'_7),some (Zci ss)] [inR .i64 (k-1)] ⟨(Zad om om),trivial⟩ ?_
      refine Ztw 42 8322 rfl rfl rfl ?_
      refine Zcf [(750,67)] (T:=[(0,.ref 7001 0),(4,.ref 4 0),(5,.ref 5 0),(6,I ((((at_ (Stroke.mk ([(Point.mk v_5 200 time),(Point.mk (v_5+v_6) 210 (time+5))])).Points ((Stroke.mk ([(Point.mk v_5 200 time),(Point.mk (v_5+v_6) 210 (time+5))])).Points.length-1)).T)+1)+v_7)),(7,I x),(8,I (k-1))]) (O:=[(4,.box [Zcj]),(5,.box [.arr 750]),(750,Zcq 8322 (ss++[(Stroke.mk ([(Point.mk v_5 200 time),(Point.mk (v_5+v_6) 210 (time+5))]))])),(7001,Zaa s'_7),(8322,Zci (ss++[(Stroke.mk ([(Point.mk v_5 200 time),(Point.mk (v_5+v_6) 210 (time+5))]))]))]) rfl (⟨.inl rfl,.inl rfl,.inl rfl,.inl rfl,.inl rfl,.inl rfl,trivial⟩) (⟨.inl rfl,.inl rfl,.inr ⟨rfl,rfl,(by simp),fun i hi=> .inl (Zlj rfl rfl rfl i hi)⟩,.inl rfl,.inr (Zlk (Stroke.mk ([(Point.mk v_5 200 time),(Point.mk (v_5+v_6) 210 (time+5))])) (by first|rfl|(simp;done)) (fun i_ hi_=>(match i_,hi_ with|0,_=>rfl|1,_=>rfl|(i+2),h=>absurd h (by simp)))),trivial⟩) (Zay (((((at_ (Stroke.mk ([(Point.mk v_5 200 time),(Point.mk (v_5+v_6) 210 (time+5))])).Points ((Stroke.mk ([(Point.mk v_5 200 time),(Point.mk (v_5+v_6) 210 (time+5))])).Points.length-1)).T)+1)+v_7),x,(k-1),(ss++[(Stroke.mk ([(Point.mk v_5 200 time),(Point.mk (v_5+v_6) 210 (time+5))]))]),s'_7) rfl (show (Zbh s'_7∧s'_7.code=s.code∧s.atx≤s'_7.atx∧s'_7.atx≤s.atx+10+260*(most-(k-1)))∧(0≤(k-1)∧(k-1)≤most)∧(((ss++[(Stroke.mk ([(Point.mk v_5 200 time),(Point.mk (v_5+v_6) 210 (time+5))]))]).length:Int)+(k-1)≤most)∧(0≤((((at_ (Stroke.mk ([(Point.mk v_5 200 time),(Point.mk (v_5+v_6) 210 (time+5))])).Points ((Stroke.mk ([(Point.mk v_5 200 time),(Point.mk (v_5+v_6) 210 (time+5))])).Points.length-1)).T)+1)+v_7)∧((((at_ (Stroke.mk ([(Point.mk v_5 200 time),(Point.mk (v_5+v_6) 210 (time+5))])).Points ((Stroke.mk ([(Point.mk v_5 200 time),(Point.mk (v_5+v_6) 210 (time+5))])).Points.length-1)).T)+1)+v_7)≤100+500*(most-(k-1)))∧(0≤x∧x≤200+300*(most-(k-1)))∧(Yal (ss++[(Stroke.mk ([(Point.mk v_5 200 time),(Point.mk (v_5+v_6) 210 (time+5))]))]) ((((at_ (Stroke.mk ([(Point.mk v_5 200 time),(Point.mk (v_5+v_6) 210 (time+5))])).Points ((Stroke.mk ([(Point.mk v_5 200 time),(Point.mk (v_5+v_6) 210 (time+5))])).Points.length-1)).T)+1)+v_7))∧True from ⟨(by exact ⟨by assumption,by first|assumption|rfl|(simp only [*];done),by omega,by omega⟩),om,(by simp;omega),(by (first|omega|(simp [at_];omega))),om,(by first|exact Zkw hik hvs (fun p hp=>(hvt p hp).1) (by have:=hlt;unfold Zsm;omega) om om|exact Zvo hik om om om (by first|omega|(simp [at_];omega)) om),trivial⟩) (by first|(show ((k-1).toNat:Nat)<k.toNat;omega)|(dsimp only;omega)))
     subst h2
     refine x_q [(1,.lend [(7001,Zaa s'_3,Zaa s'_4)] [] [(true,.any),(true,.any)] true (Bv false))] [0,4,5,6,7,8,9,27] [4,5,9,750,7001,8001,8322] [Zaw Tryz.prog 29 [.ref 7001 0,I 3] (Zae [(7001,Zaa s'_3)]) true (Bv false) (Zae [(7001,Zaa s'_4)])∧(((Zaa s'_3:Ob)=Zaa s'_3∨Zer Zeg true (Zaa s'_3) (Zaa s'_3))∧Zal false (Zaa s'_3))∧True] ⟨⟨hc4,⟨.inl rfl,(by simp [Zal,Zaf,Zai,Zcx])⟩,trivial⟩,trivial⟩ (Zab (Zga (Zak ?_)))
     obtain ⟨v_8,s'_8,hx8_0,hx8_1,hx8_2,hc8⟩:=Zxz s'_4 2 (by first|assumption|(simp only [Zbh] at*;simp_all;done)) om
     rcases Bool.eq_false_or_eq_true v_8 with h3|h3
     ·subst h3
      refine x_q [(1,.lend [(7001,Zaa s'_4,Zaa s'_8)] [] [(true,.any),(true,.any)] true (Bv true))] [0,4,5,6,7,8,9,45] [4,5,9,750,7001,8001,8322] [Zaw Tryz.prog 29 [.ref 7001 0,I 2] (Zae [(7001,Zaa s'_4)]) true (Bv true) (Zae [(7001,Zaa s'_8)])∧(((Zaa s'_4:Ob)=Zaa s'_4∨Zer Zeg true (Zaa s'_4) (Zaa s'_4))∧Zal false (Zaa s'_4))∧True] ⟨⟨hc8,⟨.inl rfl,(by simp [Zal,Zaf,Zai,Zcx])⟩,trivial⟩,trivial⟩ (Zab (Zeh (Zak ?_)))
      obtain ⟨v_9,s'_9,hx9_0,hx9_1,hx9_2,hx9_3,hc9⟩:=Zcl s'_8 300 (by first|assumption|(simp only [Zbh] at*;simp_all;done)) om
      refine x_q [(6,.lend [(7001,Zaa s'_8,Zaa s'_9)] [] [(true,.any),(true,.any)] true (I v_9)),(11,.new 57)] [0,4,5,7,8,9] [4,5,9,57,750,7001,8322] [inR .i64 (x+20),Zaw Tryz.prog 28 [.ref 7001 0,I 300] (Zae [(7001,Zaa s'_8)]) true (I v_9) (Zae [(7001,Zaa s'_9)])∧(((Zaa s'_8:Ob)=Zaa s'_8∨Zer Zeg true (Zaa s'_8) (Zaa s'_8))∧Zal false (Zaa s'_8))∧True,inR .i64 ((x+20)+v_9),inR .i64 (time+9)] ⟨(Zad om om),⟨hc9,⟨.inl rfl,(by simp [Zal,Zaf,Zai,Zcx])⟩,trivial⟩,(Zad om om),(Zad om om),trivial⟩ (Zab ?_)
      obtain ⟨v_10,s'_10,hx10_0,hx10_1,hx10_2,hx10_3,hc10⟩:=Zcl s'_9 300 (by first|assumption|(simp only [Zbh] at*;simp_all;done)) om
      refine x_q [(2,.lend [(7001,Zaa s'_9,Zaa s'_10)] [] [(true,.any),(true,.any)] true (I v_10))] [0,4,5,7,8,9] [4,5,9,57,750,7001,8322] [Zaw Tryz.prog 28 [.ref 7001 0,I 300] (Zae [(7001,Zaa s'_9)]) true (I v_10) (Zae [(7001,Zaa s'_10)])∧(((Zaa s'_9:Ob)=Zaa s'_9∨Zer Zeg true (Zaa s'_9) (Zaa s'_9))∧Zal false (Zaa s'_9))∧True,inR .i64 (x+v_10)] ⟨⟨hc10,⟨.inl rfl,(by simp [Zal,Zaf,Zai,Zcx])⟩,trivial⟩,(Zad om om),trivial⟩ (Zab ?_)
      refine xQ [(3,.new 66),(4,.new 67)] [0,4,5,7,8,9] [4,5,9,57,67,7001,8322] [(ss.length+1)*24≤140737488355328] ⟨om,trivial⟩ ?_
      obtain ⟨v_11,s'_11,hx11_0,hx11_1,hx11_2,hx11_3,hc11⟩:=Zcl s'_10 50 (by first|assumption|(simp only [Zbh] at*;simp_all;done)) om
      refine x_q [(0,.call [(false,.ptr false [Zbj false ([(Point.mk x 200 time),(Point.mk ((x+20)+v_9) 500 (time+9))])])] true (I ((at_ (Stroke.mk ([(Point.mk x 200 time),(Point.mk ((x+20)+v_9) 500 (time+9))])).Points ((Stroke.mk ([(Point.mk x 200 time),(Point.mk ((x+20)+v_9) 500 (time+9))])).Points.length-1)).T))),(3,.lend [(7001,Zaa s'_10,Zaa s'_11)] [] [(true,.any),(true,.any)] true (I v_11))] [0,4,5,6,7,8] [4,5,57,67,7001,8322] [_∧((false=true→true=true)∧AV.idsL [Zbj false ([(Point.mk x 200 time),(Point.mk ((x+20)+v_9) 500 (time+9))])]=[]∧((false=true→true=true)∧3=3∧2=(([(Point.mk x 200 time),(Point.mk ((x+20)+v_9) 500 (time+9))]).length)∧∀i_,i_<(([(Point.mk x 200 time),(Point.mk ((x+20)+v_9) 500 (time+9))]).length)→(Zhu [I x,I 200,I time,I ((x+20)+v_9),I 500,I (time+9)] 3) i_=(Zdy ([(Point.mk x 200 time),(Point.mk ((x+20)+v_9) 500 (time+9))])) i_∨(AV.idsL ((Zdy ([(Point.mk x 200 time),(Point.mk ((x+20)+v_9) 500 (time+9))])) i_)=[]∧leL (fun _=>none) false ((Zhu [I x,I 200,I time,I ((x+20)+v_9),I 500,I (time+9)] 3) i_) ((Zdy ([(Point.mk x 200 time),(Point.mk ((x+20)+v_9) 500 (time+9))])) i_)))∧([]:List AV)=[])∧True,inR .i64 (((at_ (Stroke.mk ([(Point.mk x 200 time),(Point.mk ((x+20)+v_9) 500 (time+9))])).Points ((Stroke.mk ([(Point.mk x 200 time),(Point.mk ((x+20)+v_9) 500 (time+9))])).Points.length-1)).T)+1),Zaw Tryz.prog 28 [.ref 7001 0,I 50] (Zae [(7001,Zaa s'_10)]) true (I v_11) (Zae [(7001,Zaa s'_11)])∧(((Zaa s'_10:Ob)=Zaa s'_10∨Zer Zeg true (Zaa s'_10) (Zaa s'_10))∧Zal false (Zaa s'_10))∧True,inR .i64 ((((at_ (Stroke.mk ([(Point.mk x 200 time),(Point.mk ((x+20)+v_9) 500 (time+9))])).Points ((Stroke.mk ([(Point.mk x 200 time),(Point.mk ((x+20)+v_9) 500 (time+9))])).Points.length-1)).T)+1)+v_11)] ⟨⟨(Zli (Stroke.mk ([(Point.mk x 200 time),(Point.mk ((x+20)+v_9) 500 (time+9))])) (by first|assumption|(simp only;omega)|(simp;done))),⟨(fun h=>by cases h),rfl,⟨⟨(fun h=>by cases h),rfl,(by first|rfl|(simp;done)|(simp;omega)|omega),fun i_ hi_=> .inl (match i_,hi_ with|0,_=>rfl|1,_=>rfl|(i+2),h=>absurd h (by simp))⟩,rfl⟩⟩,trivial⟩,(Zad (by (first|omega|(simp [at_];omega))) (by (first|omega|(simp [at_];omega)))),⟨hc11,⟨.inl rfl,(by simp [Zal,Zaf,Zai,Zcx])⟩,trivial⟩,(Zad (by (first|omega|(simp [at_];omega))) (by (first|omega|(simp [at_];omega)))),trivial⟩ (Zba 1 (Zab ?_))
      refine x_r [] [0,4,5,6,7,8] [4,5,57,67,7001,8322] [.ref 7001 0,.ref 4 0,.ref 5 0,I ((((at_ (Stroke.mk ([(Point.mk x 200 time),(Point.mk ((x+20)+v_9) 500 (time+9))])).Points ((Stroke.mk ([(Point.mk x 200 time),(Point.mk ((x+20)+v_9) 500 (time+9))])).Points.length-1)).T)+1)+v_11),I (x+v_10),I (k-1)] [some (.box [Zcj]),some (.box [.arr 67]),some (.arr 3 2 (Zhu [I x,I 200,I time,I ((x+20)+v_9),I 500,I (time+9)] 3)),some (.oar [8322,57] 1 (ss.length+1) (Zhc ss.length (Zix 8322 ss) (Zhu [.arr 57] 1))),some (Zaa s'_11),some (Zci ss)] [inR .i64 (k-1)] ⟨(Zad om om),trivial⟩ ?_
      refine Ztw 57 8322 rfl rfl rfl ?_
      refine Zcf [(750,67)] (T:=[(0,.ref 7001 0),(4,.ref 4 0),(5,.ref 5 0),(6,I ((((at_ (Stroke.mk ([(Point.mk x 200 time),(Point.mk ((x+20)+v_9) 500 (time+9))])).Points ((Stroke.mk ([(Point.mk x 200 time),(Point.mk ((x+20)+v_9) 500 (time+9))])).Points.length-1)).T)+1)+v_11)),(7,I (x+v_10)),(8,I (k-1))]) (O:=[(4,.box [Zcj]),(5,.box [.arr 750]),(750,Zcq 8322 (ss++[(Stroke.mk ([(Point.mk x 200 time),(Point.mk ((x+20)+v_9) 500 (time+9))]))])),(7001,Zaa s'_11),(8322,Zci (ss++[(Stroke.mk ([(Point.mk x 200 time),(Point.mk ((x+20)+v_9) 500 (time+9))]))]))]) rfl (⟨.inl rfl,.inl rfl,.inl rfl,.inl rfl,.inl rfl,.inl rfl,trivial⟩) (⟨.inl rfl,.inl rfl,.inr ⟨rfl,rfl,(by simp),fun i hi=> .inl (Zlj rfl rfl rfl i hi)⟩,.inl rfl,.inr (Zlk (Stroke.mk ([(Point.mk x 200 time),(Point.mk ((x+20)+v_9) 500 (time+9))])) (by first|rfl|(simp;done)) (fun i_ hi_=>(match i_,hi_ with|0,_=>rfl|1,_=>rfl|(i+2),h=>absurd h (by simp)))),trivial⟩) (Zay (((((at_ (Stroke.mk ([(Point.mk x 200 time),(Point.mk ((x+20)+v_9) 500 (time+9))])).Points ((Stroke.mk ([(Point.mk x 200 time),(Point.mk ((x+20)+v_9) 500 (time+9))])).Points.length-1)).T)+1)+v_11),(x+v_10),(k-1),(ss++[(Stroke.mk ([(Point.mk x 200 time),(Point.mk ((x+20)+v_9) 500 (time+9))]))]),s'_11) rfl (show (Zbh s'_11∧s'_11.code=s.code∧s.atx≤s'_11.atx∧s'_11.atx≤s.atx+10+260*(most-(k-1)))∧(0≤(k-1)∧(k-1)≤most)∧(((ss++[(Stroke.mk ([(Point.mk x 200 time),(Point.mk ((x+20)+v_9) 500 (time+9))]))]).length:Int)+(k-1)≤most)∧(0≤((((at_ (Stroke.mk ([(Point.mk x 200 time),(Point.mk ((x+20)+v_9) 500 (time+9))])).Points ((Stroke.mk ([(Point.mk x 200 time),(Point.mk ((x+20)+v_9) 500 (time+9))])).Points.length-1)).T)+1)+v_11)∧((((at_ (Stroke.mk ([(Point.mk x 200 time),(Point.mk ((x+20)+v_9) 500 (time+9))])).Points ((Stroke.mk ([(Point.mk x 200 time),(Point.mk ((x+20)+v_9) 500 (time+9))])).Points.length-1)).T)+1)+v_11)≤100+500*(most-(k-1)))∧(0≤(x+v_10)∧(x+v_10)≤200+300*(most-(k-1)))∧(Yal (ss++[(Stroke.mk ([(Point.mk x 200 time),(Point.mk ((x+20)+v_9) 500 (time+9))]))]) ((((at_ (Stroke.mk ([(Point.mk x 200 time),(Point.mk ((x+20)+v_9) 500 (time+9))])).Points ((Stroke.mk ([(Point.mk x 200 time),(Point.mk ((x+20)+v_9) 500 (time+9))])).Points.length-1)).T)+1)+v_11))∧True from ⟨(by exact ⟨by assumption,by first|assumption|rfl|(simp only [*];done),by omega,by omega⟩),om,(by simp;omega),(by (first|omega|(simp [at_];omega))),om,(by first|exact Zkw hik hvs (fun p hp=>(hvt p hp).1) (by have:=hlt;unfold Zsm;omega) om om|exact Zvo hik om om om (by first|omega|(simp [at_];omega)) om),trivial⟩) (by first|(show ((k-1).toNat:Nat)<k.toNat;omega)|(dsimp only;omega)))
     subst h3
     refine x_q [(1,.lend [(7001,Zaa s'_4,Zaa s'_8)] [] [(true,.any),(true,.any)] true (Bv false))] [0,4,5,6,7,8,9,45] [4,5,9,750,7001,8001,8322] [Zaw Tryz.prog 29 [.ref 7001 0,I 2] (Zae [(7001,Zaa s'_4)]) true (Bv false) (Zae [(7001,Zaa s'_8)])∧(((Zaa s'_4:Ob)=Zaa s'_4∨Zer Zeg true (Zaa s'_4) (Zaa s'_4))∧Zal false (Zaa s'_4))∧True] ⟨⟨hc8,⟨.inl rfl,(by simp [Zal,Zaf,Zai,Zcx])⟩,trivial⟩,trivial⟩ (Zab (Zga (Zbd (Zab ?_))))
     refine xQ [(3,.new 66),(4,.new 67)] [0,4,5,7,8,9] [4,5,9,67,7001,8001,8322] [(ss.length+1)*24≤140737488355328] ⟨om,trivial⟩ ?_
     obtain ⟨v_12,s'_12,hx12_0,hx12_1,hx12_2,hx12_3,hc12⟩:=Zcl s'_8 50 (by first|assumption|(simp only [Zbh] at*;simp_all;done)) om
     refine x_q [(0,.call [(false,.ptr false [Zbj false pts_3])] true (I ((at_ (Stroke.mk pts_3).Points ((Stroke.mk pts_3).Points.length-1)).T))),(3,.lend [(7001,Zaa s'_8,Zaa s'_12)] [] [(true,.any),(true,.any)] true (I v_12))] [0,4,5,6,7,8] [4,5,67,7001,8001,8322] [_∧((false=true→true=true)∧AV.idsL [Zbj false pts_3]=[]∧((false=true→true=true)∧3=3∧pts_3.length=pts_3.length∧∀i_,i_<pts_3.length→(Zdy pts_3) i_=(Zdy pts_3) i_∨(AV.idsL ((Zdy pts_3) i_)=[]∧leL (fun _=>none) false ((Zdy pts_3) i_) ((Zdy pts_3) i_)))∧([]:List AV)=[])∧True,inR .i64 (((at_ (Stroke.mk pts_3).Points ((Stroke.mk pts_3).Points.length-1)).T)+1),Zaw Tryz.prog 28 [.ref 7001 0,I 50] (Zae [(7001,Zaa s'_8)]) true (I v_12) (Zae [(7001,Zaa s'_12)])∧(((Zaa s'_8:Ob)=Zaa s'_8∨Zer Zeg true (Zaa s'_8) (Zaa s'_8))∧Zal false (Zaa s'_8))∧True,inR .i64 ((((at_ (Stroke.mk pts_3).Points ((Stroke.mk pts_3).Points.length-1)).T)+1)+v_12)] ⟨⟨(Zli (Stroke.mk pts_3) (by first|assumption|(simp only;omega)|(simp;done))),⟨(fun h=>by cases h),rfl,⟨⟨(fun h=>by cases h),rfl,rfl,fun i _=> .inl rfl⟩,rfl⟩⟩,trivial⟩,(Zad (by (first|omega|(simp [at_];omega))) (by (first|omega|(simp [at_];omega)))),⟨hc12,⟨.inl rfl,(by simp [Zal,Zaf,Zai,Zcx])⟩,trivial⟩,(Zad (by (first|omega|(simp [at_];omega))) (by (first|omega|(simp [at_];omega)))),trivial⟩ (Zba 1 (Zab ?_))
     refine x_r [] [0,4,5,6,7,8] [4,5,67,7001,8001,8322] [.ref 7001 0,.ref 4 0,.ref 5 0,I ((((at_ (Stroke.mk pts_3).Points ((Stroke.mk pts_3).Points.length-1)).T)+1)+v_12),I x,I (k-1)] [some (.box [Zcj]),some (.box [.arr 67]),some (.oar [8322,8001] 1 (ss.length+1) (Zhc ss.length (Zix 8322 ss) (Zhu [.arr 8001] 1))),some (Zaa s'_12),some (Zef pts_3),some (Zci ss)] [inR .i64 (k-1)] ⟨(Zad om om),trivial⟩ ?_
     refine Ztw 8001 8322 rfl rfl rfl ?_
     refine Zcf [(750,67)] (T:=[(0,.ref 7001 0),(4,.ref 4 0),(5,.ref 5 0),(6,I ((((at_ (Stroke.mk pts_3).Points ((Stroke.mk pts_3).Points.length-1)).T)+1)+v_12)),(7,I x),(8,I (k-1))]) (O:=[(4,.box [Zcj]),(5,.box [.arr 750]),(750,Zcq 8322 (ss++[(Stroke.mk pts_3)])),(7001,Zaa s'_12),(8322,Zci (ss++[(Stroke.mk pts_3)]))]) rfl (⟨.inl rfl,.inl rfl,.inl rfl,.inl rfl,.inl rfl,.inl rfl,trivial⟩) (⟨.inl rfl,.inl rfl,.inr ⟨rfl,rfl,(by simp),fun i hi=> .inl (Zlj rfl rfl rfl i hi)⟩,.inl rfl,.inr (Zlk (Stroke.mk pts_3) (by first|rfl|(simp;done)) (fun i_ hi_=>(by first|rfl|fail))),trivial⟩) (Zay (((((at_ (Stroke.mk pts_3).Points ((Stroke.mk pts_3).Points.length-1)).T)+1)+v_12),x,(k-1),(ss++[(Stroke.mk pts_3)]),s'_12) rfl (show (Zbh s'_12∧s'_12.code=s.code∧s.atx≤s'_12.atx∧s'_12.atx≤s.atx+10+260*(most-(k-1)))∧(0≤(k-1)∧(k-1)≤most)∧(((ss++[(Stroke.mk pts_3)]).length:Int)+(k-1)≤most)∧(0≤((((at_ (Stroke.mk pts_3).Points ((Stroke.mk pts_3).Points.length-1)).T)+1)+v_12)∧((((at_ (Stroke.mk pts_3).Points ((Stroke.mk pts_3).Points.length-1)).T)+1)+v_12)≤100+500*(most-(k-1)))∧(0≤x∧x≤200+300*(most-(k-1)))∧(Yal (ss++[(Stroke.mk pts_3)]) ((((at_ (Stroke.mk pts_3).Points ((Stroke.mk pts_3).Points.length-1)).T)+1)+v_12))∧True from ⟨(by exact ⟨by assumption,by first|assumption|rfl|(simp only [*];done),by omega,by omega⟩),om,(by simp;omega),(by (first|omega|(simp [at_];omega))),om,(by first|exact Zkw hik hvs (fun p hp=>(hvt p hp).1) (by have:=hlt;unfold Zsm;omega) om om|exact Zvo hik om om om (by first|omega|(simp [at_];omega)) om),trivial⟩) (by first|(show ((k-1).toNat:Nat)<k.toNat;omega)|(dsimp only;omega)))
    refine x_r [(1,.dec false)] [0,4,5,6,7,8,19] [4,5,750,7001,8322] [.ref 7001 0,.ref 4 0,.ref 5 0,I time,I x,I k,Bv false] [some (.box [Zcj]),some (.box [.arr 750]),some (Zcq 8322 ss),some (Zaa src),some (Zci ss)] [_] ⟨h1,trivial⟩ (Zab (Zbt rfl (Zcp (Zas ?_))))
    refine Zax ?_
    refine Zat (Zab ?_)
    refine xR [] [4] [4,750,7001,8322] [.ref 4 0] [some (.box [.arr 750]),some (Zcq 8322 ss),some (Zaa src),some (Zci ss)] [] trivial (Zdd ?_)
    refine Zcf [(8321,750)] (T:=[(4,.ref 4 0)]) (O:=[(4,.box [.arr 8321]),(7001,Zaa src),(8321,Zcq 8322 ss),(8322,Zci ss)]) rfl (⟨.inl rfl,trivial⟩) (⟨.inl rfl,.inl rfl,.inl rfl,.inl rfl,trivial⟩) ?_
    refine Zbw (src,ss) (show (Zbh src)∧(src.code=s.code)∧(s.atx+0≤src.atx∧src.atx≤s.atx+4000)∧((ss.length:Int)≤most)∧(Zcs ⟨ss⟩=true)∧(True) from ⟨(by first|exact hik.1|omega|assumption|rfl|(simp;done)|(simp;omega)|(simp_all;done)),(by first|exact hik.1|omega|assumption|rfl|(simp;done)|(simp;omega)|(simp_all;done)),(by first|exact hik.1|omega|assumption|rfl|(simp;done)|(simp;omega)|(simp_all;done)),(by first|exact hik.1|omega|assumption|rfl|(simp;done)|(simp;omega)|(simp_all;done)),(by first|exact hik.1|omega|assumption|rfl|(simp;done)|(simp;omega)|(simp_all;done)),trivial⟩) (⟨.inl rfl,.inl rfl,.inl rfl,trivial⟩) (.agg [.arr 8321]) (by kernel_rfl) (.inl rfl) (fun h=>by cases h) (fun h=>by cases h)
  obtain ⟨⟨s',ss⟩,⟨hh0,hh1,hh2,hh3,hh4,_⟩,hc⟩:=hh
  exact ⟨s',ss,hh0,hh1,hh2,hh3,hh4,hc⟩
theorem Yei (s:l00Src) (most:Int) (hs:Zbh s) (ha:s.atx≤3999999999999995000) (hm:0≤most∧most≤10):∃(s':l00Src) (ss:List Stroke),(Zbh s')∧(s'.code=s.code)∧(s.atx+0≤s'.atx∧s'.atx≤s.atx+3000)∧((ss.length:Int)≤most)∧(∀t∈ss,1≤t.Points.length∧t.Points.length≤10)∧(Zcs ⟨ss⟩=true)∧Zaw Tryz.prog 38 [.ref 7001 0,I most] (Zae [(7001,Zaa s)]) false (.agg [.arr 8011]) (Zae [(7001,Zaa s'),(8011,Zcq 8012 ss),(8012,Zci ss)]):=by
  have hh:∃r:l00Src×(List Stroke),((Zbh r.1)∧(r.1.code=s.code)∧(s.atx+0≤r.1.atx∧r.1.atx≤s.atx+3000)∧((r.2.length:Int)≤most)∧(∀t∈r.2,1≤t.Points.length∧t.Points.length≤10)∧(Zcs ⟨r.2⟩=true)∧(True))∧Zaw Tryz.prog 38 [.ref 7001 0,I most] (Zae [(7001,Zaa s)]) false (.agg [.arr 8011]) (Zae [(7001,Zaa r.1),(8011,Zcq 8012 r.2),(8012,Zci r.2)]):=by
    refine Zcv (Φ:=fun r:l00Src×(List Stroke)=>(Zbh r.1)∧(r.1.code=s.code)∧(s.atx+0≤r.1.atx∧r.1.atx≤s.atx+3000)∧((r.2.length:Int)≤most)∧(∀t∈r.2,1≤t.Points.length∧t.Points.length≤10)∧(Zcs ⟨r.2⟩=true)∧(True)) [(7001,Zaa s)] (fun r=>[(7001,Zaa r.1),(8011,Zcq 8012 r.2),(8012,Zci r.2)]) (fn:=Tryz.f38) (nt:=47) Tryz.func38 rfl rfl (args:=[.ref 7001 0,I most]) rfl (Zbc (.inr trivial) (Zbc (.inl ⟨rfl,trivial⟩) Zcw)) (res:=fun r=> .agg [.arr 8011]) ?_
    refine xQ [(0,.new 4)] [0,1,4] [4,7001] [] trivial ?_
    refine xQ [(1,.new 5)] [0,1,4,5] [4,5,7001] [] trivial (Zak ?_)
    obtain ⟨v_1,s'_1,hx1_0,hx1_1,hx1_2,hx1_3,hc1⟩:=Zcl s 100 (by first|assumption|(simp only [Zbh] at*;simp_all;done)) om
    refine x_q [(1,.lend [(7001,Zaa s,Zaa s'_1)] [] [(true,.any),(true,.any)] true (I v_1))] [0,1,4,5,6] [4,5,7001] [Zaw Tryz.prog 28 [.ref 7001 0,I 100] (Zae [(7001,Zaa s)]) true (I v_1) (Zae [(7001,Zaa s'_1)])∧(((Zaa s:Ob)=Zaa s∨Zer Zeg true (Zaa s) (Zaa s))∧Zal false (Zaa s))∧True] ⟨⟨hc1,⟨.inl rfl,(by simp [Zal,Zaf,Zai,Zcx])⟩,trivial⟩,trivial⟩ (Zab (Zak ?_))
    obtain ⟨v_2,s'_2,hx2_0,hx2_1,hx2_2,hx2_3,hc2⟩:=Zcl s'_1 200 (by first|assumption|(simp only [Zbh] at*;simp_all;done)) om
    refine x_q [(1,.lend [(7001,Zaa s'_1,Zaa s'_2)] [] [(true,.any),(true,.any)] true (I v_2))] [0,1,4,5,6,7] [4,5,7001] [Zaw Tryz.prog 28 [.ref 7001 0,I 200] (Zae [(7001,Zaa s'_1)]) true (I v_2) (Zae [(7001,Zaa s'_2)])∧(((Zaa s'_1:Ob)=Zaa s'_1∨Zer Zeg true (Zaa s'_1) (Zaa s'_1))∧Zal false (Zaa s'_1))∧True,inR .i64 (100+v_2)] ⟨⟨hc2,⟨.inl rfl,(by simp [Zal,Zaf,Zai,Zcx])⟩,trivial⟩,(Zad om om),trivial⟩ (Zab (Zak (Zak ?_)))
    obtain ⟨v_3,s'_3,hx3_0,hx3_1,hx3_2,hx3_3,hc3⟩:=Zcl s'_2 (most+1) (by first|assumption|(simp only [Zbh] at*;simp_all;done)) om
    refine x_r [(3,.lend [(7001,Zaa s'_2,Zaa s'_3)] [] [(true,.any),(true,.any)] true (I v_3))] [0,4,5,6,7,8] [4,5,7001] [.ref 7001 0,.ref 4 0,.ref 5 0,I v_1,I (100+v_2),I v_3] [some (.box [Zcj]),some (.box [Zcj]),some (Zaa s'_3)] [inR .i64 (most+1),Zaw Tryz.prog 28 [.ref 7001 0,I (most+1)] (Zae [(7001,Zaa s'_2)]) true (I v_3) (Zae [(7001,Zaa s'_3)])∧(((Zaa s'_2:Ob)=Zaa s'_2∨Zer Zeg true (Zaa s'_2) (Zaa s'_2))∧Zal false (Zaa s'_2))∧True] ⟨(Zad om om),⟨hc3,⟨.inl rfl,(by simp [Zal,Zaf,Zai,Zcx])⟩,trivial⟩,trivial⟩ (Zab (Zbb ?_))
    refine Zka 5 0 750 1 (fun _=>[]) rfl (by kernel_rfl) ?_
    refine x_fam 8012 3 (fun _=>0) (fun _ _=>[]) (by kernel_rfl) ?_
    refine Zdh [] (T:=[(0,.ref 7001 0),(4,.ref 4 0),(5,.ref 5 0),(6,I v_1),(7,I (100+v_2)),(8,I v_3)]) (O:=[(4,.box [Zcj]),(5,.box [.arr 750]),(750,Zcq 8012 ([]:List Stroke)),(7001,Zaa s'_3),(8012,Zci ([]:List Stroke))]) rfl (⟨.inl rfl,.inl rfl,.inl rfl,.inl rfl,.inl rfl,.inl rfl,trivial⟩) (⟨.inl rfl,.inl rfl,.inr ⟨rfl,rfl,fun i hi=>absurd hi (Nat.not_lt_zero _)⟩,.inl rfl,.inr ⟨rfl,rfl,fun p hp=>absurd hp (Nat.not_lt_zero _)⟩,trivial⟩) ?_
    refine Zdc (X:=Int×Int×Int×(List Stroke)×l00Src) (fun x=>mkS [(0,.ref 7001 0),(4,.ref 4 0),(5,.ref 5 0),(6,I x.1),(7,I x.2.1),(8,I x.2.2.1)] [(4,.box [Zcj]),(5,.box [.arr 750]),(750,Zcq 8012 x.2.2.2.1),(7001,Zaa x.2.2.2.2),(8012,Zci x.2.2.2.1)]) (fun x=>(Zbh x.2.2.2.2∧x.2.2.2.2.code=s.code∧s.atx≤x.2.2.2.2.atx∧x.2.2.2.2.atx≤s.atx+10+210*(most-x.2.2.1))∧(0≤x.2.2.1∧x.2.2.1≤most)∧((x.2.2.2.1.length:Int)+x.2.2.1≤most)∧(0≤x.1∧x.1≤100+500*(most-x.2.2.1))∧(∀t∈x.2.2.2.1,1≤t.Points.length∧t.Points.length≤10)∧(0≤x.2.1∧x.2.1≤300+200*(most-x.2.2.1))∧(Yal x.2.2.2.1 x.1)∧True) (fun x=>x.2.2.1.toNat) (v_1,(100+v_2),v_3,([]:List Stroke),s'_3) rfl (show (Zbh s'_3∧s'_3.code=s.code∧s.atx≤s'_3.atx∧s'_3.atx≤s.atx+10+210*(most-v_3))∧(0≤v_3∧v_3≤most)∧((([]:List Stroke).length:Int)+v_3≤most)∧(0≤v_1∧v_1≤100+500*(most-v_3))∧(∀t∈([]:List Stroke),1≤t.Points.length∧t.Points.length≤10)∧(0≤(100+v_2)∧(100+v_2)≤300+200*(most-v_3))∧(Yal ([]:List Stroke) v_1)∧True from ⟨(by exact ⟨by assumption,by first|assumption|rfl|(simp only [*];done),by omega,by omega⟩),om,(by simp;omega),om,(by (intro z hz;simp at hz)),om,(by exact Ycq _),trivial⟩) (fun x hI=> ?_)
    obtain ⟨time,x,k,ss,src⟩:=x
    obtain ⟨hs0,hk0,hl0,ht0,hp0,hx0,hik,_⟩:(Zbh src∧src.code=s.code∧s.atx≤src.atx∧src.atx≤s.atx+10+210*(most-k))∧(0≤k∧k≤most)∧((ss.length:Int)+k≤most)∧(0≤time∧time≤100+500*(most-k))∧(∀t∈ss,1≤t.Points.length∧t.Points.length≤10)∧(0≤x∧x≤300+200*(most-k))∧(Yal ss time)∧True:=hI
    show XW _ _ _ _ (mkS [(0,.ref 7001 0),(4,.ref 4 0),(5,.ref 5 0),(6,I time),(7,I x),(8,I k)] [(4,.box [Zcj]),(5,.box [.arr 750]),(750,Zcq 8012 ss),(7001,Zaa src),(8012,Zci ss)]) _ _
    refine Zak (Zak ?_)
    by_cases h1:0<k
    ·refine x_q [(1,.dec true)] [0,4,5,6,7,8,21] [4,5,750,7001,8012] [_] ⟨h1,trivial⟩ (Zab (Zeh (Zbd (Zab (Zak (Zbb (Zak ?_)))))))
     obtain ⟨v_4,s'_4,hx4_0,hx4_1,hx4_2,hx4_3,hc4⟩:=Zcl src 200 (by first|assumption|(simp only [Zbh] at*;simp_all;done)) om
     obtain ⟨s'_5,pts_5,hx5_0,hx5_1,hx5_2,hx5_3,hx5_4,hx5_5,hc5⟩:=Zkg s'_4 time x (300+v_4) (by first|assumption|(simp only [Zbh] at*;simp_all;done)) om om
     have hlt:time≤(at_ (Stroke.mk pts_5).Points ((Stroke.mk pts_5).Points.length-1)).T∧(at_ (Stroke.mk pts_5).Points ((Stroke.mk pts_5).Points.length-1)).T≤time+210:=hx5_4 _ (Ycp (xs:=pts_5) om)
     have hvs:Zbe (Stroke.mk pts_5)=true:=hx5_5 ⟨by omega,by omega⟩
     have hvt:=hx5_4
     refine x_q [(4,.lend [(7001,Zaa src,Zaa s'_4)] [] [(true,.any),(true,.any)] true (I v_4)),(6,.lend [(7001,Zaa s'_4,Zaa s'_5)] [(8001,Zef pts_5)] [(true,.any),(true,.any),(true,.any),(true,.any)] false (.agg [.arr 8001])),(7,.new 9)] [0,4,5,7,8,9] [4,5,9,750,7001,8001,8012] [Zaw Tryz.prog 28 [.ref 7001 0,I 200] (Zae [(7001,Zaa src)]) true (I v_4) (Zae [(7001,Zaa s'_4)])∧(((Zaa src:Ob)=Zaa src∨Zer Zeg true (Zaa src) (Zaa src))∧Zal false (Zaa src))∧True,inR .i64 (300+v_4),Zaw Tryz.prog 78 [.ref 7001 0,I time,I x,I (300+v_4)] (Zae [(7001,Zaa s'_4)]) false (.agg [.arr 8001]) (Zae [(7001,Zaa s'_5),(8001,Zef pts_5)])∧(((Zaa s'_4:Ob)=Zaa s'_4∨Zer Zeg true (Zaa s'_4) (Zaa s'_4))∧Zal false (Zaa s'_4))∧True] ⟨⟨hc4,⟨.inl rfl,(by simp [Zal,Zaf,Zai,Zcx])⟩,trivial⟩,(Zad om om),⟨hc5,⟨.inl rfl,(by simp [Zal,Zaf,Zai,Zcx])⟩,trivial⟩,trivial⟩ (Zab ?_)
     refine xQ [(3,.new 34),(4,.new 35)] [0,4,5,7,8,9] [4,5,9,35,7001,8001,8012] [(ss.length+1)*24≤140737488355328] ⟨om,trivial⟩ (Zak ?_)
     obtain ⟨v_6,s'_6,hx6_0,hx6_1,hx6_2,hx6_3,hc6⟩:=Zcl s'_5 200 (by first|assumption|(simp only [Zbh] at*;simp_all;done)) om
     refine x_q [(0,.call [(false,.ptr false [Zbj false pts_5])] true (I ((at_ (Stroke.mk pts_5).Points ((Stroke.mk pts_5).Points.length-1)).T))),(3,.lend [(7001,Zaa s'_5,Zaa s'_6)] [] [(true,.any),(true,.any)] true (I v_6))] [0,4,5,6,7,8] [4,5,35,7001,8001,8012] [_∧((false=true→true=true)∧AV.idsL [Zbj false pts_5]=[]∧((false=true→true=true)∧3=3∧pts_5.length=pts_5.length∧∀i_,i_<pts_5.length→(Zdy pts_5) i_=(Zdy pts_5) i_∨(AV.idsL ((Zdy pts_5) i_)=[]∧leL (fun _=>none) false ((Zdy pts_5) i_) ((Zdy pts_5) i_)))∧([]:List AV)=[])∧True,inR .i64 (((at_ (Stroke.mk pts_5).Points ((Stroke.mk pts_5).Points.length-1)).T)+1),Zaw Tryz.prog 28 [.ref 7001 0,I 200] (Zae [(7001,Zaa s'_5)]) true (I v_6) (Zae [(7001,Zaa s'_6)])∧(((Zaa s'_5:Ob)=Zaa s'_5∨Zer Zeg true (Zaa s'_5) (Zaa s'_5))∧Zal false (Zaa s'_5))∧True,inR .i64 ((((at_ (Stroke.mk pts_5).Points ((Stroke.mk pts_5).Points.length-1)).T)+1)+v_6)] ⟨⟨(Zli (Stroke.mk pts_5) (by first|assumption|(simp only;omega))),⟨(fun h=>by cases h),rfl,⟨⟨(fun h=>by cases h),rfl,rfl,fun i _=> .inl rfl⟩,rfl⟩⟩,trivial⟩,(Zad om om),⟨hc6,⟨.inl rfl,(by simp [Zal,Zaf,Zai,Zcx])⟩,trivial⟩,(Zad om om),trivial⟩ (Zab ?_)
     obtain ⟨v_7,s'_7,hx7_0,hx7_1,hx7_2,hx7_3,hc7⟩:=Zcl s'_6 200 (by first|assumption|(simp only [Zbh] at*;simp_all;done)) om
     refine x_q [(2,.lend [(7001,Zaa s'_6,Zaa s'_7)] [] [(true,.any),(true,.any)] true (I v_7))] [0,4,5,6,7,8] [4,5,35,7001,8001,8012] [Zaw Tryz.prog 28 [.ref 7001 0,I 200] (Zae [(7001,Zaa s'_6)]) true (I v_7) (Zae [(7001,Zaa s'_7)])∧(((Zaa s'_6:Ob)=Zaa s'_6∨Zer Zeg true (Zaa s'_6) (Zaa s'_6))∧Zal false (Zaa s'_6))∧True,inR .i64 (x+v_7)] ⟨⟨hc7,⟨.inl rfl,(by simp [Zal,Zaf,Zai,Zcx])⟩,trivial⟩,(Zad om om),trivial⟩ (Zba 1 (Zab ?_))
     refine x_r [] [0,4,5,6,7,8] [4,5,35,7001,8001,8012] [.ref 7001 0,.ref 4 0,.ref 5 0,I ((((at_ (Stroke.mk pts_5).Points ((Stroke.mk pts_5).Points.length-1)).T)+1)+v_6),I (x+v_7),I (k-1)] [some (.box [Zcj]),some (.box [.arr 35]),some (.oar [8012,8001] 1 (ss.length+1) (Zhc ss.length (Zix 8012 ss) (Zhu [.arr 8001] 1))),some (Zaa s'_7),some (Zef pts_5),some (Zci ss)] [inR .i64 (k-1)] ⟨(Zad om om),trivial⟩ ?_
     refine Ztw 8001 8012 rfl rfl rfl ?_
     refine Zcf [(750,35)] (T:=[(0,.ref 7001 0),(4,.ref 4 0),(5,.ref 5 0),(6,I ((((at_ (Stroke.mk pts_5).Points ((Stroke.mk pts_5).Points.length-1)).T)+1)+v_6)),(7,I (x+v_7)),(8,I (k-1))]) (O:=[(4,.box [Zcj]),(5,.box [.arr 750]),(750,Zcq 8012 (ss++[(Stroke.mk pts_5)])),(7001,Zaa s'_7),(8012,Zci (ss++[(Stroke.mk pts_5)]))]) rfl (⟨.inl rfl,.inl rfl,.inl rfl,.inl rfl,.inl rfl,.inl rfl,trivial⟩) (⟨.inl rfl,.inl rfl,.inr ⟨rfl,rfl,(by simp),fun i hi=> .inl (Zlj rfl rfl rfl i hi)⟩,.inl rfl,.inr (Zlk (Stroke.mk pts_5) (by first|rfl|(simp;done)) (fun i_ hi_=>(by first|rfl|fail))),trivial⟩) (Zay (((((at_ (Stroke.mk pts_5).Points ((Stroke.mk pts_5).Points.length-1)).T)+1)+v_6),(x+v_7),(k-1),(ss++[(Stroke.mk pts_5)]),s'_7) rfl (show (Zbh s'_7∧s'_7.code=s.code∧s.atx≤s'_7.atx∧s'_7.atx≤s.atx+10+210*(most-(k-1)))∧(0≤(k-1)∧(k-1)≤most)∧(((ss++[(Stroke.mk pts_5)]).length:Int)+(k-1)≤most)∧(0≤((((at_ (Stroke.mk pts_5).Points ((Stroke.mk pts_5).Points.length-1)).T)+1)+v_6)∧((((at_ (Stroke.mk pts_5).Points ((Stroke.mk pts_5).Points.length-1)).T)+1)+v_6)≤100+500*(most-(k-1)))∧(∀t∈(ss++[(Stroke.mk pts_5)]),1≤t.Points.length∧t.Points.length≤10)∧(0≤(x+v_7)∧(x+v_7)≤300+200*(most-(k-1)))∧(Yal (ss++[(Stroke.mk pts_5)]) ((((at_ (Stroke.mk pts_5).Points ((Stroke.mk pts_5).Points.length-1)).T)+1)+v_6))∧True from ⟨(by exact ⟨by assumption,by first|assumption|rfl|(simp only [*];done),by omega,by omega⟩),om,(by simp;omega),om,(by exact Zjq hp0 (by dsimp only;omega)),om,(by exact Zkw hik hvs (fun p hp=>(hvt p hp).1) (by have:=hlt;unfold Zsm;omega) om om),trivial⟩) (by first|(show ((k-1).toNat:Nat)<k.toNat;omega)|(dsimp only;omega)))
    refine x_r [(1,.dec false)] [0,4,5,6,7,8,21] [4,5,750,7001,8012] [.ref 7001 0,.ref 4 0,.ref 5 0,I time,I x,I k,Bv false] [some (.box [Zcj]),some (.box [.arr 750]),some (Zcq 8012 ss),some (Zaa src),some (Zci ss)] [_] ⟨h1,trivial⟩ (Zab (Zbt rfl (Zcp (Zas ?_))))
    refine Zax ?_
    refine Zat (Zab ?_)
    refine xR [] [4] [4,750,7001,8012] [.ref 4 0] [some (.box [.arr 750]),some (Zcq 8012 ss),some (Zaa src),some (Zci ss)] [] trivial (Zdd ?_)
    refine Zcf [(8011,750)] (T:=[(4,.ref 4 0)]) (O:=[(4,.box [.arr 8011]),(7001,Zaa src),(8011,Zcq 8012 ss),(8012,Zci ss)]) rfl (⟨.inl rfl,trivial⟩) (⟨.inl rfl,.inl rfl,.inl rfl,.inl rfl,trivial⟩) ?_
    refine Zbw (src,ss) (show (Zbh src)∧(src.code=s.code)∧(s.atx+0≤src.atx∧src.atx≤s.atx+3000)∧((ss.length:Int)≤most)∧(∀t∈ss,1≤t.Points.length∧t.Points.length≤10)∧(Zcs ⟨ss⟩=true)∧(True) from ⟨(by first|exact hik.1|omega|assumption|rfl|(simp;done)|(simp;omega)|(simp_all;done)),(by first|exact hik.1|omega|assumption|rfl|(simp;done)|(simp;omega)|(simp_all;done)),(by first|exact hik.1|omega|assumption|rfl|(simp;done)|(simp;omega)|(simp_all;done)),(by first|exact hik.1|omega|assumption|rfl|(simp;done)|(simp;omega)|(simp_all;done)),(by first|exact hik.1|omega|assumption|rfl|(simp;done)|(simp;omega)|(simp_all;done)),(by first|exact hik.1|omega|assumption|rfl|(simp;done)|(simp;omega)|(simp_all;done)),trivial⟩) (⟨.inl rfl,.inl rfl,.inl rfl,trivial⟩) (.agg [.arr 8011]) (by kernel_rfl) (.inl rfl) (fun h=>by cases h) (fun h=>by cases h)
  obtain ⟨⟨s',ss⟩,⟨hh0,hh1,hh2,hh3,hh4,hh5,_⟩,hc⟩:=hh
  exact ⟨s',ss,hh0,hh1,hh2,hh3,hh4,hh5,hc⟩
theorem Ybh (code:List Int) (hc:(∀j,j<code.length→0≤at_ code j∧at_ code j≤255)∧code.length≤4611686018427387904):∃(ik:Ink),(Zcs ik=true)∧((ik.Strokes.length:Int)≤6)∧Con Tryz.prog 13 [Zhw false code] true (.agg [Zap true ik.Strokes]):=by
  have hh:∃r:Ink,((Zcs r=true)∧((r.Strokes.length:Int)≤6)∧(True))∧Zaw Tryz.prog 13 [Zhw false code] (Zae []) true (.agg [Zap true r.Strokes]) (Zae []):=by
    refine Zcv (Φ:=fun r:Ink=>(Zcs r=true)∧((r.Strokes.length:Int)≤6)∧(True)) [] (fun r=>[]) (fn:=Tryz.f13) (nt:=12) Tryz.func13 rfl rfl (args:=[Zhw false code]) rfl (Zbc (.inl ⟨rfl,Zcx false _⟩) Zcw) (res:=fun r=> .agg [Zap true r.Strokes]) ?_
    refine xQ [(0,.new 2)] [0,2] [2] [] trivial (Zak ?_)
    obtain ⟨s'_1,hx1_0,hc1⟩:=Znw code
    have hsrc:Zbh s'_1:=⟨by rw [hx1_0.1];exact hc.1,by rw [hx1_0.2];decide,by rw [hx1_0.1];exact hc.2⟩
    have hat0:=hx1_0.2
    refine x_q [(1,.lend [] [(7001,Zaa s'_1)] [(true,.any)] false (.ref 7001 0))] [2,3] [2,7001] [Zaw Tryz.prog 17 [Zhw false code] (Zae []) false (.ref 7001 0) (Zae [(7001,Zaa s'_1)])∧True] ⟨⟨hc1,trivial⟩,trivial⟩ (Zab (Zak (Zak ?_)))
    obtain ⟨v_2,s'_2,hx2_0,hx2_1,hx2_2,hc2⟩:=Zxz s'_1 3 (by first|assumption|(simp only [Zbh] at*;simp_all;done)) om
    rcases Bool.eq_false_or_eq_true v_2 with h1|h1
    ·subst h1
     refine x_q [(1,.lend [(7001,Zaa s'_1,Zaa s'_2)] [] [(true,.any),(true,.any)] true (Bv true))] [2,3,7] [2,7001] [Zaw Tryz.prog 29 [.ref 7001 0,I 3] (Zae [(7001,Zaa s'_1)]) true (Bv true) (Zae [(7001,Zaa s'_2)])∧(((Zaa s'_1:Ob)=Zaa s'_1∨Zer Zeg true (Zaa s'_1) (Zaa s'_1))∧Zal false (Zaa s'_1))∧True] ⟨⟨hc2,⟨.inl rfl,(by simp [Zal,Zaf,Zai,Zcx])⟩,trivial⟩,trivial⟩ (Zab (Zeh (Zak ?_)))
     obtain ⟨s'_3,ss_3,hx3_0,hx3_1,hx3_2,hx3_3,hx3_4,hc3⟩:=Yeh s'_2 6 (by first|assumption|(simp only [Zbh] at*;simp_all;done)) om om
     refine x_r [(1,.lend [(7001,Zaa s'_2,Zaa s'_3)] [(8321,Zcq 8322 ss_3),(8322,Zci ss_3)] [(true,.any),(true,.any)] false (.agg [.arr 8321]))] [2] [2,8321,8322] [.ref 2 0] [some (.box [.arr 8321]),some (Zcq 8322 ss_3),some (Zci ss_3)] [Zaw Tryz.prog 37 [.ref 7001 0,I 6] (Zae [(7001,Zaa s'_2)]) false (.agg [.arr 8321]) (Zae [(7001,Zaa s'_3),(8321,Zcq 8322 ss_3),(8322,Zci ss_3)])∧(((Zaa s'_2:Ob)=Zaa s'_2∨Zer Zeg true (Zaa s'_2) (Zaa s'_2))∧Zal false (Zaa s'_2))∧True] ⟨⟨hc3,⟨.inl rfl,(by simp [Zal,Zaf,Zai,Zcx])⟩,trivial⟩,trivial⟩ (Zab (Zdd (Zda ?_)))
     refine Zbw (Ink.mk ss_3) (show (Zcs (Ink.mk ss_3)=true)∧(((Ink.mk ss_3).Strokes.length:Int)≤6)∧(True) from ⟨(by first|assumption|omega|(simp only;omega)|(simp only;assumption)),(by first|assumption|omega|(simp only;omega)|(simp only;assumption)),trivial⟩) (trivial) (.agg [.arr 8321]) (by kernel_rfl) (.inr ⟨⟨(fun _=>rfl),rfl,rfl,Zya _ _ rfl⟩,rfl⟩) (fun _=>rfl) (fun _=>(by simp [Zai,Zaf,Zgv]))
    subst h1
    refine x_q [(1,.lend [(7001,Zaa s'_1,Zaa s'_2)] [] [(true,.any),(true,.any)] true (Bv false))] [2,3,7] [2,7001] [Zaw Tryz.prog 29 [.ref 7001 0,I 3] (Zae [(7001,Zaa s'_1)]) true (Bv false) (Zae [(7001,Zaa s'_2)])∧(((Zaa s'_1:Ob)=Zaa s'_1∨Zer Zeg true (Zaa s'_1) (Zaa s'_1))∧Zal false (Zaa s'_1))∧True] ⟨⟨hc2,⟨.inl rfl,(by simp [Zal,Zaf,Zai,Zcx])⟩,trivial⟩,trivial⟩ (Zab (Zga (Zbd (Zab (Zak ?_)))))
    obtain ⟨s'_4,ss_4,hx4_0,hx4_1,hx4_2,hx4_3,hx4_4,hx4_5,hc4⟩:=Yei s'_2 5 (by first|assumption|(simp only [Zbh] at*;simp_all;done)) om om
    refine x_r [(1,.lend [(7001,Zaa s'_2,Zaa s'_4)] [(8011,Zcq 8012 ss_4),(8012,Zci ss_4)] [(true,.any),(true,.any)] false (.agg [.arr 8011]))] [2] [2,8011,8012] [.ref 2 0] [some (.box [.arr 8011]),some (Zcq 8012 ss_4),some (Zci ss_4)] [Zaw Tryz.prog 38 [.ref 7001 0,I 5] (Zae [(7001,Zaa s'_2)]) false (.agg [.arr 8011]) (Zae [(7001,Zaa s'_4),(8011,Zcq 8012 ss_4),(8012,Zci ss_4)])∧(((Zaa s'_2:Ob)=Zaa s'_2∨Zer Zeg true (Zaa s'_2) (Zaa s'_2))∧Zal false (Zaa s'_2))∧True] ⟨⟨hc4,⟨.inl rfl,(by simp [Zal,Zaf,Zai,Zcx])⟩,trivial⟩,trivial⟩ (Zab (Zdd ?_))
    refine Zbw (Ink.mk ss_4) (show (Zcs (Ink.mk ss_4)=true)∧(((Ink.mk ss_4).Strokes.length:Int)≤6)∧(True) from ⟨(by first|assumption|omega|(simp only;omega)|(simp only;assumption)),(by first|assumption|omega|(simp only;omega)|(simp only;assumption)),trivial⟩) (trivial) (.agg [.arr 8011]) (by kernel_rfl) (.inr ⟨⟨(fun _=>rfl),rfl,rfl,Zya _ _ rfl⟩,rfl⟩) (fun _=>rfl) (fun _=>(by simp [Zai,Zaf,Zgv]))
  obtain ⟨ik,⟨hh0,hh1,_⟩,hc⟩:=hh
  exact ⟨ik,hh0,hh1,hc⟩
theorem Zjg (n:Int):Con Tryz.prog 141 [I n] true (Bv (inB n 0 4095)):=by
 refine Zcm (fn:=Tryz.f141) (nt:=5) Tryz.func141 rfl rfl rfl rfl (by simp [Zaf,Zai]) fun B hB=> ?_
 refine aQ [] [0] [] [] hB trivial ?_
 refine aR [(1,.call [(true,.any),(true,.any),(true,.any)] true (Bv (inB n 0 4095)))] [2] [] [Bv (inB n 0 4095)] [] [_∧True] hB ⟨⟨(Zee n 0 4095),trivial⟩,trivial⟩ (Zan ?_)
 refine Zao hB (Bv (inB n 0 4095)) (by kernel_rfl) (.inl rfl) rfl (fun _=>trivial)
theorem Zho (p:Point):Con Tryz.prog 114 [Zgq p] true (Bv (okP p)):=by
  refine Zcm (fn:=Tryz.f114) (nt:=16) Tryz.func114 rfl rfl rfl rfl (by simp [Zaf,Zai]) fun B hB=> ?_
  refine aQ [(0,.new 1)] [1] [1] [] hB trivial (Zah ?_)
  rcases Bool.eq_false_or_eq_true (inB p.X 0 4095) with h1|h1
  ·rcases Bool.eq_false_or_eq_true (inB p.Y 0 4095) with h2|h2
   ·refine Zeo [(2,.call [(true,.any)] true (Bv true)),(6,.call [(true,.any)] true (Bv true)),(11,.call [(true,.any),(true,.any),(true,.any)] true (Bv (inB p.T 0 3600000)))] [2] [] [Bv (inB p.T 0 3600000)] [] [Con Tryz.prog 141 [I p.X] true (Bv true)∧True,Con Tryz.prog 141 [I p.Y] true (Bv true)∧True,_∧True] hB ⟨⟨(Zau h1 (Zjg p.X)),trivial⟩,⟨(Zau h2 (Zjg p.Y)),trivial⟩,⟨(Zee p.T 0 3600000),trivial⟩,trivial⟩ (Zac (Zan ?_))
    refine Zao hB (Bv (inB p.T 0 3600000)) (by kernel_rfl) (.inl (by first|rfl|(refine congrArg Bv ?_;simp [okP, *];done)|(refine congrArg Bv ?_;simp [okP, *];omega)|(refine congrArg Bv ?_;simp_all [okP];done)|(refine congrArg Bv ?_;simp_all [okP];omega))) rfl (fun _=>trivial)
   refine Zeo [(2,.call [(true,.any)] true (Bv true)),(6,.call [(true,.any)] true (Bv false))] [2] [] [Bv false] [] [Con Tryz.prog 141 [I p.X] true (Bv true)∧True,Con Tryz.prog 141 [I p.Y] true (Bv false)∧True] hB ⟨⟨(Zau h1 (Zjg p.X)),trivial⟩,⟨(Zau h2 (Zjg p.Y)),trivial⟩,trivial⟩ (Zac (Zan ?_))
   refine Zao hB (Bv false) (by kernel_rfl) (.inl (by first|rfl|(refine congrArg Bv ?_;simp [okP, *];done)|(refine congrArg Bv ?_;simp [okP, *];omega)|(refine congrArg Bv ?_;simp_all [okP];done)|(refine congrArg Bv ?_;simp_all [okP];omega))) rfl (fun _=>trivial)
  refine Zeo [(2,.call [(true,.any)] true (Bv false))] [2] [] [Bv false] [] [Con Tryz.prog 141 [I p.X] true (Bv false)∧True] hB ⟨⟨(Zau h1 (Zjg p.X)),trivial⟩,trivial⟩ (Zac (Zan ?_))
  refine Zao hB (Bv false) (by kernel_rfl) (.inl (by first|rfl|(refine congrArg Bv ?_;simp [okP, *];done)|(refine congrArg Bv ?_;simp [okP, *];omega)|(refine congrArg Bv ?_;simp_all [okP];done)|(refine congrArg Bv ?_;simp_all [okP];omega))) rfl (fun _=>trivial)
theorem Zgs (s:Stroke):Con Tryz.prog 80 [.agg [Zbj false s.Points]] true (Bv (Zbe s)):=by
  refine Zcm (fn:=Tryz.f80) (nt:=43) Tryz.func80 rfl rfl rfl rfl (by simp [Zaf,Zai,Zil]) fun B hB=> ?_
  refine Zck (x:= .agg [Zbj false s.Points]) 0 rfl (fun len_s=> ?_)
  simp [Zei,Zhv,Zgw,Zdy,Zbj] at len_s
  refine aQ [(0,.new 1)] [1] [1] [] hB trivial (Zah ?_)
  refine aR [] [1,6,7,8] [1] [.ref 1 0,Zbj false s.Points,I (s.Points.length:Int),I 0] [some (.box [Zbj false s.Points])] [] hB trivial (Zbg ?_)
  refine Zdm (fun gn gσ=>∃(t8:Int),gn=((s.Points.length:Int)-t8).toNat∧(0≤t8∧t8≤(s.Points.length:Int))∧(∀j:Nat,(j:Int)<t8→Yak s.Points j=true)∧gσ=mkS [(1,.ref 1 0),(6,Zbj false s.Points),(7,I (s.Points.length:Int)),(8,I t8)] [(1,.box [Zbj false s.Points])]) (((s.Points.length:Int)-0).toNat) ⟨0,rfl,om,(by intro j hj;omega),rfl⟩ (fun gn gσ hI=> ?_)
  obtain ⟨t8,rfl,hi0,hall0,rfl⟩:=hI
  refine Zah ?_
  by_cases h1:t8<(s.Points.length:Int)
  ·have hi:t8.toNat<s.Points.length:=by omega
   refine Zbn [(0,.dec true)] [1,6,7,8,9] [1] [_] hB ⟨h1,trivial⟩ (Zac (Zah (Zbr (Zar (Zac (Zah (Zbg ?_)))))))
   refine aQ [(3,.new 4)] [1,3,4,6,7,8] [1,4] [(0:Int)≤t8∧t8<(s.Points.length:Int)] hB ⟨⟨om,om⟩,trivial⟩ (Zah ?_)
   rcases Bool.eq_false_or_eq_true (okP (at_ s.Points t8.toNat)) with h2|h2
   ·by_cases h3:0<t8
    ·by_cases h4:((at_ s.Points t8.toNat).T)≤((at_ s.Points ((t8-1).toNat)).T)
     ·have hall:Zng s.Points.length (Yak s.Points)=false:=Zim hi (okPt_no h3 h4)
      refine Zbn [(1,.call [(true,.any)] true (Bv true)),(5,.dec true),(16,.dec true)] [1,6,7,8,31] [1] [Con Tryz.prog 114 [Zgq (at_ s.Points t8.toNat)] true (Bv true)∧True,_,inR .i64 (t8-1),(0:Int)≤(t8-1)∧(t8-1)<(s.Points.length:Int),_] hB ⟨⟨(Zau h2 (Zho (at_ s.Points t8.toNat))),trivial⟩,h3,(Zad om om),⟨om,om⟩,h4,trivial⟩ (Zac (Zbr ?_))
      refine aR [] [2] [] [Bv false] [] [] hB trivial (Zan ?_)
      refine Zaz (Zaj (Zaj (Zaz (Zaj ?_))))
      refine Zao hB (Bv false) (by kernel_rfl) (.inl (by first|rfl|(refine congrArg Bv ?_;simp [Zbe,inB, *];done)|(refine congrArg Bv ?_;simp [Zbe,inB, *];omega)|(refine congrArg Bv ?_;simp_all [Zbe,inB];done)|(refine congrArg Bv ?_;simp_all [Zbe,inB];omega))) rfl (fun _=>trivial)
     have hok:=okPt_yes h2 h3 h4
     refine Zbn [(1,.call [(true,.any)] true (Bv true)),(5,.dec true),(16,.dec false)] [1,6,7,8,31] [1] [Con Tryz.prog 114 [Zgq (at_ s.Points t8.toNat)] true (Bv true)∧True,_,inR .i64 (t8-1),(0:Int)≤(t8-1)∧(t8-1)<(s.Points.length:Int),_] hB ⟨⟨(Zau h2 (Zho (at_ s.Points t8.toNat))),trivial⟩,h3,(Zad om om),⟨om,om⟩,h4,trivial⟩ (Zac (Zbo (Zar (Zbq 1 (Zac ?_)))))
     refine Zeo [] [1,6,7,8] [1] [.ref 1 0,Zbj false s.Points,I (s.Points.length:Int),I (t8+1)] [some (.box [Zbj false s.Points])] [inR .i64 (t8+1)] hB ⟨(Zad om om),trivial⟩ ?_
     exact Zbs _ om ⟨(t8+1),rfl,om,(by intro j hj;by_cases ej:j=t8.toNat;(subst ej;first|assumption|exact hok);exact hall0 j om),rfl⟩
    have hok:=Yhm h2 hi0.1 h3
    refine Zbn [(1,.call [(true,.any)] true (Bv true)),(5,.dec false)] [1,6,7,8,31] [1] [Con Tryz.prog 114 [Zgq (at_ s.Points t8.toNat)] true (Bv true)∧True,_] hB ⟨⟨(Zau h2 (Zho (at_ s.Points t8.toNat))),trivial⟩,h3,trivial⟩ (Zac (Zbo (Zar (Zbq 1 (Zac ?_)))))
    refine Zeo [] [1,6,7,8] [1] [.ref 1 0,Zbj false s.Points,I (s.Points.length:Int),I (t8+1)] [some (.box [Zbj false s.Points])] [inR .i64 (t8+1)] hB ⟨(Zad om om),trivial⟩ ?_
    exact Zbs _ om ⟨(t8+1),rfl,om,(by intro j hj;by_cases ej:j=t8.toNat;(subst ej;first|assumption|exact hok);exact hall0 j om),rfl⟩
   have hall:Zng s.Points.length (Yak s.Points)=false:=Zim hi (okPt_bad h2)
   refine Zbn [(1,.call [(true,.any)] true (Bv false))] [1,6,7,8,31] [1] [Con Tryz.prog 114 [Zgq (at_ s.Points t8.toNat)] true (Bv false)∧True] hB ⟨⟨(Zau h2 (Zho (at_ s.Points t8.toNat))),trivial⟩,trivial⟩ (Zac (Zbr ?_))
   refine aR [] [2] [] [Bv false] [] [] hB trivial (Zan ?_)
   refine Zaz (Zaj (Zaj (Zaz (Zaj ?_))))
   refine Zao hB (Bv false) (by kernel_rfl) (.inl (by first|rfl|(refine congrArg Bv ?_;simp [Zbe,inB, *];done)|(refine congrArg Bv ?_;simp [Zbe,inB, *];omega)|(refine congrArg Bv ?_;simp_all [Zbe,inB];done)|(refine congrArg Bv ?_;simp_all [Zbe,inB];omega))) rfl (fun _=>trivial)
  have hall:Zng s.Points.length (Yak s.Points)=true:=Zhe (fun j hj=>hall0 j om)
  refine Zbn [(0,.dec false)] [1,6,7,8,9] [1] [_] hB ⟨h1,trivial⟩ (Zac (Zah (Zbo (Zcy (Zam (Zam (Zbi (Zac (Zah ?_)))))))))
  by_cases h5:1≤(s.Points.length:Int)
  ·refine Zeo [(3,.dec true)] [2] [] [Bv (decide ((s.Points.length:Int)≤60))] [] [_] hB ⟨h5,trivial⟩ (Zac (Zan ?_))
   refine Zao hB (Bv (decide ((s.Points.length:Int)≤60))) (by kernel_rfl) (.inl (by first|rfl|(refine congrArg Bv ?_;simp [Zbe,inB, *];done)|(refine congrArg Bv ?_;simp [Zbe,inB, *];omega)|(refine congrArg Bv ?_;simp_all [Zbe,inB];done)|(refine congrArg Bv ?_;simp_all [Zbe,inB];omega))) rfl (fun _=>trivial)
  refine Zeo [(3,.dec false)] [2] [] [Bv false] [] [_] hB ⟨h5,trivial⟩ (Zac (Zan ?_))
  refine Zao hB (Bv false) (by kernel_rfl) (.inl (by first|rfl|(refine congrArg Bv ?_;simp [Zbe,inB, *];done)|(refine congrArg Bv ?_;simp [Zbe,inB, *];omega)|(refine congrArg Bv ?_;simp_all [Zbe,inB];done)|(refine congrArg Bv ?_;simp_all [Zbe,inB];omega))) rfl (fun _=>trivial)
theorem Ztf (s:Stroke) (ok:Zbe s=true):Con Tryz.prog 81 [.agg [Zbj false s.Points]] true (Zgq (at_ s.Points 0)):=by
 have hln:=Zrd ok
 refine Zcm (fn:=Tryz.f81) (nt:=7) Tryz.func81 rfl rfl rfl rfl (by simp [Zaf,Zai,Zil]) fun B hB=> ?_
 refine Zck (x:= .agg [Zbj false s.Points]) 0 rfl (fun len_s=> ?_)
 simp [Zei,Zhv,Zgw,Zdy,Zbj] at len_s
 refine aQ [(0,.new 1),(1,.new 2)] [1,2] [1,2] [] hB trivial ?_
 refine aR [] [2] [2] [.ref 2 0] [some (Yhp (at_ s.Points 0))] [(0:Int)≤0∧0<(s.Points.length:Int)] hB ⟨⟨om,om⟩,trivial⟩ (Zan ?_)
 refine Zao hB (Zgq (at_ s.Points 0)) (by kernel_rfl) (.inl rfl) rfl (fun _=>(by simp [Zai,Zaf]))
theorem Zyb (s:Stroke) (ok:Zbe s=true):Con Tryz.prog 82 [.agg [Zbj false s.Points]] true (Zgq (at_ s.Points (s.Points.length-1))):=by
 have hln:=Zrd ok
 refine Zcm (fn:=Tryz.f82) (nt:=11) Tryz.func82 rfl rfl rfl rfl (by simp [Zaf,Zai,Zil]) fun B hB=> ?_
 refine Zck (x:= .agg [Zbj false s.Points]) 0 rfl (fun len_s=> ?_)
 simp [Zei,Zhv,Zgw,Zdy,Zbj] at len_s
 refine aQ [(0,.new 1),(1,.new 2)] [1,2] [1,2] [] hB trivial ?_
 refine aR [] [2] [2] [.ref 2 0] [some (Yhp (at_ s.Points (((s.Points.length:Int)-1).toNat)))] [inR .i64 ((s.Points.length:Int)-1),(0:Int)≤((s.Points.length:Int)-1)∧((s.Points.length:Int)-1)<(s.Points.length:Int)] hB ⟨(Zad om om),⟨om,om⟩,trivial⟩ (Zan ?_)
 refine Zao hB (Zgq (at_ s.Points (((s.Points.length:Int)-1).toNat))) (by kernel_rfl) (.inl (by first|rfl|(have e:((s.Points.length:Int)-1).toNat=s.Points.length-1:=om;rw [e]))) rfl (fun _=>(by simp [Zai,Zaf]))
theorem Zps (ik:Ink):Con Tryz.prog 39 [.agg [Zap false ik.Strokes]] true (Bv (Zcs ik)):=by
  refine Zcm (fn:=Tryz.f39) (nt:=39) Tryz.func39 rfl rfl rfl rfl (by simp [Zaf,Zai,Zgv]) fun B hB=> ?_
  refine Zck (x:= .agg [Zap false ik.Strokes]) 0 rfl (fun len_ik=> ?_)
  simp [Zei,Zhv,Zgw,Zhd,Zdy,Zbl,Zbj,Zap] at len_ik
  refine aQ [(0,.new 1)] [1] [1] [] hB trivial (Zah ?_)
  refine aR [] [1,6,7,8] [1] [.ref 1 0,Zap false ik.Strokes,I (ik.Strokes.length:Int),I 0] [some (.box [Zap false ik.Strokes])] [] hB trivial (Zbg ?_)
  refine Zdm (fun gn gσ=>∃(t8:Int),gn=((ik.Strokes.length:Int)-t8).toNat∧(0≤t8∧t8≤(ik.Strokes.length:Int))∧(∀j:Nat,(j:Int)<t8→Zxx ik.Strokes j=true)∧gσ=mkS [(1,.ref 1 0),(6,Zap false ik.Strokes),(7,I (ik.Strokes.length:Int)),(8,I t8)] [(1,.box [Zap false ik.Strokes])]) (((ik.Strokes.length:Int)-0).toNat) ⟨0,rfl,om,(by intro j hj;omega),rfl⟩ (fun gn gσ hI=> ?_)
  obtain ⟨t8,rfl,hi0,hall0,rfl⟩:=hI
  refine Zah ?_
  by_cases h1:t8<(ik.Strokes.length:Int)
  ·have hi:t8.toNat<ik.Strokes.length:=by omega
   refine Zbn [(0,.dec true)] [1,6,7,8,9] [1] [_] hB ⟨h1,trivial⟩ (Zac (Zah (Zbr (Zar (Zac (Zah (Zbg ?_)))))))
   refine aQ [(3,.new 4)] [1,3,4,6,7,8] [1,4] [(0:Int)≤t8∧t8<(ik.Strokes.length:Int)] hB ⟨⟨om,om⟩,trivial⟩ (Zah ?_)
   rcases Bool.eq_false_or_eq_true (Zbe (at_ ik.Strokes t8.toNat)) with h2|h2
   ·have hln:=Zrd h2
    by_cases h3:0<t8
    ·have hpr:=Zrd (Znv (hall0 (t8-1).toNat om))
     by_cases h4:((at_ (at_ ik.Strokes t8.toNat).Points 0).T)≤((at_ (at_ ik.Strokes ((t8-1).toNat)).Points ((at_ ik.Strokes ((t8-1).toNat)).Points.length-1)).T)
     ·have hall:Zng ik.Strokes.length (Zxx ik.Strokes)=false:=Zim hi (okSA_no h3 h4)
      refine Zbn [(1,.call [(true,.any)] true (Bv true)),(5,.dec true),(8,.call [(true,.any)] true (Zgq (at_ (at_ ik.Strokes t8.toNat).Points 0))),(16,.call [(true,.any)] true (Zgq (at_ (at_ ik.Strokes ((t8-1).toNat)).Points ((at_ ik.Strokes ((t8-1).toNat)).Points.length-1)))),(18,.dec true)] [1,6,7,8,33] [1] [Con Tryz.prog 80 [.agg [Zbj false ((at_ ik.Strokes t8.toNat).Points)]] true (Bv true)∧True,_,_∧True,inR .i64 (t8-1),(0:Int)≤(t8-1)∧(t8-1)<(ik.Strokes.length:Int),_∧True,_] hB ⟨⟨(Zau h2 (Zgs (at_ ik.Strokes t8.toNat))),trivial⟩,h3,⟨(Ztf (at_ ik.Strokes t8.toNat) (by first|assumption|exact Znv (hall0 _ om))),trivial⟩,(Zad om om),⟨om,om⟩,⟨(Zyb (at_ ik.Strokes ((t8-1).toNat)) (by first|assumption|exact Znv (hall0 _ om))),trivial⟩,h4,trivial⟩ (Zac (Zbr ?_))
      refine aR [] [2] [] [Bv false] [] [] hB trivial (Zan ?_)
      refine Zaz (Zaj (Zaj (Zaz (Zaj ?_))))
      refine Zao hB (Bv false) (by kernel_rfl) (.inl (by first|rfl|(refine congrArg Bv ?_;simp [Zcs, *];done)|(refine congrArg Bv ?_;simp [Zcs, *];omega)|(refine congrArg Bv ?_;simp_all [Zcs];done)|(refine congrArg Bv ?_;simp_all [Zcs];omega))) rfl (fun _=>trivial)
     have hok:=okSA_yes h2 h3 h4
     refine Zbn [(1,.call [(true,.any)] true (Bv true)),(5,.dec true),(8,.call [(true,.any)] true (Zgq (at_ (at_ ik.Strokes t8.toNat).Points 0))),(16,.call [(true,.any)] true (Zgq (at_ (at_ ik.Strokes ((t8-1).toNat)).Points ((at_ ik.Strokes ((t8-1).toNat)).Points.length-1)))),(18,.dec false)] [1,6,7,8,33] [1] [Con Tryz.prog 80 [.agg [Zbj false ((at_ ik.Strokes t8.toNat).Points)]] true (Bv true)∧True,_,_∧True,inR .i64 (t8-1),(0:Int)≤(t8-1)∧(t8-1)<(ik.Strokes.length:Int),_∧True,_] hB ⟨⟨(Zau h2 (Zgs (at_ ik.Strokes t8.toNat))),trivial⟩,h3,⟨(Ztf (at_ ik.Strokes t8.toNat) (by first|assumption|exact Znv (hall0 _ om))),trivial⟩,(Zad om om),⟨om,om⟩,⟨(Zyb (at_ ik.Strokes ((t8-1).toNat)) (by first|assumption|exact Znv (hall0 _ om))),trivial⟩,h4,trivial⟩ (Zac (Zbo (Zar (Zbq 1 (Zac ?_)))))
     refine Zeo [] [1,6,7,8] [1] [.ref 1 0,Zap false ik.Strokes,I (ik.Strokes.length:Int),I (t8+1)] [some (.box [Zap false ik.Strokes])] [inR .i64 (t8+1)] hB ⟨(Zad om om),trivial⟩ ?_
     exact Zbs _ om ⟨(t8+1),rfl,om,(by intro j hj;by_cases ej:j=t8.toNat;(subst ej;first|assumption|exact hok);exact hall0 j om),rfl⟩
    have hok:=Yhn h2 hi0.1 h3
    refine Zbn [(1,.call [(true,.any)] true (Bv true)),(5,.dec false)] [1,6,7,8,33] [1] [Con Tryz.prog 80 [.agg [Zbj false ((at_ ik.Strokes t8.toNat).Points)]] true (Bv true)∧True,_] hB ⟨⟨(Zau h2 (Zgs (at_ ik.Strokes t8.toNat))),trivial⟩,h3,trivial⟩ (Zac (Zbo (Zar (Zbq 1 (Zac ?_)))))
    refine Zeo [] [1,6,7,8] [1] [.ref 1 0,Zap false ik.Strokes,I (ik.Strokes.length:Int),I (t8+1)] [some (.box [Zap false ik.Strokes])] [inR .i64 (t8+1)] hB ⟨(Zad om om),trivial⟩ ?_
    exact Zbs _ om ⟨(t8+1),rfl,om,(by intro j hj;by_cases ej:j=t8.toNat;(subst ej;first|assumption|exact hok);exact hall0 j om),rfl⟩
   have hall:Zng ik.Strokes.length (Zxx ik.Strokes)=false:=Zim hi (okSA_bad (by simpa using h2))
   refine Zbn [(1,.call [(true,.any)] true (Bv false))] [1,6,7,8,33] [1] [Con Tryz.prog 80 [.agg [Zbj false ((at_ ik.Strokes t8.toNat).Points)]] true (Bv false)∧True] hB ⟨⟨(Zau h2 (Zgs (at_ ik.Strokes t8.toNat))),trivial⟩,trivial⟩ (Zac (Zbr ?_))
   refine aR [] [2] [] [Bv false] [] [] hB trivial (Zan ?_)
   refine Zaz (Zaj (Zaj (Zaz (Zaj ?_))))
   refine Zao hB (Bv false) (by kernel_rfl) (.inl (by first|rfl|(refine congrArg Bv ?_;simp [Zcs, *];done)|(refine congrArg Bv ?_;simp [Zcs, *];omega)|(refine congrArg Bv ?_;simp_all [Zcs];done)|(refine congrArg Bv ?_;simp_all [Zcs];omega))) rfl (fun _=>trivial)
  have hall:Zng ik.Strokes.length (Zxx ik.Strokes)=true:=Zhe (fun j hj=>hall0 j om)
  refine Zbn [(0,.dec false)] [1,6,7,8,9] [1] [_] hB ⟨h1,trivial⟩ (Zac (Zah (Zbo (Zcy (Zam (Zam (Zbi (Zac ?_))))))))
  refine aR [] [2] [] [Bv (decide ((ik.Strokes.length:Int)≤16))] [] [] hB trivial (Zan ?_)
  refine Zao hB (Bv (decide ((ik.Strokes.length:Int)≤16))) (by kernel_rfl) (.inl (by first|rfl|(refine congrArg Bv ?_;simp [Zcs, *];done)|(refine congrArg Bv ?_;simp [Zcs, *];omega)|(refine congrArg Bv ?_;simp_all [Zcs];done)|(refine congrArg Bv ?_;simp_all [Zcs];omega))) rfl (fun _=>trivial)
def Zzz (s t:ByteArray):ByteArray:=⟨(Lib.trimS s.data.toList t.data.toList).toArray⟩
theorem Zhp {α:Type} {p:α→Bool} :∀ {l:List α},l.dropWhile p=[]↔∀x∈l,p x=true
 | []=>by simp
 |x::l=>by
  rw [List.dropWhile_cons]
  cases h:p x with
  |true=>simp only [if_true];rw [Zhp];simp [h]
  |false=>simp [h]
theorem Zlt {α:Type} {p:α→Bool} :∀ {l:List α} {x:α} {r:List α},l.dropWhile p=x::r→p x=false
 | [],_,_,h=>by simp at h
 |y::l,x,r,h=>by
  rw [List.dropWhile_cons] at h
  cases hp:p y with
  |true=>rw [hp] at h;exact Zlt h
  |false=>rw [hp] at h;simp at h;rw [←h.1];exact hp
theorem Zyc {l cs:List UInt8} :Lib.trimS l cs=[]↔∀x∈l,cs.contains x=true:=by
 unfold Lib.trimS Lib.trimLeftS Lib.trimRightS
 constructor
 ·intro h
  rw [Zhp] at h
  cases e:l.reverse.dropWhile (cs.contains ·) with
  |nil=>rw [Zhp] at e;intro x hx;exact e x (by simpa using hx)
  |cons x r=>
   have h1:=Zlt e
   have h2:=h x (by rw [e];simp)
   rw [h2] at h1;cases h1
 ·intro h
  have e:l.reverse.dropWhile (cs.contains ·)=[]:=Zhp.2 fun x hx=>h x (by simpa using hx)
  rw [e];rfl
theorem allB_iff {s:ByteArray} {p:Int→Bool} :Zng s.size (fun j=>p (bAt s j))=true↔∀x∈s.data.toList,p x.toNat=true:=by
 rw [Zik]
 have hl:s.size=s.data.toList.length:=by rw [Array.length_toList];rfl
 constructor
 ·intro h x hx
  obtain ⟨i,hi,rfl⟩:=List.getElem_of_mem hx
  have:=h i om
  rw [bAt,List.getD_eq_getElem?_getD,List.getElem?_eq_getElem hi] at this
  exact this
 ·intro h j hj
  rw [bAt,List.getD_eq_getElem?_getD,List.getElem?_eq_getElem om]
  exact h _ (List.getElem_mem _)
theorem Ycj {T:ByteArray} {p:Int→Bool} (hT:∀x:UInt8,T.data.toList.contains x=p x.toNat) (s:ByteArray):Zzz s T=⟨#[]⟩↔Zng s.size (fun j=>p (bAt s j))=true:=by
 rw [allB_iff]
 constructor
 ·intro h x hx
  have h':Lib.trimS s.data.toList T.data.toList=[]:=by
   have:=congrArg (fun b=>b.data.toList) h
   simpa [Zzz] using this
  rw [←hT]
  exact Zyc.1 h' x hx
 ·intro h
  have:Lib.trimS s.data.toList T.data.toList=[]:=Zyc.2 fun x hx=>by rw [hT];exact h x hx
  unfold Zzz
  rw [this]
theorem Zqt {n r:Int} (h:0≤n) (hr:0<r):0≤n/r∧n/r≤n:=⟨Int.ediv_nonneg h om,Int.ediv_le_self _ h⟩
theorem Yhi (n d:Int):((Int.tdiv n d).natAbs:Int)≤(n.natAbs:Int):=by
 rw [Int.natAbs_tdiv]
 exact Int.ofNat_le.2 (Nat.div_le_self _ _)
theorem Zvq {s:ByteArray} {i:Nat} (h:i<s.size):bAt s i=(s.data.toList[i]'(by rw [Array.length_toList];exact h)).toNat:=by
 unfold bAt
 rw [List.getD_eq_getElem?_getD,List.getElem?_eq_getElem (by rw [Array.length_toList];exact h)]
 rfl
theorem Zfl {a b:ByteArray} {i:Nat} (h:i<a.size):bAt (a++b) i=bAt a i:=by
 unfold bAt
 have e:(a++b).data.toList=a.data.toList++b.data.toList:=by simp [ByteArray.data_append]
 rw [e,List.getD_eq_getElem?_getD,List.getD_eq_getElem?_getD,List.getElem?_append_left (by rw [Array.length_toList];exact h)]
theorem Zep {a b:ByteArray} {i:Nat} (h:a.size≤i):bAt (a++b) i=bAt b (i-a.size):=by
 unfold bAt
 have e:(a++b).data.toList=a.data.toList++b.data.toList:=by simp [ByteArray.data_append]
 have hl:a.data.toList.length=a.size:=by rw [Array.length_toList];rfl
 rw [e,List.getD_eq_getElem?_getD,List.getD_eq_getElem?_getD,List.getElem?_append_right om,hl]
theorem Zqw {s:ByteArray} {a i:Nat} (h:a+i<s.size):bAt (s.extract a s.size) i=bAt s (a+i):=by
 unfold bAt
 have hl:s.data.toList.length=s.size:=by rw [Array.length_toList];rfl
 have e:(s.extract a s.size).data.toList=s.data.toList.drop a:=by
  rw [ByteArray.data_extract,Array.toList_extract]
  simp only [List.extract_eq_take_drop]
  rw [List.take_of_length_le (by simp)]
 rw [e,List.getD_eq_getElem?_getD,List.getD_eq_getElem?_getD,List.getElem?_drop]
theorem Zpq (s:ByteArray) (i:Nat):0≤bAt s i∧bAt s i≤255:=by
 unfold bAt
 have:=(s.data.toList.getD i 0).toNat_lt
 omega
def nbL (n:Int) (w:Nat):List Int:=(List.range w).map fun j=>48+(n/((2^(w-1-j):Nat):Int)) % 2
theorem Zrf (n:Int) (w:Nat):(nbL n w).length=w:=by simp [nbL]
theorem nbL_at {n:Int} {w j:Nat} (h:j<w):at_ (nbL n w) j=48+(n/((2^(w-1-j):Nat):Int)) % 2:=by simp [at_,nbL,h]
theorem nbL_bd {n x:Int} {w:Nat} (h:x∈nbL n w):48≤x∧x≤49:=by
 simp only [nbL,List.mem_map] at h
 obtain ⟨j,_,rfl⟩:=h
 omega
def Zds (n w:Int):ByteArray:=Zkj (nbL n w.toNat)
theorem Zbx (n w:Int):(Zds n w).size=w.toNat:=by unfold Zds;rw [Zch,Zrf]
theorem Znx {n w:Int} {j:Nat} (h:j<w.toNat):bAt (Zds n w) j=48+(n/((2^(w.toNat-1-j):Nat):Int)) % 2:=by
 unfold Zds
 have hl:j<(nbL n w.toNat).length:=by rw [Zrf];exact h
 rw [Znt hl (by have:=nbL_bd (Zca hl);omega),nbL_at h]
def rdN (s:ByteArray):Nat→Int
 |0=>0
 |k+1=>2*rdN s k+(bAt s k-48)
termination_by k=>k
theorem Zqy {s:ByteArray} :∀ {k:Nat},(∀j,j<k→bAt s j=48∨bAt s j=49)→0≤rdN s k∧rdN s k<((2^k:Nat):Int)
 |0,_=>by simp [rdN]
 |k+1,h=>by
  have ih:=Zqy (k:=k) fun j hj=>h j om
  have:=h k om
  rw [rdN,Nat.pow_succ]
  omega
theorem p2 (m:Nat):0<((2^m:Nat):Int):=Int.ofNat_lt.2 (Nat.two_pow_pos m)
theorem div_half (n:Int) (m:Nat):n/((2^(m+1):Nat):Int)=(n/((2^m:Nat):Int))/2:=by
 rw [Nat.pow_succ,Int.natCast_mul,Int.ediv_ediv_of_nonneg (Int.le_of_lt (p2 m))]
 rfl
theorem Yam {s:ByteArray} {n:Int} {w:Nat} (h:∀j,j<w→bAt s j=48+(n/((2^(w-1-j):Nat):Int)) % 2) (h0:0≤n) (h1:n<((2^w:Nat):Int)):rdN s w=n:=by
 have key:∀k,k≤w→rdN s k=n/((2^(w-k):Nat):Int):=by
  intro k
  induction k with
  |zero=>intro _;rw [rdN,Nat.sub_zero,Int.ediv_eq_zero_of_lt h0 h1]
  |succ k ih=>
   intro hk
   rw [rdN,ih om,h k om]
   have e1:w-k=(w-1-k)+1:=by omega
   have e2:w-(k+1)=w-1-k:=by omega
   rw [e1,e2,div_half]
   omega
 have:=key w (Nat.le_refl _)
 rw [this];simp
def Zco (n:Int):Int:=if n<0 then-2*n-1 else 2*n
def Zbp (u:Int):Int:=if u % 2=1 then Int.tdiv (-(u+1)) 2 else u/2
theorem Zrg (n:Int):Zbp (Zco n)=n:=by
 unfold Zbp Zco
 split
 ·rename_i h
  rw [if_pos om]
  have e:-(-2*n-1+1)=2*n:=by omega
  rw [e];exact Int.mul_tdiv_cancel_left _ (by decide)
 ·rw [if_neg om];omega
theorem Zqs {n B:Int} (h:-B≤n∧n≤B):0≤Zco n∧Zco n≤2*B:=by unfold Zco;split<;>omega
def Zqv (q:Int):ByteArray:=Zkj (List.replicate q.toNat 49)
theorem Zdf (q:Int):(Zqv q).size=q.toNat:=by unfold Zqv;rw [Zch];simp
theorem Zvr {q:Int} {j:Nat} (h:j<q.toNat):bAt (Zqv q) j=49:=by
 unfold Zqv
 have e:at_ (List.replicate q.toNat (49:Int)) j=49:=by simp [at_,List.getElem?_replicate,h]
 rw [Znt (by simpa using h) (by rw [e];decide),e]
def Zdo (n k:Int):ByteArray:=
 if Zco n/((2^k.toNat:Nat):Int)<20 then Zqv (Zco n/((2^k.toNat:Nat):Int))++⟨#[48]⟩++Zds (Zco n % ((2^k.toNat:Nat):Int)) k else Zqv 20++Zds (Zco n) 32
def Zfp (s:ByteArray):Nat→Nat→Nat
 |_,0=>0
 |p,f+1=>if p<s.size∧bAt s p=49 then 1+Zfp s (p+1) f else 0
termination_by _ f=>f
theorem Zvs {s:ByteArray} :∀ {f q p:Nat},(∀j,j<q→p+j<s.size∧bAt s (p+j)=49)→(q<f→p+q<s.size→bAt s (p+q)≠49)→q≤f→Zfp s p f=q
  | 0, q, p, _, _, hq => by have : q = 0 := by omega
                            subst this;rw [Zfp]
  |f+1,0,p,_,h2,_=>by
    unfold Zfp
    rw [if_neg]
    rintro ⟨a,b⟩
    exact h2 om (by simpa using a) (by simpa using b)
  |f+1,q+1,p,h1,h2,hq=>by
    unfold Zfp
    have:=h1 0 om
    rw [if_pos (by simpa using this),Zvs (f:=f) (q:=q) (p:=p+1) (fun j hj=>by
      have:=h1 (j+1) om
      rw [show p+1+j=p+(j+1) by omega];exact this) (fun h3 h4=>by
      have:=h2 om om
      rw [show p+1+q=p+(q+1) by omega];exact this) om]
    omega
def Zqx (n:Int):Bool:=decide (-1000000000≤n∧n≤1000000000)
def Zeb (s:ByteArray) (p k:Int):Int×Int×Int:=
 if Zfp s p.toNat 20=20 then
  (if (s.size:Int)-(p+20)<32 then (0,0,9) else
   if Zqx (Zbp (rdN (s.extract (p+20).toNat s.size) 32))=true∧¬ rdN (s.extract (p+20).toNat s.size) 32/((2^k.toNat:Nat):Int)<20 then (Zbp (rdN (s.extract (p+20).toNat s.size) 32),p+20+32,0) else (0,0,8))
 else if (s.size:Int)-(p+(Zfp s p.toNat 20:Int))<1+k then (0,0,9) else
  (Zbp ((Zfp s p.toNat 20:Int)*((2^k.toNat:Nat):Int)+rdN (s.extract (p+(Zfp s p.toNat 20:Int)+1).toNat s.size) k.toNat),p+(Zfp s p.toNat 20:Int)+1+k,0)
theorem Ztg {n k:Int} (hn:-1000000000≤n∧n≤1000000000) (hk:0≤k):((Zdo n k).size:Int)=if Zco n/((2^k.toNat:Nat):Int)<20 then Zco n/((2^k.toNat:Nat):Int)+1+k else 52:=by
 have hf:=Zqs hn
 have hq:0≤Zco n/((2^k.toNat:Nat):Int):=Int.ediv_nonneg hf.1 (Int.le_of_lt (p2 _))
 have h1:(⟨#[48]⟩:ByteArray).size=1:=rfl
 unfold Zdo
 split
 ·rw [ByteArray.size_append,ByteArray.size_append,Zdf,Zbx,h1];omega
 ·rw [ByteArray.size_append,Zdf,Zbx];decide
theorem Yhq {s:ByteArray} {p k n:Int} (hp:0≤p) (hk:0≤k) (hn:-1000000000≤n∧n≤1000000000) (hs:p+((Zdo n k).size:Int)≤(s.size:Int))
  (hb:∀j,j<(Zdo n k).size→bAt s (p.toNat+j)=bAt (Zdo n k) j):Zeb s p k=(n,p+((Zdo n k).size:Int),0):=by
 have hf:=Zqs hn
 have hsz:=Ztg hn hk
 have h2k:0<((2^k.toNat:Nat):Int):=p2 _
 have hq0:0≤Zco n/((2^k.toNat:Nat):Int):=Int.ediv_nonneg hf.1 (Int.le_of_lt (p2 _))
 have hdm:=Int.mul_ediv_add_emod (Zco n) ((2^k.toNat:Nat):Int)
 have hm0:=Int.emod_nonneg (Zco n) (b:=((2^k.toNat:Nat):Int)) (Int.ne_of_gt (p2 _))
 have hm1:=Int.emod_lt_of_pos (Zco n) h2k
 have h1:(⟨#[48]⟩:ByteArray).size=1:=rfl
 by_cases hc:Zco n/((2^k.toNat:Nat):Int)<20
 ·rw [if_pos hc] at hsz
  have hR:Zdo n k=Zqv (Zco n/((2^k.toNat:Nat):Int))++⟨#[48]⟩++Zds (Zco n % ((2^k.toNat:Nat):Int)) k:=if_pos hc
  generalize hq:Zco n/((2^k.toNat:Nat):Int)=q at*
  generalize hr:Zco n % ((2^k.toNat:Nat):Int)=r at*
  have hb1:∀j,j<q.toNat→bAt (Zdo n k) j=49:=fun j hj=>by
   rw [hR,Zfl (by rw [ByteArray.size_append,Zdf];omega),Zfl (by rw [Zdf];exact hj),Zvr hj]
  have hb2:bAt (Zdo n k) q.toNat=48:=by
   rw [hR,Zfl (by rw [ByteArray.size_append,Zdf,h1];omega),Zep (by rw [Zdf];omega),Zdf,Nat.sub_self];rfl
  have hb3:∀j,j<k.toNat→bAt (Zdo n k) (q.toNat+1+j)=48+(r/((2^(k.toNat-1-j):Nat):Int)) % 2:=fun j hj=>by
   rw [hR,Zep (by rw [ByteArray.size_append,Zdf,h1];omega),ByteArray.size_append,Zdf,h1,show q.toNat+1+j-(q.toNat+1)=j by omega,Znx hj]
  have ho:Zfp s p.toNat 20=q.toNat:=Zvs (fun j hj=>⟨by omega,by rw [hb j om,hb1 j hj]⟩) (fun _ _=>by rw [hb q.toNat om,hb2];decide) om
  unfold Zeb
  rw [ho,if_neg om,if_neg om]
  have hrd:rdN (s.extract (p+(q.toNat:Int)+1).toNat s.size) k.toNat=r:=Yam (fun j hj=>by
   rw [Zqw om,show (p+(q.toNat:Int)+1).toNat+j=p.toNat+(q.toNat+1+j) by omega,hb _ om,hb3 j hj]) hm0 hm1
  rw [hrd]
  have e:(q.toNat:Int)*((2^k.toNat:Nat):Int)+r=Zco n:=by
   rw [show (q.toNat:Int)=q by omega,Int.mul_comm];exact hdm
  rw [e,Zrg]
  refine Prod.ext rfl (Prod.ext ?_ rfl)
  simp only;omega
 ·rw [if_neg hc] at hsz
  have hR:Zdo n k=Zqv 20++Zds (Zco n) 32:=if_neg hc
  have hb1:∀j,j<20→bAt (Zdo n k) j=49:=fun j hj=>by
   rw [hR,Zfl (by rw [Zdf];exact hj),Zvr hj]
  have hb3:∀j,j<32→bAt (Zdo n k) (20+j)=48+(Zco n/((2^(32-1-j):Nat):Int)) % 2:=fun j hj=>by
   rw [hR,Zep (by rw [Zdf];show 20≤_;omega),Zdf,show 20+j-(20:Int).toNat=j by show 20+j-20=j;omega,Znx (by exact hj)];rfl
  have ho:Zfp s p.toNat 20=20:=Zvs (fun j hj=>⟨by omega,by rw [hb j om,hb1 j hj]⟩) (fun h _=>by omega) om
  unfold Zeb
  rw [ho,if_pos rfl,if_neg om]
  have hrd:rdN (s.extract (p+20).toNat s.size) 32=Zco n:=Yam (fun j hj=>by
   rw [Zqw om,show (p+20).toNat+j=p.toNat+(20+j) by omega,hb _ om,hb3 j hj]) hf.1 (by show Zco n<4294967296;omega)
  rw [hrd,Zrg,if_pos ⟨by simp [Zqx];omega,hc⟩]
  refine Prod.ext rfl (Prod.ext ?_ rfl)
  simp only;omega
def bitB (n:Int):Bool:=decide (n=48∨n=49)
theorem Yej {n k:Int} {j:Nat} (h:j<(Zdo n k).size):bAt (Zdo n k) j=48∨bAt (Zdo n k) j=49:=by
 have h1:(⟨#[48]⟩:ByteArray).size=1:=rfl
 have hnum:∀ {a w:Int} {i:Nat},i<(Zds a w).size→bAt (Zds a w) i=48∨bAt (Zds a w) i=49:=fun {a w i} hi=>by
  rw [Znx (by rw [Zbx] at hi;exact hi)];omega
 unfold Zdo at*
 split at h
 ·rename_i hc
  rw [if_pos hc]
  rw [ByteArray.size_append,ByteArray.size_append,h1] at h
  by_cases e:j<(Zqv (Zco n/((2^k.toNat:Nat):Int))).size
  ·rw [Zfl (by rw [ByteArray.size_append];omega),Zfl e,Zvr (by rw [Zdf] at e;exact e)];exact .inr rfl
  ·by_cases e2:j=(Zqv (Zco n/((2^k.toNat:Nat):Int))).size
   ·rw [Zfl (by rw [ByteArray.size_append,h1];omega),Zep om,e2,Nat.sub_self];exact .inl rfl
   ·rw [Zep (by rw [ByteArray.size_append,h1];omega),ByteArray.size_append,h1];exact hnum om
 ·rename_i hc
  rw [if_neg hc]
  rw [ByteArray.size_append] at h
  by_cases e:j<(Zqv 20).size
  ·rw [Zfl e,Zvr (by rw [Zdf] at e;exact e)];exact .inr rfl
  ·rw [Zep om];exact hnum om
theorem Yci {u:Int} {k:Nat} (h0:0≤u) (h1:u<9223372036854775808) (hk:k≤40):Zel .and .i64 u (1*((2^k:Nat):Int)-1)=u % ((2^k:Nat):Int):=by
 have hp:=p2 k
 have hle:2^k≤2^40:=Nat.pow_le_pow_right (by decide) hk
 have hle':((2^k:Nat):Int)≤1099511627776:=Int.ofNat_le.2 hle
 have e1:(BitVec.ofInt 64 u).toNat=u.toNat:=by rw [BitVec.toNat_ofInt];omega
 have e2:(BitVec.ofInt 64 (1*((2^k:Nat):Int)-1)).toNat=2^k-1:=by
  rw [BitVec.toNat_ofInt,Int.one_mul,Int.emod_eq_of_lt om (by show _<(18446744073709551616:Int);omega)]
  omega
 have e:Zel .and .i64 u (1*((2^k:Nat):Int)-1)=IntKind.i64.wrap (((BitVec.ofInt 64 u&&&BitVec.ofInt 64 (1*((2^k:Nat):Int)-1)).toNat:Nat):Int):=rfl
 rw [e,BitVec.toNat_and,e1,e2,Nat.and_two_pow_sub_one_eq_mod]
 have hm:((u.toNat % 2^k:Nat):Int)=u % ((2^k:Nat):Int):=by
  rw [Int.natCast_emod]
  congr 1
  omega
 rw [hm]
 have a1:=Int.emod_nonneg u (b:=((2^k:Nat):Int)) om
 have a2:=Int.emod_lt_of_pos u hp
 exact Zib (Zad om om)
theorem and_one {u:Int} (h0:0≤u) (h1:u<9223372036854775808):Zel .and .i64 u 1=u % 2:=Yci (k:=1) h0 h1 (by decide)
theorem Yhj {n:Int} :Zqx n=true↔-1000000000≤n∧n≤1000000000:=by simp [Zqx]
theorem Zqz {u:Int} (h:0≤u∧u≤4294967296000):-4294967296000≤Zbp u∧Zbp u≤4294967296000:=by
 unfold Zbp
 split
 ·have:=Yhi (-(u+1)) 2
  omega
 ·omega
def Zfu (s:ByteArray):Bool:=decide ((s.size:Int)≤100000)&&Zng s.size (fun j=>bitB (bAt s j))
theorem Zfj {s:ByteArray} :Zfu s=true↔(s.size:Int)≤100000∧∀j,j<s.size→bAt s j=48∨bAt s j=49:=by
 simp only [Zfu,Bool.and_eq_true,decide_eq_true_eq,Zik,bitB]
theorem Yck (x:UInt8):(⟨#[48,49]⟩:ByteArray).data.toList.contains x=bitB x.toNat:=by
 rw [Bool.eq_iff_iff]
 simp only [bitB,decide_eq_true_eq]
 simp
 constructor
 ·rintro (h|h)<;>subst h<;>decide
 ·intro h
  have h':x.toNat=48∨x.toNat=49:=by omega
  rcases h' with h|h
  ·exact .inl (UInt8.toNat_inj.1 h)
  ·exact .inr (UInt8.toNat_inj.1 h)
theorem Yea (c:Nat):(⟨(Lib.repeatL (⟨#[49]⟩:ByteArray).data.toList c).toArray⟩:ByteArray)=Zqv (c:Int):=by
 unfold Zqv Zkj
 have:Lib.repeatL [49] c=(List.replicate c (49:Int)).map fun n=>UInt8.ofNat n.toNat:=by
  induction c with
  |zero=>rfl
  |succ c ih=>rw [Lib.repeatL,ih,List.replicate_succ];rfl
 show (⟨(Lib.repeatL [49] c).toArray⟩:ByteArray)=_
 rw [this];simp
theorem Zem (n:Int) (width:Int) (hn:0≤n∧n≤1099511627776) (hw:0≤width∧width≤40):Con Tryz.prog 84 [I n,I width] true (Sv (Zds n width)):=by
  refine Zcm (fn:=Tryz.f84) (nt:=29) Tryz.func84 rfl rfl rfl rfl (by simp [Zaf,Zai]) fun B hB=> ?_
  refine aQ [] [0,1] [] [] hB trivial ?_
  refine aQ [(1,.new 8)] [0,1,5] [8] [(0:Int)≤width∧(width:Int)≤width∧(1:Int)*width≤281474976710656∧width≤9223372036854775807] hB ⟨⟨om,om,om,om⟩,trivial⟩ (Zah ?_)
  refine aR [] [0,1,5,10,11] [8] [I n,I width,.arr 8,I (width.toNat:Int),I 0] [some (.arr 1 width.toNat (fun _=>[.val (.int .u8 0)]))] [] hB trivial (Zbg ?_)
  refine Zpw hB [] (T:=[(0,I n),(1,I width),(5,.arr 8),(10,I (width.toNat:Int)),(11,I 0)]) (O:=[(8,tAU8 (List.replicate width.toNat 0))]) rfl (⟨.inl rfl,.inl rfl,.inl rfl,.inl rfl,.inl rfl,trivial⟩) (⟨.inr ⟨rfl,(by first|rfl|(simp;done)|(simp;omega)|omega),fun i_ hi_=> .inl (Zhy (enc:=cU8) rfl i_ hi_)⟩,trivial⟩) ?_
  refine Zdm (fun gn gσ=>∃(t11:Int) (ys:List Int),gn=(width-t11).toNat∧(0≤t11∧t11≤width)∧(ys.length=width.toNat)∧(∀j:Nat,(j:Int)<t11→at_ ys j=at_ (nbL n width.toNat) j)∧gσ=mkS [(0,I n),(1,I width),(5,.arr 8),(10,I (width.toNat:Int)),(11,I t11)] [(8,tAU8 ys)]) ((width-0).toNat) ⟨0,(List.replicate width.toNat 0),rfl,om,(by simp),(by intro j hj;omega),rfl⟩ (fun gn gσ hI=> ?_)
  obtain ⟨t11,ys,rfl,hi0,hy0,hy1,rfl⟩:=hI
  refine Zah ?_
  by_cases h1:t11<(width.toNat:Int)
  ·have hi:t11.toNat<ys.length:=by omega
   have hdv:=Zqt (n:=n) (r:=((2^((width-1)-t11).toNat:Nat):Int)) hn.1 (p2 _)
   have hbi:=and_one (u:=n/((2^((width-1)-t11).toNat:Nat):Int)) hdv.1 om
   have hv:48+Zel .and .i64 (n/((2^((width-1)-t11).toNat:Nat):Int)) 1=at_ (nbL n width.toNat) t11.toNat:=by rw [nbL_at om,hbi,show ((width-1)-t11).toNat=width.toNat-1-t11.toNat by omega]
   refine Zbn [(0,.dec true)] [0,1,5,10,11,12] [8] [_] hB ⟨h1,trivial⟩ (Zac (Zah (Zbr (Zar (Zac (Zah (Zbg ?_)))))))
   refine aQ [] [0,1,5,6,10,11] [8] [] hB trivial ?_
   refine Zbn [] [0,1,5,10,11] [8] [inR .i64 (width-1),inR .i64 ((width-1)-t11),(0:Int)≤((width-1)-t11)∧((width-1)-t11)≤((IntKind.bits .i64:Nat):Int),inR .i64 (48+(Zel .and .i64 (n/((2^((width-1)-t11).toNat:Nat):Int)) 1)),inR .u8 (48+(Zel .and .i64 (n/((2^((width-1)-t11).toNat:Nat):Int)) 1)),(0:Int)≤t11∧t11<(ys.length:Int),t11.toNat<ys.length] hB ⟨(Zad om om),(Zad om om),⟨om,(show ((width-1)-t11)≤(64:Int) from by omega)⟩,(Zad om om),(inR_u8 om om),⟨om,om⟩,om,trivial⟩ (Zbq 1 (Zac ?_))
   refine Zeo [] [0,1,5,10,11] [8] [I n,I width,.arr 8,I (width.toNat:Int),I (t11+1)] [some (.arr 1 ys.length (fun q=>bif Nat.beq q t11.toNat then [.val (.int .u8 (48+(Zel .and .i64 (n/((2^((width-1)-t11).toNat:Nat):Int)) 1)))] else (fU8 ys) q))] [inR .i64 (t11+1)] hB ⟨(Zad om om),trivial⟩ ?_
   refine Znk hB [] (T:=[(0,I n),(1,I width),(5,.arr 8),(10,I (width.toNat:Int)),(11,I (t11+1))]) (O:=[(8,tAU8 (ys.set t11.toNat (48+(Zel .and .i64 (n/((2^((width-1)-t11).toNat:Nat):Int)) 1))))]) rfl (⟨.inl rfl,.inl rfl,.inl rfl,.inl rfl,.inl rfl,trivial⟩) (⟨.inr ⟨rfl,(by first|rfl|(simp;done)|(simp;omega)|omega),fun i_ hi_=> .inl (Zgc (enc:=cU8) rfl i_ hi_)⟩,trivial⟩) (Zbs _ om ⟨(t11+1),(ys.set t11.toNat (48+(Zel .and .i64 (n/((2^((width-1)-t11).toNat:Nat):Int)) 1))),rfl,om,(by simp [hy0]),(by intro j hj;rw [hv];exact set_at (by rw [hy0,Zrf]) (by rw [Zrf];omega) hy1 j om),rfl⟩)
  obtain rfl:ys=nbL n width.toNat:=ext_at (by rw [hy0,Zrf]) (fun j hj=>hy1 j om)
  refine Zbn [(0,.dec false)] [0,1,5,10,11,12] [8] [_] hB ⟨h1,trivial⟩ (Zac (Zah (Zbo (Zcy (Zam (Zam (Zbi (Zac ?_))))))))
  refine aR [(1,.as (Sv (Zkj (nbL n width.toNat))))] [4] [] [Sv (Zkj (nbL n width.toNat))] [] [(Zkj (nbL n width.toNat)).size=(nbL n width.toNat).length∧∀i_,i_<(nbL n width.toNat).length→(fU8 (nbL n width.toNat)) i_=Zha (Zkj (nbL n width.toNat)) i_] hB ⟨(Yhe (fun x hx=>by have:=nbL_bd hx;omega)),trivial⟩ (Zan ?_)
  refine Zao hB (Sv (Zkj (nbL n width.toNat))) (by kernel_rfl) (.inl (by first|rfl|(refine congrArg Bv ?_;simp [*];done)|(refine congrArg Bv ?_;simp [*];omega)|(refine congrArg Bv ?_;simp_all [];done)|(refine congrArg Bv ?_;simp_all [];omega))) rfl (fun _=>trivial)
theorem Zen (s:ByteArray) (a b:Nat):(s.extract a b).size=min b s.size-a:=by simp [ByteArray.size_extract]
theorem Yed {s:ByteArray} {p f:Nat} (h:p<s.size) (h2:bAt s p=49):Zfp s p (f+1)=1+Zfp s (p+1) f:=by rw [Zfp,if_pos ⟨h,h2⟩]
theorem Ztd {s:ByteArray} {p f:Nat} (h:¬ (p<s.size∧bAt s p=49)):Zfp s p f=0:=by
 cases f with
 |zero=>rw [Zfp]
 |succ f=>rw [Zfp,if_neg h]
theorem Zjn {s:ByteArray} (h:Zfu s=true) {a w:Nat} (haw:a+w≤s.size) (j:Nat) (hj:j<w):bAt (s.extract a s.size) j=48∨bAt (s.extract a s.size) j=49:=by
 rw [Zqw om]
 exact (Zfj.1 h).2 _ om
theorem Zvh {o k:Int} (h:0≤o∧o≤20) (hk:0≤k∧k≤12):0≤o*((2^k.toNat:Nat):Int)∧o*((2^k.toNat:Nat):Int)≤81920:=by
 have hp12:((2^k.toNat:Nat):Int)≤4096:=Int.ofNat_le.2 (Nat.pow_le_pow_right (by decide) (by omega:k.toNat≤12))
 have hp:=p2 k.toNat
 exact ⟨Int.mul_nonneg h.1 om,Int.le_trans (Int.mul_le_mul h.2 hp12 om om) (by decide)⟩
section
variable {s : ByteArray} {p k o : Int}
theorem Zwk (ho:Zfp s p.toNat 20=o.toNat) (h0:0≤o∧o≤20) (h1:¬ o=20) (h:(s.size:Int)-(p+o)<1+k):Zeb s p k=(0,0,9):=by
 unfold Zeb;rw [ho,show (o.toNat:Int)=o by omega,if_neg om,if_pos h]
theorem Zwl (ho:Zfp s p.toNat 20=o.toNat) (h0:0≤o∧o≤20) (h1:¬ o=20) (h:¬ (s.size:Int)-(p+o)<1+k):Zeb s p k=(Zbp (o*((2^k.toNat:Nat):Int)+rdN (s.extract (p+o+1).toNat s.size) k.toNat),p+o+1+k,0):=by
 unfold Zeb;rw [ho,show (o.toNat:Int)=o by omega,if_neg om,if_neg h]
theorem Zgk (ho:Zfp s p.toNat 20=20) (h:(s.size:Int)-(p+20)<32):Zeb s p k=(0,0,9):=by
 unfold Zeb;rw [ho,if_pos rfl,if_pos h]
theorem Zgm (ho:Zfp s p.toNat 20=20) (h:¬ (s.size:Int)-(p+20)<32) (h2:¬ (Zqx (Zbp (rdN (s.extract (p+20).toNat s.size) 32))=true∧¬ rdN (s.extract (p+20).toNat s.size) 32/((2^k.toNat:Nat):Int)<20)):Zeb s p k=(0,0,8):=by
 unfold Zeb;rw [ho,if_pos rfl,if_neg h,if_neg h2]
theorem Zgl (ho:Zfp s p.toNat 20=20) (h:¬ (s.size:Int)-(p+20)<32) (h2:Zqx (Zbp (rdN (s.extract (p+20).toNat s.size) 32))=true) (h3:¬ rdN (s.extract (p+20).toNat s.size) 32/((2^k.toNat:Nat):Int)<20):Zeb s p k=(Zbp (rdN (s.extract (p+20).toNat s.size) 32),p+20+32,0):=by
 unfold Zeb;rw [ho,if_pos rfl,if_neg h,if_pos ⟨h2,h3⟩]
end
theorem Yek:∀x:Fin 256,∀r:Fin 8,((x.val/2^(7-r.val)) % 2=0→Zel .or .u8 (x.val:Int) ((128:Int)/((2^r.val:Nat):Int))=(x.val:Int)+((2^(7-r.val):Nat):Int)):=by decide+kernel
theorem or_bit {x:Int} (hx:0≤x∧x≤255) {r:Nat} (hr:r<8) (h:(x/((2^(7-r):Nat):Int)) % 2=0):Zel .or .u8 x ((128:Int)/((2^r:Nat):Int))=x+((2^(7-r):Nat):Int):=by
 obtain ⟨n,rfl⟩:∃n:Nat,x=(n:Int):=⟨x.toNat,by omega⟩
 have h2:(n/2^(7-r)) % 2=0:=by
  have:(((n/2^(7-r)) % 2:Nat):Int)=0:=by rw [Int.natCast_emod,Int.natCast_ediv];exact h
  omega
 exact Yek ⟨n,by omega⟩ ⟨r,hr⟩ h2
def Yab (x:Int) (i:Nat):Int:=(x/((2^(7-i):Nat):Int)) % 2
theorem Yan:∀x:Fin 256,∀r i:Fin 8,(x.val/2^(7-r.val)) % 2=0→x.val+2^(7-r.val)<256∧((x.val+2^(7-r.val))/2^(7-i.val)) % 2=if i.val=r.val then 1 else (x.val/2^(7-i.val)) % 2:=by decide+kernel
theorem Zvt (n i:Nat):Yab (n:Int) i=(((n/2^(7-i)) % 2:Nat):Int):=by unfold Yab;rw [Int.natCast_emod,Int.natCast_ediv];rfl
theorem bit_add {x:Int} (hx:0≤x∧x≤255) {r:Nat} (hr:r<8) (h:Yab x r=0):(0≤x+((2^(7-r):Nat):Int)∧x+((2^(7-r):Nat):Int)≤255)∧∀i,i<8→Yab (x+((2^(7-r):Nat):Int)) i=if i=r then 1 else Yab x i:=by
 obtain ⟨n,rfl⟩:∃n:Nat,x=(n:Int):=⟨x.toNat,by omega⟩
 have h2:(n/2^(7-r)) % 2=0:=by rw [Zvt] at h;omega
 have q:=Yan ⟨n,by omega⟩ ⟨r,hr⟩
 have q0:=(q ⟨0,by omega⟩ h2).1
 simp only at q0
 have e3:((n+2^(7-r):Nat):Int)=(n:Int)+((2^(7-r):Nat):Int):=Int.natCast_add _ _
 refine ⟨by rw [←e3];exact ⟨Int.natCast_nonneg _,Int.ofNat_le.2 (show n+2^(7-r)≤255 by omega)⟩,fun i hi=> ?_⟩
 have q1:=(q ⟨i,hi⟩ h2).2
 simp only at q1
 rw [←e3,Zvt,Zvt,q1]
 split<;>rfl
def Yec (bits:ByteArray) (k:Nat) (ys:List Int):Prop:=ys.length=(bits.size+7)/8∧∀j,j<ys.length→(0≤at_ ys j∧at_ ys j≤255)∧∀i,i<8→Yab (at_ ys j) i=if 8*j+i<k∧bAt bits (8*j+i)=49 then 1 else 0
theorem pk_start {bits:ByteArray} {n:Nat} (hn:n=(bits.size+7)/8):Yec bits 0 (List.replicate n 0):=by
 refine ⟨by simp [hn],fun j hj=> ?_⟩
 have e:at_ (List.replicate n (0:Int)) j=0:=by simp at hj;simp [at_,hj]
 rw [e]
 refine ⟨by omega,fun i hi=> ?_⟩
 rw [if_neg om]
 unfold Yab;simp
theorem pk_no {bits:ByteArray} {k:Nat} {ys:List Int} (h:Yec bits k ys) (hb:¬ bAt bits k=49):Yec bits (k+1) ys:=by
 refine ⟨h.1,fun j hj=>⟨(h.2 j hj).1,fun i hi=> ?_⟩⟩
 rw [(h.2 j hj).2 i hi]
 by_cases e:8*j+i=k
 ·rw [e,if_neg (fun q=>hb q.2),if_neg (fun q=>hb q.2)]
 ·by_cases e2:8*j+i<k
  ·simp [e2,show 8*j+i<k+1 from by omega]
  ·rw [if_neg (fun q=>e2 q.1),if_neg (fun q=>by omega)]
theorem pk_at {bits:ByteArray} {k:Nat} {ys:List Int} (h:Yec bits k ys) (hk:k<bits.size):k/8<ys.length∧(0≤at_ ys (k/8)∧at_ ys (k/8)≤255)∧Yab (at_ ys (k/8)) (k % 8)=0:=by
 have h1:k/8<ys.length:=by rw [h.1];omega
 refine ⟨h1,(h.2 _ h1).1,?_⟩
 rw [(h.2 _ h1).2 _ om,if_neg om]
theorem pk_yes {bits:ByteArray} {k:Nat} {ys:List Int} {c:Int} (h:Yec bits k ys) (hk:k<bits.size) (hb:bAt bits k=49) (hc:c=at_ ys (k/8)+((2^(7-k % 8):Nat):Int)):Yec bits (k+1) (ys.set (k/8) c):=by
 have q:=pk_at h hk
 have a:=bit_add q.2.1 (by omega:k % 8<8) q.2.2
 rw [←hc] at a
 refine ⟨by rw [List.length_set];exact h.1,fun j hj=> ?_⟩
 rw [List.length_set] at hj
 by_cases e:j=k/8
 ·subst e
  have e1:at_ (ys.set (k/8) c) (k/8)=c:=by simp [at_,q.1]
  rw [e1]
  refine ⟨a.1,fun i hi=> ?_⟩
  rw [a.2 i hi]
  by_cases e2:i=k % 8
  ·rw [if_pos e2,if_pos ⟨by omega,by rw [show 8*(k/8)+i=k from by omega];exact hb⟩]
  ·rw [if_neg e2,(h.2 _ hj).2 i hi]
   by_cases e3:8*(k/8)+i<k
   ·simp [e3,show 8*(k/8)+i<k+1 from by omega]
   ·rw [if_neg (fun z=>e3 z.1),if_neg (fun z=>by omega)]
 ·have e1:at_ (ys.set (k/8) c) j=at_ ys j:=by simp [at_,List.getElem?_set,Ne.symm e]
  rw [e1]
  refine ⟨(h.2 j hj).1,fun i hi=> ?_⟩
  rw [(h.2 j hj).2 i hi]
  by_cases e3:8*j+i<k
  ·simp [e3,show 8*j+i<k+1 from by omega]
  ·rw [if_neg (fun z=>e3 z.1),if_neg (fun z=>by omega)]
def pkS_ (bits s:ByteArray):Prop:=s.size=(bits.size+7)/8∧∀j,j<s.size→∀i,i<8→Yab (bAt s j) i=if 8*j+i<bits.size∧bAt bits (8*j+i)=49 then 1 else 0
theorem Yhf {bits:ByteArray} {ys:List Int} (h:Yec bits bits.size ys):pkS_ bits (Zkj ys):=by
 refine ⟨by rw [Zch];exact h.1,fun j hj i hi=> ?_⟩
 rw [Zch] at hj
 rw [Znt hj (h.2 j hj).1]
 exact (h.2 j hj).2 i hi
theorem at_memI {xs:List Int} {x:Int} (h:x∈xs):∃i,i<xs.length∧at_ xs i=x:=by
 obtain ⟨i,hi,e⟩:=List.getElem_of_mem h
 exact ⟨i,hi,by rw [Zea hi];exact e⟩
theorem pk_bytes {bits:ByteArray} {k:Nat} {ys:List Int} (h:Yec bits k ys):∀x∈ys,0≤x∧x≤255:=fun x hx=>by
 obtain ⟨j,hj,rfl⟩:=at_memI hx
 exact (h.2 j hj).1
def Ztp (s:ByteArray):Nat→ByteArray
 |0=>⟨#[]⟩
 |k+1=>Ztp s k++Zds (bAt s k) 8
theorem Zid (s:ByteArray):∀k,(Ztp s k).size=8*k
 |0=>rfl
 |k+1=>by rw [Ztp,ByteArray.size_append,Zid s k,Zbx];omega
theorem Yad {s:ByteArray} :∀ {k j i:Nat},j<k→i<8→bAt (Ztp s k) (8*j+i)=48+Yab (bAt s j) i
 |0,j,i,h,_=>absurd h (Nat.not_lt_zero _)
 |k+1,j,i,h,hi=>by
  rw [Ztp]
  by_cases e:j<k
  ·rw [Zfl (by rw [Zid];omega)];exact Yad e hi
  ·have:j=k:=by omega
   subst this
   rw [Zep (by rw [Zid];omega),Zid,show 8*j+i-8*j=i from by omega,Znx (by show i<8;exact hi)]
   rfl
theorem unp_pack {bits s:ByteArray} (hb:Zfu bits=true) (h:pkS_ bits s):(Ztp s s.size).size=8*((bits.size+7)/8)∧∀j,j<bits.size→bAt (Ztp s s.size) j=bAt bits j:=by
 refine ⟨by rw [Zid,h.1],fun j hj=> ?_⟩
 have h1:=Yad (s:=s) (k:=s.size) (j:=j/8) (i:=j % 8) (by rw [h.1];omega) om
 have h2:=h.2 (j/8) (by rw [h.1];omega) (j % 8) om
 rw [show 8*(j/8)+j % 8=j from by omega] at h1 h2
 rw [h1,h2]
 rcases (Zfj.1 hb).2 j hj with e|e
 ·rw [if_neg om,e];rfl
 ·rw [if_pos ⟨hj,e⟩,e];rfl
theorem Zvg {a b:ByteArray} (hs:a.size=b.size) (h:∀j,j<b.size→bAt a j=bAt b j):a=b:=by
 apply ByteArray.ext
 apply Array.ext
 ·exact hs
 ·intro i h1 h2
  have hi:i<b.size:=h2
  have q:=h i hi
  rw [Zvq om,Zvq hi] at q
  have q2:a.data.toList[i].toNat=b.data.toList[i].toNat:=by omega
  simpa using UInt8.toNat_inj.1 q2
theorem bAt_ext0 {s:ByteArray} {n i:Nat} (h:i<n) (hn:n≤s.size):bAt (s.extract 0 n) i=bAt s i:=by
 rw [Zvq (by rw [ByteArray.size_extract];omega),Zvq om]
 simp
theorem pre_eq {a b:ByteArray} (hs:b.size≤a.size) (h:∀j,j<b.size→bAt a j=bAt b j):a.extract 0 b.size=b:=
 Zvg (by rw [ByteArray.size_extract];omega) fun j hj=>by rw [bAt_ext0 hj hs];exact h j hj
def Ydz (n k:Int):Int:=if Zco n/((2^k.toNat:Nat):Int)<20 then Zco n/((2^k.toNat:Nat):Int)+1+k else 52
theorem Zzy {n k:Int} (hn:-1000000000≤n∧n≤1000000000) (hk:0≤k∧k≤12):1≤Ydz n k∧Ydz n k≤52:=by
 have hf:=Zqs hn
 have hq:0≤Zco n/((2^k.toNat:Nat):Int):=Int.ediv_nonneg hf.1 (Int.le_of_lt (p2 _))
 unfold Ydz
 split<;>omega
def Zwj (l:List Int) (k:Int):Nat→Int
 |0=>0
 |m+1=>Zwj l k m+Ydz (at_ l m) k
theorem Zqu {l:List Int} {k:Int} (hl:∀x∈l,-1000000000≤x∧x≤1000000000) (hk:0≤k∧k≤12):∀ {m:Nat},m≤l.length→(m:Int)≤Zwj l k m∧Zwj l k m≤52*(m:Int)
 |0,_=>by simp [Zwj]
 |m+1,h=>by
  have ih:=Zqu hl hk (m:=m) om
  have:=Zzy (k:=k) (hl _ (Zca (xs:=l) (i:=m) om)) hk
  rw [Zwj]
  omega
def brS (l:List Int):Nat→Int×Int
 |0=>(0,-1)
 |k+1=>if (brS l k).2<0∨Zwj l k l.length<(brS l k).2 then ((k:Int),Zwj l k l.length) else brS l k
theorem Zkv {l:List Int} (hl:∀x∈l,-1000000000≤x∧x≤1000000000):∀ {K:Nat},K≤12→(0≤(brS l (K+1)).1∧(brS l (K+1)).1≤(K:Int))∧(brS l (K+1)).2=Zwj l (brS l (K+1)).1 l.length∧∀p:Int,0≤p→p≤(K:Int)→(brS l (K+1)).2≤Zwj l p l.length∧(p<(brS l (K+1)).1→(brS l (K+1)).2<Zwj l p l.length)
 |0,_=>by
  have e:brS l (0+1)=(0,Zwj l 0 l.length):=by rw [brS,brS];rfl
  rw [e]
  refine ⟨by simp,rfl,fun p h1 h2=> ?_⟩
  have:p=0:=by omega
  subst this
  exact ⟨Int.le_refl _,fun h=>absurd h (by simp)⟩
 |K+1,h=>by
  have ih:=Zkv hl (K:=K) om
  have hs:=Zqu (k:=(brS l (K+1)).1) hl om (Nat.le_refl _)
  have hn:¬ (brS l (K+1)).2<0:=by rw [ih.2.1];omega
  by_cases c:Zwj l ((K+1:Nat):Int) l.length<(brS l (K+1)).2
  ·have e:brS l (K+1+1)=(((K+1:Nat):Int),Zwj l ((K+1:Nat):Int) l.length):=by rw [brS,if_pos (.inr c)]
   rw [e]
   refine ⟨by simp only;omega,rfl,fun p h1 h2=> ?_⟩
   by_cases q:p=((K+1:Nat):Int)
   ·subst q;exact ⟨Int.le_refl _,fun h=>absurd h (by simp)⟩
   ·have:=(ih.2.2 p h1 om).1
    exact ⟨by simp only;omega,fun _=>by simp only;omega⟩
  ·have e:brS l (K+1+1)=brS l (K+1):=by rw [brS,if_neg (fun z=>z.elim hn c)]
   rw [e]
   refine ⟨by omega,ih.2.1,fun p h1 h2=> ?_⟩
   by_cases q:p=((K+1:Nat):Int)
   ·subst q;exact ⟨by omega,fun h=>by omega⟩
   ·exact ih.2.2 p h1 om
def gsI (l:List Int):Nat→Int
 |0=>0
 |1=>at_ l 0
 |n+2=>2*at_ l (n+1)-at_ l n
def Zii (l:List Int):List Int:=(List.range l.length).map fun i=>at_ l i-gsI l i
theorem Zfk (l:List Int):(Zii l).length=l.length:=by simp [Zii]
theorem Zvi {l:List Int} {i:Nat} (h:i<l.length):at_ (Zii l) i=at_ l i-gsI l i:=by simp [at_,Zii,h]
def rsdN (l:List Int) (n:Nat):List Int:=(List.range n).map fun i=>at_ l i-gsI l i
theorem Yhd (l:List Int) (n:Nat):rsdN l (n+1)=rsdN l n++[at_ l n-gsI l n]:=by simp [rsdN,List.range_succ]
theorem Yhb {l:List Int} {B:Int} (hB:0≤B) (hl:∀x∈l,-B≤x∧x≤B):∀ {i:Nat},i≤l.length→-(3*B)≤gsI l i∧gsI l i≤3*B
 |0,_=>by simp only [gsI];omega
 |1,h=>by
  have:=hl _ (Zca (xs:=l) (i:=0) om)
  simp only [gsI];omega
 |n+2,h=>by
  have h1:=hl _ (Zca (xs:=l) (i:=n) om)
  have h2:=hl _ (Zca (xs:=l) (i:=n+1) om)
  simp only [gsI];omega
theorem rsdL_bd {l:List Int} {B:Int} (hB:0≤B) (hl:∀x∈l,-B≤x∧x≤B):∀x∈Zii l,-(4*B)≤x∧x≤4*B:=fun x hx=>by
 obtain ⟨i,hi,e⟩:=List.getElem_of_mem hx
 have hi':i<l.length:=by rw [Zfk] at hi;exact hi
 have e2:at_ (Zii l) i=x:=by rw [Zea hi];exact e
 rw [←e2,Zvi hi']
 have h1:=hl _ (Zca hi')
 have h2:=Yhb hB hl (i:=i) om
 omega
def sAt (s:ByteArray) (a:Nat) (t:ByteArray):Prop:=a+t.size≤s.size∧∀j,j<t.size→bAt s (a+j)=bAt t j
theorem Zkx {s x y:ByteArray} {a:Nat} :sAt s a (x++y)↔sAt s a x∧sAt s (a+x.size) y:=by
 unfold sAt
 rw [ByteArray.size_append]
 constructor
 ·rintro ⟨h1,h2⟩
  refine ⟨⟨by omega,fun j hj=> ?_⟩,by omega,fun j hj=> ?_⟩
  ·have:=h2 j om
   rw [Zfl hj] at this;exact this
  ·have:=h2 (x.size+j) om
   rw [Zep om,show x.size+j-x.size=j from by omega,←Nat.add_assoc] at this;exact this
 ·rintro ⟨⟨h1,h2⟩,h3,h4⟩
  refine ⟨by omega,fun j hj=> ?_⟩
  by_cases q:j<x.size
  ·rw [Zfl q];exact h2 j q
  ·rw [Zep om,←h4 (j-x.size) om];congr 1;omega
theorem Yao {s:ByteArray} {a:Nat} {n w:Int} (h:sAt s a (Zds n w)) (hn:0≤n) (h2:n<((2^w.toNat:Nat):Int)):rdN (s.extract a s.size) w.toNat=n:=by
 have hz:=Zbx n w
 have h1:=h.1
 refine Yam (fun j hj=> ?_) hn h2
 rw [Zqw om,h.2 j om,Znx hj]
def riC (l:List Int) (k:Int):Nat→ByteArray
 |0=>⟨#[]⟩
 |m+1=>riC l k m++Zdo (at_ l m) k
def kB (l:List Int):Int:=(brS (Zii l) 13).1
def Zgp (l:List Int):ByteArray:=Zds (kB l) 4++riC (Zii l) (kB l) (Zii l).length
def rOk (l:List Int):Prop:=∀x∈l,-1000000000≤x∧x≤1000000000
def okL (l:List Int):Prop:=l.length≤60∧∀x∈l,0≤x∧x≤3600000
theorem okL_r {l:List Int} (h:okL l):∀x∈Zii l,-14400000≤x∧x≤14400000:=fun x hx=>by
 have:=rsdL_bd (B:=3600000) (by decide) (fun x hx=>by have:=h.2 x hx;omega) x hx;omega
theorem Zoo {l:List Int} (h:okL l):rOk (Zii l):=fun x hx=>by have:=okL_r h x hx;omega
theorem kB_bd {l:List Int} (h:okL l):0≤kB l∧kB l≤12:=(Zkv (Zoo h) (K:=12) (by decide)).1
theorem ri_sz {n k:Int} (hn:-1000000000≤n∧n≤1000000000) (hk:0≤k∧k≤12):1≤(Zdo n k).size∧(Zdo n k).size≤52:=by
 have a:=Ztg hn hk.1
 have b:=Zzy hn hk
 unfold Ydz at b
 omega
theorem Zis {l:List Int} {k:Int} (hl:rOk l) (hk:0≤k∧k≤12):∀m:Nat,m≤l.length→(riC l k m).size≤52*m
 |0,_=>Nat.le_refl _
 |m+1,h=>by
  have ih:=Zis hl hk m om
  have:=ri_sz (hl _ (Zca (xs:=l) (i:=m) om)) hk
  rw [riC,ByteArray.size_append];omega
theorem Yag {s:ByteArray} {a:Nat} {l:List Int} {k:Int} {i:Nat} :∀m:Nat,i≤m→sAt s a (riC l k m)→sAt s a (riC l k i)
  | 0, hi, h => by have : i = 0 := by omega
                   subst this;exact h
  |m+1,hi,h=>by
    by_cases e:i=m+1
    · subst e;exact h
    · exact Yag m om (Zkx.1 h).1
theorem Zvk {s:ByteArray} {a:Nat} {l:List Int} {k:Int} {i m:Nat} (hl:rOk l) (hk:0≤k∧k≤12) (h:sAt s a (riC l k m)) (hi:i<m) (hm:m≤l.length):Zeb s ((a+(riC l k i).size:Nat):Int) k=(at_ l i,((a+(riC l k (i+1)).size:Nat):Int),0)∧a+(riC l k (i+1)).size≤s.size:=by
 have h1:=Yag (i:=i+1) m om h
 have h2:=(Zkx.1 h1).2
 have h3:=h2.1
 have e:=Yhq (s:=s) (p:=((a+(riC l k i).size:Nat):Int)) (k:=k) (n:=at_ l i) om hk.1 (hl _ (Zca om)) om (fun j hj=>by rw [Int.toNat_natCast];exact h2.2 j hj)
 have ez:(riC l k (i+1)).size=(riC l k i).size+(Zdo (at_ l i) k).size:=by rw [riC,ByteArray.size_append]
 rw [e,ez]
 refine ⟨?_,by omega⟩
 congr 2
 omega
theorem riC_uniq {s:ByteArray} {a:Nat} {l m:List Int} {k:Int} (hl:rOk l) (hm:rOk m) (hk:0≤k∧k≤12) (he:l.length=m.length) (h1:sAt s a (riC l k l.length)) (h2:sAt s a (riC m k m.length)):l=m:=by
 have go:∀i:Nat,i≤l.length→(riC l k i).size=(riC m k i).size∧∀j,j<i→at_ l j=at_ m j:=fun i=>by
  induction i with
  |zero=>exact fun _=>⟨rfl,fun j hj=>absurd hj (Nat.not_lt_zero _)⟩
  |succ i ih=>
   intro hi
   have ih:=ih om
   have r1:=(Zvk hl hk h1 (i:=i) om (Nat.le_refl _)).1
   have r2:=(Zvk hm hk h2 (i:=i) om (Nat.le_refl _)).1
   rw [ih.1] at r1
   have r3:=r1.symm.trans r2
   simp only [Prod.mk.injEq,and_true] at r3
   refine ⟨by have:=r3.2;omega,fun j hj=> ?_⟩
   by_cases e:j=i
   ·subst e;exact r3.1
   ·exact ih.2 j om
 refine List.ext_getElem he fun j q1 q2=> ?_
 have:=(go l.length (Nat.le_refl _)).2 j q1
 rw [Zea q1,Zea q2] at this
 exact this
theorem Yhk {l m:List Int} (he:l.length=m.length) (h:Zii l=Zii m):l=m:=by
 have go:∀i:Nat,i≤l.length→∀j,j<i→at_ l j=at_ m j:=fun i=>by
  induction i with
  |zero=>exact fun _ j hj=>absurd hj (Nat.not_lt_zero _)
  |succ i ih=>
   intro hi j hj
   have ih:=ih om
   by_cases e:j=i
   ·subst e
    have a:=Zvi (l:=l) (i:=j) om
    have b:=Zvi (l:=m) (i:=j) om
    rw [h] at a
    have g:gsI l j=gsI m j:=by
     match j,ih with
     |0,_=>rfl
     |1,ih=>exact ih 0 om
     |n+2,ih=>
      show 2*at_ l (n+1)-at_ l n=2*at_ m (n+1)-at_ m n
      rw [ih (n+1) om,ih n om]
    omega
   ·exact ih j om
 refine List.ext_getElem he fun j q1 q2=> ?_
 have:=go l.length (Nat.le_refl _) j q1
 rw [Zea q1,Zea q2] at this
 exact this
theorem p24:((2^(4:Int).toNat:Nat):Int)=16:=by decide
theorem p28:((2^(8:Int).toNat:Nat):Int)=256:=by decide
theorem col_k {s:ByteArray} {a:Nat} {l:List Int} (h:sAt s a (Zgp l)) (ho:okL l):rdN (s.extract a s.size) 4=kB l∧sAt s (a+4) (riC (Zii l) (kB l) (Zii l).length)∧a+4≤s.size:=by
 have q:=Zkx.1 h
 have hk:=kB_bd ho
 have hz:=Zbx (kB l) 4
 have e:(4:Int).toNat=4:=rfl
 rw [e] at hz
 rw [hz] at q
 exact ⟨Yao q.1 hk.1 (by rw [p24];omega),q.2,by have:=q.2.1;omega⟩
theorem Zlh {s:ByteArray} {a:Nat} {l m:List Int} (h1:sAt s a (Zgp l)) (h2:sAt s a (Zgp m)) (he:l.length=m.length) (hl:okL l) (hm:okL m):l=m:=by
 have a1:=col_k h1 hl
 have a2:=col_k h2 hm
 have ek:kB l=kB m:=a1.1.symm.trans a2.1
 rw [ek] at a1
 refine Yhk he (riC_uniq (Zoo hl) (Zoo hm) (kB_bd hm) (by rw [Zfk,Zfk];exact he) a1.2.1 a2.2.1)
def Zfd (s:Stroke) (c:Nat):List Int:=s.Points.map fun p=>if c=0 then p.X else if c=1 then p.Y else p.T
theorem Zdu (s:Stroke) (c:Nat):(Zfd s c).length=s.Points.length:=by unfold Zfd;rw [List.length_map]
def pcB (s:Stroke):Nat→ByteArray
 |0=>Zds (s.Points.length:Int) 8
 |c+1=>pcB s c++Zgp (Zfd s c)
def Zyw (s:Stroke):ByteArray:=pcB s 3
def Zkb (ss:List Stroke):Nat→ByteArray
 |0=>Zds (ss.length:Int) 8
 |m+1=>Zkb ss m++Zyw (at_ ss m)
theorem Zpk {s:Stroke} (h:Zbe s=true):(1≤s.Points.length∧s.Points.length≤60)∧∀p∈s.Points,(0≤p.X∧p.X≤4095)∧(0≤p.Y∧p.Y≤4095)∧(0≤p.T∧p.T≤3600000):=by
 simp only [Zbe,Bool.and_eq_true,decide_eq_true_eq] at h
 refine ⟨by omega,fun p hp=> ?_⟩
 obtain ⟨j,hj,q⟩:=List.getElem_of_mem hp
 have a:=Zik.1 h.2 j hj
 unfold Yak at a
 rw [Bool.and_eq_true] at a
 have:=Zrc.1 a.1
 rw [Zea hj,q] at this
 exact this
theorem Zeu {s:Stroke} (h:Zbe s=true) (c:Nat):okL (Zfd s c):=by
 have a:=Zpk h
 refine ⟨by rw [Zdu];omega,fun x hx=> ?_⟩
 obtain ⟨p,hp,rfl⟩:=List.mem_map.1 hx
 have:=a.2 p hp
 split
 ·omega
 ·split<;>omega
theorem Zmu {l:List Int} (h:okL l):4≤(Zgp l).size∧(Zgp l).size≤3124:=by
 have a:=Zis (Zoo h) (kB_bd h) (Zii l).length (Nat.le_refl _)
 have hz:=Zbx (kB l) 4
 have e:(4:Int).toNat=4:=rfl
 have:=h.1
 have e2:=Zfk l
 unfold Zgp
 rw [ByteArray.size_append];omega
theorem Zve {s:Stroke} (h:Zbe s=true):∀c,8≤(pcB s c).size∧(pcB s c).size≤8+3124*c
 |0=>by
  have hz:=Zbx (s.Points.length:Int) 8
  have e:(8:Int).toNat=8:=rfl
  show 8≤(Zds _ _).size∧(Zds _ _).size≤_
  omega
 |c+1=>by
  have ih:=Zve h c
  have:=Zmu (Zeu h c)
  rw [pcB,ByteArray.size_append];omega
theorem Ziz {ss:List Stroke} (h:∀s∈ss,Zbe s=true):∀m:Nat,m≤ss.length→8≤(Zkb ss m).size∧(Zkb ss m).size≤8+9380*m
 |0,_=>by
  have hz:=Zbx (ss.length:Int) 8
  have e:(8:Int).toNat=8:=rfl
  show 8≤(Zds _ _).size∧(Zds _ _).size≤_
  omega
 |m+1,hm=>by
  have ih:=Ziz h m om
  have:=Zve (h _ (Zca (xs:=ss) (i:=m) om)) 3
  rw [Zkb,ByteArray.size_append]
  show 8≤_+(pcB _ 3).size∧_+(pcB _ 3).size≤_
  omega
def isB (t:ByteArray):Prop:=∀j,j<t.size→bAt t j=48∨bAt t j=49
theorem Zvu {x y:ByteArray} (hx:isB x) (hy:isB y):isB (x++y):=fun j hj=>by
 rw [ByteArray.size_append] at hj
 by_cases q:j<x.size
 ·rw [Zfl q];exact hx j q
 ·rw [Zep om];exact hy _ om
theorem Yap (n w:Int):isB (Zds n w):=fun j hj=>by
 rw [Zbx] at hj
 rw [Znx hj]
 omega
theorem Yhr (l:List Int) (k:Int):∀m,isB (riC l k m)
 |0=>fun j hj=>absurd hj (Nat.not_lt_zero _)
 |m+1=>Zvu (Yhr l k m) fun j hj=>Yej hj
theorem isB_col (l:List Int):isB (Zgp l):=Zvu (Yap _ _) (Yhr _ _ _)
theorem isB_pc (s:Stroke):∀c,isB (pcB s c)
 |0=>Yap _ _
 |c+1=>Zvu (isB_pc s c) (isB_col _)
theorem Yhs (ss:List Stroke):∀m,isB (Zkb ss m)
 |0=>Yap _ _
 |m+1=>Zvu (Yhs ss m) (isB_pc _ _)
theorem Ycl {x:Ink} (h:Zcs x=true) (h6:(x.Strokes.length:Int)≤6):Zfu (Zkb x.Strokes x.Strokes.length)=true:=by
 have a:=Ziz (Znj h) x.Strokes.length (Nat.le_refl _)
 exact Zfj.2 ⟨by omega,Yhs _ _⟩
theorem Zra {s:ByteArray} {a:Nat} {x:Stroke} (h:sAt s a (Zyw x)) (ho:Zbe x=true):(rdN (s.extract a s.size) 8=(x.Points.length:Int)∧a+8≤s.size)∧sAt s (a+8) (Zgp (Zfd x 0))∧sAt s (a+8+(Zgp (Zfd x 0)).size) (Zgp (Zfd x 1))∧sAt s (a+8+(Zgp (Zfd x 0)).size+(Zgp (Zfd x 1)).size) (Zgp (Zfd x 2))∧(Zyw x).size=8+(Zgp (Zfd x 0)).size+(Zgp (Zfd x 1)).size+(Zgp (Zfd x 2)).size:=by
 have h60:=(Zpk ho).1
 have hz:=Zbx (x.Points.length:Int) 8
 have e:(8:Int).toNat=8:=rfl
 rw [e] at hz
 have ez:(Zyw x).size=8+(Zgp (Zfd x 0)).size+(Zgp (Zfd x 1)).size+(Zgp (Zfd x 2)).size:=by
  show (((Zds _ 8++Zgp _)++Zgp _)++Zgp _).size=_
  rw [ByteArray.size_append,ByteArray.size_append,ByteArray.size_append,hz]
 have q3:=Zkx.1 (show sAt s a (((Zds (x.Points.length:Int) 8++Zgp (Zfd x 0))++Zgp (Zfd x 1))++Zgp (Zfd x 2)) from h)
 have q2:=Zkx.1 q3.1
 have q1:=Zkx.1 q2.1
 rw [ByteArray.size_append,ByteArray.size_append,hz] at q3
 rw [ByteArray.size_append,hz] at q2
 rw [hz] at q1
 refine ⟨⟨Yao q1.1 om (by rw [p28];omega),by have:=q1.2.1;omega⟩,q1.2,?_,?_,ez⟩
 ·have:=q2.2;rwa [show a+(8+(Zgp (Zfd x 0)).size)=a+8+(Zgp (Zfd x 0)).size from by omega] at this
 ·have:=q3.2;rwa [show a+(8+(Zgp (Zfd x 0)).size+(Zgp (Zfd x 1)).size)=a+8+(Zgp (Zfd x 0)).size+(Zgp (Zfd x 1)).size from by omega] at this
theorem pts_ext {x y:Stroke} (h0:Zfd x 0=Zfd y 0) (h1:Zfd x 1=Zfd y 1) (h2:Zfd x 2=Zfd y 2):x=y:=by
 have he:x.Points.length=y.Points.length:=by have:=congrArg List.length h0;rwa [Zdu,Zdu] at this
 have e:x.Points=y.Points:=by
  refine List.ext_getElem he fun j q1 q2=> ?_
  have g:∀c,Zfd x c=Zfd y c→(if c=0 then x.Points[j].X else if c=1 then x.Points[j].Y else x.Points[j].T)=(if c=0 then y.Points[j].X else if c=1 then y.Points[j].Y else y.Points[j].T):=fun c hc=>by
   have w:=congrArg (fun l=>l[j]?) hc
   simp only [Zfd,List.getElem?_map,List.getElem?_eq_getElem q1,List.getElem?_eq_getElem q2,Option.map_some,Option.some.injEq] at w
   exact w
  have g0:=g 0 h0
  have g1:=g 1 h1
  have g2:=g 2 h2
  simp at g0 g1 g2
  cases hx:x.Points[j];cases hy:y.Points[j]
  rw [hx,hy] at g0 g1 g2
  simp_all
 cases x;cases y;simp_all
theorem Ybg {s:ByteArray} {a:Nat} {x y:Stroke} (h1:sAt s a (Zyw x)) (h2:sAt s a (Zyw y)) (hx:Zbe x=true) (hy:Zbe y=true):x=y:=by
 have a1:=Zra h1 hx
 have a2:=Zra h2 hy
 have el:x.Points.length=y.Points.length:=by have:=a1.1.1.symm.trans a2.1.1;omega
 have c0:=Zlh a1.2.1 a2.2.1 (by rw [Zdu,Zdu];exact el) (Zeu hx 0) (Zeu hy 0)
 have b1:=a1.2.2.1
 rw [c0] at b1
 have c1:=Zlh b1 a2.2.2.1 (by rw [Zdu,Zdu];exact el) (Zeu hx 1) (Zeu hy 1)
 have b2:=a1.2.2.2.1
 rw [c0,c1] at b2
 exact pts_ext c0 c1 (Zlh b2 a2.2.2.2.1 (by rw [Zdu,Zdu];exact el) (Zeu hx 2) (Zeu hy 2))
theorem Yaq {s:ByteArray} {a:Nat} {ss:List Stroke} {i:Nat} :∀m:Nat,i≤m→sAt s a (Zkb ss m)→sAt s a (Zkb ss i)
  | 0, hi, h => by have : i = 0 := by omega
                   subst this;exact h
  |m+1,hi,h=>by
    by_cases e:i=m+1
    · subst e;exact h
    · exact Yaq m om (Zkx.1 h).1
theorem Zyz {s:ByteArray} {ss:List Stroke} (h:sAt s 0 (Zkb ss ss.length)) (h16:ss.length≤16):rdN (s.extract 0 s.size) 8=(ss.length:Int):=Yao (Yaq (i:=0) ss.length (Nat.zero_le _) h) om (by rw [p28];omega)
theorem Ybf {s:ByteArray} {ss:List Stroke} (h:sAt s 0 (Zkb ss ss.length)) {i:Nat} (hi:i<ss.length):sAt s (Zkb ss i).size (Zyw (at_ ss i)):=by
 have:=(Zkx.1 (Yaq (i:=i+1) ss.length om h)).2
 rwa [Nat.zero_add] at this
theorem ink_uniq {s:ByteArray} {x y:Ink} (h1:sAt s 0 (Zkb x.Strokes x.Strokes.length)) (h2:sAt s 0 (Zkb y.Strokes y.Strokes.length)) (hx:Zcs x=true) (hy:Zcs y=true):x=y:=by
 have lx:=Yho hx
 have ly:=Yho hy
 have el:x.Strokes.length=y.Strokes.length:=by
  have:=(Zyz h1 om).symm.trans (Zyz h2 om);omega
 have go:∀i:Nat,i≤x.Strokes.length→(Zkb x.Strokes i).size=(Zkb y.Strokes i).size∧∀j,j<i→at_ x.Strokes j=at_ y.Strokes j:=fun i=>by
  induction i with
  |zero=>exact fun _=>⟨by show (Zds _ _).size=(Zds _ _).size;rw [Zbx,Zbx],fun j hj=>absurd hj (Nat.not_lt_zero _)⟩
  |succ i ih=>
   intro hi
   have ih:=ih om
   have r1:=Ybf h1 (i:=i) om
   have r2:=Ybf h2 (i:=i) om
   rw [ih.1] at r1
   have e:=Ybg r1 r2 (Zpr hx i om) (Zpr hy i om)
   refine ⟨by rw [Zkb,Zkb,ByteArray.size_append,ByteArray.size_append,ih.1,e],fun j hj=> ?_⟩
   by_cases q:j=i
   ·subst q;exact e
   ·exact ih.2 j om
 have:x.Strokes=y.Strokes:=by
  refine List.ext_getElem el fun j q1 q2=> ?_
  have:=(go x.Strokes.length (Nat.le_refl _)).2 j q1
  rw [Zea q1,Zea q2] at this
  exact this
 cases x;cases y;simp_all
def ckS (s:ByteArray):Nat→Int
 |0=>1
 |k+1=>(ckS s k*257+bAt s k) % 65521
theorem Yhg (s:ByteArray):∀k,0≤ckS s k∧ckS s k<65521
 |0=>by show (0:Int)≤1∧(1:Int)<65521;decide
 |k+1=>by
  show 0≤(ckS s k*257+bAt s k) % 65521∧(ckS s k*257+bAt s k) % 65521<65521
  omega
def ckA (s:ByteArray):Int:=ckS s s.size
def hdI:ByteArray:=⟨#[73,75]⟩
def Yac (p:ByteArray):ByteArray:=(hdI++p)++Zkj [IntKind.u8.wrap (ckA (hdI++p)/256),IntKind.u8.wrap (ckA (hdI++p))]
theorem u8_bd (n:Int):0≤IntKind.u8.wrap n∧IntKind.u8.wrap n≤255:=by
 have e:IntKind.u8.wrap n=n % 256:=by simp [IntKind.wrap,IntKind.signed,IntKind.bits]
 omega
theorem u8_mod (n:Int):IntKind.u8.wrap n=n % 256:=by simp [IntKind.wrap,IntKind.signed,IntKind.bits]
theorem u8_is {n:Int} (h:0≤n∧n≤255):IntKind.u8.wrap n=n:=by
 have e:IntKind.u8.wrap n=n % 256:=by simp [IntKind.wrap,IntKind.signed,IntKind.bits]
 omega
theorem u8_two {a b x:Int} (h:x∈ [IntKind.u8.wrap a,IntKind.u8.wrap b]):0≤x∧x≤255:=by
 simp only [List.mem_cons,List.not_mem_nil,or_false] at h
 rcases h with rfl|rfl
 ·exact u8_bd a
 ·exact u8_bd b
def Zwi (x:Ink) (s:ByteArray):Prop:=∃p,pkS_ (Zkb x.Strokes x.Strokes.length) p∧s=Yac p
theorem Yhc {l:List Int} {i:Nat} (h:i≤l.length):gsI (l.take i) (l.take i).length=gsI l i:=by
 have e:(l.take i).length=i:=by rw [List.length_take];omega
 have g:∀j,j<i→at_ (l.take i) j=at_ l j:=fun j hj=>by rw [Zea om,Zea om,List.getElem_take]
 rw [e]
 match i,e,g with
 |0,_,_=>rfl
 |1,_,g=>exact g 0 om
 |n+2,_,g=>
  show 2*at_ _ (n+1)-at_ _ n=2*at_ l (n+1)-at_ l n
  rw [g (n+1) om,g n om]
theorem nil_app_ (x:ByteArray):(⟨#[]⟩:ByteArray)++x=x:=by apply ByteArray.ext;simp
theorem Zvf (x:ByteArray):x++(⟨#[]⟩:ByteArray)=x:=by apply ByteArray.ext;simp
def Zxw (s:Stroke) (c i:Nat):List Int:=(s.Points.take i).map fun p=>if c=0 then p.X else if c=1 then p.Y else p.T
theorem Zqq {s:Stroke} {c i:Nat} (h:i<s.Points.length):Zxw s c (i+1)=Zxw s c i++[if c=0 then (at_ s.Points i).X else if c=1 then (at_ s.Points i).Y else (at_ s.Points i).T]:=by
 unfold Zxw
 rw [List.take_succ_eq_append_getElem h,List.map_append,←Zea h];rfl
theorem Zvc (s:Stroke) (c:Nat):Zxw s c s.Points.length=Zfd s c:=by unfold Zxw Zfd;rw [List.take_length]
end Go.Proofs.YtomafbpfgpkolaaGreatDoor.Ax
