/- Contracts that the statement FnTop reaches, part 5. No conditions. -/
import Derived.Test.YtomafbpfgpkolaaGreatDoorAxLTop4
import Derived.LaidMore
import Derived.Lay
import Derived.Lib.IndexBytes
import Derived.Lib.ItoaNum
import Derived.Lib.ParseIntBCases
import Derived.Lib.Repeat
import Derived.Lib.SplitLaws
import Derived.OpenShut
import Derived.SevenTiedAt
import Derived.Shelf.Strings.SlTrimAscii
import Derived.Stop.Joined
import Derived.Test.YtomafbpfgpkolaaGreatDoorAxBd
import Derived.Test.YtomafbpfgpkolaaGreatDoorAxR
import Derived.Test.YtomafbpfgpkolaaGreatDoorAxS
import Derived.Test.YtomafbpfgpkolaaGreatDoorAxSF
import Derived.Test.YtomafbpfgpkolaaGreatDoorAxY
import Derived.Test.YtomafbpfgpkolaaGreatDoorSfFndShelf
namespace Go.Proofs.YtomafbpfgpkolaaGreatDoor.Ax
open Go.RowKit Go.ChangeShapes Go.WideShapes
set_option linter.unusedVariables false
set_option linter.unusedSimpArgs false
theorem Ydx (s:Stroke) (hs:s.Points.length≤60):∃(v:Arr3LI),(v.a0=Zfd s 0)∧(v.a1=Zfd s 1)∧(v.a2=Zfd s 2)∧Con Tryz.prog 85 [.agg [Zbj false s.Points]] true (.agg [slI true v.a0,slI true v.a1,slI true v.a2]):=by
  have hh:∃r:Arr3LI,((r.a0=Zfd s 0)∧(r.a1=Zfd s 1)∧(r.a2=Zfd s 2)∧(True))∧Zaw Tryz.prog 85 [.agg [Zbj false s.Points]] (Zae []) true (.agg [slI true r.a0,slI true r.a1,slI true r.a2]) (Zae []):=by
    refine Zcv (Φ:=fun r:Arr3LI=>(r.a0=Zfd s 0)∧(r.a1=Zfd s 1)∧(r.a2=Zfd s 2)∧(True)) [] (fun r=>[]) (fn:=Tryz.f85) (nt:=36) Tryz.func85 rfl rfl (args:=[.agg [Zbj false s.Points]]) rfl (Zbc (.inl ⟨rfl,by simp [Zai,Zaf,Zil]⟩) Zcw) (res:=fun r=> .agg [slI true r.a0,slI true r.a1,slI true r.a2]) ?_
    refine xQ [(0,.new 1),(1,.new 2)] [1,2] [1,2] [] trivial ?_
    refine xQ [(0,.new 3)] [1,2,3] [1,2,3] [] trivial (Zak ?_)
    refine xR [] [2,3,7,8,9] [2,3] [.ref 2 0,.ref 3 0,Zbj false s.Points,I (s.Points.length:Int),I 0] [some (.box [Zcj,Zcj,Zcj]),some (.box [Zcj,Zcj,Zcj])] [] trivial (Zbb ?_)
    refine Zka 3 0 730 1 (fun _=>[]) rfl (by kernel_rfl) ?_
    refine Zka 3 1 731 1 (fun _=>[]) rfl (by kernel_rfl) ?_
    refine Zka 3 2 732 1 (fun _=>[]) rfl (by kernel_rfl) ?_
    refine Zdh [] (T:=[(2,.ref 2 0),(3,.ref 3 0),(7,Zbj false s.Points),(8,I (s.Points.length:Int)),(9,I 0)]) (O:=[(2,.box [Zcj,Zcj,Zcj]),(3,.box [.arr 730,.arr 731,.arr 732]),(730,tAI ([]:List Int)),(731,tAI ([]:List Int)),(732,tAI ([]:List Int))]) rfl (⟨.inl rfl,.inl rfl,.inl rfl,.inl rfl,.inl rfl,trivial⟩) (⟨.inl rfl,.inl rfl,.inr ⟨rfl,(by first|rfl|(simp;done)|(simp;omega)|omega),fun i_ hi_=>absurd hi_ (Nat.not_lt_zero _)⟩,.inr ⟨rfl,(by first|rfl|(simp;done)|(simp;omega)|omega),fun i_ hi_=>absurd hi_ (Nat.not_lt_zero _)⟩,.inr ⟨rfl,(by first|rfl|(simp;done)|(simp;omega)|omega),fun i_ hi_=>absurd hi_ (Nat.not_lt_zero _)⟩,trivial⟩) ?_
    refine Zdc (X:=Int×(List Int)×(List Int)×(List Int)) (fun x=>mkS [(2,.ref 2 0),(3,.ref 3 0),(7,Zbj false s.Points),(8,I (s.Points.length:Int)),(9,I x.1)] [(2,.box [Zcj,Zcj,Zcj]),(3,.box [.arr 730,.arr 731,.arr 732]),(730,tAI x.2.1),(731,tAI x.2.2.1),(732,tAI x.2.2.2)]) (fun x=>(0≤x.1∧x.1≤(s.Points.length:Int))∧(x.2.1=Zxw s 0 x.1.toNat)∧(x.2.2.1=Zxw s 1 x.1.toNat)∧(x.2.2.2=Zxw s 2 x.1.toNat)∧((x.2.1.length:Int)=x.1∧(x.2.2.1.length:Int)=x.1∧(x.2.2.2.length:Int)=x.1)∧True) (fun x=>((s.Points.length:Int)-x.1).toNat) (0,([]:List Int),([]:List Int),([]:List Int)) rfl (show (0≤(0:Int)∧(0:Int)≤(s.Points.length:Int))∧(([]:List Int)=Zxw s 0 (0:Int).toNat)∧(([]:List Int)=Zxw s 1 (0:Int).toNat)∧(([]:List Int)=Zxw s 2 (0:Int).toNat)∧((([]:List Int).length:Int)=(0:Int)∧(([]:List Int).length:Int)=(0:Int)∧(([]:List Int).length:Int)=(0:Int))∧True from ⟨om,(by rfl),(by rfl),(by rfl),(by exact ⟨rfl,rfl,rfl⟩),trivial⟩) (fun x hI=> ?_)
    obtain ⟨t9,xs,ys,ts⟩:=x
    obtain ⟨hi0,hxs,hys,hts,hln,_⟩:(0≤t9∧t9≤(s.Points.length:Int))∧(xs=Zxw s 0 t9.toNat)∧(ys=Zxw s 1 t9.toNat)∧(ts=Zxw s 2 t9.toNat)∧((xs.length:Int)=t9∧(ys.length:Int)=t9∧(ts.length:Int)=t9)∧True:=hI
    show XW _ _ _ _ (mkS [(2,.ref 2 0),(3,.ref 3 0),(7,Zbj false s.Points),(8,I (s.Points.length:Int)),(9,I t9)] [(2,.box [Zcj,Zcj,Zcj]),(3,.box [.arr 730,.arr 731,.arr 732]),(730,tAI xs),(731,tAI ys),(732,tAI ts)]) _ _
    refine Zak ?_
    by_cases h1:t9<(s.Points.length:Int)
    ·have hi:t9.toNat<s.Points.length:=by omega
     have hii:(t9+1).toNat=t9.toNat+1:=by omega
     refine x_q [(0,.dec true)] [2,3,7,8,9,10] [2,3,730,731,732] [_] ⟨h1,trivial⟩ (Zab (Zak (Zeh (Zbd (Zab (Zak (Zbb ?_)))))))
     refine xQ [(2,.new 5)] [2,3,5,7,8,9] [2,3,5,730,731,732] [(0:Int)≤t9∧t9<(s.Points.length:Int)] ⟨⟨(by first|omega|(simp;omega)),(by first|omega|(simp;omega))⟩,trivial⟩ ?_
     refine xQ [(4,.new 17),(5,.new 18)] [2,3,5,7,8,9] [2,3,5,18,731,732] [(0:Int)≤0∧0<(3:Int),(xs.length+1)*8≤140737488355328,(0:Int)≤0∧0<(3:Int)] ⟨⟨by decide,by decide⟩,(by first|omega|(simp;omega)),⟨by decide,by decide⟩,trivial⟩ ?_
     refine xQ [(4,.new 24),(5,.new 25)] [2,3,5,7,8,9] [2,3,5,18,25,732] [(0:Int)≤1∧1<(3:Int),(ys.length+1)*8≤140737488355328,(0:Int)≤1∧1<(3:Int)] ⟨⟨by decide,by decide⟩,(by first|omega|(simp;omega)),⟨by decide,by decide⟩,trivial⟩ ?_
     refine x_q [(4,.new 31),(5,.new 32)] [2,3,7,8,9] [2,3,18,25,32] [(0:Int)≤2∧2<(3:Int),(ts.length+1)*8≤140737488355328,(0:Int)≤2∧2<(3:Int)] ⟨⟨by decide,by decide⟩,(by first|omega|(simp;omega)),⟨by decide,by decide⟩,trivial⟩ (Zba 1 (Zab ?_))
     refine x_r [] [2,3,7,8,9] [2,3,18,25,32] [.ref 2 0,.ref 3 0,Zbj false s.Points,I (s.Points.length:Int),I (t9+1)] [some (.box [Zcj,Zcj,Zcj]),some (.box [.arr 18,.arr 25,.arr 32]),some (.arr 1 (xs.length+1) (Zhc xs.length (fI xs) (Zhu [I ((at_ s.Points t9.toNat).X)] 1))),some (.arr 1 (ys.length+1) (Zhc ys.length (fI ys) (Zhu [I ((at_ s.Points t9.toNat).Y)] 1))),some (.arr 1 (ts.length+1) (Zhc ts.length (fI ts) (Zhu [I ((at_ s.Points t9.toNat).T)] 1)))] [inR .i64 (t9+1)] ⟨(Zad (by first|omega|(simp;omega)) (by first|omega|(simp;omega))),trivial⟩ ?_
     refine Zcf [(730,18),(731,25),(732,32)] (T:=[(2,.ref 2 0),(3,.ref 3 0),(7,Zbj false s.Points),(8,I (s.Points.length:Int)),(9,I (t9+1))]) (O:=[(2,.box [Zcj,Zcj,Zcj]),(3,.box [.arr 730,.arr 731,.arr 732]),(730,tAI (xs++[(at_ s.Points t9.toNat).X])),(731,tAI (ys++[(at_ s.Points t9.toNat).Y])),(732,tAI (ts++[(at_ s.Points t9.toNat).T]))]) rfl (⟨.inl rfl,.inl rfl,.inl rfl,.inl rfl,.inl rfl,trivial⟩) (⟨.inl rfl,.inl rfl,.inr ⟨rfl,(by first|rfl|(simp;done)|(simp;omega)|omega),fun i_ hi_=> .inl (Zec (enc:=cI) (xs:=xs) rfl i_ hi_)⟩,.inr ⟨rfl,(by first|rfl|(simp;done)|(simp;omega)|omega),fun i_ hi_=> .inl (Zec (enc:=cI) (xs:=ys) rfl i_ hi_)⟩,.inr ⟨rfl,(by first|rfl|(simp;done)|(simp;omega)|omega),fun i_ hi_=> .inl (Zec (enc:=cI) (xs:=ts) rfl i_ hi_)⟩,trivial⟩) (Zay ((t9+1),(xs++[(at_ s.Points t9.toNat).X]),(ys++[(at_ s.Points t9.toNat).Y]),(ts++[(at_ s.Points t9.toNat).T])) rfl (show (0≤(t9+1)∧(t9+1)≤(s.Points.length:Int))∧((xs++[(at_ s.Points t9.toNat).X])=Zxw s 0 (t9+1).toNat)∧((ys++[(at_ s.Points t9.toNat).Y])=Zxw s 1 (t9+1).toNat)∧((ts++[(at_ s.Points t9.toNat).T])=Zxw s 2 (t9+1).toNat)∧(((xs++[(at_ s.Points t9.toNat).X]).length:Int)=(t9+1)∧((ys++[(at_ s.Points t9.toNat).Y]).length:Int)=(t9+1)∧((ts++[(at_ s.Points t9.toNat).T]).length:Int)=(t9+1))∧True from ⟨om,(by (rw [hii,Zqq hi,←hxs];rfl)),(by (rw [hii,Zqq hi,←hys];rfl)),(by (rw [hii,Zqq hi,←hts];rfl)),(by (simp;omega)),trivial⟩) (by first|(show (((s.Points.length:Int)-(t9+1)).toNat:Nat)<((s.Points.length:Int)-t9).toNat;omega)|(dsimp only;omega)))
    have hie:t9.toNat=s.Points.length:=by omega
    refine x_r [(0,.dec false)] [2,3,7,8,9,10] [2,3,730,731,732] [.ref 2 0,.ref 3 0,Zbj false s.Points,I (s.Points.length:Int),I t9,Bv false] [some (.box [Zcj,Zcj,Zcj]),some (.box [.arr 730,.arr 731,.arr 732]),some (tAI xs),some (tAI ys),some (tAI ts)] [_] ⟨h1,trivial⟩ (Zab (Zak (Zbt rfl (Zcp (Zas ?_)))))
    refine Zax ?_
    refine Zat (Zab ?_)
    refine xR [] [2] [2,730,731,732] [.ref 2 0] [some (.box [.arr 730,.arr 731,.arr 732]),some (tAI xs),some (tAI ys),some (tAI ts)] [] trivial (Zdd ?_)
    refine Zbw (Arr3LI.mk xs ys ts) (show ((Arr3LI.mk xs ys ts).a0=Zfd s 0)∧((Arr3LI.mk xs ys ts).a1=Zfd s 1)∧((Arr3LI.mk xs ys ts).a2=Zfd s 2)∧(True) from ⟨(by (rw [hxs,hie];exact Zvc _ _)),(by (rw [hys,hie];exact Zvc _ _)),(by (rw [hts,hie];exact Zvc _ _)),trivial⟩) (trivial) (.agg [.arr 730,.arr 731,.arr 732]) (by kernel_rfl) (.inr ⟨⟨(fun _=>rfl),rfl,rfl,fun i _=> .inl rfl⟩,⟨⟨(fun _=>rfl),rfl,rfl,fun i _=> .inl rfl⟩,⟨⟨(fun _=>rfl),rfl,rfl,fun i _=> .inl rfl⟩,rfl⟩⟩⟩) (fun _=>rfl) (fun _=>(by simp [Zai,Zaf,Ydy]))
  obtain ⟨v,⟨hh0,hh1,hh2,_⟩,hc⟩:=hh
  exact ⟨v,hh0,hh1,hh2,hc⟩
theorem Zon (list:List Int) (hx:∀x∈list,-125000000≤x∧x≤125000000) (hl:list.length≤100):Con Tryz.prog 116 [slI false list] true (I (gsI list list.length)):=by
  refine Zcm (fn:=Tryz.f116) (nt:=26) Tryz.func116 rfl rfl rfl rfl (by simp [Zaf,Zai,Ydy]) fun B hB=> ?_
  refine Zck (x:=slI false list) 0 rfl (fun len_list=> ?_)
  simp [Zei,Zhv,cI,fI,slI] at len_list
  refine aQ [] [0] [] [] hB trivial ?_
  refine aQ [] [0,3] [] [] hB trivial ?_
  refine aQ [] [0,3,6] [] [] hB trivial (Zbg (Zah ?_))
  by_cases h1:(list.length:Int)=0
  ·refine Zbn [(0,.dec true)] [0,3,6,19] [] [_] hB ⟨h1,trivial⟩ (Zac (Zbr ?_))
   refine aR [] [2] [] [I 0] [] [] hB trivial (Zan (Zaz ?_))
   refine Zao hB (I 0) (by kernel_rfl) (.inl (by first|(rw [show list.length=0 from by omega];rfl)|(rw [show list.length=1 from by omega];rfl)|(refine congrArg I ?_;rw [e1,e2,hn_];rfl))) rfl (fun _=>trivial)
  refine Zbn [(0,.dec false)] [0,3,6,19] [] [_] hB ⟨h1,trivial⟩ (Zac (Zbo (Zah ?_)))
  by_cases h2:(list.length:Int)=1
  ·have hl1:=hx _ (Zca (xs:=list) (i:=0) om)
   refine Zbn [(0,.dec true)] [0,3,21] [] [_] hB ⟨h2,trivial⟩ (Zac (Zbr ?_))
   refine aR [] [2] [] [I (at_ list 0)] [] [(0:Int)≤0∧0<(list.length:Int)] hB ⟨⟨om,om⟩,trivial⟩ (Zan (Zaz ?_))
   refine Zao hB (I (at_ list 0)) (by kernel_rfl) (.inl (by first|(rw [show list.length=0 from by omega];rfl)|(rw [show list.length=1 from by omega];rfl)|(refine congrArg I ?_;rw [e1,e2,hn_];rfl))) rfl (fun _=>trivial)
  have e1:((list.length:Int)-1).toNat=list.length-1:=by omega
  have e2:((list.length:Int)-2).toNat=list.length-2:=by omega
  have hm1:=hx _ (Zca (xs:=list) (i:=((list.length:Int)-1).toNat) om)
  have hm2:=hx _ (Zca (xs:=list) (i:=((list.length:Int)-2).toNat) om)
  obtain ⟨n_,hn_⟩:∃n_:Nat,list.length=n_+2:=⟨list.length-2,by omega⟩
  refine Zbn [(0,.dec false)] [0,3,21] [] [_] hB ⟨h2,trivial⟩ (Zac (Zbo ?_))
  refine aR [] [2] [] [I ((2*(at_ list (((list.length:Int)-1).toNat)))-(at_ list (((list.length:Int)-2).toNat)))] [] [inR .i64 ((list.length:Int)-1),(0:Int)≤((list.length:Int)-1)∧((list.length:Int)-1)<(list.length:Int),inR .i64 (2*(at_ list (((list.length:Int)-1).toNat))),inR .i64 ((list.length:Int)-2),(0:Int)≤((list.length:Int)-2)∧((list.length:Int)-2)<(list.length:Int),inR .i64 ((2*(at_ list (((list.length:Int)-1).toNat)))-(at_ list (((list.length:Int)-2).toNat)))] hB ⟨(Zad om om),⟨om,om⟩,(Zad om om),(Zad om om),⟨om,om⟩,(Zad om om),trivial⟩ (Zan (Zaz ?_))
  refine Zao hB (I ((2*(at_ list (((list.length:Int)-1).toNat)))-(at_ list (((list.length:Int)-2).toNat)))) (by kernel_rfl) (.inl (by first|(rw [show list.length=0 from by omega];rfl)|(rw [show list.length=1 from by omega];rfl)|(refine congrArg I ?_;rw [e1,e2,hn_];rfl))) rfl (fun _=>trivial)
theorem Ziv (list:List Int) (hl:list.length≤60) (hx:∀x∈list,0≤x∧x≤3600000):∃(v:List Int),(v=Zii list)∧Con Tryz.prog 86 [slI false list] true (slI true v):=by
  have hh:∃r:(List Int),((r=Zii list)∧(True))∧Zaw Tryz.prog 86 [slI false list] (Zae []) true (slI true r) (Zae []):=by
    refine Zcv (Φ:=fun r:(List Int)=>(r=Zii list)∧(True)) [] (fun r=>[]) (fn:=Tryz.f86) (nt:=24) Tryz.func86 rfl rfl (args:=[slI false list]) rfl (Zbc (.inl ⟨rfl,Ydy false _⟩) Zcw) (res:=fun r=>slI true r) ?_
    refine xQ [] [0] [] [] trivial ?_
    refine xQ [] [0,3] [] [] trivial (Zak ?_)
    refine xR [] [0,3,6,7,8] [] [slI false list,Zcj,slI false list,I (list.length:Int),I 0] [] [] trivial (Zbb ?_)
    refine x_nil 3 703 1 (fun _=>[]) (by kernel_rfl) ?_
    refine Zdh [] (T:=[(0,slI false list),(3,.arr 703),(6,slI false list),(7,I (list.length:Int)),(8,I 0)]) (O:=[(703,tAI ([]:List Int))]) rfl (⟨.inl rfl,.inl rfl,.inl rfl,.inl rfl,.inl rfl,trivial⟩) (⟨.inr ⟨rfl,(by first|rfl|(simp;done)|(simp;omega)|omega),fun i_ hi_=>absurd hi_ (Nat.not_lt_zero _)⟩,trivial⟩) ?_
    refine Zdc (X:=(List Int)×Int) (fun x=>mkS [(0,slI false list),(3,.arr 703),(6,slI false list),(7,I (list.length:Int)),(8,I x.2)] [(703,tAI x.1)]) (fun x=>(0≤x.2∧x.2≤(list.length:Int))∧(x.1=rsdN list x.2.toNat)∧(x.1.length=x.2.toNat)∧True) (fun x=>((list.length:Int)-x.2).toNat) (([]:List Int),0) rfl (show (0≤(0:Int)∧(0:Int)≤(list.length:Int))∧(([]:List Int)=rsdN list (0:Int).toNat)∧(([]:List Int).length=(0:Int).toNat)∧True from ⟨om,(by rfl),(by rfl),trivial⟩) (fun x hI=> ?_)
    obtain ⟨ys,t8⟩:=x
    obtain ⟨hi0,hy0,hy1,_⟩:(0≤t8∧t8≤(list.length:Int))∧(ys=rsdN list t8.toNat)∧(ys.length=t8.toNat)∧True:=hI
    show XW _ _ _ _ (mkS [(0,slI false list),(3,.arr 703),(6,slI false list),(7,I (list.length:Int)),(8,I t8)] [(703,tAI ys)]) _ _
    refine Zak ?_
    by_cases h1:t8<(list.length:Int)
    ·have hi:t8.toNat<list.length:=by omega
     have hxi:=hx _ (Zca hi)
     have hgi:=Yhb (B:=3600000) (by decide) (l:=list) (fun x h_=>by have:=hx x h_;omega) (i:=t8.toNat) om
     have htk:=Yhc (l:=list) (i:=t8.toNat) om
     refine x_q [(0,.dec true)] [0,3,6,7,8,9] [703] [_] ⟨h1,trivial⟩ (Zab (Zak (Zeh (Zbd (Zab (Zak (Zbb ?_)))))))
     refine xQ [] [0,3,4,5,6,7,8] [703] [(0:Int)≤t8∧t8<(list.length:Int)] ⟨⟨om,om⟩,trivial⟩ ?_
     refine x_q [(5,.call [(false,slI false (list.take t8.toNat))] true (I (gsI (list.take t8.toNat) (list.take t8.toNat).length))),(7,.new 20),(8,.new 21)] [0,3,6,7,8] [21] [(0:Int)≤0∧(0:Int)≤t8∧t8≤(list.length:Int),_∧((false=true→false=true)∧1=1∧(t8.toNat-0)=((list.take t8.toNat).length)∧∀i_,i_<((list.take t8.toNat).length)→(Zpy 0 (fI list)) i_=(fI (list.take t8.toNat)) i_∨(AV.idsL ((fI (list.take t8.toNat)) i_)=[]∧leL (fun _=>none) false ((Zpy 0 (fI list)) i_) ((fI (list.take t8.toNat)) i_)))∧True,inR .i64 ((at_ list t8.toNat)-(gsI (list.take t8.toNat) (list.take t8.toNat).length)),(ys.length+1)*8≤140737488355328] ⟨⟨om,om,om⟩,⟨(Zon (list.take t8.toNat) (fun x h_=>by have:=hx x (List.mem_of_mem_take h_);omega) (by rw [List.length_take];omega)),⟨(fun h=>by cases h),rfl,(by first|rfl|(simp;done)|(simp;omega)|omega),fun i_ hi_=> .inl (Zmn (enc:=cI) hi_)⟩,trivial⟩,(Zad om om),om,trivial⟩ (Zba 1 (Zab ?_))
     refine x_r [] [0,3,6,7,8] [21] [slI false list,.arr 21,slI false list,I (list.length:Int),I (t8+1)] [some (.arr 1 (ys.length+1) (Zhc ys.length (fI ys) (Zhu [I ((at_ list t8.toNat)-(gsI (list.take t8.toNat) (list.take t8.toNat).length))] 1)))] [inR .i64 (t8+1)] ⟨(Zad om om),trivial⟩ ?_
     refine Zcf [(703,21)] (T:=[(0,slI false list),(3,.arr 703),(6,slI false list),(7,I (list.length:Int)),(8,I (t8+1))]) (O:=[(703,tAI (ys++[((at_ list t8.toNat)-(gsI (list.take t8.toNat) (list.take t8.toNat).length))]))]) rfl (⟨.inl rfl,.inl rfl,.inl rfl,.inl rfl,.inl rfl,trivial⟩) (⟨.inr ⟨rfl,(by first|rfl|(simp;done)|(simp;omega)|omega),fun i_ hi_=> .inl (Zec (enc:=cI) (xs:=ys) rfl i_ hi_)⟩,trivial⟩) (Zay ((ys++[((at_ list t8.toNat)-(gsI (list.take t8.toNat) (list.take t8.toNat).length))]),(t8+1)) rfl (show (0≤(t8+1)∧(t8+1)≤(list.length:Int))∧((ys++[((at_ list t8.toNat)-(gsI (list.take t8.toNat) (list.take t8.toNat).length))])=rsdN list (t8+1).toNat)∧((ys++[((at_ list t8.toNat)-(gsI (list.take t8.toNat) (list.take t8.toNat).length))]).length=(t8+1).toNat)∧True from ⟨om,(by rw [show (t8+1).toNat=t8.toNat+1 from by omega,Yhd,←hy0,←htk]),(by simp;omega),trivial⟩) (by first|(show (((list.length:Int)-(t8+1)).toNat:Nat)<((list.length:Int)-t8).toNat;omega)|(dsimp only;omega)))
    have hie:t8.toNat=list.length:=by omega
    rw [hie] at hy0
    refine x_r [(0,.dec false)] [0,3,6,7,8,9] [703] [slI false list,.arr 703,slI false list,I (list.length:Int),I t8,Bv false] [some (tAI ys)] [_] ⟨h1,trivial⟩ (Zab (Zak (Zbt rfl (Zcp (Zas ?_)))))
    refine Zax ?_
    refine Zat (Zab ?_)
    refine xR [] [2] [703] [.arr 703] [some (tAI ys)] [] trivial (Zdd ?_)
    refine Zbw ys (show (ys=Zii list)∧(True) from ⟨(by exact hy0),trivial⟩) (trivial) (.arr 703) (by kernel_rfl) (.inr ⟨(fun _=>rfl),rfl,rfl,fun i _=> .inl rfl⟩) (fun _=>rfl) (fun _=>(Ydy true _))
  obtain ⟨v,⟨hh0,_⟩,hc⟩:=hh
  exact ⟨v,hh0,hc⟩
theorem Zqr (n:Int) (hn:-1000000000≤n∧n≤1000000000):Con Tryz.prog 118 [I n] true (I (Zco n)):=by
  refine Zcm (fn:=Tryz.f118) (nt:=10) Tryz.func118 rfl rfl rfl rfl (by simp [Zaf,Zai]) fun B hB=> ?_
  refine aQ [] [0] [] [] hB trivial (Zah (Zah ?_))
  by_cases h1:n<0
  ·refine Zbn [(1,.dec true)] [0,4] [] [_] hB ⟨h1,trivial⟩ (Zac (Zbr ?_))
   refine aR [] [2] [] [I (((-2)*n)-1)] [] [inR .i64 ((-2)*n),inR .i64 (((-2)*n)-1)] hB ⟨(Zad om om),(Zad om om),trivial⟩ (Zan (Zaj ?_))
   refine Zao hB (I (((-2)*n)-1)) (by kernel_rfl) (.inl (by refine congrArg I ?_;unfold Zco;split<;>omega)) rfl (fun _=>trivial)
  refine Zbn [(1,.dec false)] [0,4] [] [_] hB ⟨h1,trivial⟩ (Zac (Zbo (Zar (Zac ?_))))
  refine aR [] [2] [] [I (2*n)] [] [inR .i64 (2*n)] hB ⟨(Zad om om),trivial⟩ (Zan ?_)
  refine Zao hB (I (2*n)) (by kernel_rfl) (.inl (by refine congrArg I ?_;unfold Zco;split<;>omega)) rfl (fun _=>trivial)
theorem Zvd (n:Int) (k:Int) (hn:-1000000000≤n∧n≤1000000000) (hk:0≤k∧k≤12):Con Tryz.prog 117 [I n,I k] true (I (Ydz n k)):=by
  have hf:=Zqs hn
  have hdv:=Zqt (n:=Zco n) (r:=((2^k.toNat:Nat):Int)) hf.1 (p2 _)
  refine Zcm (fn:=Tryz.f117) (nt:=16) Tryz.func117 rfl rfl rfl rfl (by simp [Zaf,Zai]) fun B hB=> ?_
  refine aQ [] [0,1] [] [] hB trivial (Zah ?_)
  refine aQ [(1,.call [(true,.any)] true (I (Zco n)))] [1,5] [] [_∧True,(0:Int)≤k∧k≤((IntKind.bits .i64:Nat):Int)] hB ⟨⟨(Zqr n om),trivial⟩,⟨om,(show k≤(64:Int) from by omega)⟩,trivial⟩ (Zah ?_)
  by_cases h1:((Zco n)/((2^k.toNat:Nat):Int))<20
  ·refine Zbn [(1,.dec true)] [1,5,11] [] [_] hB ⟨h1,trivial⟩ (Zac (Zbr ?_))
   refine aR [] [4] [] [I ((((Zco n)/((2^k.toNat:Nat):Int))+1)+k)] [] [inR .i64 (((Zco n)/((2^k.toNat:Nat):Int))+1),inR .i64 ((((Zco n)/((2^k.toNat:Nat):Int))+1)+k)] hB ⟨(Zad om om),(Zad om om),trivial⟩ (Zan (Zaj ?_))
   refine Zao hB (I ((((Zco n)/((2^k.toNat:Nat):Int))+1)+k)) (by kernel_rfl) (.inl (by refine congrArg I ?_;unfold Ydz;first|(rw [if_pos (by assumption)];done)|(rw [if_neg (by assumption)];done))) rfl (fun _=>trivial)
  refine Zbn [(1,.dec false)] [1,5,11] [] [_] hB ⟨h1,trivial⟩ (Zac (Zbo (Zar (Zac ?_))))
  refine aR [] [4] [] [I 52] [] [] hB trivial (Zan ?_)
  refine Zao hB (I 52) (by kernel_rfl) (.inl (by refine congrArg I ?_;unfold Ydz;first|(rw [if_pos (by assumption)];done)|(rw [if_neg (by assumption)];done))) rfl (fun _=>trivial)
theorem Zmd (list:List Int) (hl:list.length≤1000) (hx:∀x∈list,-1000000000≤x∧x≤1000000000):∃(b:Int) (s:Int),(b=(brS list 13).1)∧(s=(brS list 13).2)∧Con Tryz.prog 87 [slI false list] true (.tup [I b,I s]):=by
  have hh:∃r:Int×Int,((r.1=(brS list 13).1)∧(r.2=(brS list 13).2)∧(True))∧Zaw Tryz.prog 87 [slI false list] (Zae []) true (.tup [I r.1,I r.2]) (Zae []):=by
    refine Zcv (Φ:=fun r:Int×Int=>(r.1=(brS list 13).1)∧(r.2=(brS list 13).2)∧(True)) [] (fun r=>[]) (fn:=Tryz.f87) (nt:=37) Tryz.func87 rfl rfl (args:=[slI false list]) rfl (Zbc (.inl ⟨rfl,Ydy false _⟩) Zcw) (res:=fun r=> .tup [I r.1,I r.2]) ?_
    refine xQ [] [0] [] [] trivial ?_
    refine xQ [] [0,4,5] [] [] trivial (Zak ?_)
    refine xR [] [0,4,5,6] [] [slI false list,I 0,I (-1),I 0] [] [] trivial (Zbb ?_)
    refine Zdc (X:=Int×Int×Int) (fun x=>mkS [(0,slI false list),(4,I x.1),(5,I x.2.1),(6,I x.2.2)] []) (fun x=>(0≤x.2.2∧x.2.2≤13)∧(brS list x.2.2.toNat=(x.1,x.2.1))∧(-1≤x.2.1∧x.2.1≤52000)∧True) (fun x=>((13:Int)-x.2.2).toNat) (0,(-1),0) rfl (show (0≤(0:Int)∧(0:Int)≤13)∧(brS list (0:Int).toNat=((0:Int),(-1)))∧(-1≤(-1)∧(-1)≤52000)∧True from ⟨om,(by rfl),om,trivial⟩) (fun x hI=> ?_)
    obtain ⟨best,least,k⟩:=x
    obtain ⟨hk0,hbr,hls,_⟩:(0≤k∧k≤13)∧(brS list k.toNat=(best,least))∧(-1≤least∧least≤52000)∧True:=hI
    show XW _ _ _ _ (mkS [(0,slI false list),(4,I best),(5,I least),(6,I k)] []) _ _
    refine Zak (Zak ?_)
    by_cases h1:k≤12
    ·have hkx:((k.toNat:Nat):Int)=k:=by omega
     have hsb:=Zqu (k:=k) hx om (Nat.le_refl list.length)
     have hbs:=Zqu (k:=k) hx om (Nat.zero_le list.length)
     refine x_q [(1,.dec true)] [0,4,5,6,11] [] [_] ⟨h1,trivial⟩ (Zab (Zeh (Zbd (Zab (Zak (Zbb ?_))))))
     refine xQ [] [0,4,5,6,7] [] [] trivial (Zak ?_)
     refine xR [] [0,4,5,6,7,14,15,16] [] [slI false list,I best,I least,I k,I 0,slI false list,I (list.length:Int),I 0] [] [] trivial (Zbb ?_)
     refine Zdc (X:=Int×Int) (fun x=>mkS [(0,slI false list),(4,I best),(5,I least),(6,I k),(7,I x.1),(14,slI false list),(15,I (list.length:Int)),(16,I x.2)] []) (fun x=>(0≤x.2∧x.2≤(list.length:Int))∧(x.1=Zwj list k x.2.toNat)∧True) (fun x=>((list.length:Int)-x.2).toNat) (0,0) rfl (show (0≤(0:Int)∧(0:Int)≤(list.length:Int))∧((0:Int)=Zwj list k (0:Int).toNat)∧True from ⟨om,(by rfl),trivial⟩) (fun x hI=> ?_)
     obtain ⟨bs,t16⟩:=x
     obtain ⟨hi0,hbt,_⟩:(0≤t16∧t16≤(list.length:Int))∧(bs=Zwj list k t16.toNat)∧True:=hI
     show XW _ _ _ _ (mkS [(0,slI false list),(4,I best),(5,I least),(6,I k),(7,I bs),(14,slI false list),(15,I (list.length:Int)),(16,I t16)] []) _ _
     refine Zak ?_
     by_cases h2:t16<(list.length:Int)
     ·have hi:t16.toNat<list.length:=by omega
      have hxi:=hx _ (Zca hi)
      have hlr:=Zzy (k:=k) hxi om
      have hsm:=Zqu (k:=k) hx om (m:=t16.toNat) om
      refine x_q [(0,.dec true)] [0,4,5,6,7,14,15,16,17] [] [_] ⟨h2,trivial⟩ (Zab (Zak (Zeh (Zbd (Zab (Zak (Zbb ?_)))))))
      refine xQ [] [0,4,5,6,7,9,14,15,16] [] [(0:Int)≤t16∧t16<(list.length:Int)] ⟨⟨om,om⟩,trivial⟩ ?_
      refine x_q [(3,.call [(true,.any),(true,.any)] true (I (Ydz (at_ list t16.toNat) k)))] [0,4,5,6,7,14,15,16] [] [_∧True,inR .i64 (bs+(Ydz (at_ list t16.toNat) k))] ⟨⟨(Zvd (at_ list t16.toNat) k om om),trivial⟩,(Zad om om),trivial⟩ (Zba 3 (Zab ?_))
      refine x_r [] [0,4,5,6,7,14,15,16] [] [slI false list,I best,I least,I k,I (bs+(Ydz (at_ list t16.toNat) k)),slI false list,I (list.length:Int),I (t16+1)] [] [inR .i64 (t16+1)] ⟨(Zad om om),trivial⟩ ?_
      exact Zay ((bs+(Ydz (at_ list t16.toNat) k)),(t16+1)) rfl (show (0≤(t16+1)∧(t16+1)≤(list.length:Int))∧((bs+(Ydz (at_ list t16.toNat) k))=Zwj list k (t16+1).toNat)∧True from ⟨om,(by rw [show (t16+1).toNat=t16.toNat+1 from by omega,Zwj,←hbt]),trivial⟩) (by first|(show (((list.length:Int)-(t16+1)).toNat:Nat)<((list.length:Int)-t16).toNat;omega)|(dsimp only;omega))
     have hie:t16.toNat=list.length:=by omega
     rw [hie] at hbt
     refine x_r [(0,.dec false)] [0,4,5,6,7,14,15,16,17] [] [slI false list,I best,I least,I k,I bs,slI false list,I (list.length:Int),I t16,Bv false] [] [_] ⟨h2,trivial⟩ (Zab (Zak (Zbt rfl (Zcp (Zas ?_)))))
     refine Zax ?_
     refine Zat (Zab (Zak ?_))
     by_cases h3:least<0
     ·refine x_q [(1,.dec true)] [0,4,5,6,7,32] [] [_] ⟨h3,trivial⟩ (Zab (Zeh ?_))
      refine x_q [] [0,4,5,6] [] [] trivial (Zba 1 (Zab ?_))
      refine x_r [] [0,4,5,6] [] [slI false list,I k,I bs,I (k+1)] [] [inR .i64 (k+1)] ⟨(Zad om om),trivial⟩ ?_
      exact Zay (k,bs,(k+1)) rfl (show (0≤(k+1)∧(k+1)≤13)∧(brS list (k+1).toNat=(k,bs))∧(-1≤bs∧bs≤52000)∧True from ⟨om,(by rw [show (k+1).toNat=k.toNat+1 from by omega,brS,hbr,hkx,←hbt];first|(rw [if_pos (by first|exact .inl (by assumption)|exact .inr (by assumption))];done)|(rw [if_neg (fun z=>by rcases z with z|z<;>simp only at z<;>omega)];done)),om,trivial⟩) (by first|(show (((13:Int)-(k+1)).toNat:Nat)<((13:Int)-k).toNat;omega)|(dsimp only;omega))
     by_cases h4:bs<least
     ·refine x_q [(1,.dec false),(5,.dec true)] [0,4,5,6,7,32] [] [_,_] ⟨h3,h4,trivial⟩ (Zab (Zeh ?_))
      refine x_q [] [0,4,5,6] [] [] trivial (Zba 1 (Zab ?_))
      refine x_r [] [0,4,5,6] [] [slI false list,I k,I bs,I (k+1)] [] [inR .i64 (k+1)] ⟨(Zad om om),trivial⟩ ?_
      exact Zay (k,bs,(k+1)) rfl (show (0≤(k+1)∧(k+1)≤13)∧(brS list (k+1).toNat=(k,bs))∧(-1≤bs∧bs≤52000)∧True from ⟨om,(by rw [show (k+1).toNat=k.toNat+1 from by omega,brS,hbr,hkx,←hbt];first|(rw [if_pos (by first|exact .inl (by assumption)|exact .inr (by assumption))];done)|(rw [if_neg (fun z=>by rcases z with z|z<;>simp only at z<;>omega)];done)),om,trivial⟩) (by first|(show (((13:Int)-(k+1)).toNat:Nat)<((13:Int)-k).toNat;omega)|(dsimp only;omega))
     refine x_q [(1,.dec false),(5,.dec false)] [0,4,5,6,7,32] [] [_,_] ⟨h3,h4,trivial⟩ (Zab (Zga (Zbd (Zba 1 (Zab ?_)))))
     refine x_r [] [0,4,5,6] [] [slI false list,I best,I least,I (k+1)] [] [inR .i64 (k+1)] ⟨(Zad om om),trivial⟩ ?_
     exact Zay (best,least,(k+1)) rfl (show (0≤(k+1)∧(k+1)≤13)∧(brS list (k+1).toNat=(best,least))∧(-1≤least∧least≤52000)∧True from ⟨om,(by rw [show (k+1).toNat=k.toNat+1 from by omega,brS,hbr,hkx,←hbt];first|(rw [if_pos (by first|exact .inl (by assumption)|exact .inr (by assumption))];done)|(rw [if_neg (fun z=>by rcases z with z|z<;>simp only at z<;>omega)];done)),om,trivial⟩) (by first|(show (((13:Int)-(k+1)).toNat:Nat)<((13:Int)-k).toNat;omega)|(dsimp only;omega))
    have hke:k.toNat=13:=by omega
    rw [hke] at hbr
    refine x_r [(1,.dec false)] [0,4,5,6,11] [] [slI false list,I best,I least,I k,Bv false] [] [_] ⟨h1,trivial⟩ (Zab (Zbt rfl (Zcp (Zas ?_))))
    refine Zax ?_
    refine Zat (Zab ?_)
    refine xR [] [2,3] [] [I best,I least] [] [] trivial (Zdd ?_)
    refine Zbw (best,least) (show (best=(brS list 13).1)∧(least=(brS list 13).2)∧(True) from ⟨(by (rw [hbr])),(by (rw [hbr])),trivial⟩) (trivial) (.tup [I best,I least]) (by kernel_rfl) (.inl rfl) (fun _=>rfl) (fun _=>(by simp [Zai,Zaf]))
  obtain ⟨⟨b,s⟩,⟨hh0,hh1,_⟩,hc⟩:=hh
  exact ⟨b,s,hh0,hh1,hc⟩
theorem Ztc (s:ByteArray) (q:Int) (hs:s=⟨#[49]⟩) (hq:0≤q∧q≤100000):Con Tryz.prog 119 [Sv s,I q] true (Sv (Zqv q)):=by
 subst hs
 obtain ⟨c,rfl⟩:∃c:Nat,q=c:=⟨q.toNat,by omega⟩
 refine Zkm (vals:=[.string ⟨#[49]⟩,.int .i64 c]) fun w _=> ?_
 by_cases h0:c=0
 ·subst h0
  refine (Tryz.strings_Repeat_zero ⟨#[49]⟩ w).mono ?_
  rintro e w' ⟨rfl,rfl⟩
  exact ⟨rfl,Below.refl _ _⟩
 by_cases h1:c=1
 ·subst h1
  refine (Tryz.strings_Repeat_one ⟨#[49]⟩ w).mono ?_
  rintro e w' ⟨rfl,rfl⟩
  exact ⟨rfl,Below.refl _ _⟩
 refine (Tryz.strings_Repeat_main ⟨#[49]⟩ c w om om (by show 1*c≤_;omega) (by decide)).mono ?_
 rintro e w' ⟨rfl,hb⟩
 exact ⟨by rw [Yea],hb⟩
theorem Zme (n:Int) (k:Int) (hn:-1000000000≤n∧n≤1000000000) (hk:0≤k∧k≤12):Con Tryz.prog 88 [I n,I k] true (Sv (Zdo n k)):=by
  have hf:=Zqs hn
  have hdv:=Zqt (n:=Zco n) (r:=((2^k.toNat:Nat):Int)) hf.1 (p2 _)
  have hmk:=Yci (u:=Zco n) (k:=k.toNat) hf.1 om om
  have hp:=p2 k.toNat
  have hp12:((2^k.toNat:Nat):Int)≤4096:=Int.ofNat_le.2 (Nat.pow_le_pow_right (by decide) (by omega:k.toNat≤12))
  have hm1:=Int.emod_nonneg (Zco n) (b:=((2^k.toNat:Nat):Int)) om
  have hm2:=Int.emod_lt_of_pos (Zco n) hp
  refine Zcm (fn:=Tryz.f88) (nt:=29) Tryz.func88 rfl rfl rfl rfl (by simp [Zaf,Zai]) fun B hB=> ?_
  refine aQ [] [0,1] [] [] hB trivial ?_
  refine aQ [(1,.call [(true,.any)] true (I (Zco n)))] [1,5] [] [_∧True] hB ⟨⟨(Zqr n om),trivial⟩,trivial⟩ (Zah ?_)
  refine aQ [] [1,5,6] [] [(0:Int)≤k∧k≤((IntKind.bits .i64:Nat):Int)] hB ⟨⟨om,(show k≤(64:Int) from by omega)⟩,trivial⟩ (Zah ?_)
  by_cases h1:((Zco n)/((2^k.toNat:Nat):Int))<20
  ·refine Zbn [(1,.dec true)] [1,5,6,13] [] [_] hB ⟨h1,trivial⟩ (Zac (Zbr ?_))
   refine aR [(1,.call [(true,.any),(true,.any)] true (Sv (Zqv ((Zco n)/((2^k.toNat:Nat):Int))))),(9,.call [(true,.any),(true,.any)] true (Sv (Zds (Zel .and .i64 (Zco n) ((1*((2^k.toNat:Nat):Int))-1)) k)))] [4] [] [Sv (((Zqv ((Zco n)/((2^k.toNat:Nat):Int)))++(⟨#[48]⟩:ByteArray))++(Zds (Zel .and .i64 (Zco n) ((1*((2^k.toNat:Nat):Int))-1)) k))] [] [_∧True,(Zqv ((Zco n)/((2^k.toNat:Nat):Int))).size+(⟨#[48]⟩:ByteArray).size≤9223372036854775807,(0:Int)≤k∧k≤((IntKind.bits .i64:Nat):Int)∧inR .i64 (1*((2^k.toNat:Nat):Int)),inR .i64 ((1*((2^k.toNat:Nat):Int))-1),_∧True,((Zqv ((Zco n)/((2^k.toNat:Nat):Int)))++(⟨#[48]⟩:ByteArray)).size+(Zds (Zel .and .i64 (Zco n) ((1*((2^k.toNat:Nat):Int))-1)) k).size≤9223372036854775807] hB ⟨⟨(Ztc (⟨#[49]⟩:ByteArray) ((Zco n)/((2^k.toNat:Nat):Int)) rfl om),trivial⟩,(by (try simp only [ByteArray.size_append]);have h1:=Zdf (Zco n/((2^k.toNat:Nat):Int));have h2:(⟨#[48]⟩:ByteArray).size=1:=rfl;have h3:=Zbx (Zco n % ((2^k.toNat:Nat):Int)) k;have h4:=Zdf 20;have h5:=Zbx (Zco n) 32;have h6:=Zbx (Zel .and .i64 (Zco n) (1*((2^k.toNat:Nat):Int)-1)) k;omega),⟨om,(show k≤(64:Int) from by omega),(Zad om om)⟩,(Zad om om),⟨(Zem (Zel .and .i64 (Zco n) ((1*((2^k.toNat:Nat):Int))-1)) k om om),trivial⟩,(by (try simp only [ByteArray.size_append]);have h1:=Zdf (Zco n/((2^k.toNat:Nat):Int));have h2:(⟨#[48]⟩:ByteArray).size=1:=rfl;have h3:=Zbx (Zco n % ((2^k.toNat:Nat):Int)) k;have h4:=Zdf 20;have h5:=Zbx (Zco n) 32;have h6:=Zbx (Zel .and .i64 (Zco n) (1*((2^k.toNat:Nat):Int)-1)) k;omega),trivial⟩ (Zan (Zaj ?_))
   refine Zao hB (Sv (((Zqv ((Zco n)/((2^k.toNat:Nat):Int)))++(⟨#[48]⟩:ByteArray))++(Zds (Zel .and .i64 (Zco n) ((1*((2^k.toNat:Nat):Int))-1)) k))) (by kernel_rfl) (.inl (by refine congrArg Sv ?_;unfold Zdo;first|(rw [if_pos (by assumption),hmk];done)|(rw [if_neg (by assumption)];done))) rfl (fun _=>trivial)
  refine Zbn [(1,.dec false)] [1,5,6,13] [] [_] hB ⟨h1,trivial⟩ (Zac (Zbo (Zar (Zac ?_))))
  refine aR [(0,.call [(true,.any),(true,.any)] true (Sv (Zqv 20))),(2,.call [(true,.any),(true,.any)] true (Sv (Zds (Zco n) 32)))] [4] [] [Sv ((Zqv 20)++(Zds (Zco n) 32))] [] [_∧True,_∧True,(Zqv 20).size+(Zds (Zco n) 32).size≤9223372036854775807] hB ⟨⟨(Ztc (⟨#[49]⟩:ByteArray) 20 rfl om),trivial⟩,⟨(Zem (Zco n) 32 om om),trivial⟩,(by (try simp only [ByteArray.size_append]);have h1:=Zdf (Zco n/((2^k.toNat:Nat):Int));have h2:(⟨#[48]⟩:ByteArray).size=1:=rfl;have h3:=Zbx (Zco n % ((2^k.toNat:Nat):Int)) k;have h4:=Zdf 20;have h5:=Zbx (Zco n) 32;have h6:=Zbx (Zel .and .i64 (Zco n) (1*((2^k.toNat:Nat):Int)-1)) k;omega),trivial⟩ (Zan ?_)
  refine Zao hB (Sv ((Zqv 20)++(Zds (Zco n) 32))) (by kernel_rfl) (.inl (by refine congrArg Sv ?_;unfold Zdo;first|(rw [if_pos (by assumption),hmk];done)|(rw [if_neg (by assumption)];done))) rfl (fun _=>trivial)
theorem trim_ok (s t:ByteArray) (hs:s.size≤9223372036854775807) (hcs:t.size<4294967281) (ha:t.data.toList.all (fun b=>decide (b.toNat<128))=true):Con Tryz.prog 146 [Sv s,Sv t] true (Sv (Zzz s t)):=by
 refine Zkm (vals:=[.string s,.string t]) fun w _=> ?_
 refine (Any.strings_Trim_laid Tryz.lays160 (by kernel_rfl) s t w hs hcs (ascii_of_all ha)).mono ?_
 rintro e w' ⟨rfl,hb⟩
 exact ⟨rfl,hb⟩
theorem Yeb (bits:ByteArray) (ok:bits.size≤9223372036854775807):Con Tryz.prog 120 [Sv bits] true (Bv (Zfu bits)):=by
  refine Zcm (fn:=Tryz.f120) (nt:=11) Tryz.func120 rfl rfl rfl rfl (by simp [Zaf,Zai]) fun B hB=> ?_
  refine aQ [] [0] [] [] hB trivial (Zah ?_)
  by_cases h1:(bits.size:Int)≤100000
  ·refine Zeo [(2,.dec true),(5,.call [(true,.any),(true,.any)] true (Sv (Zzz bits (⟨#[48,49]⟩:ByteArray))))] [2] [] [Bv (decide ((Zzz bits (⟨#[48,49]⟩:ByteArray))=(⟨#[]⟩:ByteArray)))] [] [_,_∧True] hB ⟨h1,⟨(trim_ok bits (⟨#[48,49]⟩:ByteArray) ok (by decide) (by decide)),trivial⟩,trivial⟩ (Zac (Zan ?_))
   refine Zao hB (Bv (decide ((Zzz bits (⟨#[48,49]⟩:ByteArray))=(⟨#[]⟩:ByteArray)))) (by kernel_rfl) (.inl (by refine congrArg Bv ?_;have ht:=Ycj Yck bits;rw [Bool.eq_iff_iff];simp [Zfu,ht, *];try omega)) rfl (fun _=>trivial)
  refine Zeo [(2,.dec false)] [2] [] [Bv false] [] [_] hB ⟨h1,trivial⟩ (Zac (Zan ?_))
  refine Zao hB (Bv false) (by kernel_rfl) (.inl (by refine congrArg Bv ?_;have ht:=Ycj Yck bits;rw [Bool.eq_iff_iff];simp [Zfu,ht, *];try omega)) rfl (fun _=>trivial)
theorem Yaa (bits:ByteArray) (ok:Zfu bits=true):∃(v:ByteArray) (c:Int),(pkS_ bits v)∧(c=0)∧Con Tryz.prog 89 [Sv bits] true (.tup [Sv v,I c]):=by
  have hsz:=Zfj.1 ok
  have hh:∃r:ByteArray×Int,((pkS_ bits r.1)∧(r.2=0)∧(True))∧Zaw Tryz.prog 89 [Sv bits] (Zae []) true (.tup [Sv r.1,I r.2]) (Zae []):=by
    refine Zcv (Φ:=fun r:ByteArray×Int=>(pkS_ bits r.1)∧(r.2=0)∧(True)) [] (fun r=>[]) (fn:=Tryz.f89) (nt:=35) Tryz.func89 rfl rfl (args:=[Sv bits]) rfl (Zbc (.inl ⟨rfl,trivial⟩) Zcw) (res:=fun r=> .tup [Sv r.1,I r.2]) ?_
    refine xQ [] [0] [] [] trivial (Zak ?_)
    refine xQ [(1,.call [(true,.any)] true (Bv true))] [0,8] [] [Con Tryz.prog 120 [Sv bits] true (Bv true)∧True] ⟨⟨(Zau ok (Yeb bits om)),trivial⟩,trivial⟩ (Zga (Zbd (Zab ?_)))
    refine xQ [(3,.nn),(4,.new 13)] [0,4] [13] [inR .i64 ((bits.size:Int)+7),(0:Int)≤((bits.size:Int)+7)∧(0:Int)<8∧inR .i64 ((bits.size:Int)+7),(0:Int)≤(((bits.size:Int)+7)/8)∧((((bits.size:Int)+7)/8):Int)≤(((bits.size:Int)+7)/8)∧(1:Int)*(((bits.size:Int)+7)/8)≤281474976710656∧(((bits.size:Int)+7)/8)≤9223372036854775807] ⟨(Zad om om),⟨om,om,(Zad om om)⟩,⟨om,om,om,om⟩,trivial⟩ (Zak ?_)
    refine xR [(1,.new 15)] [0,4,15] [13,15] [Sv bits,.arr 13,.ref 15 0] [some (.arr 1 ((((bits.size:Int)+7)/8).toNat) (fun _=>[.val (.int .u8 0)])),some (.sit bits (0:Nat))] [] trivial (Zbb ?_)
    refine Zdh [] (T:=[(0,Sv bits),(4,.arr 13),(15,.ref 15 0)]) (O:=[(13,tAU8 (List.replicate ((((bits.size:Int)+7)/8).toNat) 0)),(15,.sit bits (0:Nat))]) rfl (⟨.inl rfl,.inl rfl,.inl rfl,trivial⟩) (⟨.inr ⟨rfl,(by first|rfl|(simp;done)|(simp;omega)|omega),fun i_ hi_=> .inl (Zhy (enc:=cU8) rfl i_ hi_)⟩,.inl rfl,trivial⟩) ?_
    refine Zdc (X:=Nat×(List Int)) (fun x=>mkS [(0,Sv bits),(4,.arr 13),(15,.ref 15 0)] [(13,tAU8 x.2),(15,.sit bits x.1)]) (fun x=>(x.1≤bits.size)∧(Yec bits x.1 x.2)∧True) (fun x=>bits.size-x.1) ((0:Nat),(List.replicate ((((bits.size:Int)+7)/8).toNat) 0)) rfl (show ((0:Nat)≤bits.size)∧(Yec bits (0:Nat) (List.replicate ((((bits.size:Int)+7)/8).toNat) 0))∧True from ⟨om,(by exact pk_start om),trivial⟩) (fun x hI=> ?_)
    obtain ⟨kk,ys⟩:=x
    obtain ⟨hq0,hpk,_⟩:(kk≤bits.size)∧(Yec bits kk ys)∧True:=hI
    show XW _ _ _ _ (mkS [(0,Sv bits),(4,.arr 13),(15,.ref 15 0)] [(13,tAU8 ys),(15,.sit bits kk)]) _ _
    refine Zak ?_
    by_cases h1:kk<bits.size
    ·have hi:kk<bits.size:=h1
     have hpa:=pk_at hpk hi
     have hbq:=hsz.2 kk hi
     refine x_q [(0,.dec true)] [0,4,15,16,17] [13,15] [kk<bits.size∧bAt bits kk<128] ⟨⟨h1,om⟩,trivial⟩ (Zab (Zak (Zeh (Zbd (Zab (Zbb ?_))))))
     refine xQ [] [0,4,5,15] [13,15] [] trivial (Zak ?_)
     by_cases h2:(bAt bits ((kk:Nat):Int).toNat)=49
     ·have hq8:(((kk:Nat):Int)/8).toNat=kk/8:=by omega
      have hq9:(((kk:Nat):Int) % 8).toNat=kk % 8:=by omega
      have hor:=or_bit hpa.2.1 (by omega:kk % 8<8) hpa.2.2
      have hlen:=hpk.1
      have hp8:0≤(128:Int)/((2^(kk % 8):Nat):Int)∧(128:Int)/((2^(kk % 8):Nat):Int)≤128:=Zqt (by decide) (p2 _)
      refine x_q [(3,.dec true)] [0,4,5,15,22] [13,15] [(0:Int)≤((kk:Nat):Int)∧((kk:Nat):Int)<(bits.size:Int),_] ⟨⟨om,om⟩,h2,trivial⟩ (Zab (Zeh ?_))
      refine x_r [(2,.nn),(6,.nn)] [0,4,15] [13,15] [Sv bits,.arr 13,.ref 15 0] [some (.arr 1 ys.length (fun q=>bif Nat.beq q ((((kk:Nat):Int)/8).toNat) then [.val (.int .u8 (Zel .or .u8 (at_ ys ((((kk:Nat):Int)/8).toNat)) (128/((2^(((kk:Nat):Int) % 8).toNat:Nat):Int))))] else (fU8 ys) q)),some (.sit bits (kk+1))] [(0:Int)≤((kk:Nat):Int)∧(0:Int)<8∧inR .i64 ((kk:Nat):Int),(0:Int)≤(((kk:Nat):Int)/8)∧(((kk:Nat):Int)/8)<(ys.length:Int),(((kk:Nat):Int)/8).toNat<ys.length,(0:Int)≤((kk:Nat):Int)∧(0:Int)<8,(0:Int)≤(((kk:Nat):Int) % 8)∧(((kk:Nat):Int) % 8)≤((IntKind.bits .u8:Nat):Int),(0:Int)≤(((kk:Nat):Int)/8)∧(((kk:Nat):Int)/8)<(ys.length:Int),(((kk:Nat):Int)/8).toNat<ys.length] ⟨⟨om,om,(Zad om om)⟩,⟨om,om⟩,om,⟨om,om⟩,⟨om,(show (((kk:Nat):Int) % 8)≤(8:Int) from by omega)⟩,⟨om,om⟩,om,trivial⟩ (Zba 1 ?_)
      refine Zcf [] (T:=[(0,Sv bits),(4,.arr 13),(15,.ref 15 0)]) (O:=[(13,tAU8 (ys.set ((((kk:Nat):Int)/8).toNat) (Zel .or .u8 (at_ ys ((((kk:Nat):Int)/8).toNat)) (128/((2^(((kk:Nat):Int) % 8).toNat:Nat):Int))))),(15,.sit bits (kk+1))]) rfl (⟨.inl rfl,.inl rfl,.inl rfl,trivial⟩) (⟨.inr ⟨rfl,(by first|rfl|(simp;done)|(simp;omega)|omega),fun i_ hi_=> .inl (Zgc (enc:=cU8) rfl i_ hi_)⟩,.inl rfl,trivial⟩) (Zay ((kk+1),(ys.set ((((kk:Nat):Int)/8).toNat) (Zel .or .u8 (at_ ys ((((kk:Nat):Int)/8).toNat)) (128/((2^(((kk:Nat):Int) % 8).toNat:Nat):Int))))) rfl (show ((kk+1)≤bits.size)∧(Yec bits (kk+1) (ys.set ((((kk:Nat):Int)/8).toNat) (Zel .or .u8 (at_ ys ((((kk:Nat):Int)/8).toNat)) (128/((2^(((kk:Nat):Int) % 8).toNat:Nat):Int)))))∧True from ⟨om,(by first|exact pk_no hpk (by assumption)|(rw [hq8,hq9,hor];exact pk_yes hpk hi (by assumption) rfl)),trivial⟩) (by first|(show (bits.size-(kk+1):Nat)<bits.size-kk;omega)|(dsimp only;omega)))
     refine x_r [(3,.dec false)] [0,4,5,15,22] [13,15] [Sv bits,.arr 13,I ((kk:Nat):Int),.ref 15 0,Bv false] [some (tAU8 ys),some (.sit bits (kk+1))] [(0:Int)≤((kk:Nat):Int)∧((kk:Nat):Int)<(bits.size:Int),_] ⟨⟨om,om⟩,h2,trivial⟩ (Zab (Zbt rfl (Zbd (Zba 1 ?_))))
     refine Zcf [] (T:=[(0,Sv bits),(4,.arr 13),(15,.ref 15 0)]) (O:=[(13,tAU8 ys),(15,.sit bits (kk+1))]) rfl (⟨.inl rfl,.inl rfl,.inl rfl,trivial⟩) (⟨.inl rfl,.inl rfl,trivial⟩) (Zay ((kk+1),ys) rfl (show ((kk+1)≤bits.size)∧(Yec bits (kk+1) ys)∧True from ⟨om,(by first|exact pk_no hpk (by assumption)|(rw [hq8,hq9,hor];exact pk_yes hpk hi (by assumption) rfl)),trivial⟩) (by first|(show (bits.size-(kk+1):Nat)<bits.size-kk;omega)|(dsimp only;omega)))
    have hqe:kk=bits.size:=by omega
    rw [hqe] at hpk
    refine x_r [(0,.dec false)] [0,4,15,16,17] [13,15] [Sv bits,.arr 13,.ref 15 0,.tup [Bv false],Bv false] [some (tAU8 ys),some (.sit bits kk)] [_] ⟨h1,trivial⟩ (Zab (Zak (Zbt rfl (Zcp (Zas ?_)))))
    refine Zax ?_
    refine Zat (Zab ?_)
    refine xR [(1,.as (Sv (Zkj ys)))] [2,3] [] [Sv (Zkj ys),I 0] [] [(Zkj ys).size=ys.length∧∀i_,i_<ys.length→(fU8 ys) i_=Zha (Zkj ys) i_] ⟨(Yhe (pk_bytes hpk)),trivial⟩ (Zdd ?_)
    refine Zbw ((Zkj ys),0) (show (pkS_ bits (Zkj ys))∧(0=0)∧(True) from ⟨(by first|exact Yhf hpk|rfl),(by first|exact Yhf hpk|rfl),trivial⟩) (trivial) (.tup [Sv (Zkj ys),I 0]) (by kernel_rfl) (.inl rfl) (fun _=>rfl) (fun _=>(by simp [Zai,Zaf]))
  obtain ⟨⟨v,c⟩,⟨hh0,hh1,_⟩,hc⟩:=hh
  exact ⟨v,c,hh0,hh1,hc⟩
theorem Zmk (s:ByteArray) (hz:s.size≤1000000):Con Tryz.prog 42 [Sv s] true (I (ckA s)):=by
  refine Zcm (fn:=Tryz.f42) (nt:=21) Tryz.func42 rfl rfl rfl rfl (by simp [Zaf,Zai]) fun B hB=> ?_
  refine aQ [] [0] [] [] hB trivial ?_
  refine aQ [] [0,3] [] [] hB trivial (Zah ?_)
  refine aR [] [3,7,8,9] [] [I 1,.sl true 1 s.size (Zha s),I (s.size:Int),I 0] [] [s.size≤140737488355328] hB ⟨om,trivial⟩ (Zbg ?_)
  refine Zdm (fun gn gσ=>∃(sm:Int) (t9:Int),gn=((s.size:Int)-t9).toNat∧(0≤t9∧t9≤(s.size:Int))∧(sm=ckS s t9.toNat)∧gσ=mkS [(3,I sm),(7,.sl true 1 s.size (Zha s)),(8,I (s.size:Int)),(9,I t9)] []) (((s.size:Int)-0).toNat) ⟨1,0,rfl,om,(by rfl),rfl⟩ (fun gn gσ hI=> ?_)
  obtain ⟨sm,t9,rfl,hi0,hsm,rfl⟩:=hI
  refine Zah ?_
  by_cases h1:t9<(s.size:Int)
  ·have hi:t9.toNat<s.size:=by omega
   have hcb:=Yhg s t9.toNat
   have hbb:=Zpq s t9.toNat
   rw [←hsm] at hcb
   refine Zbn [(0,.dec true)] [3,7,8,9,10] [] [_] hB ⟨h1,trivial⟩ (Zac (Zah (Zbr (Zar (Zac (Zah (Zbg ?_)))))))
   refine aQ [] [3,5,7,8,9] [] [(0:Int)≤t9∧t9<(s.size:Int)] hB ⟨⟨om,om⟩,trivial⟩ ?_
   refine Zbn [(5,.nn)] [3,7,8,9] [] [inR .i64 (sm*257),inR .i64 (bAt s t9.toNat),inR .i64 ((sm*257)+(bAt s t9.toNat)),(0:Int)≤((sm*257)+(bAt s t9.toNat))∧(0:Int)<65521] hB ⟨(Zad om om),(Zad om om),(Zad om om),⟨om,om⟩,trivial⟩ (Zbq 1 (Zac ?_))
   refine Zeo [] [3,7,8,9] [] [I (((sm*257)+(bAt s t9.toNat)) % 65521),.sl true 1 s.size (Zha s),I (s.size:Int),I (t9+1)] [] [inR .i64 (t9+1)] hB ⟨(Zad om om),trivial⟩ ?_
   exact Zbs _ om ⟨(((sm*257)+(bAt s t9.toNat)) % 65521),(t9+1),rfl,om,(by (rw [show (t9+1).toNat=t9.toNat+1 from by omega,ckS,←hsm])),rfl⟩
  have hie:t9.toNat=s.size:=by omega
  refine Zbn [(0,.dec false)] [3,7,8,9,10] [] [_] hB ⟨h1,trivial⟩ (Zac (Zah (Zbo (Zcy (Zam (Zam (Zbi (Zac ?_))))))))
  refine aR [] [2] [] [I sm] [] [] hB trivial (Zan ?_)
  refine Zao hB (I sm) (by kernel_rfl) (.inl (by (rw [hsm,hie];rfl))) rfl (fun _=>trivial)
theorem Zoh (ik:Ink) (hok:Zcs ik=true) (h6:(ik.Strokes.length:Int)≤6):∃(v:ByteArray),(Zwi ik v)∧((v.size:Int)≤12500)∧Con Tryz.prog 40 [.agg [Zap false ik.Strokes]] true (Sv v):=by
  have hn0:=Zbx (ik.Strokes.length:Int) 8
  have h80:(8:Int).toNat=8:=rfl
  have h00:(⟨#[]⟩:ByteArray).size=0:=rfl
  have hh:∃r:ByteArray,((Zwi ik r)∧((r.size:Int)≤12500)∧(True))∧Zaw Tryz.prog 40 [.agg [Zap false ik.Strokes]] (Zae []) true (Sv r) (Zae []):=by
    refine Zcv (Φ:=fun r:ByteArray=>(Zwi ik r)∧((r.size:Int)≤12500)∧(True)) [] (fun r=>[]) (fn:=Tryz.f40) (nt:=80) Tryz.func40 rfl rfl (args:=[.agg [Zap false ik.Strokes]]) rfl (Zbc (.inl ⟨rfl,by simp [Zai,Zaf,Zgv]⟩) Zcw) (res:=fun r=>Sv r) ?_
    refine xQ [(0,.new 1)] [1] [1] [] trivial ?_
    refine xQ [(0,.newb 3 60006 5)] [1,3] [1,3,60006] [] trivial ?_
    refine xQ [(3,.call [(true,.any),(true,.any)] true (Sv (Zds (ik.Strokes.length:Int) 8))),(4,.bw 3 60006 60007 (.string (Zds (ik.Strokes.length:Int) 8)) false (Zds (ik.Strokes.length:Int) 8))] [1,3] [1,3,60007] [_∧True,([.ref 3 0,Sv (Zds (ik.Strokes.length:Int) 8)]:List AV)=[.ref 3 0,Sv (Zds (ik.Strokes.length:Int) 8)]∧Yew Tryz.prog 83 141 5 (.string (Zds (ik.Strokes.length:Int) 8)) false (⟨#[]⟩:ByteArray) false (Zds (ik.Strokes.length:Int) 8)] ⟨⟨(Zem (ik.Strokes.length:Int) 8 om om),trivial⟩,⟨rfl,Zvb (by have hs2_:=Zch [(0:Int),0];(try simp only [ByteArray.size_append,Zch,List.length_cons,List.length_nil]);(try (rw [ByteArray.size_append] at hcz));omega)⟩,trivial⟩ (Zak ?_)
    refine xR [] [3,23,24,25] [3,60007] [.ref 3 0,Zap false ik.Strokes,I (ik.Strokes.length:Int),I 0] [some (.bld 141 60007),some (.buf 5 false ((⟨#[]⟩:ByteArray)++(Zds (ik.Strokes.length:Int) 8)))] [] trivial (Zbb ?_)
    refine Zdc (X:=Int×ByteArray) (fun x=>mkS [(3,.ref 3 0),(23,Zap false ik.Strokes),(24,I (ik.Strokes.length:Int)),(25,I x.1)] [(3,.bld 141 60007),(60007,.buf 5 false x.2)]) (fun x=>(0≤x.1∧x.1≤(ik.Strokes.length:Int))∧(x.2=Zkb ik.Strokes x.1.toNat)∧True) (fun x=>((ik.Strokes.length:Int)-x.1).toNat) (0,((⟨#[]⟩:ByteArray)++(Zds (ik.Strokes.length:Int) 8))) rfl (show (0≤(0:Int)∧(0:Int)≤(ik.Strokes.length:Int))∧(((⟨#[]⟩:ByteArray)++(Zds (ik.Strokes.length:Int) 8))=Zkb ik.Strokes (0:Int).toNat)∧True from ⟨om,(by exact nil_app_ _),trivial⟩) (fun x hI=> ?_)
    obtain ⟨t25,tx⟩:=x
    obtain ⟨hi0,htx,_⟩:(0≤t25∧t25≤(ik.Strokes.length:Int))∧(tx=Zkb ik.Strokes t25.toNat)∧True:=hI
    show XW _ _ _ _ (mkS [(3,.ref 3 0),(23,Zap false ik.Strokes),(24,I (ik.Strokes.length:Int)),(25,I t25)] [(3,.bld 141 60007),(60007,.buf 5 false tx)]) _ _
    refine Zak ?_
    by_cases h1:t25<(ik.Strokes.length:Int)
    ·have hi:t25.toNat<ik.Strokes.length:=by omega
     have hii:(t25+1).toNat=t25.toNat+1:=by omega
     have hst:=Znj hok _ (Zca hi)
     have hsl:=(Zpk hst).1
     have hiz:=Ziz (Znj hok) t25.toNat om
     rw [←htx] at hiz
     have hn8:=Zbx ((at_ ik.Strokes t25.toNat).Points.length:Int) 8
     have h8:(8:Int).toNat=8:=rfl
     have hco0:=Zeu hst 0
     have hco1:=Zeu hst 1
     have hco2:=Zeu hst 2
     refine x_q [(0,.dec true)] [3,23,24,25,26] [3,60007] [_] ⟨h1,trivial⟩ (Zab (Zak (Zeh (Zbd (Zab (Zak (Zbb ?_)))))))
     refine xQ [(2,.new 5)] [3,5,23,24,25] [3,5,60007] [(0:Int)≤t25∧t25<(ik.Strokes.length:Int)] ⟨⟨om,om⟩,trivial⟩ ?_
     refine xQ [(3,.call [(true,.any),(true,.any)] true (Sv (Zds ((((at_ ik.Strokes t25.toNat).Points).length):Int) 8))),(4,.bw 3 60007 60006 (.string (Zds ((((at_ ik.Strokes t25.toNat).Points).length):Int) 8)) false (Zds ((((at_ ik.Strokes t25.toNat).Points).length):Int) 8))] [3,5,23,24,25] [3,5,60006] [_∧True,([.ref 3 0,Sv (Zds ((((at_ ik.Strokes t25.toNat).Points).length):Int) 8)]:List AV)=[.ref 3 0,Sv (Zds ((((at_ ik.Strokes t25.toNat).Points).length):Int) 8)]∧Yew Tryz.prog 83 141 5 (.string (Zds ((((at_ ik.Strokes t25.toNat).Points).length):Int) 8)) false tx false (Zds ((((at_ ik.Strokes t25.toNat).Points).length):Int) 8)] ⟨⟨(Zem ((((at_ ik.Strokes t25.toNat).Points).length):Int) 8 om om),trivial⟩,⟨rfl,Zvb (by have hs2_:=Zch [(0:Int),0];(try simp only [ByteArray.size_append,Zch,List.length_cons,List.length_nil]);(try (rw [ByteArray.size_append] at hcz));omega)⟩,trivial⟩ (Zak ?_)
     obtain ⟨v_1,hx1_0,hx1_1,hx1_2,hc1⟩:=Ydx (at_ ik.Strokes t25.toNat) om
     have hqc0:=hx1_0
     have hqc1:=hx1_1
     have hqc2:=hx1_2
     refine x_r [(1,.call [(true,.any)] true (.agg [slI true v_1.a0,slI true v_1.a1,slI true v_1.a2]))] [3,23,24,25,35,36] [3,60006] [.ref 3 0,Zap false ik.Strokes,I (ik.Strokes.length:Int),I t25,.agg [slI true v_1.a0,slI true v_1.a1,slI true v_1.a2],I 0] [some (.bld 141 60006),some (.buf 5 false (tx++(Zds ((((at_ ik.Strokes t25.toNat).Points).length):Int) 8)))] [_∧True] ⟨⟨hc1,trivial⟩,trivial⟩ (Zab (Zbb ?_))
     refine Zdc (X:=Int×ByteArray) (fun x=>mkS [(3,.ref 3 0),(23,Zap false ik.Strokes),(24,I (ik.Strokes.length:Int)),(25,I t25),(35,.agg [slI true v_1.a0,slI true v_1.a1,slI true v_1.a2]),(36,I x.1)] [(3,.bld 141 60006),(60006,.buf 5 false x.2)]) (fun x=>(0≤x.1∧x.1≤3)∧(x.2=Zkb ik.Strokes t25.toNat++pcB (at_ ik.Strokes t25.toNat) x.1.toNat)∧True) (fun x=>((3:Int)-x.1).toNat) (0,(tx++(Zds ((((at_ ik.Strokes t25.toNat).Points).length):Int) 8))) rfl (show (0≤(0:Int)∧(0:Int)≤3)∧((tx++(Zds ((((at_ ik.Strokes t25.toNat).Points).length):Int) 8))=Zkb ik.Strokes t25.toNat++pcB (at_ ik.Strokes t25.toNat) (0:Int).toNat)∧True from ⟨om,(by (rw [←htx];rfl)),trivial⟩) (fun x hI=> ?_)
     obtain ⟨t36,tx2⟩:=x
     obtain ⟨hk0,htx2,_⟩:(0≤t36∧t36≤3)∧(tx2=Zkb ik.Strokes t25.toNat++pcB (at_ ik.Strokes t25.toNat) t36.toNat)∧True:=hI
     show XW _ _ _ _ (mkS [(3,.ref 3 0),(23,Zap false ik.Strokes),(24,I (ik.Strokes.length:Int)),(25,I t25),(35,.agg [slI true v_1.a0,slI true v_1.a1,slI true v_1.a2]),(36,I t36)] [(3,.bld 141 60006),(60006,.buf 5 false tx2)]) _ _
     refine Zak ?_
     by_cases h2:t36<3
     ·have hpz:=Zve hst t36.toNat
      have htz:tx2.size≤8+9380*6+8+3124*3:=by rw [htx2,ByteArray.size_append];rw [htx] at hiz;omega
      have h012:t36=0∨t36=1∨t36=2:=by omega
      rcases h012 with rfl|rfl|rfl
      ·refine x_q [(0,.dec true)] [3,23,24,25,35,36,37] [3,60006] [_] ⟨h2,trivial⟩ (Zab (Zak (Zeh (Zbd (Zab (Zak (Zbb ?_)))))))
       refine xQ [] [3,7,23,24,25,35,36] [3,60006] [(0:Int)≤(0:Int)∧(0:Int)<(3:Int)] ⟨⟨by decide,by decide⟩,trivial⟩ (Zak ?_)
       obtain ⟨v_2,hx2_0,hc2⟩:=Ziv v_1.a0 (by first|(rw [hqc0];exact hco0.1)|(rw [hqc1];exact hco1.1)|(rw [hqc2];exact hco2.1)) (by first|(rw [hqc0];exact hco0.2)|(rw [hqc1];exact hco1.2)|(rw [hqc2];exact hco2.2))
       have hrv:v_2=Zii (Zfd (at_ ik.Strokes t25.toNat) 0):=by rw [hx2_0,hqc0]
       have hrr:rOk v_2:=by rw [hrv];exact Zoo hco0
       have hrl:v_2.length=(at_ ik.Strokes t25.toNat).Points.length:=by rw [hrv,Zfk,Zdu]
       refine x_q [(1,.call [(false,slI false v_1.a0)] true (slI true v_2))] [3,8,23,24,25,35,36] [3,60006] [_∧((false=true→true=true)∧1=1∧v_1.a0.length=v_1.a0.length∧∀i_,i_<v_1.a0.length→(fI v_1.a0) i_=(fI v_1.a0) i_∨(AV.idsL ((fI v_1.a0) i_)=[]∧leL (fun _=>none) false ((fI v_1.a0) i_) ((fI v_1.a0) i_)))∧True] ⟨⟨hc2,⟨(fun h=>by cases h),rfl,rfl,fun i _=> .inl rfl⟩,trivial⟩,trivial⟩ (Zab (Zak ?_))
       obtain ⟨b_3,s_3,hx3_0,hx3_1,hc3⟩:=Zmd v_2 om hrr
       have hbk:0≤b_3∧b_3≤12:=by rw [hx3_0];exact (Zkv hrr (K:=12) (by decide)).1
       have hcolb:Zds b_3 4++riC v_2 b_3 v_2.length=Zgp (Zfd (at_ ik.Strokes t25.toNat) 0):=by rw [hx3_0,hrv];rfl
       have hrz:=Zis hrr hbk v_2.length (Nat.le_refl _)
       have hnz:=Zbx b_3 4
       have h4:(4:Int).toNat=4:=rfl
       refine x_q [(1,.call [(false,slI false v_2)] true (.tup [I b_3,I s_3]))] [3,8,9,23,24,25,35,36] [3,60006] [_∧((false=true→true=true)∧1=1∧v_2.length=v_2.length∧∀i_,i_<v_2.length→(fI v_2) i_=(fI v_2) i_∨(AV.idsL ((fI v_2) i_)=[]∧leL (fun _=>none) false ((fI v_2) i_) ((fI v_2) i_)))∧True] ⟨⟨hc3,⟨(fun h=>by cases h),rfl,rfl,fun i _=> .inl rfl⟩,trivial⟩,trivial⟩ (Zab ?_)
       refine xQ [(1,.call [(true,.any),(true,.any)] true (Sv (Zds b_3 4))),(2,.bw 3 60006 60007 (.string (Zds b_3 4)) false (Zds b_3 4))] [3,8,9,23,24,25,35,36] [3,60007] [_∧True,([.ref 3 0,Sv (Zds b_3 4)]:List AV)=[.ref 3 0,Sv (Zds b_3 4)]∧Yew Tryz.prog 83 141 5 (.string (Zds b_3 4)) false tx2 false (Zds b_3 4)] ⟨⟨(Zem b_3 4 om om),trivial⟩,⟨rfl,Zvb (by have hs2_:=Zch [(0:Int),0];(try simp only [ByteArray.size_append,Zch,List.length_cons,List.length_nil]);(try (rw [ByteArray.size_append] at hcz));omega)⟩,trivial⟩ ?_
       refine xR [] [3,9,23,24,25,35,36,49,50,51] [3,60007] [.ref 3 0,I b_3,Zap false ik.Strokes,I (ik.Strokes.length:Int),I t25,.agg [slI true v_1.a0,slI true v_1.a1,slI true v_1.a2],I (0:Int),slI true v_2,I (v_2.length:Int),I 0] [some (.bld 141 60007),some (.buf 5 false (tx2++(Zds b_3 4)))] [] trivial (Zbb ?_)
       refine Zdc (X:=Int×ByteArray) (fun x=>mkS [(3,.ref 3 0),(9,I b_3),(23,Zap false ik.Strokes),(24,I (ik.Strokes.length:Int)),(25,I t25),(35,.agg [slI true v_1.a0,slI true v_1.a1,slI true v_1.a2]),(36,I (0:Int)),(49,slI true v_2),(50,I (v_2.length:Int)),(51,I x.1)] [(3,.bld 141 60007),(60007,.buf 5 false x.2)]) (fun x=>(0≤x.1∧x.1≤(v_2.length:Int))∧(x.2=(tx2++Zds b_3 4)++riC v_2 b_3 x.1.toNat)∧True) (fun x=>((v_2.length:Int)-x.1).toNat) (0,(tx2++(Zds b_3 4))) rfl (show (0≤(0:Int)∧(0:Int)≤(v_2.length:Int))∧((tx2++(Zds b_3 4))=(tx2++Zds b_3 4)++riC v_2 b_3 (0:Int).toNat)∧True from ⟨om,(by exact (Zvf _).symm),trivial⟩) (fun x hI=> ?_)
       obtain ⟨t51,tx3⟩:=x
       obtain ⟨hj0,htx3,_⟩:(0≤t51∧t51≤(v_2.length:Int))∧(tx3=(tx2++Zds b_3 4)++riC v_2 b_3 t51.toNat)∧True:=hI
       show XW _ _ _ _ (mkS [(3,.ref 3 0),(9,I b_3),(23,Zap false ik.Strokes),(24,I (ik.Strokes.length:Int)),(25,I t25),(35,.agg [slI true v_1.a0,slI true v_1.a1,slI true v_1.a2]),(36,I (0:Int)),(49,slI true v_2),(50,I (v_2.length:Int)),(51,I t51)] [(3,.bld 141 60007),(60007,.buf 5 false tx3)]) _ _
       refine Zak ?_
       by_cases h3:t51<(v_2.length:Int)
       ·have hj:t51.toNat<v_2.length:=by omega
        have hjj:(t51+1).toNat=t51.toNat+1:=by omega
        have hxr:=hrr _ (Zca hj)
        have hrs:=ri_sz hxr hbk
        have hrz2:=Zis hrr hbk t51.toNat om
        have htz3:tx3.size≤tx2.size+4+52*t51.toNat:=by rw [htx3,ByteArray.size_append,ByteArray.size_append];omega
        refine x_q [(0,.dec true)] [3,9,23,24,25,35,36,49,50,51,52] [3,60007] [_] ⟨h3,trivial⟩ (Zab (Zak (Zeh (Zbd (Zab (Zak (Zbb ?_)))))))
        refine xQ [] [3,9,12,23,24,25,35,36,49,50,51] [3,60007] [(0:Int)≤t51∧t51<(v_2.length:Int)] ⟨⟨om,om⟩,trivial⟩ ?_
        refine x_q [(2,.call [(true,.any),(true,.any)] true (Sv (Zdo (at_ v_2 t51.toNat) b_3))),(3,.bw 3 60007 60006 (.string (Zdo (at_ v_2 t51.toNat) b_3)) false (Zdo (at_ v_2 t51.toNat) b_3))] [3,9,23,24,25,35,36,49,50,51] [3,60006] [_∧True,([.ref 3 0,Sv (Zdo (at_ v_2 t51.toNat) b_3)]:List AV)=[.ref 3 0,Sv (Zdo (at_ v_2 t51.toNat) b_3)]∧Yew Tryz.prog 83 141 5 (.string (Zdo (at_ v_2 t51.toNat) b_3)) false tx3 false (Zdo (at_ v_2 t51.toNat) b_3)] ⟨⟨(Zme (at_ v_2 t51.toNat) b_3 om om),trivial⟩,⟨rfl,Zvb (by have hs2_:=Zch [(0:Int),0];(try simp only [ByteArray.size_append,Zch,List.length_cons,List.length_nil]);(try (rw [ByteArray.size_append] at hcz));omega)⟩,trivial⟩ (Zba 5 (Zab ?_))
        refine x_r [] [3,9,23,24,25,35,36,49,50,51] [3,60006] [.ref 3 0,I b_3,Zap false ik.Strokes,I (ik.Strokes.length:Int),I t25,.agg [slI true v_1.a0,slI true v_1.a1,slI true v_1.a2],I (0:Int),slI true v_2,I (v_2.length:Int),I (t51+1)] [some (.bld 141 60006),some (.buf 5 false (tx3++(Zdo (at_ v_2 t51.toNat) b_3)))] [inR .i64 (t51+1)] ⟨(Zad om om),trivial⟩ ?_
        refine Zcf [(60007,60006)] (T:=[(3,.ref 3 0),(9,I b_3),(23,Zap false ik.Strokes),(24,I (ik.Strokes.length:Int)),(25,I t25),(35,.agg [slI true v_1.a0,slI true v_1.a1,slI true v_1.a2]),(36,I (0:Int)),(49,slI true v_2),(50,I (v_2.length:Int)),(51,I (t51+1))]) (O:=[(3,.bld 141 60007),(60007,.buf 5 false (tx3++(Zdo (at_ v_2 t51.toNat) b_3)))]) rfl (⟨.inl rfl,.inl rfl,.inl rfl,.inl rfl,.inl rfl,.inl rfl,.inl rfl,.inl rfl,.inl rfl,.inl rfl,trivial⟩) (⟨.inl rfl,.inl rfl,trivial⟩) (Zay ((t51+1),(tx3++(Zdo (at_ v_2 t51.toNat) b_3))) rfl (show (0≤(t51+1)∧(t51+1)≤(v_2.length:Int))∧((tx3++(Zdo (at_ v_2 t51.toNat) b_3))=(tx2++Zds b_3 4)++riC v_2 b_3 (t51+1).toNat)∧True from ⟨om,(by (rw [hjj,riC,←ByteArray.append_assoc,←htx3])),trivial⟩) (by first|(show (((v_2.length:Int)-(t51+1)).toNat:Nat)<((v_2.length:Int)-t51).toNat;omega)|(dsimp only;omega)))
       have hje:t51.toNat=v_2.length:=by omega
       rw [hje] at htx3
       have htx4:=htx3
       rw [ByteArray.append_assoc,hcolb] at htx4
       have htz4:tx3.size≤tx2.size+4+52*60:=by rw [htx3,ByteArray.size_append,ByteArray.size_append];omega
       refine x_r [(0,.dec false)] [3,9,23,24,25,35,36,49,50,51,52] [3,60007] [.ref 3 0,I b_3,Zap false ik.Strokes,I (ik.Strokes.length:Int),I t25,.agg [slI true v_1.a0,slI true v_1.a1,slI true v_1.a2],I (0:Int),slI true v_2,I (v_2.length:Int),I t51,Bv false] [some (.bld 141 60007),some (.buf 5 false tx3)] [_] ⟨h3,trivial⟩ (Zab (Zak (Zbt rfl (Zcp (Zas ?_)))))
       refine Zax ?_
       refine Zat (Zba 3 (Zab ?_))
       refine x_r [] [3,23,24,25,35,36] [3,60007] [.ref 3 0,Zap false ik.Strokes,I (ik.Strokes.length:Int),I t25,.agg [slI true v_1.a0,slI true v_1.a1,slI true v_1.a2],I ((0:Int)+1)] [some (.bld 141 60007),some (.buf 5 false tx3)] [inR .i64 ((0:Int)+1)] ⟨(Zad om om),trivial⟩ ?_
       refine Zcf [(60006,60007)] (T:=[(3,.ref 3 0),(23,Zap false ik.Strokes),(24,I (ik.Strokes.length:Int)),(25,I t25),(35,.agg [slI true v_1.a0,slI true v_1.a1,slI true v_1.a2]),(36,I ((0:Int)+1))]) (O:=[(3,.bld 141 60006),(60006,.buf 5 false tx3)]) rfl (⟨.inl rfl,.inl rfl,.inl rfl,.inl rfl,.inl rfl,.inl rfl,trivial⟩) (⟨.inl rfl,.inl rfl,trivial⟩) (Zay (((0:Int)+1),tx3) rfl (show (0≤((0:Int)+1)∧((0:Int)+1)≤3)∧(tx3=Zkb ik.Strokes t25.toNat++pcB (at_ ik.Strokes t25.toNat) ((0:Int)+1).toNat)∧True from ⟨om,(by (rw [htx4,htx2,ByteArray.append_assoc];rfl)),trivial⟩) (by first|(show (((3:Int)-((0:Int)+1)).toNat:Nat)<((3:Int)-t36).toNat;omega)|(dsimp only;omega)))
      ·refine x_q [(0,.dec true)] [3,23,24,25,35,36,37] [3,60006] [_] ⟨h2,trivial⟩ (Zab (Zak (Zeh (Zbd (Zab (Zak (Zbb ?_)))))))
       refine xQ [] [3,7,23,24,25,35,36] [3,60006] [(0:Int)≤(1:Int)∧(1:Int)<(3:Int)] ⟨⟨by decide,by decide⟩,trivial⟩ (Zak ?_)
       obtain ⟨v_4,hx4_0,hc4⟩:=Ziv v_1.a1 (by first|(rw [hqc0];exact hco0.1)|(rw [hqc1];exact hco1.1)|(rw [hqc2];exact hco2.1)) (by first|(rw [hqc0];exact hco0.2)|(rw [hqc1];exact hco1.2)|(rw [hqc2];exact hco2.2))
       have hrv:v_4=Zii (Zfd (at_ ik.Strokes t25.toNat) 1):=by rw [hx4_0,hqc1]
       have hrr:rOk v_4:=by rw [hrv];exact Zoo hco1
       have hrl:v_4.length=(at_ ik.Strokes t25.toNat).Points.length:=by rw [hrv,Zfk,Zdu]
       refine x_q [(1,.call [(false,slI false v_1.a1)] true (slI true v_4))] [3,8,23,24,25,35,36] [3,60006] [_∧((false=true→true=true)∧1=1∧v_1.a1.length=v_1.a1.length∧∀i_,i_<v_1.a1.length→(fI v_1.a1) i_=(fI v_1.a1) i_∨(AV.idsL ((fI v_1.a1) i_)=[]∧leL (fun _=>none) false ((fI v_1.a1) i_) ((fI v_1.a1) i_)))∧True] ⟨⟨hc4,⟨(fun h=>by cases h),rfl,rfl,fun i _=> .inl rfl⟩,trivial⟩,trivial⟩ (Zab (Zak ?_))
       obtain ⟨b_5,s_5,hx5_0,hx5_1,hc5⟩:=Zmd v_4 om hrr
       have hbk:0≤b_5∧b_5≤12:=by rw [hx5_0];exact (Zkv hrr (K:=12) (by decide)).1
       have hcolb:Zds b_5 4++riC v_4 b_5 v_4.length=Zgp (Zfd (at_ ik.Strokes t25.toNat) 1):=by rw [hx5_0,hrv];rfl
       have hrz:=Zis hrr hbk v_4.length (Nat.le_refl _)
       have hnz:=Zbx b_5 4
       have h4:(4:Int).toNat=4:=rfl
       refine x_q [(1,.call [(false,slI false v_4)] true (.tup [I b_5,I s_5]))] [3,8,9,23,24,25,35,36] [3,60006] [_∧((false=true→true=true)∧1=1∧v_4.length=v_4.length∧∀i_,i_<v_4.length→(fI v_4) i_=(fI v_4) i_∨(AV.idsL ((fI v_4) i_)=[]∧leL (fun _=>none) false ((fI v_4) i_) ((fI v_4) i_)))∧True] ⟨⟨hc5,⟨(fun h=>by cases h),rfl,rfl,fun i _=> .inl rfl⟩,trivial⟩,trivial⟩ (Zab ?_)
       refine xQ [(1,.call [(true,.any),(true,.any)] true (Sv (Zds b_5 4))),(2,.bw 3 60006 60007 (.string (Zds b_5 4)) false (Zds b_5 4))] [3,8,9,23,24,25,35,36] [3,60007] [_∧True,([.ref 3 0,Sv (Zds b_5 4)]:List AV)=[.ref 3 0,Sv (Zds b_5 4)]∧Yew Tryz.prog 83 141 5 (.string (Zds b_5 4)) false tx2 false (Zds b_5 4)] ⟨⟨(Zem b_5 4 om om),trivial⟩,⟨rfl,Zvb (by have hs2_:=Zch [(0:Int),0];(try simp only [ByteArray.size_append,Zch,List.length_cons,List.length_nil]);(try (rw [ByteArray.size_append] at hcz));omega)⟩,trivial⟩ ?_
       refine xR [] [3,9,23,24,25,35,36,49,50,51] [3,60007] [.ref 3 0,I b_5,Zap false ik.Strokes,I (ik.Strokes.length:Int),I t25,.agg [slI true v_1.a0,slI true v_1.a1,slI true v_1.a2],I (1:Int),slI true v_4,I (v_4.length:Int),I 0] [some (.bld 141 60007),some (.buf 5 false (tx2++(Zds b_5 4)))] [] trivial (Zbb ?_)
       refine Zdc (X:=Int×ByteArray) (fun x=>mkS [(3,.ref 3 0),(9,I b_5),(23,Zap false ik.Strokes),(24,I (ik.Strokes.length:Int)),(25,I t25),(35,.agg [slI true v_1.a0,slI true v_1.a1,slI true v_1.a2]),(36,I (1:Int)),(49,slI true v_4),(50,I (v_4.length:Int)),(51,I x.1)] [(3,.bld 141 60007),(60007,.buf 5 false x.2)]) (fun x=>(0≤x.1∧x.1≤(v_4.length:Int))∧(x.2=(tx2++Zds b_5 4)++riC v_4 b_5 x.1.toNat)∧True) (fun x=>((v_4.length:Int)-x.1).toNat) (0,(tx2++(Zds b_5 4))) rfl (show (0≤(0:Int)∧(0:Int)≤(v_4.length:Int))∧((tx2++(Zds b_5 4))=(tx2++Zds b_5 4)++riC v_4 b_5 (0:Int).toNat)∧True from ⟨om,(by exact (Zvf _).symm),trivial⟩) (fun x hI=> ?_)
       obtain ⟨t51,tx3⟩:=x
       obtain ⟨hj0,htx3,_⟩:(0≤t51∧t51≤(v_4.length:Int))∧(tx3=(tx2++Zds b_5 4)++riC v_4 b_5 t51.toNat)∧True:=hI
       show XW _ _ _ _ (mkS [(3,.ref 3 0),(9,I b_5),(23,Zap false ik.Strokes),(24,I (ik.Strokes.length:Int)),(25,I t25),(35,.agg [slI true v_1.a0,slI true v_1.a1,slI true v_1.a2]),(36,I (1:Int)),(49,slI true v_4),(50,I (v_4.length:Int)),(51,I t51)] [(3,.bld 141 60007),(60007,.buf 5 false tx3)]) _ _
       refine Zak ?_
       by_cases h4:t51<(v_4.length:Int)
       ·have hj:t51.toNat<v_4.length:=by omega
        have hjj:(t51+1).toNat=t51.toNat+1:=by omega
        have hxr:=hrr _ (Zca hj)
        have hrs:=ri_sz hxr hbk
        have hrz2:=Zis hrr hbk t51.toNat om
        have htz3:tx3.size≤tx2.size+4+52*t51.toNat:=by rw [htx3,ByteArray.size_append,ByteArray.size_append];omega
        refine x_q [(0,.dec true)] [3,9,23,24,25,35,36,49,50,51,52] [3,60007] [_] ⟨h4,trivial⟩ (Zab (Zak (Zeh (Zbd (Zab (Zak (Zbb ?_)))))))
        refine xQ [] [3,9,12,23,24,25,35,36,49,50,51] [3,60007] [(0:Int)≤t51∧t51<(v_4.length:Int)] ⟨⟨om,om⟩,trivial⟩ ?_
        refine x_q [(2,.call [(true,.any),(true,.any)] true (Sv (Zdo (at_ v_4 t51.toNat) b_5))),(3,.bw 3 60007 60006 (.string (Zdo (at_ v_4 t51.toNat) b_5)) false (Zdo (at_ v_4 t51.toNat) b_5))] [3,9,23,24,25,35,36,49,50,51] [3,60006] [_∧True,([.ref 3 0,Sv (Zdo (at_ v_4 t51.toNat) b_5)]:List AV)=[.ref 3 0,Sv (Zdo (at_ v_4 t51.toNat) b_5)]∧Yew Tryz.prog 83 141 5 (.string (Zdo (at_ v_4 t51.toNat) b_5)) false tx3 false (Zdo (at_ v_4 t51.toNat) b_5)] ⟨⟨(Zme (at_ v_4 t51.toNat) b_5 om om),trivial⟩,⟨rfl,Zvb (by have hs2_:=Zch [(0:Int),0];(try simp only [ByteArray.size_append,Zch,List.length_cons,List.length_nil]);(try (rw [ByteArray.size_append] at hcz));omega)⟩,trivial⟩ (Zba 5 (Zab ?_))
        refine x_r [] [3,9,23,24,25,35,36,49,50,51] [3,60006] [.ref 3 0,I b_5,Zap false ik.Strokes,I (ik.Strokes.length:Int),I t25,.agg [slI true v_1.a0,slI true v_1.a1,slI true v_1.a2],I (1:Int),slI true v_4,I (v_4.length:Int),I (t51+1)] [some (.bld 141 60006),some (.buf 5 false (tx3++(Zdo (at_ v_4 t51.toNat) b_5)))] [inR .i64 (t51+1)] ⟨(Zad om om),trivial⟩ ?_
        refine Zcf [(60007,60006)] (T:=[(3,.ref 3 0),(9,I b_5),(23,Zap false ik.Strokes),(24,I (ik.Strokes.length:Int)),(25,I t25),(35,.agg [slI true v_1.a0,slI true v_1.a1,slI true v_1.a2]),(36,I (1:Int)),(49,slI true v_4),(50,I (v_4.length:Int)),(51,I (t51+1))]) (O:=[(3,.bld 141 60007),(60007,.buf 5 false (tx3++(Zdo (at_ v_4 t51.toNat) b_5)))]) rfl (⟨.inl rfl,.inl rfl,.inl rfl,.inl rfl,.inl rfl,.inl rfl,.inl rfl,.inl rfl,.inl rfl,.inl rfl,trivial⟩) (⟨.inl rfl,.inl rfl,trivial⟩) (Zay ((t51+1),(tx3++(Zdo (at_ v_4 t51.toNat) b_5))) rfl (show (0≤(t51+1)∧(t51+1)≤(v_4.length:Int))∧((tx3++(Zdo (at_ v_4 t51.toNat) b_5))=(tx2++Zds b_5 4)++riC v_4 b_5 (t51+1).toNat)∧True from ⟨om,(by (rw [hjj,riC,←ByteArray.append_assoc,←htx3])),trivial⟩) (by first|(show (((v_4.length:Int)-(t51+1)).toNat:Nat)<((v_4.length:Int)-t51).toNat;omega)|(dsimp only;omega)))
       have hje:t51.toNat=v_4.length:=by omega
       rw [hje] at htx3
       have htx4:=htx3
       rw [ByteArray.append_assoc,hcolb] at htx4
       have htz4:tx3.size≤tx2.size+4+52*60:=by rw [htx3,ByteArray.size_append,ByteArray.size_append];omega
       refine x_r [(0,.dec false)] [3,9,23,24,25,35,36,49,50,51,52] [3,60007] [.ref 3 0,I b_5,Zap false ik.Strokes,I (ik.Strokes.length:Int),I t25,.agg [slI true v_1.a0,slI true v_1.a1,slI true v_1.a2],I (1:Int),slI true v_4,I (v_4.length:Int),I t51,Bv false] [some (.bld 141 60007),some (.buf 5 false tx3)] [_] ⟨h4,trivial⟩ (Zab (Zak (Zbt rfl (Zcp (Zas ?_)))))
       refine Zax ?_
       refine Zat (Zba 3 (Zab ?_))
       refine x_r [] [3,23,24,25,35,36] [3,60007] [.ref 3 0,Zap false ik.Strokes,I (ik.Strokes.length:Int),I t25,.agg [slI true v_1.a0,slI true v_1.a1,slI true v_1.a2],I ((1:Int)+1)] [some (.bld 141 60007),some (.buf 5 false tx3)] [inR .i64 ((1:Int)+1)] ⟨(Zad om om),trivial⟩ ?_
       refine Zcf [(60006,60007)] (T:=[(3,.ref 3 0),(23,Zap false ik.Strokes),(24,I (ik.Strokes.length:Int)),(25,I t25),(35,.agg [slI true v_1.a0,slI true v_1.a1,slI true v_1.a2]),(36,I ((1:Int)+1))]) (O:=[(3,.bld 141 60006),(60006,.buf 5 false tx3)]) rfl (⟨.inl rfl,.inl rfl,.inl rfl,.inl rfl,.inl rfl,.inl rfl,trivial⟩) (⟨.inl rfl,.inl rfl,trivial⟩) (Zay (((1:Int)+1),tx3) rfl (show (0≤((1:Int)+1)∧((1:Int)+1)≤3)∧(tx3=Zkb ik.Strokes t25.toNat++pcB (at_ ik.Strokes t25.toNat) ((1:Int)+1).toNat)∧True from ⟨om,(by (rw [htx4,htx2,ByteArray.append_assoc];rfl)),trivial⟩) (by first|(show (((3:Int)-((1:Int)+1)).toNat:Nat)<((3:Int)-t36).toNat;omega)|(dsimp only;omega)))
      ·refine x_q [(0,.dec true)] [3,23,24,25,35,36,37] [3,60006] [_] ⟨h2,trivial⟩ (Zab (Zak (Zeh (Zbd (Zab (Zak (Zbb ?_)))))))
       refine xQ [] [3,7,23,24,25,35,36] [3,60006] [(0:Int)≤(2:Int)∧(2:Int)<(3:Int)] ⟨⟨by decide,by decide⟩,trivial⟩ (Zak ?_)
       obtain ⟨v_6,hx6_0,hc6⟩:=Ziv v_1.a2 (by first|(rw [hqc0];exact hco0.1)|(rw [hqc1];exact hco1.1)|(rw [hqc2];exact hco2.1)) (by first|(rw [hqc0];exact hco0.2)|(rw [hqc1];exact hco1.2)|(rw [hqc2];exact hco2.2))
       have hrv:v_6=Zii (Zfd (at_ ik.Strokes t25.toNat) 2):=by rw [hx6_0,hqc2]
       have hrr:rOk v_6:=by rw [hrv];exact Zoo hco2
       have hrl:v_6.length=(at_ ik.Strokes t25.toNat).Points.length:=by rw [hrv,Zfk,Zdu]
       refine x_q [(1,.call [(false,slI false v_1.a2)] true (slI true v_6))] [3,8,23,24,25,35,36] [3,60006] [_∧((false=true→true=true)∧1=1∧v_1.a2.length=v_1.a2.length∧∀i_,i_<v_1.a2.length→(fI v_1.a2) i_=(fI v_1.a2) i_∨(AV.idsL ((fI v_1.a2) i_)=[]∧leL (fun _=>none) false ((fI v_1.a2) i_) ((fI v_1.a2) i_)))∧True] ⟨⟨hc6,⟨(fun h=>by cases h),rfl,rfl,fun i _=> .inl rfl⟩,trivial⟩,trivial⟩ (Zab (Zak ?_))
       obtain ⟨b_7,s_7,hx7_0,hx7_1,hc7⟩:=Zmd v_6 om hrr
       have hbk:0≤b_7∧b_7≤12:=by rw [hx7_0];exact (Zkv hrr (K:=12) (by decide)).1
       have hcolb:Zds b_7 4++riC v_6 b_7 v_6.length=Zgp (Zfd (at_ ik.Strokes t25.toNat) 2):=by rw [hx7_0,hrv];rfl
       have hrz:=Zis hrr hbk v_6.length (Nat.le_refl _)
       have hnz:=Zbx b_7 4
       have h4:(4:Int).toNat=4:=rfl
       refine x_q [(1,.call [(false,slI false v_6)] true (.tup [I b_7,I s_7]))] [3,8,9,23,24,25,35,36] [3,60006] [_∧((false=true→true=true)∧1=1∧v_6.length=v_6.length∧∀i_,i_<v_6.length→(fI v_6) i_=(fI v_6) i_∨(AV.idsL ((fI v_6) i_)=[]∧leL (fun _=>none) false ((fI v_6) i_) ((fI v_6) i_)))∧True] ⟨⟨hc7,⟨(fun h=>by cases h),rfl,rfl,fun i _=> .inl rfl⟩,trivial⟩,trivial⟩ (Zab ?_)
       refine xQ [(1,.call [(true,.any),(true,.any)] true (Sv (Zds b_7 4))),(2,.bw 3 60006 60007 (.string (Zds b_7 4)) false (Zds b_7 4))] [3,8,9,23,24,25,35,36] [3,60007] [_∧True,([.ref 3 0,Sv (Zds b_7 4)]:List AV)=[.ref 3 0,Sv (Zds b_7 4)]∧Yew Tryz.prog 83 141 5 (.string (Zds b_7 4)) false tx2 false (Zds b_7 4)] ⟨⟨(Zem b_7 4 om om),trivial⟩,⟨rfl,Zvb (by have hs2_:=Zch [(0:Int),0];(try simp only [ByteArray.size_append,Zch,List.length_cons,List.length_nil]);(try (rw [ByteArray.size_append] at hcz));omega)⟩,trivial⟩ ?_
       refine xR [] [3,9,23,24,25,35,36,49,50,51] [3,60007] [.ref 3 0,I b_7,Zap false ik.Strokes,I (ik.Strokes.length:Int),I t25,.agg [slI true v_1.a0,slI true v_1.a1,slI true v_1.a2],I (2:Int),slI true v_6,I (v_6.length:Int),I 0] [some (.bld 141 60007),some (.buf 5 false (tx2++(Zds b_7 4)))] [] trivial (Zbb ?_)
       refine Zdc (X:=Int×ByteArray) (fun x=>mkS [(3,.ref 3 0),(9,I b_7),(23,Zap false ik.Strokes),(24,I (ik.Strokes.length:Int)),(25,I t25),(35,.agg [slI true v_1.a0,slI true v_1.a1,slI true v_1.a2]),(36,I (2:Int)),(49,slI true v_6),(50,I (v_6.length:Int)),(51,I x.1)] [(3,.bld 141 60007),(60007,.buf 5 false x.2)]) (fun x=>(0≤x.1∧x.1≤(v_6.length:Int))∧(x.2=(tx2++Zds b_7 4)++riC v_6 b_7 x.1.toNat)∧True) (fun x=>((v_6.length:Int)-x.1).toNat) (0,(tx2++(Zds b_7 4))) rfl (show (0≤(0:Int)∧(0:Int)≤(v_6.length:Int))∧((tx2++(Zds b_7 4))=(tx2++Zds b_7 4)++riC v_6 b_7 (0:Int).toNat)∧True from ⟨om,(by exact (Zvf _).symm),trivial⟩) (fun x hI=> ?_)
       obtain ⟨t51,tx3⟩:=x
       obtain ⟨hj0,htx3,_⟩:(0≤t51∧t51≤(v_6.length:Int))∧(tx3=(tx2++Zds b_7 4)++riC v_6 b_7 t51.toNat)∧True:=hI
       show XW _ _ _ _ (mkS [(3,.ref 3 0),(9,I b_7),(23,Zap false ik.Strokes),(24,I (ik.Strokes.length:Int)),(25,I t25),(35,.agg [slI true v_1.a0,slI true v_1.a1,slI true v_1.a2]),(36,I (2:Int)),(49,slI true v_6),(50,I (v_6.length:Int)),(51,I t51)] [(3,.bld 141 60007),(60007,.buf 5 false tx3)]) _ _
       refine Zak ?_
       by_cases h5:t51<(v_6.length:Int)
       ·have hj:t51.toNat<v_6.length:=by omega
        have hjj:(t51+1).toNat=t51.toNat+1:=by omega
        have hxr:=hrr _ (Zca hj)
        have hrs:=ri_sz hxr hbk
        have hrz2:=Zis hrr hbk t51.toNat om
        have htz3:tx3.size≤tx2.size+4+52*t51.toNat:=by rw [htx3,ByteArray.size_append,ByteArray.size_append];omega
        refine x_q [(0,.dec true)] [3,9,23,24,25,35,36,49,50,51,52] [3,60007] [_] ⟨h5,trivial⟩ (Zab (Zak (Zeh (Zbd (Zab (Zak (Zbb ?_)))))))
        refine xQ [] [3,9,12,23,24,25,35,36,49,50,51] [3,60007] [(0:Int)≤t51∧t51<(v_6.length:Int)] ⟨⟨om,om⟩,trivial⟩ ?_
        refine x_q [(2,.call [(true,.any),(true,.any)] true (Sv (Zdo (at_ v_6 t51.toNat) b_7))),(3,.bw 3 60007 60006 (.string (Zdo (at_ v_6 t51.toNat) b_7)) false (Zdo (at_ v_6 t51.toNat) b_7))] [3,9,23,24,25,35,36,49,50,51] [3,60006] [_∧True,([.ref 3 0,Sv (Zdo (at_ v_6 t51.toNat) b_7)]:List AV)=[.ref 3 0,Sv (Zdo (at_ v_6 t51.toNat) b_7)]∧Yew Tryz.prog 83 141 5 (.string (Zdo (at_ v_6 t51.toNat) b_7)) false tx3 false (Zdo (at_ v_6 t51.toNat) b_7)] ⟨⟨(Zme (at_ v_6 t51.toNat) b_7 om om),trivial⟩,⟨rfl,Zvb (by have hs2_:=Zch [(0:Int),0];(try simp only [ByteArray.size_append,Zch,List.length_cons,List.length_nil]);(try (rw [ByteArray.size_append] at hcz));omega)⟩,trivial⟩ (Zba 5 (Zab ?_))
        refine x_r [] [3,9,23,24,25,35,36,49,50,51] [3,60006] [.ref 3 0,I b_7,Zap false ik.Strokes,I (ik.Strokes.length:Int),I t25,.agg [slI true v_1.a0,slI true v_1.a1,slI true v_1.a2],I (2:Int),slI true v_6,I (v_6.length:Int),I (t51+1)] [some (.bld 141 60006),some (.buf 5 false (tx3++(Zdo (at_ v_6 t51.toNat) b_7)))] [inR .i64 (t51+1)] ⟨(Zad om om),trivial⟩ ?_
        refine Zcf [(60007,60006)] (T:=[(3,.ref 3 0),(9,I b_7),(23,Zap false ik.Strokes),(24,I (ik.Strokes.length:Int)),(25,I t25),(35,.agg [slI true v_1.a0,slI true v_1.a1,slI true v_1.a2]),(36,I (2:Int)),(49,slI true v_6),(50,I (v_6.length:Int)),(51,I (t51+1))]) (O:=[(3,.bld 141 60007),(60007,.buf 5 false (tx3++(Zdo (at_ v_6 t51.toNat) b_7)))]) rfl (⟨.inl rfl,.inl rfl,.inl rfl,.inl rfl,.inl rfl,.inl rfl,.inl rfl,.inl rfl,.inl rfl,.inl rfl,trivial⟩) (⟨.inl rfl,.inl rfl,trivial⟩) (Zay ((t51+1),(tx3++(Zdo (at_ v_6 t51.toNat) b_7))) rfl (show (0≤(t51+1)∧(t51+1)≤(v_6.length:Int))∧((tx3++(Zdo (at_ v_6 t51.toNat) b_7))=(tx2++Zds b_7 4)++riC v_6 b_7 (t51+1).toNat)∧True from ⟨om,(by (rw [hjj,riC,←ByteArray.append_assoc,←htx3])),trivial⟩) (by first|(show (((v_6.length:Int)-(t51+1)).toNat:Nat)<((v_6.length:Int)-t51).toNat;omega)|(dsimp only;omega)))
       have hje:t51.toNat=v_6.length:=by omega
       rw [hje] at htx3
       have htx4:=htx3
       rw [ByteArray.append_assoc,hcolb] at htx4
       have htz4:tx3.size≤tx2.size+4+52*60:=by rw [htx3,ByteArray.size_append,ByteArray.size_append];omega
       refine x_r [(0,.dec false)] [3,9,23,24,25,35,36,49,50,51,52] [3,60007] [.ref 3 0,I b_7,Zap false ik.Strokes,I (ik.Strokes.length:Int),I t25,.agg [slI true v_1.a0,slI true v_1.a1,slI true v_1.a2],I (2:Int),slI true v_6,I (v_6.length:Int),I t51,Bv false] [some (.bld 141 60007),some (.buf 5 false tx3)] [_] ⟨h5,trivial⟩ (Zab (Zak (Zbt rfl (Zcp (Zas ?_)))))
       refine Zax ?_
       refine Zat (Zba 3 (Zab ?_))
       refine x_r [] [3,23,24,25,35,36] [3,60007] [.ref 3 0,Zap false ik.Strokes,I (ik.Strokes.length:Int),I t25,.agg [slI true v_1.a0,slI true v_1.a1,slI true v_1.a2],I ((2:Int)+1)] [some (.bld 141 60007),some (.buf 5 false tx3)] [inR .i64 ((2:Int)+1)] ⟨(Zad om om),trivial⟩ ?_
       refine Zcf [(60006,60007)] (T:=[(3,.ref 3 0),(23,Zap false ik.Strokes),(24,I (ik.Strokes.length:Int)),(25,I t25),(35,.agg [slI true v_1.a0,slI true v_1.a1,slI true v_1.a2]),(36,I ((2:Int)+1))]) (O:=[(3,.bld 141 60006),(60006,.buf 5 false tx3)]) rfl (⟨.inl rfl,.inl rfl,.inl rfl,.inl rfl,.inl rfl,.inl rfl,trivial⟩) (⟨.inl rfl,.inl rfl,trivial⟩) (Zay (((2:Int)+1),tx3) rfl (show (0≤((2:Int)+1)∧((2:Int)+1)≤3)∧(tx3=Zkb ik.Strokes t25.toNat++pcB (at_ ik.Strokes t25.toNat) ((2:Int)+1).toNat)∧True from ⟨om,(by (rw [htx4,htx2,ByteArray.append_assoc];rfl)),trivial⟩) (by first|(show (((3:Int)-((2:Int)+1)).toNat:Nat)<((3:Int)-t36).toNat;omega)|(dsimp only;omega)))
     have h3e:t36.toNat=3:=by omega
     refine x_r [(0,.dec false)] [3,23,24,25,35,36,37] [3,60006] [.ref 3 0,Zap false ik.Strokes,I (ik.Strokes.length:Int),I t25,.agg [slI true v_1.a0,slI true v_1.a1,slI true v_1.a2],I t36,Bv false] [some (.bld 141 60006),some (.buf 5 false tx2)] [_] ⟨h2,trivial⟩ (Zab (Zak (Zbt rfl (Zcp (Zas ?_)))))
     refine Zax ?_
     refine Zat (Zba 1 (Zab ?_))
     refine x_r [] [3,23,24,25] [3,60006] [.ref 3 0,Zap false ik.Strokes,I (ik.Strokes.length:Int),I (t25+1)] [some (.bld 141 60006),some (.buf 5 false tx2)] [inR .i64 (t25+1)] ⟨(Zad om om),trivial⟩ ?_
     refine Zcf [(60007,60006)] (T:=[(3,.ref 3 0),(23,Zap false ik.Strokes),(24,I (ik.Strokes.length:Int)),(25,I (t25+1))]) (O:=[(3,.bld 141 60007),(60007,.buf 5 false tx2)]) rfl (⟨.inl rfl,.inl rfl,.inl rfl,.inl rfl,trivial⟩) (⟨.inl rfl,.inl rfl,trivial⟩) (Zay ((t25+1),tx2) rfl (show (0≤(t25+1)∧(t25+1)≤(ik.Strokes.length:Int))∧(tx2=Zkb ik.Strokes (t25+1).toNat)∧True from ⟨om,(by (rw [hii,Zkb,htx2,h3e,←htx];rfl)),trivial⟩) (by first|(show (((ik.Strokes.length:Int)-(t25+1)).toNat:Nat)<((ik.Strokes.length:Int)-t25).toNat;omega)|(dsimp only;omega)))
    have hie:t25.toNat=ik.Strokes.length:=by omega
    rw [hie] at htx
    have hob:=Ycl hok h6
    rw [←htx] at hob
    have hiz:=Ziz (Znj hok) ik.Strokes.length (Nat.le_refl _)
    rw [←htx] at hiz
    refine x_r [(0,.dec false)] [3,23,24,25,26] [3,60007] [.ref 3 0,Zap false ik.Strokes,I (ik.Strokes.length:Int),I t25,Bv false] [some (.bld 141 60007),some (.buf 5 false tx)] [_] ⟨h1,trivial⟩ (Zab (Zak (Zbt rfl (Zcp (Zas ?_)))))
    refine Zax ?_
    refine Zat (Zab (Zak ?_))
    obtain ⟨v_8,c_8,hx8_0,hx8_1,hc8⟩:=Yaa tx hob
    have hpk:=hx8_0
    have hpz:=hpk.1
    have hckb:0≤ckA (⟨#[73,75]⟩++v_8)∧ckA (⟨#[73,75]⟩++v_8)<65521:=Yhg _ _
    have hcz:((⟨#[73,75]⟩:ByteArray)++v_8).size≤12000:=by rw [ByteArray.size_append];show 2+_≤_;omega
    refine x_q [(0,.bs 3 60007),(1,.call [(true,.any)] true (.tup [Sv v_8,I c_8]))] [13] [] [([.ref 3 0]:List AV)=[.ref 3 0]∧BsOK Tryz.prog 90 141 5,_∧True] ⟨⟨rfl,bs_ok⟩,⟨hc8,trivial⟩,trivial⟩ (Zab ?_)
    refine xQ [] [15] [] [(⟨#[73,75]⟩:ByteArray).size+v_8.size≤9223372036854775807] ⟨(by have hs2_:=Zch [(0:Int),0];(try simp only [ByteArray.size_append,Zch,List.length_cons,List.length_nil]);(try (rw [ByteArray.size_append] at hcz));omega),trivial⟩ ?_
    refine xQ [(1,.call [(true,.any)] true (I (ckA ((⟨#[73,75]⟩:ByteArray)++v_8))))] [15,16] [] [_∧True] ⟨⟨(Zmk ((⟨#[73,75]⟩:ByteArray)++v_8) om),trivial⟩,trivial⟩ ?_
    refine xR [(3,.wrap),(5,.wrap),(6,.new 77),(7,.as (Sv (Zkj ([IntKind.u8.wrap ((ckA ((⟨#[73,75]⟩:ByteArray)++v_8))/256),IntKind.u8.wrap (ckA ((⟨#[73,75]⟩:ByteArray)++v_8))]))))] [2] [] [Sv (((⟨#[73,75]⟩:ByteArray)++v_8)++(Zkj ([IntKind.u8.wrap ((ckA ((⟨#[73,75]⟩:ByteArray)++v_8))/256),IntKind.u8.wrap (ckA ((⟨#[73,75]⟩:ByteArray)++v_8))])))] [] [(0:Int)≤8∧(8:Int)≤((IntKind.bits .i64:Nat):Int),(Zkj ([IntKind.u8.wrap ((ckA ((⟨#[73,75]⟩:ByteArray)++v_8))/256),IntKind.u8.wrap (ckA ((⟨#[73,75]⟩:ByteArray)++v_8))])).size=2∧∀i_,i_<2→(Zhu [.val (.int .u8 (IntKind.u8.wrap ((ckA ((⟨#[73,75]⟩:ByteArray)++v_8))/256))),.val (.int .u8 (IntKind.u8.wrap (ckA ((⟨#[73,75]⟩:ByteArray)++v_8))))] 1) i_=Zha (Zkj ([IntKind.u8.wrap ((ckA ((⟨#[73,75]⟩:ByteArray)++v_8))/256),IntKind.u8.wrap (ckA ((⟨#[73,75]⟩:ByteArray)++v_8))])) i_,((⟨#[73,75]⟩:ByteArray)++v_8).size+(Zkj ([IntKind.u8.wrap ((ckA ((⟨#[73,75]⟩:ByteArray)++v_8))/256),IntKind.u8.wrap (ckA ((⟨#[73,75]⟩:ByteArray)++v_8))])).size≤9223372036854775807] ⟨⟨(by decide),(by decide)⟩,(Ycm (fun x h_=>u8_two h_) (by first|rfl|(simp;done)|(simp;omega)|omega) (fun i_ hi_=> .inl (match i_,hi_ with|0,_=>rfl|1,_=>rfl|(i+2),h=>absurd h (by simp)))),(by have hs2_:=Zch [(0:Int),0];(try simp only [ByteArray.size_append,Zch,List.length_cons,List.length_nil]);(try (rw [ByteArray.size_append] at hcz));omega),trivial⟩ (Zdd ?_)
    refine Zbw (((⟨#[73,75]⟩:ByteArray)++v_8)++(Zkj ([IntKind.u8.wrap ((ckA ((⟨#[73,75]⟩:ByteArray)++v_8))/256),IntKind.u8.wrap (ckA ((⟨#[73,75]⟩:ByteArray)++v_8))]))) (show (Zwi ik (((⟨#[73,75]⟩:ByteArray)++v_8)++(Zkj ([IntKind.u8.wrap ((ckA ((⟨#[73,75]⟩:ByteArray)++v_8))/256),IntKind.u8.wrap (ckA ((⟨#[73,75]⟩:ByteArray)++v_8))]))))∧(((((⟨#[73,75]⟩:ByteArray)++v_8)++(Zkj ([IntKind.u8.wrap ((ckA ((⟨#[73,75]⟩:ByteArray)++v_8))/256),IntKind.u8.wrap (ckA ((⟨#[73,75]⟩:ByteArray)++v_8))]))).size:Int)≤12500)∧(True) from ⟨(by exact ⟨_,by rw [←htx];exact hpk,rfl⟩),(by (rw [ByteArray.size_append] at hcz⊢;simp only [ByteArray.size_append,Zch,List.length_cons,List.length_nil];omega)),trivial⟩) (trivial) (Sv (((⟨#[73,75]⟩:ByteArray)++v_8)++(Zkj ([IntKind.u8.wrap ((ckA ((⟨#[73,75]⟩:ByteArray)++v_8))/256),IntKind.u8.wrap (ckA ((⟨#[73,75]⟩:ByteArray)++v_8))])))) (by kernel_rfl) (.inl rfl) (fun _=>rfl) (fun _=>trivial)
  obtain ⟨v,⟨hh0,hh1,_⟩,hc⟩:=hh
  exact ⟨v,hh0,hh1,hc⟩
theorem Yhh {u v:Int} (hu:0≤u∧u≤255) (hv:0≤v∧v≤255) (h:∀i,i<8→Yab u i=Yab v i):u=v:=by
 have h0:=h 0 om
 have h1:=h 1 om
 have h2:=h 2 om
 have h3:=h 3 om
 have h4:=h 4 om
 have h5:=h 5 om
 have h6:=h 6 om
 have h7:=h 7 om
 unfold Yab at h0 h1 h2 h3 h4 h5 h6 h7
 simp at h0 h1 h2 h3 h4 h5 h6 h7
 omega
theorem pk_uniq {b p q:ByteArray} (hp:pkS_ b p) (hq:pkS_ b q):p=q:=by
 have e:p.size=q.size:=hp.1.trans hq.1.symm
 refine Zvg e fun j hj=>Yhh (Zpq p j) (Zpq q j) fun i hi=> ?_
 rw [hp.2 j om i hi,hq.2 j hj i hi]
theorem enc_fun {x:Ink} {a b:ByteArray} (ha:Zwi x a) (hb:Zwi x b):a=b:=by
 obtain ⟨p,hp,rfl⟩:=ha
 obtain ⟨q,hq,rfl⟩:=hb
 rw [pk_uniq hp hq]
theorem Zmj (p:ByteArray):(Yac p).size=p.size+4:=by
 unfold Yac
 rw [ByteArray.size_append,ByteArray.size_append,Zch]
 show 2+p.size+2=_
 omega
theorem Ztn (p:ByteArray):(Yac p).extract 0 (p.size+2)=hdI++p:=by
 have e:(hdI++p).size=p.size+2:=by rw [ByteArray.size_append];show 2+_=_;omega
 rw [←e]
 refine pre_eq (by rw [Zmj,e];omega) fun j hj=> ?_
 unfold Yac
 rw [Zfl hj]
theorem Zyy (p:ByteArray):(hdI++p).extract 2 (hdI++p).size=p:=by
 have e:(hdI++p).size=p.size+2:=by rw [ByteArray.size_append];show 2+_=_;omega
 refine Zvg (by rw [ByteArray.size_extract,e];omega) fun j hj=> ?_
 rw [Zqw (by rw [e];omega),Zep (by show 2≤_;omega)]
 congr 1
 show 2+j-2=j
 omega
theorem enc_inj {p q:ByteArray} (h:Yac p=Yac q):p=q:=by
 have e:p.size=q.size:=by have:=congrArg ByteArray.size h;rw [Zmj,Zmj] at this;omega
 rw [←Zyy p,←Zyy q,←Ztn p,←Ztn q,h,e]
theorem enc_pre (p:ByteArray):preB (Yac p) hdI=true:=preB_app.2 ⟨p++Zkj [IntKind.u8.wrap (ckA (hdI++p)/256),IntKind.u8.wrap (ckA (hdI++p))],by unfold Yac;rw [ByteArray.append_assoc]⟩
theorem enc_sum (p:ByteArray):bAt (Yac p) (p.size+2)*256+bAt (Yac p) (p.size+3)=ckA (hdI++p):=by
 have e:(hdI++p).size=p.size+2:=by rw [ByteArray.size_append];show 2+_=_;omega
 have b:=Yhg (hdI++p) (hdI++p).size
 have b2:0≤ckA (hdI++p)∧ckA (hdI++p)<65521:=b
 have u1:=u8_bd (ckA (hdI++p)/256)
 have u2:=u8_bd (ckA (hdI++p))
 have e1:bAt (Yac p) (p.size+2)=IntKind.u8.wrap (ckA (hdI++p)/256):=by
  unfold Yac
  rw [Zep om,e,Nat.sub_self]
  exact Znt (xs:=[IntKind.u8.wrap (ckA (hdI++p)/256),IntKind.u8.wrap (ckA (hdI++p))]) (i:=0) (Nat.zero_lt_succ _) u1
 have e2:bAt (Yac p) (p.size+3)=IntKind.u8.wrap (ckA (hdI++p)):=by
  unfold Yac
  rw [Zep om,e,show p.size+3-(p.size+2)=1 from by omega]
  exact Znt (xs:=[IntKind.u8.wrap (ckA (hdI++p)/256),IntKind.u8.wrap (ckA (hdI++p))]) (i:=1) (Nat.lt_succ_self _) u2
 rw [e1,e2,u8_is om]
 have:IntKind.u8.wrap (ckA (hdI++p))=ckA (hdI++p) % 256:=u8_mod _
 omega
theorem Zpa {x:Ink} (hok:Zcs x=true) (h6:(x.Strokes.length:Int)≤6) {p:ByteArray} (hp:pkS_ (Zkb x.Strokes x.Strokes.length) p):sAt (Ztp p p.size) 0 (Zkb x.Strokes x.Strokes.length)∧Zfu (Ztp p p.size)=true∧1≤p.size∧p.size≤8000:=by
 have ob:=Ycl hok h6
 have u:=unp_pack ob hp
 have z:=Ziz (Znj hok) x.Strokes.length (Nat.le_refl _)
 have hz:=hp.1
 refine ⟨⟨by rw [u.1];omega,fun j hj=>by rw [Nat.zero_add];exact u.2 j hj⟩,Zfj.2 ⟨by rw [u.1];omega,fun j hj=> ?_⟩,by omega,by omega⟩
 rw [Zid] at hj
 have w:=Yad (s:=p) (k:=p.size) (j:=j/8) (i:=j % 8) om om
 rw [show 8*(j/8)+j % 8=j from by omega] at w
 rw [w]
 have v:Yab (bAt p (j/8)) (j % 8)=0∨Yab (bAt p (j/8)) (j % 8)=1:=by
  rw [hp.2 (j/8) om (j % 8) om]
  split
  ·exact .inr rfl
  ·exact .inl rfl
 omega
theorem enc_uniq {x y:Ink} {s:ByteArray} (hx:Zcs x=true) (hx6:(x.Strokes.length:Int)≤6) (hy:Zcs y=true) (hy6:(y.Strokes.length:Int)≤6) (ex:Zwi x s) (ey:Zwi y s):x=y:=by
 obtain ⟨p,hp,rfl⟩:=ex
 obtain ⟨q,hq,e⟩:=ey
 have:=enc_inj e
 subst this
 exact ink_uniq (Zpa hx hx6 hp).1 (Zpa hy hy6 hq).1 hx hy
theorem col_at0 {x:Stroke} {k:Nat} (h:k<x.Points.length):at_ (Zfd x 0) k=(at_ x.Points k).X∧at_ (Zfd x 1) k=(at_ x.Points k).Y∧at_ (Zfd x 2) k=(at_ x.Points k).T:=by
 have g:∀c,at_ (Zfd x c) k=(if c=0 then (at_ x.Points k).X else if c=1 then (at_ x.Points k).Y else (at_ x.Points k).T):=fun c=>by
  unfold Zfd;simp [at_,h]
 exact ⟨g 0,g 1,g 2⟩
theorem take_pt {x:Stroke} {k:Nat} (h:k<x.Points.length):x.Points.take k++[⟨at_ (Zfd x 0) k,at_ (Zfd x 1) k,at_ (Zfd x 2) k⟩]=x.Points.take (k+1):=by
 have g:=col_at0 h
 rw [g.1,g.2.1,g.2.2,List.take_succ_eq_append_getElem h,←Zea h]
theorem Zoi (ik:Ink) (hok:Zcs ik=true) (h6:(ik.Strokes.length:Int)≤6):∃(v:ByteArray) (c:Int),(Zwi ik v)∧((v.size:Int)≤12500)∧(c=0)∧Con Tryz.prog 14 [.agg [Zap false ik.Strokes]] true (.tup [Sv v,I c]):=by
 have hh:∃r:ByteArray×Int,((Zwi ik r.1)∧((r.1.size:Int)≤12500)∧(r.2=0)∧(True))∧Zaw Tryz.prog 14 [.agg [Zap false ik.Strokes]] (Zae []) true (.tup [Sv r.1,I r.2]) (Zae []):=by
  refine Zcv (Φ:=fun r:ByteArray×Int=>(Zwi ik r.1)∧((r.1.size:Int)≤12500)∧(r.2=0)∧(True)) [] (fun r=>[]) (fn:=Tryz.f14) (nt:=9) Tryz.func14 rfl rfl (args:=[.agg [Zap false ik.Strokes]]) rfl (Zbc (.inl ⟨rfl,by simp [Zai,Zaf,Zgv]⟩) Zcw) (res:=fun r=> .tup [Sv r.1,I r.2]) ?_
  refine xQ [(0,.new 1)] [1] [1] [] trivial (Zak ?_)
  refine xQ [(1,.call [(true,.any)] true (Bv true))] [1,6] [1] [Con Tryz.prog 39 [.agg [Zap false ik.Strokes]] true (Bv true)∧True] ⟨⟨(Zau hok (Zps ik)),trivial⟩,trivial⟩ (Zga (Zbd (Zab (Zak ?_))))
  obtain ⟨v_1,hx1_0,hx1_1,hc1⟩:=Zoh ik hok h6
  have hen:=hx1_0
  have hez:=hx1_1
  refine x_r [(1,.call [(true,.any)] true (Sv v_1))] [2,3] [] [Sv v_1,I 0] [] [_∧True] ⟨⟨hc1,trivial⟩,trivial⟩ (Zab (Zdd ?_))
  refine Zbw (v_1,0) (show (Zwi ik v_1)∧((v_1.size:Int)≤12500)∧(0=0)∧(True) from ⟨(by exact hen),(by exact hez),(by rfl),trivial⟩) (trivial) (.tup [Sv v_1,I 0]) (by kernel_rfl) (.inl rfl) (fun _=>rfl) (fun _=>(by simp [Zai,Zaf]))
 obtain ⟨⟨v,c⟩,⟨hh0,hh1,hh2,_⟩,hc⟩:=hh
 exact ⟨v,c,hh0,hh1,hh2,hc⟩
theorem Yae (s:ByteArray) (pre:ByteArray) (hz:s.size≤1000000∧pre.size≤1000000):Con Tryz.prog 91 [Sv s,Sv pre] true (Bv (preB s pre)):=by
  refine Zcm (fn:=Tryz.f91) (nt:=18) Tryz.func91 rfl rfl rfl rfl (by simp [Zaf,Zai]) fun B hB=> ?_
  refine aQ [] [0,1] [] [] hB trivial (Zah ?_)
  by_cases h1:(pre.size:Int)≤(s.size:Int)
  ·refine Zeo [(4,.dec true)] [4] [] [Bv (decide ((s.extract 0 (pre.size:Int).toNat)=pre))] [] [_,(0:Int)≤0∧(0:Int)≤(pre.size:Int)∧(pre.size:Int)≤(s.size:Int)] hB ⟨h1,⟨om,om,om⟩,trivial⟩ (Zac (Zan ?_))
   refine Zao hB (Bv (decide ((s.extract 0 (pre.size:Int).toNat)=pre))) (by kernel_rfl) (.inl (by refine congrArg Bv ?_;unfold preB;first|exact decide_eq_decide.2 ⟨fun q=>⟨by omega,q⟩,fun q=>q.2⟩|(symm;exact decide_eq_false (fun q=>by have:=q.1;omega))|(symm;exact decide_eq_true (by simp_all;omega))|(symm;exact decide_eq_false (by simp_all))|(symm;exact decide_eq_false om)|(simp [*];done)|(simp_all;done))) rfl (fun _=>trivial)
  refine Zeo [(4,.dec false)] [4] [] [Bv false] [] [_] hB ⟨h1,trivial⟩ (Zac (Zan ?_))
  refine Zao hB (Bv false) (by kernel_rfl) (.inl (by refine congrArg Bv ?_;unfold preB;first|exact decide_eq_decide.2 ⟨fun q=>⟨by omega,q⟩,fun q=>q.2⟩|(symm;exact decide_eq_false (fun q=>by have:=q.1;omega))|(symm;exact decide_eq_true (by simp_all;omega))|(symm;exact decide_eq_false (by simp_all))|(symm;exact decide_eq_false om)|(simp [*];done)|(simp_all;done))) rfl (fun _=>trivial)
theorem Yez (s:ByteArray) (prefix_:ByteArray) (hz:s.size≤1000000∧prefix_.size≤1000000):Con Tryz.prog 41 [Sv s,Sv prefix_] true (Bv (preB s prefix_)):=by
 refine Zcm (fn:=Tryz.f41) (nt:=8) Tryz.func41 rfl rfl rfl rfl (by simp [Zaf,Zai]) fun B hB=> ?_
 refine aQ [] [0,1] [] [] hB trivial ?_
 refine aR [(2,.call [(true,.any),(true,.any)] true (Bv (preB s prefix_)))] [4] [] [Bv (preB s prefix_)] [] [_∧True] hB ⟨⟨(Yae s prefix_ om),trivial⟩,trivial⟩ (Zan ?_)
 refine Zao hB (Bv (preB s prefix_)) (by kernel_rfl) (.inl rfl) rfl (fun _=>trivial)
theorem Zto (s:ByteArray) (hs:s.size≤12500):∃(v:ByteArray) (c:Int),(v=Ztp s s.size)∧(c=0)∧Con Tryz.prog 43 [Sv s] true (.tup [Sv v,I c]):=by
  have hh:∃r:ByteArray×Int,((r.1=Ztp s s.size)∧(r.2=0)∧(True))∧Zaw Tryz.prog 43 [Sv s] (Zae []) true (.tup [Sv r.1,I r.2]) (Zae []):=by
    refine Zcv (Φ:=fun r:ByteArray×Int=>(r.1=Ztp s s.size)∧(r.2=0)∧(True)) [] (fun r=>[]) (fn:=Tryz.f43) (nt:=23) Tryz.func43 rfl rfl (args:=[Sv s]) rfl (Zbc (.inl ⟨rfl,trivial⟩) Zcw) (res:=fun r=> .tup [Sv r.1,I r.2]) ?_
    refine xQ [] [0] [] [] trivial (Zak ?_)
    refine xQ [(2,.dec false)] [0,9] [] [¬ (12500<(s.size:Int))] ⟨om,trivial⟩ (Zga (Zbd (Zab ?_)))
    refine xQ [(0,.newb 4 60008 5)] [0,4] [4,60008] [] trivial (Zak ?_)
    refine xR [] [4,11,12,13] [4,60008] [.ref 4 0,.sl true 1 s.size (Zha s),I (s.size:Int),I 0] [some (.bld 141 60008),some (.buf 5 false (⟨#[]⟩:ByteArray))] [s.size≤140737488355328] ⟨om,trivial⟩ (Zbb ?_)
    refine Zdc (X:=Int×ByteArray) (fun x=>mkS [(4,.ref 4 0),(11,.sl true 1 s.size (Zha s)),(12,I (s.size:Int)),(13,I x.1)] [(4,.bld 141 60008),(60008,.buf 5 false x.2)]) (fun x=>(0≤x.1∧x.1≤(s.size:Int))∧(x.2=Ztp s x.1.toNat)∧True) (fun x=>((s.size:Int)-x.1).toNat) (0,(⟨#[]⟩:ByteArray)) rfl (show (0≤(0:Int)∧(0:Int)≤(s.size:Int))∧((⟨#[]⟩:ByteArray)=Ztp s (0:Int).toNat)∧True from ⟨om,(by rfl),trivial⟩) (fun x hI=> ?_)
    obtain ⟨k,tx⟩:=x
    obtain ⟨hi0,htx,_⟩:(0≤k∧k≤(s.size:Int))∧(tx=Ztp s k.toNat)∧True:=hI
    show XW _ _ _ _ (mkS [(4,.ref 4 0),(11,.sl true 1 s.size (Zha s)),(12,I (s.size:Int)),(13,I k)] [(4,.bld 141 60008),(60008,.buf 5 false tx)]) _ _
    refine Zak ?_
    by_cases h1:k<(s.size:Int)
    ·have hi:k.toNat<s.size:=by omega
     have hbb:=Ycn s k.toNat
     have hus:=Zid s k.toNat
     have hns:=Zbx (bAt s k.toNat) 8
     rw [←htx] at hus
     refine x_q [(0,.dec true)] [4,11,12,13,14] [4,60008] [_] ⟨h1,trivial⟩ (Zab (Zak (Zeh (Zbd (Zab (Zak (Zbb ?_)))))))
     refine xQ [] [4,6,11,12,13] [4,60008] [(0:Int)≤k∧k<(s.size:Int)] ⟨⟨om,om⟩,trivial⟩ ?_
     refine x_q [(2,.call [(true,.any),(true,.any)] true (Sv (Zds (bAt s k.toNat) 8))),(3,.bw 4 60008 60009 (.string (Zds (bAt s k.toNat) 8)) false (Zds (bAt s k.toNat) 8))] [4,11,12,13] [4,60009] [inR .i64 (bAt s k.toNat),_∧True,([.ref 4 0,Sv (Zds (bAt s k.toNat) 8)]:List AV)=[.ref 4 0,Sv (Zds (bAt s k.toNat) 8)]∧Yew Tryz.prog 83 141 5 (.string (Zds (bAt s k.toNat) 8)) false tx false (Zds (bAt s k.toNat) 8)] ⟨(Zad om om),⟨(Zem (bAt s k.toNat) 8 om om),trivial⟩,⟨rfl,Zvb om⟩,trivial⟩ (Zba 1 (Zab ?_))
     refine x_r [] [4,11,12,13] [4,60009] [.ref 4 0,.sl true 1 s.size (Zha s),I (s.size:Int),I (k+1)] [some (.bld 141 60009),some (.buf 5 false (tx++(Zds (bAt s k.toNat) 8)))] [inR .i64 (k+1)] ⟨(Zad om om),trivial⟩ ?_
     refine Zcf [(60008,60009)] (T:=[(4,.ref 4 0),(11,.sl true 1 s.size (Zha s)),(12,I (s.size:Int)),(13,I (k+1))]) (O:=[(4,.bld 141 60008),(60008,.buf 5 false (tx++(Zds (bAt s k.toNat) 8)))]) rfl (⟨.inl rfl,.inl rfl,.inl rfl,.inl rfl,trivial⟩) (⟨.inl rfl,.inl rfl,trivial⟩) (Zay ((k+1),(tx++(Zds (bAt s k.toNat) 8))) rfl (show (0≤(k+1)∧(k+1)≤(s.size:Int))∧((tx++(Zds (bAt s k.toNat) 8))=Ztp s (k+1).toNat)∧True from ⟨om,(by rw [show (k+1).toNat=k.toNat+1 from by omega,Ztp,←htx]),trivial⟩) (by first|(show (((s.size:Int)-(k+1)).toNat:Nat)<((s.size:Int)-k).toNat;omega)|(dsimp only;omega)))
    have hie:k.toNat=s.size:=by omega
    rw [hie] at htx
    refine x_r [(0,.dec false)] [4,11,12,13,14] [4,60008] [.ref 4 0,.sl true 1 s.size (Zha s),I (s.size:Int),I k,Bv false] [some (.bld 141 60008),some (.buf 5 false tx)] [_] ⟨h1,trivial⟩ (Zab (Zak (Zbt rfl (Zcp (Zas ?_)))))
    refine Zax ?_
    refine Zat (Zab ?_)
    refine xR [(0,.bs 4 60008)] [2,3] [] [Sv tx,I 0] [] [([.ref 4 0]:List AV)=[.ref 4 0]∧BsOK Tryz.prog 90 141 5] ⟨⟨rfl,bs_ok⟩,trivial⟩ (Zdd ?_)
    refine Zbw (tx,0) (show (tx=Ztp s s.size)∧(0=0)∧(True) from ⟨(by first|exact htx|rfl),(by first|exact htx|rfl),trivial⟩) (trivial) (.tup [Sv tx,I 0]) (by kernel_rfl) (.inl rfl) (fun _=>rfl) (fun _=>(by simp [Zai,Zaf]))
  obtain ⟨⟨v,c⟩,⟨hh0,hh1,_⟩,hc⟩:=hh
  exact ⟨v,c,hh0,hh1,hc⟩
theorem Zev (bits:ByteArray) (width:Int) (hb:∀j,j<width.toNat→bAt bits j=48∨bAt bits j=49) (hw:0≤width∧width≤40∧width≤(bits.size:Int)) (ok:bits.size≤9223372036854775807):Con Tryz.prog 92 [Sv bits,I width] true (I (rdN bits width.toNat)):=by
  refine Zcm (fn:=Tryz.f92) (nt:=21) Tryz.func92 rfl rfl rfl rfl (by simp [Zaf,Zai]) fun B hB=> ?_
  refine aQ [] [0,1] [] [] hB trivial ?_
  refine aQ [] [0,1,5] [] [] hB trivial (Zah ?_)
  refine aR [] [0,1,5,6] [] [Sv bits,I width,I 0,I 0] [] [] hB trivial (Zbg ?_)
  refine Zdm (fun gn gσ=>∃(n:Int) (k:Int),gn=(width-k).toNat∧(0≤k∧k≤width)∧(n=rdN bits k.toNat)∧(0≤n∧n<((2^k.toNat:Nat):Int))∧gσ=mkS [(0,Sv bits),(1,I width),(5,I n),(6,I k)] []) ((width-0).toNat) ⟨0,0,rfl,om,(by rw [show ((0:Int)).toNat=0 from rfl,rdN]),(by simp),rfl⟩ (fun gn gσ hI=> ?_)
  obtain ⟨n,k,rfl,hi0,hn1,hn2,rfl⟩:=hI
  refine Zah (Zah ?_)
  by_cases h1:k<width
  ·have hbk:=hb k.toNat om
   have he:(k+1).toNat=k.toNat+1:=by omega
   have hp40:2^k.toNat≤2^40:=Nat.pow_le_pow_right (by decide) om
   have hp41:((2^k.toNat:Nat):Int)≤1099511627776:=Int.ofNat_le.2 hp40
   refine Zbn [(2,.dec true)] [0,1,5,6,9] [] [_] hB ⟨h1,trivial⟩ (Zac (Zbr (Zar (Zac (Zah (Zbg ?_))))))
   refine Zbn [] [0,1,5,6] [] [inR .i64 (2*n),(0:Int)≤k∧k<(bits.size:Int),inR .u8 ((bAt bits k.toNat)-48),inR .i64 ((bAt bits k.toNat)-48),inR .i64 ((2*n)+((bAt bits k.toNat)-48))] hB ⟨(Zad om om),⟨om,om⟩,(inR_u8 om om),(Zad om om),(Zad om om),trivial⟩ (Zbq 1 (Zac ?_))
   refine Zeo [] [0,1,5,6] [] [Sv bits,I width,I ((2*n)+((bAt bits k.toNat)-48)),I (k+1)] [] [inR .i64 (k+1)] hB ⟨(Zad om om),trivial⟩ ?_
   exact Zbs _ om ⟨((2*n)+((bAt bits k.toNat)-48)),(k+1),rfl,om,(by rw [he,rdN,←hn1]),(by rw [he,Nat.pow_succ];omega),rfl⟩
  have hie:k.toNat=width.toNat:=by omega
  refine Zbn [(2,.dec false)] [0,1,5,6,9] [] [_] hB ⟨h1,trivial⟩ (Zac (Zbo (Zcy (Zam (Zam (Zbi (Zac ?_)))))))
  refine aR [] [4] [] [I n] [] [] hB trivial (Zan ?_)
  refine Zao hB (I n) (by kernel_rfl) (.inl (by rw [hn1,hie])) rfl (fun _=>trivial)
theorem Ztq (rd:reader) (width:Int) (hok:Zfu rd.bits=true) (hp:0≤rd.atx∧rd.atx≤(rd.bits.size:Int)) (hw:0≤width∧width≤40∧rd.atx+width≤(rd.bits.size:Int)):∃(v:Int) (rd':reader),(v=rdN (rd.bits.extract rd.atx.toNat rd.bits.size) width.toNat)∧(rd'.bits=rd.bits)∧(rd'.atx=rd.atx+width)∧Zaw Tryz.prog 44 [.ref 7003 0,I width] (Zae [(7003,Zaq rd)]) true (I v) (Zae [(7003,Zaq rd')]):=by
 have hsz:=(Zfj.1 hok).1
 have hbx:=@Zjn rd.bits hok
 have hh:∃r:Int×reader,((r.1=rdN (rd.bits.extract rd.atx.toNat rd.bits.size) width.toNat)∧(r.2.bits=rd.bits)∧(r.2.atx=rd.atx+width)∧(True))∧Zaw Tryz.prog 44 [.ref 7003 0,I width] (Zae [(7003,Zaq rd)]) true (I r.1) (Zae [(7003,Zaq r.2)]):=by
  refine Zcv (Φ:=fun r:Int×reader=>(r.1=rdN (rd.bits.extract rd.atx.toNat rd.bits.size) width.toNat)∧(r.2.bits=rd.bits)∧(r.2.atx=rd.atx+width)∧(True)) [(7003,Zaq rd)] (fun r=>[(7003,Zaq r.2)]) (fn:=Tryz.f44) (nt:=47) Tryz.func44 rfl rfl (args:=[.ref 7003 0,I width]) rfl (Zbc (.inr trivial) (Zbc (.inl ⟨rfl,trivial⟩) Zcw)) (res:=fun r=>I r.1) ?_
  refine xQ [] [0,1] [7003] [] trivial (Zak ?_)
  refine xQ [(16,.dec false)] [0,1,23] [7003] [inR .i64 ((rd.bits.size:Int)-rd.atx),¬ (((rd.bits.size:Int)-rd.atx)<width)] ⟨(Zad om om),om,trivial⟩ (Zga (Zbd (Zab ?_)))
  refine xQ [(10,.call [(true,.any),(true,.any)] true (I (rdN (rd.bits.extract rd.atx.toNat (rd.bits.size:Int).toNat) width.toNat)))] [0,1,5] [7003] [(0:Int)≤rd.atx∧rd.atx≤(rd.bits.size:Int)∧(rd.bits.size:Int)≤(rd.bits.size:Int),_∧True] ⟨⟨om,om,om⟩,⟨(Zev (rd.bits.extract rd.atx.toNat (rd.bits.size:Int).toNat) width (hbx om) (by rw [Zen];omega) (by rw [Zen];omega)),trivial⟩,trivial⟩ ?_
  refine xQ [] [5] [7003] [inR .i64 (rd.atx+width)] ⟨(Zad om om),trivial⟩ ?_
  refine xR [] [4] [7003] [I (rdN (rd.bits.extract rd.atx.toNat (rd.bits.size:Int).toNat) width.toNat)] [some (.box [Sv rd.bits,I (rd.atx+width),Bv false])] [] trivial (Zdd ?_)
  refine Zbw ((rdN (rd.bits.extract rd.atx.toNat (rd.bits.size:Int).toNat) width.toNat),(reader.mk rd.bits (rd.atx+width) false)) (show ((rdN (rd.bits.extract rd.atx.toNat (rd.bits.size:Int).toNat) width.toNat)=rdN (rd.bits.extract rd.atx.toNat rd.bits.size) width.toNat)∧((reader.mk rd.bits (rd.atx+width) false).bits=rd.bits)∧((reader.mk rd.bits (rd.atx+width) false).atx=rd.atx+width)∧(True) from ⟨(by first|rfl|(simp;done)),(by rfl),(by rfl),trivial⟩) (⟨.inl rfl,trivial⟩) (I (rdN (rd.bits.extract rd.atx.toNat (rd.bits.size:Int).toNat) width.toNat)) (by kernel_rfl) (.inl rfl) (fun _=>rfl) (fun _=>trivial)
 obtain ⟨⟨v,rd'⟩,⟨hh0,hh1,hh2,_⟩,hc⟩:=hh
 exact ⟨v,rd',hh0,hh1,hh2,hc⟩
theorem Zew (u:Int) (hu:0≤u∧u≤4294967296000):Con Tryz.prog 147 [I u] true (I (Zbp u)):=by
  have htb:=Yhi (-(u+1)) 2
  refine Zcm (fn:=Tryz.f147) (nt:=12) Tryz.func147 rfl rfl rfl rfl (by simp [Zaf,Zai]) fun B hB=> ?_
  refine aQ [] [0] [] [] hB trivial (Zah (Zah ?_))
  by_cases h1:(u % 2)=1
  ·refine Zbn [(1,.nn),(2,.dec true)] [0,5] [] [(0:Int)≤u∧(0:Int)<2,_] hB ⟨⟨om,om⟩,h1,trivial⟩ (Zac (Zbr ?_))
   refine aR [] [2] [] [I (Int.tdiv (-(u+1)) 2)] [] [inR .i64 (u+1),inR .i64 (-(u+1)),(2:Int)≠0∧inR .i64 (Int.tdiv (-(u+1)) 2)] hB ⟨(Zad om om),(Zad om om),⟨by omega,(Zad om om)⟩,trivial⟩ (Zan (Zaj ?_))
   refine Zao hB (I (Int.tdiv (-(u+1)) 2)) (by kernel_rfl) (.inl (by simp [Zbp, *])) rfl (fun _=>trivial)
  refine Zbn [(1,.nn),(2,.dec false)] [0,5] [] [(0:Int)≤u∧(0:Int)<2,_] hB ⟨⟨om,om⟩,h1,trivial⟩ (Zac (Zbo (Zar (Zac ?_))))
  refine aR [(1,.nn)] [2] [] [I (u/2)] [] [(0:Int)≤u∧(0:Int)<2∧inR .i64 u] hB ⟨⟨om,om,(Zad om om)⟩,trivial⟩ (Zan ?_)
  refine Zao hB (I (u/2)) (by kernel_rfl) (.inl (by simp [Zbp, *])) rfl (fun _=>trivial)
theorem Zdv (n:Int):Con Tryz.prog 148 [I n] true (Bv (Zqx n)):=by
 refine Zcm (fn:=Tryz.f148) (nt:=5) Tryz.func148 rfl rfl rfl rfl (by simp [Zaf,Zai]) fun B hB=> ?_
 refine aQ [] [0] [] [] hB trivial ?_
 refine aR [(1,.call [(true,.any),(true,.any),(true,.any)] true (Bv (inB n (-1000000000) 1000000000)))] [2] [] [Bv (inB n (-1000000000) 1000000000)] [] [_∧True] hB ⟨⟨(Zee n (-1000000000) 1000000000),trivial⟩,trivial⟩ (Zan ?_)
 refine Zao hB (Bv (inB n (-1000000000) 1000000000)) (by kernel_rfl) (.inl (by refine congrArg Bv ?_;simp [Zqx,inB])) rfl (fun _=>trivial)
set_option maxHeartbeats 2000000 in
theorem Yaf (bits:ByteArray) (p:Int) (k:Int) (ok:Zfu bits=true) (hp:0≤p∧p≤(bits.size:Int)) (hk:0≤k∧k≤12):Con Tryz.prog 121 [Sv bits,I p,I k] true (.tup [I ((Zeb bits p k).1),I ((Zeb bits p k).2.1),I ((Zeb bits p k).2.2)]):=by
  have hsz:=(Zfj.1 ok).1
  refine Zcm (fn:=Tryz.f121) (nt:=78) Tryz.func121 rfl rfl rfl rfl (by simp [Zaf,Zai]) fun B hB=> ?_
  refine aQ [] [0,1,2] [] [] hB trivial ?_
  refine aQ [] [0,1,2,9] [] [] hB trivial ?_
  refine aR [] [0,1,2,9,10] [] [Sv bits,I p,I k,I (bits.size:Int),I 0] [] [] hB trivial (Zah (Zbg ?_))
  refine Zdm (fun gn gσ=>∃(p_:Int) (ones:Int),gn=((20:Int)-ones).toNat∧(0≤ones∧ones≤20)∧(p_=p+ones)∧(p_≤(bits.size:Int))∧(Zfp bits p.toNat 20=(ones:Int).toNat+Zfp bits p_.toNat (20-(ones:Int).toNat))∧gσ=mkS [(0,Sv bits),(1,I p_),(2,I k),(9,I (bits.size:Int)),(10,I ones)] []) (((20:Int)-0).toNat) ⟨p,0,rfl,om,om,om,(by simp),rfl⟩ (fun gn gσ hI=> ?_)
  obtain ⟨p_,ones,rfl,hon,hp_,hps,ho0,rfl⟩:=hI
  refine Zah (Zah ?_)
  by_cases h1:p_<(bits.size:Int)
  ·have hi:p_.toNat<bits.size:=by omega
   by_cases h2:(bAt bits p_.toNat)=49
   ·by_cases h3:ones<20
    ·have hst:=Yed (s:=bits) (p:=p_.toNat) (f:=20-ones.toNat-1) hi h2
     rw [show 20-ones.toNat-1+1=20-ones.toNat from by omega] at hst
     refine Zbn [(2,.dec true),(7,.dec true),(11,.dec true)] [0,1,2,9,10,27] [] [_,(0:Int)≤p_∧p_<(bits.size:Int),_,_] hB ⟨h1,⟨om,om⟩,h2,h3,trivial⟩ (Zac (Zbr (Zar (Zac (Zbg ?_)))))
     refine aQ [] [0,1,2,9,10] [] [inR .i64 (p_+1)] hB ⟨(Zad om om),trivial⟩ ?_
     refine Zeo [] [0,1,2,9,10] [] [Sv bits,I (p_+1),I k,I (bits.size:Int),I (ones+1)] [] [inR .i64 (ones+1)] hB ⟨(Zad om om),trivial⟩ (Zbq 1 ?_)
     exact Zbs _ om ⟨(p_+1),(ones+1),rfl,om,om,om,(by rw [ho0,hst,show (p_+1).toNat=p_.toNat+1 from by omega,show 20-(ones+1).toNat=20-ones.toNat-1 from by omega];omega),rfl⟩
    have ho:Zfp bits p.toNat 20=ones.toNat:=by rw [ho0,show 20-ones.toNat=0 from by omega,Zfp];rfl
    refine Zbn [(2,.dec true),(7,.dec true),(11,.dec false)] [0,1,2,9,10,27] [] [_,(0:Int)≤p_∧p_<(bits.size:Int),_,_] hB ⟨h1,⟨om,om⟩,h2,h3,trivial⟩ (Zac (Zbo (Zcy (Zam (Zam (Zbi (Zac (Zah (Zah ?_)))))))))
    by_cases h4:ones=20
    ·subst hp_
     subst h4
     have ho2:Zfp bits p.toNat 20=20:=ho
     have hbx:=@Zjn bits ok
     have hrb:(bits.size:Int)-(p+20)<32∨(0≤rdN (bits.extract (p+20).toNat (bits.size:Int).toNat) 32∧rdN (bits.extract (p+20).toNat (bits.size:Int).toNat) 32<4294967296):=by by_cases hq:(bits.size:Int)-(p+20)<32;(exact .inl hq);(exact .inr (Zqy (hbx om)))
     have hqb:=fun hh=>Zqt (n:=rdN (bits.extract (p+20).toNat (bits.size:Int).toNat) 32) (r:=((2^k.toNat:Nat):Int)) hh (p2 _)
     have hub:=@Zqz (rdN (bits.extract (p+20).toNat (bits.size:Int).toNat) 32)
     refine Zbn [(1,.dec true)] [0,1,2,9,10,33] [] [(20:Int)=20] hB ⟨(by decide),trivial⟩ (Zac (Zbr (Zah (Zah ?_))))
     by_cases h5:((bits.size:Int)-(p+20))<32
     ·refine Zbn [(3,.dec true)] [0,1,2,37] [] [inR .i64 ((bits.size:Int)-(p+20)),_] hB ⟨(Zad om om),h5,trivial⟩ (Zac (Zbr ?_))
      refine aR [] [6,7,8] [] [I 0,I 0,I 9] [] [] hB trivial (Zan ?_)
      refine Zaj (Zaj ?_)
      refine Zao hB (.tup [I 0,I 0,I 9]) (by kernel_rfl) (.inl (by first|(rw [Zwk (o:=ones) ho hon (by assumption) (by assumption)];done)|(rw [Zwl (o:=ones) ho hon (by assumption) (by assumption)];rfl)|(rw [Zgk ho2 (by assumption)];done)|(rw [Zgl ho2 (by assumption) (by assumption) (by assumption)];rfl)|(rw [Zgm ho2 (by assumption) (by simp_all)];done))) rfl (fun _=>(by simp [Zai,Zaf]))
     refine Zbn [(3,.dec false)] [0,1,2,37] [] [inR .i64 ((bits.size:Int)-(p+20)),_] hB ⟨(Zad om om),h5,trivial⟩ (Zac (Zbo (Zar (Zac ?_))))
     refine aQ [(3,.call [(true,.any),(true,.any)] true (I (rdN (bits.extract (p+20).toNat (bits.size:Int).toNat) 32)))] [1,2,11] [] [(0:Int)≤(p+20)∧(p+20)≤(bits.size:Int)∧(bits.size:Int)≤(bits.size:Int),_∧True] hB ⟨⟨om,om,om⟩,⟨(Zev (bits.extract (p+20).toNat (bits.size:Int).toNat) 32 (hbx om) (by rw [Zen];omega) (by rw [Zen];omega)),trivial⟩,trivial⟩ (Zah ?_)
     refine aQ [(1,.call [(true,.any)] true (I (Zbp (rdN (bits.extract (p+20).toNat (bits.size:Int).toNat) 32))))] [1,2,11,12] [] [_∧True] hB ⟨⟨(Zew (rdN (bits.extract (p+20).toNat (bits.size:Int).toNat) 32) om),trivial⟩,trivial⟩ (Zah ?_)
     rcases Bool.eq_false_or_eq_true (Zqx (Zbp (rdN (bits.extract (p+20).toNat (bits.size:Int).toNat) 32))) with h6|h6
     ·by_cases h7:((rdN (bits.extract (p+20).toNat (bits.size:Int).toNat) 32)/((2^k.toNat:Nat):Int))<20
      ·refine Zbn [(1,.call [(true,.any)] true (Bv true)),(7,.dec true)] [1,11,52] [] [Con Tryz.prog 148 [I (Zbp (rdN (bits.extract (p+20).toNat (bits.size:Int).toNat) 32))] true (Bv true)∧True,(0:Int)≤k∧k≤((IntKind.bits .i64:Nat):Int),_] hB ⟨⟨(Zau h6 (Zdv (Zbp (rdN (bits.extract (p+20).toNat (bits.size:Int).toNat) 32)))),trivial⟩,⟨om,(show k≤(64:Int) from by omega)⟩,h7,trivial⟩ (Zac (Zbr ?_))
       refine aR [] [6,7,8] [] [I 0,I 0,I 8] [] [] hB trivial (Zan ?_)
       refine Zaj (Zaj ?_)
       refine Zao hB (.tup [I 0,I 0,I 8]) (by kernel_rfl) (.inl (by first|(rw [Zwk (o:=ones) ho hon (by assumption) (by assumption)];done)|(rw [Zwl (o:=ones) ho hon (by assumption) (by assumption)];rfl)|(rw [Zgk ho2 (by assumption)];done)|(rw [Zgl ho2 (by assumption) (by assumption) (by assumption)];rfl)|(rw [Zgm ho2 (by assumption) (by simp_all)];done))) rfl (fun _=>(by simp [Zai,Zaf]))
      refine Zbn [(1,.call [(true,.any)] true (Bv true)),(7,.dec false)] [1,11,52] [] [Con Tryz.prog 148 [I (Zbp (rdN (bits.extract (p+20).toNat (bits.size:Int).toNat) 32))] true (Bv true)∧True,(0:Int)≤k∧k≤((IntKind.bits .i64:Nat):Int),_] hB ⟨⟨(Zau h6 (Zdv (Zbp (rdN (bits.extract (p+20).toNat (bits.size:Int).toNat) 32)))),trivial⟩,⟨om,(show k≤(64:Int) from by omega)⟩,h7,trivial⟩ (Zac (Zbo (Zar (Zac ?_))))
      refine aR [(1,.call [(true,.any)] true (I (Zbp (rdN (bits.extract (p+20).toNat (bits.size:Int).toNat) 32))))] [6,7,8] [] [I (Zbp (rdN (bits.extract (p+20).toNat (bits.size:Int).toNat) 32)),I ((p+20)+32),I 0] [] [_∧True,inR .i64 ((p+20)+32)] hB ⟨⟨(Zew (rdN (bits.extract (p+20).toNat (bits.size:Int).toNat) 32) om),trivial⟩,(Zad om om),trivial⟩ (Zan (Zaj ?_))
      refine Zao hB (.tup [I (Zbp (rdN (bits.extract (p+20).toNat (bits.size:Int).toNat) 32)),I ((p+20)+32),I 0]) (by kernel_rfl) (.inl (by first|(rw [Zwk (o:=ones) ho hon (by assumption) (by assumption)];done)|(rw [Zwl (o:=ones) ho hon (by assumption) (by assumption)];rfl)|(rw [Zgk ho2 (by assumption)];done)|(rw [Zgl ho2 (by assumption) (by assumption) (by assumption)];rfl)|(rw [Zgm ho2 (by assumption) (by simp_all)];done))) rfl (fun _=>(by simp [Zai,Zaf]))
     refine Zbn [(1,.call [(true,.any)] true (Bv false))] [1,11,52] [] [Con Tryz.prog 148 [I (Zbp (rdN (bits.extract (p+20).toNat (bits.size:Int).toNat) 32))] true (Bv false)∧True] hB ⟨⟨(Zau h6 (Zdv (Zbp (rdN (bits.extract (p+20).toNat (bits.size:Int).toNat) 32)))),trivial⟩,trivial⟩ (Zac (Zbr ?_))
     refine aR [] [6,7,8] [] [I 0,I 0,I 8] [] [] hB trivial (Zan ?_)
     refine Zaj (Zaj ?_)
     refine Zao hB (.tup [I 0,I 0,I 8]) (by kernel_rfl) (.inl (by first|(rw [Zwk (o:=ones) ho hon (by assumption) (by assumption)];done)|(rw [Zwl (o:=ones) ho hon (by assumption) (by assumption)];rfl)|(rw [Zgk ho2 (by assumption)];done)|(rw [Zgl ho2 (by assumption) (by assumption) (by assumption)];rfl)|(rw [Zgm ho2 (by assumption) (by simp_all)];done))) rfl (fun _=>(by simp [Zai,Zaf]))
    subst hp_
    have hsh:=Zvh hon hk
    have hbx:=@Zjn bits ok
    have hrb:(bits.size:Int)-(p+ones)<1+k∨(0≤rdN (bits.extract (p+ones+1).toNat (bits.size:Int).toNat) k.toNat∧rdN (bits.extract (p+ones+1).toNat (bits.size:Int).toNat) k.toNat<((2^k.toNat:Nat):Int)):=by by_cases hq:(bits.size:Int)-(p+ones)<1+k;(exact .inl hq);(exact .inr (Zqy (hbx om)))
    have hp12:((2^k.toNat:Nat):Int)≤4096:=Int.ofNat_le.2 (Nat.pow_le_pow_right (by decide) (by omega:k.toNat≤12))
    refine Zbn [(1,.dec false)] [0,1,2,9,10,33] [] [_] hB ⟨h4,trivial⟩ (Zac (Zbo (Zar (Zac (Zah (Zah ?_))))))
    by_cases h8:((bits.size:Int)-(p+ones))<(1+k)
    ·refine Zbn [(5,.dec true)] [0,1,2,10,62] [] [inR .i64 ((bits.size:Int)-(p+ones)),inR .i64 (1+k),_] hB ⟨(Zad om om),(Zad om om),h8,trivial⟩ (Zac (Zbr ?_))
     refine aR [] [6,7,8] [] [I 0,I 0,I 9] [] [] hB trivial (Zan (Zaj ?_))
     refine Zao hB (.tup [I 0,I 0,I 9]) (by kernel_rfl) (.inl (by first|(rw [Zwk (o:=ones) ho hon (by assumption) (by assumption)];done)|(rw [Zwl (o:=ones) ho hon (by assumption) (by assumption)];rfl)|(rw [Zgk ho2 (by assumption)];done)|(rw [Zgl ho2 (by assumption) (by assumption) (by assumption)];rfl)|(rw [Zgm ho2 (by assumption) (by simp_all)];done))) rfl (fun _=>(by simp [Zai,Zaf]))
    refine Zbn [(5,.dec false)] [0,1,2,10,62] [] [inR .i64 ((bits.size:Int)-(p+ones)),inR .i64 (1+k),_] hB ⟨(Zad om om),(Zad om om),h8,trivial⟩ (Zac (Zbo (Zar (Zac ?_))))
    refine aR [(8,.call [(true,.any),(true,.any)] true (I (rdN (bits.extract ((p+ones)+1).toNat (bits.size:Int).toNat) k.toNat))),(10,.call [(true,.any)] true (I (Zbp ((ones*((2^k.toNat:Nat):Int))+(rdN (bits.extract ((p+ones)+1).toNat (bits.size:Int).toNat) k.toNat)))))] [6,7,8] [] [I (Zbp ((ones*((2^k.toNat:Nat):Int))+(rdN (bits.extract ((p+ones)+1).toNat (bits.size:Int).toNat) k.toNat))),I (((p+ones)+1)+k),I 0] [] [(0:Int)≤k∧k≤((IntKind.bits .i64:Nat):Int)∧inR .i64 (ones*((2^k.toNat:Nat):Int)),inR .i64 ((p+ones)+1),(0:Int)≤((p+ones)+1)∧((p+ones)+1)≤(bits.size:Int)∧(bits.size:Int)≤(bits.size:Int),_∧True,inR .i64 ((ones*((2^k.toNat:Nat):Int))+(rdN (bits.extract ((p+ones)+1).toNat (bits.size:Int).toNat) k.toNat)),_∧True,inR .i64 ((p+ones)+1),inR .i64 (((p+ones)+1)+k)] hB ⟨⟨om,(show k≤(64:Int) from by omega),(Zad om om)⟩,(Zad om om),⟨om,om,om⟩,⟨(Zev (bits.extract ((p+ones)+1).toNat (bits.size:Int).toNat) k (hbx om) (by rw [Zen];omega) (by rw [Zen];omega)),trivial⟩,(Zad om om),⟨(Zew ((ones*((2^k.toNat:Nat):Int))+(rdN (bits.extract ((p+ones)+1).toNat (bits.size:Int).toNat) k.toNat)) om),trivial⟩,(Zad om om),(Zad om om),trivial⟩ (Zan ?_)
    refine Zao hB (.tup [I (Zbp ((ones*((2^k.toNat:Nat):Int))+(rdN (bits.extract ((p+ones)+1).toNat (bits.size:Int).toNat) k.toNat))),I (((p+ones)+1)+k),I 0]) (by kernel_rfl) (.inl (by first|(rw [Zwk (o:=ones) ho hon (by assumption) (by assumption)];done)|(rw [Zwl (o:=ones) ho hon (by assumption) (by assumption)];rfl)|(rw [Zgk ho2 (by assumption)];done)|(rw [Zgl ho2 (by assumption) (by assumption) (by assumption)];rfl)|(rw [Zgm ho2 (by assumption) (by simp_all)];done))) rfl (fun _=>(by simp [Zai,Zaf]))
   have ho:Zfp bits p.toNat 20=ones.toNat:=by rw [ho0,Ztd (fun hq=>h2 hq.2)];omega
   refine Zbn [(2,.dec true),(7,.dec false)] [0,1,2,9,10,27] [] [_,(0:Int)≤p_∧p_<(bits.size:Int),_] hB ⟨h1,⟨om,om⟩,h2,trivial⟩ (Zac (Zbo (Zcy (Zam (Zam (Zbi (Zac (Zah (Zah ?_)))))))))
   by_cases h9:ones=20
   ·subst hp_
    subst h9
    have ho2:Zfp bits p.toNat 20=20:=ho
    have hbx:=@Zjn bits ok
    have hrb:(bits.size:Int)-(p+20)<32∨(0≤rdN (bits.extract (p+20).toNat (bits.size:Int).toNat) 32∧rdN (bits.extract (p+20).toNat (bits.size:Int).toNat) 32<4294967296):=by by_cases hq:(bits.size:Int)-(p+20)<32;(exact .inl hq);(exact .inr (Zqy (hbx om)))
    have hqb:=fun hh=>Zqt (n:=rdN (bits.extract (p+20).toNat (bits.size:Int).toNat) 32) (r:=((2^k.toNat:Nat):Int)) hh (p2 _)
    have hub:=@Zqz (rdN (bits.extract (p+20).toNat (bits.size:Int).toNat) 32)
    refine Zbn [(1,.dec true)] [0,1,2,9,10,33] [] [(20:Int)=20] hB ⟨(by decide),trivial⟩ (Zac (Zbr (Zah (Zah ?_))))
    by_cases h10:((bits.size:Int)-(p+20))<32
    ·refine Zbn [(3,.dec true)] [0,1,2,37] [] [inR .i64 ((bits.size:Int)-(p+20)),_] hB ⟨(Zad om om),h10,trivial⟩ (Zac (Zbr ?_))
     refine aR [] [6,7,8] [] [I 0,I 0,I 9] [] [] hB trivial (Zan ?_)
     refine Zaj (Zaj ?_)
     refine Zao hB (.tup [I 0,I 0,I 9]) (by kernel_rfl) (.inl (by first|(rw [Zwk (o:=ones) ho hon (by assumption) (by assumption)];done)|(rw [Zwl (o:=ones) ho hon (by assumption) (by assumption)];rfl)|(rw [Zgk ho2 (by assumption)];done)|(rw [Zgl ho2 (by assumption) (by assumption) (by assumption)];rfl)|(rw [Zgm ho2 (by assumption) (by simp_all)];done))) rfl (fun _=>(by simp [Zai,Zaf]))
    refine Zbn [(3,.dec false)] [0,1,2,37] [] [inR .i64 ((bits.size:Int)-(p+20)),_] hB ⟨(Zad om om),h10,trivial⟩ (Zac (Zbo (Zar (Zac ?_))))
    refine aQ [(3,.call [(true,.any),(true,.any)] true (I (rdN (bits.extract (p+20).toNat (bits.size:Int).toNat) 32)))] [1,2,11] [] [(0:Int)≤(p+20)∧(p+20)≤(bits.size:Int)∧(bits.size:Int)≤(bits.size:Int),_∧True] hB ⟨⟨om,om,om⟩,⟨(Zev (bits.extract (p+20).toNat (bits.size:Int).toNat) 32 (hbx om) (by rw [Zen];omega) (by rw [Zen];omega)),trivial⟩,trivial⟩ (Zah ?_)
    refine aQ [(1,.call [(true,.any)] true (I (Zbp (rdN (bits.extract (p+20).toNat (bits.size:Int).toNat) 32))))] [1,2,11,12] [] [_∧True] hB ⟨⟨(Zew (rdN (bits.extract (p+20).toNat (bits.size:Int).toNat) 32) om),trivial⟩,trivial⟩ (Zah ?_)
    rcases Bool.eq_false_or_eq_true (Zqx (Zbp (rdN (bits.extract (p+20).toNat (bits.size:Int).toNat) 32))) with h11|h11
    ·by_cases h12:((rdN (bits.extract (p+20).toNat (bits.size:Int).toNat) 32)/((2^k.toNat:Nat):Int))<20
     ·refine Zbn [(1,.call [(true,.any)] true (Bv true)),(7,.dec true)] [1,11,52] [] [Con Tryz.prog 148 [I (Zbp (rdN (bits.extract (p+20).toNat (bits.size:Int).toNat) 32))] true (Bv true)∧True,(0:Int)≤k∧k≤((IntKind.bits .i64:Nat):Int),_] hB ⟨⟨(Zau h11 (Zdv (Zbp (rdN (bits.extract (p+20).toNat (bits.size:Int).toNat) 32)))),trivial⟩,⟨om,(show k≤(64:Int) from by omega)⟩,h12,trivial⟩ (Zac (Zbr ?_))
      refine aR [] [6,7,8] [] [I 0,I 0,I 8] [] [] hB trivial (Zan ?_)
      refine Zaj (Zaj ?_)
      refine Zao hB (.tup [I 0,I 0,I 8]) (by kernel_rfl) (.inl (by first|(rw [Zwk (o:=ones) ho hon (by assumption) (by assumption)];done)|(rw [Zwl (o:=ones) ho hon (by assumption) (by assumption)];rfl)|(rw [Zgk ho2 (by assumption)];done)|(rw [Zgl ho2 (by assumption) (by assumption) (by assumption)];rfl)|(rw [Zgm ho2 (by assumption) (by simp_all)];done))) rfl (fun _=>(by simp [Zai,Zaf]))
     refine Zbn [(1,.call [(true,.any)] true (Bv true)),(7,.dec false)] [1,11,52] [] [Con Tryz.prog 148 [I (Zbp (rdN (bits.extract (p+20).toNat (bits.size:Int).toNat) 32))] true (Bv true)∧True,(0:Int)≤k∧k≤((IntKind.bits .i64:Nat):Int),_] hB ⟨⟨(Zau h11 (Zdv (Zbp (rdN (bits.extract (p+20).toNat (bits.size:Int).toNat) 32)))),trivial⟩,⟨om,(show k≤(64:Int) from by omega)⟩,h12,trivial⟩ (Zac (Zbo (Zar (Zac ?_))))
     refine aR [(1,.call [(true,.any)] true (I (Zbp (rdN (bits.extract (p+20).toNat (bits.size:Int).toNat) 32))))] [6,7,8] [] [I (Zbp (rdN (bits.extract (p+20).toNat (bits.size:Int).toNat) 32)),I ((p+20)+32),I 0] [] [_∧True,inR .i64 ((p+20)+32)] hB ⟨⟨(Zew (rdN (bits.extract (p+20).toNat (bits.size:Int).toNat) 32) om),trivial⟩,(Zad om om),trivial⟩ (Zan (Zaj ?_))
     refine Zao hB (.tup [I (Zbp (rdN (bits.extract (p+20).toNat (bits.size:Int).toNat) 32)),I ((p+20)+32),I 0]) (by kernel_rfl) (.inl (by first|(rw [Zwk (o:=ones) ho hon (by assumption) (by assumption)];done)|(rw [Zwl (o:=ones) ho hon (by assumption) (by assumption)];rfl)|(rw [Zgk ho2 (by assumption)];done)|(rw [Zgl ho2 (by assumption) (by assumption) (by assumption)];rfl)|(rw [Zgm ho2 (by assumption) (by simp_all)];done))) rfl (fun _=>(by simp [Zai,Zaf]))
    refine Zbn [(1,.call [(true,.any)] true (Bv false))] [1,11,52] [] [Con Tryz.prog 148 [I (Zbp (rdN (bits.extract (p+20).toNat (bits.size:Int).toNat) 32))] true (Bv false)∧True] hB ⟨⟨(Zau h11 (Zdv (Zbp (rdN (bits.extract (p+20).toNat (bits.size:Int).toNat) 32)))),trivial⟩,trivial⟩ (Zac (Zbr ?_))
    refine aR [] [6,7,8] [] [I 0,I 0,I 8] [] [] hB trivial (Zan ?_)
    refine Zaj (Zaj ?_)
    refine Zao hB (.tup [I 0,I 0,I 8]) (by kernel_rfl) (.inl (by first|(rw [Zwk (o:=ones) ho hon (by assumption) (by assumption)];done)|(rw [Zwl (o:=ones) ho hon (by assumption) (by assumption)];rfl)|(rw [Zgk ho2 (by assumption)];done)|(rw [Zgl ho2 (by assumption) (by assumption) (by assumption)];rfl)|(rw [Zgm ho2 (by assumption) (by simp_all)];done))) rfl (fun _=>(by simp [Zai,Zaf]))
   subst hp_
   have hsh:=Zvh hon hk
   have hbx:=@Zjn bits ok
   have hrb:(bits.size:Int)-(p+ones)<1+k∨(0≤rdN (bits.extract (p+ones+1).toNat (bits.size:Int).toNat) k.toNat∧rdN (bits.extract (p+ones+1).toNat (bits.size:Int).toNat) k.toNat<((2^k.toNat:Nat):Int)):=by by_cases hq:(bits.size:Int)-(p+ones)<1+k;(exact .inl hq);(exact .inr (Zqy (hbx om)))
   have hp12:((2^k.toNat:Nat):Int)≤4096:=Int.ofNat_le.2 (Nat.pow_le_pow_right (by decide) (by omega:k.toNat≤12))
   refine Zbn [(1,.dec false)] [0,1,2,9,10,33] [] [_] hB ⟨h9,trivial⟩ (Zac (Zbo (Zar (Zac (Zah (Zah ?_))))))
   by_cases h13:((bits.size:Int)-(p+ones))<(1+k)
   ·refine Zbn [(5,.dec true)] [0,1,2,10,62] [] [inR .i64 ((bits.size:Int)-(p+ones)),inR .i64 (1+k),_] hB ⟨(Zad om om),(Zad om om),h13,trivial⟩ (Zac (Zbr ?_))
    refine aR [] [6,7,8] [] [I 0,I 0,I 9] [] [] hB trivial (Zan (Zaj ?_))
    refine Zao hB (.tup [I 0,I 0,I 9]) (by kernel_rfl) (.inl (by first|(rw [Zwk (o:=ones) ho hon (by assumption) (by assumption)];done)|(rw [Zwl (o:=ones) ho hon (by assumption) (by assumption)];rfl)|(rw [Zgk ho2 (by assumption)];done)|(rw [Zgl ho2 (by assumption) (by assumption) (by assumption)];rfl)|(rw [Zgm ho2 (by assumption) (by simp_all)];done))) rfl (fun _=>(by simp [Zai,Zaf]))
   refine Zbn [(5,.dec false)] [0,1,2,10,62] [] [inR .i64 ((bits.size:Int)-(p+ones)),inR .i64 (1+k),_] hB ⟨(Zad om om),(Zad om om),h13,trivial⟩ (Zac (Zbo (Zar (Zac ?_))))
   refine aR [(8,.call [(true,.any),(true,.any)] true (I (rdN (bits.extract ((p+ones)+1).toNat (bits.size:Int).toNat) k.toNat))),(10,.call [(true,.any)] true (I (Zbp ((ones*((2^k.toNat:Nat):Int))+(rdN (bits.extract ((p+ones)+1).toNat (bits.size:Int).toNat) k.toNat)))))] [6,7,8] [] [I (Zbp ((ones*((2^k.toNat:Nat):Int))+(rdN (bits.extract ((p+ones)+1).toNat (bits.size:Int).toNat) k.toNat))),I (((p+ones)+1)+k),I 0] [] [(0:Int)≤k∧k≤((IntKind.bits .i64:Nat):Int)∧inR .i64 (ones*((2^k.toNat:Nat):Int)),inR .i64 ((p+ones)+1),(0:Int)≤((p+ones)+1)∧((p+ones)+1)≤(bits.size:Int)∧(bits.size:Int)≤(bits.size:Int),_∧True,inR .i64 ((ones*((2^k.toNat:Nat):Int))+(rdN (bits.extract ((p+ones)+1).toNat (bits.size:Int).toNat) k.toNat)),_∧True,inR .i64 ((p+ones)+1),inR .i64 (((p+ones)+1)+k)] hB ⟨⟨om,(show k≤(64:Int) from by omega),(Zad om om)⟩,(Zad om om),⟨om,om,om⟩,⟨(Zev (bits.extract ((p+ones)+1).toNat (bits.size:Int).toNat) k (hbx om) (by rw [Zen];omega) (by rw [Zen];omega)),trivial⟩,(Zad om om),⟨(Zew ((ones*((2^k.toNat:Nat):Int))+(rdN (bits.extract ((p+ones)+1).toNat (bits.size:Int).toNat) k.toNat)) om),trivial⟩,(Zad om om),(Zad om om),trivial⟩ (Zan ?_)
   refine Zao hB (.tup [I (Zbp ((ones*((2^k.toNat:Nat):Int))+(rdN (bits.extract ((p+ones)+1).toNat (bits.size:Int).toNat) k.toNat))),I (((p+ones)+1)+k),I 0]) (by kernel_rfl) (.inl (by first|(rw [Zwk (o:=ones) ho hon (by assumption) (by assumption)];done)|(rw [Zwl (o:=ones) ho hon (by assumption) (by assumption)];rfl)|(rw [Zgk ho2 (by assumption)];done)|(rw [Zgl ho2 (by assumption) (by assumption) (by assumption)];rfl)|(rw [Zgm ho2 (by assumption) (by simp_all)];done))) rfl (fun _=>(by simp [Zai,Zaf]))
  have ho:Zfp bits p.toNat 20=ones.toNat:=by rw [ho0,Ztd om];omega
  refine Zbn [(2,.dec false)] [0,1,2,9,10,27] [] [_] hB ⟨h1,trivial⟩ (Zac (Zbo (Zcy (Zam (Zam (Zbi (Zac (Zah (Zah ?_)))))))))
  by_cases h14:ones=20
  ·subst hp_
   subst h14
   have ho2:Zfp bits p.toNat 20=20:=ho
   have hbx:=@Zjn bits ok
   have hrb:(bits.size:Int)-(p+20)<32∨(0≤rdN (bits.extract (p+20).toNat (bits.size:Int).toNat) 32∧rdN (bits.extract (p+20).toNat (bits.size:Int).toNat) 32<4294967296):=by by_cases hq:(bits.size:Int)-(p+20)<32;(exact .inl hq);(exact .inr (Zqy (hbx om)))
   have hqb:=fun hh=>Zqt (n:=rdN (bits.extract (p+20).toNat (bits.size:Int).toNat) 32) (r:=((2^k.toNat:Nat):Int)) hh (p2 _)
   have hub:=@Zqz (rdN (bits.extract (p+20).toNat (bits.size:Int).toNat) 32)
   refine Zbn [(1,.dec true)] [0,1,2,9,10,33] [] [(20:Int)=20] hB ⟨(by decide),trivial⟩ (Zac (Zbr (Zah (Zah ?_))))
   by_cases h15:((bits.size:Int)-(p+20))<32
   ·refine Zbn [(3,.dec true)] [0,1,2,37] [] [inR .i64 ((bits.size:Int)-(p+20)),_] hB ⟨(Zad om om),h15,trivial⟩ (Zac (Zbr ?_))
    refine aR [] [6,7,8] [] [I 0,I 0,I 9] [] [] hB trivial (Zan ?_)
    refine Zaj (Zaj ?_)
    refine Zao hB (.tup [I 0,I 0,I 9]) (by kernel_rfl) (.inl (by first|(rw [Zwk (o:=ones) ho hon (by assumption) (by assumption)];done)|(rw [Zwl (o:=ones) ho hon (by assumption) (by assumption)];rfl)|(rw [Zgk ho2 (by assumption)];done)|(rw [Zgl ho2 (by assumption) (by assumption) (by assumption)];rfl)|(rw [Zgm ho2 (by assumption) (by simp_all)];done))) rfl (fun _=>(by simp [Zai,Zaf]))
   refine Zbn [(3,.dec false)] [0,1,2,37] [] [inR .i64 ((bits.size:Int)-(p+20)),_] hB ⟨(Zad om om),h15,trivial⟩ (Zac (Zbo (Zar (Zac ?_))))
   refine aQ [(3,.call [(true,.any),(true,.any)] true (I (rdN (bits.extract (p+20).toNat (bits.size:Int).toNat) 32)))] [1,2,11] [] [(0:Int)≤(p+20)∧(p+20)≤(bits.size:Int)∧(bits.size:Int)≤(bits.size:Int),_∧True] hB ⟨⟨om,om,om⟩,⟨(Zev (bits.extract (p+20).toNat (bits.size:Int).toNat) 32 (hbx om) (by rw [Zen];omega) (by rw [Zen];omega)),trivial⟩,trivial⟩ (Zah ?_)
   refine aQ [(1,.call [(true,.any)] true (I (Zbp (rdN (bits.extract (p+20).toNat (bits.size:Int).toNat) 32))))] [1,2,11,12] [] [_∧True] hB ⟨⟨(Zew (rdN (bits.extract (p+20).toNat (bits.size:Int).toNat) 32) om),trivial⟩,trivial⟩ (Zah ?_)
   rcases Bool.eq_false_or_eq_true (Zqx (Zbp (rdN (bits.extract (p+20).toNat (bits.size:Int).toNat) 32))) with h16|h16
   ·by_cases h17:((rdN (bits.extract (p+20).toNat (bits.size:Int).toNat) 32)/((2^k.toNat:Nat):Int))<20
    ·refine Zbn [(1,.call [(true,.any)] true (Bv true)),(7,.dec true)] [1,11,52] [] [Con Tryz.prog 148 [I (Zbp (rdN (bits.extract (p+20).toNat (bits.size:Int).toNat) 32))] true (Bv true)∧True,(0:Int)≤k∧k≤((IntKind.bits .i64:Nat):Int),_] hB ⟨⟨(Zau h16 (Zdv (Zbp (rdN (bits.extract (p+20).toNat (bits.size:Int).toNat) 32)))),trivial⟩,⟨om,(show k≤(64:Int) from by omega)⟩,h17,trivial⟩ (Zac (Zbr ?_))
     refine aR [] [6,7,8] [] [I 0,I 0,I 8] [] [] hB trivial (Zan ?_)
     refine Zaj (Zaj ?_)
     refine Zao hB (.tup [I 0,I 0,I 8]) (by kernel_rfl) (.inl (by first|(rw [Zwk (o:=ones) ho hon (by assumption) (by assumption)];done)|(rw [Zwl (o:=ones) ho hon (by assumption) (by assumption)];rfl)|(rw [Zgk ho2 (by assumption)];done)|(rw [Zgl ho2 (by assumption) (by assumption) (by assumption)];rfl)|(rw [Zgm ho2 (by assumption) (by simp_all)];done))) rfl (fun _=>(by simp [Zai,Zaf]))
    refine Zbn [(1,.call [(true,.any)] true (Bv true)),(7,.dec false)] [1,11,52] [] [Con Tryz.prog 148 [I (Zbp (rdN (bits.extract (p+20).toNat (bits.size:Int).toNat) 32))] true (Bv true)∧True,(0:Int)≤k∧k≤((IntKind.bits .i64:Nat):Int),_] hB ⟨⟨(Zau h16 (Zdv (Zbp (rdN (bits.extract (p+20).toNat (bits.size:Int).toNat) 32)))),trivial⟩,⟨om,(show k≤(64:Int) from by omega)⟩,h17,trivial⟩ (Zac (Zbo (Zar (Zac ?_))))
    refine aR [(1,.call [(true,.any)] true (I (Zbp (rdN (bits.extract (p+20).toNat (bits.size:Int).toNat) 32))))] [6,7,8] [] [I (Zbp (rdN (bits.extract (p+20).toNat (bits.size:Int).toNat) 32)),I ((p+20)+32),I 0] [] [_∧True,inR .i64 ((p+20)+32)] hB ⟨⟨(Zew (rdN (bits.extract (p+20).toNat (bits.size:Int).toNat) 32) om),trivial⟩,(Zad om om),trivial⟩ (Zan (Zaj ?_))
    refine Zao hB (.tup [I (Zbp (rdN (bits.extract (p+20).toNat (bits.size:Int).toNat) 32)),I ((p+20)+32),I 0]) (by kernel_rfl) (.inl (by first|(rw [Zwk (o:=ones) ho hon (by assumption) (by assumption)];done)|(rw [Zwl (o:=ones) ho hon (by assumption) (by assumption)];rfl)|(rw [Zgk ho2 (by assumption)];done)|(rw [Zgl ho2 (by assumption) (by assumption) (by assumption)];rfl)|(rw [Zgm ho2 (by assumption) (by simp_all)];done))) rfl (fun _=>(by simp [Zai,Zaf]))
   refine Zbn [(1,.call [(true,.any)] true (Bv false))] [1,11,52] [] [Con Tryz.prog 148 [I (Zbp (rdN (bits.extract (p+20).toNat (bits.size:Int).toNat) 32))] true (Bv false)∧True] hB ⟨⟨(Zau h16 (Zdv (Zbp (rdN (bits.extract (p+20).toNat (bits.size:Int).toNat) 32)))),trivial⟩,trivial⟩ (Zac (Zbr ?_))
   refine aR [] [6,7,8] [] [I 0,I 0,I 8] [] [] hB trivial (Zan ?_)
   refine Zaj (Zaj ?_)
   refine Zao hB (.tup [I 0,I 0,I 8]) (by kernel_rfl) (.inl (by first|(rw [Zwk (o:=ones) ho hon (by assumption) (by assumption)];done)|(rw [Zwl (o:=ones) ho hon (by assumption) (by assumption)];rfl)|(rw [Zgk ho2 (by assumption)];done)|(rw [Zgl ho2 (by assumption) (by assumption) (by assumption)];rfl)|(rw [Zgm ho2 (by assumption) (by simp_all)];done))) rfl (fun _=>(by simp [Zai,Zaf]))
  subst hp_
  have hsh:=Zvh hon hk
  have hbx:=@Zjn bits ok
  have hrb:(bits.size:Int)-(p+ones)<1+k∨(0≤rdN (bits.extract (p+ones+1).toNat (bits.size:Int).toNat) k.toNat∧rdN (bits.extract (p+ones+1).toNat (bits.size:Int).toNat) k.toNat<((2^k.toNat:Nat):Int)):=by by_cases hq:(bits.size:Int)-(p+ones)<1+k;(exact .inl hq);(exact .inr (Zqy (hbx om)))
  have hp12:((2^k.toNat:Nat):Int)≤4096:=Int.ofNat_le.2 (Nat.pow_le_pow_right (by decide) (by omega:k.toNat≤12))
  refine Zbn [(1,.dec false)] [0,1,2,9,10,33] [] [_] hB ⟨h14,trivial⟩ (Zac (Zbo (Zar (Zac (Zah (Zah ?_))))))
  by_cases h18:((bits.size:Int)-(p+ones))<(1+k)
  ·refine Zbn [(5,.dec true)] [0,1,2,10,62] [] [inR .i64 ((bits.size:Int)-(p+ones)),inR .i64 (1+k),_] hB ⟨(Zad om om),(Zad om om),h18,trivial⟩ (Zac (Zbr ?_))
   refine aR [] [6,7,8] [] [I 0,I 0,I 9] [] [] hB trivial (Zan (Zaj ?_))
   refine Zao hB (.tup [I 0,I 0,I 9]) (by kernel_rfl) (.inl (by first|(rw [Zwk (o:=ones) ho hon (by assumption) (by assumption)];done)|(rw [Zwl (o:=ones) ho hon (by assumption) (by assumption)];rfl)|(rw [Zgk ho2 (by assumption)];done)|(rw [Zgl ho2 (by assumption) (by assumption) (by assumption)];rfl)|(rw [Zgm ho2 (by assumption) (by simp_all)];done))) rfl (fun _=>(by simp [Zai,Zaf]))
  refine Zbn [(5,.dec false)] [0,1,2,10,62] [] [inR .i64 ((bits.size:Int)-(p+ones)),inR .i64 (1+k),_] hB ⟨(Zad om om),(Zad om om),h18,trivial⟩ (Zac (Zbo (Zar (Zac ?_))))
  refine aR [(8,.call [(true,.any),(true,.any)] true (I (rdN (bits.extract ((p+ones)+1).toNat (bits.size:Int).toNat) k.toNat))),(10,.call [(true,.any)] true (I (Zbp ((ones*((2^k.toNat:Nat):Int))+(rdN (bits.extract ((p+ones)+1).toNat (bits.size:Int).toNat) k.toNat)))))] [6,7,8] [] [I (Zbp ((ones*((2^k.toNat:Nat):Int))+(rdN (bits.extract ((p+ones)+1).toNat (bits.size:Int).toNat) k.toNat))),I (((p+ones)+1)+k),I 0] [] [(0:Int)≤k∧k≤((IntKind.bits .i64:Nat):Int)∧inR .i64 (ones*((2^k.toNat:Nat):Int)),inR .i64 ((p+ones)+1),(0:Int)≤((p+ones)+1)∧((p+ones)+1)≤(bits.size:Int)∧(bits.size:Int)≤(bits.size:Int),_∧True,inR .i64 ((ones*((2^k.toNat:Nat):Int))+(rdN (bits.extract ((p+ones)+1).toNat (bits.size:Int).toNat) k.toNat)),_∧True,inR .i64 ((p+ones)+1),inR .i64 (((p+ones)+1)+k)] hB ⟨⟨om,(show k≤(64:Int) from by omega),(Zad om om)⟩,(Zad om om),⟨om,om,om⟩,⟨(Zev (bits.extract ((p+ones)+1).toNat (bits.size:Int).toNat) k (hbx om) (by rw [Zen];omega) (by rw [Zen];omega)),trivial⟩,(Zad om om),⟨(Zew ((ones*((2^k.toNat:Nat):Int))+(rdN (bits.extract ((p+ones)+1).toNat (bits.size:Int).toNat) k.toNat)) om),trivial⟩,(Zad om om),(Zad om om),trivial⟩ (Zan ?_)
  refine Zao hB (.tup [I (Zbp ((ones*((2^k.toNat:Nat):Int))+(rdN (bits.extract ((p+ones)+1).toNat (bits.size:Int).toNat) k.toNat))),I (((p+ones)+1)+k),I 0]) (by kernel_rfl) (.inl (by first|(rw [Zwk (o:=ones) ho hon (by assumption) (by assumption)];done)|(rw [Zwl (o:=ones) ho hon (by assumption) (by assumption)];rfl)|(rw [Zgk ho2 (by assumption)];done)|(rw [Zgl ho2 (by assumption) (by assumption) (by assumption)];rfl)|(rw [Zgm ho2 (by assumption) (by simp_all)];done))) rfl (fun _=>(by simp [Zai,Zaf]))
theorem Zsk (n:Int):Con Tryz.prog 149 [I n] true (Bv (inB n (-125000000) 125000000)):=by
 refine Zcm (fn:=Tryz.f149) (nt:=5) Tryz.func149 rfl rfl rfl rfl (by simp [Zaf,Zai]) fun B hB=> ?_
 refine aQ [] [0] [] [] hB trivial ?_
 refine aR [(1,.call [(true,.any),(true,.any),(true,.any)] true (Bv (inB n (-125000000) 125000000)))] [2] [] [Bv (inB n (-125000000) 125000000)] [] [_∧True] hB ⟨⟨(Zee n (-125000000) 125000000),trivial⟩,trivial⟩ (Zan ?_)
 refine Zao hB (Bv (inB n (-125000000) 125000000)) (by kernel_rfl) (.inl rfl) rfl (fun _=>trivial)
theorem Zoz (list:List Int) (hl:∃l,okL l∧list=Zii l):∃(v:List Int) (c:Int),(okL v)∧(list=Zii v)∧(c=0)∧Con Tryz.prog 122 [slI false list] true (.tup [slI true v,I c]):=by
  obtain ⟨l0,ho,hl0⟩:=hl
  have hll:list.length=l0.length:=by rw [hl0,Zfk]
  have h60:=ho.1
  have hh:∃r:(List Int)×Int,((okL r.1)∧(list=Zii r.1)∧(r.2=0)∧(True))∧Zaw Tryz.prog 122 [slI false list] (Zae []) true (.tup [slI true r.1,I r.2]) (Zae []):=by
    refine Zcv (Φ:=fun r:(List Int)×Int=>(okL r.1)∧(list=Zii r.1)∧(r.2=0)∧(True)) [] (fun r=>[]) (fn:=Tryz.f122) (nt:=33) Tryz.func122 rfl rfl (args:=[slI false list]) rfl (Zbc (.inl ⟨rfl,Ydy false _⟩) Zcw) (res:=fun r=> .tup [slI true r.1,I r.2]) ?_
    refine xQ [] [0] [] [] trivial (Zak ?_)
    refine xQ [(2,.dec false)] [0,10] [] [¬ (60<(list.length:Int))] ⟨om,trivial⟩ (Zga (Zbd (Zab ?_)))
    refine xQ [] [0,4] [] [] trivial (Zak ?_)
    refine xR [] [4,11,12,13] [] [Zcj,slI false list,I (list.length:Int),I 0] [] [] trivial (Zbb ?_)
    refine x_nil 4 704 1 (fun _=>[]) (by kernel_rfl) ?_
    refine Zdh [] (T:=[(4,.arr 704),(11,slI false list),(12,I (list.length:Int)),(13,I 0)]) (O:=[(704,tAI ([]:List Int))]) rfl (⟨.inl rfl,.inl rfl,.inl rfl,.inl rfl,trivial⟩) (⟨.inr ⟨rfl,(by first|rfl|(simp;done)|(simp;omega)|omega),fun i_ hi_=>absurd hi_ (Nat.not_lt_zero _)⟩,trivial⟩) ?_
    refine Zdc (X:=(List Int)×Int) (fun x=>mkS [(4,.arr 704),(11,slI false list),(12,I (list.length:Int)),(13,I x.2)] [(704,tAI x.1)]) (fun x=>(0≤x.2∧x.2≤(list.length:Int))∧(x.1=l0.take x.2.toNat)∧((x.1.length:Int)=x.2)∧True) (fun x=>((list.length:Int)-x.2).toNat) (([]:List Int),0) rfl (show (0≤(0:Int)∧(0:Int)≤(list.length:Int))∧(([]:List Int)=l0.take (0:Int).toNat)∧((([]:List Int).length:Int)=(0:Int))∧True from ⟨om,(by rfl),(by rfl),trivial⟩) (fun x hI=> ?_)
    obtain ⟨out,t13⟩:=x
    obtain ⟨hi0,hou,hol,_⟩:(0≤t13∧t13≤(list.length:Int))∧(out=l0.take t13.toNat)∧((out.length:Int)=t13)∧True:=hI
    show XW _ _ _ _ (mkS [(4,.arr 704),(11,slI false list),(12,I (list.length:Int)),(13,I t13)] [(704,tAI out)]) _ _
    refine Zak ?_
    by_cases h1:t13<(list.length:Int)
    ·have hi:t13.toNat<list.length:=by omega
     have hii:(t13+1).toNat=t13.toNat+1:=by omega
     have hxr:=okL_r ho _ (show at_ list t13.toNat∈Zii l0 by rw [←hl0];exact Zca hi)
     have hil:t13.toNat<l0.length:=by omega
     have hgi:=Yhb (B:=3600000) (by decide) (l:=l0) (fun x h_=>by have:=ho.2 x h_;omega) (i:=t13.toNat) om
     have hpe:gsI out out.length=gsI l0 t13.toNat:=by rw [hou];exact Yhc om
     have hxe:at_ list t13.toNat=at_ l0 t13.toNat-gsI l0 t13.toNat:=by rw [hl0];exact Zvi hil
     have hx0:=ho.2 _ (Zca hil)
     have hsm:gsI out out.length+at_ list t13.toNat=at_ l0 t13.toNat:=by rw [hpe,hxe];omega
     refine x_q [(0,.dec true)] [4,11,12,13,14] [704] [_] ⟨h1,trivial⟩ (Zab (Zak (Zeh (Zbd (Zab (Zak (Zbb ?_)))))))
     refine xQ [] [4,6,11,12,13] [704] [(0:Int)≤t13∧t13<(list.length:Int)] ⟨⟨om,om⟩,trivial⟩ (Zak ?_)
     refine xQ [(1,.call [(true,.any)] true (Bv true))] [4,6,11,12,13,19] [704] [Con Tryz.prog 148 [I (at_ list t13.toNat)] true (Bv true)∧True] ⟨⟨(Zau (Yhj.2 om) (Zdv (at_ list t13.toNat))),trivial⟩,trivial⟩ (Zga (Zbd (Zab ?_)))
     refine xQ [(1,.call [(false,slI false out)] true (I (gsI out out.length)))] [4,7,11,12,13] [704] [_∧((false=true→true=true)∧1=1∧out.length=out.length∧∀i_,i_<out.length→(fI out) i_=(fI out) i_∨(AV.idsL ((fI out) i_)=[]∧leL (fun _=>none) false ((fI out) i_) ((fI out) i_)))∧True,inR .i64 ((gsI out out.length)+(at_ list t13.toNat))] ⟨⟨(Zon out (fun x h_=>by rw [hou] at h_;have:=ho.2 x (List.mem_of_mem_take h_);omega) (by rw [hou,List.length_take];omega)),⟨(fun h=>by cases h),rfl,rfl,fun i _=> .inl rfl⟩,trivial⟩,(Zad om om),trivial⟩ (Zak ?_)
     refine xQ [(1,.call [(true,.any)] true (Bv true))] [4,7,11,12,13,26] [704] [Con Tryz.prog 149 [I ((gsI out out.length)+(at_ list t13.toNat))] true (Bv true)∧True] ⟨⟨(Zau (by rw [hsm];exact Ziw.2 om) (Zsk ((gsI out out.length)+(at_ list t13.toNat)))),trivial⟩,trivial⟩ (Zga (Zbd (Zab ?_)))
     refine x_q [(2,.new 29),(3,.new 30)] [4,11,12,13] [30] [(out.length+1)*8≤140737488355328] ⟨om,trivial⟩ (Zba 1 (Zab ?_))
     refine x_r [] [4,11,12,13] [30] [.arr 30,slI false list,I (list.length:Int),I (t13+1)] [some (.arr 1 (out.length+1) (Zhc out.length (fI out) (Zhu [I ((gsI out out.length)+(at_ list t13.toNat))] 1)))] [inR .i64 (t13+1)] ⟨(Zad om om),trivial⟩ ?_
     refine Zcf [(704,30)] (T:=[(4,.arr 704),(11,slI false list),(12,I (list.length:Int)),(13,I (t13+1))]) (O:=[(704,tAI (out++[((gsI out out.length)+(at_ list t13.toNat))]))]) rfl (⟨.inl rfl,.inl rfl,.inl rfl,.inl rfl,trivial⟩) (⟨.inr ⟨rfl,(by first|rfl|(simp;done)|(simp;omega)|omega),fun i_ hi_=> .inl (Zec (enc:=cI) (xs:=out) rfl i_ hi_)⟩,trivial⟩) (Zay ((out++[((gsI out out.length)+(at_ list t13.toNat))]),(t13+1)) rfl (show (0≤(t13+1)∧(t13+1)≤(list.length:Int))∧((out++[((gsI out out.length)+(at_ list t13.toNat))])=l0.take (t13+1).toNat)∧(((out++[((gsI out out.length)+(at_ list t13.toNat))]).length:Int)=(t13+1))∧True from ⟨om,(by (rw [hii,hsm,hou,List.take_succ_eq_append_getElem hil,←Zea hil])),(by (simp;omega)),trivial⟩) (by first|(show (((list.length:Int)-(t13+1)).toNat:Nat)<((list.length:Int)-t13).toNat;omega)|(dsimp only;omega)))
    have hie:t13.toNat=l0.length:=by omega
    have hoe:out=l0:=by rw [hou,hie,List.take_length]
    refine x_r [(0,.dec false)] [4,11,12,13,14] [704] [.arr 704,slI false list,I (list.length:Int),I t13,Bv false] [some (tAI out)] [_] ⟨h1,trivial⟩ (Zab (Zak (Zbt rfl (Zcp (Zas ?_)))))
    refine Zax ?_
    refine Zat (Zab ?_)
    refine xR [] [2,3] [704] [.arr 704,I 0] [some (tAI out)] [] trivial (Zdd ?_)
    refine Zbw (out,0) (show (okL out)∧(list=Zii out)∧(0=0)∧(True) from ⟨(by (rw [hoe];exact ho)),(by (rw [hoe];exact hl0)),(by rfl),trivial⟩) (trivial) (.tup [.arr 704,I 0]) (by kernel_rfl) (.inr ⟨⟨(fun _=>rfl),rfl,rfl,fun i _=> .inl rfl⟩,⟨rfl,rfl⟩⟩) (fun _=>rfl) (fun _=>(by simp [Zai,Zaf,Ydy]))
  obtain ⟨⟨v,c⟩,⟨hh0,hh1,hh2,_⟩,hc⟩:=hh
  exact ⟨v,c,hh0,hh1,hh2,hc⟩
theorem Zvj (rd:reader) (count:Int) (hok:Zfu rd.bits=true) (hp:0≤rd.atx∧rd.atx≤(rd.bits.size:Int)) (hc:∃l,okL l∧(l.length:Int)=count∧sAt rd.bits rd.atx.toNat (Zgp l)):∃(v:List Int) (rd':reader),(okL v)∧((v.length:Int)=count)∧(sAt rd.bits rd.atx.toNat (Zgp v))∧(rd'.bits=rd.bits)∧(rd'.atx=rd.atx+((Zgp v).size:Int))∧Zaw Tryz.prog 93 [.ref 7003 0,I count] (Zae [(7003,Zaq rd)]) true (slI true v) (Zae [(7003,Zaq rd')]):=by
  obtain ⟨l0,ho,hcl,hc0⟩:=hc
  have hsz:=(Zfj.1 hok).1
  have h60:=ho.1
  have hc4:=(col_k hc0 ho).2.2
  have hh:∃r:(List Int)×reader,((okL r.1)∧((r.1.length:Int)=count)∧(sAt rd.bits rd.atx.toNat (Zgp r.1))∧(r.2.bits=rd.bits)∧(r.2.atx=rd.atx+((Zgp r.1).size:Int))∧(True))∧Zaw Tryz.prog 93 [.ref 7003 0,I count] (Zae [(7003,Zaq rd)]) true (slI true r.1) (Zae [(7003,Zaq r.2)]):=by
    refine Zcv (Φ:=fun r:(List Int)×reader=>(okL r.1)∧((r.1.length:Int)=count)∧(sAt rd.bits rd.atx.toNat (Zgp r.1))∧(r.2.bits=rd.bits)∧(r.2.atx=rd.atx+((Zgp r.1).size:Int))∧(True)) [(7003,Zaq rd)] (fun r=>[(7003,Zaq r.2)]) (fn:=Tryz.f93) (nt:=67) Tryz.func93 rfl rfl (args:=[.ref 7003 0,I count]) rfl (Zbc (.inr trivial) (Zbc (.inl ⟨rfl,trivial⟩) Zcw)) (res:=fun r=>slI true r.1) ?_
    refine xQ [] [0,1] [7003] [] trivial (Zak ?_)
    obtain ⟨v_1,rd'_1,hx1_0,hx1_1,hx1_2,hc1⟩:=Ztq rd 4 hok hp om
    have hck:=col_k hc0 ho
    have hkv:v_1=kB l0:=by rw [hx1_0];exact hck.1
    have hrb:rd'_1.bits=rd.bits:=hx1_1
    have hra:rd'_1.atx=rd.atx+4:=hx1_2
    have hkb:=kB_bd ho
    refine x_q [(1,.lend [(7003,Zaq rd,Zaq rd'_1)] [] [(true,.any),(true,.any)] true (I v_1))] [0,1,5] [7003] [Zaw Tryz.prog 44 [.ref 7003 0,I 4] (Zae [(7003,Zaq rd)]) true (I v_1) (Zae [(7003,Zaq rd'_1)])∧(((Zaq rd:Ob)=Zaq rd∨Zer Zeg true (Zaq rd) (Zaq rd))∧Zal false (Zaq rd))∧True] ⟨⟨hc1,⟨.inl rfl,(by simp [Zal,Zaf,Zai])⟩,trivial⟩,trivial⟩ (Zab (Zak ?_))
    refine xQ [(6,.dec false)] [0,1,5,21] [7003] [¬ (12<v_1)] ⟨om,trivial⟩ (Zga (Zbd (Zab ?_)))
    refine xR [] [0,1,5,6] [7003] [.ref 7003 0,I count,I v_1,Zcj] [some (Zaq rd'_1)] [] trivial (Zak (Zbb ?_))
    refine x_nil 6 706 1 (fun _=>[]) (by kernel_rfl) ?_
    refine Zdh [] (T:=[(0,.ref 7003 0),(1,I count),(5,I v_1),(6,.arr 706)]) (O:=[(706,tAI ([]:List Int)),(7003,Zaq rd'_1)]) rfl (⟨.inl rfl,.inl rfl,.inl rfl,.inl rfl,trivial⟩) (⟨.inr ⟨rfl,(by first|rfl|(simp;done)|(simp;omega)|omega),fun i_ hi_=>absurd hi_ (Nat.not_lt_zero _)⟩,.inl rfl,trivial⟩) ?_
    refine Zdc (X:=Int×(List Int)×reader) (fun x=>mkS [(0,.ref 7003 0),(1,I x.1),(5,I v_1),(6,.arr 706)] [(706,tAI x.2.1),(7003,Zaq x.2.2)]) (fun x=>(0≤x.1∧x.1≤count)∧(x.2.1=(Zii l0).take (count-x.1).toNat)∧(x.2.2.bits=rd.bits)∧(x.2.2.atx=rd.atx+4+((riC (Zii l0) (kB l0) (count-x.1).toNat).size:Int))∧((x.2.1.length:Int)=count-x.1)∧True) (fun x=>x.1.toNat) (count,([]:List Int),rd'_1) rfl (show (0≤count∧count≤count)∧(([]:List Int)=(Zii l0).take (count-count).toNat)∧(rd'_1.bits=rd.bits)∧(rd'_1.atx=rd.atx+4+((riC (Zii l0) (kB l0) (count-count).toNat).size:Int))∧((([]:List Int).length:Int)=count-count)∧True from ⟨om,(by (rw [show (count-count).toNat=0 from by omega];rfl)),(by exact hrb),(by (rw [show (count-count).toNat=0 from by omega];show _=rd.atx+4+((0:Nat):Int);omega)),(by (show ((0:Nat):Int)=_;omega)),trivial⟩) (fun x hI=> ?_)
    obtain ⟨n_,rest,src⟩:=x
    obtain ⟨hn0,hrs,hsb,hsa,hrl,_⟩:(0≤n_∧n_≤count)∧(rest=(Zii l0).take (count-n_).toNat)∧(src.bits=rd.bits)∧(src.atx=rd.atx+4+((riC (Zii l0) (kB l0) (count-n_).toNat).size:Int))∧((rest.length:Int)=count-n_)∧True:=hI
    show XW _ _ _ _ (mkS [(0,.ref 7003 0),(1,I n_),(5,I v_1),(6,.arr 706)] [(706,tAI rest),(7003,Zaq src)]) _ _
    refine Zak (Zak ?_)
    by_cases h1:0<n_
    ·have hj:(count-n_).toNat<(Zii l0).length:=by rw [Zfk];omega
     have hjj:(count-(n_-1)).toNat=(count-n_).toNat+1:=by omega
     have hrr:=Zvk (Zoo ho) hkb hck.2.1 (i:=(count-n_).toNat) hj (Nat.le_refl _)
     have hps:src.atx=((rd.atx.toNat+4+(riC (Zii l0) (kB l0) (count-n_).toNat).size:Nat):Int):=by rw [hsa];omega
     have hrz:Zeb src.bits src.atx v_1=(at_ (Zii l0) (count-n_).toNat,((rd.atx.toNat+4+(riC (Zii l0) (kB l0) ((count-n_).toNat+1)).size:Nat):Int),0):=by rw [hsb,hps,hkv];exact hrr.1
     have hz1:=congrArg Prod.fst hrz
     have hz2:=congrArg (fun q=>q.2.1) hrz
     have hz3:=congrArg (fun q=>q.2.2) hrz
     dsimp only at hz1 hz2 hz3
     have hsub:=(Yag (i:=(count-n_).toNat) _ om hck.2.1).1
     have hokb:Zfu src.bits=true:=by rw [hsb];exact hok
     have hszb:src.bits.size=rd.bits.size:=by rw [hsb]
     have hkb2:=hkb
     rw [←hkv] at hkb2
     refine x_q [(1,.dec true)] [0,1,5,6,26] [706,7003] [_] ⟨h1,trivial⟩ (Zab (Zeh (Zbd (Zab (Zak (Zbb ?_))))))
     refine xQ [(9,.call [(true,.any),(true,.any),(true,.any)] true (.tup [I ((Zeb src.bits src.atx v_1).1),I ((Zeb src.bits src.atx v_1).2.1),I ((Zeb src.bits src.atx v_1).2.2)]))] [0,1,5,6,7,8,9] [706,7003] [_∧True] ⟨⟨(Yaf src.bits src.atx v_1 (by assumption) om om),trivial⟩,trivial⟩ (Zak ?_)
     refine xQ [(1,.dec false)] [0,1,5,6,7,8,44] [706,7003] [¬ (((Zeb src.bits src.atx v_1).2.2)≠0)] ⟨(fun hq=>hq hz3),trivial⟩ (Zga (Zbd (Zab ?_)))
     refine xQ [(2,.new 50),(3,.new 51)] [0,1,5,6,8] [51,7003] [(rest.length+1)*8≤140737488355328] ⟨om,trivial⟩ ?_
     refine x_q [] [0,1,5,6] [51,7003] [] trivial (Zba 1 (Zab ?_))
     refine x_r [] [0,1,5,6] [51,7003] [.ref 7003 0,I (n_-1),I v_1,.arr 51] [some (.arr 1 (rest.length+1) (Zhc rest.length (fI rest) (Zhu [I ((Zeb src.bits src.atx v_1).1)] 1))),some (.box [Sv src.bits,I ((Zeb src.bits src.atx v_1).2.1),Bv false])] [inR .i64 (n_-1)] ⟨(Zad om om),trivial⟩ ?_
     refine Zcf [(706,51)] (T:=[(0,.ref 7003 0),(1,I (n_-1)),(5,I v_1),(6,.arr 706)]) (O:=[(706,tAI (rest++[(Zeb src.bits src.atx v_1).1])),(7003,.box [Sv ((reader.mk src.bits ((Zeb src.bits src.atx v_1).2.1) false).bits),I ((reader.mk src.bits ((Zeb src.bits src.atx v_1).2.1) false).atx),Bv false])]) rfl (⟨.inl rfl,.inl rfl,.inl rfl,.inl rfl,trivial⟩) (⟨.inr ⟨rfl,(by first|rfl|(simp;done)|(simp;omega)|omega),fun i_ hi_=> .inl (Zec (enc:=cI) (xs:=rest) rfl i_ hi_)⟩,.inr ⟨(by first|rfl|(simp [Zcn];done)|(simp [Zcn];omega)),⟨(by first|rfl|(simp [Zcn];done)|(simp [Zcn];omega)),⟨rfl,rfl⟩⟩⟩,trivial⟩) (Zay ((n_-1),(rest++[(Zeb src.bits src.atx v_1).1]),(reader.mk src.bits ((Zeb src.bits src.atx v_1).2.1) false)) rfl (show (0≤(n_-1)∧(n_-1)≤count)∧((rest++[(Zeb src.bits src.atx v_1).1])=(Zii l0).take (count-(n_-1)).toNat)∧((reader.mk src.bits ((Zeb src.bits src.atx v_1).2.1) false).bits=rd.bits)∧((reader.mk src.bits ((Zeb src.bits src.atx v_1).2.1) false).atx=rd.atx+4+((riC (Zii l0) (kB l0) (count-(n_-1)).toNat).size:Int))∧(((rest++[(Zeb src.bits src.atx v_1).1]).length:Int)=count-(n_-1))∧True from ⟨om,(by (rw [hjj,hz1,hrs,List.take_succ_eq_append_getElem hj,←Zea hj])),(by first|exact hsb|rfl),(by (rw [hjj];first|(rw [hz2];omega)|(dsimp only;rw [hz2];omega))),(by (simp;omega)),trivial⟩) (by first|(show ((n_-1).toNat:Nat)<n_.toNat;omega)|(dsimp only;omega)))
    have hre:rest=Zii l0:=by rw [hrs,List.take_of_length_le (by rw [Zfk];omega)]
    have hrl0:rest.length=l0.length:=by rw [hre,Zfk]
    have hze:(count-n_).toNat=(Zii l0).length:=by rw [Zfk];omega
    have hcz:(Zgp l0).size=4+(riC (Zii l0) (kB l0) (Zii l0).length).size:=by unfold Zgp;rw [ByteArray.size_append,Zbx];rfl
    rw [hze] at hsa
    refine x_r [(1,.dec false)] [0,1,5,6,26] [706,7003] [.ref 7003 0,I n_,I v_1,.arr 706,Bv false] [some (tAI rest),some (Zaq src)] [_] ⟨h1,trivial⟩ (Zab (Zbt rfl (Zcp (Zas ?_))))
    refine Zax ?_
    refine Zat (Zab (Zak ?_))
    obtain ⟨v_2,c_2,hx2_0,hx2_1,hx2_2,hc2⟩:=Zoz rest ⟨l0,ho,hre⟩
    have hfo:=hx2_0
    have hfe:=hx2_1
    have hfl:v_2=l0:=Yhk (by have:=congrArg List.length hfe;rw [Zfk,hrl0] at this;omega) (by rw [←hfe,hre])
    refine x_q [(1,.call [(false,slI false rest)] true (.tup [slI true v_2,I c_2]))] [0,10,11] [7003] [_∧((false=true→true=true)∧1=1∧rest.length=rest.length∧∀i_,i_<rest.length→(fI rest) i_=(fI rest) i_∨(AV.idsL ((fI rest) i_)=[]∧leL (fun _=>none) false ((fI rest) i_) ((fI rest) i_)))∧True] ⟨⟨hc2,⟨(fun h=>by cases h),rfl,rfl,fun i _=> .inl rfl⟩,trivial⟩,trivial⟩ (Zab ?_)
    refine xQ [] [10] [7003] [] trivial ?_
    refine xR [] [4] [7003] [slI true v_2] [some (.box [Sv src.bits,I src.atx,Bv (decide (c_2≠0))])] [] trivial (Zdd ?_)
    refine Zbw (v_2,(reader.mk src.bits src.atx (decide (c_2≠0)))) (show (okL v_2)∧((v_2.length:Int)=count)∧(sAt rd.bits rd.atx.toNat (Zgp v_2))∧((reader.mk src.bits src.atx (decide (c_2≠0))).bits=rd.bits)∧((reader.mk src.bits src.atx (decide (c_2≠0))).atx=rd.atx+((Zgp v_2).size:Int))∧(True) from ⟨(by (rw [hfl];exact ho)),(by (rw [hfl];exact hcl)),(by (rw [hfl];exact hc0)),(by first|exact hsb|rfl),(by (rw [hfl,hcz,hsa,Int.natCast_add,←Int.add_assoc];rfl)),trivial⟩) (⟨.inr ⟨rfl,⟨rfl,⟨(show Value.bool (decide (c_2≠0))=Value.bool false from congrArg Value.bool (decide_eq_false om)),rfl⟩⟩⟩,trivial⟩) (slI true v_2) (by kernel_rfl) (.inl rfl) (fun _=>rfl) (fun _=>(Ydy true _))
  obtain ⟨⟨v,rd'⟩,⟨hh0,hh1,hh2,hh3,hh4,_⟩,hc⟩:=hh
  exact ⟨v,rd',hh0,hh1,hh2,hh3,hh4,hc⟩
theorem rdStk_ok (rd:reader) (hok:Zfu rd.bits=true) (hp:0≤rd.atx∧rd.atx≤(rd.bits.size:Int)) (hs:∃x,Zbe x=true∧sAt rd.bits rd.atx.toNat (Zyw x)):∃(v:Stroke) (rd':reader),(Zbe v=true)∧(sAt rd.bits rd.atx.toNat (Zyw v))∧(rd'.bits=rd.bits)∧(rd'.atx=rd.atx+((Zyw v).size:Int))∧Zaw Tryz.prog 45 [.ref 7003 0] (Zae [(7003,Zaq rd)]) true (.agg [Zbj true v.Points]) (Zae [(7003,Zaq rd')]):=by
  obtain ⟨x0,ho,hs0⟩:=hs
  have hsp:=Zra hs0 ho
  have hsz:=(Zfj.1 hok).1
  have hsl:=(Zpk ho).1
  have hsb_:=hs0.1
  have hs8:=hsp.1.2
  have hse:=hsp.2.2.2.2
  have hh:∃r:Stroke×reader,((Zbe r.1=true)∧(sAt rd.bits rd.atx.toNat (Zyw r.1))∧(r.2.bits=rd.bits)∧(r.2.atx=rd.atx+((Zyw r.1).size:Int))∧(True))∧Zaw Tryz.prog 45 [.ref 7003 0] (Zae [(7003,Zaq rd)]) true (.agg [Zbj true r.1.Points]) (Zae [(7003,Zaq r.2)]):=by
    refine Zcv (Φ:=fun r:Stroke×reader=>(Zbe r.1=true)∧(sAt rd.bits rd.atx.toNat (Zyw r.1))∧(r.2.bits=rd.bits)∧(r.2.atx=rd.atx+((Zyw r.1).size:Int))∧(True)) [(7003,Zaq rd)] (fun r=>[(7003,Zaq r.2)]) (fn:=Tryz.f45) (nt:=50) Tryz.func45 rfl rfl (args:=[.ref 7003 0]) rfl (Zbc (.inr trivial) Zcw) (res:=fun r=> .agg [Zbj true r.1.Points]) ?_
    refine xQ [(0,.new 2)] [0,2] [2,7003] [] trivial (Zak ?_)
    obtain ⟨v_1,rd'_1,hx1_0,hx1_1,hx1_2,hc1⟩:=Ztq rd 8 hok om om
    have hcn:v_1=(x0.Points.length:Int):=by rw [hx1_0];exact hsp.1.1
    have hb0_:rd'_1.bits=rd.bits:=hx1_1
    have ha0_:rd'_1.atx=rd.atx+8:=hx1_2
    have hok0:Zfu rd'_1.bits=true:=by rw [hb0_];exact hok
    have hz0_:rd'_1.bits.size=rd.bits.size:=by rw [hb0_]
    have he0_:rd'_1.atx.toNat=rd.atx.toNat+8:=by omega
    refine x_q [(1,.lend [(7003,Zaq rd,Zaq rd'_1)] [] [(true,.any),(true,.any)] true (I v_1))] [0,2,3] [2,7003] [Zaw Tryz.prog 44 [.ref 7003 0,I 8] (Zae [(7003,Zaq rd)]) true (I v_1) (Zae [(7003,Zaq rd'_1)])∧(((Zaq rd:Ob)=Zaq rd∨Zer Zeg true (Zaq rd) (Zaq rd))∧Zal false (Zaq rd))∧True] ⟨⟨hc1,⟨.inl rfl,(by simp [Zal,Zaf,Zai])⟩,trivial⟩,trivial⟩ (Zab (Zak ?_))
    obtain ⟨v_2,rd'_2,hx2_0,hx2_1,hx2_2,hx2_3,hx2_4,hc2⟩:=Zvj rd'_1 v_1 hok0 om ⟨Zfd x0 0,Zeu ho 0,by rw [Zdu];omega,by rw [hb0_,he0_];exact hsp.2.1⟩
    have hv0_:v_2=Zfd x0 0:=Zlh (by have q_:=hx2_2;rw [hb0_,he0_] at q_;exact q_) hsp.2.1 (by rw [Zdu];have q_:=hx2_1;omega) hx2_0 (Zeu ho 0)
    have hcs0:=Zmu (Zeu ho 0)
    have hb1_:rd'_2.bits=rd.bits:=(hx2_3).trans hb0_
    have ha1_:rd'_2.atx=rd'_1.atx+((Zgp (Zfd x0 0)).size:Int):=by have q_:=hx2_4;rw [hv0_] at q_;exact q_
    have hok1:Zfu rd'_2.bits=true:=by rw [hb1_];exact hok
    have hz1_:rd'_2.bits.size=rd.bits.size:=by rw [hb1_]
    have he1_:rd'_2.atx.toNat=rd.atx.toNat+8+(Zgp (Zfd x0 0)).size:=by omega
    have hl0_:v_2.length=x0.Points.length:=by rw [hv0_,Zdu]
    obtain ⟨v_3,rd'_3,hx3_0,hx3_1,hx3_2,hx3_3,hx3_4,hc3⟩:=Zvj rd'_2 v_1 hok1 om ⟨Zfd x0 1,Zeu ho 1,by rw [Zdu];omega,by rw [hb1_,he1_];exact hsp.2.2.1⟩
    have hv1_:v_3=Zfd x0 1:=Zlh (by have q_:=hx3_2;rw [hb1_,he1_] at q_;exact q_) hsp.2.2.1 (by rw [Zdu];have q_:=hx3_1;omega) hx3_0 (Zeu ho 1)
    have hcs1:=Zmu (Zeu ho 1)
    have hb2_:rd'_3.bits=rd.bits:=(hx3_3).trans hb1_
    have ha2_:rd'_3.atx=rd'_2.atx+((Zgp (Zfd x0 1)).size:Int):=by have q_:=hx3_4;rw [hv1_] at q_;exact q_
    have hok2:Zfu rd'_3.bits=true:=by rw [hb2_];exact hok
    have hz2_:rd'_3.bits.size=rd.bits.size:=by rw [hb2_]
    have he2_:rd'_3.atx.toNat=rd.atx.toNat+8+(Zgp (Zfd x0 0)).size+(Zgp (Zfd x0 1)).size:=by omega
    have hl1_:v_3.length=x0.Points.length:=by rw [hv1_,Zdu]
    obtain ⟨v_4,rd'_4,hx4_0,hx4_1,hx4_2,hx4_3,hx4_4,hc4⟩:=Zvj rd'_3 v_1 hok2 om ⟨Zfd x0 2,Zeu ho 2,by rw [Zdu];omega,by rw [hb2_,he2_];exact hsp.2.2.2.1⟩
    have hv2_:v_4=Zfd x0 2:=Zlh (by have q_:=hx4_2;rw [hb2_,he2_] at q_;exact q_) hsp.2.2.2.1 (by rw [Zdu];have q_:=hx4_1;omega) hx4_0 (Zeu ho 2)
    have hcs2:=Zmu (Zeu ho 2)
    have hb3_:rd'_4.bits=rd.bits:=(hx4_3).trans hb2_
    have ha3_:rd'_4.atx=rd'_3.atx+((Zgp (Zfd x0 2)).size:Int):=by have q_:=hx4_4;rw [hv2_] at q_;exact q_
    have hok3:Zfu rd'_4.bits=true:=by rw [hb3_];exact hok
    have hz3_:rd'_4.bits.size=rd.bits.size:=by rw [hb3_]
    have he3_:rd'_4.atx.toNat=rd.atx.toNat+8+(Zgp (Zfd x0 0)).size+(Zgp (Zfd x0 1)).size+(Zgp (Zfd x0 2)).size:=by omega
    have hl2_:v_4.length=x0.Points.length:=by rw [hv2_,Zdu]
    refine x_q [(2,.lend [(7003,Zaq rd'_1,Zaq rd'_2)] [] [(true,.any),(true,.any)] true (slI true v_2)),(5,.lend [(7003,Zaq rd'_2,Zaq rd'_3)] [] [(true,.any),(true,.any)] true (slI true v_3)),(8,.lend [(7003,Zaq rd'_3,Zaq rd'_4)] [] [(true,.any),(true,.any)] true (slI true v_4))] [0,2,4,5,6] [2,7003] [Zaw Tryz.prog 93 [.ref 7003 0,I v_1] (Zae [(7003,Zaq rd'_1)]) true (slI true v_2) (Zae [(7003,Zaq rd'_2)])∧(((Zaq rd'_1:Ob)=Zaq rd'_1∨Zer Zeg true (Zaq rd'_1) (Zaq rd'_1))∧Zal false (Zaq rd'_1))∧True,Zaw Tryz.prog 93 [.ref 7003 0,I v_1] (Zae [(7003,Zaq rd'_2)]) true (slI true v_3) (Zae [(7003,Zaq rd'_3)])∧(((Zaq rd'_2:Ob)=Zaq rd'_2∨Zer Zeg true (Zaq rd'_2) (Zaq rd'_2))∧Zal false (Zaq rd'_2))∧True,Zaw Tryz.prog 93 [.ref 7003 0,I v_1] (Zae [(7003,Zaq rd'_3)]) true (slI true v_4) (Zae [(7003,Zaq rd'_4)])∧(((Zaq rd'_3:Ob)=Zaq rd'_3∨Zer Zeg true (Zaq rd'_3) (Zaq rd'_3))∧Zal false (Zaq rd'_3))∧True] ⟨⟨hc2,⟨.inl rfl,(by simp [Zal,Zaf,Zai])⟩,trivial⟩,⟨hc3,⟨.inl rfl,(by simp [Zal,Zaf,Zai])⟩,trivial⟩,⟨hc4,⟨.inl rfl,(by simp [Zal,Zaf,Zai])⟩,trivial⟩,trivial⟩ (Zab (Zak ?_))
    refine xQ [] [2,4,5,6,23] [2,7003] [] trivial (Zga (Zbd (Zab ?_)))
    refine xQ [(0,.new 7)] [2,4,5,6,7] [2,7,7003] [] trivial (Zak ?_)
    refine xR [] [2,4,5,6,7,26,27] [2,7,7003] [.ref 2 0,slI true v_2,slI true v_3,slI true v_4,.ref 7 0,I (v_2.length:Int),I 0] [some (.box [Zcj]),some (.box [Zcj]),some (Zaq rd'_4)] [] trivial (Zbb ?_)
    refine Zka 7 0 770 3 (fun _=>[]) rfl (by kernel_rfl) ?_
    refine Zdh [] (T:=[(2,.ref 2 0),(4,slI true v_2),(5,slI true v_3),(6,slI true v_4),(7,.ref 7 0),(26,I (v_2.length:Int)),(27,I 0)]) (O:=[(2,.box [Zcj]),(7,.box [.arr 770]),(770,Zef ([]:List Point)),(7003,Zaq rd'_4)]) rfl (⟨.inl rfl,.inl rfl,.inl rfl,.inl rfl,.inl rfl,.inl rfl,.inl rfl,trivial⟩) (⟨.inl rfl,.inl rfl,.inr ⟨rfl,(by first|rfl|(simp;done)|(simp;omega)|omega),fun i_ hi_=>absurd hi_ (Nat.not_lt_zero _)⟩,.inl rfl,trivial⟩) ?_
    refine Zdc (X:=Int×(List Point)) (fun x=>mkS [(2,.ref 2 0),(4,slI true v_2),(5,slI true v_3),(6,slI true v_4),(7,.ref 7 0),(26,I (v_2.length:Int)),(27,I x.1)] [(2,.box [Zcj]),(7,.box [.arr 770]),(770,Zef x.2),(7003,Zaq rd'_4)]) (fun x=>(0≤x.1∧x.1≤(x0.Points.length:Int))∧(x.2=x0.Points.take x.1.toNat)∧((x.2.length:Int)=x.1)∧True) (fun x=>((x0.Points.length:Int)-x.1).toNat) (0,([]:List Point)) rfl (show (0≤(0:Int)∧(0:Int)≤(x0.Points.length:Int))∧(([]:List Point)=x0.Points.take (0:Int).toNat)∧((([]:List Point).length:Int)=(0:Int))∧True from ⟨om,(by rfl),(by rfl),trivial⟩) (fun x hI=> ?_)
    obtain ⟨t27,pts⟩:=x
    obtain ⟨hi0,hpt,hpl,_⟩:(0≤t27∧t27≤(x0.Points.length:Int))∧(pts=x0.Points.take t27.toNat)∧((pts.length:Int)=t27)∧True:=hI
    show XW _ _ _ _ (mkS [(2,.ref 2 0),(4,slI true v_2),(5,slI true v_3),(6,slI true v_4),(7,.ref 7 0),(26,I (v_2.length:Int)),(27,I t27)] [(2,.box [Zcj]),(7,.box [.arr 770]),(770,Zef pts),(7003,Zaq rd'_4)]) _ _
    refine Zak ?_
    by_cases h1:t27<(v_2.length:Int)
    ·have hi:t27.toNat<x0.Points.length:=by omega
     have hii:(t27+1).toNat=t27.toNat+1:=by omega
     refine x_q [(0,.dec true)] [2,4,5,6,7,26,27,28] [2,7,770,7003] [_] ⟨h1,trivial⟩ (Zab (Zak (Zeh (Zbd (Zab (Zak (Zbb ?_)))))))
     refine xQ [] [2,4,5,6,7,8,26,27] [2,7,770,7003] [] trivial ?_
     refine x_q [(15,.new 45),(16,.new 46)] [2,4,5,6,7,26,27] [2,7,46,7003] [(0:Int)≤t27∧t27<(v_2.length:Int),(0:Int)≤t27∧t27<(v_3.length:Int),(0:Int)≤t27∧t27<(v_4.length:Int),(pts.length+1)*24≤140737488355328] ⟨⟨om,om⟩,⟨om,om⟩,⟨om,om⟩,om,trivial⟩ (Zba 1 (Zab ?_))
     refine x_r [] [2,4,5,6,7,26,27] [2,7,46,7003] [.ref 2 0,slI true v_2,slI true v_3,slI true v_4,.ref 7 0,I (v_2.length:Int),I (t27+1)] [some (.box [Zcj]),some (.box [.arr 46]),some (.arr 3 (pts.length+1) (Zhc pts.length (Zdy pts) (Zhu [I (at_ v_2 t27.toNat),I (at_ v_3 t27.toNat),I (at_ v_4 t27.toNat)] 3))),some (Zaq rd'_4)] [inR .i64 (t27+1)] ⟨(Zad om om),trivial⟩ ?_
     refine Zcf [(770,46)] (T:=[(2,.ref 2 0),(4,slI true v_2),(5,slI true v_3),(6,slI true v_4),(7,.ref 7 0),(26,I (v_2.length:Int)),(27,I (t27+1))]) (O:=[(2,.box [Zcj]),(7,.box [.arr 770]),(770,Zef (pts++[(Point.mk (at_ v_2 t27.toNat) (at_ v_3 t27.toNat) (at_ v_4 t27.toNat))])),(7003,Zaq rd'_4)]) rfl (⟨.inl rfl,.inl rfl,.inl rfl,.inl rfl,.inl rfl,.inl rfl,.inl rfl,trivial⟩) (⟨.inl rfl,.inl rfl,.inr ⟨rfl,(by first|rfl|(simp;done)|(simp;omega)|omega),fun i_ hi_=> .inl (Zec (enc:=Zgw) (xs:=pts) rfl i_ hi_)⟩,.inl rfl,trivial⟩) (Zay ((t27+1),(pts++[(Point.mk (at_ v_2 t27.toNat) (at_ v_3 t27.toNat) (at_ v_4 t27.toNat))])) rfl (show (0≤(t27+1)∧(t27+1)≤(x0.Points.length:Int))∧((pts++[(Point.mk (at_ v_2 t27.toNat) (at_ v_3 t27.toNat) (at_ v_4 t27.toNat))])=x0.Points.take (t27+1).toNat)∧(((pts++[(Point.mk (at_ v_2 t27.toNat) (at_ v_3 t27.toNat) (at_ v_4 t27.toNat))]).length:Int)=(t27+1))∧True from ⟨om,(by (rw [hii,←take_pt hi,←hpt,hv0_,hv1_,hv2_])),(by (simp;omega)),trivial⟩) (by first|(show (((x0.Points.length:Int)-(t27+1)).toNat:Nat)<((x0.Points.length:Int)-t27).toNat;omega)|(dsimp only;omega)))
    have hfin:Stroke.mk pts=x0:=by rw [hpt,show t27.toNat=x0.Points.length from by omega,List.take_length]
    refine x_r [(0,.dec false)] [2,4,5,6,7,26,27,28] [2,7,770,7003] [.ref 2 0,slI true v_2,slI true v_3,slI true v_4,.ref 7 0,I (v_2.length:Int),I t27,Bv false] [some (.box [Zcj]),some (.box [.arr 770]),some (Zef pts),some (Zaq rd'_4)] [_] ⟨h1,trivial⟩ (Zab (Zak (Zbt rfl (Zcp (Zas ?_)))))
    refine Zax ?_
    refine Zat (Zab ?_)
    refine xR [] [2] [2,770,7003] [.ref 2 0] [some (.box [.arr 770]),some (Zef pts),some (Zaq rd'_4)] [] trivial (Zdd ?_)
    refine Zbw ((Stroke.mk pts),rd'_4) (show (Zbe (Stroke.mk pts)=true)∧(sAt rd.bits rd.atx.toNat (Zyw (Stroke.mk pts)))∧(rd'_4.bits=rd.bits)∧(rd'_4.atx=rd.atx+((Zyw (Stroke.mk pts)).size:Int))∧(True) from ⟨(by (rw [hfin];exact ho)),(by (rw [hfin];exact hs0)),(by exact hb3_),(by (rw [hfin,hse];omega)),trivial⟩) (⟨.inl rfl,trivial⟩) (.agg [.arr 770]) (by kernel_rfl) (.inr ⟨⟨(fun _=>rfl),rfl,rfl,fun i _=> .inl rfl⟩,rfl⟩) (fun _=>rfl) (fun _=>(by simp [Zai,Zaf,Zil]))
  obtain ⟨⟨v,rd'⟩,⟨hh0,hh1,hh2,hh3,_⟩,hc⟩:=hh
  exact ⟨v,rd',hh0,hh1,hh2,hh3,hc⟩
end Go.Proofs.YtomafbpfgpkolaaGreatDoor.Ax
