/- Contracts that the statement FnLines reaches, part 3. No conditions. -/
import Derived.Test.YtfafngbbaplknaaAxLLines2
import Derived.Test.YtfafngbbaplknaaAxR
import Derived.Test.YtfafngbbaplknaaAxRS
import Derived.Test.YtfafngbbaplknaaAxS
import Derived.Test.YtfafngbbaplknaaAxY
namespace Go.Proofs.Ytfafngbbaplknaa.Ax
open Go.RowKit Go.ChangeShapes Go.WideShapes
set_option linter.unusedVariables false
set_option linter.unusedSimpArgs false
theorem Zio (boxes:List Box) (gap:Int) (hp:Zbx boxes=true) (hg:0≤gap∧gap≤4095):∃(lns:List Line),(lns=Zkp boxes gap)∧Zap Try.prog 37 [Zag false boxes,I gap] (Zac []) false (.arr 9223) (Zac [(9223,Zct true lns)]):=by
  have hpn:=Znh hp
  have hh:∃r:(List Line),((r=Zkp boxes gap)∧(True))∧Zap Try.prog 37 [Zag false boxes,I gap] (Zac []) false (.arr 9223) (Zac [(9223,Zct true r)]):=by
    refine Zda (Φ:=fun r:(List Line)=>(r=Zkp boxes gap)∧(True)) [] (fun r=>[(9223,Zct true r)]) (fn:=Try.f37) (nt:=93) Try.func37 rfl rfl (args:=[Zag false boxes,I gap]) rfl (Zax (.inl ⟨rfl,Zbz false _⟩) (Zax (.inl ⟨rfl,trivial⟩) Zcz)) (res:=fun r=> .arr 9223) ?_
    refine xQ [] [0,1] [] [] trivial ?_
    refine xQ [(0,.new 12)] [0,1,5] [12] [] trivial (Zau ?_)
    refine xR [] [0,1,5,6] [12] [Zag false boxes,I gap,.arr 12,I 0] [some (.arr 1 0 (Zfu [] 1))] [] trivial (Zby ?_)
    refine Zfm [] (T:=[(0,Zag false boxes),(1,I gap),(5,.arr 12),(6,I 0)]) (O:=[(12,tAI ([]:List Int))]) rfl (⟨.inl rfl,.inl rfl,.inl rfl,.inl rfl,trivial⟩) (⟨.inr ⟨rfl,(by first|rfl|(simp;done)|(simp;omega)|omega),fun i_ hi_=>absurd hi_ (Nat.not_lt_zero _)⟩,trivial⟩) ?_
    refine Zfn (X:=(List Int)×Int) (fun x=>mkS [(0,Zag false boxes),(1,I gap),(5,.arr 12),(6,I x.2)] [(12,tAI x.1)]) (fun x=>(0≤x.2∧x.2≤(boxes.length:Int))∧(x.1=Zce (cH boxes) (ixL boxes.length) x.2.toNat)∧True) (fun x=>((boxes.length:Int)-x.2).toNat) (([]:List Int),0) rfl (show (0≤(0:Int)∧(0:Int)≤(boxes.length:Int))∧(([]:List Int)=Zce (cH boxes) (ixL boxes.length) (0:Int).toNat)∧True from ⟨om,(by rfl),trivial⟩) (fun x hI=> ?_)
    obtain ⟨od,k⟩:=x
    obtain ⟨hi0,hod,_⟩:(0≤k∧k≤(boxes.length:Int))∧(od=Zce (cH boxes) (ixL boxes.length) k.toNat)∧True:=hI
    show XW _ _ _ _ (mkS [(0,Zag false boxes),(1,I gap),(5,.arr 12),(6,I k)] [(12,tAI od)]) _ _
    refine Zau (Zau ?_)
    by_cases h1:k<(boxes.length:Int)
    ·have hi:k.toNat<boxes.length:=by omega
     have hnx:(k+1).toNat=k.toNat+1:=by omega
     have hix:(k.toNat:Int)=k:=by omega
     have hodn:od.length=k.toNat:=by rw [hod,Zer]
     have hodx:ixIn boxes.length od:=by rw [hod];intro x hx;exact Zlx (Q:=fun x=>0≤x∧x<(boxes.length:Int)) (fun x hx=>Zly.1 hx) _ (by rw [Zea];omega) x hx
     refine x_q [(3,.dec true)] [0,1,5,6,16] [12] [_] ⟨h1,trivial⟩ (Zad (Zib (Zca (Zad (Zau (Zby ?_))))))
     obtain ⟨out_1,hx1_0,hc1⟩:=Znv boxes od k true om om (by first|exact hodx|exact hlix)
     have hpt:=hx1_0
     have hptl:out_1.length=od.length+1:=by rw [hpt];exact Zya _ _
     refine x_q [(3,.lend [] [(8221,tAI out_1)] [(true,.any),(false,slI false od),(true,.any),(true,.any)] false (.arr 8221))] [0,1,5,6] [8221] [Zap Try.prog 69 [Zag false boxes,slI false od,I k,Bv true] (Zac []) false (.arr 8221) (Zac [(8221,tAI out_1)])∧((false=true→true=true)∧1=1∧od.length=od.length∧∀i_,i_<od.length→(fI od) i_=(fI od) i_∨(AV.idsL ((fI od) i_)=[]∧leL (fun _=>none) false ((fI od) i_) ((fI od) i_)))∧True] ⟨⟨hc1,⟨(fun h=>by cases h),rfl,rfl,fun i _=> .inl rfl⟩,trivial⟩,trivial⟩ (Zbt 1 (Zad ?_))
     refine x_r [] [0,1,5,6] [8221] [Zag false boxes,I gap,.arr 8221,I (k+1)] [some (tAI out_1)] [inR .i64 (k+1)] ⟨(Zah om om),trivial⟩ ?_
     refine Zdl [(12,8221)] (T:=[(0,Zag false boxes),(1,I gap),(5,.arr 12),(6,I (k+1))]) (O:=[(12,tAI out_1)]) rfl (⟨.inl rfl,.inl rfl,.inl rfl,.inl rfl,trivial⟩) (⟨.inl rfl,trivial⟩) (Zcs (out_1,(k+1)) rfl (show (0≤(k+1)∧(k+1)≤(boxes.length:Int))∧(out_1=Zce (cH boxes) (ixL boxes.length) (k+1).toNat)∧True from ⟨om,(by rw [hnx,hpt,if_pos rfl,Zce,Zgi hi,hix,←hod]),trivial⟩) (by first|(show (((boxes.length:Int)-(k+1)).toNat:Nat)<((boxes.length:Int)-k).toNat;omega)|(dsimp only;omega)))
    have hie:k.toNat=boxes.length:=by omega
    rw [hie,ordH_Y] at hod
    have hodl:od.length=boxes.length:=by rw [hod,Zdd]
    refine x_r [(3,.dec false)] [0,1,5,6,16] [12] [Zag false boxes,I gap,.arr 12,I k,Bv false] [some (tAI od)] [_] ⟨h1,trivial⟩ (Zad (Zde rfl (Zdy (Zbd ?_))))
    refine Zbj ?_
    refine Zbe (Zad ?_)
    refine xQ [(0,.new 23)] [0,1,5,7] [12,23] [] trivial (Zau ?_)
    refine xR [] [0,1,5,7,8] [12,23] [Zag false boxes,I gap,.arr 12,.arr 23,I 0] [some (tAI od),some (.arr 3 0 (Zfu [] 3))] [] trivial (Zby ?_)
    refine Zfm [] (T:=[(0,Zag false boxes),(1,I gap),(5,.arr 12),(7,.arr 23),(8,I 0)]) (O:=[(12,tAI od),(23,Zct true ([]:List Line))]) rfl (⟨.inl rfl,.inl rfl,.inl rfl,.inl rfl,.inl rfl,trivial⟩) (⟨.inl rfl,.inr ⟨rfl,(by first|rfl|(simp;done)|(simp;omega)|omega),fun i_ hi_=>absurd hi_ (Nat.not_lt_zero _)⟩,trivial⟩) ?_
    refine Zfn (X:=(List Line)×Int) (fun x=>mkS [(0,Zag false boxes),(1,I gap),(5,.arr 12),(7,.arr 23),(8,I x.2)] [(12,tAI od),(23,Zct true x.1)]) (fun x=>(0≤x.2∧x.2≤(od.length:Int))∧(x.1=(Zfk boxes gap (Zff boxes) x.2.toNat).map (Zhr boxes))∧True) (fun x=>((od.length:Int)-x.2).toNat) (([]:List Line),0) rfl (show (0≤(0:Int)∧(0:Int)≤(od.length:Int))∧(([]:List Line)=(Zfk boxes gap (Zff boxes) (0:Int).toNat).map (Zhr boxes))∧True from ⟨om,(by rfl),trivial⟩) (fun x hI=> ?_)
    obtain ⟨out,i⟩:=x
    obtain ⟨hi1,hout,_⟩:(0≤i∧i≤(od.length:Int))∧(out=(Zfk boxes gap (Zff boxes) i.toNat).map (Zhr boxes))∧True:=hI
    show XW _ _ _ _ (mkS [(0,Zag false boxes),(1,I gap),(5,.arr 12),(7,.arr 23),(8,I i)] [(12,tAI od),(23,Zct true out)]) _ _
    refine Zau (Zau ?_)
    by_cases h2:i<(od.length:Int)
    ·have hi:i.toNat<boxes.length:=by omega
     have hnx:(i+1).toNat=i.toNat+1:=by omega
     have hdi:(at_ od i.toNat)=at_ (Zff boxes) i.toNat:=by rw [hod]
     have hik:0≤(at_ od i.toNat)∧(at_ od i.toNat)<(boxes.length:Int):=by rw [hdi];exact Zyb hi
     have hbk:=Zgo hp (j:=(at_ od i.toNat).toNat) om
     have hlb:∀l∈(Zfk boxes gap (Zff boxes) i.toNat),lnB boxes i.toNat l:=Zlz hp (fun x hx=>Zes.1 hx) _ (by rw [Zdd];omega)
     have hll:(Zfk boxes gap (Zff boxes) i.toNat).length≤i.toNat:=Zma _ _ _ _
     have hon:out.length=(Zfk boxes gap (Zff boxes) i.toNat).length:=by rw [hout,List.length_map]
     refine x_q [(3,.dec true)] [0,1,5,7,8,27] [12,23] [_] ⟨h2,trivial⟩ (Zad (Zib (Zca (Zad (Zau (Zby ?_))))))
     refine xQ [(7,.new 9)] [0,1,5,7,8,9] [9,12,23] [(0:Int)≤i∧i<(od.length:Int),i.toNat<od.length,(0:Int)≤(at_ od i.toNat)∧(at_ od i.toNat)<(boxes.length:Int)] ⟨⟨om,om⟩,om,⟨om,om⟩,trivial⟩ ?_
     refine xQ [] [0,1,5,7,8,9,10] [9,12,23] [] trivial (Zau (Zau ?_))
     by_cases h3:(out.length:Int)=0
     ·have hay:=add_y (bs:=boxes) (gap:=gap) (ls:=(Zfk boxes gap (Zff boxes) i.toNat)) (k:=(at_ od i.toNat)) (.inl om)
      rw [←hout] at hay
      refine x_r [(1,.dec true)] [0,1,5,7,8,9,10,53] [9,12,23] [Zag false boxes,I gap,.arr 12,.arr 23,I i,.ref 9 0,I (out.length:Int),Bv true] [some (Zgu (at_ boxes ((at_ od i.toNat).toNat))),some (tAI od),some (Zct true out)] [_] ⟨h3,trivial⟩ (Zad (Zfv rfl (Zau ?_)))
      refine Zfm [] (T:=[(0,Zag false boxes),(1,I gap),(5,.arr 12),(7,.arr 23),(8,I i),(9,.ref 9 0),(10,I (out.length:Int)),(53,Bv true)]) (O:=[(9,Zgu (at_ boxes ((at_ od i.toNat).toNat))),(12,tAI od),(23,.oar [] 3 out.length (Zcd true out))]) rfl (⟨.inl rfl,.inl rfl,.inl rfl,.inl rfl,.inl rfl,.inl rfl,.inl rfl,.inl rfl,trivial⟩) (⟨.inl rfl,.inl rfl,.inr ⟨rfl,rfl,fun i hi=>rfl⟩,trivial⟩) ?_
      refine x_q [(9,.new 63),(11,.new 65),(12,.new 66)] [0,1,5,7,8] [12,63,66] [(0:Int)≤i∧i<(od.length:Int),i.toNat<od.length,(out.length+1)*40≤140737488355328] ⟨⟨om,om⟩,om,om,trivial⟩ (Zad (Zdy (Zbd (Zbe (Zad ?_)))))
      refine x_r [] [0,1,5,7,8] [12,63,66] [Zag false boxes,I gap,.arr 12,.arr 66,I (i+1)] [some (tAI od),some (.arr 1 1 (Zfu [I (at_ od i.toNat)] 1)),some (.oar [63] 3 (out.length+1) (Zgd out.length (Zcd true out) (Zfu [I ((at_ boxes ((at_ od i.toNat).toNat)).Y1),I ((at_ boxes ((at_ od i.toNat).toNat)).Y2),.arr 63] 3)))] [inR .i64 (i+1)] ⟨(Zah om om),trivial⟩ ?_
      refine Zdl [(23,66)] (T:=[(0,Zag false boxes),(1,I gap),(5,.arr 12),(7,.arr 23),(8,I (i+1))]) (O:=[(12,tAI od),(23,Zct true (out++[(Line.mk ((at_ boxes ((at_ od i.toNat).toNat)).Y1) ((at_ boxes ((at_ od i.toNat).toNat)).Y2) ([(at_ od i.toNat)]))]))]) rfl (⟨.inl rfl,.inl rfl,.inl rfl,.inl rfl,.inl rfl,trivial⟩) (⟨.inl rfl,.inr ⟨rfl,(by simp),Zul out (Line.mk ((at_ boxes ((at_ od i.toNat).toNat)).Y1) ((at_ boxes ((at_ od i.toNat).toNat)).Y2) ([(at_ od i.toNat)])) ⟨rfl,⟨rfl,⟨⟨(fun _=>rfl),rfl,(by first|rfl|(simp;done)|(simp;omega)|omega),fun i_ hi_=> .inl (match i_,hi_ with|0,_=>rfl|(i+1),h=>absurd h (by simp))⟩,rfl⟩⟩⟩⟩,trivial⟩) (Zcs ((out++[(Line.mk ((at_ boxes ((at_ od i.toNat).toNat)).Y1) ((at_ boxes ((at_ od i.toNat).toNat)).Y2) ([(at_ od i.toNat)]))]),(i+1)) rfl (show (0≤(i+1)∧(i+1)≤(od.length:Int))∧((out++[(Line.mk ((at_ boxes ((at_ od i.toNat).toNat)).Y1) ((at_ boxes ((at_ od i.toNat).toNat)).Y2) ([(at_ od i.toNat)]))])=(Zfk boxes gap (Zff boxes) (i+1).toNat).map (Zhr boxes))∧True from ⟨om,(by rw [hnx];show _=(Zgv boxes gap (Zfk boxes gap (Zff boxes) i.toNat) (at_ (Zff boxes) i.toNat)).map (Zhr boxes);rw [←hdi];first|exact hay.symm|(rw [han,hpt,if_neg (by decide)])),trivial⟩) (by first|(show (((od.length:Int)-(i+1)).toNat:Nat)<((od.length:Int)-i).toNat;omega)|(dsimp only;omega)))
     have hal:at_ out ((out.length:Int)-1).toNat=Zhr boxes (Zdf (Zfk boxes gap (Zff boxes) i.toNat)):=by rw [hout,show (((((Zfk boxes gap (Zff boxes) i.toNat).map (Zhr boxes)).length:Nat):Int)-1).toNat=(Zfk boxes gap (Zff boxes) i.toNat).length-1 from by rw [List.length_map];omega,Zid om];rfl
     have hlq:=hlb _ (Zla (ls:=(Zfk boxes gap (Zff boxes) i.toNat)) om)
     have hlq1:=hlq.1
     have hbt:(at_ out ((out.length:Int)-1).toNat).Bottom=(Zdf (Zfk boxes gap (Zff boxes) i.toNat)).Bottom:=by rw [hal];rfl
     have hlix:ixIn boxes.length (at_ out ((out.length:Int)-1).toNat).Items:=by rw [hal];exact ix_perm hlq.2.1
     have hlin:(at_ out ((out.length:Int)-1).toNat).Items.length≤60:=by rw [hal];show (Zce _ _ _).length≤60;rw [Zer];have:=hlq.2.2;omega
     by_cases h4:(((at_ out (((out.length:Int)-1).toNat)).Bottom)+gap)<((at_ boxes ((at_ od i.toNat).toNat)).Y1)
     ·have hay:=add_y (bs:=boxes) (gap:=gap) (ls:=(Zfk boxes gap (Zff boxes) i.toNat)) (k:=(at_ od i.toNat)) (.inr (by rw [←hbt];exact h4))
      rw [←hout] at hay
      refine x_r [(1,.dec false),(13,.dec true)] [0,1,5,7,8,9,10,53] [9,12,23] [Zag false boxes,I gap,.arr 12,.arr 23,I i,.ref 9 0,I (out.length:Int),Bv true] [some (Zgu (at_ boxes ((at_ od i.toNat).toNat))),some (tAI od),some (Zct true out)] [_,inR .i64 ((out.length:Int)-1),(0:Int)≤((out.length:Int)-1)∧((out.length:Int)-1)<(out.length:Int),((out.length:Int)-1).toNat<out.length,inR .i64 (((at_ out (((out.length:Int)-1).toNat)).Bottom)+gap),_] ⟨h3,(Zah om om),⟨om,om⟩,om,(Zah om om),h4,trivial⟩ (Zad (Zfv rfl (Zau ?_)))
      refine Zfm [] (T:=[(0,Zag false boxes),(1,I gap),(5,.arr 12),(7,.arr 23),(8,I i),(9,.ref 9 0),(10,I (out.length:Int)),(53,Bv true)]) (O:=[(9,Zgu (at_ boxes ((at_ od i.toNat).toNat))),(12,tAI od),(23,.oar [] 3 out.length (Zcd true out))]) rfl (⟨.inl rfl,.inl rfl,.inl rfl,.inl rfl,.inl rfl,.inl rfl,.inl rfl,.inl rfl,trivial⟩) (⟨.inl rfl,.inl rfl,.inr ⟨rfl,rfl,fun i hi=>rfl⟩,trivial⟩) ?_
      refine x_q [(9,.new 63),(11,.new 65),(12,.new 66)] [0,1,5,7,8] [12,63,66] [(0:Int)≤i∧i<(od.length:Int),i.toNat<od.length,(out.length+1)*40≤140737488355328] ⟨⟨om,om⟩,om,om,trivial⟩ (Zad (Zdy (Zbd (Zbe (Zad ?_)))))
      refine x_r [] [0,1,5,7,8] [12,63,66] [Zag false boxes,I gap,.arr 12,.arr 66,I (i+1)] [some (tAI od),some (.arr 1 1 (Zfu [I (at_ od i.toNat)] 1)),some (.oar [63] 3 (out.length+1) (Zgd out.length (Zcd true out) (Zfu [I ((at_ boxes ((at_ od i.toNat).toNat)).Y1),I ((at_ boxes ((at_ od i.toNat).toNat)).Y2),.arr 63] 3)))] [inR .i64 (i+1)] ⟨(Zah om om),trivial⟩ ?_
      refine Zdl [(23,66)] (T:=[(0,Zag false boxes),(1,I gap),(5,.arr 12),(7,.arr 23),(8,I (i+1))]) (O:=[(12,tAI od),(23,Zct true (out++[(Line.mk ((at_ boxes ((at_ od i.toNat).toNat)).Y1) ((at_ boxes ((at_ od i.toNat).toNat)).Y2) ([(at_ od i.toNat)]))]))]) rfl (⟨.inl rfl,.inl rfl,.inl rfl,.inl rfl,.inl rfl,trivial⟩) (⟨.inl rfl,.inr ⟨rfl,(by simp),Zul out (Line.mk ((at_ boxes ((at_ od i.toNat).toNat)).Y1) ((at_ boxes ((at_ od i.toNat).toNat)).Y2) ([(at_ od i.toNat)])) ⟨rfl,⟨rfl,⟨⟨(fun _=>rfl),rfl,(by first|rfl|(simp;done)|(simp;omega)|omega),fun i_ hi_=> .inl (match i_,hi_ with|0,_=>rfl|(i+1),h=>absurd h (by simp))⟩,rfl⟩⟩⟩⟩,trivial⟩) (Zcs ((out++[(Line.mk ((at_ boxes ((at_ od i.toNat).toNat)).Y1) ((at_ boxes ((at_ od i.toNat).toNat)).Y2) ([(at_ od i.toNat)]))]),(i+1)) rfl (show (0≤(i+1)∧(i+1)≤(od.length:Int))∧((out++[(Line.mk ((at_ boxes ((at_ od i.toNat).toNat)).Y1) ((at_ boxes ((at_ od i.toNat).toNat)).Y2) ([(at_ od i.toNat)]))])=(Zfk boxes gap (Zff boxes) (i+1).toNat).map (Zhr boxes))∧True from ⟨om,(by rw [hnx];show _=(Zgv boxes gap (Zfk boxes gap (Zff boxes) i.toNat) (at_ (Zff boxes) i.toNat)).map (Zhr boxes);rw [←hdi];first|exact hay.symm|(rw [han,hpt,if_neg (by decide)])),trivial⟩) (by first|(show (((od.length:Int)-(i+1)).toNat:Nat)<((od.length:Int)-i).toNat;omega)|(dsimp only;omega)))
     have han:=add_n (bs:=boxes) (gap:=gap) (ls:=(Zfk boxes gap (Zff boxes) i.toNat)) (os:=out) (k:=(at_ od i.toNat)) (fun q=>by rcases q with q|q;omega;(rw [←hbt] at q;exact h4 q)) hout (p:=((out.length:Int)-1).toNat) om
     refine x_q [(1,.dec false),(13,.dec false)] [0,1,5,7,8,9,10,53] [9,12,23] [_,inR .i64 ((out.length:Int)-1),(0:Int)≤((out.length:Int)-1)∧((out.length:Int)-1)<(out.length:Int),((out.length:Int)-1).toNat<out.length,inR .i64 (((at_ out (((out.length:Int)-1).toNat)).Bottom)+gap),_] ⟨h3,(Zah om om),⟨om,om⟩,om,(Zah om om),h4,trivial⟩ (Zad (Ziv (Zca (Zad ?_))))
     refine xR [(5,.new 11)] [0,1,5,7,8,9,10,11] [9,11,12,23] [Zag false boxes,I gap,.arr 12,.arr 23,I i,.ref 9 0,I (out.length:Int),.ref 11 0] [some (Zgu (at_ boxes ((at_ od i.toNat).toNat))),some (Zgm (at_ out (((out.length:Int)-1).toNat))),some (tAI od),some (Zct true out)] [inR .i64 ((out.length:Int)-1),(0:Int)≤((out.length:Int)-1)∧((out.length:Int)-1)<(out.length:Int),((out.length:Int)-1).toNat<out.length] ⟨(Zah om om),⟨om,om⟩,om,trivial⟩ ?_
     refine Zfm [] (T:=[(0,Zag false boxes),(1,I gap),(5,.arr 12),(7,.arr 23),(8,I i),(9,.ref 9 0),(10,I (out.length:Int)),(11,.ref 11 0)]) (O:=[(9,Zgu (at_ boxes ((at_ od i.toNat).toNat))),(11,Zgm (at_ out (((out.length:Int)-1).toNat))),(12,tAI od),(23,.oar [] 3 out.length (Zcd true out))]) rfl (⟨.inl rfl,.inl rfl,.inl rfl,.inl rfl,.inl rfl,.inl rfl,.inl rfl,.inl rfl,trivial⟩) (⟨.inl rfl,.inl rfl,.inl rfl,.inr ⟨rfl,rfl,fun i hi=>rfl⟩,trivial⟩) ?_
     obtain ⟨out_2,hx2_0,hc2⟩:=Znv boxes ((at_ out (((out.length:Int)-1).toNat)).Items) (at_ od i.toNat) false om om (by first|exact hodx|exact hlix)
     have hpt:=hx2_0
     have hptl:out_2.length=((at_ out (((out.length:Int)-1).toNat)).Items).length+1:=by rw [hpt];exact Zya _ _
     refine x_q [(9,.call [(true,.any),(true,.any)] true (I (max ((at_ out (((out.length:Int)-1).toNat)).Bottom) ((at_ boxes ((at_ od i.toNat).toNat)).Y2)))),(17,.lend [] [(8221,tAI out_2)] [(true,.any),(false,slI false ((at_ out (((out.length:Int)-1).toNat)).Items)),(true,.any),(true,.any)] false (.arr 8221))] [0,1,5,7,8] [12,23,8221] [inR .i64 ((out.length:Int)-1),_∧True,(0:Int)≤i∧i<(od.length:Int),i.toNat<od.length,Zap Try.prog 69 [Zag false boxes,slI false ((at_ out (((out.length:Int)-1).toNat)).Items),I (at_ od i.toNat),Bv false] (Zac []) false (.arr 8221) (Zac [(8221,tAI out_2)])∧((false=true→true=true)∧1=1∧(((at_ out (((out.length:Int)-1).toNat)).Items).length)=(((at_ out (((out.length:Int)-1).toNat)).Items).length)∧∀i_,i_<(((at_ out (((out.length:Int)-1).toNat)).Items).length)→(fI ((at_ out (((out.length:Int)-1).toNat)).Items)) i_=(fI ((at_ out (((out.length:Int)-1).toNat)).Items)) i_∨(AV.idsL ((fI ((at_ out (((out.length:Int)-1).toNat)).Items)) i_)=[]∧leL (fun _=>none) false ((fI ((at_ out (((out.length:Int)-1).toNat)).Items)) i_) ((fI ((at_ out (((out.length:Int)-1).toNat)).Items)) i_)))∧True,(0:Int)≤((out.length:Int)-1)∧((out.length:Int)-1)<(out.length:Int),((out.length:Int)-1).toNat<out.length] ⟨(Zah om om),⟨(Zmb ((at_ out (((out.length:Int)-1).toNat)).Bottom) ((at_ boxes ((at_ od i.toNat).toNat)).Y2)),trivial⟩,⟨om,om⟩,om,⟨hc2,⟨(fun h=>by cases h),rfl,rfl,fun i _=> .inl rfl⟩,trivial⟩,⟨om,om⟩,om,trivial⟩ (Zbt 3 (Zad ?_))
     refine x_r [] [0,1,5,7,8] [12,23,8221] [Zag false boxes,I gap,.arr 12,.arr 23,I (i+1)] [some (tAI od),some (.oar [8221] 3 out.length (fun q=>bif Nat.beq q (((out.length:Int)-1).toNat) then [I ((at_ out (((out.length:Int)-1).toNat)).Top),I (max ((at_ out (((out.length:Int)-1).toNat)).Bottom) ((at_ boxes ((at_ od i.toNat).toNat)).Y2)),.arr 8221] else (Zcd true out) q)),some (tAI out_2)] [inR .i64 (i+1)] ⟨(Zah om om),trivial⟩ ?_
     refine Zdl [] (T:=[(0,Zag false boxes),(1,I gap),(5,.arr 12),(7,.arr 23),(8,I (i+1))]) (O:=[(12,tAI od),(23,Zct true (out.set (((out.length:Int)-1).toNat) (Line.mk ((at_ out (((out.length:Int)-1).toNat)).Top) (max ((at_ out (((out.length:Int)-1).toNat)).Bottom) ((at_ boxes ((at_ od i.toNat).toNat)).Y2)) out_2)))]) rfl (⟨.inl rfl,.inl rfl,.inl rfl,.inl rfl,.inl rfl,trivial⟩) (⟨.inl rfl,.inr ⟨rfl,(by simp),oupdLine out (((out.length:Int)-1).toNat) (Line.mk ((at_ out (((out.length:Int)-1).toNat)).Top) (max ((at_ out (((out.length:Int)-1).toNat)).Bottom) ((at_ boxes ((at_ od i.toNat).toNat)).Y2)) out_2) ⟨rfl,⟨rfl,⟨⟨(fun _=>rfl),rfl,rfl,fun i _=> .inl rfl⟩,rfl⟩⟩⟩⟩,trivial⟩) (Zcs ((out.set (((out.length:Int)-1).toNat) (Line.mk ((at_ out (((out.length:Int)-1).toNat)).Top) (max ((at_ out (((out.length:Int)-1).toNat)).Bottom) ((at_ boxes ((at_ od i.toNat).toNat)).Y2)) out_2)),(i+1)) rfl (show (0≤(i+1)∧(i+1)≤(od.length:Int))∧((out.set (((out.length:Int)-1).toNat) (Line.mk ((at_ out (((out.length:Int)-1).toNat)).Top) (max ((at_ out (((out.length:Int)-1).toNat)).Bottom) ((at_ boxes ((at_ od i.toNat).toNat)).Y2)) out_2))=(Zfk boxes gap (Zff boxes) (i+1).toNat).map (Zhr boxes))∧True from ⟨om,(by rw [hnx];show _=(Zgv boxes gap (Zfk boxes gap (Zff boxes) i.toNat) (at_ (Zff boxes) i.toNat)).map (Zhr boxes);rw [←hdi];first|exact hay.symm|(rw [han,hpt,if_neg (by decide)])),trivial⟩) (by first|(show (((od.length:Int)-(i+1)).toNat:Nat)<((od.length:Int)-i).toNat;omega)|(dsimp only;omega)))
    have hfin:out=Zkp boxes gap:=by rw [hout,show i.toNat=boxes.length from by omega];rfl
    refine x_r [(3,.dec false)] [0,1,5,7,8,27] [12,23] [Zag false boxes,I gap,.arr 12,.arr 23,I i,Bv false] [some (tAI od),some (Zct true out)] [_] ⟨h2,trivial⟩ (Zad (Zde rfl (Zdy (Zbd ?_))))
    refine Zbj ?_
    refine Zbe (Zad ?_)
    refine xR [] [4] [23] [.arr 23] [some (Zct true out)] [] trivial (Zcl ?_)
    refine Zdl [(9223,23)] (T:=[(4,.arr 9223)]) (O:=[(9223,Zct true out)]) rfl (⟨.inl rfl,trivial⟩) (⟨.inl rfl,trivial⟩) ?_
    refine Zbs out (show (out=Zkp boxes gap)∧(True) from ⟨(by exact hfin),trivial⟩) (⟨.inl rfl,trivial⟩) (.arr 9223) (by kernel_rfl) (.inl rfl) (fun h=>by cases h) (fun h=>by cases h)
  obtain ⟨lns,⟨hh0,_⟩,hc⟩:=hh
  exact ⟨lns,hh0,hc⟩
theorem Zmn (boxes:List Box) (gap:Int) (hs:Zbx boxes=true→smB boxes):∃(v:List Line) (c:Int),((v,c)=Zcm boxes gap)∧Con Try.prog 8 [Zag false boxes,I gap] true (.tup [Zan true v,I c]):=by
  have hh:∃r:(List Line)×Int,(((r.1,r.2)=Zcm boxes gap)∧(True))∧Zap Try.prog 8 [Zag false boxes,I gap] (Zac []) true (.tup [Zan true r.1,I r.2]) (Zac []):=by
    refine Zda (Φ:=fun r:(List Line)×Int=>((r.1,r.2)=Zcm boxes gap)∧(True)) [] (fun r=>[]) (fn:=Try.f8) (nt:=15) Try.func8 rfl rfl (args:=[Zag false boxes,I gap]) rfl (Zax (.inl ⟨rfl,Zbz false _⟩) (Zax (.inl ⟨rfl,trivial⟩) Zcz)) (res:=fun r=> .tup [Zan true r.1,I r.2]) ?_
    refine xQ [] [0,1] [] [] trivial (Zau (Zau ?_))
    rcases Bool.eq_false_or_eq_true (Zbx boxes) with h1|h1
    ·have hsm:=hs h1
     refine x_q [(1,.call [(true,.any)] true (Bv true))] [0,1,8] [] [Con Try.prog 35 [Zag false boxes] true (Bv true)∧True] ⟨⟨(Zas h1 (Zmc boxes)),trivial⟩,trivial⟩ (Zad (Ziv (Zca (Zad (Zau (Zau ?_))))))
     rcases Bool.eq_false_or_eq_true (inB gap 0 4095) with h2|h2
     ·have hgp:=Zfz.1 h2
      have hst:=lr_ok h1 h2
      refine x_q [(1,.call [(true,.any)] true (Bv true))] [0,1,11] [] [Con Try.prog 36 [I gap] true (Bv true)∧True] ⟨⟨(Zas h2 (Zrh gap)),trivial⟩,trivial⟩ (Zad (Ziv (Zca (Zad (Zau ?_)))))
      obtain ⟨lns_1,hx1_0,hc1⟩:=Zio boxes gap h1 om
      have hlv:=hx1_0
      refine x_r [(2,.lend [] [(9223,Zct true lns_1)] [(true,.any),(true,.any)] false (.arr 9223))] [4,5] [9223] [.arr 9223,I 0] [some (Zct true lns_1)] [Zap Try.prog 37 [Zag false boxes,I gap] (Zac []) false (.arr 9223) (Zac [(9223,Zct true lns_1)])∧True] ⟨⟨hc1,trivial⟩,trivial⟩ (Zad (Zcl ?_))
      refine Zbs (lns_1,0) (show ((lns_1,0)=Zcm boxes gap)∧(True) from ⟨(by first|exact hst.symm|(rw [hst,←hlv])|(rw [hst,hlv])),trivial⟩) (trivial) (.tup [.arr 9223,I 0]) (by kernel_rfl) (.inr ⟨⟨(fun _=>rfl),rfl,rfl,fun i _=> .inl rfl⟩,⟨rfl,rfl⟩⟩) (fun _=>rfl) (fun _=>(by simp [Zaj,Zaf,Zdw]))
     have hst:=lr_rng h1 h2
     refine x_q [(1,.call [(true,.any)] true (Bv false))] [0,1,11] [] [Con Try.prog 36 [I gap] true (Bv false)∧True] ⟨⟨(Zas h2 (Zrh gap)),trivial⟩,trivial⟩ (Zad (Zib ?_))
     refine xR [] [4,5] [] [Zni,I 2] [] [] trivial (Zcl (Zcy ?_))
     refine Zbs (([]:List Line),2) (show ((([]:List Line),2)=Zcm boxes gap)∧(True) from ⟨(by first|exact hst.symm|(rw [hst,←hlv])|(rw [hst,hlv])),trivial⟩) (trivial) (.tup [Zni,I 2]) (by kernel_rfl) (.inr ⟨⟨rfl,rfl⟩,⟨rfl,rfl⟩⟩) (fun _=>rfl) (fun _=>(by simp [Zaj,Zaf,Zdw]))
    have hst:=lr_inv (gap:=gap) h1
    refine x_q [(1,.call [(true,.any)] true (Bv false))] [0,1,8] [] [Con Try.prog 35 [Zag false boxes] true (Bv false)∧True] ⟨⟨(Zas h1 (Zmc boxes)),trivial⟩,trivial⟩ (Zad (Zib ?_))
    refine xR [] [4,5] [] [Zni,I 1] [] [] trivial (Zcl (Zcy ?_))
    refine Zbs (([]:List Line),1) (show ((([]:List Line),1)=Zcm boxes gap)∧(True) from ⟨(by first|exact hst.symm|(rw [hst,←hlv])|(rw [hst,hlv])),trivial⟩) (trivial) (.tup [Zni,I 1]) (by kernel_rfl) (.inr ⟨⟨rfl,rfl⟩,⟨rfl,rfl⟩⟩) (fun _=>rfl) (fun _=>(by simp [Zaj,Zaf,Zdw]))
  obtain ⟨⟨v,c⟩,⟨hh0,_⟩,hc⟩:=hh
  exact ⟨v,c,hh0,hc⟩
theorem Zle (code:List Int) (hc:(∀j,j<code.length→0≤at_ code j∧at_ code j≤255)∧code.length≤4611686018427387904):∃(a:Line) (b:Line),Con Try.prog 9 [Zcu false code] true (.tup [Zex a,Zex b]):=by
  have hh:∃r:Line×Line,(True)∧Zap Try.prog 9 [Zcu false code] (Zac []) true (.tup [Zex r.1,Zex r.2]) (Zac []):=by
    refine Zda (Φ:=fun r:Line×Line=>True) [] (fun r=>[]) (fn:=Try.f9) (nt:=56) Try.func9 rfl rfl (args:=[Zcu false code]) rfl (Zax (.inl ⟨rfl,Zcc false _⟩) Zcz) (res:=fun r=> .tup [Zex r.1,Zex r.2]) ?_
    refine xQ [(0,.new 2),(1,.new 3)] [0,2,3] [2,3] [] trivial (Zau ?_)
    obtain ⟨s'_1,hx1_0,hc1⟩:=Zka code
    have hsrc:Zbb s'_1:=⟨by rw [hx1_0.1];exact hc.1,by rw [hx1_0.2];decide,by rw [hx1_0.1];exact hc.2⟩
    have hat0:=hx1_0.2
    refine x_q [(1,.lend [] [(7001,Zaa s'_1)] [(true,.any)] false (.ref 7001 0))] [2,3,4] [2,3,7001] [Zap Try.prog 29 [Zcu false code] (Zac []) false (.ref 7001 0) (Zac [(7001,Zaa s'_1)])∧True] ⟨⟨hc1,trivial⟩,trivial⟩ (Zad (Zau ?_))
    obtain ⟨s'_2,bs_2,hx2_0,hx2_1,hx2_2,hx2_3,hx2_4,hc2⟩:=Zip s'_1 (by first|assumption|(simp only [Zbb] at*;simp_all;done)) om
    have hdr:=hx2_4
    have hdl:=hx2_0
    have hpg:=Zyc om hdr
    obtain ⟨lns_3,hx3_0,hc3⟩:=Zio bs_2 5 hpg om
    have hls:=hx3_0
    have hln:=Ztg (gap:=5) hpg
    rw [←hls] at hln
    refine x_q [(1,.lend [(7001,Zaa s'_1,Zaa s'_2)] [(8231,Zfd bs_2)] [(true,.any)] false (.arr 8231)),(2,.lend [] [(9223,Zct true lns_3)] [(false,Zag false bs_2),(true,.any)] false (.arr 9223))] [2,3,4,5] [2,3,7001,9223] [Zap Try.prog 38 [.ref 7001 0] (Zac [(7001,Zaa s'_1)]) false (.arr 8231) (Zac [(7001,Zaa s'_2),(8231,Zfd bs_2)])∧(((Zaa s'_1:Ob)=Zaa s'_1∨Zdt Zdh true (Zaa s'_1) (Zaa s'_1))∧Zal false (Zaa s'_1))∧True,Zap Try.prog 37 [Zag false bs_2,I 5] (Zac []) false (.arr 9223) (Zac [(9223,Zct true lns_3)])∧((false=true→true=true)∧4=4∧bs_2.length=bs_2.length∧∀i_,i_<bs_2.length→(Zdi bs_2) i_=(Zdi bs_2) i_∨(AV.idsL ((Zdi bs_2) i_)=[]∧leL (fun _=>none) false ((Zdi bs_2) i_) ((Zdi bs_2) i_)))∧True] ⟨⟨hc2,⟨.inl rfl,(by simp [Zal,Zaf,Zaj,Zcc])⟩,trivial⟩,⟨hc3,⟨(fun h=>by cases h),rfl,rfl,fun i _=> .inl rfl⟩,trivial⟩,trivial⟩ (Zad (Zau (Zau ?_)))
    by_cases h1:(lns_3.length:Int)=0
    ·refine x_r [(2,.dec true)] [2,3,4,5,15] [2,3,7001,9223] [.ref 2 0,.ref 3 0,.ref 7001 0,.arr 9223,Bv true] [some (.box [I 0,I 0,Zni]),some (.box [I 0,I 0,Zni]),some (Zaa s'_2),some (Zct true lns_3)] [_] ⟨h1,trivial⟩ (Zad (Zfv rfl (Zau ?_)))
     obtain ⟨v_4,s'_4,hx4_0,hx4_1,hx4_2,hx4_3,hc4⟩:=Zcv s'_2 2 (by first|assumption|(simp only [Zbb] at*;simp_all;done)) om
     refine x_r [(2,.lend [(7001,Zaa s'_2,Zaa s'_4)] [] [(true,.any),(true,.any)] true (I v_4)),(3,.new 19)] [2,3] [2,3,19] [.ref 2 0,.ref 3 0] [some (.box [I 0,I 0,Zni]),some (.box [I 0,I 0,.arr 19]),some (.arr 1 1 (Zfu [I v_4] 1))] [Zap Try.prog 39 [.ref 7001 0,I 2] (Zac [(7001,Zaa s'_2)]) true (I v_4) (Zac [(7001,Zaa s'_4)])∧(((Zaa s'_2:Ob)=Zaa s'_2∨Zdt Zdh true (Zaa s'_2) (Zaa s'_2))∧Zal false (Zaa s'_2))∧True] ⟨⟨hc4,⟨.inl rfl,(by simp [Zal,Zaf,Zaj,Zcc])⟩,trivial⟩,trivial⟩ (Zad (Zcl (Zcy ?_)))
     refine Zbs ((Line.mk 0 0 ([]:List Int)),(Line.mk 0 0 ([v_4]))) trivial (trivial) (.tup [.agg [I 0,I 0,Zni],.agg [I 0,I 0,.arr 19]]) (by kernel_rfl) (.inr ⟨⟨rfl,⟨rfl,⟨⟨rfl,rfl⟩,rfl⟩⟩⟩,⟨⟨rfl,⟨rfl,⟨⟨(fun _=>rfl),rfl,(by first|rfl|(simp;done)|(simp;omega)|omega),fun i_ hi_=> .inl (match i_,hi_ with|0,_=>rfl|(i+1),h=>absurd h (by simp))⟩,rfl⟩⟩⟩,rfl⟩⟩) (fun _=>rfl) (fun _=>(by simp [Zaj,Zaf,Zje]))
    have hl0:=hln.1 _ (Zbf (xs:=lns_3) (i:=0) om)
    have hl1:=hl0.1
    have hl2:=hl0.2.1 _ (Zbf (i:=0) om)
    have hl3:=hl0.2.2
    refine x_q [(2,.dec false)] [2,3,4,5,15] [2,3,7001,9223] [_] ⟨h1,trivial⟩ (Zad (Ziv (Zca (Zad ?_))))
    refine xQ [(3,.new 6)] [2,3,4,6] [2,3,6,7001] [(0:Int)≤0∧0<(lns_3.length:Int),0<lns_3.length] ⟨⟨om,om⟩,om,trivial⟩ (Zau ?_)
    obtain ⟨out_5,hx5_0,hc5⟩:=Zhp ((at_ lns_3 0).Items) om
    have hol1:out_5.length=((at_ lns_3 0).Items).length:=by rw [hx5_0]
    have hol2:=hl0.2.1 _ (Zbf (i:=0) om)
    rw [←hx5_0] at hol2
    refine x_q [(6,.lend [] [(8201,tAI out_5)] [(false,slI false ((at_ lns_3 0).Items))] false (.arr 8201)),(8,.new 7)] [2,3,4,6,7] [2,3,6,7,7001,8201] [Zap Try.prog 40 [slI false ((at_ lns_3 0).Items)] (Zac []) false (.arr 8201) (Zac [(8201,tAI out_5)])∧((false=true→true=true)∧1=1∧(((at_ lns_3 0).Items).length)=(((at_ lns_3 0).Items).length)∧∀i_,i_<(((at_ lns_3 0).Items).length)→(fI ((at_ lns_3 0).Items)) i_=(fI ((at_ lns_3 0).Items)) i_∨(AV.idsL ((fI ((at_ lns_3 0).Items)) i_)=[]∧leL (fun _=>none) false ((fI ((at_ lns_3 0).Items)) i_) ((fI ((at_ lns_3 0).Items)) i_)))∧True] ⟨⟨hc5,⟨(fun h=>by cases h),rfl,rfl,fun i _=> .inl rfl⟩,trivial⟩,trivial⟩ (Zad (Zau (Zau ?_)))
    obtain ⟨v_6,s'_6,hx6_0,hx6_1,hx6_2,hx6_3,hc6⟩:=Zcv s'_2 4 (by first|assumption|(simp only [Zbb] at*;simp_all;done)) om
    refine x_r [(1,.lend [(7001,Zaa s'_2,Zaa s'_6)] [] [(true,.any),(true,.any)] true (I v_6))] [2,3,6,7,33] [2,3,6,7,8201] [.ref 2 0,.ref 3 0,.ref 6 0,.ref 7 0,I v_6] [some (.box [I 0,I 0,Zni]),some (.box [I 0,I 0,Zni]),some (Zgm (at_ lns_3 0)),some (.box [I ((at_ lns_3 0).Top),I ((at_ lns_3 0).Bottom),.arr 8201]),some (tAI out_5)] [Zap Try.prog 39 [.ref 7001 0,I 4] (Zac [(7001,Zaa s'_2)]) true (I v_6) (Zac [(7001,Zaa s'_6)])∧(((Zaa s'_2:Ob)=Zaa s'_2∨Zdt Zdh true (Zaa s'_2) (Zaa s'_2))∧Zal false (Zaa s'_2))∧True] ⟨⟨hc6,⟨.inl rfl,(by simp [Zal,Zaf,Zaj,Zcc])⟩,trivial⟩,trivial⟩ (Zad (Zby (Zau ?_)))
    by_cases h2:v_6=0
    ·refine x_q [(0,.dec true)] [2,3,6,7,33,34] [2,3,6,7,8201] [_] ⟨h2,trivial⟩ (Zad (Zib ?_))
     refine x_q [] [2,3,6,7] [2,3,6,7,8201] [inR .i64 (((at_ lns_3 0).Top)+1)] ⟨(Zah om om),trivial⟩ (Zbt 0 (Zad ?_))
     refine xR [] [2,3] [2,3,8201] [.ref 2 0,.ref 3 0] [some (Zgm (at_ lns_3 0)),some (.box [I (((at_ lns_3 0).Top)+1),I ((at_ lns_3 0).Bottom),.arr 8201]),some (tAI out_5)] [] trivial (Zcl ?_)
     refine Zbs ((at_ lns_3 0),(Line.mk (((at_ lns_3 0).Top)+1) ((at_ lns_3 0).Bottom) out_5)) trivial (trivial) (.tup [Zex (at_ lns_3 0),.agg [I (((at_ lns_3 0).Top)+1),I ((at_ lns_3 0).Bottom),.arr 8201]]) (by kernel_rfl) (.inr ⟨⟨rfl,⟨rfl,⟨⟨(fun _=>rfl),rfl,rfl,fun i _=> .inl rfl⟩,rfl⟩⟩⟩,⟨⟨rfl,⟨rfl,⟨⟨(fun _=>rfl),rfl,rfl,fun i _=> .inl rfl⟩,rfl⟩⟩⟩,rfl⟩⟩) (fun _=>rfl) (fun _=>(by simp [Zaj,Zaf,Zje]))
    refine x_q [(0,.dec false)] [2,3,6,7,33,34] [2,3,6,7,8201] [_] ⟨h2,trivial⟩ (Zad (Ziv (Zau ?_)))
    by_cases h3:v_6=1
    ·refine x_q [(0,.dec true)] [2,3,6,7,33,40] [2,3,6,7,8201] [_] ⟨h3,trivial⟩ (Zad (Zib ?_))
     refine x_q [] [2,3,6,7] [2,3,6,7,8201] [(0:Int)≤0∧0<(out_5.length:Int),0<out_5.length,inR .i64 ((at_ out_5 0)+1),(0:Int)≤0∧0<(out_5.length:Int),0<out_5.length] ⟨⟨om,om⟩,om,(Zah om om),⟨om,om⟩,om,trivial⟩ (Zbt 0 (Zad ?_))
     refine xR [] [2,3] [2,3,8201] [.ref 2 0,.ref 3 0] [some (Zgm (at_ lns_3 0)),some (.box [I ((at_ lns_3 0).Top),I ((at_ lns_3 0).Bottom),.arr 8201]),some (.arr 1 out_5.length (fun q=>bif Nat.beq q 0 then [I ((at_ out_5 0)+1)] else (fI out_5) q))] [] trivial (Zcl ?_)
     refine Zbs ((at_ lns_3 0),(Line.mk ((at_ lns_3 0).Top) ((at_ lns_3 0).Bottom) (out_5.set 0 ((at_ out_5 0)+1)))) trivial (trivial) (.tup [Zex (at_ lns_3 0),.agg [I ((at_ lns_3 0).Top),I ((at_ lns_3 0).Bottom),.arr 8201]]) (by kernel_rfl) (.inr ⟨⟨rfl,⟨rfl,⟨⟨(fun _=>rfl),rfl,rfl,fun i _=> .inl rfl⟩,rfl⟩⟩⟩,⟨⟨rfl,⟨rfl,⟨⟨(fun _=>rfl),rfl,(by first|rfl|(simp;done)|(simp;omega)|omega),fun i_ hi_=> .inl (Zgn (enc:=cI) rfl i_ hi_)⟩,rfl⟩⟩⟩,rfl⟩⟩) (fun _=>rfl) (fun _=>(by simp [Zaj,Zaf,Zje]))
    refine x_q [(0,.dec false)] [2,3,6,7,33,40] [2,3,6,7,8201] [_] ⟨h3,trivial⟩ (Zad (Ziv (Zau ?_)))
    by_cases h4:v_6=2
    ·refine x_q [(0,.dec true)] [2,3,6,7,48] [2,3,6,7,8201] [_] ⟨h4,trivial⟩ (Zad (Zib ?_))
     refine x_q [] [2,3,6,7] [2,3,6,7,8201] [inR .i64 (((at_ lns_3 0).Bottom)+1)] ⟨(Zah om om),trivial⟩ (Zbt 0 (Zad ?_))
     refine xR [] [2,3] [2,3,8201] [.ref 2 0,.ref 3 0] [some (Zgm (at_ lns_3 0)),some (.box [I ((at_ lns_3 0).Top),I (((at_ lns_3 0).Bottom)+1),.arr 8201]),some (tAI out_5)] [] trivial (Zcl ?_)
     refine Zbs ((at_ lns_3 0),(Line.mk ((at_ lns_3 0).Top) (((at_ lns_3 0).Bottom)+1) out_5)) trivial (trivial) (.tup [Zex (at_ lns_3 0),.agg [I ((at_ lns_3 0).Top),I (((at_ lns_3 0).Bottom)+1),.arr 8201]]) (by kernel_rfl) (.inr ⟨⟨rfl,⟨rfl,⟨⟨(fun _=>rfl),rfl,rfl,fun i _=> .inl rfl⟩,rfl⟩⟩⟩,⟨⟨rfl,⟨rfl,⟨⟨(fun _=>rfl),rfl,rfl,fun i _=> .inl rfl⟩,rfl⟩⟩⟩,rfl⟩⟩) (fun _=>rfl) (fun _=>(by simp [Zaj,Zaf,Zje]))
    refine x_q [(0,.dec false)] [2,3,6,7,48] [2,3,6,7,8201] [_] ⟨h4,trivial⟩ (Zad (Ziv (Zca (Zbt 0 (Zad ?_)))))
    refine xR [] [2,3] [2,3,8201] [.ref 2 0,.ref 3 0] [some (Zgm (at_ lns_3 0)),some (.box [I ((at_ lns_3 0).Top),I ((at_ lns_3 0).Bottom),.arr 8201]),some (tAI out_5)] [] trivial (Zcl ?_)
    refine Zbs ((at_ lns_3 0),(Line.mk ((at_ lns_3 0).Top) ((at_ lns_3 0).Bottom) out_5)) trivial (trivial) (.tup [Zex (at_ lns_3 0),.agg [I ((at_ lns_3 0).Top),I ((at_ lns_3 0).Bottom),.arr 8201]]) (by kernel_rfl) (.inr ⟨⟨rfl,⟨rfl,⟨⟨(fun _=>rfl),rfl,rfl,fun i _=> .inl rfl⟩,rfl⟩⟩⟩,⟨⟨rfl,⟨rfl,⟨⟨(fun _=>rfl),rfl,rfl,fun i _=> .inl rfl⟩,rfl⟩⟩⟩,rfl⟩⟩) (fun _=>rfl) (fun _=>(by simp [Zaj,Zaf,Zje]))
  obtain ⟨⟨a,b⟩,_,hc⟩:=hh
  exact ⟨a,b,hc⟩
theorem Zir (code:List Int) (hc:(∀j,j<code.length→0≤at_ code j∧at_ code j≤255)∧code.length≤4611686018427387904):∃(lines:List Line) (y:Int),(lines.length≤100)∧Con Try.prog 10 [Zcu false code] true (.tup [Zan true lines,I y]):=by
  have hh:∃r:(List Line)×Int,((r.1.length≤100)∧(True))∧Zap Try.prog 10 [Zcu false code] (Zac []) true (.tup [Zan true r.1,I r.2]) (Zac []):=by
    refine Zda (Φ:=fun r:(List Line)×Int=>(r.1.length≤100)∧(True)) [] (fun r=>[]) (fn:=Try.f10) (nt:=40) Try.func10 rfl rfl (args:=[Zcu false code]) rfl (Zax (.inl ⟨rfl,Zcc false _⟩) Zcz) (res:=fun r=> .tup [Zan true r.1,I r.2]) ?_
    refine xQ [] [0] [] [] trivial (Zau ?_)
    obtain ⟨s'_1,hx1_0,hc1⟩:=Zka code
    have hsrc:Zbb s'_1:=⟨by rw [hx1_0.1];exact hc.1,by rw [hx1_0.2];decide,by rw [hx1_0.1];exact hc.2⟩
    have hat0:=hx1_0.2
    refine x_q [(1,.lend [] [(7001,Zaa s'_1)] [(true,.any)] false (.ref 7001 0))] [4] [7001] [Zap Try.prog 29 [Zcu false code] (Zac []) false (.ref 7001 0) (Zac [(7001,Zaa s'_1)])∧True] ⟨⟨hc1,trivial⟩,trivial⟩ (Zad (Zau ?_))
    obtain ⟨s'_2,bs_2,hx2_0,hx2_1,hx2_2,hx2_3,hx2_4,hc2⟩:=Zip s'_1 (by first|assumption|(simp only [Zbb] at*;simp_all;done)) om
    have hdr:=hx2_4
    have hdl:=hx2_0
    have hpg:=Zyc om hdr
    obtain ⟨v_3,s'_3,hx3_0,hx3_1,hx3_2,hx3_3,hc3⟩:=Zcv s'_2 10 (by first|assumption|(simp only [Zbb] at*;simp_all;done)) om
    obtain ⟨lns_4,hx4_0,hc4⟩:=Zio bs_2 v_3 hpg om
    have hls:=hx4_0
    have hln:=Ztg (gap:=v_3) hpg
    rw [←hls] at hln
    refine x_q [(1,.lend [(7001,Zaa s'_1,Zaa s'_2)] [(8231,Zfd bs_2)] [(true,.any)] false (.arr 8231)),(3,.lend [(7001,Zaa s'_2,Zaa s'_3)] [] [(true,.any),(true,.any)] true (I v_3)),(4,.lend [] [(9223,Zct true lns_4)] [(false,Zag false bs_2),(true,.any)] false (.arr 9223))] [4,5] [7001,9223] [Zap Try.prog 38 [.ref 7001 0] (Zac [(7001,Zaa s'_1)]) false (.arr 8231) (Zac [(7001,Zaa s'_2),(8231,Zfd bs_2)])∧(((Zaa s'_1:Ob)=Zaa s'_1∨Zdt Zdh true (Zaa s'_1) (Zaa s'_1))∧Zal false (Zaa s'_1))∧True,Zap Try.prog 39 [.ref 7001 0,I 10] (Zac [(7001,Zaa s'_2)]) true (I v_3) (Zac [(7001,Zaa s'_3)])∧(((Zaa s'_2:Ob)=Zaa s'_2∨Zdt Zdh true (Zaa s'_2) (Zaa s'_2))∧Zal false (Zaa s'_2))∧True,Zap Try.prog 37 [Zag false bs_2,I v_3] (Zac []) false (.arr 9223) (Zac [(9223,Zct true lns_4)])∧((false=true→true=true)∧4=4∧bs_2.length=bs_2.length∧∀i_,i_<bs_2.length→(Zdi bs_2) i_=(Zdi bs_2) i_∨(AV.idsL ((Zdi bs_2) i_)=[]∧leL (fun _=>none) false ((Zdi bs_2) i_) ((Zdi bs_2) i_)))∧True] ⟨⟨hc2,⟨.inl rfl,(by simp [Zal,Zaf,Zaj,Zcc])⟩,trivial⟩,⟨hc3,⟨.inl rfl,(by simp [Zal,Zaf,Zaj,Zcc])⟩,trivial⟩,⟨hc4,⟨(fun h=>by cases h),rfl,rfl,fun i _=> .inl rfl⟩,trivial⟩,trivial⟩ (Zad (Zau (Zau ?_)))
    by_cases h1:0<(lns_4.length:Int)
    ·obtain ⟨v_5,s'_5,hx5_0,hx5_1,hx5_2,hc5⟩:=Zri s'_3 10 (by first|assumption|(simp only [Zbb] at*;simp_all;done)) om
     rcases Bool.eq_false_or_eq_true v_5 with h2|h2
     ·subst h2
      refine x_r [(2,.dec true),(5,.lend [(7001,Zaa s'_3,Zaa s'_5)] [] [(true,.any),(true,.any)] true (Bv true))] [4,5,20] [7001,9223] [.ref 7001 0,.arr 9223,Bv true] [some (Zaa s'_5),some (Zct true lns_4)] [_,Zap Try.prog 41 [.ref 7001 0,I 10] (Zac [(7001,Zaa s'_3)]) true (Bv true) (Zac [(7001,Zaa s'_5)])∧(((Zaa s'_3:Ob)=Zaa s'_3∨Zdt Zdh true (Zaa s'_3) (Zaa s'_3))∧Zal false (Zaa s'_3))∧True] ⟨h1,⟨hc5,⟨.inl rfl,(by simp [Zal,Zaf,Zaj,Zcc])⟩,trivial⟩,trivial⟩ (Zad (Zfv rfl ?_))
      obtain ⟨v_6,s'_6,hx6_0,hx6_1,hx6_2,hx6_3,hc6⟩:=Zgw s'_5 ([(-1),4095,4096,(at_ lns_4 0).Top]) (by first|assumption|(simp only [Zbb] at*;simp_all;done)) om (by simp)
      refine x_q [(6,.new 27),(7,.lend [(7001,Zaa s'_5,Zaa s'_6)] [] [(true,.any),(false,slI false ([(-1),4095,4096,(at_ lns_4 0).Top]))] true (I v_6))] [4,5] [7001,9223] [(0:Int)≤0∧0<(lns_4.length:Int),0<lns_4.length,Zap Try.prog 42 [.ref 7001 0,slI false ([(-1),4095,4096,(at_ lns_4 0).Top])] (Zac [(7001,Zaa s'_5)]) true (I v_6) (Zac [(7001,Zaa s'_6)])∧((false=true→true=true)∧1=1∧4=(([(-1),4095,4096,(at_ lns_4 0).Top]).length)∧∀i_,i_<(([(-1),4095,4096,(at_ lns_4 0).Top]).length)→(Zfu [I (-1),I 4095,I 4096,I ((at_ lns_4 0).Top)] 1) i_=(fI ([(-1),4095,4096,(at_ lns_4 0).Top])) i_∨(AV.idsL ((fI ([(-1),4095,4096,(at_ lns_4 0).Top])) i_)=[]∧leL (fun _=>none) false ((Zfu [I (-1),I 4095,I 4096,I ((at_ lns_4 0).Top)] 1) i_) ((fI ([(-1),4095,4096,(at_ lns_4 0).Top])) i_)))∧(((Zaa s'_5:Ob)=Zaa s'_5∨Zdt Zdh true (Zaa s'_5) (Zaa s'_5))∧Zal false (Zaa s'_5))∧True,(0:Int)≤0∧0<(lns_4.length:Int),0<lns_4.length] ⟨⟨om,om⟩,om,⟨hc6,⟨(fun h=>by cases h),rfl,(by first|rfl|(simp;done)|(simp;omega)|omega),fun i_ hi_=> .inl (match i_,hi_ with|0,_=>rfl|1,_=>rfl|2,_=>rfl|3,_=>rfl|(i+4),h=>absurd h (by simp))⟩,⟨.inl rfl,(by simp [Zal,Zaf,Zaj,Zcc])⟩,trivial⟩,⟨om,om⟩,om,trivial⟩ (Zad (Zau ?_))
      obtain ⟨v_7,s'_7,hx7_0,hx7_1,hx7_2,hx7_3,hc7⟩:=Zcv s'_6 500 (by first|assumption|(simp only [Zbb] at*;simp_all;done)) om
      refine x_q [(1,.lend [(7001,Zaa s'_6,Zaa s'_7)] [] [(true,.any),(true,.any)] true (I v_7))] [4,5,6] [7001,9223] [Zap Try.prog 39 [.ref 7001 0,I 500] (Zac [(7001,Zaa s'_6)]) true (I v_7) (Zac [(7001,Zaa s'_7)])∧(((Zaa s'_6:Ob)=Zaa s'_6∨Zdt Zdh true (Zaa s'_6) (Zaa s'_6))∧Zal false (Zaa s'_6))∧True] ⟨⟨hc7,⟨.inl rfl,(by simp [Zal,Zaf,Zaj,Zcc])⟩,trivial⟩,trivial⟩ (Zad (Zau (Zau ?_)))
      obtain ⟨v_8,s'_8,hx8_0,hx8_1,hx8_2,hc8⟩:=Zri s'_7 12 (by first|assumption|(simp only [Zbb] at*;simp_all;done)) om
      rcases Bool.eq_false_or_eq_true v_8 with h3|h3
      ·subst h3
       refine x_q [(1,.lend [(7001,Zaa s'_7,Zaa s'_8)] [] [(true,.any),(true,.any)] true (Bv true))] [4,5,6,34] [7001,9223] [Zap Try.prog 41 [.ref 7001 0,I 12] (Zac [(7001,Zaa s'_7)]) true (Bv true) (Zac [(7001,Zaa s'_8)])∧(((Zaa s'_7:Ob)=Zaa s'_7∨Zdt Zdh true (Zaa s'_7) (Zaa s'_7))∧Zal false (Zaa s'_7))∧True] ⟨⟨hc8,⟨.inl rfl,(by simp [Zal,Zaf,Zaj,Zcc])⟩,trivial⟩,trivial⟩ (Zad (Zib ?_))
       obtain ⟨v_9,s'_9,hx9_0,hx9_1,hx9_2,hx9_3,hc9⟩:=Zgw s'_8 ([(-1),0,4095,4096]) (by first|assumption|(simp only [Zbb] at*;simp_all;done)) om (by simp)
       refine x_r [(1,.new 36),(2,.lend [(7001,Zaa s'_8,Zaa s'_9)] [] [(true,.any),(false,slI false ([(-1),0,4095,4096]))] true (I v_9))] [5,6] [9223] [.arr 9223,I v_9] [some (.arr 3 lns_4.length (fun q=>bif Nat.beq q 0 then [I ((at_ lns_4 0).Top),I v_6,slI true ((at_ lns_4 0).Items)] else (Zcd true lns_4) q))] [Zap Try.prog 42 [.ref 7001 0,slI false ([(-1),0,4095,4096])] (Zac [(7001,Zaa s'_8)]) true (I v_9) (Zac [(7001,Zaa s'_9)])∧((false=true→true=true)∧1=1∧4=(([(-1),0,4095,4096]).length)∧∀i_,i_<(([(-1),0,4095,4096]).length)→(Zfu [I (-1),I 0,I 4095,I 4096] 1) i_=(fI ([(-1),0,4095,4096])) i_∨(AV.idsL ((fI ([(-1),0,4095,4096])) i_)=[]∧leL (fun _=>none) false ((Zfu [I (-1),I 0,I 4095,I 4096] 1) i_) ((fI ([(-1),0,4095,4096])) i_)))∧(((Zaa s'_8:Ob)=Zaa s'_8∨Zdt Zdh true (Zaa s'_8) (Zaa s'_8))∧Zal false (Zaa s'_8))∧True] ⟨⟨hc9,⟨(fun h=>by cases h),rfl,(by first|rfl|(simp;done)|(simp;omega)|omega),fun i_ hi_=> .inl (match i_,hi_ with|0,_=>rfl|1,_=>rfl|2,_=>rfl|3,_=>rfl|(i+4),h=>absurd h (by simp))⟩,⟨.inl rfl,(by simp [Zal,Zaf,Zaj,Zcc])⟩,trivial⟩,trivial⟩ (Zad ?_)
       refine xR [] [2,3] [9223] [.arr 9223,I v_9] [some (.arr 3 lns_4.length (fun q=>bif Nat.beq q 0 then [I ((at_ lns_4 0).Top),I v_6,slI true ((at_ lns_4 0).Items)] else (Zcd true lns_4) q))] [] trivial (Zcl ?_)
       refine Zbs ((lns_4.set 0 (Line.mk ((at_ lns_4 0).Top) v_6 ((at_ lns_4 0).Items))),v_9) (show ((lns_4.set 0 (Line.mk ((at_ lns_4 0).Top) v_6 ((at_ lns_4 0).Items))).length≤100)∧(True) from ⟨(by first|omega|assumption|rfl|(simp;done)|(simp;omega)|(simp_all;done)),trivial⟩) (trivial) (.tup [.arr 9223,I v_9]) (by kernel_rfl) (.inr ⟨⟨(fun _=>rfl),rfl,(by first|rfl|(simp;done)|(simp;omega)|omega),fun i_ hi_=> .inl (Zgn (enc:=(Zfg true)) rfl i_ hi_)⟩,⟨rfl,rfl⟩⟩) (fun _=>rfl) (fun _=>(by simp [Zaj,Zaf,Zdw]))
      subst h3
      refine x_q [(1,.lend [(7001,Zaa s'_7,Zaa s'_8)] [] [(true,.any),(true,.any)] true (Bv false))] [4,5,6,34] [7001,9223] [Zap Try.prog 41 [.ref 7001 0,I 12] (Zac [(7001,Zaa s'_7)]) true (Bv false) (Zac [(7001,Zaa s'_8)])∧(((Zaa s'_7:Ob)=Zaa s'_7∨Zdt Zdh true (Zaa s'_7) (Zaa s'_7))∧Zal false (Zaa s'_7))∧True] ⟨⟨hc8,⟨.inl rfl,(by simp [Zal,Zaf,Zaj,Zcc])⟩,trivial⟩,trivial⟩ (Zad (Ziv (Zca (Zad ?_))))
      refine xR [] [2,3] [9223] [.arr 9223,I v_7] [some (.arr 3 lns_4.length (fun q=>bif Nat.beq q 0 then [I ((at_ lns_4 0).Top),I v_6,slI true ((at_ lns_4 0).Items)] else (Zcd true lns_4) q))] [] trivial (Zcl ?_)
      refine Zbs ((lns_4.set 0 (Line.mk ((at_ lns_4 0).Top) v_6 ((at_ lns_4 0).Items))),v_7) (show ((lns_4.set 0 (Line.mk ((at_ lns_4 0).Top) v_6 ((at_ lns_4 0).Items))).length≤100)∧(True) from ⟨(by first|omega|assumption|rfl|(simp;done)|(simp;omega)|(simp_all;done)),trivial⟩) (trivial) (.tup [.arr 9223,I v_7]) (by kernel_rfl) (.inr ⟨⟨(fun _=>rfl),rfl,(by first|rfl|(simp;done)|(simp;omega)|omega),fun i_ hi_=> .inl (Zgn (enc:=(Zfg true)) rfl i_ hi_)⟩,⟨rfl,rfl⟩⟩) (fun _=>rfl) (fun _=>(by simp [Zaj,Zaf,Zdw]))
     subst h2
     refine x_q [(2,.dec true),(5,.lend [(7001,Zaa s'_3,Zaa s'_5)] [] [(true,.any),(true,.any)] true (Bv false))] [4,5,20] [7001,9223] [_,Zap Try.prog 41 [.ref 7001 0,I 10] (Zac [(7001,Zaa s'_3)]) true (Bv false) (Zac [(7001,Zaa s'_5)])∧(((Zaa s'_3:Ob)=Zaa s'_3∨Zdt Zdh true (Zaa s'_3) (Zaa s'_3))∧Zal false (Zaa s'_3))∧True] ⟨h1,⟨hc5,⟨.inl rfl,(by simp [Zal,Zaf,Zaj,Zcc])⟩,trivial⟩,trivial⟩ (Zad (Ziv (Zca (Zad (Zau ?_)))))
     obtain ⟨v_10,s'_10,hx10_0,hx10_1,hx10_2,hx10_3,hc10⟩:=Zcv s'_5 500 (by first|assumption|(simp only [Zbb] at*;simp_all;done)) om
     refine x_q [(1,.lend [(7001,Zaa s'_5,Zaa s'_10)] [] [(true,.any),(true,.any)] true (I v_10))] [4,5,6] [7001,9223] [Zap Try.prog 39 [.ref 7001 0,I 500] (Zac [(7001,Zaa s'_5)]) true (I v_10) (Zac [(7001,Zaa s'_10)])∧(((Zaa s'_5:Ob)=Zaa s'_5∨Zdt Zdh true (Zaa s'_5) (Zaa s'_5))∧Zal false (Zaa s'_5))∧True] ⟨⟨hc10,⟨.inl rfl,(by simp [Zal,Zaf,Zaj,Zcc])⟩,trivial⟩,trivial⟩ (Zad (Zau (Zau ?_)))
     obtain ⟨v_11,s'_11,hx11_0,hx11_1,hx11_2,hc11⟩:=Zri s'_10 12 (by first|assumption|(simp only [Zbb] at*;simp_all;done)) om
     rcases Bool.eq_false_or_eq_true v_11 with h4|h4
     ·subst h4
      refine x_q [(1,.lend [(7001,Zaa s'_10,Zaa s'_11)] [] [(true,.any),(true,.any)] true (Bv true))] [4,5,6,34] [7001,9223] [Zap Try.prog 41 [.ref 7001 0,I 12] (Zac [(7001,Zaa s'_10)]) true (Bv true) (Zac [(7001,Zaa s'_11)])∧(((Zaa s'_10:Ob)=Zaa s'_10∨Zdt Zdh true (Zaa s'_10) (Zaa s'_10))∧Zal false (Zaa s'_10))∧True] ⟨⟨hc11,⟨.inl rfl,(by simp [Zal,Zaf,Zaj,Zcc])⟩,trivial⟩,trivial⟩ (Zad (Zib ?_))
      obtain ⟨v_12,s'_12,hx12_0,hx12_1,hx12_2,hx12_3,hc12⟩:=Zgw s'_11 ([(-1),0,4095,4096]) (by first|assumption|(simp only [Zbb] at*;simp_all;done)) om (by simp)
      refine x_r [(1,.new 36),(2,.lend [(7001,Zaa s'_11,Zaa s'_12)] [] [(true,.any),(false,slI false ([(-1),0,4095,4096]))] true (I v_12))] [5,6] [9223] [.arr 9223,I v_12] [some (Zct true lns_4)] [Zap Try.prog 42 [.ref 7001 0,slI false ([(-1),0,4095,4096])] (Zac [(7001,Zaa s'_11)]) true (I v_12) (Zac [(7001,Zaa s'_12)])∧((false=true→true=true)∧1=1∧4=(([(-1),0,4095,4096]).length)∧∀i_,i_<(([(-1),0,4095,4096]).length)→(Zfu [I (-1),I 0,I 4095,I 4096] 1) i_=(fI ([(-1),0,4095,4096])) i_∨(AV.idsL ((fI ([(-1),0,4095,4096])) i_)=[]∧leL (fun _=>none) false ((Zfu [I (-1),I 0,I 4095,I 4096] 1) i_) ((fI ([(-1),0,4095,4096])) i_)))∧(((Zaa s'_11:Ob)=Zaa s'_11∨Zdt Zdh true (Zaa s'_11) (Zaa s'_11))∧Zal false (Zaa s'_11))∧True] ⟨⟨hc12,⟨(fun h=>by cases h),rfl,(by first|rfl|(simp;done)|(simp;omega)|omega),fun i_ hi_=> .inl (match i_,hi_ with|0,_=>rfl|1,_=>rfl|2,_=>rfl|3,_=>rfl|(i+4),h=>absurd h (by simp))⟩,⟨.inl rfl,(by simp [Zal,Zaf,Zaj,Zcc])⟩,trivial⟩,trivial⟩ (Zad ?_)
      refine xR [] [2,3] [9223] [.arr 9223,I v_12] [some (Zct true lns_4)] [] trivial (Zcl ?_)
      refine Zbs (lns_4,v_12) (show (lns_4.length≤100)∧(True) from ⟨(by first|omega|assumption|rfl|(simp;done)|(simp;omega)|(simp_all;done)),trivial⟩) (trivial) (.tup [.arr 9223,I v_12]) (by kernel_rfl) (.inr ⟨⟨(fun _=>rfl),rfl,rfl,fun i _=> .inl rfl⟩,⟨rfl,rfl⟩⟩) (fun _=>rfl) (fun _=>(by simp [Zaj,Zaf,Zdw]))
     subst h4
     refine x_q [(1,.lend [(7001,Zaa s'_10,Zaa s'_11)] [] [(true,.any),(true,.any)] true (Bv false))] [4,5,6,34] [7001,9223] [Zap Try.prog 41 [.ref 7001 0,I 12] (Zac [(7001,Zaa s'_10)]) true (Bv false) (Zac [(7001,Zaa s'_11)])∧(((Zaa s'_10:Ob)=Zaa s'_10∨Zdt Zdh true (Zaa s'_10) (Zaa s'_10))∧Zal false (Zaa s'_10))∧True] ⟨⟨hc11,⟨.inl rfl,(by simp [Zal,Zaf,Zaj,Zcc])⟩,trivial⟩,trivial⟩ (Zad (Ziv (Zca (Zad ?_))))
     refine xR [] [2,3] [9223] [.arr 9223,I v_10] [some (Zct true lns_4)] [] trivial (Zcl ?_)
     refine Zbs (lns_4,v_10) (show (lns_4.length≤100)∧(True) from ⟨(by first|omega|assumption|rfl|(simp;done)|(simp;omega)|(simp_all;done)),trivial⟩) (trivial) (.tup [.arr 9223,I v_10]) (by kernel_rfl) (.inr ⟨⟨(fun _=>rfl),rfl,rfl,fun i _=> .inl rfl⟩,⟨rfl,rfl⟩⟩) (fun _=>rfl) (fun _=>(by simp [Zaj,Zaf,Zdw]))
    refine x_q [(2,.dec false)] [4,5,20] [7001,9223] [_] ⟨h1,trivial⟩ (Zad (Ziv (Zca (Zad (Zau ?_)))))
    obtain ⟨v_13,s'_13,hx13_0,hx13_1,hx13_2,hx13_3,hc13⟩:=Zcv s'_3 500 (by first|assumption|(simp only [Zbb] at*;simp_all;done)) om
    refine x_q [(1,.lend [(7001,Zaa s'_3,Zaa s'_13)] [] [(true,.any),(true,.any)] true (I v_13))] [4,5,6] [7001,9223] [Zap Try.prog 39 [.ref 7001 0,I 500] (Zac [(7001,Zaa s'_3)]) true (I v_13) (Zac [(7001,Zaa s'_13)])∧(((Zaa s'_3:Ob)=Zaa s'_3∨Zdt Zdh true (Zaa s'_3) (Zaa s'_3))∧Zal false (Zaa s'_3))∧True] ⟨⟨hc13,⟨.inl rfl,(by simp [Zal,Zaf,Zaj,Zcc])⟩,trivial⟩,trivial⟩ (Zad (Zau (Zau ?_)))
    obtain ⟨v_14,s'_14,hx14_0,hx14_1,hx14_2,hc14⟩:=Zri s'_13 12 (by first|assumption|(simp only [Zbb] at*;simp_all;done)) om
    rcases Bool.eq_false_or_eq_true v_14 with h5|h5
    ·subst h5
     refine x_q [(1,.lend [(7001,Zaa s'_13,Zaa s'_14)] [] [(true,.any),(true,.any)] true (Bv true))] [4,5,6,34] [7001,9223] [Zap Try.prog 41 [.ref 7001 0,I 12] (Zac [(7001,Zaa s'_13)]) true (Bv true) (Zac [(7001,Zaa s'_14)])∧(((Zaa s'_13:Ob)=Zaa s'_13∨Zdt Zdh true (Zaa s'_13) (Zaa s'_13))∧Zal false (Zaa s'_13))∧True] ⟨⟨hc14,⟨.inl rfl,(by simp [Zal,Zaf,Zaj,Zcc])⟩,trivial⟩,trivial⟩ (Zad (Zib ?_))
     obtain ⟨v_15,s'_15,hx15_0,hx15_1,hx15_2,hx15_3,hc15⟩:=Zgw s'_14 ([(-1),0,4095,4096]) (by first|assumption|(simp only [Zbb] at*;simp_all;done)) om (by simp)
     refine x_r [(1,.new 36),(2,.lend [(7001,Zaa s'_14,Zaa s'_15)] [] [(true,.any),(false,slI false ([(-1),0,4095,4096]))] true (I v_15))] [5,6] [9223] [.arr 9223,I v_15] [some (Zct true lns_4)] [Zap Try.prog 42 [.ref 7001 0,slI false ([(-1),0,4095,4096])] (Zac [(7001,Zaa s'_14)]) true (I v_15) (Zac [(7001,Zaa s'_15)])∧((false=true→true=true)∧1=1∧4=(([(-1),0,4095,4096]).length)∧∀i_,i_<(([(-1),0,4095,4096]).length)→(Zfu [I (-1),I 0,I 4095,I 4096] 1) i_=(fI ([(-1),0,4095,4096])) i_∨(AV.idsL ((fI ([(-1),0,4095,4096])) i_)=[]∧leL (fun _=>none) false ((Zfu [I (-1),I 0,I 4095,I 4096] 1) i_) ((fI ([(-1),0,4095,4096])) i_)))∧(((Zaa s'_14:Ob)=Zaa s'_14∨Zdt Zdh true (Zaa s'_14) (Zaa s'_14))∧Zal false (Zaa s'_14))∧True] ⟨⟨hc15,⟨(fun h=>by cases h),rfl,(by first|rfl|(simp;done)|(simp;omega)|omega),fun i_ hi_=> .inl (match i_,hi_ with|0,_=>rfl|1,_=>rfl|2,_=>rfl|3,_=>rfl|(i+4),h=>absurd h (by simp))⟩,⟨.inl rfl,(by simp [Zal,Zaf,Zaj,Zcc])⟩,trivial⟩,trivial⟩ (Zad ?_)
     refine xR [] [2,3] [9223] [.arr 9223,I v_15] [some (Zct true lns_4)] [] trivial (Zcl ?_)
     refine Zbs (lns_4,v_15) (show (lns_4.length≤100)∧(True) from ⟨(by first|omega|assumption|rfl|(simp;done)|(simp;omega)|(simp_all;done)),trivial⟩) (trivial) (.tup [.arr 9223,I v_15]) (by kernel_rfl) (.inr ⟨⟨(fun _=>rfl),rfl,rfl,fun i _=> .inl rfl⟩,⟨rfl,rfl⟩⟩) (fun _=>rfl) (fun _=>(by simp [Zaj,Zaf,Zdw]))
    subst h5
    refine x_q [(1,.lend [(7001,Zaa s'_13,Zaa s'_14)] [] [(true,.any),(true,.any)] true (Bv false))] [4,5,6,34] [7001,9223] [Zap Try.prog 41 [.ref 7001 0,I 12] (Zac [(7001,Zaa s'_13)]) true (Bv false) (Zac [(7001,Zaa s'_14)])∧(((Zaa s'_13:Ob)=Zaa s'_13∨Zdt Zdh true (Zaa s'_13) (Zaa s'_13))∧Zal false (Zaa s'_13))∧True] ⟨⟨hc14,⟨.inl rfl,(by simp [Zal,Zaf,Zaj,Zcc])⟩,trivial⟩,trivial⟩ (Zad (Ziv (Zca (Zad ?_))))
    refine xR [] [2,3] [9223] [.arr 9223,I v_13] [some (Zct true lns_4)] [] trivial (Zcl ?_)
    refine Zbs (lns_4,v_13) (show (lns_4.length≤100)∧(True) from ⟨(by first|omega|assumption|rfl|(simp;done)|(simp;omega)|(simp_all;done)),trivial⟩) (trivial) (.tup [.arr 9223,I v_13]) (by kernel_rfl) (.inr ⟨⟨(fun _=>rfl),rfl,rfl,fun i _=> .inl rfl⟩,⟨rfl,rfl⟩⟩) (fun _=>rfl) (fun _=>(by simp [Zaj,Zaf,Zdw]))
  obtain ⟨⟨lines,y⟩,⟨hh0,_⟩,hc⟩:=hh
  exact ⟨lines,y,hh0,hc⟩
theorem Znw (n:Int):Con Try.prog 44 [I n] true (Bv (inB n 0 4095)):=by
 refine Zcn (fn:=Try.f44) (nt:=5) Try.func44 rfl rfl rfl rfl (by simp [Zaf,Zaj]) fun B hB=> ?_
 refine aQ [] [0] [] [] hB trivial ?_
 refine aR [(1,.call [(true,.any),(true,.any),(true,.any)] true (Bv (inB n 0 4095)))] [2] [] [Bv (inB n 0 4095)] [] [_∧True] hB ⟨⟨(Zcq n 0 4095),trivial⟩,trivial⟩ (Zav ?_)
 refine Zat hB (Bv (inB n 0 4095)) (by kernel_rfl) (.inl rfl) rfl (fun _=>trivial)
theorem Zhs (n:Int) (low:Int) (high:Int) (h1:-10000≤n∧n≤10000) (h2:-10000≤low∧low≤10000) (h3:-10000≤high∧high≤10000):Con Try.prog 45 [I n,I low,I high] true (I (Zfh n low high)):=by
 refine Zcn (fn:=Try.f45) (nt:=14) Try.func45 rfl rfl rfl rfl (by simp [Zaf,Zaj]) fun B hB=> ?_
 refine aQ [] [0,1,2] [] [] hB trivial ?_
 refine aR [] [6] [] [I (max (max (low-n) (n-high)) 0)] [] [inR .i64 (low-n),inR .i64 (n-high)] hB ⟨(Zah om om),(Zah om om),trivial⟩ (Zav ?_)
 refine Zat hB (I (max (max (low-n) (n-high)) 0)) (by kernel_rfl) (.inl (by refine congrArg I ?_;unfold Zfh;omega)) rfl (fun _=>trivial)
theorem Zis (lines:List Line) (y:Int) (hl:lines.length≤1000):Con Try.prog 11 [Zan false lines,I y] true (.tup [I ((Zjq lines y).1),I ((Zjq lines y).2)]):=by
  refine Zcn (fn:=Try.f11) (nt:=80) Try.func11 rfl rfl rfl rfl (by simp [Zaf,Zaj,Zdw]) fun B hB=> ?_
  refine Zbk (x:=Zan false lines) 0 rfl (fun len_lines=> ?_)
  simp [Zco,Zfb,cI,Zfg,fI,Zcd,slI,Zan] at len_lines
  refine aQ [] [0,1] [] [] hB trivial (Zae ?_)
  refine aR [] [0,1,11,12,13] [] [Zan false lines,I y,Zan false lines,I (lines.length:Int),I 0] [] [] hB trivial (Zao ?_)
  refine Zbq (fun gn gσ=>∃(t13:Int),gn=((lines.length:Int)-t13).toNat∧(0≤t13∧t13≤(lines.length:Int))∧(∀j:Nat,(j:Int)<t13→Zvn lines j=true)∧gσ=mkS [(0,Zan false lines),(1,I y),(11,Zan false lines),(12,I (lines.length:Int)),(13,I t13)] []) (((lines.length:Int)-0).toNat) ⟨0,rfl,om,(by intro j hj;omega),rfl⟩ (fun gn gσ hI=> ?_)
  obtain ⟨t13,rfl,hi0,hall0,rfl⟩:=hI
  refine Zae ?_
  by_cases h1:t13<(lines.length:Int)
  ·have hi:t13.toNat<lines.length:=by omega
   refine Zbm [(0,.dec true)] [0,1,11,12,13,14] [] [_] hB ⟨h1,trivial⟩ (Zab (Zae (Zbp (Zam (Zab (Zae (Zao ?_)))))))
   refine aQ [(3,.new 7)] [0,1,6,7,11,12,13] [7] [(0:Int)≤t13∧t13<(lines.length:Int)] hB ⟨⟨om,om⟩,trivial⟩ (Zae ?_)
   rcases Bool.eq_false_or_eq_true (inB ((at_ lines t13.toNat).Top) 0 ((at_ lines t13.toNat).Bottom)) with h2|h2
   ·have hb0:=h2
    by_cases h3:4095<((at_ lines t13.toNat).Bottom)
    ·have hst:=Zkb (y:=y) hi (Zkc hi0.1 (.inr (.inl h3)))
     refine Zbm [(4,.call [(true,.any),(true,.any),(true,.any)] true (Bv true)),(9,.dec true)] [0,1,11,12,13,43] [] [Con Try.prog 43 [I ((at_ lines t13.toNat).Top),I 0,I ((at_ lines t13.toNat).Bottom)] true (Bv true)∧True,_] hB ⟨⟨(Zas h2 (Zcq ((at_ lines t13.toNat).Top) 0 ((at_ lines t13.toNat).Bottom))),trivial⟩,h3,trivial⟩ (Zab (Zbp ?_))
     refine aR [] [4,5] [] [I 0,I 1] [] [] hB trivial (Zav ?_)
     refine Zar (Zak (Zak (Zar (Zak ?_))))
     refine Zat hB (.tup [I 0,I 1]) (by kernel_rfl) (.inl (by first|(rw [hst];done)|(rw [hst,hbs];done))) rfl (fun _=>(by simp [Zaj,Zaf]))
    have hb1:=h3
    by_cases h4:0<t13
    ·have hb2:=h4
     by_cases h5:((at_ lines t13.toNat).Top)≤((at_ lines ((t13-1).toNat)).Bottom)
     ·have hst:=Zkb (y:=y) hi (Zkc hi0.1 (.inr (.inr ⟨hb2,h5⟩)))
      refine Zbm [(4,.call [(true,.any),(true,.any),(true,.any)] true (Bv true)),(9,.dec false),(13,.dec true),(23,.dec true)] [0,1,11,12,13,43] [] [Con Try.prog 43 [I ((at_ lines t13.toNat).Top),I 0,I ((at_ lines t13.toNat).Bottom)] true (Bv true)∧True,_,_,inR .i64 (t13-1),(0:Int)≤(t13-1)∧(t13-1)<(lines.length:Int),_] hB ⟨⟨(Zas h2 (Zcq ((at_ lines t13.toNat).Top) 0 ((at_ lines t13.toNat).Bottom))),trivial⟩,h3,h4,(Zah om om),⟨om,om⟩,h5,trivial⟩ (Zab (Zbp ?_))
      refine aR [] [4,5] [] [I 0,I 1] [] [] hB trivial (Zav ?_)
      refine Zar (Zak (Zak (Zar (Zak ?_))))
      refine Zat hB (.tup [I 0,I 1]) (by kernel_rfl) (.inl (by first|(rw [hst];done)|(rw [hst,hbs];done))) rfl (fun _=>(by simp [Zaj,Zaf]))
     have hok:=Zpl hi0.1 hb0 hb1 (.inr h5)
     refine Zbm [(4,.call [(true,.any),(true,.any),(true,.any)] true (Bv true)),(9,.dec false),(13,.dec true),(23,.dec false)] [0,1,11,12,13,43] [] [Con Try.prog 43 [I ((at_ lines t13.toNat).Top),I 0,I ((at_ lines t13.toNat).Bottom)] true (Bv true)∧True,_,_,inR .i64 (t13-1),(0:Int)≤(t13-1)∧(t13-1)<(lines.length:Int),_] hB ⟨⟨(Zas h2 (Zcq ((at_ lines t13.toNat).Top) 0 ((at_ lines t13.toNat).Bottom))),trivial⟩,h3,h4,(Zah om om),⟨om,om⟩,h5,trivial⟩ (Zab (Zbc (Zam (Zay 1 (Zab ?_)))))
     refine Zdk [] [0,1,11,12,13] [] [Zan false lines,I y,Zan false lines,I (lines.length:Int),I (t13+1)] [] [inR .i64 (t13+1)] hB ⟨(Zah om om),trivial⟩ ?_
     exact Zaz _ om ⟨(t13+1),rfl,om,(by intro j hj;by_cases ej:j=t13.toNat;(subst ej;first|assumption|exact hok);exact hall0 j om),rfl⟩
    have hok:=Zpl hi0.1 hb0 hb1 (.inl h4)
    refine Zbm [(4,.call [(true,.any),(true,.any),(true,.any)] true (Bv true)),(9,.dec false),(13,.dec false)] [0,1,11,12,13,43] [] [Con Try.prog 43 [I ((at_ lines t13.toNat).Top),I 0,I ((at_ lines t13.toNat).Bottom)] true (Bv true)∧True,_,_] hB ⟨⟨(Zas h2 (Zcq ((at_ lines t13.toNat).Top) 0 ((at_ lines t13.toNat).Bottom))),trivial⟩,h3,h4,trivial⟩ (Zab (Zbc (Zam (Zay 1 (Zab ?_)))))
    refine Zdk [] [0,1,11,12,13] [] [Zan false lines,I y,Zan false lines,I (lines.length:Int),I (t13+1)] [] [inR .i64 (t13+1)] hB ⟨(Zah om om),trivial⟩ ?_
    exact Zaz _ om ⟨(t13+1),rfl,om,(by intro j hj;by_cases ej:j=t13.toNat;(subst ej;first|assumption|exact hok);exact hall0 j om),rfl⟩
   have hst:=Zkb (y:=y) hi (Zkc hi0.1 (.inl h2))
   refine Zbm [(4,.call [(true,.any),(true,.any),(true,.any)] true (Bv false))] [0,1,11,12,13,43] [] [Con Try.prog 43 [I ((at_ lines t13.toNat).Top),I 0,I ((at_ lines t13.toNat).Bottom)] true (Bv false)∧True] hB ⟨⟨(Zas h2 (Zcq ((at_ lines t13.toNat).Top) 0 ((at_ lines t13.toNat).Bottom))),trivial⟩,trivial⟩ (Zab (Zbp ?_))
   refine aR [] [4,5] [] [I 0,I 1] [] [] hB trivial (Zav ?_)
   refine Zar (Zak (Zak (Zar (Zak ?_))))
   refine Zat hB (.tup [I 0,I 1]) (by kernel_rfl) (.inl (by first|(rw [hst];done)|(rw [hst,hbs];done))) rfl (fun _=>(by simp [Zaj,Zaf]))
  have hall:Zlb lines.length (Zvn lines)=true:=Zgx (fun j hj=>hall0 j om)
  refine Zbm [(0,.dec false)] [0,1,11,12,13,14] [] [_] hB ⟨h1,trivial⟩ (Zab (Zae (Zbc (Zbr (Zai (Zai (Zaq (Zab (Zae ?_)))))))))
  refine Zae ?_
  rcases Bool.eq_false_or_eq_true (inB y 0 4095) with h6|h6
  ·have hyy:=h6
   have hyb:=Zfz.1 h6
   refine Zbm [(1,.call [(true,.any)] true (Bv true))] [0,1,47] [] [Con Try.prog 44 [I y] true (Bv true)∧True] hB ⟨⟨(Zas h6 (Znw y)),trivial⟩,trivial⟩ (Zab (Zbc (Zam (Zab (Zae (Zae ?_))))))
   by_cases h7:(lines.length:Int)=0
   ·have hst:=lop_no hall hyy h7
    refine Zbm [(2,.dec true)] [0,1,50] [] [_] hB ⟨h7,trivial⟩ (Zab (Zbp ?_))
    refine aR [] [4,5] [] [I 0,I 3] [] [] hB trivial (Zav (Zak ?_))
    refine Zat hB (.tup [I 0,I 3]) (by kernel_rfl) (.inl (by first|(rw [hst];done)|(rw [hst,hbs];done))) rfl (fun _=>(by simp [Zaj,Zaf]))
   have hst:=Zyd hall hyy h7
   refine Zbm [(2,.dec false)] [0,1,50] [] [_] hB ⟨h7,trivial⟩ (Zab (Zbc (Zam (Zab ?_))))
   refine aQ [] [0,1,8] [] [] hB trivial (Zae ?_)
   refine aR [] [0,1,8,51,52,53] [] [Zan false lines,I y,I 0,Zan false lines,I (lines.length:Int),I 0] [] [] hB trivial (Zao ?_)
   refine Zbq (fun gn gσ=>∃(best:Int) (t53:Int),gn=((lines.length:Int)-t53).toNat∧(0≤t53∧(t53≤(lines.length:Int)))∧(best=(Zgc lines y t53.toNat:Int))∧(0≤best)∧gσ=mkS [(0,Zan false lines),(1,I y),(8,I best),(51,Zan false lines),(52,I (lines.length:Int)),(53,I t53)] []) (((lines.length:Int)-0).toNat) ⟨0,0,rfl,om,(by first|rfl|(rw [show (1:Int).toNat=1 from rfl,Zrj];rfl)),om,rfl⟩ (fun gn gσ hI=> ?_)
   obtain ⟨best,t53,rfl,hj0,hbs,hb9,rfl⟩:=hI
   refine Zae ?_
   by_cases h8:t53<(lines.length:Int)
   ·have hj:t53.toNat<lines.length:=by omega
    have hnx:(t53+1).toNat=t53.toNat+1:=by omega
    have hnl:=Zpm lines y t53.toNat
    have hbe:best.toNat=Zgc lines y t53.toNat:=by omega
    have hk1:=Zht.1 (Zhu hall hj)
    have hk2:=Zht.1 (Zhu hall (k:=Zgc lines y t53.toNat) om)
    rw [←hbe] at hk2
    refine Zbm [(0,.dec true)] [0,1,8,51,52,53,54] [] [_] hB ⟨h8,trivial⟩ (Zab (Zae (Zbp (Zam (Zab (Zae (Zao ?_)))))))
    refine aQ [(3,.new 10)] [0,1,8,9,10,51,52,53] [10] [(0:Int)≤t53∧t53<(lines.length:Int)] hB ⟨⟨om,om⟩,trivial⟩ (Zae ?_)
    by_cases h9:(Zfh y ((at_ lines t53.toNat).Top) ((at_ lines t53.toNat).Bottom))<(Zfh y ((at_ lines best.toNat).Top) ((at_ lines best.toNat).Bottom))
    ·have hny:=near_y (ls:=lines) (y:=y) (k:=t53.toNat) (by rw [←hbe];exact h9)
     refine Zbm [(5,.call [(true,.any),(true,.any),(true,.any)] true (I (Zfh y ((at_ lines t53.toNat).Top) ((at_ lines t53.toNat).Bottom)))),(17,.call [(true,.any),(true,.any),(true,.any)] true (I (Zfh y ((at_ lines best.toNat).Top) ((at_ lines best.toNat).Bottom)))),(18,.dec true)] [0,1,8,9,51,52,53,76] [] [_∧True,(0:Int)≤best∧best<(lines.length:Int),(0:Int)≤best∧best<(lines.length:Int),_∧True,_] hB ⟨⟨(Zhs y ((at_ lines t53.toNat).Top) ((at_ lines t53.toNat).Bottom) om om om),trivial⟩,⟨om,om⟩,⟨om,om⟩,⟨(Zhs y ((at_ lines best.toNat).Top) ((at_ lines best.toNat).Bottom) om om om),trivial⟩,h9,trivial⟩ (Zab (Zbp ?_))
     refine Zdk [] [0,1,8,51,52,53] [] [Zan false lines,I y,I t53,Zan false lines,I (lines.length:Int),I t53] [] [] hB trivial (Zay 3 (Zab ?_))
     refine Zdk [] [0,1,8,51,52,53] [] [Zan false lines,I y,I t53,Zan false lines,I (lines.length:Int),I (t53+1)] [] [inR .i64 (t53+1)] hB ⟨(Zah om om),trivial⟩ ?_
     exact Zaz _ om ⟨t53,(t53+1),rfl,om,(by rw [hnx];first|(rw [hny];omega)|(rw [hnn];exact hbs)),om,rfl⟩
    have hnn:=near_n (ls:=lines) (y:=y) (k:=t53.toNat) (by rw [←hbe];exact h9)
    refine Zbm [(5,.call [(true,.any),(true,.any),(true,.any)] true (I (Zfh y ((at_ lines t53.toNat).Top) ((at_ lines t53.toNat).Bottom)))),(17,.call [(true,.any),(true,.any),(true,.any)] true (I (Zfh y ((at_ lines best.toNat).Top) ((at_ lines best.toNat).Bottom)))),(18,.dec false)] [0,1,8,9,51,52,53,76] [] [_∧True,(0:Int)≤best∧best<(lines.length:Int),(0:Int)≤best∧best<(lines.length:Int),_∧True,_] hB ⟨⟨(Zhs y ((at_ lines t53.toNat).Top) ((at_ lines t53.toNat).Bottom) om om om),trivial⟩,⟨om,om⟩,⟨om,om⟩,⟨(Zhs y ((at_ lines best.toNat).Top) ((at_ lines best.toNat).Bottom) om om om),trivial⟩,h9,trivial⟩ (Zab (Zbc (Zam (Zay 3 (Zab ?_)))))
    refine Zdk [] [0,1,8,51,52,53] [] [Zan false lines,I y,I best,Zan false lines,I (lines.length:Int),I (t53+1)] [] [inR .i64 (t53+1)] hB ⟨(Zah om om),trivial⟩ ?_
    exact Zaz _ om ⟨best,(t53+1),rfl,om,(by rw [hnx];first|(rw [hny];omega)|(rw [hnn];exact hbs)),om,rfl⟩
   have hje:t53.toNat=lines.length:=by omega
   rw [hje] at hbs
   refine Zbm [(0,.dec false)] [0,1,8,51,52,53,54] [] [_] hB ⟨h8,trivial⟩ (Zab (Zae (Zbc (Zbr (Zai (Zai (Zaq (Zab ?_))))))))
   refine aR [] [4,5] [] [I best,I 0] [] [] hB trivial (Zav ?_)
   refine Zat hB (.tup [I best,I 0]) (by kernel_rfl) (.inl (by first|(rw [hst];done)|(rw [hst,hbs];done))) rfl (fun _=>(by simp [Zaj,Zaf]))
  have hst:=Zye hall h6
  refine Zbm [(1,.call [(true,.any)] true (Bv false))] [0,1,47] [] [Con Try.prog 44 [I y] true (Bv false)∧True] hB ⟨⟨(Zas h6 (Znw y)),trivial⟩,trivial⟩ (Zab (Zbp ?_))
  refine aR [] [4,5] [] [I 0,I 2] [] [] hB trivial (Zav (Zak ?_))
  refine Zat hB (.tup [I 0,I 2]) (by kernel_rfl) (.inl (by first|(rw [hst];done)|(rw [hst,hbs];done))) rfl (fun _=>(by simp [Zaj,Zaf]))
theorem Zhv (line:Line) (y:Int) (h1:-10000≤y∧y≤10000) (h2:-10000≤line.Top∧line.Top≤10000) (h3:-10000≤line.Bottom∧line.Bottom≤10000):Con Try.prog 47 [.ptr false [I line.Top,I line.Bottom,slI false line.Items],I y] true (I (Zfh y line.Top line.Bottom)):=by
 refine Zcn (fn:=Try.f47) (nt:=19) Try.func47 rfl rfl rfl rfl (by simp [Zaf,Zaj,Zje]) fun B hB=> ?_
 refine Zbk (x:= .ptr false [I line.Top,I line.Bottom,slI false line.Items]) 0 rfl (fun len_line=> ?_)
 simp [Zco,Zfb,cI,fI,slI] at len_line
 refine aQ [] [0,1] [] [] hB trivial ?_
 refine aR [(12,.call [(true,.any),(true,.any)] true (I (max (line.Top-y) (y-line.Bottom)))),(13,.call [(true,.any),(true,.any)] true (I (max 0 (max (line.Top-y) (y-line.Bottom)))))] [4] [] [I (max 0 (max (line.Top-y) (y-line.Bottom)))] [] [inR .i64 (line.Top-y),inR .i64 (y-line.Bottom),_∧True,_∧True] hB ⟨(Zah om om),(Zah om om),⟨(Zmb (line.Top-y) (y-line.Bottom)),trivial⟩,⟨(Zmb 0 (max (line.Top-y) (y-line.Bottom))),trivial⟩,trivial⟩ (Zav ?_)
 refine Zat hB (I (max 0 (max (line.Top-y) (y-line.Bottom)))) (by kernel_rfl) (.inl (by refine congrArg I ?_;unfold Zfh;omega)) rfl (fun _=>trivial)
theorem Zit (lines:List Line) (y:Int) (hl:lines.length≤1000):Con Try.prog 12 [Zan false lines,I y] true (.tup [I ((Zjq lines y).1),I ((Zjq lines y).2)]):=by
  refine Zcn (fn:=Try.f12) (nt:=78) Try.func12 rfl rfl rfl rfl (by simp [Zaf,Zaj,Zdw]) fun B hB=> ?_
  refine Zbk (x:=Zan false lines) 0 rfl (fun len_lines=> ?_)
  simp [Zco,Zfb,cI,Zfg,fI,Zcd,slI,Zan] at len_lines
  refine aQ [] [0,1] [] [] hB trivial (Zae ?_)
  refine aR [] [0,1,6] [] [Zan false lines,I y,I 0] [] [] hB trivial (Zao ?_)
  refine Zbq (fun gn gσ=>∃(i:Int),gn=((lines.length:Int)-i).toNat∧(0≤i∧i≤(lines.length:Int))∧(∀j:Nat,(j:Int)<i→Zvn lines j=true)∧gσ=mkS [(0,Zan false lines),(1,I y),(6,I i)] []) (((lines.length:Int)-0).toNat) ⟨0,rfl,om,(by intro j hj;omega),rfl⟩ (fun gn gσ hI=> ?_)
  obtain ⟨i,rfl,hi0,hall0,rfl⟩:=hI
  refine Zae (Zae ?_)
  by_cases h1:i<(lines.length:Int)
  ·have hi:i.toNat<lines.length:=by omega
   refine Zbm [(3,.dec true)] [0,1,6,12] [] [_] hB ⟨h1,trivial⟩ (Zab (Zbp (Zam (Zab (Zae (Zao (Zae ?_)))))))
   rcases Bool.eq_false_or_eq_true (inB ((at_ lines i.toNat).Top) 0 ((at_ lines i.toNat).Bottom)) with h2|h2
   ·have hb0:=h2
    by_cases h3:4095<((at_ lines i.toNat).Bottom)
    ·have hst:=Zkb (y:=y) hi (Zkc hi0.1 (.inr (.inl h3)))
     refine Zbm [(10,.call [(true,.any),(true,.any),(true,.any)] true (Bv true)),(18,.dec true)] [0,1,6,52] [] [(0:Int)≤i∧i<(lines.length:Int),(0:Int)≤i∧i<(lines.length:Int),Con Try.prog 46 [I ((at_ lines i.toNat).Top),I 0,I ((at_ lines i.toNat).Bottom)] true (Bv true)∧True,(0:Int)≤i∧i<(lines.length:Int),_] hB ⟨⟨om,om⟩,⟨om,om⟩,⟨(Zas h2 (Zdo ((at_ lines i.toNat).Top) 0 ((at_ lines i.toNat).Bottom))),trivial⟩,⟨om,om⟩,h3,trivial⟩ (Zab (Zbp ?_))
     refine aR [] [4,5] [] [I 0,I 1] [] [] hB trivial (Zav ?_)
     refine Zar (Zak (Zak (Zar (Zak ?_))))
     refine Zat hB (.tup [I 0,I 1]) (by kernel_rfl) (.inl (by first|(rw [hst];done)|(rw [hst,hbs];done))) rfl (fun _=>(by simp [Zaj,Zaf]))
    have hb1:=h3
    by_cases h4:0<i
    ·have hb2:=h4
     by_cases h5:((at_ lines i.toNat).Top)≤((at_ lines ((i-1).toNat)).Bottom)
     ·have hst:=Zkb (y:=y) hi (Zkc hi0.1 (.inr (.inr ⟨hb2,h5⟩)))
      refine Zbm [(10,.call [(true,.any),(true,.any),(true,.any)] true (Bv true)),(18,.dec false),(22,.dec true),(35,.dec true)] [0,1,6,52] [] [(0:Int)≤i∧i<(lines.length:Int),(0:Int)≤i∧i<(lines.length:Int),Con Try.prog 46 [I ((at_ lines i.toNat).Top),I 0,I ((at_ lines i.toNat).Bottom)] true (Bv true)∧True,(0:Int)≤i∧i<(lines.length:Int),_,_,inR .i64 (i-1),(0:Int)≤(i-1)∧(i-1)<(lines.length:Int),(0:Int)≤i∧i<(lines.length:Int),_] hB ⟨⟨om,om⟩,⟨om,om⟩,⟨(Zas h2 (Zdo ((at_ lines i.toNat).Top) 0 ((at_ lines i.toNat).Bottom))),trivial⟩,⟨om,om⟩,h3,h4,(Zah om om),⟨om,om⟩,⟨om,om⟩,h5,trivial⟩ (Zab (Zbp ?_))
      refine aR [] [4,5] [] [I 0,I 1] [] [] hB trivial (Zav ?_)
      refine Zar (Zak (Zak (Zar (Zak ?_))))
      refine Zat hB (.tup [I 0,I 1]) (by kernel_rfl) (.inl (by first|(rw [hst];done)|(rw [hst,hbs];done))) rfl (fun _=>(by simp [Zaj,Zaf]))
     have hok:=Zpl hi0.1 hb0 hb1 (.inr h5)
     refine Zbm [(10,.call [(true,.any),(true,.any),(true,.any)] true (Bv true)),(18,.dec false),(22,.dec true),(35,.dec false)] [0,1,6,52] [] [(0:Int)≤i∧i<(lines.length:Int),(0:Int)≤i∧i<(lines.length:Int),Con Try.prog 46 [I ((at_ lines i.toNat).Top),I 0,I ((at_ lines i.toNat).Bottom)] true (Bv true)∧True,(0:Int)≤i∧i<(lines.length:Int),_,_,inR .i64 (i-1),(0:Int)≤(i-1)∧(i-1)<(lines.length:Int),(0:Int)≤i∧i<(lines.length:Int),_] hB ⟨⟨om,om⟩,⟨om,om⟩,⟨(Zas h2 (Zdo ((at_ lines i.toNat).Top) 0 ((at_ lines i.toNat).Bottom))),trivial⟩,⟨om,om⟩,h3,h4,(Zah om om),⟨om,om⟩,⟨om,om⟩,h5,trivial⟩ (Zab (Zbc (Zam (Zay 1 (Zab ?_)))))
     refine Zdk [] [0,1,6] [] [Zan false lines,I y,I (i+1)] [] [inR .i64 (i+1)] hB ⟨(Zah om om),trivial⟩ ?_
     exact Zaz _ om ⟨(i+1),rfl,om,(by intro j hj;by_cases ej:j=i.toNat;(subst ej;first|assumption|exact hok);exact hall0 j om),rfl⟩
    have hok:=Zpl hi0.1 hb0 hb1 (.inl h4)
    refine Zbm [(10,.call [(true,.any),(true,.any),(true,.any)] true (Bv true)),(18,.dec false),(22,.dec false)] [0,1,6,52] [] [(0:Int)≤i∧i<(lines.length:Int),(0:Int)≤i∧i<(lines.length:Int),Con Try.prog 46 [I ((at_ lines i.toNat).Top),I 0,I ((at_ lines i.toNat).Bottom)] true (Bv true)∧True,(0:Int)≤i∧i<(lines.length:Int),_,_] hB ⟨⟨om,om⟩,⟨om,om⟩,⟨(Zas h2 (Zdo ((at_ lines i.toNat).Top) 0 ((at_ lines i.toNat).Bottom))),trivial⟩,⟨om,om⟩,h3,h4,trivial⟩ (Zab (Zbc (Zam (Zay 1 (Zab ?_)))))
    refine Zdk [] [0,1,6] [] [Zan false lines,I y,I (i+1)] [] [inR .i64 (i+1)] hB ⟨(Zah om om),trivial⟩ ?_
    exact Zaz _ om ⟨(i+1),rfl,om,(by intro j hj;by_cases ej:j=i.toNat;(subst ej;first|assumption|exact hok);exact hall0 j om),rfl⟩
   have hst:=Zkb (y:=y) hi (Zkc hi0.1 (.inl h2))
   refine Zbm [(10,.call [(true,.any),(true,.any),(true,.any)] true (Bv false))] [0,1,6,52] [] [(0:Int)≤i∧i<(lines.length:Int),(0:Int)≤i∧i<(lines.length:Int),Con Try.prog 46 [I ((at_ lines i.toNat).Top),I 0,I ((at_ lines i.toNat).Bottom)] true (Bv false)∧True] hB ⟨⟨om,om⟩,⟨om,om⟩,⟨(Zas h2 (Zdo ((at_ lines i.toNat).Top) 0 ((at_ lines i.toNat).Bottom))),trivial⟩,trivial⟩ (Zab (Zbp ?_))
   refine aR [] [4,5] [] [I 0,I 1] [] [] hB trivial (Zav ?_)
   refine Zar (Zak (Zak (Zar (Zak ?_))))
   refine Zat hB (.tup [I 0,I 1]) (by kernel_rfl) (.inl (by first|(rw [hst];done)|(rw [hst,hbs];done))) rfl (fun _=>(by simp [Zaj,Zaf]))
  have hall:Zlb lines.length (Zvn lines)=true:=Zgx (fun j hj=>hall0 j om)
  refine Zbm [(3,.dec false)] [0,1,6,12] [] [_] hB ⟨h1,trivial⟩ (Zab (Zbc (Zbr (Zai (Zai (Zaq (Zab (Zae (Zae ?_)))))))))
  rcases Bool.eq_false_or_eq_true (inB y 0 4095) with h6|h6
  ·have hyy:=h6
   have hyb:=Zfz.1 h6
   refine Zbm [(1,.call [(true,.any),(true,.any),(true,.any)] true (Bv true))] [0,1,55] [] [Con Try.prog 46 [I y,I 0,I 4095] true (Bv true)∧True] hB ⟨⟨(Zas h6 (Zdo y 0 4095)),trivial⟩,trivial⟩ (Zab (Zbc (Zam (Zab (Zae (Zae ?_))))))
   by_cases h7:(lines.length:Int)=0
   ·have hst:=lop_no hall hyy h7
    refine Zbm [(2,.dec true)] [0,1,58] [] [_] hB ⟨h7,trivial⟩ (Zab (Zbp ?_))
    refine aR [] [4,5] [] [I 0,I 3] [] [] hB trivial (Zav (Zak ?_))
    refine Zat hB (.tup [I 0,I 3]) (by kernel_rfl) (.inl (by first|(rw [hst];done)|(rw [hst,hbs];done))) rfl (fun _=>(by simp [Zaj,Zaf]))
   have hst:=Zyd hall hyy h7
   refine Zbm [(2,.dec false)] [0,1,58] [] [_] hB ⟨h7,trivial⟩ (Zab (Zbc (Zam (Zab ?_))))
   refine aQ [] [0,1,7] [] [] hB trivial (Zae ?_)
   refine aR [] [0,1,7,8] [] [Zan false lines,I y,I 0,I 1] [] [] hB trivial (Zao ?_)
   refine Zbq (fun gn gσ=>∃(best:Int) (i':Int),gn=((lines.length:Int)-i').toNat∧(1≤i'∧(i'≤(lines.length:Int)))∧(best=(Zgc lines y i'.toNat:Int))∧(0≤best)∧gσ=mkS [(0,Zan false lines),(1,I y),(7,I best),(8,I i')] []) (((lines.length:Int)-1).toNat) ⟨0,1,rfl,om,(by first|rfl|(rw [show (1:Int).toNat=1 from rfl,Zrj];rfl)),om,rfl⟩ (fun gn gσ hI=> ?_)
   obtain ⟨best,i',rfl,hj0,hbs,hb9,rfl⟩:=hI
   refine Zae (Zae ?_)
   by_cases h8:i'<(lines.length:Int)
   ·have hj:i'.toNat<lines.length:=by omega
    have hnx:(i'+1).toNat=i'.toNat+1:=by omega
    have hnl:=Zpm lines y i'.toNat
    have hbe:best.toNat=Zgc lines y i'.toNat:=by omega
    have hk1:=Zht.1 (Zhu hall hj)
    have hk2:=Zht.1 (Zhu hall (k:=Zgc lines y i'.toNat) om)
    rw [←hbe] at hk2
    refine Zbm [(3,.dec true)] [0,1,7,8,62] [] [_] hB ⟨h8,trivial⟩ (Zab (Zbp (Zam (Zab (Zae (Zao (Zae ?_)))))))
    by_cases h9:(Zfh y (at_ lines i'.toNat).Top (at_ lines i'.toNat).Bottom)<(Zfh y (at_ lines best.toNat).Top (at_ lines best.toNat).Bottom)
    ·have hny:=near_y (ls:=lines) (y:=y) (k:=i'.toNat) (by rw [←hbe];exact h9)
     refine Zbm [(4,.call [(true,.any),(true,.any)] true (I (Zfh y (at_ lines i'.toNat).Top (at_ lines i'.toNat).Bottom))),(9,.call [(true,.any),(true,.any)] true (I (Zfh y (at_ lines best.toNat).Top (at_ lines best.toNat).Bottom))),(10,.dec true)] [0,1,7,8,75] [] [(0:Int)≤i'∧i'<(lines.length:Int),_∧True,(0:Int)≤best∧best<(lines.length:Int),_∧True,_] hB ⟨⟨om,om⟩,⟨(Zhv (at_ lines i'.toNat) y om om om),trivial⟩,⟨om,om⟩,⟨(Zhv (at_ lines best.toNat) y om om om),trivial⟩,h9,trivial⟩ (Zab (Zbp ?_))
     refine Zbm [] [0,1,7,8] [] [] hB trivial (Zay 3 (Zab ?_))
     refine Zdk [] [0,1,7,8] [] [Zan false lines,I y,I i',I (i'+1)] [] [inR .i64 (i'+1)] hB ⟨(Zah om om),trivial⟩ ?_
     exact Zaz _ om ⟨i',(i'+1),rfl,om,(by rw [hnx];first|(rw [hny];omega)|(rw [hnn];exact hbs)),om,rfl⟩
    have hnn:=near_n (ls:=lines) (y:=y) (k:=i'.toNat) (by rw [←hbe];exact h9)
    refine Zbm [(4,.call [(true,.any),(true,.any)] true (I (Zfh y (at_ lines i'.toNat).Top (at_ lines i'.toNat).Bottom))),(9,.call [(true,.any),(true,.any)] true (I (Zfh y (at_ lines best.toNat).Top (at_ lines best.toNat).Bottom))),(10,.dec false)] [0,1,7,8,75] [] [(0:Int)≤i'∧i'<(lines.length:Int),_∧True,(0:Int)≤best∧best<(lines.length:Int),_∧True,_] hB ⟨⟨om,om⟩,⟨(Zhv (at_ lines i'.toNat) y om om om),trivial⟩,⟨om,om⟩,⟨(Zhv (at_ lines best.toNat) y om om om),trivial⟩,h9,trivial⟩ (Zab (Zbc (Zam (Zay 3 (Zab ?_)))))
    refine Zdk [] [0,1,7,8] [] [Zan false lines,I y,I best,I (i'+1)] [] [inR .i64 (i'+1)] hB ⟨(Zah om om),trivial⟩ ?_
    exact Zaz _ om ⟨best,(i'+1),rfl,om,(by rw [hnx];first|(rw [hny];omega)|(rw [hnn];exact hbs)),om,rfl⟩
   have hje:i'.toNat=lines.length:=by omega
   rw [hje] at hbs
   refine Zbm [(3,.dec false)] [0,1,7,8,62] [] [_] hB ⟨h8,trivial⟩ (Zab (Zbc (Zbr (Zai (Zai (Zaq (Zab ?_)))))))
   refine aR [] [4,5] [] [I best,I 0] [] [] hB trivial (Zav ?_)
   refine Zat hB (.tup [I best,I 0]) (by kernel_rfl) (.inl (by first|(rw [hst];done)|(rw [hst,hbs];done))) rfl (fun _=>(by simp [Zaj,Zaf]))
  have hst:=Zye hall h6
  refine Zbm [(1,.call [(true,.any),(true,.any),(true,.any)] true (Bv false))] [0,1,55] [] [Con Try.prog 46 [I y,I 0,I 4095] true (Bv false)∧True] hB ⟨⟨(Zas h6 (Zdo y 0 4095)),trivial⟩,trivial⟩ (Zab (Zbp ?_))
  refine aR [] [4,5] [] [I 0,I 2] [] [] hB trivial (Zav (Zak ?_))
  refine Zat hB (.tup [I 0,I 2]) (by kernel_rfl) (.inl (by first|(rw [hst];done)|(rw [hst,hbs];done))) rfl (fun _=>(by simp [Zaj,Zaf]))
theorem Zvo (a:List Int) (b:List Int):Con Try.prog 49 [slI false a,slI false b] true (Bv (Zef a b)):=by
  refine Zcn (fn:=Try.f49) (nt:=26) Try.func49 rfl rfl rfl rfl (by simp [Zaf,Zaj,Zje]) fun B hB=> ?_
  refine Zbk (x:=slI false a) 0 rfl (fun len_a=> ?_)
  simp [Zco,Zfb,cI,fI,slI] at len_a
  refine Zbk (x:=slI false b) 1 rfl (fun len_b=> ?_)
  simp [Zco,Zfb,cI,fI,slI] at len_b
  refine aQ [] [0,1] [] [] hB trivial (Zae (Zae ?_))
  by_cases h1:(a.length:Int)=(b.length:Int)
  ·have hlen:a.length=b.length:=by omega
   refine Zbm [(4,.dec false)] [0,1,10] [] [¬ ((a.length:Int)≠(b.length:Int))] hB ⟨(fun hq=>hq h1),trivial⟩ (Zab (Zbc (Zam (Zab (Zae ?_)))))
   refine aR [] [0,1,5] [] [slI false a,slI false b,I 0] [] [] hB trivial (Zao ?_)
   refine Zbq (fun gn gσ=>∃(i:Int),gn=((a.length:Int)-i).toNat∧(0≤i∧i≤(a.length:Int))∧(∀j:Nat,(j:Int)<i→decide (at_ a j=at_ b j)=true)∧gσ=mkS [(0,slI false a),(1,slI false b),(5,I i)] []) (((a.length:Int)-0).toNat) ⟨0,rfl,om,(by intro j hj;omega),rfl⟩ (fun gn gσ hI=> ?_)
   obtain ⟨i,rfl,hi0,hall0,rfl⟩:=hI
   refine Zae (Zae ?_)
   by_cases h2:i<(a.length:Int)
   ·have hi:i.toNat<a.length:=by omega
    refine Zbm [(3,.dec true)] [0,1,5,14] [] [_] hB ⟨h2,trivial⟩ (Zab (Zbp (Zam (Zab (Zae (Zao (Zae ?_)))))))
    by_cases h3:(at_ a i.toNat)=(at_ b i.toNat)
    ·have hok:decide (at_ a i.toNat=at_ b i.toNat)=true:=decide_eq_true h3
     refine Zbm [(8,.dec false)] [0,1,5,25] [] [(0:Int)≤i∧i<(a.length:Int),(0:Int)≤i∧i<(b.length:Int),¬ ((at_ a i.toNat)≠(at_ b i.toNat))] hB ⟨⟨om,om⟩,⟨om,om⟩,(fun hq=>hq h3),trivial⟩ (Zab (Zbc (Zam (Zay 1 (Zab ?_)))))
     refine Zdk [] [0,1,5] [] [slI false a,slI false b,I (i+1)] [] [inR .i64 (i+1)] hB ⟨(Zah om om),trivial⟩ ?_
     exact Zaz _ om ⟨(i+1),rfl,om,(by intro j hj;by_cases ej:j=i.toNat;(subst ej;first|assumption|exact hok);exact hall0 j om),rfl⟩
    have hall:Zlb a.length (fun j=>decide (at_ a j=at_ b j))=false:=Zhw hi (decide_eq_false h3)
    refine Zbm [(8,.dec true)] [0,1,5,25] [] [(0:Int)≤i∧i<(a.length:Int),(0:Int)≤i∧i<(b.length:Int),_] hB ⟨⟨om,om⟩,⟨om,om⟩,h3,trivial⟩ (Zab (Zbp ?_))
    refine aR [] [4] [] [Bv false] [] [] hB trivial (Zav ?_)
    refine Zar (Zak (Zak (Zar (Zak ?_))))
    refine Zat hB (Bv false) (by kernel_rfl) (.inl (by first|(simp [Zef,hlen];done)|(unfold Zef;rw [hall];simp [hlen]))) rfl (fun _=>trivial)
   have hall:Zlb a.length (fun j=>decide (at_ a j=at_ b j))=true:=Zgx (fun j hj=>hall0 j om)
   refine Zbm [(3,.dec false)] [0,1,5,14] [] [_] hB ⟨h2,trivial⟩ (Zab (Zbc (Zbr (Zai (Zai (Zaq (Zab ?_)))))))
   refine aR [] [4] [] [Bv true] [] [] hB trivial (Zav ?_)
   refine Zat hB (Bv true) (by kernel_rfl) (.inl (by first|(simp [Zef,hlen];done)|(unfold Zef;rw [hall];simp [hlen]))) rfl (fun _=>trivial)
  have hlen:¬ a.length=b.length:=by omega
  refine Zbm [(4,.dec true)] [0,1,10] [] [_] hB ⟨h1,trivial⟩ (Zab (Zbp ?_))
  refine aR [] [4] [] [Bv false] [] [] hB trivial (Zav (Zak ?_))
  refine Zat hB (Bv false) (by kernel_rfl) (.inl (by first|(simp [Zef,hlen];done)|(unfold Zef;rw [hall];simp [hlen]))) rfl (fun _=>trivial)
theorem Zfl (a:Line) (b:Line):Con Try.prog 15 [Zdj a,Zdj b] true (Bv (Zlf a b)):=by
  refine Zcn (fn:=Try.f15) (nt:=24) Try.func15 rfl rfl rfl rfl (by simp [Zaf,Zaj,Zje]) fun B hB=> ?_
  refine Zbk (x:=Zdj a) 0 rfl (fun len_a=> ?_)
  simp [Zco,Zfb,cI,fI,slI] at len_a
  refine Zbk (x:=Zdj b) 1 rfl (fun len_b=> ?_)
  simp [Zco,Zfb,cI,fI,slI] at len_b
  refine aQ [(0,.new 2),(1,.new 3)] [2,3] [2,3] [] hB trivial (Zae ?_)
  by_cases h1:a.Top=b.Top
  ·by_cases h2:a.Bottom=b.Bottom
   ·refine Zdk [(4,.dec true),(10,.dec true),(17,.call [(true,.any),(true,.any)] true (Bv (Zef a.Items b.Items)))] [4] [] [Bv (Zef a.Items b.Items)] [] [_,_,_∧True] hB ⟨h1,h2,⟨(Zvo a.Items b.Items),trivial⟩,trivial⟩ (Zab (Zav ?_))
    refine Zat hB (Bv (Zef a.Items b.Items)) (by kernel_rfl) (.inl (by refine congrArg Bv ?_;unfold Zlf;simp [*])) rfl (fun _=>trivial)
   refine Zdk [(4,.dec true),(10,.dec false)] [4] [] [Bv false] [] [_,_] hB ⟨h1,h2,trivial⟩ (Zab (Zav ?_))
   refine Zat hB (Bv false) (by kernel_rfl) (.inl (by refine congrArg Bv ?_;unfold Zlf;simp [*])) rfl (fun _=>trivial)
  refine Zdk [(4,.dec false)] [4] [] [Bv false] [] [_] hB ⟨h1,trivial⟩ (Zab (Zav ?_))
  refine Zat hB (Bv false) (by kernel_rfl) (.inl (by refine congrArg Bv ?_;unfold Zlf;simp [*])) rfl (fun _=>trivial)
theorem Zng (a:List Line) (b:List Line) (hab:a=b):Con Try.prog 13 [Zan false a,Zan false b] true (Bv true):=by
  refine Zcn (fn:=Try.f13) (nt:=27) Try.func13 rfl rfl rfl rfl (by simp [Zaf,Zaj,Zdw]) fun B hB=> ?_
  refine Zbk (x:=Zan false a) 0 rfl (fun len_a=> ?_)
  simp [Zco,Zfb,cI,Zfg,fI,Zcd,slI,Zan] at len_a
  refine Zbk (x:=Zan false b) 1 rfl (fun len_b=> ?_)
  simp [Zco,Zfb,cI,Zfg,fI,Zcd,slI,Zan] at len_b
  refine aQ [] [0,1] [] [] hB trivial (Zae ?_)
  refine aQ [(4,.dec false)] [0,1,10] [] [¬ ((a.length:Int)≠(b.length:Int))] hB ⟨(fun hq=>hq (by rw [hab])),trivial⟩ (Zbc (Zam (Zab (Zae ?_))))
  refine aR [] [0,1,5] [] [Zan false a,Zan false b,I 0] [] [] hB trivial (Zao ?_)
  refine Zbq (fun gn gσ=>∃(i:Int),gn=((a.length:Int)-i).toNat∧(0≤i∧i≤(a.length:Int))∧gσ=mkS [(0,Zan false a),(1,Zan false b),(5,I i)] []) (((a.length:Int)-0).toNat) ⟨0,rfl,om,rfl⟩ (fun gn gσ hI=> ?_)
  obtain ⟨i,rfl,hi0,rfl⟩:=hI
  refine Zae (Zae ?_)
  by_cases h1:i<(a.length:Int)
  ·have hbn:b.length=a.length:=by rw [hab]
   refine Zbm [(3,.dec true)] [0,1,5,14] [] [_] hB ⟨h1,trivial⟩ (Zab (Zbp (Zam (Zab (Zae (Zao ?_))))))
   refine aQ [(8,.call [(true,.any),(true,.any)] true (Bv true))] [0,1,5,26] [] [(0:Int)≤i∧i<(a.length:Int),(0:Int)≤i∧i<(b.length:Int),Con Try.prog 15 [Zdj (at_ a i.toNat),Zdj (at_ b i.toNat)] true (Bv true)∧True] hB ⟨⟨om,om⟩,⟨om,om⟩,⟨(Zas (by rw [hab];exact Zvp _) (Zfl (at_ a i.toNat) (at_ b i.toNat))),trivial⟩,trivial⟩ (Zbc (Zam (Zay 1 (Zab ?_))))
   refine Zdk [] [0,1,5] [] [Zan false a,Zan false b,I (i+1)] [] [inR .i64 (i+1)] hB ⟨(Zah om om),trivial⟩ ?_
   exact Zaz _ om ⟨(i+1),rfl,om,rfl⟩
  have hbn:b.length=a.length:=by rw [hab]
  refine Zbm [(3,.dec false)] [0,1,5,14] [] [_] hB ⟨h1,trivial⟩ (Zab (Zbc (Zbr (Zai (Zai (Zaq (Zab ?_)))))))
  refine aR [] [4] [] [Bv true] [] [] hB trivial (Zav ?_)
  refine Zat hB (Bv true) (by kernel_rfl) (.inl rfl) rfl (fun _=>trivial)
theorem Zyf (a:List Int) (b:List Int):Con Try.prog 48 [slI false a,slI false b] true (Bv (Zef a b)):=by
  refine Zcn (fn:=Try.f48) (nt:=26) Try.func48 rfl rfl rfl rfl (by simp [Zaf,Zaj,Zje]) fun B hB=> ?_
  refine Zbk (x:=slI false a) 0 rfl (fun len_a=> ?_)
  simp [Zco,Zfb,cI,fI,slI] at len_a
  refine Zbk (x:=slI false b) 1 rfl (fun len_b=> ?_)
  simp [Zco,Zfb,cI,fI,slI] at len_b
  refine aQ [] [0,1] [] [] hB trivial (Zae (Zae ?_))
  by_cases h1:(a.length:Int)=(b.length:Int)
  ·have hlen:a.length=b.length:=by omega
   refine Zbm [(4,.dec false)] [0,1,10] [] [¬ ((a.length:Int)≠(b.length:Int))] hB ⟨(fun hq=>hq h1),trivial⟩ (Zab (Zbc (Zam (Zab (Zae ?_)))))
   refine aR [] [0,1,12,13] [] [slI false a,slI false b,I (a.length:Int),I 0] [] [] hB trivial (Zao ?_)
   refine Zbq (fun gn gσ=>∃(t13:Int),gn=((a.length:Int)-t13).toNat∧(0≤t13∧t13≤(a.length:Int))∧(∀j:Nat,(j:Int)<t13→decide (at_ a j=at_ b j)=true)∧gσ=mkS [(0,slI false a),(1,slI false b),(12,I (a.length:Int)),(13,I t13)] []) (((a.length:Int)-0).toNat) ⟨0,rfl,om,(by intro j hj;omega),rfl⟩ (fun gn gσ hI=> ?_)
   obtain ⟨t13,rfl,hi0,hall0,rfl⟩:=hI
   refine Zae ?_
   by_cases h2:t13<(a.length:Int)
   ·have hi:t13.toNat<a.length:=by omega
    refine Zbm [(0,.dec true)] [0,1,12,13,14] [] [_] hB ⟨h2,trivial⟩ (Zab (Zae (Zbp (Zam (Zab (Zae (Zao ?_)))))))
    refine aQ [] [0,1,5,12,13] [] [] hB trivial (Zae ?_)
    by_cases h3:(at_ a t13.toNat)=(at_ b t13.toNat)
    ·have hok:decide (at_ a t13.toNat=at_ b t13.toNat)=true:=decide_eq_true h3
     refine Zbm [(8,.dec false)] [0,1,12,13,24] [] [(0:Int)≤t13∧t13<(a.length:Int),(0:Int)≤t13∧t13<(b.length:Int),¬ ((at_ a t13.toNat)≠(at_ b t13.toNat))] hB ⟨⟨om,om⟩,⟨om,om⟩,(fun hq=>hq h3),trivial⟩ (Zab (Zbc (Zam (Zay 1 (Zab ?_)))))
     refine Zdk [] [0,1,12,13] [] [slI false a,slI false b,I (a.length:Int),I (t13+1)] [] [inR .i64 (t13+1)] hB ⟨(Zah om om),trivial⟩ ?_
     exact Zaz _ om ⟨(t13+1),rfl,om,(by intro j hj;by_cases ej:j=t13.toNat;(subst ej;first|assumption|exact hok);exact hall0 j om),rfl⟩
    have hall:Zlb a.length (fun j=>decide (at_ a j=at_ b j))=false:=Zhw hi (decide_eq_false h3)
    refine Zbm [(8,.dec true)] [0,1,12,13,24] [] [(0:Int)≤t13∧t13<(a.length:Int),(0:Int)≤t13∧t13<(b.length:Int),_] hB ⟨⟨om,om⟩,⟨om,om⟩,h3,trivial⟩ (Zab (Zbp ?_))
    refine aR [] [4] [] [Bv false] [] [] hB trivial (Zav ?_)
    refine Zar (Zak (Zak (Zar (Zak ?_))))
    refine Zat hB (Bv false) (by kernel_rfl) (.inl (by first|(simp [Zef,hlen];done)|(unfold Zef;rw [hall];simp [hlen]))) rfl (fun _=>trivial)
   have hall:Zlb a.length (fun j=>decide (at_ a j=at_ b j))=true:=Zgx (fun j hj=>hall0 j om)
   refine Zbm [(0,.dec false)] [0,1,12,13,14] [] [_] hB ⟨h2,trivial⟩ (Zab (Zae (Zbc (Zbr (Zai (Zai (Zaq (Zab ?_))))))))
   refine aR [] [4] [] [Bv true] [] [] hB trivial (Zav ?_)
   refine Zat hB (Bv true) (by kernel_rfl) (.inl (by first|(simp [Zef,hlen];done)|(unfold Zef;rw [hall];simp [hlen]))) rfl (fun _=>trivial)
  have hlen:¬ a.length=b.length:=by omega
  refine Zbm [(4,.dec true)] [0,1,10] [] [_] hB ⟨h1,trivial⟩ (Zab (Zbp ?_))
  refine aR [] [4] [] [Bv false] [] [] hB trivial (Zav (Zak ?_))
  refine Zat hB (Bv false) (by kernel_rfl) (.inl (by first|(simp [Zef,hlen];done)|(unfold Zef;rw [hall];simp [hlen]))) rfl (fun _=>trivial)
theorem Zhe (a:Line) (b:Line):Con Try.prog 14 [Zdj a,Zdj b] true (Bv (Zlf a b)):=by
  refine Zcn (fn:=Try.f14) (nt:=24) Try.func14 rfl rfl rfl rfl (by simp [Zaf,Zaj,Zje]) fun B hB=> ?_
  refine Zbk (x:=Zdj a) 0 rfl (fun len_a=> ?_)
  simp [Zco,Zfb,cI,fI,slI] at len_a
  refine Zbk (x:=Zdj b) 1 rfl (fun len_b=> ?_)
  simp [Zco,Zfb,cI,fI,slI] at len_b
  refine aQ [(0,.new 2),(1,.new 3)] [2,3] [2,3] [] hB trivial (Zae ?_)
  by_cases h1:a.Top=b.Top
  ·by_cases h2:a.Bottom=b.Bottom
   ·refine Zdk [(4,.dec true),(10,.dec true),(17,.call [(true,.any),(true,.any)] true (Bv (Zef a.Items b.Items)))] [4] [] [Bv (Zef a.Items b.Items)] [] [_,_,_∧True] hB ⟨h1,h2,⟨(Zyf a.Items b.Items),trivial⟩,trivial⟩ (Zab (Zav ?_))
    refine Zat hB (Bv (Zef a.Items b.Items)) (by kernel_rfl) (.inl (by refine congrArg Bv ?_;unfold Zlf;simp [*])) rfl (fun _=>trivial)
   refine Zdk [(4,.dec true),(10,.dec false)] [4] [] [Bv false] [] [_,_] hB ⟨h1,h2,trivial⟩ (Zab (Zav ?_))
   refine Zat hB (Bv false) (by kernel_rfl) (.inl (by refine congrArg Bv ?_;unfold Zlf;simp [*])) rfl (fun _=>trivial)
  refine Zdk [(4,.dec false)] [4] [] [Bv false] [] [_] hB ⟨h1,trivial⟩ (Zab (Zav ?_))
  refine Zat hB (Bv false) (by kernel_rfl) (.inl (by refine congrArg Bv ?_;unfold Zlf;simp [*])) rfl (fun _=>trivial)
theorem Zif (k:Int) (boxes:List Box) (hbl:boxes.length≤1000000):Con Try.prog 73 [I k,.ptr false [Zag false boxes]] true (Bv (!(inB k 0 ((boxes.length:Int)-1)))):=by
 refine Zcn (fn:=Try.f73) (nt:=10) Try.func73 rfl rfl rfl rfl (by simp [Zaf,Zaj,Zbz]) fun B hB=> ?_
 refine Zbk (x:= .ptr false [Zag false boxes]) 1 rfl (fun len_boxes=> ?_)
 simp [Zco,Zfb,Zmo,Zdi,Zag] at len_boxes
 refine aQ [] [0,1] [] [] hB trivial ?_
 refine aR [(4,.call [(true,.any),(true,.any),(true,.any)] true (Bv (inB k 0 ((boxes.length:Int)-1))))] [3] [] [Bv (!(inB k 0 ((boxes.length:Int)-1)))] [] [inR .i64 ((boxes.length:Int)-1),_∧True] hB ⟨(Zah om om),⟨(Zcq k 0 ((boxes.length:Int)-1)),trivial⟩,trivial⟩ (Zav ?_)
 refine Zat hB (Bv (!(inB k 0 ((boxes.length:Int)-1)))) (by kernel_rfl) (.inl rfl) rfl (fun _=>trivial)
theorem Zkd (s:List Int) (boxes:List Box) (hel:∀j,j<s.length→boxes.length≤1000000):Con Try.prog 83 [slI false s,.fn 73 [.ptr false [Zag false boxes]]] true (I (Zed s.length (fun j=>(!(inB (at_ s j) 0 ((boxes.length:Int)-1)))))):=by
  refine Zcn (fn:=Try.f83) (nt:=19) Try.func83 rfl rfl rfl rfl (by simp [Zaf,Zaj,Zbz,Zje]) fun B hB=> ?_
  refine Zbk (x:=slI false s) 0 rfl (fun len_s=> ?_)
  simp [Zco,Zfb,cI,fI,slI] at len_s
  refine aQ [] [0,1] [] [] hB trivial (Zae ?_)
  refine aR [] [0,1,7,8] [] [slI false s,.fn 73 [.ptr false [Zag false boxes]],I (s.length:Int),I 0] [] [] hB trivial (Zao ?_)
  refine Zbq (fun gn gσ=>∃(t8:Int),gn=((s.length:Int)-t8).toNat∧(0≤t8∧t8≤(s.length:Int))∧(∀j:Nat,(j:Int)<t8→(!(inB (at_ s j) 0 ((boxes.length:Int)-1)))=false)∧gσ=mkS [(0,slI false s),(1,.fn 73 [.ptr false [Zag false boxes]]),(7,I (s.length:Int)),(8,I t8)] []) (((s.length:Int)-0).toNat) ⟨0,rfl,om,(by intro j hj;omega),rfl⟩ (fun gn gσ hI=> ?_)
  obtain ⟨t8,rfl,hi0,hall0,rfl⟩:=hI
  refine Zae ?_
  by_cases h1:t8<(s.length:Int)
  ·have hi:t8.toNat<s.length:=by omega
   refine Zbm [(0,.dec true)] [0,1,7,8,9] [] [_] hB ⟨h1,trivial⟩ (Zab (Zae (Zbp (Zam (Zab (Zae (Zao ?_)))))))
   refine aQ [] [0,1,5,7,8] [] [] hB trivial (Zae ?_)
   rcases Bool.eq_false_or_eq_true (!(inB (at_ s t8.toNat) 0 ((boxes.length:Int)-1))) with h2|h2
   ·have hfin:Zed s.length (fun j=>(!(inB (at_ s j) 0 ((boxes.length:Int)-1))))=t8.toNat:=Znx hi h2 (fun j hj=>hall0 j om)
    refine Zbm [(5,.call [(true,.any),(true,.any)] true (Bv true))] [0,1,5,7,8,16] [] [(0:Int)≤t8∧t8<(s.length:Int),Con Try.prog 73 [I (at_ s t8.toNat),.ptr false [Zag false boxes]] true (Bv true)∧True] hB ⟨⟨om,om⟩,⟨(Zas h2 (Zif (at_ s t8.toNat) boxes (hel _ hi))),trivial⟩,trivial⟩ (Zab (Zbp ?_))
    refine aR [] [4] [] [I t8] [] [] hB trivial (Zav ?_)
    refine Zar (Zak (Zak (Zar (Zak ?_))))
    refine Zat hB (I t8) (by kernel_rfl) (.inl (by refine congrArg I ?_;first|(rw [hfin];done)|(rw [hfin];omega))) rfl (fun _=>trivial)
   refine Zbm [(5,.call [(true,.any),(true,.any)] true (Bv false))] [0,1,5,7,8,16] [] [(0:Int)≤t8∧t8<(s.length:Int),Con Try.prog 73 [I (at_ s t8.toNat),.ptr false [Zag false boxes]] true (Bv false)∧True] hB ⟨⟨om,om⟩,⟨(Zas h2 (Zif (at_ s t8.toNat) boxes (hel _ hi))),trivial⟩,trivial⟩ (Zab (Zbc (Zam (Zay 1 (Zab ?_)))))
   refine Zdk [] [0,1,7,8] [] [slI false s,.fn 73 [.ptr false [Zag false boxes]],I (s.length:Int),I (t8+1)] [] [inR .i64 (t8+1)] hB ⟨(Zah om om),trivial⟩ ?_
   exact Zaz _ om ⟨(t8+1),rfl,om,(by intro j hj;by_cases ej:j=t8.toNat;(subst ej;first|assumption|rfl);exact hall0 j om),rfl⟩
  have hfin:Zed s.length (fun j=>(!(inB (at_ s j) 0 ((boxes.length:Int)-1))))=-1:=Ziq (fun j hj=>hall0 j om)
  refine Zbm [(0,.dec false)] [0,1,7,8,9] [] [_] hB ⟨h1,trivial⟩ (Zab (Zae (Zbc (Zbr (Zai (Zai (Zaq (Zab ?_))))))))
  refine aR [] [4] [] [I (-1)] [] [] hB trivial (Zav ?_)
  refine Zat hB (I (-1)) (by kernel_rfl) (.inl (by refine congrArg I ?_;first|(rw [hfin];done)|(rw [hfin];omega))) rfl (fun _=>trivial)
theorem Zpn (s:List Int) (boxes:List Box) (hel:∀j,j<s.length→boxes.length≤1000000):Con Try.prog 72 [slI false s,.fn 73 [.ptr false [Zag false boxes]]] true (Bv (Zsu s.length (fun j=>(!(inB (at_ s j) 0 ((boxes.length:Int)-1)))))):=by
 refine Zcn (fn:=Try.f72) (nt:=9) Try.func72 rfl rfl rfl rfl (by simp [Zaf,Zaj,Zbz,Zje]) fun B hB=> ?_
 refine Zbk (x:=slI false s) 0 rfl (fun len_s=> ?_)
 simp [Zco,Zfb,cI,fI,slI] at len_s
 refine aQ [] [0,1] [] [] hB trivial ?_
 refine aR [(2,.call [(true,.any),(true,.any)] true (I (Zed s.length (fun j=>(!(inB (at_ s j) 0 ((boxes.length:Int)-1)))))))] [4] [] [Bv (decide (0≤(Zed s.length (fun j=>(!(inB (at_ s j) 0 ((boxes.length:Int)-1)))))))] [] [_∧True] hB ⟨⟨(Zkd s boxes hel),trivial⟩,trivial⟩ (Zav ?_)
 refine Zat hB (Bv (decide (0≤(Zed s.length (fun j=>(!(inB (at_ s j) 0 ((boxes.length:Int)-1)))))))) (by kernel_rfl) (.inl (by exact congrArg Bv (Zny _ _))) rfl (fun _=>trivial)
theorem Zjf (boxes:List Box) (items:List Int) (hbl:boxes.length≤1000000):Con Try.prog 50 [Zag false boxes,slI false items] true (Bv (inIx boxes items)):=by
 refine Zcn (fn:=Try.f50) (nt:=9) Try.func50 rfl rfl rfl rfl (by simp [Zaf,Zaj,Zbz,Zje]) fun B hB=> ?_
 refine Zbk (x:=Zag false boxes) 0 rfl (fun len_boxes=> ?_)
 simp [Zco,Zfb,Zmo,Zdi,Zag] at len_boxes
 refine Zbk (x:=slI false items) 1 rfl (fun len_items=> ?_)
 simp [Zco,Zfb,cI,fI,slI] at len_items
 refine aQ [(0,.new 2)] [1,2] [2] [] hB trivial ?_
 refine aR [(2,.call [(true,.any),(false,.fn 73 [.ptr false [Zag false boxes]])] true (Bv (Zsu items.length (fun j=>(!(inB (at_ items j) 0 ((boxes.length:Int)-1)))))))] [4] [] [Bv (!(Zsu items.length (fun j=>(!(inB (at_ items j) 0 ((boxes.length:Int)-1))))))] [] [_∧(73=73∧((false=true→true=true)∧AV.idsL [Zag false boxes]=[]∧((false=true→false=true)∧4=4∧boxes.length=boxes.length∧∀i_,i_<boxes.length→(Zdi boxes) i_=(Zdi boxes) i_∨(AV.idsL ((Zdi boxes) i_)=[]∧leL (fun _=>none) false ((Zdi boxes) i_) ((Zdi boxes) i_)))∧([]:List AV)=[])∧([]:List AV)=[])∧True] hB ⟨⟨(Zpn items boxes (fun _ _=>hbl)),⟨rfl,⟨⟨(fun h=>by cases h),rfl,⟨⟨(fun h=>by cases h),rfl,rfl,fun i _=> .inl rfl⟩,rfl⟩⟩,rfl⟩⟩,trivial⟩,trivial⟩ (Zav ?_)
 refine Zat hB (Bv (!(Zsu items.length (fun j=>(!(inB (at_ items j) 0 ((boxes.length:Int)-1))))))) (by kernel_rfl) (.inl (by refine congrArg Bv ?_;unfold inIx;rw [Zpo];simp)) rfl (fun _=>trivial)
theorem Zrk (a:Box) (b:Box):Con Try.prog 51 [Zga a,Zga b] true (Zga (Zjg a b)):=by
 refine Zcn (fn:=Try.f51) (nt:=26) Try.func51 rfl rfl rfl rfl (by simp [Zaf,Zaj]) fun B hB=> ?_
 refine aQ [(0,.new 2),(1,.new 3),(2,.new 4)] [2,3,4] [2,3,4] [] hB trivial ?_
 refine aR [] [4] [4] [.ref 4 0] [some (.box [I (min a.X1 b.X1),I (min a.Y1 b.Y1),I (max a.X2 b.X2),I (max a.Y2 b.Y2)])] [] hB trivial (Zav ?_)
 refine Zat hB (.agg [I (min a.X1 b.X1),I (min a.Y1 b.Y1),I (max a.X2 b.X2),I (max a.Y2 b.Y2)]) (by kernel_rfl) (.inl (by first|rfl|(refine congrArg Bv ?_;simp [*];done)|(refine congrArg Bv ?_;simp [*];omega)|(refine congrArg Bv ?_;simp_all [];done)|(refine congrArg Bv ?_;simp_all [];omega))) rfl (fun _=>(by simp [Zaj,Zaf]))
theorem Zds (boxes:List Box) (items:List Int) (hbl:boxes.length≤1000∧items.length≤1000):Con Try.prog 16 [Zag false boxes,slI false items] true (.tup [Zga ((Zia boxes items).1),I ((Zia boxes items).2)]):=by
  refine Zcn (fn:=Try.f16) (nt:=45) Try.func16 rfl rfl rfl rfl (by simp [Zaf,Zaj,Zbz,Zje]) fun B hB=> ?_
  refine Zbk (x:=Zag false boxes) 0 rfl (fun len_boxes=> ?_)
  simp [Zco,Zfb,Zmo,Zdi,Zag] at len_boxes
  refine Zbk (x:=slI false items) 1 rfl (fun len_items=> ?_)
  simp [Zco,Zfb,cI,fI,slI] at len_items
  refine aQ [(0,.new 4)] [0,1,4] [4] [] hB trivial (Zae (Zao (Zae ?_)))
  rcases Bool.eq_false_or_eq_true (Zbx boxes) with h1|h1
  ·refine Zbm [(1,.call [(true,.any)] true (Bv true))] [0,1,4,9] [4] [Con Try.prog 32 [Zag false boxes] true (Bv true)∧True] hB ⟨⟨(Zas h1 (Zjh boxes)),trivial⟩,trivial⟩ (Zab (Zbc (Zae ?_)))
   rcases Bool.eq_false_or_eq_true (inIx boxes items) with h2|h2
   ·refine Zbm [(2,.call [(true,.any),(true,.any)] true (Bv true))] [0,1,4,14] [4] [Con Try.prog 50 [Zag false boxes,slI false items] true (Bv true)∧True] hB ⟨⟨(Zas h2 (Zjf boxes items om)),trivial⟩,trivial⟩ (Zab (Zbc (Zae ?_)))
    by_cases h3:(items.length:Int)=0
    ·have hst:=boi_st h1 h2 h3
     refine Zdk [(2,.dec true)] [0,1,4,20] [4] [Zag false boxes,slI false items,.ref 4 0,Bv true] [some (.box [I 0,I 0,I 0,I 0])] [_] hB ⟨h3,trivial⟩ (Zab (Zhg rfl ?_))
     refine aR [] [4,5] [4] [.ref 4 0,I 6] [some (.box [I 0,I 0,I 0,I 0])] [] hB trivial (Zav ?_)
     refine Zar (Zak ?_)
     refine Zat hB (.tup [.agg [I 0,I 0,I 0,I 0],I 6]) (by kernel_rfl) (.inl (by first|(rw [hst];done)|(rw [hst,←hb1]))) rfl (fun _=>(by simp [Zaj,Zaf]))
    have hst:=Zyg h1 h2 h3
    have hx0:=Zyh h2 (j:=0) om
    refine Zbm [(2,.dec false)] [0,1,4,20] [4] [_] hB ⟨h3,trivial⟩ (Zab (Zbc (Zam (Zay 0 (Zab ?_)))))
    refine aQ [(6,.new 6)] [0,1,4,6] [4,6] [(0:Int)≤0∧0<(items.length:Int),(0:Int)≤(at_ items 0)∧(at_ items 0)<(boxes.length:Int)] hB ⟨⟨om,om⟩,⟨om,om⟩,trivial⟩ (Zae ?_)
    refine aR [] [0,4,6,31,32,33] [4,6] [Zag false boxes,.ref 4 0,.ref 6 0,slI false items,I (items.length:Int),I 0] [some (.box [I 0,I 0,I 0,I 0]),some (Zgu (at_ boxes ((at_ items 0).toNat)))] [] hB trivial (Zao ?_)
    refine Zih hB [] (T:=[(0,Zag false boxes),(4,.ref 4 0),(6,.ref 6 0),(31,slI false items),(32,I (items.length:Int)),(33,I 0)]) (O:=[(4,.box [I 0,I 0,I 0,I 0]),(6,.box [I ((at_ boxes ((at_ items 0).toNat)).X1),I ((at_ boxes ((at_ items 0).toNat)).Y1),I ((at_ boxes ((at_ items 0).toNat)).X2),I ((at_ boxes ((at_ items 0).toNat)).Y2)])]) rfl (⟨.inl rfl,.inl rfl,.inl rfl,.inl rfl,.inl rfl,.inl rfl,trivial⟩) (⟨.inl rfl,.inr ⟨rfl,⟨rfl,⟨rfl,⟨rfl,rfl⟩⟩⟩⟩,trivial⟩) ?_
    refine Zbq (fun gn gσ=>∃(t33:Int) (x1:Int) (y1:Int) (x2:Int) (y2:Int),gn=((items.length:Int)-t33).toNat∧(0≤t33∧t33≤(items.length:Int))∧(Box.mk x1 y1 x2 y2=itB boxes items t33.toNat)∧gσ=mkS [(0,Zag false boxes),(4,.ref 4 0),(6,.ref 6 0),(31,slI false items),(32,I (items.length:Int)),(33,I t33)] [(4,.box [I 0,I 0,I 0,I 0]),(6,.box [I x1,I y1,I x2,I y2])]) (((items.length:Int)-0).toNat) ⟨0,(at_ boxes ((at_ items 0).toNat)).X1,(at_ boxes ((at_ items 0).toNat)).Y1,(at_ boxes ((at_ items 0).toNat)).X2,(at_ boxes ((at_ items 0).toNat)).Y2,rfl,om,(by first|rfl|exact (Zyi _ _).symm),rfl⟩ (fun gn gσ hI=> ?_)
    obtain ⟨t33,x1,y1,x2,y2,rfl,hj0,hb1,rfl⟩:=hI
    refine Zae ?_
    by_cases h4:t33<(items.length:Int)
    ·have hi2:t33.toNat<items.length:=by omega
     have hxi:=Zyh h2 hi2
     refine Zbm [(0,.dec true)] [0,4,6,31,32,33,34] [4,6] [_] hB ⟨h4,trivial⟩ (Zab (Zae (Zbp (Zam (Zab (Zae (Zao ?_)))))))
     refine aQ [] [0,4,6,8,31,32,33] [4,6] [(0:Int)≤t33∧t33<(items.length:Int)] hB ⟨⟨om,om⟩,trivial⟩ ?_
     refine Zbm [(5,.call [(true,.any),(true,.any)] true (Zga (Zjg (Box.mk x1 y1 x2 y2) (at_ boxes ((at_ items t33.toNat).toNat)))))] [0,4,6,31,32,33] [4,6] [(0:Int)≤(at_ items t33.toNat)∧(at_ items t33.toNat)<(boxes.length:Int),_∧True] hB ⟨⟨om,om⟩,⟨(Zrk (Box.mk x1 y1 x2 y2) (at_ boxes ((at_ items t33.toNat).toNat))),trivial⟩,trivial⟩ (Zay 2 (Zab ?_))
     refine Zdk [] [0,4,6,31,32,33] [4,6] [Zag false boxes,.ref 4 0,.ref 6 0,slI false items,I (items.length:Int),I (t33+1)] [some (.box [I 0,I 0,I 0,I 0]),some (Zgu (Zjg (Box.mk x1 y1 x2 y2) (at_ boxes ((at_ items t33.toNat).toNat))))] [inR .i64 (t33+1)] hB ⟨(Zah om om),trivial⟩ ?_
     refine Zhf hB [] (T:=[(0,Zag false boxes),(4,.ref 4 0),(6,.ref 6 0),(31,slI false items),(32,I (items.length:Int)),(33,I (t33+1))]) (O:=[(4,.box [I 0,I 0,I 0,I 0]),(6,.box [I ((Zjg (Box.mk x1 y1 x2 y2) (at_ boxes ((at_ items t33.toNat).toNat))).X1),I ((Zjg (Box.mk x1 y1 x2 y2) (at_ boxes ((at_ items t33.toNat).toNat))).Y1),I ((Zjg (Box.mk x1 y1 x2 y2) (at_ boxes ((at_ items t33.toNat).toNat))).X2),I ((Zjg (Box.mk x1 y1 x2 y2) (at_ boxes ((at_ items t33.toNat).toNat))).Y2)])]) rfl (⟨.inl rfl,.inl rfl,.inl rfl,.inl rfl,.inl rfl,.inl rfl,trivial⟩) (⟨.inl rfl,.inr ⟨rfl,⟨rfl,⟨rfl,⟨rfl,rfl⟩⟩⟩⟩,trivial⟩) (Zaz _ om ⟨(t33+1),(Zjg (Box.mk x1 y1 x2 y2) (at_ boxes ((at_ items t33.toNat).toNat))).X1,(Zjg (Box.mk x1 y1 x2 y2) (at_ boxes ((at_ items t33.toNat).toNat))).Y1,(Zjg (Box.mk x1 y1 x2 y2) (at_ boxes ((at_ items t33.toNat).toNat))).X2,(Zjg (Box.mk x1 y1 x2 y2) (at_ boxes ((at_ items t33.toNat).toNat))).Y2,rfl,om,(by first|(rw [Zum om,←hb1];done)|(rw [Zum om,←hb1];rfl)),rfl⟩)
    have hie2:t33.toNat=items.length:=by omega
    rw [hie2] at hb1
    refine Zbm [(0,.dec false)] [0,4,6,31,32,33,34] [4,6] [_] hB ⟨h4,trivial⟩ (Zab (Zae (Zbc (Zbr (Zai (Zai (Zaq (Zab ?_))))))))
    refine aR [] [4,5] [4] [.ref 4 0,I 0] [some (.box [I x1,I y1,I x2,I y2])] [] hB trivial (Zav ?_)
    refine Zat hB (.tup [.agg [I x1,I y1,I x2,I y2],I 0]) (by kernel_rfl) (.inl (by first|(rw [hst];done)|(rw [hst,←hb1]))) rfl (fun _=>(by simp [Zaj,Zaf]))
   have hst:=boi_rng h1 h2
   refine Zbm [(2,.call [(true,.any),(true,.any)] true (Bv false))] [0,1,4,14] [4] [Con Try.prog 50 [Zag false boxes,slI false items] true (Bv false)∧True] hB ⟨⟨(Zas h2 (Zjf boxes items om)),trivial⟩,trivial⟩ (Zab (Zbp ?_))
   refine aR [] [4,5] [4] [.ref 4 0,I 2] [some (.box [I 0,I 0,I 0,I 0])] [] hB trivial (Zav ?_)
   refine Zar (Zak ?_)
   refine Zat hB (.tup [.agg [I 0,I 0,I 0,I 0],I 2]) (by kernel_rfl) (.inl (by first|(rw [hst];done)|(rw [hst,←hb1]))) rfl (fun _=>(by simp [Zaj,Zaf]))
  have hst:=boi_inv (xs:=items) h1
  refine Zbm [(1,.call [(true,.any)] true (Bv false))] [0,1,4,9] [4] [Con Try.prog 32 [Zag false boxes] true (Bv false)∧True] hB ⟨⟨(Zas h1 (Zjh boxes)),trivial⟩,trivial⟩ (Zab (Zbp ?_))
  refine aR [] [4,5] [4] [.ref 4 0,I 1] [some (.box [I 0,I 0,I 0,I 0])] [] hB trivial (Zav ?_)
  refine Zar (Zak ?_)
  refine Zat hB (.tup [.agg [I 0,I 0,I 0,I 0],I 1]) (by kernel_rfl) (.inl (by first|(rw [hst];done)|(rw [hst,←hb1]))) rfl (fun _=>(by simp [Zaj,Zaf]))
theorem Zrl (a:Int):0≤Zdn .and .u64 a 16777215∧Zdn .and .u64 a 16777215≤16777215:=by
 obtain ⟨n,hn⟩:∃n:Nat,n=(BitVec.ofInt 64 a&&&BitVec.ofInt 64 16777215).toNat:=⟨_,rfl⟩
 have h:n≤16777215:=by rw [hn,BitVec.toNat_and];exact Nat.and_le_right
 have e:Zdn .and .u64 a 16777215=IntKind.u64.wrap (n:Int):=by rw [hn];rfl
 have w:IntKind.u64.wrap (n:Int)=n:=Zgb (Zeo om om)
 rw [e,w];omega
def Zig (d:f6dice):Prop:=(∀j,j<d.b.length→0≤at_ d.b j∧at_ d.b j≤255)∧(0≤d.i∧d.i≤(d.b.length:Int))∧d.b.length≤4611686018427387904
theorem Zqb (code:List Int) (seed:Int) (hc:(∀j,j<code.length→0≤at_ code j∧at_ code j≤255)∧code.length≤4611686018427387904) (hsd:0≤seed∧seed≤18446744073709551615):∃(d':f6dice),(Zig d')∧Zap Try.prog 17 [Zcu false code,.val (.int .u64 seed)] (Zac []) false (.ref 7002 0) (Zac [(7002,Zaw d')]):=by
  have hh:∃r:f6dice,((Zig r)∧(True))∧Zap Try.prog 17 [Zcu false code,.val (.int .u64 seed)] (Zac []) false (.ref 7002 0) (Zac [(7002,Zaw r)]):=by
    refine Zda (Φ:=fun r:f6dice=>(Zig r)∧(True)) [] (fun r=>[(7002,Zaw r)]) (fn:=Try.f17) (nt:=38) Try.func17 rfl rfl (args:=[Zcu false code,.val (.int .u64 seed)]) rfl (Zax (.inl ⟨rfl,Zcc false _⟩) (Zax (.inl ⟨rfl,trivial⟩) Zcz)) (res:=fun r=> .ref 7002 0) ?_
    refine xQ [] [0,1] [] [] trivial ?_
    refine xQ [(2,.wrap),(6,.wrap),(8,.new 7002)] [0,5] [7002] [inR .u64 (code.length:Int)] ⟨(Zeo om om),trivial⟩ (Zau ?_)
    refine xR [] [0,5,6] [7002] [Zcu false code,.ref 7002 0,I 0] [some (.box [Zcu false code,I 0,.val (.int .u64 (IntKind.u64.wrap ((IntKind.u64.wrap (seed*7919))+(code.length:Int))))])] [] trivial (Zby ?_)
    refine Zfm [] (T:=[(0,Zcu false code),(5,.ref 7002 0),(6,I 0)]) (O:=[(7002,.box [.sl false 1 ((f6dice.mk code 0 (IntKind.u64.wrap ((IntKind.u64.wrap (seed*7919))+(code.length:Int)))).b.length) (fU8 ((f6dice.mk code 0 (IntKind.u64.wrap ((IntKind.u64.wrap (seed*7919))+(code.length:Int)))).b)),I ((f6dice.mk code 0 (IntKind.u64.wrap ((IntKind.u64.wrap (seed*7919))+(code.length:Int)))).i),.val (.int .u64 ((f6dice.mk code 0 (IntKind.u64.wrap ((IntKind.u64.wrap (seed*7919))+(code.length:Int)))).h))])]) rfl (⟨.inl rfl,.inl rfl,.inl rfl,trivial⟩) (⟨.inr ⟨⟨(fun h=>by cases h),rfl,(by first|rfl|(simp;done)|(simp;omega)|omega),fun i_ hi_=> .inl (by first|rfl|fail)⟩,⟨(by first|rfl|(simp [Zck];done)|(simp [Zck];omega)),⟨(by first|rfl|(simp [Zck];done)|(simp [Zck];omega)),rfl⟩⟩⟩,trivial⟩) ?_
    refine Zfn (X:=Int×f6dice) (fun x=>mkS [(0,Zcu false code),(5,.ref 7002 0),(6,I x.1)] [(7002,Zaw x.2)]) (fun x=>(0≤x.1∧x.1≤(code.length:Int))∧(x.2.b=code∧x.2.i=0)∧True) (fun x=>((code.length:Int)-x.1).toNat) (0,(f6dice.mk code 0 (IntKind.u64.wrap ((IntKind.u64.wrap (seed*7919))+(code.length:Int))))) rfl (show (0≤(0:Int)∧(0:Int)≤(code.length:Int))∧((f6dice.mk code 0 (IntKind.u64.wrap ((IntKind.u64.wrap (seed*7919))+(code.length:Int)))).b=code∧(f6dice.mk code 0 (IntKind.u64.wrap ((IntKind.u64.wrap (seed*7919))+(code.length:Int)))).i=0)∧True from ⟨om,(by exact ⟨rfl,rfl⟩),trivial⟩) (fun x hI=> ?_)
    obtain ⟨i,di⟩:=x
    obtain ⟨hi0,hd0,_⟩:(0≤i∧i≤(code.length:Int))∧(di.b=code∧di.i=0)∧True:=hI
    show XW _ _ _ _ (mkS [(0,Zcu false code),(5,.ref 7002 0),(6,I i)] [(7002,Zaw di)]) _ _
    refine Zau (Zau ?_)
    by_cases h1:i<(code.length:Int)
    ·have hbt:=hc.1 i.toNat om
     refine x_q [(3,.dec true)] [0,5,6,19] [7002] [_] ⟨h1,trivial⟩ (Zad (Zib (Zca (Zad (Zau (Zby ?_))))))
     refine x_q [(5,.wrap),(11,.wrap),(12,.wrap)] [0,5,6] [7002] [(0:Int)≤i∧i<(code.length:Int),inR .u64 (at_ code i.toNat)] ⟨⟨om,om⟩,(Zeo om om),trivial⟩ (Zbt 1 (Zad ?_))
     refine x_r [] [0,5,6] [7002] [Zcu false code,.ref 7002 0,I (i+1)] [some (.box [Zcu false di.b,I di.i,.val (.int .u64 (IntKind.u64.wrap ((IntKind.u64.wrap ((IntKind.u64.wrap (di.h*1099511628211))+(at_ code i.toNat)))+3)))])] [inR .i64 (i+1)] ⟨(Zah om om),trivial⟩ ?_
     refine Zdl [] (T:=[(0,Zcu false code),(5,.ref 7002 0),(6,I (i+1))]) (O:=[(7002,.box [.sl false 1 ((f6dice.mk di.b di.i (IntKind.u64.wrap ((IntKind.u64.wrap ((IntKind.u64.wrap (di.h*1099511628211))+(at_ code i.toNat)))+3))).b.length) (fU8 ((f6dice.mk di.b di.i (IntKind.u64.wrap ((IntKind.u64.wrap ((IntKind.u64.wrap (di.h*1099511628211))+(at_ code i.toNat)))+3))).b)),I ((f6dice.mk di.b di.i (IntKind.u64.wrap ((IntKind.u64.wrap ((IntKind.u64.wrap (di.h*1099511628211))+(at_ code i.toNat)))+3))).i),.val (.int .u64 ((f6dice.mk di.b di.i (IntKind.u64.wrap ((IntKind.u64.wrap ((IntKind.u64.wrap (di.h*1099511628211))+(at_ code i.toNat)))+3))).h))])]) rfl (⟨.inl rfl,.inl rfl,.inl rfl,trivial⟩) (⟨.inr ⟨⟨(fun h=>by cases h),rfl,(by first|rfl|(simp;done)|(simp;omega)|omega),fun i_ hi_=> .inl (by first|rfl|fail)⟩,⟨(by first|rfl|(simp [Zck];done)|(simp [Zck];omega)),⟨(by first|rfl|(simp [Zck];done)|(simp [Zck];omega)),rfl⟩⟩⟩,trivial⟩) (Zcs ((i+1),(f6dice.mk di.b di.i (IntKind.u64.wrap ((IntKind.u64.wrap ((IntKind.u64.wrap (di.h*1099511628211))+(at_ code i.toNat)))+3)))) rfl (show (0≤(i+1)∧(i+1)≤(code.length:Int))∧((f6dice.mk di.b di.i (IntKind.u64.wrap ((IntKind.u64.wrap ((IntKind.u64.wrap (di.h*1099511628211))+(at_ code i.toNat)))+3))).b=code∧(f6dice.mk di.b di.i (IntKind.u64.wrap ((IntKind.u64.wrap ((IntKind.u64.wrap (di.h*1099511628211))+(at_ code i.toNat)))+3))).i=0)∧True from ⟨om,(by exact hd0),trivial⟩) (by first|(show (((code.length:Int)-(i+1)).toNat:Nat)<((code.length:Int)-i).toNat;omega)|(dsimp only;omega)))
    refine x_r [(3,.dec false)] [0,5,6,19] [7002] [Zcu false code,.ref 7002 0,I i,Bv false] [some (Zaw di)] [_] ⟨h1,trivial⟩ (Zad (Zde rfl (Zdy (Zbd ?_))))
    refine Zbj ?_
    refine Zbe (Zad ?_)
    refine xR [] [4] [7002] [.ref 7002 0] [some (Zaw di)] [] trivial (Zcl ?_)
    refine Zbs di (show (Zig di)∧(True) from ⟨(by exact ⟨by rw [hd0.1];exact hc.1,by rw [hd0.1,hd0.2];omega,by rw [hd0.1];exact hc.2⟩),trivial⟩) (⟨.inl rfl,trivial⟩) (.ref 7002 0) (by kernel_rfl) (.inl rfl) (fun h=>by cases h) (fun h=>by cases h)
  obtain ⟨d',⟨hh0,_⟩,hc⟩:=hh
  exact ⟨d',hh0,hc⟩
theorem Zkq (d:f6dice) (n:Int) (hd:Zig d) (hn:1≤n∧n≤9000000000000000000):∃(v:Int) (d':f6dice),(0≤v∧v<n)∧(Zig d')∧Zap Try.prog 18 [.ref 7002 0,I n] (Zac [(7002,Zaw d)]) true (I v) (Zac [(7002,Zaw d')]):=by
  have hd1:=hd.2.1
  have hd2:=hd.2.2
  have hh:∃r:Int×f6dice,((0≤r.1∧r.1<n)∧(Zig r.2)∧(True))∧Zap Try.prog 18 [.ref 7002 0,I n] (Zac [(7002,Zaw d)]) true (I r.1) (Zac [(7002,Zaw r.2)]):=by
    refine Zda (Φ:=fun r:Int×f6dice=>(0≤r.1∧r.1<n)∧(Zig r.2)∧(True)) [(7002,Zaw d)] (fun r=>[(7002,Zaw r.2)]) (fn:=Try.f18) (nt:=56) Try.func18 rfl rfl (args:=[.ref 7002 0,I n]) rfl (Zax (.inr trivial) (Zax (.inl ⟨rfl,trivial⟩) Zcz)) (res:=fun r=>I r.1) ?_
    refine xQ [] [0,1] [7002] [] trivial ?_
    refine xQ [(5,.wrap),(6,.wrap)] [0,1] [7002] [] trivial (Zau ?_)
    have hb1:=Zrl ((IntKind.u64.wrap ((IntKind.u64.wrap (d.h*6364136223846793005))+1442695040888963407))/8589934592)
    refine x_q [] [0,1,5] [7002] [(0:Int)≤33∧(33:Int)≤((IntKind.bits .u64:Nat):Int),inR .i64 (Zdn .and .u64 ((IntKind.u64.wrap ((IntKind.u64.wrap (d.h*6364136223846793005))+1442695040888963407))/8589934592) 16777215)] ⟨⟨(by decide),(by decide)⟩,(Zah om om),trivial⟩ (Zad (Zau (Zau ?_)))
    by_cases h1:d.i<(d.b.length:Int)
    ·have hbt:=hd.1 d.i.toNat om
     refine x_r [(9,.dec true)] [0,1,5,31] [7002] [.ref 7002 0,I n,I (Zdn .and .u64 ((IntKind.u64.wrap ((IntKind.u64.wrap (d.h*6364136223846793005))+1442695040888963407))/8589934592) 16777215),Bv true] [some (.box [Zcu false d.b,I d.i,.val (.int .u64 (IntKind.u64.wrap ((IntKind.u64.wrap (d.h*6364136223846793005))+1442695040888963407)))])] [_] ⟨h1,trivial⟩ (Zad (Zfv rfl ?_))
     refine xQ [] [0,1,5] [7002] [(0:Int)≤d.i∧d.i<(d.b.length:Int),inR .i64 (at_ d.b d.i.toNat),inR .i64 ((Zdn .and .u64 ((IntKind.u64.wrap ((IntKind.u64.wrap (d.h*6364136223846793005))+1442695040888963407))/8589934592) 16777215)+(at_ d.b d.i.toNat))] ⟨⟨om,om⟩,(Zah om om),(Zah om om),trivial⟩ ?_
     refine x_q [] [1,5] [7002] [inR .i64 (d.i+1)] ⟨(Zah om om),trivial⟩ (Zad ?_)
     refine xR [(2,.nn)] [4] [7002] [I (((Zdn .and .u64 ((IntKind.u64.wrap ((IntKind.u64.wrap (d.h*6364136223846793005))+1442695040888963407))/8589934592) 16777215)+(at_ d.b d.i.toNat)) % n)] [some (.box [Zcu false d.b,I (d.i+1),.val (.int .u64 (IntKind.u64.wrap ((IntKind.u64.wrap (d.h*6364136223846793005))+1442695040888963407)))])] [(0:Int)≤((Zdn .and .u64 ((IntKind.u64.wrap ((IntKind.u64.wrap (d.h*6364136223846793005))+1442695040888963407))/8589934592) 16777215)+(at_ d.b d.i.toNat))∧(0:Int)<n] ⟨⟨om,om⟩,trivial⟩ (Zcl ?_)
     refine Zbs ((((Zdn .and .u64 ((IntKind.u64.wrap ((IntKind.u64.wrap (d.h*6364136223846793005))+1442695040888963407))/8589934592) 16777215)+(at_ d.b d.i.toNat)) % n),(f6dice.mk d.b (d.i+1) (IntKind.u64.wrap ((IntKind.u64.wrap (d.h*6364136223846793005))+1442695040888963407)))) (show (0≤(((Zdn .and .u64 ((IntKind.u64.wrap ((IntKind.u64.wrap (d.h*6364136223846793005))+1442695040888963407))/8589934592) 16777215)+(at_ d.b d.i.toNat)) % n)∧(((Zdn .and .u64 ((IntKind.u64.wrap ((IntKind.u64.wrap (d.h*6364136223846793005))+1442695040888963407))/8589934592) 16777215)+(at_ d.b d.i.toNat)) % n)<n)∧(Zig (f6dice.mk d.b (d.i+1) (IntKind.u64.wrap ((IntKind.u64.wrap (d.h*6364136223846793005))+1442695040888963407))))∧(True) from ⟨(by first|(exact ⟨Int.emod_nonneg _ om,Int.emod_lt_of_pos _ om⟩)|exact hd|exact ⟨hd.1,(by dsimp only;omega),hd2⟩),(by first|(exact ⟨Int.emod_nonneg _ om,Int.emod_lt_of_pos _ om⟩)|exact hd|exact ⟨hd.1,(by dsimp only;omega),hd2⟩),trivial⟩) (⟨.inl rfl,trivial⟩) (I (((Zdn .and .u64 ((IntKind.u64.wrap ((IntKind.u64.wrap (d.h*6364136223846793005))+1442695040888963407))/8589934592) 16777215)+(at_ d.b d.i.toNat)) % n)) (by kernel_rfl) (.inl rfl) (fun _=>rfl) (fun _=>trivial)
    refine x_q [(9,.dec false)] [0,1,5,31] [7002] [_] ⟨h1,trivial⟩ (Zad (Ziv (Zca (Zad ?_))))
    refine xR [(2,.nn)] [4] [7002] [I ((Zdn .and .u64 ((IntKind.u64.wrap ((IntKind.u64.wrap (d.h*6364136223846793005))+1442695040888963407))/8589934592) 16777215) % n)] [some (.box [Zcu false d.b,I d.i,.val (.int .u64 (IntKind.u64.wrap ((IntKind.u64.wrap (d.h*6364136223846793005))+1442695040888963407)))])] [(0:Int)≤(Zdn .and .u64 ((IntKind.u64.wrap ((IntKind.u64.wrap (d.h*6364136223846793005))+1442695040888963407))/8589934592) 16777215)∧(0:Int)<n] ⟨⟨om,om⟩,trivial⟩ (Zcl ?_)
    refine Zbs (((Zdn .and .u64 ((IntKind.u64.wrap ((IntKind.u64.wrap (d.h*6364136223846793005))+1442695040888963407))/8589934592) 16777215) % n),(f6dice.mk d.b d.i (IntKind.u64.wrap ((IntKind.u64.wrap (d.h*6364136223846793005))+1442695040888963407)))) (show (0≤((Zdn .and .u64 ((IntKind.u64.wrap ((IntKind.u64.wrap (d.h*6364136223846793005))+1442695040888963407))/8589934592) 16777215) % n)∧((Zdn .and .u64 ((IntKind.u64.wrap ((IntKind.u64.wrap (d.h*6364136223846793005))+1442695040888963407))/8589934592) 16777215) % n)<n)∧(Zig (f6dice.mk d.b d.i (IntKind.u64.wrap ((IntKind.u64.wrap (d.h*6364136223846793005))+1442695040888963407))))∧(True) from ⟨(by first|(exact ⟨Int.emod_nonneg _ om,Int.emod_lt_of_pos _ om⟩)|exact hd|exact ⟨hd.1,(by dsimp only;omega),hd2⟩),(by first|(exact ⟨Int.emod_nonneg _ om,Int.emod_lt_of_pos _ om⟩)|exact hd|exact ⟨hd.1,(by dsimp only;omega),hd2⟩),trivial⟩) (⟨.inl rfl,trivial⟩) (I ((Zdn .and .u64 ((IntKind.u64.wrap ((IntKind.u64.wrap (d.h*6364136223846793005))+1442695040888963407))/8589934592) 16777215) % n)) (by kernel_rfl) (.inl rfl) (fun _=>rfl) (fun _=>trivial)
  obtain ⟨⟨v,d'⟩,⟨hh0,hh1,_⟩,hc⟩:=hh
  exact ⟨v,d',hh0,hh1,hc⟩
theorem Zqc (a:List Int) (b:List Int):Con Try.prog 19 [slI false a,slI false b] true (Bv (Zef a b)):=by
  refine Zcn (fn:=Try.f19) (nt:=26) Try.func19 rfl rfl rfl rfl (by simp [Zaf,Zaj,Zje]) fun B hB=> ?_
  refine Zbk (x:=slI false a) 0 rfl (fun len_a=> ?_)
  simp [Zco,Zfb,cI,fI,slI] at len_a
  refine Zbk (x:=slI false b) 1 rfl (fun len_b=> ?_)
  simp [Zco,Zfb,cI,fI,slI] at len_b
  refine aQ [] [0,1] [] [] hB trivial (Zae (Zae ?_))
  by_cases h1:(a.length:Int)=(b.length:Int)
  ·have hlen:a.length=b.length:=by omega
   refine Zbm [(4,.dec false)] [0,1,10] [] [¬ ((a.length:Int)≠(b.length:Int))] hB ⟨(fun hq=>hq h1),trivial⟩ (Zab (Zbc (Zam (Zab (Zae ?_)))))
   refine aR [] [0,1,5] [] [slI false a,slI false b,I 0] [] [] hB trivial (Zao ?_)
   refine Zbq (fun gn gσ=>∃(i:Int),gn=((a.length:Int)-i).toNat∧(0≤i∧i≤(a.length:Int))∧(∀j:Nat,(j:Int)<i→decide (at_ a j=at_ b j)=true)∧gσ=mkS [(0,slI false a),(1,slI false b),(5,I i)] []) (((a.length:Int)-0).toNat) ⟨0,rfl,om,(by intro j hj;omega),rfl⟩ (fun gn gσ hI=> ?_)
   obtain ⟨i,rfl,hi0,hall0,rfl⟩:=hI
   refine Zae (Zae ?_)
   by_cases h2:i<(a.length:Int)
   ·have hi:i.toNat<a.length:=by omega
    refine Zbm [(3,.dec true)] [0,1,5,14] [] [_] hB ⟨h2,trivial⟩ (Zab (Zbp (Zam (Zab (Zae (Zao (Zae ?_)))))))
    by_cases h3:(at_ a i.toNat)=(at_ b i.toNat)
    ·have hok:decide (at_ a i.toNat=at_ b i.toNat)=true:=decide_eq_true h3
     refine Zbm [(8,.dec false)] [0,1,5,25] [] [(0:Int)≤i∧i<(a.length:Int),(0:Int)≤i∧i<(b.length:Int),¬ ((at_ a i.toNat)≠(at_ b i.toNat))] hB ⟨⟨om,om⟩,⟨om,om⟩,(fun hq=>hq h3),trivial⟩ (Zab (Zbc (Zam (Zay 1 (Zab ?_)))))
     refine Zdk [] [0,1,5] [] [slI false a,slI false b,I (i+1)] [] [inR .i64 (i+1)] hB ⟨(Zah om om),trivial⟩ ?_
     exact Zaz _ om ⟨(i+1),rfl,om,(by intro j hj;by_cases ej:j=i.toNat;(subst ej;first|assumption|exact hok);exact hall0 j om),rfl⟩
    have hall:Zlb a.length (fun j=>decide (at_ a j=at_ b j))=false:=Zhw hi (decide_eq_false h3)
    refine Zbm [(8,.dec true)] [0,1,5,25] [] [(0:Int)≤i∧i<(a.length:Int),(0:Int)≤i∧i<(b.length:Int),_] hB ⟨⟨om,om⟩,⟨om,om⟩,h3,trivial⟩ (Zab (Zbp ?_))
    refine aR [] [4] [] [Bv false] [] [] hB trivial (Zav ?_)
    refine Zar (Zak (Zak (Zar (Zak ?_))))
    refine Zat hB (Bv false) (by kernel_rfl) (.inl (by first|(simp [Zef,hlen];done)|(unfold Zef;rw [hall];simp [hlen]))) rfl (fun _=>trivial)
   have hall:Zlb a.length (fun j=>decide (at_ a j=at_ b j))=true:=Zgx (fun j hj=>hall0 j om)
   refine Zbm [(3,.dec false)] [0,1,5,14] [] [_] hB ⟨h2,trivial⟩ (Zab (Zbc (Zbr (Zai (Zai (Zaq (Zab ?_)))))))
   refine aR [] [4] [] [Bv true] [] [] hB trivial (Zav ?_)
   refine Zat hB (Bv true) (by kernel_rfl) (.inl (by first|(simp [Zef,hlen];done)|(unfold Zef;rw [hall];simp [hlen]))) rfl (fun _=>trivial)
  have hlen:¬ a.length=b.length:=by omega
  refine Zbm [(4,.dec true)] [0,1,10] [] [_] hB ⟨h1,trivial⟩ (Zab (Zbp ?_))
  refine aR [] [4] [] [Bv false] [] [] hB trivial (Zav (Zak ?_))
  refine Zat hB (Bv false) (by kernel_rfl) (.inl (by first|(simp [Zef,hlen];done)|(unfold Zef;rw [hall];simp [hlen]))) rfl (fun _=>trivial)
def lnX (bs:List Box) (l:Line):Prop:=(∀x∈l.Items,l.Top≤(at_ bs x.toNat).Y1∧(at_ bs x.toNat).Y2≤l.Bottom)∧(∃x∈l.Items,(at_ bs x.toNat).Y1=l.Top)∧∃x∈l.Items,(at_ bs x.toNat).Y2=l.Bottom
def chn (gap:Int) (ls:List Line):Prop:=∀i:Nat,i+1<ls.length→(at_ ls i).Bottom+gap<(at_ ls (i+1)).Top
def Ziu (ls:List Line):List Int:=ls.flatMap Line.Items
theorem Zhx (a b:List Line):Ziu (a++b)=Ziu a++Ziu b:=by simp [Ziu]
theorem Zji (l:Line):Ziu [l]=l.Items:=by simp [Ziu]
theorem allI_mem {ls:List Line} {l:Line} {x:Int} (h:l∈ls) (hx:x∈l.Items):x∈Ziu ls:=List.mem_flatMap.2 ⟨l,h,hx⟩
theorem Zyj {ls:List Line} (h:ls.length≠0):∃a x,ls=a++[x]:=by
 rcases List.eq_nil_or_concat ls with e|⟨a,x,e⟩
 ·rw [e] at h;exact absurd rfl h
 ·exact ⟨a,x,by simpa using e⟩
theorem add_sn (bs:List Box) (gap:Int) (a:List Line) (x:Line) (k:Int) (h:¬ ((a++[x]).length=0∨(Zdf (a++[x])).Bottom+gap<(at_ bs k.toNat).Y1)):Zgv bs gap (a++[x]) k=a++[⟨x.Top,max x.Bottom (at_ bs k.toNat).Y2,x.Items++[k]⟩]:=by
 rw [Zgv,if_neg h,Zmd,List.length_append,List.length_singleton,Nat.add_sub_cancel,Zpp]
theorem allI_add (bs:List Box) (gap:Int) (ls:List Line) (k:Int):Ziu (Zgv bs gap ls k)=Ziu ls++[k]:=by
 by_cases h:ls.length=0∨(Zdf ls).Bottom+gap<(at_ bs k.toNat).Y1
 ·rw [Zgv,if_pos h,Zhx,Zji]
 ·obtain ⟨a,x,rfl⟩:=Zyj (fun q=>h (.inl q))
  rw [add_sn _ _ _ _ _ h,Zhx,Zhx,Zji,Zji,List.append_assoc]
theorem Zpq (bs:List Box) (gap:Int) (od:List Int):∀j:Nat,j≤od.length→Ziu (Zfk bs gap od j)=od.take j
 |0,_=>by simp [Zfk,Ziu]
 |j+1,h=>by
  show Ziu (Zgv _ _ _ _)=_
  rw [allI_add,Zpq bs gap od j om,Zgj om]
theorem add_ok {bs:List Box} {gap:Int} {ls:List Line} {k:Int} (hl:∀l∈ls,lnX bs l) (hc:chn gap ls) (hk:(at_ bs k.toNat).Y1≤(at_ bs k.toNat).Y2) (hy:ls.length≠0→(Zdf ls).Top≤(at_ bs k.toNat).Y1):(∀l∈Zgv bs gap ls k,lnX bs l)∧chn gap (Zgv bs gap ls k):=by
 by_cases h:ls.length=0∨(Zdf ls).Bottom+gap<(at_ bs k.toNat).Y1
 ·rw [Zgv,if_pos h]
  refine ⟨Zyk hl ⟨fun x hx=> ?_,⟨k,by simp,rfl⟩,⟨k,by simp,rfl⟩⟩,fun i hi=> ?_⟩
  ·rw [List.mem_singleton.1 hx];exact ⟨Int.le_refl _,Int.le_refl _⟩
  ·rw [List.length_append,List.length_singleton] at hi
   by_cases e:i+1<ls.length
   ·rw [Zdr om,Zdr e];exact hc i e
   ·have e2:i+1=ls.length:=by omega
    rw [Zdr om,Zdm om,show i+1-ls.length=0 from by omega]
    rcases h with h|h
    ·omega
    ·have e3:Zdf ls=at_ ls i:=by unfold Zdf;congr 1;omega
     rw [e3] at h;exact h
 ·obtain ⟨a,x,rfl⟩:=Zyj (fun q=>h (.inl q))
  rw [add_sn _ _ _ _ _ h]
  have hx:=hl x (by simp)
  have hyx:=hy (by simp)
  rw [Zmd] at hyx
  refine ⟨Zyk (fun l q=>hl l (by simp [q])) ⟨fun z hz=> ?_,?_,?_⟩,fun i hi=> ?_⟩
  ·rcases List.mem_append.1 hz with q|q
   ·have:=hx.1 z q;exact ⟨this.1,Int.le_trans this.2 (Int.le_max_left _ _)⟩
   ·rw [List.mem_singleton.1 q];exact ⟨hyx,Int.le_max_right _ _⟩
  ·obtain ⟨z,h1,h2⟩:=hx.2.1
   exact ⟨z,by simp [h1],h2⟩
  ·obtain ⟨z,h1,h2⟩:=hx.2.2
   rcases Int.le_total x.Bottom (at_ bs k.toNat).Y2 with q|q
   ·exact ⟨k,by simp,(Int.max_eq_right q).symm⟩
   ·exact ⟨z,by simp [h1],h2.trans (Int.max_eq_left q).symm⟩
  ·rw [List.length_append,List.length_singleton] at hi
   have hci:=hc i (by rw [List.length_append,List.length_singleton];omega)
   by_cases e:i+1<a.length
   ·rw [Zdr om,Zdr e] at hci⊢;exact hci
   ·rw [Zdr (show i<a.length by omega),Zdm (show a.length≤i+1 by omega),show i+1-a.length=0 from by omega] at hci⊢
    exact hci
theorem lin_ok {bs:List Box} {gap:Int} {od:List Int} (hp:Zbx bs=true) (ho:∀x∈od,0≤x∧x<(bs.length:Int)) (hs:∀i j:Nat,i<j→j<od.length→(at_ bs (at_ od i).toNat).Y1≤(at_ bs (at_ od j).toNat).Y1):∀j:Nat,j≤od.length→(∀l∈Zfk bs gap od j,lnX bs l)∧chn gap (Zfk bs gap od j)
 |0,_=>⟨fun l hl=>by simp [Zfk] at hl,fun i hi=>by simp [Zfk] at hi⟩
 |j+1,h=>by
  have ih:=lin_ok (gap:=gap) hp ho hs j om
  have hk:=ho _ (Zbf (show j<od.length by omega))
  refine add_ok ih.1 ih.2 (Zgo hp om).2.2.1 fun hn=> ?_
  have hm:=Zla (ls:=Zfk bs gap od j) om
  obtain ⟨x,hx,e⟩:=(ih.1 _ hm).2.1
  have hx2:=allI_mem hm hx
  rw [Zpq bs gap od j om] at hx2
  obtain ⟨i,hi,e2⟩:=List.getElem_of_mem hx2
  rw [List.length_take] at hi
  rw [List.getElem_take,←Zem om] at e2
  rw [←e,←e2]
  exact hs i j om om
theorem cY_w (bs:List Box):CmpW (cY bs):=⟨fun x y=>by have h1:=@Zsv bs x y;have h2:=@Zjj (at_ bs y.toNat).Y1 (at_ bs x.toNat).Y1;have h3:=@Zme (at_ bs y.toNat).Y1 (at_ bs x.toNat).Y1;unfold cY at*;omega,fun x y z h1 h2=>by
 have h3:=@Zjj (at_ bs y.toNat).Y1 (at_ bs z.toNat).Y1
 have h4:=@Zme (at_ bs x.toNat).Y1 (at_ bs y.toNat).Y1
 have h5:=@Zjj (at_ bs x.toNat).Y1 (at_ bs y.toNat).Y1
 have h6:=@Zjj (at_ bs x.toNat).Y1 (at_ bs z.toNat).Y1
 unfold cY at*
 omega⟩
theorem ordY_srt (bs:List Box) {i j:Nat} (hij:i<j) (hj:j<(Zff bs).length):(at_ bs (at_ (Zff bs) i).toNat).Y1≤(at_ bs (at_ (Zff bs) j).toNat).Y1:=by
 have p:=Zun (cY_w bs) (B:=fun _ _=>True) (xs:=ixL bs.length) (List.pairwise_of_forall fun _ _=>trivial) bs.length (by rw [Zea];exact Nat.le_refl _)
 have q:=(List.pairwise_iff_getElem.1 p) i j (by exact Nat.lt_trans hij hj) hj hij
 rw [Zem (Nat.lt_trans hij hj),Zem hj]
 rcases q with q|q
 ·exact Int.le_of_lt (Zsv.1 q)
 ·exact Int.le_of_eq (Zme.1 q.1)
theorem Zsw {c:Int→Int→Int} {xs:List Int} {x:Int} :x∈Zce c xs xs.length↔x∈xs:=by
 have p:=Zew c xs xs.length (Nat.le_refl _)
 rw [List.take_of_length_le (Nat.le_refl _)] at p
 exact p.mem_iff
theorem srt_lnX {bs:List Box} {l:Line} (h:lnX bs l):lnX bs (Zhr bs l):=by
 obtain ⟨h1,⟨x,h2,h3⟩,y,h4,h5⟩:=h
 exact ⟨fun z hz=>h1 z (Zsw.1 hz),⟨x,Zsw.2 h2,h3⟩,y,Zsw.2 h4,h5⟩
theorem chn_map {gap:Int} {bs:List Box} {ls:List Line} (h:chn gap ls):chn gap (ls.map (Zhr bs)):=fun i hi=>by
 rw [List.length_map] at hi
 rw [Zid om,Zid hi];exact h i hi
theorem Zuo (bs:List Box):∀ls:List Line,(Ziu (ls.map (Zhr bs))).Perm (Ziu ls)
 | []=> .refl _
 |l::r=>by
  have e1:Ziu ((l::r).map (Zhr bs))=Zce (cL bs) l.Items l.Items.length++Ziu (r.map (Zhr bs)):=by simp [Ziu,Zhr]
  have e2:Ziu (l::r)=l.Items++Ziu r:=by simp [Ziu]
  have p:=Zew (cL bs) l.Items l.Items.length (Nat.le_refl _)
  rw [List.take_of_length_le (Nat.le_refl _)] at p
  rw [e1,e2]
  exact p.append (Zuo bs r)
theorem Zvy {bs:List Box} {gap:Int} (hp:Zbx bs=true):(∀l∈Zkp bs gap,lnX bs l)∧chn gap (Zkp bs gap)∧(Ziu (Zkp bs gap)).Perm (ixL bs.length):=by
 have h:=lin_ok (gap:=gap) hp (fun x hx=>Zes.1 hx) (fun i j a b=>ordY_srt bs a b) bs.length (by rw [Zdd];exact Nat.le_refl _)
 refine ⟨fun l hl=> ?_,chn_map h.2,(Zuo bs _).trans ?_⟩
 ·obtain ⟨m,hm,rfl⟩:=List.mem_map.1 hl
  exact srt_lnX (h.1 m hm)
 ·rw [Zpq bs gap _ _ (by rw [Zdd];exact Nat.le_refl _),List.take_of_length_le (by rw [Zdd];exact Nat.le_refl _)]
  have p:=Zew (cY bs) (ixL bs.length) bs.length (by rw [Zea];exact Nat.le_refl _)
  rwa [List.take_of_length_le (by rw [Zea];exact Nat.le_refl _)] at p
theorem Zqa (n:Nat):(ixL n).Nodup:=by
 unfold ixL
 rw [List.nodup_iff_pairwise_ne,List.pairwise_map]
 exact List.nodup_range.imp fun {a b} h q=>h (by exact_mod_cast q)
theorem itB_y (bs:List Box) (xs:List Int):∀k:Nat,(∀j:Nat,j<k+1→(itB bs xs (k+1)).Y1≤(at_ bs (at_ xs j).toNat).Y1∧(at_ bs (at_ xs j).toNat).Y2≤(itB bs xs (k+1)).Y2)∧(∃j:Nat,j<k+1∧(itB bs xs (k+1)).Y1=(at_ bs (at_ xs j).toNat).Y1)∧∃j:Nat,j<k+1∧(itB bs xs (k+1)).Y2=(at_ bs (at_ xs j).toNat).Y2
 |0=>by
  rw [Zyi]
  refine ⟨fun j hj=> ?_,⟨0,by omega,rfl⟩,0,by omega,rfl⟩
  rw [show j=0 from by omega];exact ⟨Int.le_refl _,Int.le_refl _⟩
 |k+1=>by
  obtain ⟨h1,⟨a,ha,ea⟩,b,hb,eb⟩:=itB_y bs xs k
  have e1:(itB bs xs (k+1+1)).Y1=min (itB bs xs (k+1)).Y1 (at_ bs (at_ xs (k+1)).toNat).Y1:=rfl
  have e2:(itB bs xs (k+1+1)).Y2=max (itB bs xs (k+1)).Y2 (at_ bs (at_ xs (k+1)).toNat).Y2:=rfl
  refine ⟨fun j hj=> ?_,?_,?_⟩
  ·by_cases e:j=k+1
   ·subst e;omega
   ·have:=h1 j om;omega
  ·by_cases c:(itB bs xs (k+1)).Y1≤(at_ bs (at_ xs (k+1)).toNat).Y1
   ·exact ⟨a,by omega,by omega⟩
   ·exact ⟨k+1,by omega,by omega⟩
  ·by_cases c:(at_ bs (at_ xs (k+1)).toNat).Y2≤(itB bs xs (k+1)).Y2
   ·exact ⟨b,by omega,by omega⟩
   ·exact ⟨k+1,by omega,by omega⟩
theorem Zth {bs:List Box} {l:Line} (hp:Zbx bs=true) (h:lnX bs l) (hn:lnN bs.length l):(Zia bs l.Items).2=0∧(Zia bs l.Items).1.Y1=l.Top∧(Zia bs l.Items).1.Y2=l.Bottom:=by
 have hi:inIx bs l.Items=true:=Zgx fun j hj=>Zfz.2 (by have:=hn.2.1 _ (Zbf hj);omega)
 have hl:=hn.1.1
 rw [Zyg hp hi om]
 have e:l.Items.length=(l.Items.length-1)+1:=by omega
 obtain ⟨h1,⟨a,ha,ea⟩,b,hb,eb⟩:=itB_y bs l.Items (l.Items.length-1)
 rw [←e] at h1 ha ea hb eb
 obtain ⟨g1,⟨x,hx,ex⟩,y,hy,ey⟩:=h
 have hin:∀z∈l.Items,∃j:Nat,j<l.Items.length∧at_ l.Items j=z:=fun z hz=>by
  obtain ⟨j,hj,e⟩:=List.getElem_of_mem hz
  exact ⟨j,hj,by rw [Zem hj];exact e⟩
 obtain ⟨i,hi2,ei⟩:=hin x hx
 obtain ⟨j,hj2,ej⟩:=hin y hy
 have q1:=(h1 i hi2).1
 have q2:=(h1 j hj2).2
 rw [ei,ex] at q1
 rw [ej,ey] at q2
 have q3:=(g1 _ (Zbf ha)).1
 have q4:=(g1 _ (Zbf hb)).2
 refine ⟨rfl,?_,?_⟩
 ·show (itB bs l.Items l.Items.length).Y1=l.Top
  omega
 ·show (itB bs l.Items l.Items.length).Y2=l.Bottom
  omega
def fl (L:List Line) (i j:Nat):List Int:=Ziu (L.take i)++(at_ L i).Items.take j
theorem fl_0 (L:List Line):fl L 0 0=[]:=by simp [fl,Ziu]
theorem Zoc {L:List Line} {i j:Nat} (h:j<(at_ L i).Items.length):fl L i (j+1)=fl L i j++[at_ (at_ L i).Items j]:=by
 unfold fl;rw [Zgj h,List.append_assoc]
theorem Zod {L:List Line} {i:Nat} (h:i<L.length):fl L i (at_ L i).Items.length=fl L (i+1) 0:=by
 unfold fl
 rw [Zgj h,Zhx,Zji,List.take_length,List.take_zero,List.append_nil]
theorem fl_all {L:List Line} {i j:Nat} (h:i<L.length):∃r,Ziu L=fl L i j++((at_ L i).Items.drop j++r):=by
 refine ⟨Ziu (L.drop (i+1)),?_⟩
 unfold fl
 rw [List.append_assoc,←List.append_assoc (List.take _ _),List.take_append_drop,←Zji (at_ L i),←Zhx,←Zhx]
 congr 1
 have e:L.drop i=at_ L i::L.drop (i+1):=by rw [Zem h];exact List.drop_eq_getElem_cons h
 rw [show [at_ L i]++L.drop (i+1)=L.drop i from e.symm,List.take_append_drop]
theorem fl_end (L:List Line):fl L L.length 0=Ziu L:=by unfold fl;rw [List.take_length,List.take_zero,List.append_nil]
theorem Zti {L:List Line} {i j:Nat} (hd:(Ziu L).Nodup) (h:i<L.length) (hj:j<(at_ L i).Items.length):at_ (at_ L i).Items j∉fl L i j:=fun q=>by
 obtain ⟨r,e⟩:=fl_all (j:=j) h
 rw [e,List.nodup_append] at hd
 have hm:at_ (at_ L i).Items j∈(at_ L i).Items.drop j++r:=by
  rw [List.mem_append];left
  rw [Zem hj,List.drop_eq_getElem_cons hj];exact List.mem_cons_self
 exact hd.2.2 _ q _ hm rfl
def Zvz (n:Nat) (sn:List Bool) (P:List Int):Prop:=sn.length=n∧∀m:Nat,m<n→(at_ sn m=true↔(m:Int)∈P)
theorem sn_0 (n:Nat):Zvz n (List.replicate n false) []:=⟨by simp,fun m hm=>by simp [at_,hm]⟩
theorem Ztj {n:Nat} {sn:List Bool} {P:List Int} {x:Int} (h:Zvz n sn P) (hx:0≤x∧x<(n:Int)):Zvz n (sn.set x.toNat true) (P++[x]):=by
 refine ⟨by rw [List.length_set];exact h.1,fun m hm=> ?_⟩
 rw [List.mem_append,List.mem_singleton]
 by_cases e:m=x.toNat
 ·rw [e,Zgy (by rw [h.1];omega)]
  exact ⟨fun _=> .inr om,fun _=>rfl⟩
 ·rw [Zhy e,h.2 m hm]
  exact ⟨.inl,fun q=>q.elim id fun q=>absurd q om⟩
theorem sn_no {n:Nat} {sn:List Bool} {P:List Int} {x:Int} (h:Zvz n sn P) (hx:0≤x∧x<(n:Int)) (hn:x∉P):at_ sn x.toNat=false:=by
 rw [Bool.eq_false_iff]
 intro q
 have:=(h.2 x.toNat om).1 q
 rw [show ((x.toNat:Nat):Int)=x from by omega] at this
 exact hn this
theorem sn_all {n:Nat} {sn:List Bool} {P:List Int} (h:Zvz n sn P) (hp:P.Perm (ixL n)) {m:Nat} (hm:m<n):at_ sn m=true:=(h.2 m hm).2 (hp.mem_iff.2 (Zly.2 om))
def mvB (dx dy:Int) (b:Box):Box:=⟨b.X1+dx,b.Y1+dy,b.X2+dx,b.Y2+dy⟩
def shl (dy:Int) (l:Line):Line:=⟨l.Top+dy,l.Bottom+dy,l.Items⟩
theorem Zpr {dx dy:Int} {bs:List Box} {x:Int} (h:0≤x∧x<(bs.length:Int)):at_ (bs.map (mvB dx dy)) x.toNat=mvB dx dy (at_ bs x.toNat):=Zid om
theorem cY_mv {dx dy:Int} {bs:List Box} {x y:Int} (hx:0≤x∧x<(bs.length:Int)) (hy:0≤y∧y<(bs.length:Int)):cY (bs.map (mvB dx dy)) x y<0↔cY bs x y<0:=by
 rw [Zsv,Zsv,Zpr hx,Zpr hy]
 show (at_ bs x.toNat).Y1+dy<(at_ bs y.toNat).Y1+dy↔_
 omega
theorem cL_mv {dx dy:Int} {bs:List Box} {x y:Int} (hx:0≤x∧x<(bs.length:Int)) (hy:0≤y∧y<(bs.length:Int)):cL (bs.map (mvB dx dy)) x y<0↔cL bs x y<0:=by
 rw [Zko,Zko,Zpr hx,Zpr hy]
 show (at_ bs x.toNat).X1+dx<(at_ bs y.toNat).X1+dx∨(at_ bs x.toNat).X1+dx=(at_ bs y.toNat).X1+dx∧((at_ bs x.toNat).X2+dx<(at_ bs y.toNat).X2+dx∨(at_ bs x.toNat).X2+dx=(at_ bs y.toNat).X2+dx∧x<y)↔_
 omega
theorem ordY_mv (dx dy:Int) (bs:List Box):Zff (bs.map (mvB dx dy))=Zff bs:=by
 unfold Zff
 rw [List.length_map]
 refine Zjk (fun i j hij hj=> ?_) _ (by rw [Zea];exact Nat.le_refl _)
 rw [Zea] at hj
 rw [Zgi hj,Zgi (show i<bs.length by omega)]
 exact cY_mv om om
theorem add_mv {dx dy gap:Int} {bs:List Box} {ls:List Line} {k:Int} (hk:0≤k∧k<(bs.length:Int)):Zgv (bs.map (mvB dx dy)) gap (ls.map (shl dy)) k=(Zgv bs gap ls k).map (shl dy):=by
 by_cases c:ls.length=0
 ·rw [Zgv,Zgv,if_pos (.inl (by rw [List.length_map];exact c)),if_pos (.inl c),Zpr hk,List.map_append];rfl
 ·have hl:Zdf (ls.map (shl dy))=shl dy (Zdf ls):=by
   unfold Zdf;rw [List.length_map];exact Zid om
  by_cases e:(Zdf ls).Bottom+gap<(at_ bs k.toNat).Y1
  ·rw [Zgv,Zgv,if_pos (.inr (by rw [hl,Zpr hk];show (Zdf ls).Bottom+dy+gap<(at_ bs k.toNat).Y1+dy;omega)),if_pos (.inr e),Zpr hk,List.map_append];rfl
  ·rw [Zgv,Zgv,if_neg (fun q=>by
    rcases q with q|q
    ·rw [List.length_map] at q;exact c q
    ·rw [hl,Zpr hk] at q
     have q2:(Zdf ls).Bottom+dy+gap<(at_ bs k.toNat).Y1+dy:=q
     omega),if_neg (fun q=>q.elim c e),hl,Zpr hk,List.length_map,List.map_set]
   congr 1
   have e2:max ((Zdf ls).Bottom+dy) ((at_ bs k.toNat).Y2+dy)=max (Zdf ls).Bottom (at_ bs k.toNat).Y2+dy:=by omega
   show Line.mk _ (max ((Zdf ls).Bottom+dy) ((at_ bs k.toNat).Y2+dy)) _=_
   rw [e2];rfl
theorem lin_mv {dx dy gap:Int} {bs:List Box} {od:List Int} (ho:∀x∈od,0≤x∧x<(bs.length:Int)):∀j:Nat,j≤od.length→Zfk (bs.map (mvB dx dy)) gap od j=(Zfk bs gap od j).map (shl dy)
 |0,_=>rfl
 |j+1,h=>by
  show Zgv _ _ (Zfk _ _ _ j) _=(Zgv _ _ _ _).map _
  rw [lin_mv ho j om,add_mv (ho _ (Zbf om))]
theorem srt_mv {dx dy:Int} {bs:List Box} {l:Line} (h:∀x∈l.Items,0≤x∧x<(bs.length:Int)):Zhr (bs.map (mvB dx dy)) (shl dy l)=shl dy (Zhr bs l):=by
 show Line.mk _ _ (Zce (cL (bs.map (mvB dx dy))) l.Items l.Items.length)=Line.mk _ _ (Zce (cL bs) l.Items l.Items.length)
 rw [Zjk (c:=cL (bs.map (mvB dx dy))) (c':=cL bs) (fun i j hij hj=>cL_mv (h _ (Zbf hj)) (h _ (Zbf om))) _ (Nat.le_refl _)];rfl
theorem Zwb {dx dy gap:Int} {bs:List Box} (hp:Zbx bs=true):Zkp (bs.map (mvB dx dy)) gap=(Zkp bs gap).map (shl dy):=by
 unfold Zkp
 rw [ordY_mv,List.length_map,lin_mv (fun x hx=>Zes.1 hx) _ (by rw [Zdd];exact Nat.le_refl _),List.map_map,List.map_map]
 refine List.map_congr_left fun l hl=> ?_
 exact srt_mv (Zlz (gap:=gap) hp (fun x hx=>Zes.1 hx) bs.length (by rw [Zdd];exact Nat.le_refl _) l hl).2.1
theorem sm_mv {dx dy:Int} {bs:List Box} (h:smB bs):smB (bs.map (mvB dx dy)):=by
 rcases h with h|⟨h,h2⟩
 ·exact .inl (by rw [List.length_map];exact h)
 ·refine .inr ⟨by rw [List.length_map];exact h,fun i hi=> ?_⟩
  rw [List.length_map] at hi
  rw [Zid hi,Zid om,h2 i hi]
theorem Zwa {dx dy:Int} {bs:List Box} {k:Nat} (h:k<bs.length):(bs.take (k+1)).map (mvB dx dy)=(bs.take k).map (mvB dx dy)++[mvB dx dy (at_ bs k)]:=by
 rw [Zgj h,List.map_append];rfl
theorem Zob {bs:List Box} {gap:Int} (h:(Zcm bs gap).2=0):Zbx bs=true∧inB gap 0 4095=true∧(Zcm bs gap).1=Zkp bs gap:=by
 unfold Zcm at h⊢
 split at h
 ·rename_i h1
  split at h
  ·rename_i h2;exact ⟨h1,h2,by rw [if_pos h1,if_pos h2]⟩
  ·cases h
 ·cases h
theorem Ztk {bs:List Box} {gap:Int} (h2:inB gap 0 4095=true) (h:¬ (Zcm bs gap).2=0):(Zcm bs gap).2=1:=by
 unfold Zcm at h⊢
 by_cases h1:Zbx bs=true
 ·rw [if_pos h1,if_pos h2] at h;exact absurd rfl h
 ·rw [if_neg h1]
end Go.Proofs.Ytfafngbbaplknaa.Ax
