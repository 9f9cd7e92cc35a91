/- The statement FnLines: contracts of what it reaches, and its proof. No conditions. -/
import Derived.Test.YtfafngbbaplknaaAxLLines3
import Derived.Test.YtfafngbbaplknaaAxR
import Derived.Test.YtfafngbbaplknaaAxRS
import Derived.Test.YtfafngbbaplknaaAxS
import Derived.Test.YtfafngbbaplknaaAxY
namespace Go.Proofs.Ytfafngbbaplknaa.Ax
open Go.RowKit Go.ChangeShapes Go.WideShapes
set_option linter.unusedVariables false
set_option linter.unusedSimpArgs false
theorem Zrw (code:List Int) (ok_code:∀y∈code,inR .u8 y):Con Try.prog 3 [Zcu false code] true (Bv true):=by
  refine Zcn (fn:=Try.f3) (nt:=301) Try.func3 rfl rfl rfl rfl (by simp [Zaf,Zaj,Zcc]) fun B hB=> ?_
  refine Zbk (x:=Zcu false code) 0 rfl (fun len_code=> ?_)
  simp [Zco,Zfb,cU8,fU8,Zcu] at len_code
  refine aQ [] [0] [] [] hB trivial (Zae (Zae ?_))
  rcases Bool.eq_false_or_eq_true (decide (4096<(code.length:Int))) with h1|h1
  ·refine Zbm [(1,.call [(true,.any)] true (Bv true))] [0,33] [] [Con Try.prog 5 [Zcu false code] true (Bv true)∧True] hB ⟨⟨(Zas h1 (Zte code)),trivial⟩,trivial⟩ (Zab (Zbp ?_))
   refine aR [] [2] [] [Bv true] [] [] hB trivial (Zav (Zak ?_))
   refine Zat hB (Bv true) (by kernel_rfl) (.inl rfl) rfl (fun _=>trivial)
  have hc:(∀j,j<code.length→0≤at_ code j∧at_ code j≤255)∧code.length≤4611686018427387904:=⟨fun j hj=>ok_code _ (Zbf hj),by first|omega|(simp at h1;omega)⟩
  refine Zbm [(1,.call [(true,.any)] true (Bv false))] [0,33] [] [Con Try.prog 5 [Zcu false code] true (Bv false)∧True] hB ⟨⟨(Zas h1 (Zte code)),trivial⟩,trivial⟩ (Zab (Zbc (Zam (Zab (Zae ?_)))))
  obtain ⟨boxes_1,gap_1,hx1_0,hx1_1,hc1⟩:=Zld code (by assumption)
  have hsd:smD boxes_1:=hx1_1
  have hbl0:=hx1_0
  refine Zbm [(1,.call [(true,.any)] true (.tup [Zag true boxes_1,I gap_1]))] [0,3,4] [] [_∧True] hB ⟨⟨hc1,trivial⟩,trivial⟩ (Zab (Zae ?_))
  obtain ⟨v_2,c_2,hx2_0,hc2⟩:=Zfy boxes_1 gap_1 (fun h=>Ztf hsd h)
  have hv2:v_2=(Zcm boxes_1 gap_1).1:=congrArg Prod.fst hx2_0
  have hk2:c_2=(Zcm boxes_1 gap_1).2:=congrArg Prod.snd hx2_0
  refine Zbm [(2,.call [(false,Zag false boxes_1),(true,.any)] true (.tup [Zan true v_2,I c_2]))] [0,3,4,5,6] [] [_∧((false=true→true=true)∧4=4∧boxes_1.length=boxes_1.length∧∀i_,i_<boxes_1.length→(Zdi boxes_1) i_=(Zdi boxes_1) i_∨(AV.idsL ((Zdi boxes_1) i_)=[]∧leL (fun _=>none) false ((Zdi boxes_1) i_) ((Zdi boxes_1) i_)))∧True] hB ⟨⟨hc2,⟨(fun h=>by cases h),rfl,rfl,fun i _=> .inl rfl⟩,trivial⟩,trivial⟩ (Zab (Zae ?_))
  obtain ⟨v_3,c_3,hx3_0,hc3⟩:=Zmn boxes_1 gap_1 (fun h=>Ztf hsd h)
  have hv3:v_3=(Zcm boxes_1 gap_1).1:=congrArg Prod.fst hx3_0
  have hk3:c_3=(Zcm boxes_1 gap_1).2:=congrArg Prod.snd hx3_0
  have hvv:v_2=v_3:=hv2.trans hv3.symm
  have hcc:c_2=c_3:=hk2.trans hk3.symm
  refine Zdk [(2,.call [(false,Zag false boxes_1),(true,.any)] true (.tup [Zan true v_3,I c_3]))] [0,3,4,5,6,7,8] [] [Zcu false code,Zag true boxes_1,I gap_1,Zan true v_2,I c_2,Zan true v_3,I c_3] [] [_∧((false=true→true=true)∧4=4∧boxes_1.length=boxes_1.length∧∀i_,i_<boxes_1.length→(Zdi boxes_1) i_=(Zdi boxes_1) i_∨(AV.idsL ((Zdi boxes_1) i_)=[]∧leL (fun _=>none) false ((Zdi boxes_1) i_) ((Zdi boxes_1) i_)))∧True] hB ⟨⟨hc3,⟨(fun h=>by cases h),rfl,rfl,fun i _=> .inl rfl⟩,trivial⟩,trivial⟩ (Zab (Zae ?_))
  obtain ⟨a_4,b_4,hc4⟩:=Zle code (by assumption)
  refine Zbm [(1,.call [(true,.any)] true (.tup [Zex a_4,Zex b_4])),(5,.new 9),(6,.new 10)] [0,3,4,5,6,7,8,9,10] [9,10] [_∧True] hB ⟨⟨hc4,trivial⟩,trivial⟩ (Zab (Zae ?_))
  obtain ⟨lines_5,y_5,hx5_0,hc5⟩:=Zir code (by assumption)
  have hlpn:=hx5_0
  refine Zbm [(1,.call [(true,.any)] true (.tup [Zan true lines_5,I y_5]))] [0,3,4,5,6,7,8,9,10,11,12] [9,10] [_∧True] hB ⟨⟨hc5,trivial⟩,trivial⟩ (Zab ?_)
  refine aQ [(2,.call [(false,Zan false lines_5),(true,.any)] true (.tup [I ((Zjq lines_5 y_5).1),I ((Zjq lines_5 y_5).2)]))] [0,3,4,5,6,7,8,9,10,11,12,13,14] [9,10] [_∧((false=true→true=true)∧3=3∧lines_5.length=lines_5.length∧∀i_,i_<lines_5.length→(Zcd true lines_5) i_=(Zcd false lines_5) i_∨(AV.idsL ((Zcd false lines_5) i_)=[]∧leL (fun _=>none) false ((Zcd true lines_5) i_) ((Zcd false lines_5) i_)))∧True] hB ⟨⟨(Zis lines_5 y_5 om),⟨(fun h=>by cases h),rfl,rfl,fun i _=> .inr ⟨Zjr _ _,Znf _ _ _⟩⟩,trivial⟩,trivial⟩ ?_
  refine aR [(2,.call [(false,Zan false lines_5),(true,.any)] true (.tup [I ((Zjq lines_5 y_5).1),I ((Zjq lines_5 y_5).2)]))] [0,3,4,5,6,7,8,9,10,13,14,15,16] [9,10] [Zcu false code,Zag true boxes_1,I gap_1,Zan true v_2,I c_2,Zan true v_3,I c_3,.ref 9 0,.ref 10 0,I ((Zjq lines_5 y_5).1),I ((Zjq lines_5 y_5).2),I ((Zjq lines_5 y_5).1),I ((Zjq lines_5 y_5).2)] [some (Zgm a_4),some (Zgm b_4)] [_∧((false=true→true=true)∧3=3∧lines_5.length=lines_5.length∧∀i_,i_<lines_5.length→(Zcd true lines_5) i_=(Zcd false lines_5) i_∨(AV.idsL ((Zcd false lines_5) i_)=[]∧leL (fun _=>none) false ((Zcd true lines_5) i_) ((Zcd false lines_5) i_)))∧True] hB ⟨⟨(Zit lines_5 y_5 om),⟨(fun h=>by cases h),rfl,rfl,fun i _=> .inr ⟨Zjr _ _,Znf _ _ _⟩⟩,trivial⟩,trivial⟩ (Zae (Zae ?_))
  rcases Bool.eq_false_or_eq_true (Zlf a_4 b_4) with h2|h2
  ·refine Zbm [(2,.dec false),(6,.call [(false,Zan false v_2),(false,Zan false v_3)] true (Bv true)),(12,.call [(false,Zdj a_4),(false,Zdj b_4)] true (Bv true)),(15,.call [(false,Zdj a_4),(false,Zdj b_4)] true (Bv true)),(21,.dec false),(26,.dec false)] [0,3,4,5,6,100] [] [¬ (c_2≠c_3),_∧((false=true→true=true)∧3=3∧v_2.length=v_2.length∧∀i_,i_<v_2.length→(Zcd true v_2) i_=(Zcd false v_2) i_∨(AV.idsL ((Zcd false v_2) i_)=[]∧leL (fun _=>none) false ((Zcd true v_2) i_) ((Zcd false v_2) i_)))∧((false=true→true=true)∧3=3∧v_3.length=v_3.length∧∀i_,i_<v_3.length→(Zcd true v_3) i_=(Zcd false v_3) i_∨(AV.idsL ((Zcd false v_3) i_)=[]∧leL (fun _=>none) false ((Zcd true v_3) i_) ((Zcd false v_3) i_)))∧True,Con Try.prog 14 [Zdj a_4,Zdj b_4] true (Bv true)∧((Zck (I a_4.Top)=Zck (I a_4.Top))∧(Zck (I a_4.Bottom)=Zck (I a_4.Bottom))∧((false=true→true=true)∧1=1∧a_4.Items.length=a_4.Items.length∧∀i_,i_<a_4.Items.length→(fI a_4.Items) i_=(fI a_4.Items) i_∨(AV.idsL ((fI a_4.Items) i_)=[]∧leL (fun _=>none) false ((fI a_4.Items) i_) ((fI a_4.Items) i_)))∧([]:List AV)=[])∧((Zck (I b_4.Top)=Zck (I b_4.Top))∧(Zck (I b_4.Bottom)=Zck (I b_4.Bottom))∧((false=true→true=true)∧1=1∧b_4.Items.length=b_4.Items.length∧∀i_,i_<b_4.Items.length→(fI b_4.Items) i_=(fI b_4.Items) i_∨(AV.idsL ((fI b_4.Items) i_)=[]∧leL (fun _=>none) false ((fI b_4.Items) i_) ((fI b_4.Items) i_)))∧([]:List AV)=[])∧True,Con Try.prog 15 [Zdj a_4,Zdj b_4] true (Bv true)∧((Zck (I a_4.Top)=Zck (I a_4.Top))∧(Zck (I a_4.Bottom)=Zck (I a_4.Bottom))∧((false=true→true=true)∧1=1∧a_4.Items.length=a_4.Items.length∧∀i_,i_<a_4.Items.length→(fI a_4.Items) i_=(fI a_4.Items) i_∨(AV.idsL ((fI a_4.Items) i_)=[]∧leL (fun _=>none) false ((fI a_4.Items) i_) ((fI a_4.Items) i_)))∧([]:List AV)=[])∧((Zck (I b_4.Top)=Zck (I b_4.Top))∧(Zck (I b_4.Bottom)=Zck (I b_4.Bottom))∧((false=true→true=true)∧1=1∧b_4.Items.length=b_4.Items.length∧∀i_,i_<b_4.Items.length→(fI b_4.Items) i_=(fI b_4.Items) i_∨(AV.idsL ((fI b_4.Items) i_)=[]∧leL (fun _=>none) false ((fI b_4.Items) i_) ((fI b_4.Items) i_)))∧([]:List AV)=[])∧True,¬ (((Zjq lines_5 y_5).2)≠((Zjq lines_5 y_5).2)),¬ (((Zjq lines_5 y_5).1)≠((Zjq lines_5 y_5).1))] hB ⟨(fun hq=>hq hcc),⟨(Zng v_2 v_3 hvv),⟨(fun h=>by cases h),rfl,rfl,fun i _=> .inr ⟨Zjr _ _,Znf _ _ _⟩⟩,⟨(fun h=>by cases h),rfl,rfl,fun i _=> .inr ⟨Zjr _ _,Znf _ _ _⟩⟩,trivial⟩,⟨(Zas h2 (Zhe a_4 b_4)),⟨rfl,⟨rfl,⟨⟨(fun h=>by cases h),rfl,rfl,fun i _=> .inl rfl⟩,rfl⟩⟩⟩,⟨rfl,⟨rfl,⟨⟨(fun h=>by cases h),rfl,rfl,fun i _=> .inl rfl⟩,rfl⟩⟩⟩,trivial⟩,⟨(Zas h2 (Zfl a_4 b_4)),⟨rfl,⟨rfl,⟨⟨(fun h=>by cases h),rfl,rfl,fun i _=> .inl rfl⟩,rfl⟩⟩⟩,⟨rfl,⟨rfl,⟨⟨(fun h=>by cases h),rfl,rfl,fun i _=> .inl rfl⟩,rfl⟩⟩⟩,trivial⟩,(fun hq=>hq rfl),(fun hq=>hq rfl),trivial⟩ (Zab (Zbc (Zam (Zab (Zae (Zae ?_))))))
   by_cases h3:c_2=0
   ·have hlr:=Zob (bs:=boxes_1) (gap:=gap_1) (by rw [←hk2];exact h3)
    have hp:=hlr.1
    have hgp:=Zfz.1 hlr.2.1
    have hL:v_2=Zkp boxes_1 gap_1:=hv2.trans hlr.2.2
    have hok:=Zvy (gap:=gap_1) hp
    have hnn:=Ztg (gap:=gap_1) hp
    rw [←hL] at hok hnn
    have hbn:=Znh hp
    have hnd:(Ziu v_2).Nodup:=hok.2.2.symm.nodup (Zqa _)
    refine Zbm [(1,.dec false)] [0,3,4,5,102] [] [¬ (c_2≠0)] hB ⟨(fun hq=>hq h3),trivial⟩ (Zab (Zbc (Zam (Zab ?_))))
    refine aQ [(2,.new 105)] [0,3,4,5,17] [105] [(0:Int)≤(boxes_1.length:Int)∧((boxes_1.length:Int):Int)≤(boxes_1.length:Int)∧(1:Int)*(boxes_1.length:Int)≤281474976710656∧(boxes_1.length:Int)≤9223372036854775807] hB ⟨⟨om,om,om,om⟩,trivial⟩ (Zae ?_)
    refine aR [] [0,3,4,5,17,18] [105] [Zcu false code,Zag true boxes_1,I gap_1,Zan true v_2,.arr 105,I 0] [some (.arr 1 ((boxes_1.length:Int).toNat) (fun _=>[Bv false]))] [] hB trivial (Zao ?_)
    refine Zih hB [] (T:=[(0,Zcu false code),(3,Zag true boxes_1),(4,I gap_1),(5,Zan true v_2),(17,.arr 105),(18,I 0)]) (O:=[(105,tAB (List.replicate ((boxes_1.length:Int).toNat) false))]) rfl (⟨.inl rfl,.inl rfl,.inl rfl,.inl rfl,.inl rfl,.inl rfl,trivial⟩) (⟨.inr ⟨rfl,(by first|rfl|(simp;done)|(simp;omega)|omega),fun i_ hi_=> .inl (Zlg (enc:=cB) rfl i_ hi_)⟩,trivial⟩) ?_
    refine Zbq (fun gn gσ=>∃(i:Int) (sn:List Bool),gn=((v_2.length:Int)-i).toNat∧(0≤i∧i≤(v_2.length:Int))∧(Zvz boxes_1.length sn (fl v_2 i.toNat 0))∧gσ=mkS [(0,Zcu false code),(3,Zag true boxes_1),(4,I gap_1),(5,Zan true v_2),(17,.arr 105),(18,I i)] [(105,tAB sn)]) (((v_2.length:Int)-0).toNat) ⟨0,(List.replicate ((boxes_1.length:Int).toNat) false),rfl,om,(by (rw [show (0:Int).toNat=0 from rfl,fl_0];first|exact sn_0 _|simpa using sn_0 _)),rfl⟩ (fun gn gσ hI=> ?_)
    obtain ⟨i,sn,rfl,hi0,hsn,rfl⟩:=hI
    refine Zae (Zae ?_)
    by_cases h4:i<(v_2.length:Int)
    ·have hi:i.toNat<v_2.length:=by omega
     have hnx:(i+1).toNat=i.toNat+1:=by omega
     have hmm:at_ v_2 i.toNat∈v_2:=Zbf hi
     have hlx:=hok.1 _ hmm
     have hln:=hnn.1 _ hmm
     have hbx:=Zth hp hlx hln
     have hln2:=hln.2.2
     have hln1:=hln.1
     refine Zbm [(3,.dec true)] [0,3,4,5,17,18,109] [105] [_] hB ⟨h4,trivial⟩ (Zab (Zbp (Zam (Zab (Zae (Zao (Zae (Zae ?_))))))))
     by_cases h5:0<i
     ·have hch:=hok.2.1 (i-1).toNat om
      rw [show (i-1).toNat+1=i.toNat from by omega] at hch
      have hpm:=(hnn.1 _ (Zbf (i:=(i-1).toNat) om)).2.2
      refine Zbm [(1,.dec true),(16,.dec false)] [0,3,4,5,17,18,129] [105] [_,(0:Int)≤i∧i<(v_2.length:Int),inR .i64 (i-1),(0:Int)≤(i-1)∧(i-1)<(v_2.length:Int),inR .i64 (((at_ v_2 ((i-1).toNat)).Bottom)+gap_1),¬ (((at_ v_2 i.toNat).Top)≤(((at_ v_2 ((i-1).toNat)).Bottom)+gap_1))] hB ⟨h5,⟨om,om⟩,(Zah om om),⟨om,om⟩,(Zah om om),om,trivial⟩ (Zab (Zbc (Zam (Zab ?_))))
      refine aQ [(6,.call [(false,Zag false boxes_1),(false,slI false ((at_ v_2 i.toNat).Items))] true (.tup [Zga ((Zia boxes_1 ((at_ v_2 i.toNat).Items)).1),I ((Zia boxes_1 ((at_ v_2 i.toNat).Items)).2)])),(10,.new 19)] [0,3,4,5,17,18,19,20] [19,105] [(0:Int)≤i∧i<(v_2.length:Int),_∧((false=true→true=true)∧4=4∧boxes_1.length=boxes_1.length∧∀i_,i_<boxes_1.length→(Zdi boxes_1) i_=(Zdi boxes_1) i_∨(AV.idsL ((Zdi boxes_1) i_)=[]∧leL (fun _=>none) false ((Zdi boxes_1) i_) ((Zdi boxes_1) i_)))∧((false=true→true=true)∧1=1∧(((at_ v_2 i.toNat).Items).length)=(((at_ v_2 i.toNat).Items).length)∧∀i_,i_<(((at_ v_2 i.toNat).Items).length)→(fI ((at_ v_2 i.toNat).Items)) i_=(fI ((at_ v_2 i.toNat).Items)) i_∨(AV.idsL ((fI ((at_ v_2 i.toNat).Items)) i_)=[]∧leL (fun _=>none) false ((fI ((at_ v_2 i.toNat).Items)) i_) ((fI ((at_ v_2 i.toNat).Items)) i_)))∧True] hB ⟨⟨om,om⟩,⟨(Zds boxes_1 ((at_ v_2 i.toNat).Items) om),⟨(fun h=>by cases h),rfl,rfl,fun i _=> .inl rfl⟩,⟨(fun h=>by cases h),rfl,rfl,fun i _=> .inl rfl⟩,trivial⟩,trivial⟩ (Zae ?_)
      refine aR [(1,.dec false),(10,.dec false),(20,.dec false)] [0,3,4,5,17,18,161] [105] [Zcu false code,Zag true boxes_1,I gap_1,Zan true v_2,.arr 105,I i,Bv false] [some (tAB sn)] [¬ (((Zia boxes_1 ((at_ v_2 i.toNat).Items)).2)≠0),(0:Int)≤i∧i<(v_2.length:Int),¬ ((((Zia boxes_1 ((at_ v_2 i.toNat).Items)).1).Y1)≠((at_ v_2 i.toNat).Top)),(0:Int)≤i∧i<(v_2.length:Int),¬ ((((Zia boxes_1 ((at_ v_2 i.toNat).Items)).1).Y2)≠((at_ v_2 i.toNat).Bottom))] hB ⟨(fun hq=>hq hbx.1),⟨om,om⟩,(fun hq=>hq hbx.2.1),⟨om,om⟩,(fun hq=>hq hbx.2.2),trivial⟩ (Zdc rfl (Zam (Zab ?_)))
      refine aR [] [0,3,4,5,17,18,21] [105] [Zcu false code,Zag true boxes_1,I gap_1,Zan true v_2,.arr 105,I i,I 0] [some (tAB sn)] [] hB trivial (Zao ?_)
      refine Zbq (fun gn gσ=>∃(j:Int) (sn':List Bool),gn=(((at_ v_2 i.toNat).Items.length:Int)-j).toNat∧(0≤j∧j≤((at_ v_2 i.toNat).Items.length:Int))∧(Zvz boxes_1.length sn' (fl v_2 i.toNat j.toNat))∧gσ=mkS [(0,Zcu false code),(3,Zag true boxes_1),(4,I gap_1),(5,Zan true v_2),(17,.arr 105),(18,I i),(21,I j)] [(105,tAB sn')]) ((((at_ v_2 i.toNat).Items.length:Int)-0).toNat) ⟨0,sn,rfl,om,(by exact hsn),rfl⟩ (fun gn gσ hI=> ?_)
      obtain ⟨j,sn',rfl,hj0,hsn2,rfl⟩:=hI
      refine Zae (Zae ?_)
      by_cases h6:j<((((at_ v_2 i.toNat).Items).length):Int)
      ·have hj:j.toNat<(at_ v_2 i.toNat).Items.length:=by omega
       have hnj:(j+1).toNat=j.toNat+1:=by omega
       have hxr:=hln.2.1 _ (Zbf hj)
       have hxn:=sn_no hsn2 hxr (Zti hnd hi hj)
       have hsl2:=hsn2.1
       refine Zbm [(7,.dec true)] [0,3,4,5,17,18,21,169] [105] [(0:Int)≤i∧i<(v_2.length:Int),_] hB ⟨⟨om,om⟩,h6,trivial⟩ (Zab (Zbp (Zam (Zab (Zae (Zao ?_))))))
       refine aQ [] [0,3,4,5,17,18,21,22] [105] [(0:Int)≤i∧i<(v_2.length:Int),(0:Int)≤j∧j<((((at_ v_2 i.toNat).Items).length):Int)] hB ⟨⟨om,om⟩,⟨om,om⟩,trivial⟩ (Zae ?_)
       refine aQ [(1,.dec false),(6,.dec false),(12,.as (Bv false))] [0,3,4,5,17,18,21,22,193] [105] [¬ ((at_ ((at_ v_2 i.toNat).Items) j.toNat)<0),¬ ((boxes_1.length:Int)≤(at_ ((at_ v_2 i.toNat).Items) j.toNat)),(0:Int)≤(at_ ((at_ v_2 i.toNat).Items) j.toNat)∧(at_ ((at_ v_2 i.toNat).Items) j.toNat)<(sn'.length:Int),(at_ ((at_ v_2 i.toNat).Items) j.toNat).toNat<sn'.length∧List.drop 0 ((fB sn') ((at_ ((at_ v_2 i.toNat).Items) j.toNat).toNat))=[Bv false]] hB ⟨om,om,⟨om,om⟩,⟨om,(show [Bv (at_ sn' ((at_ ((at_ v_2 i.toNat).Items) j.toNat).toNat))]=[Bv false] from by rw [show (at_ sn' ((at_ ((at_ v_2 i.toNat).Items) j.toNat).toNat))=false from Bool.eq_false_iff.2 (by rw [hxn];decide)])⟩,trivial⟩ (Zbc (Zam (Zab ?_)))
       refine Zdk [] [0,3,4,5,17,18,21] [105] [Zcu false code,Zag true boxes_1,I gap_1,Zan true v_2,.arr 105,I i,I j] [some (.arr 1 sn'.length (fun q=>bif Nat.beq q ((at_ ((at_ v_2 i.toNat).Items) j.toNat).toNat) then [Bv true] else (fB sn') q))] [(0:Int)≤(at_ ((at_ v_2 i.toNat).Items) j.toNat)∧(at_ ((at_ v_2 i.toNat).Items) j.toNat)<(sn'.length:Int),(at_ ((at_ v_2 i.toNat).Items) j.toNat).toNat<sn'.length] hB ⟨⟨om,om⟩,om,trivial⟩ (Zay 3 (Zab ?_))
       refine Zdk [] [0,3,4,5,17,18,21] [105] [Zcu false code,Zag true boxes_1,I gap_1,Zan true v_2,.arr 105,I i,I (j+1)] [some (.arr 1 sn'.length (fun q=>bif Nat.beq q ((at_ ((at_ v_2 i.toNat).Items) j.toNat).toNat) then [Bv true] else (fB sn') q))] [inR .i64 (j+1)] hB ⟨(Zah om om),trivial⟩ ?_
       refine Zhf hB [] (T:=[(0,Zcu false code),(3,Zag true boxes_1),(4,I gap_1),(5,Zan true v_2),(17,.arr 105),(18,I i),(21,I (j+1))]) (O:=[(105,tAB (sn'.set ((at_ ((at_ v_2 i.toNat).Items) j.toNat).toNat) true))]) rfl (⟨.inl rfl,.inl rfl,.inl rfl,.inl rfl,.inl rfl,.inl rfl,.inl rfl,trivial⟩) (⟨.inr ⟨rfl,(by first|rfl|(simp;done)|(simp;omega)|omega),fun i_ hi_=> .inl (Zgn (enc:=cB) rfl i_ hi_)⟩,trivial⟩) (Zaz _ om ⟨(j+1),(sn'.set ((at_ ((at_ v_2 i.toNat).Items) j.toNat).toNat) true),rfl,om,(by rw [hnj,Zoc hj];exact Ztj hsn2 hxr),rfl⟩)
      have hje:j.toNat=(at_ v_2 i.toNat).Items.length:=by omega
      rw [hje,Zod hi] at hsn2
      refine Zbm [(7,.dec false)] [0,3,4,5,17,18,21,169] [105] [(0:Int)≤i∧i<(v_2.length:Int),_] hB ⟨⟨om,om⟩,h6,trivial⟩ (Zab (Zbc (Zbr (Zai (Zai (Zaq (Zay 1 (Zab ?_))))))))
      refine Zdk [] [0,3,4,5,17,18] [105] [Zcu false code,Zag true boxes_1,I gap_1,Zan true v_2,.arr 105,I (i+1)] [some (tAB sn')] [inR .i64 (i+1)] hB ⟨(Zah om om),trivial⟩ ?_
      exact Zaz _ om ⟨(i+1),sn',rfl,om,(by rw [hnx];exact hsn2),rfl⟩
     refine Zbm [(1,.dec false)] [0,3,4,5,17,18,129] [105] [_] hB ⟨h5,trivial⟩ (Zab (Zbc (Zam (Zab ?_))))
     refine aQ [(6,.call [(false,Zag false boxes_1),(false,slI false ((at_ v_2 i.toNat).Items))] true (.tup [Zga ((Zia boxes_1 ((at_ v_2 i.toNat).Items)).1),I ((Zia boxes_1 ((at_ v_2 i.toNat).Items)).2)])),(10,.new 19)] [0,3,4,5,17,18,19,20] [19,105] [(0:Int)≤i∧i<(v_2.length:Int),_∧((false=true→true=true)∧4=4∧boxes_1.length=boxes_1.length∧∀i_,i_<boxes_1.length→(Zdi boxes_1) i_=(Zdi boxes_1) i_∨(AV.idsL ((Zdi boxes_1) i_)=[]∧leL (fun _=>none) false ((Zdi boxes_1) i_) ((Zdi boxes_1) i_)))∧((false=true→true=true)∧1=1∧(((at_ v_2 i.toNat).Items).length)=(((at_ v_2 i.toNat).Items).length)∧∀i_,i_<(((at_ v_2 i.toNat).Items).length)→(fI ((at_ v_2 i.toNat).Items)) i_=(fI ((at_ v_2 i.toNat).Items)) i_∨(AV.idsL ((fI ((at_ v_2 i.toNat).Items)) i_)=[]∧leL (fun _=>none) false ((fI ((at_ v_2 i.toNat).Items)) i_) ((fI ((at_ v_2 i.toNat).Items)) i_)))∧True] hB ⟨⟨om,om⟩,⟨(Zds boxes_1 ((at_ v_2 i.toNat).Items) om),⟨(fun h=>by cases h),rfl,rfl,fun i _=> .inl rfl⟩,⟨(fun h=>by cases h),rfl,rfl,fun i _=> .inl rfl⟩,trivial⟩,trivial⟩ (Zae ?_)
     refine aQ [(1,.dec false),(10,.dec false),(20,.dec false)] [0,3,4,5,17,18,161] [105] [¬ (((Zia boxes_1 ((at_ v_2 i.toNat).Items)).2)≠0),(0:Int)≤i∧i<(v_2.length:Int),¬ ((((Zia boxes_1 ((at_ v_2 i.toNat).Items)).1).Y1)≠((at_ v_2 i.toNat).Top)),(0:Int)≤i∧i<(v_2.length:Int),¬ ((((Zia boxes_1 ((at_ v_2 i.toNat).Items)).1).Y2)≠((at_ v_2 i.toNat).Bottom))] hB ⟨(fun hq=>hq hbx.1),⟨om,om⟩,(fun hq=>hq hbx.2.1),⟨om,om⟩,(fun hq=>hq hbx.2.2),trivial⟩ (Zbc (Zam (Zab ?_)))
     refine aR [] [0,3,4,5,17,18,21] [105] [Zcu false code,Zag true boxes_1,I gap_1,Zan true v_2,.arr 105,I i,I 0] [some (tAB sn)] [] hB trivial (Zao ?_)
     refine Zbq (fun gn gσ=>∃(j:Int) (sn':List Bool),gn=(((at_ v_2 i.toNat).Items.length:Int)-j).toNat∧(0≤j∧j≤((at_ v_2 i.toNat).Items.length:Int))∧(Zvz boxes_1.length sn' (fl v_2 i.toNat j.toNat))∧gσ=mkS [(0,Zcu false code),(3,Zag true boxes_1),(4,I gap_1),(5,Zan true v_2),(17,.arr 105),(18,I i),(21,I j)] [(105,tAB sn')]) ((((at_ v_2 i.toNat).Items.length:Int)-0).toNat) ⟨0,sn,rfl,om,(by exact hsn),rfl⟩ (fun gn gσ hI=> ?_)
     obtain ⟨j,sn',rfl,hj0,hsn2,rfl⟩:=hI
     refine Zae (Zae ?_)
     by_cases h7:j<((((at_ v_2 i.toNat).Items).length):Int)
     ·have hj:j.toNat<(at_ v_2 i.toNat).Items.length:=by omega
      have hnj:(j+1).toNat=j.toNat+1:=by omega
      have hxr:=hln.2.1 _ (Zbf hj)
      have hxn:=sn_no hsn2 hxr (Zti hnd hi hj)
      have hsl2:=hsn2.1
      refine Zbm [(7,.dec true)] [0,3,4,5,17,18,21,169] [105] [(0:Int)≤i∧i<(v_2.length:Int),_] hB ⟨⟨om,om⟩,h7,trivial⟩ (Zab (Zbp (Zam (Zab (Zae (Zao ?_))))))
      refine aQ [] [0,3,4,5,17,18,21,22] [105] [(0:Int)≤i∧i<(v_2.length:Int),(0:Int)≤j∧j<((((at_ v_2 i.toNat).Items).length):Int)] hB ⟨⟨om,om⟩,⟨om,om⟩,trivial⟩ (Zae ?_)
      refine aQ [(1,.dec false),(6,.dec false),(12,.as (Bv false))] [0,3,4,5,17,18,21,22,193] [105] [¬ ((at_ ((at_ v_2 i.toNat).Items) j.toNat)<0),¬ ((boxes_1.length:Int)≤(at_ ((at_ v_2 i.toNat).Items) j.toNat)),(0:Int)≤(at_ ((at_ v_2 i.toNat).Items) j.toNat)∧(at_ ((at_ v_2 i.toNat).Items) j.toNat)<(sn'.length:Int),(at_ ((at_ v_2 i.toNat).Items) j.toNat).toNat<sn'.length∧List.drop 0 ((fB sn') ((at_ ((at_ v_2 i.toNat).Items) j.toNat).toNat))=[Bv false]] hB ⟨om,om,⟨om,om⟩,⟨om,(show [Bv (at_ sn' ((at_ ((at_ v_2 i.toNat).Items) j.toNat).toNat))]=[Bv false] from by rw [show (at_ sn' ((at_ ((at_ v_2 i.toNat).Items) j.toNat).toNat))=false from Bool.eq_false_iff.2 (by rw [hxn];decide)])⟩,trivial⟩ (Zbc (Zam (Zab ?_)))
      refine Zdk [] [0,3,4,5,17,18,21] [105] [Zcu false code,Zag true boxes_1,I gap_1,Zan true v_2,.arr 105,I i,I j] [some (.arr 1 sn'.length (fun q=>bif Nat.beq q ((at_ ((at_ v_2 i.toNat).Items) j.toNat).toNat) then [Bv true] else (fB sn') q))] [(0:Int)≤(at_ ((at_ v_2 i.toNat).Items) j.toNat)∧(at_ ((at_ v_2 i.toNat).Items) j.toNat)<(sn'.length:Int),(at_ ((at_ v_2 i.toNat).Items) j.toNat).toNat<sn'.length] hB ⟨⟨om,om⟩,om,trivial⟩ (Zay 3 (Zab ?_))
      refine Zdk [] [0,3,4,5,17,18,21] [105] [Zcu false code,Zag true boxes_1,I gap_1,Zan true v_2,.arr 105,I i,I (j+1)] [some (.arr 1 sn'.length (fun q=>bif Nat.beq q ((at_ ((at_ v_2 i.toNat).Items) j.toNat).toNat) then [Bv true] else (fB sn') q))] [inR .i64 (j+1)] hB ⟨(Zah om om),trivial⟩ ?_
      refine Zhf hB [] (T:=[(0,Zcu false code),(3,Zag true boxes_1),(4,I gap_1),(5,Zan true v_2),(17,.arr 105),(18,I i),(21,I (j+1))]) (O:=[(105,tAB (sn'.set ((at_ ((at_ v_2 i.toNat).Items) j.toNat).toNat) true))]) rfl (⟨.inl rfl,.inl rfl,.inl rfl,.inl rfl,.inl rfl,.inl rfl,.inl rfl,trivial⟩) (⟨.inr ⟨rfl,(by first|rfl|(simp;done)|(simp;omega)|omega),fun i_ hi_=> .inl (Zgn (enc:=cB) rfl i_ hi_)⟩,trivial⟩) (Zaz _ om ⟨(j+1),(sn'.set ((at_ ((at_ v_2 i.toNat).Items) j.toNat).toNat) true),rfl,om,(by rw [hnj,Zoc hj];exact Ztj hsn2 hxr),rfl⟩)
     have hje:j.toNat=(at_ v_2 i.toNat).Items.length:=by omega
     rw [hje,Zod hi] at hsn2
     refine Zbm [(7,.dec false)] [0,3,4,5,17,18,21,169] [105] [(0:Int)≤i∧i<(v_2.length:Int),_] hB ⟨⟨om,om⟩,h7,trivial⟩ (Zab (Zbc (Zbr (Zai (Zai (Zaq (Zay 1 (Zab ?_))))))))
     refine Zdk [] [0,3,4,5,17,18] [105] [Zcu false code,Zag true boxes_1,I gap_1,Zan true v_2,.arr 105,I (i+1)] [some (tAB sn')] [inR .i64 (i+1)] hB ⟨(Zah om om),trivial⟩ ?_
     exact Zaz _ om ⟨(i+1),sn',rfl,om,(by rw [hnx];exact hsn2),rfl⟩
    have hie:i.toNat=v_2.length:=by omega
    rw [hie,fl_end] at hsn
    have hsl:=hsn.1
    refine Zbm [(3,.dec false)] [0,3,4,5,17,18,109] [105] [_] hB ⟨h4,trivial⟩ (Zab (Zbc (Zbr (Zai (Zai (Zaq (Zab (Zae ?_))))))))
    refine aR [] [0,3,4,5,17,23] [105] [Zcu false code,Zag true boxes_1,I gap_1,Zan true v_2,.arr 105,I 0] [some (tAB sn)] [] hB trivial (Zao ?_)
    refine Zbq (fun gn gσ=>∃(i':Int),gn=((boxes_1.length:Int)-i').toNat∧(0≤i'∧i'≤(boxes_1.length:Int))∧gσ=mkS [(0,Zcu false code),(3,Zag true boxes_1),(4,I gap_1),(5,Zan true v_2),(17,.arr 105),(23,I i')] [(105,tAB sn)]) (((boxes_1.length:Int)-0).toNat) ⟨0,rfl,om,rfl⟩ (fun gn gσ hI=> ?_)
    obtain ⟨i',rfl,hi2a,rfl⟩:=hI
    refine Zae (Zae ?_)
    by_cases h8:i'<(sn.length:Int)
    ·have hi2:i'.toNat<boxes_1.length:=by omega
     have hse:=sn_all hsn hok.2.2 hi2
     refine Zbm [(3,.dec true)] [0,3,4,5,17,23,200] [105] [_] hB ⟨h8,trivial⟩ (Zab (Zbp (Zam (Zab (Zae (Zao ?_))))))
     refine aQ [(3,.as (Bv true))] [0,3,4,5,17,23,207] [105] [(0:Int)≤i'∧i'<(sn.length:Int),i'.toNat<sn.length∧List.drop 0 ((fB sn) i'.toNat)=[Bv true]] hB ⟨⟨om,om⟩,⟨om,(show [Bv (at_ sn i'.toNat)]=[Bv true] from by rw [show (at_ sn i'.toNat)=true from hse])⟩,trivial⟩ (Zbc (Zam (Zay 5 (Zab ?_))))
     refine Zdk [] [0,3,4,5,17,23] [105] [Zcu false code,Zag true boxes_1,I gap_1,Zan true v_2,.arr 105,I (i'+1)] [some (tAB sn)] [inR .i64 (i'+1)] hB ⟨(Zah om om),trivial⟩ ?_
     exact Zaz _ om ⟨(i'+1),rfl,om,rfl⟩
    refine Zbm [(3,.dec false)] [0,3,4,5,17,23,200] [105] [_] hB ⟨h8,trivial⟩ (Zab (Zbc (Zbr (Zai (Zai (Zaq (Zab (Zae ?_))))))))
    obtain ⟨d'_6,hx6_0,hc6⟩:=Zqb code 1901 (by assumption) om
    refine Zbm [(1,.lend [] [(7002,Zaw d'_6)] [(true,.any),(true,.any)] false (.ref 7002 0))] [3,4,5,24] [7002] [Zap Try.prog 17 [Zcu false code,.val (.int .u64 1901)] (Zac []) false (.ref 7002 0) (Zac [(7002,Zaw d'_6)])∧True] hB ⟨⟨hc6,trivial⟩,trivial⟩ (Zab (Zae ?_))
    obtain ⟨v_7,d'_7,hx7_0,hx7_1,hc7⟩:=Zkq d'_6 50 (by assumption) om
    have hbw_v_7:=hx7_0
    refine Zbm [(1,.lend [(7002,Zaw d'_6,Zaw d'_7)] [] [(true,.any),(true,.any)] true (I v_7))] [3,4,5,24,25] [7002] [Zap Try.prog 18 [.ref 7002 0,I 50] (Zac [(7002,Zaw d'_6)]) true (I v_7) (Zac [(7002,Zaw d'_7)])∧(((Zaw d'_6:Ob)=Zaw d'_6∨Zdt Zdh true (Zaw d'_6) (Zaw d'_6))∧Zal false (Zaw d'_6))∧True] hB ⟨⟨hc7,⟨.inl rfl,(by simp [Zal,Zaf,Zaj,Zcc])⟩,trivial⟩,trivial⟩ (Zab (Zae ?_))
    obtain ⟨v_8,d'_8,hx8_0,hx8_1,hc8⟩:=Zkq d'_7 50 (by assumption) om
    have hbw_v_8:=hx8_0
    refine Zdk [(1,.lend [(7002,Zaw d'_7,Zaw d'_8)] [] [(true,.any),(true,.any)] true (I v_8))] [3,4,5,25,26] [] [Zag true boxes_1,I gap_1,Zan true v_2,I v_7,I v_8] [] [Zap Try.prog 18 [.ref 7002 0,I 50] (Zac [(7002,Zaw d'_7)]) true (I v_8) (Zac [(7002,Zaw d'_8)])∧(((Zaw d'_7:Ob)=Zaw d'_7∨Zdt Zdh true (Zaw d'_7) (Zaw d'_7))∧Zal false (Zaw d'_7))∧True] hB ⟨⟨hc8,⟨.inl rfl,(by simp [Zal,Zaf,Zaj,Zcc])⟩,trivial⟩,trivial⟩ (Zab ?_)
    refine aQ [(0,.new 214)] [3,4,5,25,26,27] [214] [] hB trivial (Zae ?_)
    refine aR [] [3,4,5,25,26,27,28] [214] [Zag true boxes_1,I gap_1,Zan true v_2,I v_7,I v_8,.arr 214,I 0] [some (.arr 4 0 (Zfu [] 4))] [] hB trivial (Zao ?_)
    refine Zih hB [] (T:=[(3,Zag true boxes_1),(4,I gap_1),(5,Zan true v_2),(25,I v_7),(26,I v_8),(27,.arr 214),(28,I 0)]) (O:=[(214,Zfd ([]:List Box))]) rfl (⟨.inl rfl,.inl rfl,.inl rfl,.inl rfl,.inl rfl,.inl rfl,.inl rfl,trivial⟩) (⟨.inr ⟨rfl,(by first|rfl|(simp;done)|(simp;omega)|omega),fun i_ hi_=>absurd hi_ (Nat.not_lt_zero _)⟩,trivial⟩) ?_
    refine Zbq (fun gn gσ=>∃(mv:List Box) (i'':Int),gn=((boxes_1.length:Int)-i'').toNat∧(0≤i''∧i''≤(boxes_1.length:Int))∧(mv=(boxes_1.take i''.toNat).map (mvB v_7 v_8))∧gσ=mkS [(3,Zag true boxes_1),(4,I gap_1),(5,Zan true v_2),(25,I v_7),(26,I v_8),(27,.arr 214),(28,I i'')] [(214,Zfd mv)]) (((boxes_1.length:Int)-0).toNat) ⟨([]:List Box),0,rfl,om,(by rfl),rfl⟩ (fun gn gσ hI=> ?_)
    obtain ⟨mv,i'',rfl,hi3a,hmv,rfl⟩:=hI
    refine Zae (Zae ?_)
    by_cases h9:i''<(boxes_1.length:Int)
    ·have hi3:i''.toNat<boxes_1.length:=by omega
     have hnx:(i''+1).toNat=i''.toNat+1:=by omega
     have hb3:=Zgo hp hi3
     have hml:mv.length=i''.toNat:=by rw [hmv,List.length_map,List.length_take];omega
     refine Zbm [(3,.dec true)] [3,4,5,25,26,27,28,218] [214] [_] hB ⟨h9,trivial⟩ (Zab (Zbp (Zam (Zab (Zae (Zao ?_))))))
     refine Zbm [(30,.new 251),(31,.new 252)] [3,4,5,25,26,27,28] [252] [(0:Int)≤i''∧i''<(boxes_1.length:Int),inR .i64 (((at_ boxes_1 i''.toNat).X1)+v_7),(0:Int)≤i''∧i''<(boxes_1.length:Int),inR .i64 (((at_ boxes_1 i''.toNat).Y1)+v_8),(0:Int)≤i''∧i''<(boxes_1.length:Int),inR .i64 (((at_ boxes_1 i''.toNat).X2)+v_7),(0:Int)≤i''∧i''<(boxes_1.length:Int),inR .i64 (((at_ boxes_1 i''.toNat).Y2)+v_8),(mv.length+1)*32≤140737488355328] hB ⟨⟨om,om⟩,(Zah om om),⟨om,om⟩,(Zah om om),⟨om,om⟩,(Zah om om),⟨om,om⟩,(Zah om om),om,trivial⟩ (Zay 7 (Zab ?_))
     refine Zdk [] [3,4,5,25,26,27,28] [252] [Zag true boxes_1,I gap_1,Zan true v_2,I v_7,I v_8,.arr 252,I (i''+1)] [some (.arr 4 (mv.length+1) (Zgd mv.length (Zdi mv) (Zfu [I (((at_ boxes_1 i''.toNat).X1)+v_7),I (((at_ boxes_1 i''.toNat).Y1)+v_8),I (((at_ boxes_1 i''.toNat).X2)+v_7),I (((at_ boxes_1 i''.toNat).Y2)+v_8)] 4)))] [inR .i64 (i''+1)] hB ⟨(Zah om om),trivial⟩ ?_
     refine Zhf hB [(214,252)] (T:=[(3,Zag true boxes_1),(4,I gap_1),(5,Zan true v_2),(25,I v_7),(26,I v_8),(27,.arr 214),(28,I (i''+1))]) (O:=[(214,Zfd (mv++[(Box.mk (((at_ boxes_1 i''.toNat).X1)+v_7) (((at_ boxes_1 i''.toNat).Y1)+v_8) (((at_ boxes_1 i''.toNat).X2)+v_7) (((at_ boxes_1 i''.toNat).Y2)+v_8))]))]) rfl (⟨.inl rfl,.inl rfl,.inl rfl,.inl rfl,.inl rfl,.inl rfl,.inl rfl,trivial⟩) (⟨.inr ⟨rfl,(by first|rfl|(simp;done)|(simp;omega)|omega),fun i_ hi_=> .inl (Zeg (enc:=Zmo) (xs:=mv) rfl i_ hi_)⟩,trivial⟩) (Zaz _ om ⟨(mv++[(Box.mk (((at_ boxes_1 i''.toNat).X1)+v_7) (((at_ boxes_1 i''.toNat).Y1)+v_8) (((at_ boxes_1 i''.toNat).X2)+v_7) (((at_ boxes_1 i''.toNat).Y2)+v_8))]),(i''+1),rfl,om,(by rw [hnx,Zwa hi3,←hmv];rfl),rfl⟩)
    rw [show i''.toNat=boxes_1.length from by omega,List.take_length] at hmv
    refine Zbm [(3,.dec false)] [3,4,5,25,26,27,28,218] [214] [_] hB ⟨h9,trivial⟩ (Zab (Zbc (Zbr (Zai (Zai (Zaq (Zab (Zae ?_))))))))
    obtain ⟨v_9,c_9,hx9_0,hc9⟩:=Zfy mv gap_1 (fun _=>by rw [hmv];exact sm_mv (Ztf hsd hp))
    have hv9:v_9=(Zcm mv gap_1).1:=congrArg Prod.fst hx9_0
    have hk9:c_9=(Zcm mv gap_1).2:=congrArg Prod.snd hx9_0
    refine Zbm [(2,.call [(false,Zag false mv),(true,.any)] true (.tup [Zan true v_9,I c_9]))] [5,26,29,30] [] [_∧((false=true→true=true)∧4=4∧mv.length=mv.length∧∀i_,i_<mv.length→(Zdi mv) i_=(Zdi mv) i_∨(AV.idsL ((Zdi mv) i_)=[]∧leL (fun _=>none) false ((Zdi mv) i_) ((Zdi mv) i_)))∧True] hB ⟨⟨hc9,⟨(fun h=>by cases h),rfl,rfl,fun i _=> .inl rfl⟩,trivial⟩,trivial⟩ (Zab (Zae (Zae ?_)))
    by_cases h10:c_9=0
    ·have hlr7:=Zob (bs:=mv) (gap:=gap_1) (by rw [←hk9];exact h10)
     have hV7:v_9=v_2.map (shl v_8):=by rw [hv9,hlr7.2.2,hmv,Zwb hp,hL]
     have hl7:v_9.length=v_2.length:=by rw [hV7,List.length_map]
     refine Zbm [(1,.dec false)] [5,26,29,30,260] [] [¬ (c_9≠0)] hB ⟨(fun hq=>hq h10),trivial⟩ (Zab (Zbc (Zam (Zab (Zae ?_)))))
     refine aR [(4,.dec false)] [5,26,29,267] [] [Zan true v_2,I v_8,Zan true v_9,Bv false] [] [¬ ((v_9.length:Int)≠(v_2.length:Int))] hB ⟨(fun hq=>hq om),trivial⟩ (Zdc rfl (Zam (Zab (Zae ?_))))
     refine aR [] [5,26,29,31] [] [Zan true v_2,I v_8,Zan true v_9,I 0] [] [] hB trivial (Zao ?_)
     refine Zbq (fun gn gσ=>∃(i''':Int),gn=((v_2.length:Int)-i''').toNat∧(0≤i'''∧i'''≤(v_2.length:Int))∧gσ=mkS [(5,Zan true v_2),(26,I v_8),(29,Zan true v_9),(31,I i''')] []) (((v_2.length:Int)-0).toNat) ⟨0,rfl,om,rfl⟩ (fun gn gσ hI=> ?_)
     obtain ⟨i''',rfl,hi4a,rfl⟩:=hI
     refine Zae (Zae ?_)
     by_cases h11:i'''<(v_2.length:Int)
     ·have hi4:i'''.toNat<v_2.length:=by omega
      have hat:at_ v_9 i'''.toNat=shl v_8 (at_ v_2 i'''.toNat):=by rw [hV7];exact Zid hi4
      have hln4:=(hnn.1 _ (Zbf hi4)).2.2
      refine Zbm [(3,.dec true)] [5,26,29,31,271] [] [_] hB ⟨h11,trivial⟩ (Zab (Zbp (Zam (Zab (Zae (Zao ?_))))))
      refine aQ [(12,.dec false),(24,.call [(false,slI false ((at_ v_9 i'''.toNat).Items)),(false,slI false ((at_ v_2 i'''.toNat).Items))] true (Bv true))] [5,26,29,31,300] [] [(0:Int)≤i'''∧i'''<(v_9.length:Int),(0:Int)≤i'''∧i'''<(v_2.length:Int),inR .i64 (((at_ v_2 i'''.toNat).Top)+v_8),¬ (((at_ v_9 i'''.toNat).Top)≠(((at_ v_2 i'''.toNat).Top)+v_8)),(0:Int)≤i'''∧i'''<(v_9.length:Int),(0:Int)≤i'''∧i'''<(v_2.length:Int),Con Try.prog 19 [slI false ((at_ v_9 i'''.toNat).Items),slI false ((at_ v_2 i'''.toNat).Items)] true (Bv true)∧((false=true→true=true)∧1=1∧(((at_ v_9 i'''.toNat).Items).length)=(((at_ v_9 i'''.toNat).Items).length)∧∀i_,i_<(((at_ v_9 i'''.toNat).Items).length)→(fI ((at_ v_9 i'''.toNat).Items)) i_=(fI ((at_ v_9 i'''.toNat).Items)) i_∨(AV.idsL ((fI ((at_ v_9 i'''.toNat).Items)) i_)=[]∧leL (fun _=>none) false ((fI ((at_ v_9 i'''.toNat).Items)) i_) ((fI ((at_ v_9 i'''.toNat).Items)) i_)))∧((false=true→true=true)∧1=1∧(((at_ v_2 i'''.toNat).Items).length)=(((at_ v_2 i'''.toNat).Items).length)∧∀i_,i_<(((at_ v_2 i'''.toNat).Items).length)→(fI ((at_ v_2 i'''.toNat).Items)) i_=(fI ((at_ v_2 i'''.toNat).Items)) i_∨(AV.idsL ((fI ((at_ v_2 i'''.toNat).Items)) i_)=[]∧leL (fun _=>none) false ((fI ((at_ v_2 i'''.toNat).Items)) i_) ((fI ((at_ v_2 i'''.toNat).Items)) i_)))∧True] hB ⟨⟨om,om⟩,⟨om,om⟩,(Zah om om),(fun hq=>hq (by rw [hat];rfl)),⟨om,om⟩,⟨om,om⟩,⟨(Zas (by rw [hat];exact Zjs _) (Zqc ((at_ v_9 i'''.toNat).Items) ((at_ v_2 i'''.toNat).Items))),⟨(fun h=>by cases h),rfl,rfl,fun i _=> .inl rfl⟩,⟨(fun h=>by cases h),rfl,rfl,fun i _=> .inl rfl⟩,trivial⟩,trivial⟩ (Zbc (Zam (Zay 9 (Zab ?_))))
      refine Zdk [] [5,26,29,31] [] [Zan true v_2,I v_8,Zan true v_9,I (i'''+1)] [] [inR .i64 (i'''+1)] hB ⟨(Zah om om),trivial⟩ ?_
      exact Zaz _ om ⟨(i'''+1),rfl,om,rfl⟩
     refine Zbm [(3,.dec false)] [5,26,29,31,271] [] [_] hB ⟨h11,trivial⟩ (Zab (Zbc (Zbr (Zai (Zai (Zaq (Zab ?_)))))))
     refine aR [] [2] [] [Bv true] [] [] hB trivial (Zav ?_)
     refine Zat hB (Bv true) (by kernel_rfl) (.inl rfl) rfl (fun _=>trivial)
    have hone:c_9=1:=by rw [hk9];exact Ztk hlr.2.1 (by rw [←hk9];exact h10)
    refine Zbm [(1,.dec true)] [5,26,29,30,260] [] [_] hB ⟨h10,trivial⟩ (Zab (Zbp ?_))
    refine aR [] [2] [] [Bv (decide (c_9=1))] [] [] hB trivial (Zav (Zak ?_))
    refine Zat hB (Bv (decide (c_9=1))) (by kernel_rfl) (.inl (by first|rfl|(refine congrArg Bv ?_;exact decide_eq_true hone))) rfl (fun _=>trivial)
   refine Zbm [(1,.dec true)] [0,3,4,5,102] [] [_] hB ⟨h3,trivial⟩ (Zab (Zbp ?_))
   refine aR [] [2] [] [Bv true] [] [] hB trivial (Zav (Zak ?_))
   refine Zat hB (Bv true) (by kernel_rfl) (.inl rfl) rfl (fun _=>trivial)
  refine Zbm [(2,.dec false),(6,.call [(false,Zan false v_2),(false,Zan false v_3)] true (Bv true)),(12,.call [(false,Zdj a_4),(false,Zdj b_4)] true (Bv false)),(15,.call [(false,Zdj a_4),(false,Zdj b_4)] true (Bv false)),(21,.dec false),(26,.dec false)] [0,3,4,5,6,100] [] [¬ (c_2≠c_3),_∧((false=true→true=true)∧3=3∧v_2.length=v_2.length∧∀i_,i_<v_2.length→(Zcd true v_2) i_=(Zcd false v_2) i_∨(AV.idsL ((Zcd false v_2) i_)=[]∧leL (fun _=>none) false ((Zcd true v_2) i_) ((Zcd false v_2) i_)))∧((false=true→true=true)∧3=3∧v_3.length=v_3.length∧∀i_,i_<v_3.length→(Zcd true v_3) i_=(Zcd false v_3) i_∨(AV.idsL ((Zcd false v_3) i_)=[]∧leL (fun _=>none) false ((Zcd true v_3) i_) ((Zcd false v_3) i_)))∧True,Con Try.prog 14 [Zdj a_4,Zdj b_4] true (Bv false)∧((Zck (I a_4.Top)=Zck (I a_4.Top))∧(Zck (I a_4.Bottom)=Zck (I a_4.Bottom))∧((false=true→true=true)∧1=1∧a_4.Items.length=a_4.Items.length∧∀i_,i_<a_4.Items.length→(fI a_4.Items) i_=(fI a_4.Items) i_∨(AV.idsL ((fI a_4.Items) i_)=[]∧leL (fun _=>none) false ((fI a_4.Items) i_) ((fI a_4.Items) i_)))∧([]:List AV)=[])∧((Zck (I b_4.Top)=Zck (I b_4.Top))∧(Zck (I b_4.Bottom)=Zck (I b_4.Bottom))∧((false=true→true=true)∧1=1∧b_4.Items.length=b_4.Items.length∧∀i_,i_<b_4.Items.length→(fI b_4.Items) i_=(fI b_4.Items) i_∨(AV.idsL ((fI b_4.Items) i_)=[]∧leL (fun _=>none) false ((fI b_4.Items) i_) ((fI b_4.Items) i_)))∧([]:List AV)=[])∧True,Con Try.prog 15 [Zdj a_4,Zdj b_4] true (Bv false)∧((Zck (I a_4.Top)=Zck (I a_4.Top))∧(Zck (I a_4.Bottom)=Zck (I a_4.Bottom))∧((false=true→true=true)∧1=1∧a_4.Items.length=a_4.Items.length∧∀i_,i_<a_4.Items.length→(fI a_4.Items) i_=(fI a_4.Items) i_∨(AV.idsL ((fI a_4.Items) i_)=[]∧leL (fun _=>none) false ((fI a_4.Items) i_) ((fI a_4.Items) i_)))∧([]:List AV)=[])∧((Zck (I b_4.Top)=Zck (I b_4.Top))∧(Zck (I b_4.Bottom)=Zck (I b_4.Bottom))∧((false=true→true=true)∧1=1∧b_4.Items.length=b_4.Items.length∧∀i_,i_<b_4.Items.length→(fI b_4.Items) i_=(fI b_4.Items) i_∨(AV.idsL ((fI b_4.Items) i_)=[]∧leL (fun _=>none) false ((fI b_4.Items) i_) ((fI b_4.Items) i_)))∧([]:List AV)=[])∧True,¬ (((Zjq lines_5 y_5).2)≠((Zjq lines_5 y_5).2)),¬ (((Zjq lines_5 y_5).1)≠((Zjq lines_5 y_5).1))] hB ⟨(fun hq=>hq hcc),⟨(Zng v_2 v_3 hvv),⟨(fun h=>by cases h),rfl,rfl,fun i _=> .inr ⟨Zjr _ _,Znf _ _ _⟩⟩,⟨(fun h=>by cases h),rfl,rfl,fun i _=> .inr ⟨Zjr _ _,Znf _ _ _⟩⟩,trivial⟩,⟨(Zas h2 (Zhe a_4 b_4)),⟨rfl,⟨rfl,⟨⟨(fun h=>by cases h),rfl,rfl,fun i _=> .inl rfl⟩,rfl⟩⟩⟩,⟨rfl,⟨rfl,⟨⟨(fun h=>by cases h),rfl,rfl,fun i _=> .inl rfl⟩,rfl⟩⟩⟩,trivial⟩,⟨(Zas h2 (Zfl a_4 b_4)),⟨rfl,⟨rfl,⟨⟨(fun h=>by cases h),rfl,rfl,fun i _=> .inl rfl⟩,rfl⟩⟩⟩,⟨rfl,⟨rfl,⟨⟨(fun h=>by cases h),rfl,rfl,fun i _=> .inl rfl⟩,rfl⟩⟩⟩,trivial⟩,(fun hq=>hq rfl),(fun hq=>hq rfl),trivial⟩ (Zab (Zbc (Zam (Zab (Zae (Zae ?_))))))
  by_cases h12:c_2=0
  ·have hlr:=Zob (bs:=boxes_1) (gap:=gap_1) (by rw [←hk2];exact h12)
   have hp:=hlr.1
   have hgp:=Zfz.1 hlr.2.1
   have hL:v_2=Zkp boxes_1 gap_1:=hv2.trans hlr.2.2
   have hok:=Zvy (gap:=gap_1) hp
   have hnn:=Ztg (gap:=gap_1) hp
   rw [←hL] at hok hnn
   have hbn:=Znh hp
   have hnd:(Ziu v_2).Nodup:=hok.2.2.symm.nodup (Zqa _)
   refine Zbm [(1,.dec false)] [0,3,4,5,102] [] [¬ (c_2≠0)] hB ⟨(fun hq=>hq h12),trivial⟩ (Zab (Zbc (Zam (Zab ?_))))
   refine aQ [(2,.new 105)] [0,3,4,5,17] [105] [(0:Int)≤(boxes_1.length:Int)∧((boxes_1.length:Int):Int)≤(boxes_1.length:Int)∧(1:Int)*(boxes_1.length:Int)≤281474976710656∧(boxes_1.length:Int)≤9223372036854775807] hB ⟨⟨om,om,om,om⟩,trivial⟩ (Zae ?_)
   refine aR [] [0,3,4,5,17,18] [105] [Zcu false code,Zag true boxes_1,I gap_1,Zan true v_2,.arr 105,I 0] [some (.arr 1 ((boxes_1.length:Int).toNat) (fun _=>[Bv false]))] [] hB trivial (Zao ?_)
   refine Zih hB [] (T:=[(0,Zcu false code),(3,Zag true boxes_1),(4,I gap_1),(5,Zan true v_2),(17,.arr 105),(18,I 0)]) (O:=[(105,tAB (List.replicate ((boxes_1.length:Int).toNat) false))]) rfl (⟨.inl rfl,.inl rfl,.inl rfl,.inl rfl,.inl rfl,.inl rfl,trivial⟩) (⟨.inr ⟨rfl,(by first|rfl|(simp;done)|(simp;omega)|omega),fun i_ hi_=> .inl (Zlg (enc:=cB) rfl i_ hi_)⟩,trivial⟩) ?_
   refine Zbq (fun gn gσ=>∃(i:Int) (sn:List Bool),gn=((v_2.length:Int)-i).toNat∧(0≤i∧i≤(v_2.length:Int))∧(Zvz boxes_1.length sn (fl v_2 i.toNat 0))∧gσ=mkS [(0,Zcu false code),(3,Zag true boxes_1),(4,I gap_1),(5,Zan true v_2),(17,.arr 105),(18,I i)] [(105,tAB sn)]) (((v_2.length:Int)-0).toNat) ⟨0,(List.replicate ((boxes_1.length:Int).toNat) false),rfl,om,(by (rw [show (0:Int).toNat=0 from rfl,fl_0];first|exact sn_0 _|simpa using sn_0 _)),rfl⟩ (fun gn gσ hI=> ?_)
   obtain ⟨i,sn,rfl,hi0,hsn,rfl⟩:=hI
   refine Zae (Zae ?_)
   by_cases h13:i<(v_2.length:Int)
   ·have hi:i.toNat<v_2.length:=by omega
    have hnx:(i+1).toNat=i.toNat+1:=by omega
    have hmm:at_ v_2 i.toNat∈v_2:=Zbf hi
    have hlx:=hok.1 _ hmm
    have hln:=hnn.1 _ hmm
    have hbx:=Zth hp hlx hln
    have hln2:=hln.2.2
    have hln1:=hln.1
    refine Zbm [(3,.dec true)] [0,3,4,5,17,18,109] [105] [_] hB ⟨h13,trivial⟩ (Zab (Zbp (Zam (Zab (Zae (Zao (Zae (Zae ?_))))))))
    by_cases h14:0<i
    ·have hch:=hok.2.1 (i-1).toNat om
     rw [show (i-1).toNat+1=i.toNat from by omega] at hch
     have hpm:=(hnn.1 _ (Zbf (i:=(i-1).toNat) om)).2.2
     refine Zbm [(1,.dec true),(16,.dec false)] [0,3,4,5,17,18,129] [105] [_,(0:Int)≤i∧i<(v_2.length:Int),inR .i64 (i-1),(0:Int)≤(i-1)∧(i-1)<(v_2.length:Int),inR .i64 (((at_ v_2 ((i-1).toNat)).Bottom)+gap_1),¬ (((at_ v_2 i.toNat).Top)≤(((at_ v_2 ((i-1).toNat)).Bottom)+gap_1))] hB ⟨h14,⟨om,om⟩,(Zah om om),⟨om,om⟩,(Zah om om),om,trivial⟩ (Zab (Zbc (Zam (Zab ?_))))
     refine aQ [(6,.call [(false,Zag false boxes_1),(false,slI false ((at_ v_2 i.toNat).Items))] true (.tup [Zga ((Zia boxes_1 ((at_ v_2 i.toNat).Items)).1),I ((Zia boxes_1 ((at_ v_2 i.toNat).Items)).2)])),(10,.new 19)] [0,3,4,5,17,18,19,20] [19,105] [(0:Int)≤i∧i<(v_2.length:Int),_∧((false=true→true=true)∧4=4∧boxes_1.length=boxes_1.length∧∀i_,i_<boxes_1.length→(Zdi boxes_1) i_=(Zdi boxes_1) i_∨(AV.idsL ((Zdi boxes_1) i_)=[]∧leL (fun _=>none) false ((Zdi boxes_1) i_) ((Zdi boxes_1) i_)))∧((false=true→true=true)∧1=1∧(((at_ v_2 i.toNat).Items).length)=(((at_ v_2 i.toNat).Items).length)∧∀i_,i_<(((at_ v_2 i.toNat).Items).length)→(fI ((at_ v_2 i.toNat).Items)) i_=(fI ((at_ v_2 i.toNat).Items)) i_∨(AV.idsL ((fI ((at_ v_2 i.toNat).Items)) i_)=[]∧leL (fun _=>none) false ((fI ((at_ v_2 i.toNat).Items)) i_) ((fI ((at_ v_2 i.toNat).Items)) i_)))∧True] hB ⟨⟨om,om⟩,⟨(Zds boxes_1 ((at_ v_2 i.toNat).Items) om),⟨(fun h=>by cases h),rfl,rfl,fun i _=> .inl rfl⟩,⟨(fun h=>by cases h),rfl,rfl,fun i _=> .inl rfl⟩,trivial⟩,trivial⟩ (Zae ?_)
     refine aR [(1,.dec false),(10,.dec false),(20,.dec false)] [0,3,4,5,17,18,161] [105] [Zcu false code,Zag true boxes_1,I gap_1,Zan true v_2,.arr 105,I i,Bv false] [some (tAB sn)] [¬ (((Zia boxes_1 ((at_ v_2 i.toNat).Items)).2)≠0),(0:Int)≤i∧i<(v_2.length:Int),¬ ((((Zia boxes_1 ((at_ v_2 i.toNat).Items)).1).Y1)≠((at_ v_2 i.toNat).Top)),(0:Int)≤i∧i<(v_2.length:Int),¬ ((((Zia boxes_1 ((at_ v_2 i.toNat).Items)).1).Y2)≠((at_ v_2 i.toNat).Bottom))] hB ⟨(fun hq=>hq hbx.1),⟨om,om⟩,(fun hq=>hq hbx.2.1),⟨om,om⟩,(fun hq=>hq hbx.2.2),trivial⟩ (Zdc rfl (Zam (Zab ?_)))
     refine aR [] [0,3,4,5,17,18,21] [105] [Zcu false code,Zag true boxes_1,I gap_1,Zan true v_2,.arr 105,I i,I 0] [some (tAB sn)] [] hB trivial (Zao ?_)
     refine Zbq (fun gn gσ=>∃(j:Int) (sn':List Bool),gn=(((at_ v_2 i.toNat).Items.length:Int)-j).toNat∧(0≤j∧j≤((at_ v_2 i.toNat).Items.length:Int))∧(Zvz boxes_1.length sn' (fl v_2 i.toNat j.toNat))∧gσ=mkS [(0,Zcu false code),(3,Zag true boxes_1),(4,I gap_1),(5,Zan true v_2),(17,.arr 105),(18,I i),(21,I j)] [(105,tAB sn')]) ((((at_ v_2 i.toNat).Items.length:Int)-0).toNat) ⟨0,sn,rfl,om,(by exact hsn),rfl⟩ (fun gn gσ hI=> ?_)
     obtain ⟨j,sn',rfl,hj0,hsn2,rfl⟩:=hI
     refine Zae (Zae ?_)
     by_cases h15:j<((((at_ v_2 i.toNat).Items).length):Int)
     ·have hj:j.toNat<(at_ v_2 i.toNat).Items.length:=by omega
      have hnj:(j+1).toNat=j.toNat+1:=by omega
      have hxr:=hln.2.1 _ (Zbf hj)
      have hxn:=sn_no hsn2 hxr (Zti hnd hi hj)
      have hsl2:=hsn2.1
      refine Zbm [(7,.dec true)] [0,3,4,5,17,18,21,169] [105] [(0:Int)≤i∧i<(v_2.length:Int),_] hB ⟨⟨om,om⟩,h15,trivial⟩ (Zab (Zbp (Zam (Zab (Zae (Zao ?_))))))
      refine aQ [] [0,3,4,5,17,18,21,22] [105] [(0:Int)≤i∧i<(v_2.length:Int),(0:Int)≤j∧j<((((at_ v_2 i.toNat).Items).length):Int)] hB ⟨⟨om,om⟩,⟨om,om⟩,trivial⟩ (Zae ?_)
      refine aQ [(1,.dec false),(6,.dec false),(12,.as (Bv false))] [0,3,4,5,17,18,21,22,193] [105] [¬ ((at_ ((at_ v_2 i.toNat).Items) j.toNat)<0),¬ ((boxes_1.length:Int)≤(at_ ((at_ v_2 i.toNat).Items) j.toNat)),(0:Int)≤(at_ ((at_ v_2 i.toNat).Items) j.toNat)∧(at_ ((at_ v_2 i.toNat).Items) j.toNat)<(sn'.length:Int),(at_ ((at_ v_2 i.toNat).Items) j.toNat).toNat<sn'.length∧List.drop 0 ((fB sn') ((at_ ((at_ v_2 i.toNat).Items) j.toNat).toNat))=[Bv false]] hB ⟨om,om,⟨om,om⟩,⟨om,(show [Bv (at_ sn' ((at_ ((at_ v_2 i.toNat).Items) j.toNat).toNat))]=[Bv false] from by rw [show (at_ sn' ((at_ ((at_ v_2 i.toNat).Items) j.toNat).toNat))=false from Bool.eq_false_iff.2 (by rw [hxn];decide)])⟩,trivial⟩ (Zbc (Zam (Zab ?_)))
      refine Zdk [] [0,3,4,5,17,18,21] [105] [Zcu false code,Zag true boxes_1,I gap_1,Zan true v_2,.arr 105,I i,I j] [some (.arr 1 sn'.length (fun q=>bif Nat.beq q ((at_ ((at_ v_2 i.toNat).Items) j.toNat).toNat) then [Bv true] else (fB sn') q))] [(0:Int)≤(at_ ((at_ v_2 i.toNat).Items) j.toNat)∧(at_ ((at_ v_2 i.toNat).Items) j.toNat)<(sn'.length:Int),(at_ ((at_ v_2 i.toNat).Items) j.toNat).toNat<sn'.length] hB ⟨⟨om,om⟩,om,trivial⟩ (Zay 3 (Zab ?_))
      refine Zdk [] [0,3,4,5,17,18,21] [105] [Zcu false code,Zag true boxes_1,I gap_1,Zan true v_2,.arr 105,I i,I (j+1)] [some (.arr 1 sn'.length (fun q=>bif Nat.beq q ((at_ ((at_ v_2 i.toNat).Items) j.toNat).toNat) then [Bv true] else (fB sn') q))] [inR .i64 (j+1)] hB ⟨(Zah om om),trivial⟩ ?_
      refine Zhf hB [] (T:=[(0,Zcu false code),(3,Zag true boxes_1),(4,I gap_1),(5,Zan true v_2),(17,.arr 105),(18,I i),(21,I (j+1))]) (O:=[(105,tAB (sn'.set ((at_ ((at_ v_2 i.toNat).Items) j.toNat).toNat) true))]) rfl (⟨.inl rfl,.inl rfl,.inl rfl,.inl rfl,.inl rfl,.inl rfl,.inl rfl,trivial⟩) (⟨.inr ⟨rfl,(by first|rfl|(simp;done)|(simp;omega)|omega),fun i_ hi_=> .inl (Zgn (enc:=cB) rfl i_ hi_)⟩,trivial⟩) (Zaz _ om ⟨(j+1),(sn'.set ((at_ ((at_ v_2 i.toNat).Items) j.toNat).toNat) true),rfl,om,(by rw [hnj,Zoc hj];exact Ztj hsn2 hxr),rfl⟩)
     have hje:j.toNat=(at_ v_2 i.toNat).Items.length:=by omega
     rw [hje,Zod hi] at hsn2
     refine Zbm [(7,.dec false)] [0,3,4,5,17,18,21,169] [105] [(0:Int)≤i∧i<(v_2.length:Int),_] hB ⟨⟨om,om⟩,h15,trivial⟩ (Zab (Zbc (Zbr (Zai (Zai (Zaq (Zay 1 (Zab ?_))))))))
     refine Zdk [] [0,3,4,5,17,18] [105] [Zcu false code,Zag true boxes_1,I gap_1,Zan true v_2,.arr 105,I (i+1)] [some (tAB sn')] [inR .i64 (i+1)] hB ⟨(Zah om om),trivial⟩ ?_
     exact Zaz _ om ⟨(i+1),sn',rfl,om,(by rw [hnx];exact hsn2),rfl⟩
    refine Zbm [(1,.dec false)] [0,3,4,5,17,18,129] [105] [_] hB ⟨h14,trivial⟩ (Zab (Zbc (Zam (Zab ?_))))
    refine aQ [(6,.call [(false,Zag false boxes_1),(false,slI false ((at_ v_2 i.toNat).Items))] true (.tup [Zga ((Zia boxes_1 ((at_ v_2 i.toNat).Items)).1),I ((Zia boxes_1 ((at_ v_2 i.toNat).Items)).2)])),(10,.new 19)] [0,3,4,5,17,18,19,20] [19,105] [(0:Int)≤i∧i<(v_2.length:Int),_∧((false=true→true=true)∧4=4∧boxes_1.length=boxes_1.length∧∀i_,i_<boxes_1.length→(Zdi boxes_1) i_=(Zdi boxes_1) i_∨(AV.idsL ((Zdi boxes_1) i_)=[]∧leL (fun _=>none) false ((Zdi boxes_1) i_) ((Zdi boxes_1) i_)))∧((false=true→true=true)∧1=1∧(((at_ v_2 i.toNat).Items).length)=(((at_ v_2 i.toNat).Items).length)∧∀i_,i_<(((at_ v_2 i.toNat).Items).length)→(fI ((at_ v_2 i.toNat).Items)) i_=(fI ((at_ v_2 i.toNat).Items)) i_∨(AV.idsL ((fI ((at_ v_2 i.toNat).Items)) i_)=[]∧leL (fun _=>none) false ((fI ((at_ v_2 i.toNat).Items)) i_) ((fI ((at_ v_2 i.toNat).Items)) i_)))∧True] hB ⟨⟨om,om⟩,⟨(Zds boxes_1 ((at_ v_2 i.toNat).Items) om),⟨(fun h=>by cases h),rfl,rfl,fun i _=> .inl rfl⟩,⟨(fun h=>by cases h),rfl,rfl,fun i _=> .inl rfl⟩,trivial⟩,trivial⟩ (Zae ?_)
    refine aQ [(1,.dec false),(10,.dec false),(20,.dec false)] [0,3,4,5,17,18,161] [105] [¬ (((Zia boxes_1 ((at_ v_2 i.toNat).Items)).2)≠0),(0:Int)≤i∧i<(v_2.length:Int),¬ ((((Zia boxes_1 ((at_ v_2 i.toNat).Items)).1).Y1)≠((at_ v_2 i.toNat).Top)),(0:Int)≤i∧i<(v_2.length:Int),¬ ((((Zia boxes_1 ((at_ v_2 i.toNat).Items)).1).Y2)≠((at_ v_2 i.toNat).Bottom))] hB ⟨(fun hq=>hq hbx.1),⟨om,om⟩,(fun hq=>hq hbx.2.1),⟨om,om⟩,(fun hq=>hq hbx.2.2),trivial⟩ (Zbc (Zam (Zab ?_)))
    refine aR [] [0,3,4,5,17,18,21] [105] [Zcu false code,Zag true boxes_1,I gap_1,Zan true v_2,.arr 105,I i,I 0] [some (tAB sn)] [] hB trivial (Zao ?_)
    refine Zbq (fun gn gσ=>∃(j:Int) (sn':List Bool),gn=(((at_ v_2 i.toNat).Items.length:Int)-j).toNat∧(0≤j∧j≤((at_ v_2 i.toNat).Items.length:Int))∧(Zvz boxes_1.length sn' (fl v_2 i.toNat j.toNat))∧gσ=mkS [(0,Zcu false code),(3,Zag true boxes_1),(4,I gap_1),(5,Zan true v_2),(17,.arr 105),(18,I i),(21,I j)] [(105,tAB sn')]) ((((at_ v_2 i.toNat).Items.length:Int)-0).toNat) ⟨0,sn,rfl,om,(by exact hsn),rfl⟩ (fun gn gσ hI=> ?_)
    obtain ⟨j,sn',rfl,hj0,hsn2,rfl⟩:=hI
    refine Zae (Zae ?_)
    by_cases h16:j<((((at_ v_2 i.toNat).Items).length):Int)
    ·have hj:j.toNat<(at_ v_2 i.toNat).Items.length:=by omega
     have hnj:(j+1).toNat=j.toNat+1:=by omega
     have hxr:=hln.2.1 _ (Zbf hj)
     have hxn:=sn_no hsn2 hxr (Zti hnd hi hj)
     have hsl2:=hsn2.1
     refine Zbm [(7,.dec true)] [0,3,4,5,17,18,21,169] [105] [(0:Int)≤i∧i<(v_2.length:Int),_] hB ⟨⟨om,om⟩,h16,trivial⟩ (Zab (Zbp (Zam (Zab (Zae (Zao ?_))))))
     refine aQ [] [0,3,4,5,17,18,21,22] [105] [(0:Int)≤i∧i<(v_2.length:Int),(0:Int)≤j∧j<((((at_ v_2 i.toNat).Items).length):Int)] hB ⟨⟨om,om⟩,⟨om,om⟩,trivial⟩ (Zae ?_)
     refine aQ [(1,.dec false),(6,.dec false),(12,.as (Bv false))] [0,3,4,5,17,18,21,22,193] [105] [¬ ((at_ ((at_ v_2 i.toNat).Items) j.toNat)<0),¬ ((boxes_1.length:Int)≤(at_ ((at_ v_2 i.toNat).Items) j.toNat)),(0:Int)≤(at_ ((at_ v_2 i.toNat).Items) j.toNat)∧(at_ ((at_ v_2 i.toNat).Items) j.toNat)<(sn'.length:Int),(at_ ((at_ v_2 i.toNat).Items) j.toNat).toNat<sn'.length∧List.drop 0 ((fB sn') ((at_ ((at_ v_2 i.toNat).Items) j.toNat).toNat))=[Bv false]] hB ⟨om,om,⟨om,om⟩,⟨om,(show [Bv (at_ sn' ((at_ ((at_ v_2 i.toNat).Items) j.toNat).toNat))]=[Bv false] from by rw [show (at_ sn' ((at_ ((at_ v_2 i.toNat).Items) j.toNat).toNat))=false from Bool.eq_false_iff.2 (by rw [hxn];decide)])⟩,trivial⟩ (Zbc (Zam (Zab ?_)))
     refine Zdk [] [0,3,4,5,17,18,21] [105] [Zcu false code,Zag true boxes_1,I gap_1,Zan true v_2,.arr 105,I i,I j] [some (.arr 1 sn'.length (fun q=>bif Nat.beq q ((at_ ((at_ v_2 i.toNat).Items) j.toNat).toNat) then [Bv true] else (fB sn') q))] [(0:Int)≤(at_ ((at_ v_2 i.toNat).Items) j.toNat)∧(at_ ((at_ v_2 i.toNat).Items) j.toNat)<(sn'.length:Int),(at_ ((at_ v_2 i.toNat).Items) j.toNat).toNat<sn'.length] hB ⟨⟨om,om⟩,om,trivial⟩ (Zay 3 (Zab ?_))
     refine Zdk [] [0,3,4,5,17,18,21] [105] [Zcu false code,Zag true boxes_1,I gap_1,Zan true v_2,.arr 105,I i,I (j+1)] [some (.arr 1 sn'.length (fun q=>bif Nat.beq q ((at_ ((at_ v_2 i.toNat).Items) j.toNat).toNat) then [Bv true] else (fB sn') q))] [inR .i64 (j+1)] hB ⟨(Zah om om),trivial⟩ ?_
     refine Zhf hB [] (T:=[(0,Zcu false code),(3,Zag true boxes_1),(4,I gap_1),(5,Zan true v_2),(17,.arr 105),(18,I i),(21,I (j+1))]) (O:=[(105,tAB (sn'.set ((at_ ((at_ v_2 i.toNat).Items) j.toNat).toNat) true))]) rfl (⟨.inl rfl,.inl rfl,.inl rfl,.inl rfl,.inl rfl,.inl rfl,.inl rfl,trivial⟩) (⟨.inr ⟨rfl,(by first|rfl|(simp;done)|(simp;omega)|omega),fun i_ hi_=> .inl (Zgn (enc:=cB) rfl i_ hi_)⟩,trivial⟩) (Zaz _ om ⟨(j+1),(sn'.set ((at_ ((at_ v_2 i.toNat).Items) j.toNat).toNat) true),rfl,om,(by rw [hnj,Zoc hj];exact Ztj hsn2 hxr),rfl⟩)
    have hje:j.toNat=(at_ v_2 i.toNat).Items.length:=by omega
    rw [hje,Zod hi] at hsn2
    refine Zbm [(7,.dec false)] [0,3,4,5,17,18,21,169] [105] [(0:Int)≤i∧i<(v_2.length:Int),_] hB ⟨⟨om,om⟩,h16,trivial⟩ (Zab (Zbc (Zbr (Zai (Zai (Zaq (Zay 1 (Zab ?_))))))))
    refine Zdk [] [0,3,4,5,17,18] [105] [Zcu false code,Zag true boxes_1,I gap_1,Zan true v_2,.arr 105,I (i+1)] [some (tAB sn')] [inR .i64 (i+1)] hB ⟨(Zah om om),trivial⟩ ?_
    exact Zaz _ om ⟨(i+1),sn',rfl,om,(by rw [hnx];exact hsn2),rfl⟩
   have hie:i.toNat=v_2.length:=by omega
   rw [hie,fl_end] at hsn
   have hsl:=hsn.1
   refine Zbm [(3,.dec false)] [0,3,4,5,17,18,109] [105] [_] hB ⟨h13,trivial⟩ (Zab (Zbc (Zbr (Zai (Zai (Zaq (Zab (Zae ?_))))))))
   refine aR [] [0,3,4,5,17,23] [105] [Zcu false code,Zag true boxes_1,I gap_1,Zan true v_2,.arr 105,I 0] [some (tAB sn)] [] hB trivial (Zao ?_)
   refine Zbq (fun gn gσ=>∃(i':Int),gn=((boxes_1.length:Int)-i').toNat∧(0≤i'∧i'≤(boxes_1.length:Int))∧gσ=mkS [(0,Zcu false code),(3,Zag true boxes_1),(4,I gap_1),(5,Zan true v_2),(17,.arr 105),(23,I i')] [(105,tAB sn)]) (((boxes_1.length:Int)-0).toNat) ⟨0,rfl,om,rfl⟩ (fun gn gσ hI=> ?_)
   obtain ⟨i',rfl,hi2a,rfl⟩:=hI
   refine Zae (Zae ?_)
   by_cases h17:i'<(sn.length:Int)
   ·have hi2:i'.toNat<boxes_1.length:=by omega
    have hse:=sn_all hsn hok.2.2 hi2
    refine Zbm [(3,.dec true)] [0,3,4,5,17,23,200] [105] [_] hB ⟨h17,trivial⟩ (Zab (Zbp (Zam (Zab (Zae (Zao ?_))))))
    refine aQ [(3,.as (Bv true))] [0,3,4,5,17,23,207] [105] [(0:Int)≤i'∧i'<(sn.length:Int),i'.toNat<sn.length∧List.drop 0 ((fB sn) i'.toNat)=[Bv true]] hB ⟨⟨om,om⟩,⟨om,(show [Bv (at_ sn i'.toNat)]=[Bv true] from by rw [show (at_ sn i'.toNat)=true from hse])⟩,trivial⟩ (Zbc (Zam (Zay 5 (Zab ?_))))
    refine Zdk [] [0,3,4,5,17,23] [105] [Zcu false code,Zag true boxes_1,I gap_1,Zan true v_2,.arr 105,I (i'+1)] [some (tAB sn)] [inR .i64 (i'+1)] hB ⟨(Zah om om),trivial⟩ ?_
    exact Zaz _ om ⟨(i'+1),rfl,om,rfl⟩
   refine Zbm [(3,.dec false)] [0,3,4,5,17,23,200] [105] [_] hB ⟨h17,trivial⟩ (Zab (Zbc (Zbr (Zai (Zai (Zaq (Zab (Zae ?_))))))))
   obtain ⟨d'_10,hx10_0,hc10⟩:=Zqb code 1901 (by assumption) om
   refine Zbm [(1,.lend [] [(7002,Zaw d'_10)] [(true,.any),(true,.any)] false (.ref 7002 0))] [3,4,5,24] [7002] [Zap Try.prog 17 [Zcu false code,.val (.int .u64 1901)] (Zac []) false (.ref 7002 0) (Zac [(7002,Zaw d'_10)])∧True] hB ⟨⟨hc10,trivial⟩,trivial⟩ (Zab (Zae ?_))
   obtain ⟨v_11,d'_11,hx11_0,hx11_1,hc11⟩:=Zkq d'_10 50 (by assumption) om
   have hbw_v_11:=hx11_0
   refine Zbm [(1,.lend [(7002,Zaw d'_10,Zaw d'_11)] [] [(true,.any),(true,.any)] true (I v_11))] [3,4,5,24,25] [7002] [Zap Try.prog 18 [.ref 7002 0,I 50] (Zac [(7002,Zaw d'_10)]) true (I v_11) (Zac [(7002,Zaw d'_11)])∧(((Zaw d'_10:Ob)=Zaw d'_10∨Zdt Zdh true (Zaw d'_10) (Zaw d'_10))∧Zal false (Zaw d'_10))∧True] hB ⟨⟨hc11,⟨.inl rfl,(by simp [Zal,Zaf,Zaj,Zcc])⟩,trivial⟩,trivial⟩ (Zab (Zae ?_))
   obtain ⟨v_12,d'_12,hx12_0,hx12_1,hc12⟩:=Zkq d'_11 50 (by assumption) om
   have hbw_v_12:=hx12_0
   refine Zdk [(1,.lend [(7002,Zaw d'_11,Zaw d'_12)] [] [(true,.any),(true,.any)] true (I v_12))] [3,4,5,25,26] [] [Zag true boxes_1,I gap_1,Zan true v_2,I v_11,I v_12] [] [Zap Try.prog 18 [.ref 7002 0,I 50] (Zac [(7002,Zaw d'_11)]) true (I v_12) (Zac [(7002,Zaw d'_12)])∧(((Zaw d'_11:Ob)=Zaw d'_11∨Zdt Zdh true (Zaw d'_11) (Zaw d'_11))∧Zal false (Zaw d'_11))∧True] hB ⟨⟨hc12,⟨.inl rfl,(by simp [Zal,Zaf,Zaj,Zcc])⟩,trivial⟩,trivial⟩ (Zab ?_)
   refine aQ [(0,.new 214)] [3,4,5,25,26,27] [214] [] hB trivial (Zae ?_)
   refine aR [] [3,4,5,25,26,27,28] [214] [Zag true boxes_1,I gap_1,Zan true v_2,I v_11,I v_12,.arr 214,I 0] [some (.arr 4 0 (Zfu [] 4))] [] hB trivial (Zao ?_)
   refine Zih hB [] (T:=[(3,Zag true boxes_1),(4,I gap_1),(5,Zan true v_2),(25,I v_11),(26,I v_12),(27,.arr 214),(28,I 0)]) (O:=[(214,Zfd ([]:List Box))]) rfl (⟨.inl rfl,.inl rfl,.inl rfl,.inl rfl,.inl rfl,.inl rfl,.inl rfl,trivial⟩) (⟨.inr ⟨rfl,(by first|rfl|(simp;done)|(simp;omega)|omega),fun i_ hi_=>absurd hi_ (Nat.not_lt_zero _)⟩,trivial⟩) ?_
   refine Zbq (fun gn gσ=>∃(mv:List Box) (i'':Int),gn=((boxes_1.length:Int)-i'').toNat∧(0≤i''∧i''≤(boxes_1.length:Int))∧(mv=(boxes_1.take i''.toNat).map (mvB v_11 v_12))∧gσ=mkS [(3,Zag true boxes_1),(4,I gap_1),(5,Zan true v_2),(25,I v_11),(26,I v_12),(27,.arr 214),(28,I i'')] [(214,Zfd mv)]) (((boxes_1.length:Int)-0).toNat) ⟨([]:List Box),0,rfl,om,(by rfl),rfl⟩ (fun gn gσ hI=> ?_)
   obtain ⟨mv,i'',rfl,hi3a,hmv,rfl⟩:=hI
   refine Zae (Zae ?_)
   by_cases h18:i''<(boxes_1.length:Int)
   ·have hi3:i''.toNat<boxes_1.length:=by omega
    have hnx:(i''+1).toNat=i''.toNat+1:=by omega
    have hb3:=Zgo hp hi3
    have hml:mv.length=i''.toNat:=by rw [hmv,List.length_map,List.length_take];omega
    refine Zbm [(3,.dec true)] [3,4,5,25,26,27,28,218] [214] [_] hB ⟨h18,trivial⟩ (Zab (Zbp (Zam (Zab (Zae (Zao ?_))))))
    refine Zbm [(30,.new 251),(31,.new 252)] [3,4,5,25,26,27,28] [252] [(0:Int)≤i''∧i''<(boxes_1.length:Int),inR .i64 (((at_ boxes_1 i''.toNat).X1)+v_11),(0:Int)≤i''∧i''<(boxes_1.length:Int),inR .i64 (((at_ boxes_1 i''.toNat).Y1)+v_12),(0:Int)≤i''∧i''<(boxes_1.length:Int),inR .i64 (((at_ boxes_1 i''.toNat).X2)+v_11),(0:Int)≤i''∧i''<(boxes_1.length:Int),inR .i64 (((at_ boxes_1 i''.toNat).Y2)+v_12),(mv.length+1)*32≤140737488355328] hB ⟨⟨om,om⟩,(Zah om om),⟨om,om⟩,(Zah om om),⟨om,om⟩,(Zah om om),⟨om,om⟩,(Zah om om),om,trivial⟩ (Zay 7 (Zab ?_))
    refine Zdk [] [3,4,5,25,26,27,28] [252] [Zag true boxes_1,I gap_1,Zan true v_2,I v_11,I v_12,.arr 252,I (i''+1)] [some (.arr 4 (mv.length+1) (Zgd mv.length (Zdi mv) (Zfu [I (((at_ boxes_1 i''.toNat).X1)+v_11),I (((at_ boxes_1 i''.toNat).Y1)+v_12),I (((at_ boxes_1 i''.toNat).X2)+v_11),I (((at_ boxes_1 i''.toNat).Y2)+v_12)] 4)))] [inR .i64 (i''+1)] hB ⟨(Zah om om),trivial⟩ ?_
    refine Zhf hB [(214,252)] (T:=[(3,Zag true boxes_1),(4,I gap_1),(5,Zan true v_2),(25,I v_11),(26,I v_12),(27,.arr 214),(28,I (i''+1))]) (O:=[(214,Zfd (mv++[(Box.mk (((at_ boxes_1 i''.toNat).X1)+v_11) (((at_ boxes_1 i''.toNat).Y1)+v_12) (((at_ boxes_1 i''.toNat).X2)+v_11) (((at_ boxes_1 i''.toNat).Y2)+v_12))]))]) rfl (⟨.inl rfl,.inl rfl,.inl rfl,.inl rfl,.inl rfl,.inl rfl,.inl rfl,trivial⟩) (⟨.inr ⟨rfl,(by first|rfl|(simp;done)|(simp;omega)|omega),fun i_ hi_=> .inl (Zeg (enc:=Zmo) (xs:=mv) rfl i_ hi_)⟩,trivial⟩) (Zaz _ om ⟨(mv++[(Box.mk (((at_ boxes_1 i''.toNat).X1)+v_11) (((at_ boxes_1 i''.toNat).Y1)+v_12) (((at_ boxes_1 i''.toNat).X2)+v_11) (((at_ boxes_1 i''.toNat).Y2)+v_12))]),(i''+1),rfl,om,(by rw [hnx,Zwa hi3,←hmv];rfl),rfl⟩)
   rw [show i''.toNat=boxes_1.length from by omega,List.take_length] at hmv
   refine Zbm [(3,.dec false)] [3,4,5,25,26,27,28,218] [214] [_] hB ⟨h18,trivial⟩ (Zab (Zbc (Zbr (Zai (Zai (Zaq (Zab (Zae ?_))))))))
   obtain ⟨v_13,c_13,hx13_0,hc13⟩:=Zfy mv gap_1 (fun _=>by rw [hmv];exact sm_mv (Ztf hsd hp))
   have hv13:v_13=(Zcm mv gap_1).1:=congrArg Prod.fst hx13_0
   have hk13:c_13=(Zcm mv gap_1).2:=congrArg Prod.snd hx13_0
   refine Zbm [(2,.call [(false,Zag false mv),(true,.any)] true (.tup [Zan true v_13,I c_13]))] [5,26,29,30] [] [_∧((false=true→true=true)∧4=4∧mv.length=mv.length∧∀i_,i_<mv.length→(Zdi mv) i_=(Zdi mv) i_∨(AV.idsL ((Zdi mv) i_)=[]∧leL (fun _=>none) false ((Zdi mv) i_) ((Zdi mv) i_)))∧True] hB ⟨⟨hc13,⟨(fun h=>by cases h),rfl,rfl,fun i _=> .inl rfl⟩,trivial⟩,trivial⟩ (Zab (Zae (Zae ?_)))
   by_cases h19:c_13=0
   ·have hlr7:=Zob (bs:=mv) (gap:=gap_1) (by rw [←hk13];exact h19)
    have hV7:v_13=v_2.map (shl v_12):=by rw [hv13,hlr7.2.2,hmv,Zwb hp,hL]
    have hl7:v_13.length=v_2.length:=by rw [hV7,List.length_map]
    refine Zbm [(1,.dec false)] [5,26,29,30,260] [] [¬ (c_13≠0)] hB ⟨(fun hq=>hq h19),trivial⟩ (Zab (Zbc (Zam (Zab (Zae ?_)))))
    refine aR [(4,.dec false)] [5,26,29,267] [] [Zan true v_2,I v_12,Zan true v_13,Bv false] [] [¬ ((v_13.length:Int)≠(v_2.length:Int))] hB ⟨(fun hq=>hq om),trivial⟩ (Zdc rfl (Zam (Zab (Zae ?_))))
    refine aR [] [5,26,29,31] [] [Zan true v_2,I v_12,Zan true v_13,I 0] [] [] hB trivial (Zao ?_)
    refine Zbq (fun gn gσ=>∃(i''':Int),gn=((v_2.length:Int)-i''').toNat∧(0≤i'''∧i'''≤(v_2.length:Int))∧gσ=mkS [(5,Zan true v_2),(26,I v_12),(29,Zan true v_13),(31,I i''')] []) (((v_2.length:Int)-0).toNat) ⟨0,rfl,om,rfl⟩ (fun gn gσ hI=> ?_)
    obtain ⟨i''',rfl,hi4a,rfl⟩:=hI
    refine Zae (Zae ?_)
    by_cases h20:i'''<(v_2.length:Int)
    ·have hi4:i'''.toNat<v_2.length:=by omega
     have hat:at_ v_13 i'''.toNat=shl v_12 (at_ v_2 i'''.toNat):=by rw [hV7];exact Zid hi4
     have hln4:=(hnn.1 _ (Zbf hi4)).2.2
     refine Zbm [(3,.dec true)] [5,26,29,31,271] [] [_] hB ⟨h20,trivial⟩ (Zab (Zbp (Zam (Zab (Zae (Zao ?_))))))
     refine aQ [(12,.dec false),(24,.call [(false,slI false ((at_ v_13 i'''.toNat).Items)),(false,slI false ((at_ v_2 i'''.toNat).Items))] true (Bv true))] [5,26,29,31,300] [] [(0:Int)≤i'''∧i'''<(v_13.length:Int),(0:Int)≤i'''∧i'''<(v_2.length:Int),inR .i64 (((at_ v_2 i'''.toNat).Top)+v_12),¬ (((at_ v_13 i'''.toNat).Top)≠(((at_ v_2 i'''.toNat).Top)+v_12)),(0:Int)≤i'''∧i'''<(v_13.length:Int),(0:Int)≤i'''∧i'''<(v_2.length:Int),Con Try.prog 19 [slI false ((at_ v_13 i'''.toNat).Items),slI false ((at_ v_2 i'''.toNat).Items)] true (Bv true)∧((false=true→true=true)∧1=1∧(((at_ v_13 i'''.toNat).Items).length)=(((at_ v_13 i'''.toNat).Items).length)∧∀i_,i_<(((at_ v_13 i'''.toNat).Items).length)→(fI ((at_ v_13 i'''.toNat).Items)) i_=(fI ((at_ v_13 i'''.toNat).Items)) i_∨(AV.idsL ((fI ((at_ v_13 i'''.toNat).Items)) i_)=[]∧leL (fun _=>none) false ((fI ((at_ v_13 i'''.toNat).Items)) i_) ((fI ((at_ v_13 i'''.toNat).Items)) i_)))∧((false=true→true=true)∧1=1∧(((at_ v_2 i'''.toNat).Items).length)=(((at_ v_2 i'''.toNat).Items).length)∧∀i_,i_<(((at_ v_2 i'''.toNat).Items).length)→(fI ((at_ v_2 i'''.toNat).Items)) i_=(fI ((at_ v_2 i'''.toNat).Items)) i_∨(AV.idsL ((fI ((at_ v_2 i'''.toNat).Items)) i_)=[]∧leL (fun _=>none) false ((fI ((at_ v_2 i'''.toNat).Items)) i_) ((fI ((at_ v_2 i'''.toNat).Items)) i_)))∧True] hB ⟨⟨om,om⟩,⟨om,om⟩,(Zah om om),(fun hq=>hq (by rw [hat];rfl)),⟨om,om⟩,⟨om,om⟩,⟨(Zas (by rw [hat];exact Zjs _) (Zqc ((at_ v_13 i'''.toNat).Items) ((at_ v_2 i'''.toNat).Items))),⟨(fun h=>by cases h),rfl,rfl,fun i _=> .inl rfl⟩,⟨(fun h=>by cases h),rfl,rfl,fun i _=> .inl rfl⟩,trivial⟩,trivial⟩ (Zbc (Zam (Zay 9 (Zab ?_))))
     refine Zdk [] [5,26,29,31] [] [Zan true v_2,I v_12,Zan true v_13,I (i'''+1)] [] [inR .i64 (i'''+1)] hB ⟨(Zah om om),trivial⟩ ?_
     exact Zaz _ om ⟨(i'''+1),rfl,om,rfl⟩
    refine Zbm [(3,.dec false)] [5,26,29,31,271] [] [_] hB ⟨h20,trivial⟩ (Zab (Zbc (Zbr (Zai (Zai (Zaq (Zab ?_)))))))
    refine aR [] [2] [] [Bv true] [] [] hB trivial (Zav ?_)
    refine Zat hB (Bv true) (by kernel_rfl) (.inl rfl) rfl (fun _=>trivial)
   have hone:c_13=1:=by rw [hk13];exact Ztk hlr.2.1 (by rw [←hk13];exact h19)
   refine Zbm [(1,.dec true)] [5,26,29,30,260] [] [_] hB ⟨h19,trivial⟩ (Zab (Zbp ?_))
   refine aR [] [2] [] [Bv (decide (c_13=1))] [] [] hB trivial (Zav (Zak ?_))
   refine Zat hB (Bv (decide (c_13=1))) (by kernel_rfl) (.inl (by first|rfl|(refine congrArg Bv ?_;exact decide_eq_true hone))) rfl (fun _=>trivial)
  refine Zbm [(1,.dec true)] [0,3,4,5,102] [] [_] hB ⟨h12,trivial⟩ (Zab (Zbp ?_))
  refine aR [] [2] [] [Bv true] [] [] hB trivial (Zav (Zak ?_))
  refine Zat hB (Bv true) (by kernel_rfl) (.inl rfl) rfl (fun _=>trivial)
theorem Zwc:Ztl Try.prog 22 (cLU8 false) (fun xs=>∀y∈xs,inR .u8 y):=
 Zqd (c:=cU8) (sz:=1) Try.underlying22 (by kernel_rfl) (by decide) (fun x=>⟨rfl,by simp [Zml,cU8]⟩) (Zux Try.underlying5)
namespace fnLines
set_option maxRecDepth 100000 in
theorem lifted (os:Os) (started:os.Started) (H:Type) (enc:TypeId×Value→H):
  ReturnsInHanded {} Try.checked os 3 .any (Rows.fnLinesSpec.pre6 enc Try.prog Try.f3 Rows.fnLinesRow.domain false) (Rows.fnLinesSpec.post enc Try.prog Try.f3 false true false false):=by
 refine returnsInHanded_of_change_shaped (C:=Try.checked) Try.own started (by kernel_rfl) Try.func3
  (ChangeSpec.witness6 (enc:=enc) (C:=Try.checked) false ⟨#[],#[.slice none 0 0],[]⟩ 8 (by kernel_rfl) (by kernel_rfl) (by kernel_rfl) (by kernel_rfl)) ?_
 intro W base args ds gs before hval0 hW hcnd hsz hshp _
 have hW':=hW
 obtain ⟨p,q,hA0,hV,rfl,hfz,hnd⟩:=hW
 have hval:∀(j:Nat) t v,Try.f3.params[j]? =some t→args[j]? =some v→Value.okWide Try.prog W .any base t v:=hval0
 have hA:DataW.TrodAll enc Try.prog W 0 (fun _=>true) true Try.f3.params.toList args.toList ds p:=hA0
 rw [Try.params3] at hA hval
 obtain ⟨v0,vs0,d0,ds0,p0,q0,hargs,rfl,rfl,h0,r0⟩:=trodAll_cons hA
 obtain ⟨rfl,rfl,rfl⟩:=trodAll_nil r0
 obtain rfl:args=#[v0]:=args_eq hargs
 obtain ⟨rfl,rfl⟩:=trodVars_none hV
 obtain ⟨fuel0,hf0⟩:=h0
 obtain ⟨A0,l0,c0,rfl⟩:=okWide_slice Try.underlying22 (hval 0 22 v0 rfl rfl)
 obtain ⟨x0,rx0,ok0⟩:=(Zwc) enc W 0 _ _ _ _ _ hf0
 refine (walk_of0 (Zrw x0 ok0) (fun w _=>WX_free w) (RelTL.cons (Zwd rx0) RelTL.nil)).mono fun e W1 ⟨he,hb⟩=> ?_
 subst he
 exact ⟨_,rfl,law_post Try.laidOut rfl Try.underlying4 (of_decide_eq_true (by kernel_rfl)) rfl hW' hb rfl⟩
theorem jf0:(Rows.fnLinesRow.inPlace==Try.pinned.checked.prog.inPlace 3)=true:=by kernel_rfl
theorem jf1:(Rows.fnLinesRow.unfollowed==Try.pinned.checked.prog.unfollowed 3)=true:=by kernel_rfl
theorem jf2:(Rows.fnLinesRow.recurses==Try.pinned.checked.prog.recurses 3)=true:=by kernel_rfl
theorem jf3:(Rows.fnLinesRow.named==Try.pinned.checked.prog.varsNamed 3)=true:=by kernel_rfl
theorem jf:joinedFacts Try.pinned.checked.prog 3 Try.f3 Rows.fnLinesSpec Rows.fnLinesRow=true:=by
 unfold joinedFacts
 rw [jf0,jf1,jf2,jf3]
 kernel_rfl
theorem over:Rows.fnLinesRow.holds Try.pinned (OpenSpec.ofChange Rows.fnLinesSpec):=
 OpenClaim.holds_of_wide 3 Try.f3 rfl rfl rfl rfl rfl rfl rfl ⟨rfl,rfl,rfl,rfl,rfl⟩ rfl rfl rfl rfl rfl (by kernel_rfl) Try.func3 jf
  (of_decide_eq_true (by kernel_rfl)) (by unfold Func.isWrapper;first|(rw [if_pos (by decide+kernel)];kernel_rfl)|(rw [if_neg (by decide+kernel)];exact ⟨rfl,rfl⟩))
  (fun os started H enc _=>lifted os started H enc)
theorem proved:Rows.FnLinesSaid:=
 over
#print axioms proved
end fnLines
end Go.Proofs.Ytfafngbbaplknaa.Ax
