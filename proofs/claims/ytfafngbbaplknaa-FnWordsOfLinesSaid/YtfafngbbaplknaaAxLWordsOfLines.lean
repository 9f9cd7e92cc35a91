/- The statement FnWordsOfLines: contracts of what it reaches, and its proof. No conditions. -/
import Derived.Test.YtfafngbbaplknaaAxLWordsOfLines3
import Derived.Test.YtfafngbbaplknaaAxR
import Derived.Test.YtfafngbbaplknaaAxRS
import Derived.Test.YtfafngbbaplknaaAxS
import Derived.Test.YtfafngbbaplknaaAxY
namespace Go.Proofs.Ytfafngbbaplknaa.Ax
open Go.RowKit Go.ChangeShapes Go.WideShapes
set_option linter.unusedVariables false
set_option linter.unusedSimpArgs false
theorem Zik (code:List Int) (ok_code:∀y∈code,inR .u8 y):Con Try.prog 4 [Zii false code] true (Bv true):=by
  refine Zda (fn:=Try.f4) (nt:=185) Try.func4 rfl rfl rfl rfl (by simp [Zag,Zah,Zct]) fun B hB=> ?_
  refine Zbt (x:=Zii false code) 0 rfl (fun len_code=> ?_)
  simp [Zdb,Zfv,cU8,fU8,Zii] at len_code
  refine aQ [] [0] [] [] hB trivial (Zai (Zai ?_))
  rcases Bool.eq_false_or_eq_true (decide (4096<(code.length:Int))) with h1|h1
  ·refine Zbz [(1,.call [(true,.any)] true (Bv true))] [0,27] [] [Con Try.prog 5 [Zii false code] true (Bv true)∧True] hB ⟨⟨(Zak h1 (Zte code)),trivial⟩,trivial⟩ (Zad (Zcf ?_))
   refine aR [] [2] [] [Bv true] [] [] hB trivial (Zaz (Zal ?_))
   refine Zax hB (Bv true) (by kernel_rfl) (.inl rfl) rfl (fun _=>trivial)
  have hc:(∀j,j<code.length→0≤at_ code j∧at_ code j≤255)∧code.length≤4611686018427387904:=⟨fun j hj=>ok_code _ (Zbj hj),by first|omega|(simp at h1;omega)⟩
  refine Zbz [(1,.call [(true,.any)] true (Bv false))] [0,27] [] [Con Try.prog 5 [Zii false code] true (Bv false)∧True] hB ⟨⟨(Zak h1 (Zte code)),trivial⟩,trivial⟩ (Zad (Zbw (Zaq (Zad (Zai ?_)))))
  obtain ⟨boxes_1,items_1,gap_1,hx1_0,hx1_1,hc1⟩:=Zht code (by assumption)
  have hb1:=hx1_0
  have hb2:=hx1_1
  refine Zbz [(1,.call [(true,.any)] true (.tup [Zae true boxes_1,slI true items_1,I gap_1]))] [0,3,4,5] [] [_∧True] hB ⟨⟨hc1,trivial⟩,trivial⟩ (Zad (Zai ?_))
  obtain ⟨v_2,c_2,hx2_0,hc2⟩:=Zil boxes_1 items_1 gap_1 om
  have hvw:v_2=(Zki boxes_1 items_1 gap_1).1:=congrArg Prod.fst hx2_0
  have hkw:c_2=(Zki boxes_1 items_1 gap_1).2:=congrArg Prod.snd hx2_0
  refine Zbz [(3,.call [(false,Zae false boxes_1),(false,slI false items_1),(true,.any)] true (.tup [Zcx true v_2,I c_2]))] [0,3,4,5,6,7] [] [_∧((false=true→true=true)∧4=4∧boxes_1.length=boxes_1.length∧∀i_,i_<boxes_1.length→(Zdr boxes_1) i_=(Zdr boxes_1) i_∨(AV.idsL ((Zdr boxes_1) i_)=[]∧leL (fun _=>none) false ((Zdr boxes_1) i_) ((Zdr boxes_1) i_)))∧((false=true→true=true)∧1=1∧items_1.length=items_1.length∧∀i_,i_<items_1.length→(fI items_1) i_=(fI items_1) i_∨(AV.idsL ((fI items_1) i_)=[]∧leL (fun _=>none) false ((fI items_1) i_) ((fI items_1) i_)))∧True] hB ⟨⟨hc2,⟨(fun h=>by cases h),rfl,rfl,fun i _=> .inl rfl⟩,⟨(fun h=>by cases h),rfl,rfl,fun i _=> .inl rfl⟩,trivial⟩,trivial⟩ (Zad (Zai ?_))
  obtain ⟨v_3,c_3,hx3_0,hc3⟩:=Zim boxes_1 items_1 gap_1 om
  have hww:v_2=v_3:=hvw.trans (congrArg Prod.fst hx3_0).symm
  have hcw:c_2=c_3:=hkw.trans (congrArg Prod.snd hx3_0).symm
  refine Zei [(3,.call [(false,Zae false boxes_1),(false,slI false items_1),(true,.any)] true (.tup [Zcx true v_3,I c_3]))] [0,3,4,5,6,7,8,9] [] [Zii false code,Zae true boxes_1,slI true items_1,I gap_1,Zcx true v_2,I c_2,Zcx true v_3,I c_3] [] [_∧((false=true→true=true)∧4=4∧boxes_1.length=boxes_1.length∧∀i_,i_<boxes_1.length→(Zdr boxes_1) i_=(Zdr boxes_1) i_∨(AV.idsL ((Zdr boxes_1) i_)=[]∧leL (fun _=>none) false ((Zdr boxes_1) i_) ((Zdr boxes_1) i_)))∧((false=true→true=true)∧1=1∧items_1.length=items_1.length∧∀i_,i_<items_1.length→(fI items_1) i_=(fI items_1) i_∨(AV.idsL ((fI items_1) i_)=[]∧leL (fun _=>none) false ((fI items_1) i_) ((fI items_1) i_)))∧True] hB ⟨⟨hc3,⟨(fun h=>by cases h),rfl,rfl,fun i _=> .inl rfl⟩,⟨(fun h=>by cases h),rfl,rfl,fun i _=> .inl rfl⟩,trivial⟩,trivial⟩ (Zad (Zai ?_))
  obtain ⟨v_4,c_4,hx4_0,hc4⟩:=Zoc boxes_1 items_1 om
  have hvg:v_4=(Znd boxes_1 items_1).1:=congrArg Prod.fst hx4_0
  have hkg:c_4=(Znd boxes_1 items_1).2:=congrArg Prod.snd hx4_0
  refine Zbz [(2,.call [(false,Zae false boxes_1),(false,slI false items_1)] true (.tup [slI true v_4,I c_4]))] [0,3,4,5,6,7,8,9,10,11] [] [_∧((false=true→true=true)∧4=4∧boxes_1.length=boxes_1.length∧∀i_,i_<boxes_1.length→(Zdr boxes_1) i_=(Zdr boxes_1) i_∨(AV.idsL ((Zdr boxes_1) i_)=[]∧leL (fun _=>none) false ((Zdr boxes_1) i_) ((Zdr boxes_1) i_)))∧((false=true→true=true)∧1=1∧items_1.length=items_1.length∧∀i_,i_<items_1.length→(fI items_1) i_=(fI items_1) i_∨(AV.idsL ((fI items_1) i_)=[]∧leL (fun _=>none) false ((fI items_1) i_) ((fI items_1) i_)))∧True] hB ⟨⟨hc4,⟨(fun h=>by cases h),rfl,rfl,fun i _=> .inl rfl⟩,⟨(fun h=>by cases h),rfl,rfl,fun i _=> .inl rfl⟩,trivial⟩,trivial⟩ (Zad (Zai ?_))
  obtain ⟨v_5,c_5,hx5_0,hc5⟩:=Zod boxes_1 items_1 om
  have hwg:v_4=v_5:=hvg.trans (congrArg Prod.fst hx5_0).symm
  have hcg:c_4=c_5:=hkg.trans (congrArg Prod.snd hx5_0).symm
  refine Zbz [(2,.call [(false,Zae false boxes_1),(false,slI false items_1)] true (.tup [slI true v_5,I c_5]))] [0,4,5,6,7,8,9,10,11,12,13] [] [_∧((false=true→true=true)∧4=4∧boxes_1.length=boxes_1.length∧∀i_,i_<boxes_1.length→(Zdr boxes_1) i_=(Zdr boxes_1) i_∨(AV.idsL ((Zdr boxes_1) i_)=[]∧leL (fun _=>none) false ((Zdr boxes_1) i_) ((Zdr boxes_1) i_)))∧((false=true→true=true)∧1=1∧items_1.length=items_1.length∧∀i_,i_<items_1.length→(fI items_1) i_=(fI items_1) i_∨(AV.idsL ((fI items_1) i_)=[]∧leL (fun _=>none) false ((fI items_1) i_) ((fI items_1) i_)))∧True] hB ⟨⟨hc5,⟨(fun h=>by cases h),rfl,rfl,fun i _=> .inl rfl⟩,⟨(fun h=>by cases h),rfl,rfl,fun i _=> .inl rfl⟩,trivial⟩,trivial⟩ (Zad (Zai ?_))
  obtain ⟨boxes_6,lg_6,wg_6,hx6_0,hx6_1,hc6⟩:=Zhl code (by assumption)
  have hsd:smD boxes_6:=hx6_1
  refine Zbz [(1,.call [(true,.any)] true (.tup [Zae true boxes_6,I lg_6,I wg_6]))] [4,5,6,7,8,9,10,11,12,13,14,15,16] [] [_∧True] hB ⟨⟨hc6,trivial⟩,trivial⟩ (Zad (Zai ?_))
  obtain ⟨v_7,c_7,hx7_0,hc7⟩:=Zhu boxes_6 lg_6 wg_6 (fun h=>smD_ok hsd h)
  have hvo:v_7=(Zjm boxes_6 lg_6 wg_6).1:=congrArg Prod.fst hx7_0
  have hko:c_7=(Zjm boxes_6 lg_6 wg_6).2:=congrArg Prod.snd hx7_0
  refine Zei [(3,.call [(false,Zae false boxes_6),(true,.any),(true,.any)] true (.tup [Zcx true v_7,I c_7]))] [4,5,6,7,8,9,10,11,12,13,14,15,16,17,18] [] [slI true items_1,I gap_1,Zcx true v_2,I c_2,Zcx true v_3,I c_3,slI true v_4,I c_4,slI true v_5,I c_5,Zae true boxes_6,I lg_6,I wg_6,Zcx true v_7,I c_7] [] [_∧((false=true→true=true)∧4=4∧boxes_6.length=boxes_6.length∧∀i_,i_<boxes_6.length→(Zdr boxes_6) i_=(Zdr boxes_6) i_∨(AV.idsL ((Zdr boxes_6) i_)=[]∧leL (fun _=>none) false ((Zdr boxes_6) i_) ((Zdr boxes_6) i_)))∧True] hB ⟨⟨hc7,⟨(fun h=>by cases h),rfl,rfl,fun i _=> .inl rfl⟩,trivial⟩,trivial⟩ (Zad (Zai ?_))
  obtain ⟨v_8,c_8,hx8_0,hc8⟩:=Zhv boxes_6 lg_6 wg_6 (fun h=>smD_ok hsd h)
  have hwo:v_7=v_8:=hvo.trans (congrArg Prod.fst hx8_0).symm
  have hco:c_7=c_8:=hko.trans (congrArg Prod.snd hx8_0).symm
  refine Zbz [(3,.call [(false,Zae false boxes_6),(true,.any),(true,.any)] true (.tup [Zcx true v_8,I c_8]))] [4,5,6,7,8,9,10,11,12,13,14,17,18,19,20] [] [_∧((false=true→true=true)∧4=4∧boxes_6.length=boxes_6.length∧∀i_,i_<boxes_6.length→(Zdr boxes_6) i_=(Zdr boxes_6) i_∨(AV.idsL ((Zdr boxes_6) i_)=[]∧leL (fun _=>none) false ((Zdr boxes_6) i_) ((Zdr boxes_6) i_)))∧True] hB ⟨⟨hc8,⟨(fun h=>by cases h),rfl,rfl,fun i _=> .inl rfl⟩,trivial⟩,trivial⟩ (Zad (Zai ?_))
  refine aQ [(2,.dec false),(6,.call [(false,Zcx false v_2),(false,Zcx false v_3)] true (Bv true)),(12,.dec false),(17,.call [(false,slI false v_4),(false,slI false v_5)] true (Bv true)),(23,.dec false),(28,.call [(false,Zcx false v_7),(false,Zcx false v_8)] true (Bv true))] [4,5,6,7,10,14,17,18,110] [] [¬ (c_2≠c_3),Con Try.prog 28 [Zcx false v_2,Zcx false v_3] true (Bv true)∧((false=true→true=true)∧1=1∧v_2.length=v_2.length∧∀i_,i_<v_2.length→(fLI true v_2) i_=(fLI false v_2) i_∨(AV.idsL ((fLI false v_2) i_)=[]∧leL (fun _=>none) false ((fLI true v_2) i_) ((fLI false v_2) i_)))∧((false=true→true=true)∧1=1∧v_3.length=v_3.length∧∀i_,i_<v_3.length→(fLI true v_3) i_=(fLI false v_3) i_∨(AV.idsL ((fLI false v_3) i_)=[]∧leL (fun _=>none) false ((fLI true v_3) i_) ((fLI false v_3) i_)))∧True,¬ (c_4≠c_5),Con Try.prog 19 [slI false v_4,slI false v_5] true (Bv true)∧((false=true→true=true)∧1=1∧v_4.length=v_4.length∧∀i_,i_<v_4.length→(fI v_4) i_=(fI v_4) i_∨(AV.idsL ((fI v_4) i_)=[]∧leL (fun _=>none) false ((fI v_4) i_) ((fI v_4) i_)))∧((false=true→true=true)∧1=1∧v_5.length=v_5.length∧∀i_,i_<v_5.length→(fI v_5) i_=(fI v_5) i_∨(AV.idsL ((fI v_5) i_)=[]∧leL (fun _=>none) false ((fI v_5) i_) ((fI v_5) i_)))∧True,¬ (c_7≠c_8),Con Try.prog 28 [Zcx false v_7,Zcx false v_8] true (Bv true)∧((false=true→true=true)∧1=1∧v_7.length=v_7.length∧∀i_,i_<v_7.length→(fLI true v_7) i_=(fLI false v_7) i_∨(AV.idsL ((fLI false v_7) i_)=[]∧leL (fun _=>none) false ((fLI true v_7) i_) ((fLI false v_7) i_)))∧((false=true→true=true)∧1=1∧v_8.length=v_8.length∧∀i_,i_<v_8.length→(fLI true v_8) i_=(fLI false v_8) i_∨(AV.idsL ((fLI false v_8) i_)=[]∧leL (fun _=>none) false ((fLI true v_8) i_) ((fLI false v_8) i_)))∧True] hB ⟨(fun hq=>hq hcw),⟨(Zak (by rw [hww];exact Zlb _) (Zne v_2 v_3)),⟨(fun h=>by cases h),rfl,rfl,fun i _=> .inr ⟨idsLI _ _,leLI _ _ _⟩⟩,⟨(fun h=>by cases h),rfl,rfl,fun i _=> .inr ⟨idsLI _ _,leLI _ _ _⟩⟩,trivial⟩,(fun hq=>hq hcg),⟨(Zak (by rw [hwg];exact Znf _) (Zlc v_4 v_5)),⟨(fun h=>by cases h),rfl,rfl,fun i _=> .inl rfl⟩,⟨(fun h=>by cases h),rfl,rfl,fun i _=> .inl rfl⟩,trivial⟩,(fun hq=>hq hco),⟨(Zak (by rw [hwo];exact Zlb _) (Zne v_7 v_8)),⟨(fun h=>by cases h),rfl,rfl,fun i _=> .inr ⟨idsLI _ _,leLI _ _ _⟩⟩,⟨(fun h=>by cases h),rfl,rfl,fun i _=> .inr ⟨idsLI _ _,leLI _ _ _⟩⟩,trivial⟩,trivial⟩ (Zbw (Zaq (Zad (Zai (Zai ?_)))))
  by_cases h2:c_7=0
  ·have hrf:=ro_flat (bs:=boxes_6) (lg:=lg_6) (wg:=wg_6) (by rw [←hko];exact h2)
   rw [←hvo] at hrf
   refine Zbz [(1,.dec true)] [4,5,6,7,10,14,17,112] [] [_] hB ⟨h2,trivial⟩ (Zad (Zcf ?_))
   refine aR [] [4,5,6,7,10,14,17,21] [] [slI true items_1,I gap_1,Zcx true v_2,I c_2,slI true v_4,Zae true boxes_6,Zcx true v_7,I 0] [] [] hB trivial (Zai ?_)
   refine aR [] [4,5,6,7,10,14,17,21,22] [] [slI true items_1,I gap_1,Zcx true v_2,I c_2,slI true v_4,Zae true boxes_6,Zcx true v_7,I 0,I 0] [] [] hB trivial (Zar ?_)
   refine Zcg (fun gn gσ=>∃(n:Int) (i:Int),gn=((v_7.length:Int)-i).toNat∧(0≤i∧i≤(v_7.length:Int))∧(n=((v_7.take i.toNat).flatten.length:Int))∧gσ=mkS [(4,slI true items_1),(5,I gap_1),(6,Zcx true v_2),(7,I c_2),(10,slI true v_4),(14,Zae true boxes_6),(17,Zcx true v_7),(21,I n),(22,I i)] []) (((v_7.length:Int)-0).toNat) ⟨0,0,rfl,om,(by rfl),rfl⟩ (fun gn gσ hI=> ?_)
   obtain ⟨n,i,rfl,hi0,hn0,rfl⟩:=hI
   refine Zai (Zai ?_)
   by_cases h3:i<(v_7.length:Int)
   ·have hi:i.toNat<v_7.length:=by omega
    have hnx:(i+1).toNat=i.toNat+1:=by omega
    have hfl:=flat_le hi
    refine Zbz [(3,.dec true)] [4,5,6,7,10,14,17,21,22,116] [] [_] hB ⟨h3,trivial⟩ (Zad (Zcf (Zaq (Zad (Zai (Zar ?_))))))
    refine Zbz [] [4,5,6,7,10,14,17,21,22] [] [(0:Int)≤i∧i<(v_7.length:Int),inR .i64 (n+(((at_ v_7 i.toNat).length):Int))] hB ⟨⟨om,om⟩,(Zaf om om),trivial⟩ (Zbq 1 (Zad ?_))
    refine Zei [] [4,5,6,7,10,14,17,21,22] [] [slI true items_1,I gap_1,Zcx true v_2,I c_2,slI true v_4,Zae true boxes_6,Zcx true v_7,I (n+(((at_ v_7 i.toNat).length):Int)),I (i+1)] [] [inR .i64 (i+1)] hB ⟨(Zaf om om),trivial⟩ ?_
    exact Zbr _ om ⟨(n+(((at_ v_7 i.toNat).length):Int)),(i+1),rfl,om,(by rw [hnx,Zld hi,List.length_append];omega),rfl⟩
   rw [show i.toNat=v_7.length from by omega,List.take_length] at hn0
   refine Zbz [(3,.dec false)] [4,5,6,7,10,14,17,21,22,116] [] [_] hB ⟨h3,trivial⟩ (Zad (Zbw (Zcl (Zaj (Zaj (Zav (Zad ?_)))))))
   refine aQ [(3,.dec false)] [4,5,6,7,10,129] [] [¬ (n≠(boxes_6.length:Int))] hB ⟨(fun hq=>hq om),trivial⟩ (Zbw (Zaq (Zad (Zai (Zai ?_)))))
   by_cases h4:c_2=0
   ·have hwc:=Zvz (bs:=boxes_1) (xs:=items_1) (gap:=gap_1) (by rw [←hkw];exact h4)
    have hV:v_2=Zmj boxes_1 items_1 gap_1:=hvw.trans hwc.2.2
    have hww:=Zrs boxes_1 items_1 gap_1
    rw [←hV] at hww
    have hgg:v_4=Zhw boxes_1 items_1 items_1.length:=hvg.trans (congrArg Prod.fst (go_ok hwc.1 hwc.2.1))
    have hgl:v_4.length=items_1.length-1:=by rw [hgg,Zin]
    rw [←hgg] at hww
    have hvl:=Zio boxes_1 items_1 gap_1
    rw [←hV] at hvl
    refine Zbz [(1,.dec false)] [4,5,6,10,131] [] [¬ (c_2≠0)] hB ⟨(fun hq=>hq h4),trivial⟩ (Zad (Zbw (Zaq (Zad ?_))))
    refine aR [] [4,5,6,10,23] [] [slI true items_1,I gap_1,Zcx true v_2,slI true v_4,I 0] [] [] hB trivial (Zai ?_)
    refine aR [] [4,5,6,10,23,24] [] [slI true items_1,I gap_1,Zcx true v_2,slI true v_4,I 0,I 0] [] [] hB trivial (Zar ?_)
    refine Zcg (fun gn gσ=>∃(ax:Int) (iw:Int),gn=((v_2.length:Int)-iw).toNat∧(0≤iw∧iw≤(v_2.length:Int))∧(ax=((v_2.take iw.toNat).flatten.length:Int))∧gσ=mkS [(4,slI true items_1),(5,I gap_1),(6,Zcx true v_2),(10,slI true v_4),(23,I ax),(24,I iw)] []) (((v_2.length:Int)-0).toNat) ⟨0,0,rfl,om,(by rfl),rfl⟩ (fun gn gσ hI=> ?_)
    obtain ⟨ax,iw,rfl,hi2a,hax,rfl⟩:=hI
    refine Zai (Zai ?_)
    by_cases h5:iw<(v_2.length:Int)
    ·have hi2:iw.toNat<v_2.length:=by omega
     have hnx2:(iw+1).toNat=iw.toNat+1:=by omega
     refine Zbz [(3,.dec true)] [4,5,6,10,23,24,135] [] [_] hB ⟨h5,trivial⟩ (Zad (Zcf (Zaq (Zad (Zai (Zar ?_))))))
     refine aR [] [4,5,6,10,23,24,25] [] [slI true items_1,I gap_1,Zcx true v_2,slI true v_4,I ax,I iw,I 0] [] [] hB trivial (Zar ?_)
     refine Zcg (fun gn gσ=>∃(ay:Int) (j:Int),gn=(((at_ v_2 iw.toNat).length:Int)-j).toNat∧(0≤j∧j≤((at_ v_2 iw.toNat).length:Int))∧(ay=((v_2.take iw.toNat).flatten.length:Int)+j)∧gσ=mkS [(4,slI true items_1),(5,I gap_1),(6,Zcx true v_2),(10,slI true v_4),(23,I ay),(24,I iw),(25,I j)] []) ((((at_ v_2 iw.toNat).length:Int)-0).toNat) ⟨ax,0,rfl,om,om,rfl⟩ (fun gn gσ hI=> ?_)
     obtain ⟨ay,j,rfl,hj1,hay,rfl⟩:=hI
     refine Zai (Zai ?_)
     by_cases h6:j<(((at_ v_2 iw.toNat).length):Int)
     ·have hj:j.toNat<(at_ v_2 iw.toNat).length:=by omega
      have hfa:=Zwa hi2 hj
      rw [hww.1] at hfa
      have hay2:(v_2.take iw.toNat).flatten.length+j.toNat=ay.toNat:=by omega
      rw [hay2] at hfa
      have hwi:=hww.2.2 iw.toNat hi2 j.toNat hj
      rw [hay2] at hwi
      have hfa1:=hfa.1
      refine Zbz [(6,.dec true)] [4,5,6,10,23,24,25,144] [] [(0:Int)≤iw∧iw<(v_2.length:Int),_] hB ⟨⟨om,om⟩,h6,trivial⟩ (Zad (Zcf (Zaq (Zad (Zai (Zar (Zai ?_)))))))
      refine aQ [(3,.dec false),(16,.dec false)] [4,5,6,10,23,24,25,164] [] [¬ ((items_1.length:Int)≤ay),(0:Int)≤iw∧iw<(v_2.length:Int),(0:Int)≤j∧j<(((at_ v_2 iw.toNat).length):Int),(0:Int)≤ay∧ay<(items_1.length:Int),¬ ((at_ (at_ v_2 iw.toNat) j.toNat)≠(at_ items_1 ay.toNat))] hB ⟨om,⟨om,om⟩,⟨om,om⟩,⟨om,om⟩,(fun hq=>hq hfa.2.symm),trivial⟩ (Zbw (Zaq (Zad (Zai (Zai ?_)))))
      by_cases h7:0<ay
      ·have hwj:=hwi om
       rw [show ay.toNat-1=(ay-1).toNat from by omega] at hwj
       by_cases h8:gap_1<(at_ v_4 ((ay-1).toNat))
       ·have hj0:j=0:=by have:=hwj.1 h8;omega
        refine Zbz [(1,.dec true),(9,.dec true),(11,.dec true)] [4,5,6,10,23,24,25,178] [] [_,inR .i64 (ay-1),(0:Int)≤(ay-1)∧(ay-1)<(v_4.length:Int),_,_] hB ⟨h7,(Zaf om om),⟨om,om⟩,h8,hj0,trivial⟩ (Zad (Zbw (Zaq (Zad ?_))))
        refine Zei [] [4,5,6,10,23,24,25] [] [slI true items_1,I gap_1,Zcx true v_2,slI true v_4,I (ay+1),I iw,I j] [] [inR .i64 (ay+1)] hB ⟨(Zaf om om),trivial⟩ (Zbq 5 (Zad ?_))
        refine Zei [] [4,5,6,10,23,24,25] [] [slI true items_1,I gap_1,Zcx true v_2,slI true v_4,I (ay+1),I iw,I (j+1)] [] [inR .i64 (j+1)] hB ⟨(Zaf om om),trivial⟩ ?_
        exact Zbr _ om ⟨(ay+1),(j+1),rfl,om,om,rfl⟩
       have hj0:¬ j=0:=fun q=>h8 (hwj.2 om)
       refine Zbz [(1,.dec true),(9,.dec false),(11,.dec false)] [4,5,6,10,23,24,25,178] [] [_,inR .i64 (ay-1),(0:Int)≤(ay-1)∧(ay-1)<(v_4.length:Int),_,_] hB ⟨h7,(Zaf om om),⟨om,om⟩,h8,hj0,trivial⟩ (Zad (Zbw (Zaq (Zad ?_))))
       refine Zbz [] [4,5,6,10,23,24,25] [] [inR .i64 (ay+1)] hB ⟨(Zaf om om),trivial⟩ (Zbq 5 (Zad ?_))
       refine Zei [] [4,5,6,10,23,24,25] [] [slI true items_1,I gap_1,Zcx true v_2,slI true v_4,I (ay+1),I iw,I (j+1)] [] [inR .i64 (j+1)] hB ⟨(Zaf om om),trivial⟩ ?_
       exact Zbr _ om ⟨(ay+1),(j+1),rfl,om,om,rfl⟩
      refine Zbz [(1,.dec false)] [4,5,6,10,23,24,25,178] [] [_] hB ⟨h7,trivial⟩ (Zad (Zbw (Zaq (Zad ?_))))
      refine Zbz [] [4,5,6,10,23,24,25] [] [inR .i64 (ay+1)] hB ⟨(Zaf om om),trivial⟩ (Zbq 5 (Zad ?_))
      refine Zei [] [4,5,6,10,23,24,25] [] [slI true items_1,I gap_1,Zcx true v_2,slI true v_4,I (ay+1),I iw,I (j+1)] [] [inR .i64 (j+1)] hB ⟨(Zaf om om),trivial⟩ ?_
      exact Zbr _ om ⟨(ay+1),(j+1),rfl,om,om,rfl⟩
     have hje:j=((at_ v_2 iw.toNat).length:Int):=by omega
     have hfn:=congrArg List.length (Zld hi2)
     rw [List.length_append] at hfn
     refine Zbz [(6,.dec false)] [4,5,6,10,23,24,25,144] [] [(0:Int)≤iw∧iw<(v_2.length:Int),_] hB ⟨⟨om,om⟩,h6,trivial⟩ (Zad (Zbw (Zcl (Zaj (Zaj (Zav (Zbq 3 (Zad ?_))))))))
     refine Zei [] [4,5,6,10,23,24] [] [slI true items_1,I gap_1,Zcx true v_2,slI true v_4,I ay,I (iw+1)] [] [inR .i64 (iw+1)] hB ⟨(Zaf om om),trivial⟩ ?_
     exact Zbr _ om ⟨ay,(iw+1),rfl,om,(by rw [hnx2];omega),rfl⟩
    rw [show iw.toNat=v_2.length from by omega,List.take_length,hww.1] at hax
    refine Zbz [(3,.dec false)] [4,5,6,10,23,24,135] [] [_] hB ⟨h5,trivial⟩ (Zad (Zbw (Zcl (Zaj (Zaj (Zav (Zad ?_)))))))
    refine aR [] [2] [] [Bv (decide (ax=(items_1.length:Int)))] [] [] hB trivial (Zaz ?_)
    refine Zax hB (Bv (decide (ax=(items_1.length:Int)))) (by kernel_rfl) (.inl (by first|rfl|(refine congrArg Bv ?_;exact decide_eq_true om))) rfl (fun _=>trivial)
   refine Zbz [(1,.dec true)] [4,5,6,10,131] [] [_] hB ⟨h4,trivial⟩ (Zad (Zcf ?_))
   refine aR [] [2] [] [Bv true] [] [] hB trivial (Zaz (Zal ?_))
   refine Zax hB (Bv true) (by kernel_rfl) (.inl rfl) rfl (fun _=>trivial)
  refine Zbz [(1,.dec false)] [4,5,6,7,10,14,17,112] [] [_] hB ⟨h2,trivial⟩ (Zad (Zbw (Zaq (Zad (Zai (Zai ?_))))))
  by_cases h9:c_2=0
  ·have hwc:=Zvz (bs:=boxes_1) (xs:=items_1) (gap:=gap_1) (by rw [←hkw];exact h9)
   have hV:v_2=Zmj boxes_1 items_1 gap_1:=hvw.trans hwc.2.2
   have hww:=Zrs boxes_1 items_1 gap_1
   rw [←hV] at hww
   have hgg:v_4=Zhw boxes_1 items_1 items_1.length:=hvg.trans (congrArg Prod.fst (go_ok hwc.1 hwc.2.1))
   have hgl:v_4.length=items_1.length-1:=by rw [hgg,Zin]
   rw [←hgg] at hww
   have hvl:=Zio boxes_1 items_1 gap_1
   rw [←hV] at hvl
   refine Zbz [(1,.dec false)] [4,5,6,10,131] [] [¬ (c_2≠0)] hB ⟨(fun hq=>hq h9),trivial⟩ (Zad (Zbw (Zaq (Zad ?_))))
   refine aQ [] [4,5,6,10,23] [] [] hB trivial (Zai ?_)
   refine aR [] [4,5,6,10,23,24] [] [slI true items_1,I gap_1,Zcx true v_2,slI true v_4,I 0,I 0] [] [] hB trivial (Zar ?_)
   refine Zcg (fun gn gσ=>∃(ax:Int) (iw:Int),gn=((v_2.length:Int)-iw).toNat∧(0≤iw∧iw≤(v_2.length:Int))∧(ax=((v_2.take iw.toNat).flatten.length:Int))∧gσ=mkS [(4,slI true items_1),(5,I gap_1),(6,Zcx true v_2),(10,slI true v_4),(23,I ax),(24,I iw)] []) (((v_2.length:Int)-0).toNat) ⟨0,0,rfl,om,(by rfl),rfl⟩ (fun gn gσ hI=> ?_)
   obtain ⟨ax,iw,rfl,hi2a,hax,rfl⟩:=hI
   refine Zai (Zai ?_)
   by_cases h10:iw<(v_2.length:Int)
   ·have hi2:iw.toNat<v_2.length:=by omega
    have hnx2:(iw+1).toNat=iw.toNat+1:=by omega
    refine Zbz [(3,.dec true)] [4,5,6,10,23,24,135] [] [_] hB ⟨h10,trivial⟩ (Zad (Zcf (Zaq (Zad (Zai (Zar ?_))))))
    refine aR [] [4,5,6,10,23,24,25] [] [slI true items_1,I gap_1,Zcx true v_2,slI true v_4,I ax,I iw,I 0] [] [] hB trivial (Zar ?_)
    refine Zcg (fun gn gσ=>∃(ay:Int) (j:Int),gn=(((at_ v_2 iw.toNat).length:Int)-j).toNat∧(0≤j∧j≤((at_ v_2 iw.toNat).length:Int))∧(ay=((v_2.take iw.toNat).flatten.length:Int)+j)∧gσ=mkS [(4,slI true items_1),(5,I gap_1),(6,Zcx true v_2),(10,slI true v_4),(23,I ay),(24,I iw),(25,I j)] []) ((((at_ v_2 iw.toNat).length:Int)-0).toNat) ⟨ax,0,rfl,om,om,rfl⟩ (fun gn gσ hI=> ?_)
    obtain ⟨ay,j,rfl,hj1,hay,rfl⟩:=hI
    refine Zai (Zai ?_)
    by_cases h11:j<(((at_ v_2 iw.toNat).length):Int)
    ·have hj:j.toNat<(at_ v_2 iw.toNat).length:=by omega
     have hfa:=Zwa hi2 hj
     rw [hww.1] at hfa
     have hay2:(v_2.take iw.toNat).flatten.length+j.toNat=ay.toNat:=by omega
     rw [hay2] at hfa
     have hwi:=hww.2.2 iw.toNat hi2 j.toNat hj
     rw [hay2] at hwi
     have hfa1:=hfa.1
     refine Zbz [(6,.dec true)] [4,5,6,10,23,24,25,144] [] [(0:Int)≤iw∧iw<(v_2.length:Int),_] hB ⟨⟨om,om⟩,h11,trivial⟩ (Zad (Zcf (Zaq (Zad (Zai (Zar (Zai ?_)))))))
     refine aQ [(3,.dec false),(16,.dec false)] [4,5,6,10,23,24,25,164] [] [¬ ((items_1.length:Int)≤ay),(0:Int)≤iw∧iw<(v_2.length:Int),(0:Int)≤j∧j<(((at_ v_2 iw.toNat).length):Int),(0:Int)≤ay∧ay<(items_1.length:Int),¬ ((at_ (at_ v_2 iw.toNat) j.toNat)≠(at_ items_1 ay.toNat))] hB ⟨om,⟨om,om⟩,⟨om,om⟩,⟨om,om⟩,(fun hq=>hq hfa.2.symm),trivial⟩ (Zbw (Zaq (Zad (Zai (Zai ?_)))))
     by_cases h12:0<ay
     ·have hwj:=hwi om
      rw [show ay.toNat-1=(ay-1).toNat from by omega] at hwj
      by_cases h13:gap_1<(at_ v_4 ((ay-1).toNat))
      ·have hj0:j=0:=by have:=hwj.1 h13;omega
       refine Zbz [(1,.dec true),(9,.dec true),(11,.dec true)] [4,5,6,10,23,24,25,178] [] [_,inR .i64 (ay-1),(0:Int)≤(ay-1)∧(ay-1)<(v_4.length:Int),_,_] hB ⟨h12,(Zaf om om),⟨om,om⟩,h13,hj0,trivial⟩ (Zad (Zbw (Zaq (Zad ?_))))
       refine Zei [] [4,5,6,10,23,24,25] [] [slI true items_1,I gap_1,Zcx true v_2,slI true v_4,I (ay+1),I iw,I j] [] [inR .i64 (ay+1)] hB ⟨(Zaf om om),trivial⟩ (Zbq 5 (Zad ?_))
       refine Zei [] [4,5,6,10,23,24,25] [] [slI true items_1,I gap_1,Zcx true v_2,slI true v_4,I (ay+1),I iw,I (j+1)] [] [inR .i64 (j+1)] hB ⟨(Zaf om om),trivial⟩ ?_
       exact Zbr _ om ⟨(ay+1),(j+1),rfl,om,om,rfl⟩
      have hj0:¬ j=0:=fun q=>h13 (hwj.2 om)
      refine Zbz [(1,.dec true),(9,.dec false),(11,.dec false)] [4,5,6,10,23,24,25,178] [] [_,inR .i64 (ay-1),(0:Int)≤(ay-1)∧(ay-1)<(v_4.length:Int),_,_] hB ⟨h12,(Zaf om om),⟨om,om⟩,h13,hj0,trivial⟩ (Zad (Zbw (Zaq (Zad ?_))))
      refine Zbz [] [4,5,6,10,23,24,25] [] [inR .i64 (ay+1)] hB ⟨(Zaf om om),trivial⟩ (Zbq 5 (Zad ?_))
      refine Zei [] [4,5,6,10,23,24,25] [] [slI true items_1,I gap_1,Zcx true v_2,slI true v_4,I (ay+1),I iw,I (j+1)] [] [inR .i64 (j+1)] hB ⟨(Zaf om om),trivial⟩ ?_
      exact Zbr _ om ⟨(ay+1),(j+1),rfl,om,om,rfl⟩
     refine Zbz [(1,.dec false)] [4,5,6,10,23,24,25,178] [] [_] hB ⟨h12,trivial⟩ (Zad (Zbw (Zaq (Zad ?_))))
     refine Zbz [] [4,5,6,10,23,24,25] [] [inR .i64 (ay+1)] hB ⟨(Zaf om om),trivial⟩ (Zbq 5 (Zad ?_))
     refine Zei [] [4,5,6,10,23,24,25] [] [slI true items_1,I gap_1,Zcx true v_2,slI true v_4,I (ay+1),I iw,I (j+1)] [] [inR .i64 (j+1)] hB ⟨(Zaf om om),trivial⟩ ?_
     exact Zbr _ om ⟨(ay+1),(j+1),rfl,om,om,rfl⟩
    have hje:j=((at_ v_2 iw.toNat).length:Int):=by omega
    have hfn:=congrArg List.length (Zld hi2)
    rw [List.length_append] at hfn
    refine Zbz [(6,.dec false)] [4,5,6,10,23,24,25,144] [] [(0:Int)≤iw∧iw<(v_2.length:Int),_] hB ⟨⟨om,om⟩,h11,trivial⟩ (Zad (Zbw (Zcl (Zaj (Zaj (Zav (Zbq 3 (Zad ?_))))))))
    refine Zei [] [4,5,6,10,23,24] [] [slI true items_1,I gap_1,Zcx true v_2,slI true v_4,I ay,I (iw+1)] [] [inR .i64 (iw+1)] hB ⟨(Zaf om om),trivial⟩ ?_
    exact Zbr _ om ⟨ay,(iw+1),rfl,om,(by rw [hnx2];omega),rfl⟩
   rw [show iw.toNat=v_2.length from by omega,List.take_length,hww.1] at hax
   refine Zbz [(3,.dec false)] [4,5,6,10,23,24,135] [] [_] hB ⟨h10,trivial⟩ (Zad (Zbw (Zcl (Zaj (Zaj (Zav (Zad ?_)))))))
   refine aR [] [2] [] [Bv (decide (ax=(items_1.length:Int)))] [] [] hB trivial (Zaz ?_)
   refine Zax hB (Bv (decide (ax=(items_1.length:Int)))) (by kernel_rfl) (.inl (by first|rfl|(refine congrArg Bv ?_;exact decide_eq_true om))) rfl (fun _=>trivial)
  refine Zbz [(1,.dec true)] [4,5,6,10,131] [] [_] hB ⟨h9,trivial⟩ (Zad (Zcf ?_))
  refine aR [] [2] [] [Bv true] [] [] hB trivial (Zaz (Zal ?_))
  refine Zax hB (Bv true) (by kernel_rfl) (.inl rfl) rfl (fun _=>trivial)
theorem Zwb:Ztf Try.prog 22 (cLU8 false) (fun xs=>∀y∈xs,inR .u8 y):=
 Zpz (c:=cU8) (sz:=1) Try.underlying22 (by kernel_rfl) (by decide) (fun x=>⟨rfl,by simp [Zmk,cU8]⟩) (Zuz Try.underlying5)
namespace fnWordsOfLines
set_option maxRecDepth 100000 in
theorem lifted (os:Os) (started:os.Started) (H:Type) (enc:TypeId×Value→H):
  ReturnsInHanded {} Try.checked os 4 .any (Rows.fnWordsOfLinesSpec.pre6 enc Try.prog Try.f4 Rows.fnWordsOfLinesRow.domain false) (Rows.fnWordsOfLinesSpec.post enc Try.prog Try.f4 false true false false):=by
 refine returnsInHanded_of_change_shaped (C:=Try.checked) Try.own started (by kernel_rfl) Try.func4
  (ChangeSpec.witness6 (enc:=enc) (C:=Try.checked) false ⟨#[],#[.slice none 0 0],[]⟩ 8 (by kernel_rfl) (by kernel_rfl) (by kernel_rfl) (by kernel_rfl)) ?_
 intro W base args ds gs before hval0 hW hcnd hsz hshp _
 have hW':=hW
 obtain ⟨p,q,hA0,hV,rfl,hfz,hnd⟩:=hW
 have hval:∀(j:Nat) t v,Try.f4.params[j]? =some t→args[j]? =some v→Value.okWide Try.prog W .any base t v:=hval0
 have hA:DataW.TrodAll enc Try.prog W 0 (fun _=>true) true Try.f4.params.toList args.toList ds p:=hA0
 rw [Try.params4] at hA hval
 obtain ⟨v0,vs0,d0,ds0,p0,q0,hargs,rfl,rfl,h0,r0⟩:=trodAll_cons hA
 obtain ⟨rfl,rfl,rfl⟩:=trodAll_nil r0
 obtain rfl:args=#[v0]:=args_eq hargs
 obtain ⟨rfl,rfl⟩:=trodVars_none hV
 obtain ⟨fuel0,hf0⟩:=h0
 obtain ⟨A0,l0,c0,rfl⟩:=okWide_slice Try.underlying22 (hval 0 22 v0 rfl rfl)
 obtain ⟨x0,rx0,ok0⟩:=(Zwb) enc W 0 _ _ _ _ _ hf0
 refine (walk_of0 (Zik x0 ok0) (fun w _=>WX_free w) (RelTL.cons (Zwc rx0) RelTL.nil)).mono fun e W1 ⟨he,hb⟩=> ?_
 subst he
 exact ⟨_,rfl,law_post Try.laidOut rfl Try.underlying4 (of_decide_eq_true (by kernel_rfl)) rfl hW' hb rfl⟩
theorem jf0:(Rows.fnWordsOfLinesRow.inPlace==Try.pinned.checked.prog.inPlace 4)=true:=by kernel_rfl
theorem jf1:(Rows.fnWordsOfLinesRow.unfollowed==Try.pinned.checked.prog.unfollowed 4)=true:=by kernel_rfl
theorem jf2:(Rows.fnWordsOfLinesRow.recurses==Try.pinned.checked.prog.recurses 4)=true:=by kernel_rfl
theorem jf3:(Rows.fnWordsOfLinesRow.named==Try.pinned.checked.prog.varsNamed 4)=true:=by kernel_rfl
theorem jf:joinedFacts Try.pinned.checked.prog 4 Try.f4 Rows.fnWordsOfLinesSpec Rows.fnWordsOfLinesRow=true:=by
 unfold joinedFacts
 rw [jf0,jf1,jf2,jf3]
 kernel_rfl
theorem over:Rows.fnWordsOfLinesRow.holds Try.pinned (OpenSpec.ofChange Rows.fnWordsOfLinesSpec):=
 OpenClaim.holds_of_wide 4 Try.f4 rfl rfl rfl rfl rfl rfl rfl ⟨rfl,rfl,rfl,rfl,rfl⟩ rfl rfl rfl rfl rfl (by kernel_rfl) Try.func4 jf
  (of_decide_eq_true (by kernel_rfl)) (by unfold Func.isWrapper;first|(rw [if_pos (by decide+kernel)];kernel_rfl)|(rw [if_neg (by decide+kernel)];exact ⟨rfl,rfl⟩))
  (fun os started H enc _=>lifted os started H enc)
theorem proved:Rows.FnWordsOfLinesSaid:=
 over
#print axioms proved
end fnWordsOfLines
end Go.Proofs.Ytfafngbbaplknaa.Ax
