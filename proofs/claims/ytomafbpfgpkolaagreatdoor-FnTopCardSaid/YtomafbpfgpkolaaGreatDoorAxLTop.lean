/- The statement FnTop: contracts of what it reaches, and its proof. No conditions. -/
import Derived.Test.YtomafbpfgpkolaaGreatDoorAxLTop5
import Derived.LaidMore
import Derived.Lay
import Derived.Lib.IndexBytes
import Derived.Lib.ItoaNum
import Derived.Lib.ParseIntBCases
import Derived.Lib.Repeat
import Derived.Lib.SplitLaws
import Derived.OpenShut
import Derived.SevenTiedAt
import Derived.Shelf.Strings.SlTrimAscii
import Derived.Stop.Joined
import Derived.Test.YtomafbpfgpkolaaGreatDoorAxBd
import Derived.Test.YtomafbpfgpkolaaGreatDoorAxR
import Derived.Test.YtomafbpfgpkolaaGreatDoorAxS
import Derived.Test.YtomafbpfgpkolaaGreatDoorAxSF
import Derived.Test.YtomafbpfgpkolaaGreatDoorAxY
import Derived.Test.YtomafbpfgpkolaaGreatDoorSfFndShelf
namespace Go.Proofs.YtomafbpfgpkolaaGreatDoor.Ax
open Go.RowKit Go.ChangeShapes Go.WideShapes
set_option linter.unusedVariables false
set_option linter.unusedSimpArgs false
theorem Zog (s:ByteArray) (h:∃x,Zcs x=true∧(x.Strokes.length:Int)≤6∧Zwi x s):∃(v:Ink) (c:Int),(∀x,Zcs x=true→(x.Strokes.length:Int)≤6→Zwi x s→v=x)∧(c=0)∧Con Tryz.prog 15 [Sv s] true (.tup [.agg [Zap true v.Strokes],I c]):=by
  obtain ⟨x0,hok,h6,hes0⟩:=h
  obtain ⟨p0,hpk,hs⟩:=hes0
  have hes0:Zwi x0 s:=⟨p0,hpk,hs⟩
  have hpb:=Zpa hok h6 hpk
  have hsz:s.size=p0.size+4:=by rw [hs,Zmj]
  have ex1:((s.size:Int)-2).toNat=p0.size+2:=by omega
  have ex2:((s.size:Int)-1).toNat=p0.size+3:=by omega
  have hbody:s.extract 0 ((s.size:Int)-2).toNat=hdI++p0:=by rw [ex1,hs];exact Ztn p0
  have hbz:(s.extract 0 ((s.size:Int)-2).toNat).size=p0.size+2:=by rw [hbody,ByteArray.size_append];show 2+_=_;omega
  have hb1:=Zpq s ((s.size:Int)-2).toNat
  have hb2:=Zpq s ((s.size:Int)-1).toNat
  have hck0:=enc_sum p0
  rw [←hs,←ex1,←ex2,←hbody] at hck0
  have hpp:(s.extract 0 ((s.size:Int)-2).toNat).extract 2 (((s.extract 0 ((s.size:Int)-2).toNat).size:Nat):Int).toNat=p0:=by rw [hbody];exact Zyy p0
  have hppz:=congrArg ByteArray.size hpp
  have h73:(⟨#[73,75]⟩:ByteArray).size=2:=rfl
  have hh:∃r:Ink×Int,((∀x,Zcs x=true→(x.Strokes.length:Int)≤6→Zwi x s→r.1=x)∧(r.2=0)∧(True))∧Zaw Tryz.prog 15 [Sv s] (Zae []) true (.tup [.agg [Zap true r.1.Strokes],I r.2]) (Zae []):=by
    refine Zcv (Φ:=fun r:Ink×Int=>(∀x,Zcs x=true→(x.Strokes.length:Int)≤6→Zwi x s→r.1=x)∧(r.2=0)∧(True)) [] (fun r=>[]) (fn:=Tryz.f15) (nt:=92) Tryz.func15 rfl rfl (args:=[Sv s]) rfl (Zbc (.inl ⟨rfl,trivial⟩) Zcw) (res:=fun r=> .tup [.agg [Zap true r.1.Strokes],I r.2]) ?_
    refine xQ [(0,.new 2)] [0,2] [2] [] trivial (Zak ?_)
    refine xQ [(2,.dec false)] [0,2,13] [2] [¬ ((s.size:Int)<5)] ⟨om,trivial⟩ (Zga (Zbd (Zab (Zak ?_))))
    refine xQ [(1,.call [(true,.any),(true,.any)] true (Bv true))] [0,2,17] [2] [Con Tryz.prog 41 [Sv s,Sv (⟨#[73,75]⟩:ByteArray)] true (Bv true)∧True] ⟨⟨(Zau (by rw [hs];exact enc_pre p0) (Yez s (⟨#[73,75]⟩:ByteArray) om)),trivial⟩,trivial⟩ (Zga (Zbd (Zab ?_)))
    refine xQ [] [0,2,4] [2] [inR .i64 ((s.size:Int)-2),(0:Int)≤0∧(0:Int)≤((s.size:Int)-2)∧((s.size:Int)-2)≤(s.size:Int)] ⟨(Zad om om),⟨om,om,om⟩,trivial⟩ (Zak ?_)
    refine xQ [] [0,2,4,5] [2] [inR .i64 ((s.size:Int)-2),(0:Int)≤((s.size:Int)-2)∧((s.size:Int)-2)<(s.size:Int),inR .i64 (bAt s ((s.size:Int)-2).toNat),(0:Int)≤8∧(8:Int)≤((IntKind.bits .i64:Nat):Int)∧inR .i64 ((bAt s ((s.size:Int)-2).toNat)*256),inR .i64 ((s.size:Int)-1),(0:Int)≤((s.size:Int)-1)∧((s.size:Int)-1)<(s.size:Int),inR .i64 (bAt s ((s.size:Int)-1).toNat),inR .i64 (((bAt s ((s.size:Int)-2).toNat)*256)+(bAt s ((s.size:Int)-1).toNat))] ⟨(Zad om om),⟨om,om⟩,(Zad om om),⟨(by decide),(by decide),(Zad om om)⟩,(Zad om om),⟨om,om⟩,(Zad om om),(Zad om om),trivial⟩ ?_
    refine xQ [(2,.call [(true,.any)] true (I (ckA (s.extract 0 ((s.size:Int)-2).toNat)))),(3,.dec false)] [0,2,4,41] [2] [_∧True,¬ ((((bAt s ((s.size:Int)-2).toNat)*256)+(bAt s ((s.size:Int)-1).toNat))≠(ckA (s.extract 0 ((s.size:Int)-2).toNat)))] ⟨⟨(Zmk (s.extract 0 ((s.size:Int)-2).toNat) om),trivial⟩,(fun hq=>hq (by first|exact hck0|(rw [←hck0];rfl)|omega)),trivial⟩ (Zga (Zbd (Zab (Zak ?_))))
    obtain ⟨v_1,c_1,hx1_0,hx1_1,hc1⟩:=Zto ((s.extract 0 ((s.size:Int)-2).toNat).extract 2 ((s.extract 0 ((s.size:Int)-2).toNat).size:Int).toNat) om
    have huc:=hx1_1
    have hub:v_1=Ztp p0 p0.size:=by rw [hx1_0,hpp]
    have hbt:=Zpa hok h6 hpk
    rw [←hub] at hbt
    have hbo:=hbt.2.1
    have hsa:=hbt.1
    have hbs:=hsa.1
    have hiz:=Ziz (Znj hok) x0.Strokes.length (Nat.le_refl _)
    refine x_q [(2,.call [(true,.any)] true (.tup [Sv v_1,I c_1]))] [0,2,6,7] [2] [(0:Int)≤2∧(2:Int)≤((s.extract 0 ((s.size:Int)-2).toNat).size:Int)∧((s.extract 0 ((s.size:Int)-2).toNat).size:Int)≤((s.extract 0 ((s.size:Int)-2).toNat).size:Int),_∧True] ⟨⟨om,om,om⟩,⟨hc1,trivial⟩,trivial⟩ (Zab (Zak ?_))
    refine xQ [(1,.dec false)] [0,2,6,50] [2] [¬ (c_1≠0)] ⟨(fun hq=>hq huc),trivial⟩ (Zga (Zbd (Zab ?_)))
    refine xQ [(2,.new 7003)] [0,2,8] [2,7003] [] trivial ?_
    refine xR [(0,.new 9)] [0,2,8,9] [2,9,7003] [Sv s,.ref 2 0,.ref 7003 0,.ref 9 0] [some (.box [Zcj]),some (.box [Zcj]),some (.box [Sv v_1,I 0,Bv false])] [] trivial (Zak (Zak ?_))
    obtain ⟨v_2,rd'_2,hx2_0,hx2_1,hx2_2,hc2⟩:=Ztq (reader.mk v_1 0 false) 8 (by first|exact hbo|exact hok_) (by first|omega|(dsimp only;omega)) (by first|omega|(dsimp only;omega))
    have hnv:v_2=(x0.Strokes.length:Int):=by rw [hx2_0];exact Zyz hsa om
    have hrb:rd'_2.bits=v_1:=hx2_1
    have hra:rd'_2.atx=0+8:=hx2_2
    refine x_r [(1,.lend [(7003,.box [Sv v_1,I 0,Bv false],Zaq rd'_2)] [] [(true,.any),(true,.any)] true (I v_2))] [0,2,8,9,10] [2,9,7003] [Sv s,.ref 2 0,.ref 7003 0,.ref 9 0,I v_2] [some (.box [Zcj]),some (.box [Zcj]),some (Zaq rd'_2)] [Zaw Tryz.prog 44 [.ref 7003 0,I 8] (Zae [(7003,.box [Sv v_1,I 0,Bv false])]) true (I v_2) (Zae [(7003,Zaq rd'_2)])∧(((.box [Sv v_1,I 0,Bv false]:Ob)= .box [Sv v_1,I 0,Bv false]∨Zer Zeg true (.box [Sv v_1,I 0,Bv false]) (.box [Sv v_1,I 0,Bv false]))∧Zal false (.box [Sv v_1,I 0,Bv false]))∧True] ⟨⟨hc2,⟨.inl rfl,(by simp [Zal,Zaf,Zai])⟩,trivial⟩,trivial⟩ (Zab (Zbb ?_))
    refine Zka 9 0 790 1 (fun _=>[]) rfl (by kernel_rfl) ?_
    refine Zdh [] (T:=[(0,Sv s),(2,.ref 2 0),(8,.ref 7003 0),(9,.ref 9 0),(10,I v_2)]) (O:=[(2,.box [Zcj]),(9,.box [.arr 790]),(790,Zle true ([]:List Stroke)),(7003,Zaq rd'_2)]) rfl (⟨.inl rfl,.inl rfl,.inl rfl,.inl rfl,.inl rfl,trivial⟩) (⟨.inl rfl,.inl rfl,.inr ⟨rfl,(by first|rfl|(simp;done)|(simp;omega)|omega),fun i_ hi_=>absurd hi_ (Nat.not_lt_zero _)⟩,.inl rfl,trivial⟩) ?_
    refine Zdc (X:=Int×reader×(List Stroke)) (fun x=>mkS [(0,Sv s),(2,.ref 2 0),(8,.ref 7003 0),(9,.ref 9 0),(10,I x.1)] [(2,.box [Zcj]),(9,.box [.arr 790]),(790,Zle true x.2.2),(7003,Zaq x.2.1)]) (fun x=>(0≤x.1∧x.1≤(x0.Strokes.length:Int))∧(x.2.2=x0.Strokes.take (x0.Strokes.length-x.1).toNat)∧((x.2.2.length:Int)=(x0.Strokes.length:Int)-x.1)∧(x.2.1.bits=v_1)∧(x.2.1.atx=((Zkb x0.Strokes (x0.Strokes.length-x.1).toNat).size:Int))∧True) (fun x=>x.1.toNat) (v_2,rd'_2,([]:List Stroke)) rfl (show (0≤v_2∧v_2≤(x0.Strokes.length:Int))∧(([]:List Stroke)=x0.Strokes.take (x0.Strokes.length-v_2).toNat)∧((([]:List Stroke).length:Int)=(x0.Strokes.length:Int)-v_2)∧(rd'_2.bits=v_1)∧(rd'_2.atx=((Zkb x0.Strokes (x0.Strokes.length-v_2).toNat).size:Int))∧True from ⟨om,(by (rw [hnv,show ((x0.Strokes.length:Int)-(x0.Strokes.length:Int)).toNat=0 from by omega];rfl)),(by (rw [hnv];show ((0:Nat):Int)=_;omega)),(by exact hrb),(by (rw [hnv,show ((x0.Strokes.length:Int)-(x0.Strokes.length:Int)).toNat=0 from by omega];show _=(((Zds _ 8).size:Nat):Int);rw [Zbx];exact hra)),trivial⟩) (fun x hI=> ?_)
    obtain ⟨n_,src,ss⟩:=x
    obtain ⟨hn0,hss,hsl,hsb_,hsa_,_⟩:(0≤n_∧n_≤(x0.Strokes.length:Int))∧(ss=x0.Strokes.take (x0.Strokes.length-n_).toNat)∧((ss.length:Int)=(x0.Strokes.length:Int)-n_)∧(src.bits=v_1)∧(src.atx=((Zkb x0.Strokes (x0.Strokes.length-n_).toNat).size:Int))∧True:=hI
    show XW _ _ _ _ (mkS [(0,Sv s),(2,.ref 2 0),(8,.ref 7003 0),(9,.ref 9 0),(10,I n_)] [(2,.box [Zcj]),(9,.box [.arr 790]),(790,Zle true ss),(7003,Zaq src)]) _ _
    refine Zak (Zak ?_)
    by_cases h1:0<n_
    ·have hj:(x0.Strokes.length-n_).toNat<x0.Strokes.length:=by omega
     have hjj:(x0.Strokes.length-(n_-1)).toNat=(x0.Strokes.length-n_).toNat+1:=by omega
     have hsi:=Ybf hsa hj
     have hst_:src.atx.toNat=(Zkb x0.Strokes (x0.Strokes.length-n_).toNat).size:=by rw [hsa_];exact Int.toNat_natCast _
     have hok_:Zfu src.bits=true:=by rw [hsb_];exact hbo
     have hsz_:=hsi.1
     have hbz_:src.bits.size=v_1.size:=by rw [hsb_]
     refine x_q [(1,.dec true)] [0,2,8,9,10,65] [2,9,790,7003] [_] ⟨h1,trivial⟩ (Zab (Zeh (Zbd (Zab (Zak (Zbb ?_))))))
     obtain ⟨v_3,rd'_3,hx3_0,hx3_1,hx3_2,hx3_3,hc3⟩:=rdStk_ok src (by first|exact hbo|exact hok_) (by first|omega|(dsimp only;omega)) ⟨_,Zpr hok _ hj,by rw [hsb_,hst_];exact hsi⟩
     have hsv:v_3=at_ x0.Strokes (x0.Strokes.length-n_).toNat:=Ybg (by have q_:=hx3_1;exact q_) (by rw [hsb_,hst_];exact Ybf hsa hj) hx3_0 (Zpr hok _ hj)
     have hsb2:rd'_3.bits=v_1:=(hx3_2).trans hsb_
     have hsa2:rd'_3.atx=((Zkb x0.Strokes ((x0.Strokes.length-n_).toNat+1)).size:Int):=by rw [Zkb,ByteArray.size_append,←hsv];have q_:=hx3_3;omega
     refine x_q [(3,.lend [(7003,Zaq src,Zaq rd'_3)] [] [(true,.any)] true (.agg [Zbj true v_3.Points])),(4,.new 72),(5,.new 73)] [0,2,8,9,10] [2,9,73,7003] [Zaw Tryz.prog 45 [.ref 7003 0] (Zae [(7003,Zaq src)]) true (.agg [Zbj true v_3.Points]) (Zae [(7003,Zaq rd'_3)])∧(((Zaq src:Ob)=Zaq src∨Zer Zeg true (Zaq src) (Zaq src))∧Zal false (Zaq src))∧True,(ss.length+1)*24≤140737488355328] ⟨⟨hc3,⟨.inl rfl,(by simp [Zal,Zaf,Zai])⟩,trivial⟩,om,trivial⟩ (Zba 1 (Zab ?_))
     refine x_r [] [0,2,8,9,10] [2,9,73,7003] [Sv s,.ref 2 0,.ref 7003 0,.ref 9 0,I (n_-1)] [some (.box [Zcj]),some (.box [.arr 73]),some (.arr 1 (ss.length+1) (Zhc ss.length (Zbl true ss) (Zhu [Zbj true v_3.Points] 1))),some (Zaq rd'_3)] [inR .i64 (n_-1)] ⟨(Zad om om),trivial⟩ ?_
     refine Zcf [(790,73)] (T:=[(0,Sv s),(2,.ref 2 0),(8,.ref 7003 0),(9,.ref 9 0),(10,I (n_-1))]) (O:=[(2,.box [Zcj]),(9,.box [.arr 790]),(790,Zle true (ss++[v_3])),(7003,Zaq rd'_3)]) rfl (⟨.inl rfl,.inl rfl,.inl rfl,.inl rfl,.inl rfl,trivial⟩) (⟨.inl rfl,.inl rfl,.inr ⟨rfl,(by first|rfl|(simp;done)|(simp;omega)|omega),fun i_ hi_=> .inl (Zec (enc:=(Zhd true)) (xs:=ss) rfl i_ hi_)⟩,.inl rfl,trivial⟩) (Zay ((n_-1),rd'_3,(ss++[v_3])) rfl (show (0≤(n_-1)∧(n_-1)≤(x0.Strokes.length:Int))∧((ss++[v_3])=x0.Strokes.take (x0.Strokes.length-(n_-1)).toNat)∧(((ss++[v_3]).length:Int)=(x0.Strokes.length:Int)-(n_-1))∧(rd'_3.bits=v_1)∧(rd'_3.atx=((Zkb x0.Strokes (x0.Strokes.length-(n_-1)).toNat).size:Int))∧True from ⟨om,(by (rw [hjj,hsv,hss,List.take_succ_eq_append_getElem hj,←Zea hj])),(by (simp;omega)),(by exact hsb2),(by (rw [hjj];exact hsa2)),trivial⟩) (by first|(show ((n_-1).toNat:Nat)<n_.toNat;omega)|(dsimp only;omega)))
    have hfin:Ink.mk ss=x0:=by rw [hss,List.take_of_length_le om]
    refine x_r [(1,.dec false)] [0,2,8,9,10,65] [2,9,790,7003] [Sv s,.ref 2 0,.ref 7003 0,.ref 9 0,I n_,Bv false] [some (.box [Zcj]),some (.box [.arr 790]),some (Zle true ss),some (Zaq src)] [_] ⟨h1,trivial⟩ (Zab (Zbt rfl (Zcp (Zas ?_))))
    refine Zax ?_
    refine Zat (Zab (Zak (Zak ?_)))
    obtain ⟨v_4,hx4_0,hx4_1,hc4⟩:=Zoh (Ink.mk ss) (by rw [hfin];exact hok) (by rw [hfin];exact h6)
    have hen:=hx4_0
    have hes:v_4=s:=enc_fun (x:=x0) (by rw [←hfin];exact hen) hes0
    refine x_q [(6,.call [(false,.agg [Zap false ss])] true (Bv true)),(11,.call [(false,.agg [Zap false ss])] true (Sv v_4)),(13,.dec false)] [2,9,89] [2,9,790] [Con Tryz.prog 39 [.agg [Zap false ss]] true (Bv true)∧(((false=true→true=true)∧1=1∧ss.length=ss.length∧∀i_,i_<ss.length→(Zbl true ss) i_=(Zbl false ss) i_∨(AV.idsL ((Zbl false ss) i_)=[]∧leL (fun _=>none) false ((Zbl true ss) i_) ((Zbl false ss) i_)))∧([]:List AV)=[])∧True,_∧(((false=true→true=true)∧1=1∧ss.length=ss.length∧∀i_,i_<ss.length→(Zbl true ss) i_=(Zbl false ss) i_∨(AV.idsL ((Zbl false ss) i_)=[]∧leL (fun _=>none) false ((Zbl true ss) i_) ((Zbl false ss) i_)))∧([]:List AV)=[])∧True,¬ (v_4≠s)] ⟨⟨(Zau (by rw [hfin];exact hok) (Zps (Ink.mk ss))),⟨⟨(fun h=>by cases h),rfl,rfl,fun i _=> .inr ⟨Zgu _ _,Zij _ _ _⟩⟩,rfl⟩,trivial⟩,⟨hc4,⟨⟨(fun h=>by cases h),rfl,rfl,fun i _=> .inr ⟨Zgu _ _,Zij _ _ _⟩⟩,rfl⟩,trivial⟩,(fun hq=>hq hes),trivial⟩ (Zab (Zga (Zbd (Zab ?_))))
    refine xR [] [2,3] [2,790] [.ref 2 0,I 0] [some (.box [.arr 790]),some (Zle true ss)] [] trivial (Zdd ?_)
    refine Zbw ((Ink.mk ss),0) (show (∀x,Zcs x=true→(x.Strokes.length:Int)≤6→Zwi x s→(Ink.mk ss)=x)∧(0=0)∧(True) from ⟨(by exact fun y h1 h2 h3=>hfin.trans (enc_uniq hok h6 h1 h2 hes0 h3)),(by rfl),trivial⟩) (trivial) (.tup [.agg [.arr 790],I 0]) (by kernel_rfl) (.inr ⟨⟨⟨(fun _=>rfl),rfl,rfl,fun i _=> .inl rfl⟩,rfl⟩,⟨rfl,rfl⟩⟩) (fun _=>rfl) (fun _=>(by simp [Zai,Zaf,Zgv]))
  obtain ⟨⟨v,c⟩,⟨hh0,hh1,_⟩,hc⟩:=hh
  exact ⟨v,c,hh0,hh1,hc⟩
def Ztr {α:Type} [Inhabited α] [DecidableEq α] (a b:List α):Bool:=decide (a.length=b.length)&&Zng a.length (fun j=>decide (at_ a j=at_ b j))
theorem Ydd {α:Type} [Inhabited α] [DecidableEq α] (a:List α):Ztr a a=true:=by simp [Ztr,Zik]
def Zml (a b:Stroke):Bool:=Ztr a.Points b.Points
def Zja (a b:Ink):Bool:=decide (a.Strokes.length=b.Strokes.length)&&Zng a.Strokes.length (fun j=>Zml (at_ a.Strokes j) (at_ b.Strokes j))
theorem Yde (a:Ink):Zja a a=true:=by simp [Zja,Zml,Ydd,Zik]
theorem Zhl {a b:Ink} (h:a=b):Zja a b=true:=by rw [h];exact Yde b
theorem pt_ext {a b:Point} (h1:a.X=b.X) (h2:a.Y=b.Y) (h3:a.T=b.T):a=b:=by
 cases a;cases b;simp_all
theorem Zkc (a:Stroke) (b:Stroke):Con Tryz.prog 94 [.ptr false [Zbj false a.Points],.ptr false [Zbj false b.Points]] true (Bv (Zml a b)):=by
  refine Zcm (fn:=Tryz.f94) (nt:=41) Tryz.func94 rfl rfl rfl rfl (by simp [Zaf,Zai,Zil]) fun B hB=> ?_
  refine Zck (x:= .ptr false [Zbj false a.Points]) 0 rfl (fun len_a=> ?_)
  simp [Zei,Zhv,Zgw,Zdy,Zbj] at len_a
  refine Zck (x:= .ptr false [Zbj false b.Points]) 1 rfl (fun len_b=> ?_)
  simp [Zei,Zhv,Zgw,Zdy,Zbj] at len_b
  refine aQ [] [0,1] [] [] hB trivial (Zah (Zah ?_))
  by_cases h1:(a.Points.length:Int)=(b.Points.length:Int)
  ·have hlen:a.Points.length=b.Points.length:=by omega
   refine Zbn [(10,.dec false)] [0,1,16] [] [¬ ((a.Points.length:Int)≠(b.Points.length:Int))] hB ⟨(fun hq=>hq h1),trivial⟩ (Zac (Zbo (Zar (Zac (Zah ?_)))))
   refine aR [] [0,1,5] [] [.ptr false [Zbj false a.Points],.ptr false [Zbj false b.Points],I 0] [] [] hB trivial (Zbg ?_)
   refine Zdm (fun gn gσ=>∃(i:Int),gn=((a.Points.length:Int)-i).toNat∧(0≤i∧i≤(a.Points.length:Int))∧(∀j:Nat,(j:Int)<i→decide (at_ a.Points j=at_ b.Points j)=true)∧gσ=mkS [(0,.ptr false [Zbj false a.Points]),(1,.ptr false [Zbj false b.Points]),(5,I i)] []) (((a.Points.length:Int)-0).toNat) ⟨0,rfl,om,(by intro j hj;omega),rfl⟩ (fun gn gσ hI=> ?_)
   obtain ⟨i,rfl,hi0,hall0,rfl⟩:=hI
   refine Zah (Zah ?_)
   by_cases h2:i<(a.Points.length:Int)
   ·have hi:i.toNat<a.Points.length:=by omega
    refine Zbn [(6,.dec true)] [0,1,5,23] [] [_] hB ⟨h2,trivial⟩ (Zac (Zbr (Zar (Zac (Zah (Zbg (Zah ?_)))))))
    by_cases h3:((at_ a.Points i.toNat).X)=((at_ b.Points i.toNat).X)∧((at_ a.Points i.toNat).Y)=((at_ b.Points i.toNat).Y)∧((at_ a.Points i.toNat).T)=((at_ b.Points i.toNat).T)∧True
    ·have hok:decide (at_ a.Points i.toNat=at_ b.Points i.toNat)=true:=decide_eq_true (pt_ext h3.1 h3.2.1 h3.2.2.1)
     refine Zbn [(14,.dec false)] [0,1,5,40] [] [(0:Int)≤i∧i<(a.Points.length:Int),(0:Int)≤i∧i<(b.Points.length:Int),¬ (¬ (((at_ a.Points i.toNat).X)=((at_ b.Points i.toNat).X)∧((at_ a.Points i.toNat).Y)=((at_ b.Points i.toNat).Y)∧((at_ a.Points i.toNat).T)=((at_ b.Points i.toNat).T)∧True))] hB ⟨⟨om,om⟩,⟨om,om⟩,(fun hq=>hq h3),trivial⟩ (Zac (Zbo (Zar (Zbq 1 (Zac ?_)))))
     refine Zeo [] [0,1,5] [] [.ptr false [Zbj false a.Points],.ptr false [Zbj false b.Points],I (i+1)] [] [inR .i64 (i+1)] hB ⟨(Zad om om),trivial⟩ ?_
     exact Zbs _ om ⟨(i+1),rfl,om,(by intro j hj;by_cases ej:j=i.toNat;(subst ej;first|assumption|exact hok);exact hall0 j om),rfl⟩
    have hall:Zng a.Points.length (fun j=>decide (at_ a.Points j=at_ b.Points j))=false:=Zim hi (decide_eq_false (fun e=>h3 ⟨by rw [e],by rw [e],by rw [e],trivial⟩))
    refine Zbn [(14,.dec true)] [0,1,5,40] [] [(0:Int)≤i∧i<(a.Points.length:Int),(0:Int)≤i∧i<(b.Points.length:Int),_] hB ⟨⟨om,om⟩,⟨om,om⟩,h3,trivial⟩ (Zac (Zbr ?_))
    refine aR [] [4] [] [Bv false] [] [] hB trivial (Zan ?_)
    refine Zaz (Zaj (Zaj (Zaz (Zaj ?_))))
    refine Zao hB (Bv false) (by kernel_rfl) (.inl (by first|(simp [Zml,Ztr,hlen];done)|(unfold Zml Ztr;rw [hall];simp [hlen]))) rfl (fun _=>trivial)
   have hall:Zng a.Points.length (fun j=>decide (at_ a.Points j=at_ b.Points j))=true:=Zhe (fun j hj=>hall0 j om)
   refine Zbn [(6,.dec false)] [0,1,5,23] [] [_] hB ⟨h2,trivial⟩ (Zac (Zbo (Zcy (Zam (Zam (Zbi (Zac ?_)))))))
   refine aR [] [4] [] [Bv true] [] [] hB trivial (Zan ?_)
   refine Zao hB (Bv true) (by kernel_rfl) (.inl (by first|(simp [Zml,Ztr,hlen];done)|(unfold Zml Ztr;rw [hall];simp [hlen]))) rfl (fun _=>trivial)
  have hlen:¬ a.Points.length=b.Points.length:=by omega
  refine Zbn [(10,.dec true)] [0,1,16] [] [_] hB ⟨h1,trivial⟩ (Zac (Zbr ?_))
  refine aR [] [4] [] [Bv false] [] [] hB trivial (Zan (Zaj ?_))
  refine Zao hB (Bv false) (by kernel_rfl) (.inl (by first|(simp [Zml,Ztr,hlen];done)|(unfold Zml Ztr;rw [hall];simp [hlen]))) rfl (fun _=>trivial)
theorem Ydf (a:Ink) (b:Ink):Con Tryz.prog 46 [.ptr false [Zap false a.Strokes],.ptr false [Zap false b.Strokes]] true (Bv (Zja a b)):=by
  refine Zcm (fn:=Tryz.f46) (nt:=40) Tryz.func46 rfl rfl rfl rfl (by simp [Zaf,Zai,Zgv]) fun B hB=> ?_
  refine Zck (x:= .ptr false [Zap false a.Strokes]) 0 rfl (fun len_a=> ?_)
  simp [Zei,Zhv,Zgw,Zhd,Zdy,Zbl,Zbj,Zap] at len_a
  refine Zck (x:= .ptr false [Zap false b.Strokes]) 1 rfl (fun len_b=> ?_)
  simp [Zei,Zhv,Zgw,Zhd,Zdy,Zbl,Zbj,Zap] at len_b
  refine aQ [] [0,1] [] [] hB trivial (Zah (Zah ?_))
  by_cases h1:(a.Strokes.length:Int)=(b.Strokes.length:Int)
  ·have hlen:a.Strokes.length=b.Strokes.length:=by omega
   refine Zbn [(10,.dec false)] [0,1,16] [] [¬ ((a.Strokes.length:Int)≠(b.Strokes.length:Int))] hB ⟨(fun hq=>hq h1),trivial⟩ (Zac (Zbo (Zar (Zac (Zah ?_)))))
   refine aR [] [0,1,5] [] [.ptr false [Zap false a.Strokes],.ptr false [Zap false b.Strokes],I 0] [] [] hB trivial (Zbg ?_)
   refine Zdm (fun gn gσ=>∃(i:Int),gn=((a.Strokes.length:Int)-i).toNat∧(0≤i∧i≤(a.Strokes.length:Int))∧(∀j:Nat,(j:Int)<i→Zml (at_ a.Strokes j) (at_ b.Strokes j)=true)∧gσ=mkS [(0,.ptr false [Zap false a.Strokes]),(1,.ptr false [Zap false b.Strokes]),(5,I i)] []) (((a.Strokes.length:Int)-0).toNat) ⟨0,rfl,om,(by intro j hj;omega),rfl⟩ (fun gn gσ hI=> ?_)
   obtain ⟨i,rfl,hi0,hall0,rfl⟩:=hI
   refine Zah (Zah ?_)
   by_cases h2:i<(a.Strokes.length:Int)
   ·have hi:i.toNat<a.Strokes.length:=by omega
    have hi2:i.toNat<b.Strokes.length:=by omega
    refine Zbn [(6,.dec true)] [0,1,5,23] [] [_] hB ⟨h2,trivial⟩ (Zac (Zbr (Zar (Zac (Zah (Zbg (Zah ?_)))))))
    rcases Bool.eq_false_or_eq_true (Zml (at_ a.Strokes i.toNat) (at_ b.Strokes i.toNat)) with h3|h3
    ·have hok:Zml (at_ a.Strokes i.toNat) (at_ b.Strokes i.toNat)=true:=h3
     refine Zbn [(12,.call [(true,.any),(true,.any)] true (Bv true))] [0,1,5,39] [] [(0:Int)≤i∧i<(a.Strokes.length:Int),(0:Int)≤i∧i<(b.Strokes.length:Int),Con Tryz.prog 94 [.ptr false [Zbj false ((at_ a.Strokes i.toNat).Points)],.ptr false [Zbj false ((at_ b.Strokes i.toNat).Points)]] true (Bv true)∧True] hB ⟨⟨om,om⟩,⟨om,om⟩,⟨(Zau h3 (Zkc (at_ a.Strokes i.toNat) (at_ b.Strokes i.toNat))),trivial⟩,trivial⟩ (Zac (Zbo (Zar (Zbq 1 (Zac ?_)))))
     refine Zeo [] [0,1,5] [] [.ptr false [Zap false a.Strokes],.ptr false [Zap false b.Strokes],I (i+1)] [] [inR .i64 (i+1)] hB ⟨(Zad om om),trivial⟩ ?_
     exact Zbs _ om ⟨(i+1),rfl,om,(by intro j hj;by_cases ej:j=i.toNat;(subst ej;first|assumption|exact hok);exact hall0 j om),rfl⟩
    have hall:Zng a.Strokes.length (fun j=>Zml (at_ a.Strokes j) (at_ b.Strokes j))=false:=Zim hi (by simpa using h3)
    refine Zbn [(12,.call [(true,.any),(true,.any)] true (Bv false))] [0,1,5,39] [] [(0:Int)≤i∧i<(a.Strokes.length:Int),(0:Int)≤i∧i<(b.Strokes.length:Int),Con Tryz.prog 94 [.ptr false [Zbj false ((at_ a.Strokes i.toNat).Points)],.ptr false [Zbj false ((at_ b.Strokes i.toNat).Points)]] true (Bv false)∧True] hB ⟨⟨om,om⟩,⟨om,om⟩,⟨(Zau h3 (Zkc (at_ a.Strokes i.toNat) (at_ b.Strokes i.toNat))),trivial⟩,trivial⟩ (Zac (Zbr ?_))
    refine aR [] [4] [] [Bv false] [] [] hB trivial (Zan ?_)
    refine Zaz (Zaj (Zaj (Zaz (Zaj ?_))))
    refine Zao hB (Bv false) (by kernel_rfl) (.inl (by first|(simp [Zja,hlen];done)|(unfold Zja;rw [hall];simp [hlen]))) rfl (fun _=>trivial)
   have hall:Zng a.Strokes.length (fun j=>Zml (at_ a.Strokes j) (at_ b.Strokes j))=true:=Zhe (fun j hj=>hall0 j om)
   refine Zbn [(6,.dec false)] [0,1,5,23] [] [_] hB ⟨h2,trivial⟩ (Zac (Zbo (Zcy (Zam (Zam (Zbi (Zac ?_)))))))
   refine aR [] [4] [] [Bv true] [] [] hB trivial (Zan ?_)
   refine Zao hB (Bv true) (by kernel_rfl) (.inl (by first|(simp [Zja,hlen];done)|(unfold Zja;rw [hall];simp [hlen]))) rfl (fun _=>trivial)
  have hlen:¬ a.Strokes.length=b.Strokes.length:=by omega
  refine Zbn [(10,.dec true)] [0,1,16] [] [_] hB ⟨h1,trivial⟩ (Zac (Zbr ?_))
  refine aR [] [4] [] [Bv false] [] [] hB trivial (Zan (Zaj ?_))
  refine Zao hB (Bv false) (by kernel_rfl) (.inl (by first|(simp [Zja,hlen];done)|(unfold Zja;rw [hall];simp [hlen]))) rfl (fun _=>trivial)
theorem Zlp (a:Ink) (b:Ink):Con Tryz.prog 16 [.agg [Zap false a.Strokes],.agg [Zap false b.Strokes]] true (Bv (Zja a b)):=by
 refine Zcm (fn:=Tryz.f16) (nt:=6) Tryz.func16 rfl rfl rfl rfl (by simp [Zaf,Zai,Zgv]) fun B hB=> ?_
 refine Zck (x:= .agg [Zap false a.Strokes]) 0 rfl (fun len_a=> ?_)
 simp [Zei,Zhv,Zgw,Zhd,Zdy,Zbl,Zbj,Zap] at len_a
 refine Zck (x:= .agg [Zap false b.Strokes]) 1 rfl (fun len_b=> ?_)
 simp [Zei,Zhv,Zgw,Zhd,Zdy,Zbl,Zbj,Zap] at len_b
 refine aQ [(0,.new 2),(1,.new 3)] [2,3] [2,3] [] hB trivial ?_
 refine aR [(0,.call [(false,.ptr false [Zap false a.Strokes]),(false,.ptr false [Zap false b.Strokes])] true (Bv (Zja a b)))] [4] [] [Bv (Zja a b)] [] [_∧((false=true→true=true)∧AV.idsL [Zap false a.Strokes]=[]∧((false=true→false=true)∧1=1∧a.Strokes.length=a.Strokes.length∧∀i_,i_<a.Strokes.length→(Zbl false a.Strokes) i_=(Zbl false a.Strokes) i_∨(AV.idsL ((Zbl false a.Strokes) i_)=[]∧leL (fun _=>none) false ((Zbl false a.Strokes) i_) ((Zbl false a.Strokes) i_)))∧([]:List AV)=[])∧((false=true→true=true)∧AV.idsL [Zap false b.Strokes]=[]∧((false=true→false=true)∧1=1∧b.Strokes.length=b.Strokes.length∧∀i_,i_<b.Strokes.length→(Zbl false b.Strokes) i_=(Zbl false b.Strokes) i_∨(AV.idsL ((Zbl false b.Strokes) i_)=[]∧leL (fun _=>none) false ((Zbl false b.Strokes) i_) ((Zbl false b.Strokes) i_)))∧([]:List AV)=[])∧True] hB ⟨⟨(Ydf a b),⟨(fun h=>by cases h),rfl,⟨⟨(fun h=>by cases h),rfl,rfl,fun i _=> .inl rfl⟩,rfl⟩⟩,⟨(fun h=>by cases h),rfl,⟨⟨(fun h=>by cases h),rfl,rfl,fun i _=> .inl rfl⟩,rfl⟩⟩,trivial⟩,trivial⟩ (Zan ?_)
 refine Zao hB (Bv (Zja a b)) (by kernel_rfl) (.inl rfl) rfl (fun _=>trivial)
theorem Yfa (code:List Int) (more:List Int) (ok_code:∀y∈code,inR .u8 y) (ok_more:∀y∈more,inR .u8 y):Con Tryz.prog 3 [Zhw false code,Zhw false more] true (Bv true):=by
  refine Zcm (fn:=Tryz.f3) (nt:=194) Tryz.func3 rfl rfl rfl rfl (by simp [Zaf,Zai,Zcx]) fun B hB=> ?_
  refine Zck (x:=Zhw false code) 0 rfl (fun len_code=> ?_)
  simp [Zei,Zhv,cU8,fU8,Zhw] at len_code
  refine Zck (x:=Zhw false more) 1 rfl (fun len_more=> ?_)
  simp [Zei,Zhv,cU8,fU8,Zhw] at len_more
  refine aQ [] [0,1] [] [] hB trivial (Zah (Zah ?_))
  rcases Bool.eq_false_or_eq_true (decide (3000<(code.length:Int)∨3000<(more.length:Int))) with h1|h1
  ·refine Zbn [(2,.call [(true,.any),(true,.any)] true (Bv true))] [0,1,33] [] [Con Tryz.prog 4 [Zhw false code,Zhw false more] true (Bv true)∧True] hB ⟨⟨(Zau h1 (Zwm code more)),trivial⟩,trivial⟩ (Zac (Zbr ?_))
   refine aR [] [4] [] [Bv true] [] [] hB trivial (Zan (Zaj ?_))
   refine Zao hB (Bv true) (by kernel_rfl) (.inl rfl) rfl (fun _=>trivial)
  have hc:(∀j,j<code.length→0≤at_ code j∧at_ code j≤255)∧code.length≤4611686018427387904:=⟨fun j hj=>ok_code _ (Zca hj),by first|omega|(simp at h1;omega)⟩
  have hmore:(∀j,j<more.length→0≤at_ more j∧at_ more j≤255)∧more.length≤4611686018427387904:=⟨fun j hj=>ok_more _ (Zca hj),by first|omega|(simp at h1;omega)⟩
  refine Zbn [(2,.call [(true,.any),(true,.any)] true (Bv false))] [0,1,33] [] [Con Tryz.prog 4 [Zhw false code,Zhw false more] true (Bv false)∧True] hB ⟨⟨(Zau h1 (Zwm code more)),trivial⟩,trivial⟩ (Zac (Zbo (Zar (Zac (Zah ?_)))))
  obtain ⟨v_1,q_1,hx1_0,hx1_1,hx1_2,hc1⟩:=Zza code (by assumption)
  have hl:=hx1_0
  have hx:=hx1_1
  have hlc:=hx.1
  refine Zbn [(1,.call [(true,.any)] true (.tup [Zdt v_1,.agg [Zav true q_1.Entries]])),(5,.new 5),(6,.new 6)] [1,5,6] [5,6] [_∧True] hB ⟨⟨hc1,trivial⟩,trivial⟩ (Zac (Zah ?_))
  obtain ⟨v_2,c_2,hx2_0,hc2⟩:=Zpt v_1 q_1 hl hx
  have hfw:=hx2_0
  have hfp:c_2=0→tcF v_1 v_2.Word<1099511627776∧v_2.Path=tcF v_1 v_2.Word∧v_2.Own=entC q_1 v_2.Word∧(∃e∈q_1.Entries,e.Word=v_2.Word)∧v_2.Word.size≤10∧(0≤v_2.Path∧v_2.Path≤20000000)∧(0≤v_2.Own∧v_2.Own≤1000000):=fun q_=>fd_facts hl hx (by rcases hfw with q|q;(exact q.2.1);omega)
  refine Zbn [(2,.call [(false,Zcr v_1),(false,.agg [Zav false q_1.Entries])] true (.tup [Zpu v_2,I c_2])),(6,.new 7)] [1,5,6,7,8] [5,6,7] [_∧((Zcn (I v_1.Nodes)=Zcn (I v_1.Nodes))∧((false=true→true=true)∧4=4∧v_1.Edges.length=v_1.Edges.length∧∀i_,i_<v_1.Edges.length→(Zdq v_1.Edges) i_=(Zdq v_1.Edges) i_∨(AV.idsL ((Zdq v_1.Edges) i_)=[]∧leL (fun _=>none) false ((Zdq v_1.Edges) i_) ((Zdq v_1.Edges) i_)))∧([]:List AV)=[])∧(((false=true→true=true)∧2=2∧q_1.Entries.length=q_1.Entries.length∧∀i_,i_<q_1.Entries.length→(Zde q_1.Entries) i_=(Zde q_1.Entries) i_∨(AV.idsL ((Zde q_1.Entries) i_)=[]∧leL (fun _=>none) false ((Zde q_1.Entries) i_) ((Zde q_1.Entries) i_)))∧([]:List AV)=[])∧True] hB ⟨⟨hc2,⟨rfl,⟨⟨(fun h=>by cases h),rfl,rfl,fun i _=> .inl rfl⟩,rfl⟩⟩,⟨⟨(fun h=>by cases h),rfl,rfl,fun i _=> .inl rfl⟩,rfl⟩,trivial⟩,trivial⟩ (Zac (Zah (Zah ?_)))
  by_cases h2:c_2=0
  ·refine Zbn [(1,.dec false)] [1,5,6,7,8,50] [5,6,7] [¬ (c_2≠0)] hB ⟨(fun hq=>hq h2),trivial⟩ (Zac (Zbo (Zar (Zac (Zah ?_)))))
   refine aR [] [1,5,6,7,8,9] [5,6,7] [Zhw false more,.ref 5 0,.ref 6 0,.ref 7 0,I c_2,I 0] [some (Zct v_1),some (.box [Zav true q_1.Entries]),some (Zkk v_2)] [] hB trivial (Zbg ?_)
   refine Zdm (fun gn gσ=>∃(i:Int),gn=((q_1.Entries.length:Int)-i).toNat∧(0≤i∧i≤(q_1.Entries.length:Int))∧gσ=mkS [(1,Zhw false more),(5,.ref 5 0),(6,.ref 6 0),(7,.ref 7 0),(8,I c_2),(9,I i)] [(5,Zct v_1),(6,.box [Zav true q_1.Entries]),(7,Zkk v_2)]) (((q_1.Entries.length:Int)-0).toNat) ⟨0,rfl,om,rfl⟩ (fun gn gσ hI=> ?_)
   obtain ⟨i,rfl,hi0,rfl⟩:=hI
   refine Zah (Zah ?_)
   by_cases h3:i<(q_1.Entries.length:Int)
   ·have hi:i.toNat<q_1.Entries.length:=by omega
    have hen_:=hx.2.1 _ (Zca hi)
    have hwz:=(Zfv.1 hen_.1).1
    have hec_:=hen_.2
    have htb:=Yfb hl (at_ q_1.Entries i.toNat).Word
    have hrm:tcF v_1 (at_ q_1.Entries i.toNat).Word<1099511627776→c_2=0∧v_2.Path+v_2.Own≤tcF v_1 (at_ q_1.Entries i.toNat).Word+(at_ q_1.Entries i.toNat).Cost:=fun q_=>by have hm_:(⟨(at_ q_1.Entries i.toNat).Word,tcF v_1 (at_ q_1.Entries i.toNat).Word,(at_ q_1.Entries i.toNat).Cost⟩:Found)∈rdA v_1 q_1:=(Zzb hl hx).2 ⟨_,Zca hi,q_,rfl⟩;rcases hfw with q|q;(exact ⟨q.1,q.2.2 _ hm_⟩);(have:=List.length_pos_of_mem hm_;omega)
    refine Zbn [(4,.dec true)] [1,5,6,7,8,9,55] [5,6,7] [_] hB ⟨h3,trivial⟩ (Zac (Zbr (Zar (Zac (Zah (Zbg (Zah ?_)))))))
    obtain ⟨v_3,c_3,hx3_0,hc3⟩:=Zhx v_1 ((at_ q_1.Entries i.toNat).Word) hl om
    have htc:=hx3_0
    refine Zbn [(7,.call [(false,Zcr v_1),(true,.any)] true (.tup [I v_3,I c_3]))] [1,5,6,7,8,9,10,11] [5,6,7] [(0:Int)≤i∧i<(q_1.Entries.length:Int),_∧((Zcn (I v_1.Nodes)=Zcn (I v_1.Nodes))∧((false=true→true=true)∧4=4∧v_1.Edges.length=v_1.Edges.length∧∀i_,i_<v_1.Edges.length→(Zdq v_1.Edges) i_=(Zdq v_1.Edges) i_∨(AV.idsL ((Zdq v_1.Edges) i_)=[]∧leL (fun _=>none) false ((Zdq v_1.Edges) i_) ((Zdq v_1.Edges) i_)))∧([]:List AV)=[])∧True] hB ⟨⟨om,om⟩,⟨hc3,⟨rfl,⟨⟨(fun h=>by cases h),rfl,rfl,fun i _=> .inl rfl⟩,rfl⟩⟩,trivial⟩,trivial⟩ (Zac (Zah (Zah ?_)))
    by_cases h4:c_3=0
    ·have htq:v_3=tcF v_1 (at_ q_1.Entries i.toNat).Word∧tcF v_1 (at_ q_1.Entries i.toNat).Word<1099511627776:=by rcases htc with q|q;(exact q.2);omega
     have hrm2:=hrm htq.2
     have hfq:=hfp hrm2.1
     have hf1_:=hfq.2.2.2.2.2.1
     have hf2_:=hfq.2.2.2.2.2.2
     refine Zbn [(1,.dec false)] [1,5,6,7,8,9,10,70] [5,6,7] [¬ (c_3≠0)] hB ⟨(fun hq=>hq h4),trivial⟩ (Zac (Zbo (Zar (Zac (Zah ?_)))))
     by_cases h5:(v_3+((at_ q_1.Entries i.toNat).Cost))<(v_2.Path+v_2.Own)
     ·refine Zbn [(1,.dec false),(5,.call [(true,.any)] true (Bv true)),(11,.call [(true,.any)] true (Bv true)),(28,.dec true)] [1,5,6,7,8,9,100] [5,6,7] [¬ (c_2≠0),Con Tryz.prog 8 [I v_2.Path] true (Bv true)∧True,Con Tryz.prog 8 [I v_2.Own] true (Bv true)∧True,inR .i64 (v_2.Path+v_2.Own),(0:Int)≤i∧i<(q_1.Entries.length:Int),inR .i64 (v_3+((at_ q_1.Entries i.toNat).Cost)),_] hB ⟨(fun hq=>hq h2),⟨(Zau (by first|omega|exact decide_eq_true om) (Zlf v_2.Path)),trivial⟩,⟨(Zau (by first|omega|exact decide_eq_true om) (Zlf v_2.Own)),trivial⟩,(Zad om om),⟨om,om⟩,(Zad om om),h5,trivial⟩ (Zac (Zbr ?_))
      refine aR [] [4] [] [Bv false] [] [] hB trivial (Zan ?_)
      refine Zaz (Zaj (Zaj (Zaz (Zaj ?_))))
      refine Zao hB (Bv false) (by kernel_rfl) (.inl (by first|rfl|exact congrArg Bv (Zhl hbk)|(exfalso;omega)|(refine congrArg Bv ?_;simp [*];done)|(exfalso;simp_all;done)|(exfalso;rcases hfw with q|q<;>omega))) rfl (fun _=>trivial)
     refine Zbn [(1,.dec false),(5,.call [(true,.any)] true (Bv true)),(11,.call [(true,.any)] true (Bv true)),(28,.dec false)] [1,5,6,7,8,9,100] [5,6,7] [¬ (c_2≠0),Con Tryz.prog 8 [I v_2.Path] true (Bv true)∧True,Con Tryz.prog 8 [I v_2.Own] true (Bv true)∧True,inR .i64 (v_2.Path+v_2.Own),(0:Int)≤i∧i<(q_1.Entries.length:Int),inR .i64 (v_3+((at_ q_1.Entries i.toNat).Cost)),_] hB ⟨(fun hq=>hq h2),⟨(Zau (by first|omega|exact decide_eq_true om) (Zlf v_2.Path)),trivial⟩,⟨(Zau (by first|omega|exact decide_eq_true om) (Zlf v_2.Own)),trivial⟩,(Zad om om),⟨om,om⟩,(Zad om om),h5,trivial⟩ (Zac (Zbo (Zar (Zbq 1 (Zac ?_)))))
     refine Zeo [] [1,5,6,7,8,9] [5,6,7] [Zhw false more,.ref 5 0,.ref 6 0,.ref 7 0,I c_2,I (i+1)] [some (Zct v_1),some (.box [Zav true q_1.Entries]),some (Zkk v_2)] [inR .i64 (i+1)] hB ⟨(Zad om om),trivial⟩ ?_
     exact Zbs _ om ⟨(i+1),rfl,om,rfl⟩
    refine Zbn [(1,.dec true)] [1,5,6,7,8,9,10,70] [5,6,7] [_] hB ⟨h4,trivial⟩ (Zac (Zbr (Zcy (Zam (Zbi (Zac ?_))))))
    refine Zeo [] [1,5,6,7,8,9] [5,6,7] [Zhw false more,.ref 5 0,.ref 6 0,.ref 7 0,I c_2,I (i+1)] [some (Zct v_1),some (.box [Zav true q_1.Entries]),some (Zkk v_2)] [inR .i64 (i+1)] hB ⟨(Zad om om),trivial⟩ ?_
    exact Zbs _ om ⟨(i+1),rfl,om,rfl⟩
   refine Zbn [(4,.dec false)] [1,5,6,7,8,9,55] [5,6,7] [_] hB ⟨h3,trivial⟩ (Zac (Zbo (Zcy (Zam (Zam (Zbi (Zac (Zah ?_))))))))
   refine aQ [(1,.dec true)] [1,5,6,7,102] [5,6,7] [_] hB ⟨h2,trivial⟩ (Zbr (Zah ?_))
   obtain ⟨v_4,c_4,hx4_0,hc4⟩:=Zhx v_1 v_2.Word hl (by have:=(hfp (by assumption)).2.2.2.2.1;omega)
   have hfq:=hfp (by assumption)
   have htc2:=hx4_0
   have htc0:c_4=0∧v_4=v_2.Path:=by rcases htc2 with q|q;(exact ⟨q.1,q.2.1.trans hfq.2.1.symm⟩);exact absurd hfq.1 q.2
   refine Zbn [(3,.call [(false,Zcr v_1),(true,.any)] true (.tup [I v_4,I c_4]))] [1,6,7,12,13] [6,7] [_∧((Zcn (I v_1.Nodes)=Zcn (I v_1.Nodes))∧((false=true→true=true)∧4=4∧v_1.Edges.length=v_1.Edges.length∧∀i_,i_<v_1.Edges.length→(Zdq v_1.Edges) i_=(Zdq v_1.Edges) i_∨(AV.idsL ((Zdq v_1.Edges) i_)=[]∧leL (fun _=>none) false ((Zdq v_1.Edges) i_) ((Zdq v_1.Edges) i_)))∧([]:List AV)=[])∧True] hB ⟨⟨hc4,⟨rfl,⟨⟨(fun h=>by cases h),rfl,rfl,fun i _=> .inl rfl⟩,rfl⟩⟩,trivial⟩,trivial⟩ (Zac (Zah ?_))
   obtain ⟨v_5,c_5,hx5_0,hc5⟩:=Zow q_1 v_2.Word hx
   have hec:=hx5_0
   have hec0:c_5=0∧v_5=v_2.Own:=by rcases hec with q|q;(exact ⟨q.1,q.2.1.trans hfq.2.2.1.symm⟩);exact absurd hfq.2.2.2.1 (fun ⟨e,he,z⟩=>q.2 e he z)
   refine Zbn [(3,.call [(false,.agg [Zav false q_1.Entries]),(true,.any)] true (.tup [I v_5,I c_5]))] [1,7,12,13,14,15] [7] [_∧(((false=true→true=true)∧2=2∧q_1.Entries.length=q_1.Entries.length∧∀i_,i_<q_1.Entries.length→(Zde q_1.Entries) i_=(Zde q_1.Entries) i_∨(AV.idsL ((Zde q_1.Entries) i_)=[]∧leL (fun _=>none) false ((Zde q_1.Entries) i_) ((Zde q_1.Entries) i_)))∧([]:List AV)=[])∧True] hB ⟨⟨hc5,⟨⟨(fun h=>by cases h),rfl,rfl,fun i _=> .inl rfl⟩,rfl⟩,trivial⟩,trivial⟩ (Zac (Zah ?_))
   by_cases h6:c_4=0
   ·by_cases h7:c_5=0
    ·by_cases h8:v_4=v_2.Path
     ·by_cases h9:v_5=v_2.Own
      ·refine Zbn [(1,.dec false),(4,.dec false),(10,.dec false),(16,.dec false)] [1,134] [] [¬ (c_4≠0),¬ (c_5≠0),¬ (v_4≠v_2.Path),¬ (v_5≠v_2.Own)] hB ⟨(fun hq=>hq h6),(fun hq=>hq h7),(fun hq=>hq h8),(fun hq=>hq h9),trivial⟩ (Zac (Zbo (Zar (Zac (Zah ?_)))))
       obtain ⟨a_6,lists_6,band_6,hx6_0,hx6_1,hx6_2,hc6⟩:=Zsr more (by assumption)
       have oka:=hx6_0
       have hls:lists_6.length≤18∧∀l∈lists_6,Zbf l 72=true:=⟨by omega,hx6_1.2⟩
       have hbd:0≤band_6∧band_6≤72:=by omega
       refine Zbn [(1,.call [(true,.any)] true (.tup [Zag true a_6,Zbu true lists_6,I band_6]))] [1,16,17,18] [] [_∧True] hB ⟨⟨hc6,trivial⟩,trivial⟩ (Zac (Zah ?_))
       obtain ⟨index_7,least_7,many_7,c_7,hx7_0,hx7_1,hx7_2,hc7⟩:=Zkd a_6 lists_6 band_6 oka hls hbd
       have hr1:=hx7_0
       have hc1_:=hx7_1
       have hz1:=hx7_2
       refine Zbn [(3,.call [(false,Zag false a_6),(false,Zbu false lists_6),(true,.any)] true (.tup [I index_7,I least_7,I many_7,I c_7]))] [1,16,17,18,19,20,22] [] [_∧((false=true→true=true)∧3=3∧a_6.length=a_6.length∧∀i_,i_<a_6.length→(Zej a_6) i_=(Zej a_6) i_∨(AV.idsL ((Zej a_6) i_)=[]∧leL (fun _=>none) false ((Zej a_6) i_) ((Zej a_6) i_)))∧((false=true→true=true)∧1=1∧lists_6.length=lists_6.length∧∀i_,i_<lists_6.length→(Zes true lists_6) i_=(Zes false lists_6) i_∨(AV.idsL ((Zes false lists_6) i_)=[]∧leL (fun _=>none) false ((Zes true lists_6) i_) ((Zes false lists_6) i_)))∧True] hB ⟨⟨hc7,⟨(fun h=>by cases h),rfl,rfl,fun i _=> .inl rfl⟩,⟨(fun h=>by cases h),rfl,rfl,fun i _=> .inr ⟨Zpb _ _,Zts _ _ _⟩⟩,trivial⟩,trivial⟩ (Zac (Zah ?_))
       obtain ⟨index_8,least_8,c_8,hx8_0,hc8⟩:=Zke a_6 lists_6 band_6 oka hls hbd
       obtain ⟨m2,hr2,hc2_,hz2⟩:=hx8_0
       have hone:=nr_one hr1 hr2
       have hne:index_7=index_8∧least_7=least_8∧c_7=c_8:=by by_cases q:many_7=0;(have q2:=hone.1.1 q;have a:=hz1 q;have b:=hz2 q2;rw [hc1_,hc2_,if_pos q,if_pos q2];exact ⟨by omega,by omega,rfl⟩);(have q2:¬ m2=0:=fun z=>q (hone.1.2 z);have a:=hone.2 q;rw [hc1_,hc2_,if_neg q,if_neg q2];exact ⟨a.1,a.2,rfl⟩)
       refine Zbn [(3,.call [(false,Zag false a_6),(false,Zbu false lists_6),(true,.any)] true (.tup [I index_8,I least_8,I c_8]))] [1,19,20,22,23,24,25] [] [_∧((false=true→true=true)∧3=3∧a_6.length=a_6.length∧∀i_,i_<a_6.length→(Zej a_6) i_=(Zej a_6) i_∨(AV.idsL ((Zej a_6) i_)=[]∧leL (fun _=>none) false ((Zej a_6) i_) ((Zej a_6) i_)))∧((false=true→true=true)∧1=1∧lists_6.length=lists_6.length∧∀i_,i_<lists_6.length→(Zes true lists_6) i_=(Zes false lists_6) i_∨(AV.idsL ((Zes false lists_6) i_)=[]∧leL (fun _=>none) false ((Zes true lists_6) i_) ((Zes false lists_6) i_)))∧True] hB ⟨⟨hc8,⟨(fun h=>by cases h),rfl,rfl,fun i _=> .inl rfl⟩,⟨(fun h=>by cases h),rfl,rfl,fun i _=> .inr ⟨Zpb _ _,Zts _ _ _⟩⟩,trivial⟩,trivial⟩ (Zac (Zah ?_))
       refine aQ [(2,.dec false),(6,.dec false),(11,.dec false)] [1,170] [] [¬ (index_7≠index_8),¬ (least_7≠least_8),¬ (c_7≠c_8)] hB ⟨(fun hq=>hq hne.1),(fun hq=>hq hne.2.1),(fun hq=>hq hne.2.2),trivial⟩ (Zbo (Zar (Zac (Zah ?_))))
       obtain ⟨ik_9,hx9_0,hx9_1,hc9⟩:=Ybh more (by assumption)
       have hok:=hx9_0
       have h6:=hx9_1
       refine Zeo [(1,.call [(true,.any)] true (.agg [Zap true ik_9.Strokes])),(2,.new 26)] [26] [26] [.ref 26 0] [some (.box [Zap true ik_9.Strokes])] [_∧True] hB ⟨⟨hc9,trivial⟩,trivial⟩ (Zac (Zah ?_))
       obtain ⟨v_10,c_10,hx10_0,hx10_1,hx10_2,hc10⟩:=Zoi ik_9 hok h6
       have hen:=hx10_0
       have hez:=hx10_1
       have hc4_:=hx10_2
       refine Zbn [(1,.call [(false,.agg [Zap false ik_9.Strokes])] true (.tup [Sv v_10,I c_10]))] [26,27,28] [26] [_∧(((false=true→true=true)∧1=1∧ik_9.Strokes.length=ik_9.Strokes.length∧∀i_,i_<ik_9.Strokes.length→(Zbl true ik_9.Strokes) i_=(Zbl false ik_9.Strokes) i_∨(AV.idsL ((Zbl false ik_9.Strokes) i_)=[]∧leL (fun _=>none) false ((Zbl true ik_9.Strokes) i_) ((Zbl false ik_9.Strokes) i_)))∧([]:List AV)=[])∧True] hB ⟨⟨hc10,⟨⟨(fun h=>by cases h),rfl,rfl,fun i _=> .inr ⟨Zgu _ _,Zij _ _ _⟩⟩,rfl⟩,trivial⟩,trivial⟩ (Zac (Zah ?_))
       obtain ⟨v_11,c_11,hx11_0,hx11_1,hc11⟩:=Zog v_10 ⟨_,hok,h6,hen⟩
       have hbk:v_11=ik_9:=hx11_0 _ hok h6 hen
       have hc5_:=hx11_1
       refine Zbn [(1,.call [(true,.any)] true (.tup [.agg [Zap true v_11.Strokes],I c_11])),(5,.new 29)] [26,28,29,30] [26,29] [_∧True] hB ⟨⟨hc11,trivial⟩,trivial⟩ (Zac ?_)
       refine aR [(1,.dec true),(4,.dec true),(9,.call [(false,.agg [Zap false v_11.Strokes]),(false,.agg [Zap false ik_9.Strokes])] true (Bv (Zja v_11 ik_9)))] [4] [] [Bv (Zja v_11 ik_9)] [] [_,_,_∧(((false=true→true=true)∧1=1∧v_11.Strokes.length=v_11.Strokes.length∧∀i_,i_<v_11.Strokes.length→(Zbl true v_11.Strokes) i_=(Zbl false v_11.Strokes) i_∨(AV.idsL ((Zbl false v_11.Strokes) i_)=[]∧leL (fun _=>none) false ((Zbl true v_11.Strokes) i_) ((Zbl false v_11.Strokes) i_)))∧([]:List AV)=[])∧(((false=true→true=true)∧1=1∧ik_9.Strokes.length=ik_9.Strokes.length∧∀i_,i_<ik_9.Strokes.length→(Zbl true ik_9.Strokes) i_=(Zbl false ik_9.Strokes) i_∨(AV.idsL ((Zbl false ik_9.Strokes) i_)=[]∧leL (fun _=>none) false ((Zbl true ik_9.Strokes) i_) ((Zbl false ik_9.Strokes) i_)))∧([]:List AV)=[])∧True] hB ⟨hc4_,hc5_,⟨(Zlp v_11 ik_9),⟨⟨(fun h=>by cases h),rfl,rfl,fun i _=> .inr ⟨Zgu _ _,Zij _ _ _⟩⟩,rfl⟩,⟨⟨(fun h=>by cases h),rfl,rfl,fun i _=> .inr ⟨Zgu _ _,Zij _ _ _⟩⟩,rfl⟩,trivial⟩,trivial⟩ (Zan ?_)
       refine Zao hB (Bv (Zja v_11 ik_9)) (by kernel_rfl) (.inl (by first|rfl|exact congrArg Bv (Zhl hbk)|(exfalso;omega)|(refine congrArg Bv ?_;simp [*];done)|(exfalso;simp_all;done)|(exfalso;rcases hfw with q|q<;>omega))) rfl (fun _=>trivial)
      refine Zbn [(1,.dec false),(4,.dec false),(10,.dec false),(16,.dec true)] [1,134] [] [¬ (c_4≠0),¬ (c_5≠0),¬ (v_4≠v_2.Path),_] hB ⟨(fun hq=>hq h6),(fun hq=>hq h7),(fun hq=>hq h8),h9,trivial⟩ (Zac (Zbr ?_))
      refine aR [] [4] [] [Bv false] [] [] hB trivial (Zan (Zaj ?_))
      refine Zao hB (Bv false) (by kernel_rfl) (.inl (by first|rfl|exact congrArg Bv (Zhl hbk)|(exfalso;omega)|(refine congrArg Bv ?_;simp [*];done)|(exfalso;simp_all;done)|(exfalso;rcases hfw with q|q<;>omega))) rfl (fun _=>trivial)
     refine Zbn [(1,.dec false),(4,.dec false),(10,.dec true)] [1,134] [] [¬ (c_4≠0),¬ (c_5≠0),_] hB ⟨(fun hq=>hq h6),(fun hq=>hq h7),h8,trivial⟩ (Zac (Zbr ?_))
     refine aR [] [4] [] [Bv false] [] [] hB trivial (Zan (Zaj ?_))
     refine Zao hB (Bv false) (by kernel_rfl) (.inl (by first|rfl|exact congrArg Bv (Zhl hbk)|(exfalso;omega)|(refine congrArg Bv ?_;simp [*];done)|(exfalso;simp_all;done)|(exfalso;rcases hfw with q|q<;>omega))) rfl (fun _=>trivial)
    refine Zbn [(1,.dec false),(4,.dec true)] [1,134] [] [¬ (c_4≠0),_] hB ⟨(fun hq=>hq h6),h7,trivial⟩ (Zac (Zbr ?_))
    refine aR [] [4] [] [Bv false] [] [] hB trivial (Zan (Zaj ?_))
    refine Zao hB (Bv false) (by kernel_rfl) (.inl (by first|rfl|exact congrArg Bv (Zhl hbk)|(exfalso;omega)|(refine congrArg Bv ?_;simp [*];done)|(exfalso;simp_all;done)|(exfalso;rcases hfw with q|q<;>omega))) rfl (fun _=>trivial)
   refine Zbn [(1,.dec true)] [1,134] [] [_] hB ⟨h6,trivial⟩ (Zac (Zbr ?_))
   refine aR [] [4] [] [Bv false] [] [] hB trivial (Zan (Zaj ?_))
   refine Zao hB (Bv false) (by kernel_rfl) (.inl (by first|rfl|exact congrArg Bv (Zhl hbk)|(exfalso;omega)|(refine congrArg Bv ?_;simp [*];done)|(exfalso;simp_all;done)|(exfalso;rcases hfw with q|q<;>omega))) rfl (fun _=>trivial)
  by_cases h10:c_2=3
  ·refine Zbn [(1,.dec true),(4,.dec false)] [1,5,6,7,8,50] [5,6,7] [_,¬ (c_2≠3)] hB ⟨h2,(fun hq=>hq h10),trivial⟩ (Zac (Zbo (Zar (Zac (Zah ?_)))))
   refine aR [] [1,5,6,7,8,9] [5,6,7] [Zhw false more,.ref 5 0,.ref 6 0,.ref 7 0,I c_2,I 0] [some (Zct v_1),some (.box [Zav true q_1.Entries]),some (Zkk v_2)] [] hB trivial (Zbg ?_)
   refine Zdm (fun gn gσ=>∃(i:Int),gn=((q_1.Entries.length:Int)-i).toNat∧(0≤i∧i≤(q_1.Entries.length:Int))∧gσ=mkS [(1,Zhw false more),(5,.ref 5 0),(6,.ref 6 0),(7,.ref 7 0),(8,I c_2),(9,I i)] [(5,Zct v_1),(6,.box [Zav true q_1.Entries]),(7,Zkk v_2)]) (((q_1.Entries.length:Int)-0).toNat) ⟨0,rfl,om,rfl⟩ (fun gn gσ hI=> ?_)
   obtain ⟨i,rfl,hi0,rfl⟩:=hI
   refine Zah (Zah ?_)
   by_cases h11:i<(q_1.Entries.length:Int)
   ·have hi:i.toNat<q_1.Entries.length:=by omega
    have hen_:=hx.2.1 _ (Zca hi)
    have hwz:=(Zfv.1 hen_.1).1
    have hec_:=hen_.2
    have htb:=Yfb hl (at_ q_1.Entries i.toNat).Word
    have hrm:tcF v_1 (at_ q_1.Entries i.toNat).Word<1099511627776→c_2=0∧v_2.Path+v_2.Own≤tcF v_1 (at_ q_1.Entries i.toNat).Word+(at_ q_1.Entries i.toNat).Cost:=fun q_=>by have hm_:(⟨(at_ q_1.Entries i.toNat).Word,tcF v_1 (at_ q_1.Entries i.toNat).Word,(at_ q_1.Entries i.toNat).Cost⟩:Found)∈rdA v_1 q_1:=(Zzb hl hx).2 ⟨_,Zca hi,q_,rfl⟩;rcases hfw with q|q;(exact ⟨q.1,q.2.2 _ hm_⟩);(have:=List.length_pos_of_mem hm_;omega)
    refine Zbn [(4,.dec true)] [1,5,6,7,8,9,55] [5,6,7] [_] hB ⟨h11,trivial⟩ (Zac (Zbr (Zar (Zac (Zah (Zbg (Zah ?_)))))))
    obtain ⟨v_12,c_12,hx12_0,hc12⟩:=Zhx v_1 ((at_ q_1.Entries i.toNat).Word) hl om
    have htc:=hx12_0
    refine Zbn [(7,.call [(false,Zcr v_1),(true,.any)] true (.tup [I v_12,I c_12]))] [1,5,6,7,8,9,10,11] [5,6,7] [(0:Int)≤i∧i<(q_1.Entries.length:Int),_∧((Zcn (I v_1.Nodes)=Zcn (I v_1.Nodes))∧((false=true→true=true)∧4=4∧v_1.Edges.length=v_1.Edges.length∧∀i_,i_<v_1.Edges.length→(Zdq v_1.Edges) i_=(Zdq v_1.Edges) i_∨(AV.idsL ((Zdq v_1.Edges) i_)=[]∧leL (fun _=>none) false ((Zdq v_1.Edges) i_) ((Zdq v_1.Edges) i_)))∧([]:List AV)=[])∧True] hB ⟨⟨om,om⟩,⟨hc12,⟨rfl,⟨⟨(fun h=>by cases h),rfl,rfl,fun i _=> .inl rfl⟩,rfl⟩⟩,trivial⟩,trivial⟩ (Zac (Zah (Zah ?_)))
    by_cases h12:c_12=0
    ·have htq:v_12=tcF v_1 (at_ q_1.Entries i.toNat).Word∧tcF v_1 (at_ q_1.Entries i.toNat).Word<1099511627776:=by rcases htc with q|q;(exact q.2);omega
     have hrm2:=hrm htq.2
     have hfq:=hfp hrm2.1
     have hf1_:=hfq.2.2.2.2.2.1
     have hf2_:=hfq.2.2.2.2.2.2
     refine Zbn [(1,.dec false)] [1,5,6,7,8,9,10,70] [5,6,7] [¬ (c_12≠0)] hB ⟨(fun hq=>hq h12),trivial⟩ (Zac (Zbo (Zar (Zac ?_))))
     refine aQ [(1,.dec true)] [1,5,6,7,8,9,100] [5,6,7] [_] hB ⟨h2,trivial⟩ (Zbr ?_)
     refine aR [] [4] [] [Bv false] [] [] hB trivial (Zan ?_)
     refine Zaz (Zaj (Zaj (Zaz (Zaj ?_))))
     refine Zao hB (Bv false) (by kernel_rfl) (.inl (by first|rfl|exact congrArg Bv (Zhl hbk)|(exfalso;omega)|(refine congrArg Bv ?_;simp [*];done)|(exfalso;simp_all;done)|(exfalso;rcases hfw with q|q<;>omega))) rfl (fun _=>trivial)
    refine Zbn [(1,.dec true)] [1,5,6,7,8,9,10,70] [5,6,7] [_] hB ⟨h12,trivial⟩ (Zac (Zbr (Zcy (Zam (Zbi (Zac ?_))))))
    refine Zeo [] [1,5,6,7,8,9] [5,6,7] [Zhw false more,.ref 5 0,.ref 6 0,.ref 7 0,I c_2,I (i+1)] [some (Zct v_1),some (.box [Zav true q_1.Entries]),some (Zkk v_2)] [inR .i64 (i+1)] hB ⟨(Zad om om),trivial⟩ ?_
    exact Zbs _ om ⟨(i+1),rfl,om,rfl⟩
   refine Zbn [(4,.dec false)] [1,5,6,7,8,9,55] [5,6,7] [_] hB ⟨h11,trivial⟩ (Zac (Zbo (Zcy (Zam (Zam (Zbi (Zac (Zah ?_))))))))
   refine aQ [(1,.dec false)] [1,5,6,7,102] [5,6,7] [_] hB ⟨h2,trivial⟩ (Zbo (Zar (Zac (Zah ?_))))
   obtain ⟨a_13,lists_13,band_13,hx13_0,hx13_1,hx13_2,hc13⟩:=Zsr more (by assumption)
   have oka:=hx13_0
   have hls:lists_13.length≤18∧∀l∈lists_13,Zbf l 72=true:=⟨by omega,hx13_1.2⟩
   have hbd:0≤band_13∧band_13≤72:=by omega
   refine Zbn [(1,.call [(true,.any)] true (.tup [Zag true a_13,Zbu true lists_13,I band_13]))] [1,16,17,18] [] [_∧True] hB ⟨⟨hc13,trivial⟩,trivial⟩ (Zac (Zah ?_))
   obtain ⟨index_14,least_14,many_14,c_14,hx14_0,hx14_1,hx14_2,hc14⟩:=Zkd a_13 lists_13 band_13 oka hls hbd
   have hr1:=hx14_0
   have hc1_:=hx14_1
   have hz1:=hx14_2
   refine Zbn [(3,.call [(false,Zag false a_13),(false,Zbu false lists_13),(true,.any)] true (.tup [I index_14,I least_14,I many_14,I c_14]))] [1,16,17,18,19,20,22] [] [_∧((false=true→true=true)∧3=3∧a_13.length=a_13.length∧∀i_,i_<a_13.length→(Zej a_13) i_=(Zej a_13) i_∨(AV.idsL ((Zej a_13) i_)=[]∧leL (fun _=>none) false ((Zej a_13) i_) ((Zej a_13) i_)))∧((false=true→true=true)∧1=1∧lists_13.length=lists_13.length∧∀i_,i_<lists_13.length→(Zes true lists_13) i_=(Zes false lists_13) i_∨(AV.idsL ((Zes false lists_13) i_)=[]∧leL (fun _=>none) false ((Zes true lists_13) i_) ((Zes false lists_13) i_)))∧True] hB ⟨⟨hc14,⟨(fun h=>by cases h),rfl,rfl,fun i _=> .inl rfl⟩,⟨(fun h=>by cases h),rfl,rfl,fun i _=> .inr ⟨Zpb _ _,Zts _ _ _⟩⟩,trivial⟩,trivial⟩ (Zac (Zah ?_))
   obtain ⟨index_15,least_15,c_15,hx15_0,hc15⟩:=Zke a_13 lists_13 band_13 oka hls hbd
   obtain ⟨m2,hr2,hc2_,hz2⟩:=hx15_0
   have hone:=nr_one hr1 hr2
   have hne:index_14=index_15∧least_14=least_15∧c_14=c_15:=by by_cases q:many_14=0;(have q2:=hone.1.1 q;have a:=hz1 q;have b:=hz2 q2;rw [hc1_,hc2_,if_pos q,if_pos q2];exact ⟨by omega,by omega,rfl⟩);(have q2:¬ m2=0:=fun z=>q (hone.1.2 z);have a:=hone.2 q;rw [hc1_,hc2_,if_neg q,if_neg q2];exact ⟨a.1,a.2,rfl⟩)
   refine Zbn [(3,.call [(false,Zag false a_13),(false,Zbu false lists_13),(true,.any)] true (.tup [I index_15,I least_15,I c_15]))] [1,19,20,22,23,24,25] [] [_∧((false=true→true=true)∧3=3∧a_13.length=a_13.length∧∀i_,i_<a_13.length→(Zej a_13) i_=(Zej a_13) i_∨(AV.idsL ((Zej a_13) i_)=[]∧leL (fun _=>none) false ((Zej a_13) i_) ((Zej a_13) i_)))∧((false=true→true=true)∧1=1∧lists_13.length=lists_13.length∧∀i_,i_<lists_13.length→(Zes true lists_13) i_=(Zes false lists_13) i_∨(AV.idsL ((Zes false lists_13) i_)=[]∧leL (fun _=>none) false ((Zes true lists_13) i_) ((Zes false lists_13) i_)))∧True] hB ⟨⟨hc15,⟨(fun h=>by cases h),rfl,rfl,fun i _=> .inl rfl⟩,⟨(fun h=>by cases h),rfl,rfl,fun i _=> .inr ⟨Zpb _ _,Zts _ _ _⟩⟩,trivial⟩,trivial⟩ (Zac (Zah ?_))
   refine aQ [(2,.dec false),(6,.dec false),(11,.dec false)] [1,170] [] [¬ (index_14≠index_15),¬ (least_14≠least_15),¬ (c_14≠c_15)] hB ⟨(fun hq=>hq hne.1),(fun hq=>hq hne.2.1),(fun hq=>hq hne.2.2),trivial⟩ (Zbo (Zar (Zac (Zah ?_))))
   obtain ⟨ik_16,hx16_0,hx16_1,hc16⟩:=Ybh more (by assumption)
   have hok:=hx16_0
   have h6:=hx16_1
   refine Zbn [(1,.call [(true,.any)] true (.agg [Zap true ik_16.Strokes])),(2,.new 26)] [26] [26] [_∧True] hB ⟨⟨hc16,trivial⟩,trivial⟩ (Zac (Zah ?_))
   obtain ⟨v_17,c_17,hx17_0,hx17_1,hx17_2,hc17⟩:=Zoi ik_16 hok h6
   have hen:=hx17_0
   have hez:=hx17_1
   have hc4_:=hx17_2
   refine Zbn [(1,.call [(false,.agg [Zap false ik_16.Strokes])] true (.tup [Sv v_17,I c_17]))] [26,27,28] [26] [_∧(((false=true→true=true)∧1=1∧ik_16.Strokes.length=ik_16.Strokes.length∧∀i_,i_<ik_16.Strokes.length→(Zbl true ik_16.Strokes) i_=(Zbl false ik_16.Strokes) i_∨(AV.idsL ((Zbl false ik_16.Strokes) i_)=[]∧leL (fun _=>none) false ((Zbl true ik_16.Strokes) i_) ((Zbl false ik_16.Strokes) i_)))∧([]:List AV)=[])∧True] hB ⟨⟨hc17,⟨⟨(fun h=>by cases h),rfl,rfl,fun i _=> .inr ⟨Zgu _ _,Zij _ _ _⟩⟩,rfl⟩,trivial⟩,trivial⟩ (Zac (Zah ?_))
   obtain ⟨v_18,c_18,hx18_0,hx18_1,hc18⟩:=Zog v_17 ⟨_,hok,h6,hen⟩
   have hbk:v_18=ik_16:=hx18_0 _ hok h6 hen
   have hc5_:=hx18_1
   refine Zbn [(1,.call [(true,.any)] true (.tup [.agg [Zap true v_18.Strokes],I c_18])),(5,.new 29)] [26,28,29,30] [26,29] [_∧True] hB ⟨⟨hc18,trivial⟩,trivial⟩ (Zac ?_)
   refine aR [(1,.dec true),(4,.dec true),(9,.call [(false,.agg [Zap false v_18.Strokes]),(false,.agg [Zap false ik_16.Strokes])] true (Bv (Zja v_18 ik_16)))] [4] [] [Bv (Zja v_18 ik_16)] [] [_,_,_∧(((false=true→true=true)∧1=1∧v_18.Strokes.length=v_18.Strokes.length∧∀i_,i_<v_18.Strokes.length→(Zbl true v_18.Strokes) i_=(Zbl false v_18.Strokes) i_∨(AV.idsL ((Zbl false v_18.Strokes) i_)=[]∧leL (fun _=>none) false ((Zbl true v_18.Strokes) i_) ((Zbl false v_18.Strokes) i_)))∧([]:List AV)=[])∧(((false=true→true=true)∧1=1∧ik_16.Strokes.length=ik_16.Strokes.length∧∀i_,i_<ik_16.Strokes.length→(Zbl true ik_16.Strokes) i_=(Zbl false ik_16.Strokes) i_∨(AV.idsL ((Zbl false ik_16.Strokes) i_)=[]∧leL (fun _=>none) false ((Zbl true ik_16.Strokes) i_) ((Zbl false ik_16.Strokes) i_)))∧([]:List AV)=[])∧True] hB ⟨hc4_,hc5_,⟨(Zlp v_18 ik_16),⟨⟨(fun h=>by cases h),rfl,rfl,fun i _=> .inr ⟨Zgu _ _,Zij _ _ _⟩⟩,rfl⟩,⟨⟨(fun h=>by cases h),rfl,rfl,fun i _=> .inr ⟨Zgu _ _,Zij _ _ _⟩⟩,rfl⟩,trivial⟩,trivial⟩ (Zan ?_)
   refine Zao hB (Bv (Zja v_18 ik_16)) (by kernel_rfl) (.inl (by first|rfl|exact congrArg Bv (Zhl hbk)|(exfalso;omega)|(refine congrArg Bv ?_;simp [*];done)|(exfalso;simp_all;done)|(exfalso;rcases hfw with q|q<;>omega))) rfl (fun _=>trivial)
  refine Zbn [(1,.dec true),(4,.dec true)] [1,5,6,7,8,50] [5,6,7] [_,_] hB ⟨h2,h10,trivial⟩ (Zac (Zbr ?_))
  refine aR [] [4] [] [Bv false] [] [] hB trivial (Zan (Zaj ?_))
  refine Zao hB (Bv false) (by kernel_rfl) (.inl (by first|rfl|exact congrArg Bv (Zhl hbk)|(exfalso;omega)|(refine congrArg Bv ?_;simp [*];done)|(exfalso;simp_all;done)|(exfalso;rcases hfw with q|q<;>omega))) rfl (fun _=>trivial)
theorem Zwn:Ybi Tryz.prog 22 (cLU8 false) (fun xs=>∀y∈xs,inR .u8 y):=
 Zwo (c:=cU8) (sz:=1) Tryz.underlying22 (by kernel_rfl) (by decide) (fun x=>⟨rfl,by simp [Zrx,cU8]⟩) (Ydg Tryz.underlying5)
namespace fnTop
set_option maxRecDepth 100000 in
theorem lifted (os:Os) (started:os.Started) (H:Type) (enc:TypeId×Value→H):
  ReturnsInHanded {} Tryz.checked os 3 .any (fun w args=>(Rows.fnTopSpec.pre enc Tryz.prog Tryz.f3 Rows.fnTopRow.domain false w args∧laidMetH Tryz.prog Rows.fnTopRow.laid w)∧sizedMet enc Tryz.prog Tryz.f3 (OpenSpec.ofChange Rows.fnTopSpec) false w args)
   (Rows.fnTopSpec.post enc Tryz.prog Tryz.f3 false true false false):=by
 refine returnsInHanded_of_change_and (C:=Tryz.checked) (X:=fun w _=>laidMetH Tryz.prog Rows.fnTopRow.laid w) (fun _ _ _ hh h=>h.of_heap hh) Tryz.own started (by kernel_rfl) Tryz.func3
  (ChangeSpec.witness_shaped (enc:=enc) (C:=Tryz.checked) (os:=os) (X:=fun w _=>laidMetH Tryz.prog Rows.fnTopRow.laid w) false (World.laidAll Tryz.prog os Rows.fnTopRow.laid) #[.slice none 0 0,.slice none 0 0] 8 (World.laidAll_os _ _ _)
   (World.shaped_of_ZipB (by kernel_rfl) (by kernel_rfl)) (by kernel_rfl) (by kernel_rfl) (by kernel_rfl)
   (by rw [MakeChecks.laidMetH_plain _ _ _ (by kernel_rfl)];exact laidMet_laidAll _ (by kernel_rfl) (by kernel_rfl))) ?_
 intro W base args ds gs before hval0 hW hcnd hsz hL _
 have hW':=hW
 obtain ⟨p,q,hA0,hV,rfl,hfz,hnd⟩:=hW
 have hval:∀(j:Nat) t v,Tryz.f3.params[j]? =some t→args[j]? =some v→Value.okWide Tryz.prog W .any base t v:=hval0
 have hA:DataW.TrodAll enc Tryz.prog W 0 (fun _=>true) true Tryz.f3.params.toList args.toList ds p:=hA0
 rw [Tryz.params3] at hA hval
 obtain ⟨v0,vs0,d0,ds0,p0,q0,hargs,rfl,rfl,h0,r0⟩:=trodAll_cons hA
 obtain ⟨v1,vs1,d1,ds1,p1,q1,rfl,rfl,rfl,h1,r1⟩:=trodAll_cons r0
 obtain ⟨rfl,rfl,rfl⟩:=trodAll_nil r1
 obtain rfl:args=#[v0,v1]:=args_eq hargs
 obtain ⟨rfl,rfl⟩:=trodVars_none hV
 obtain ⟨fuel0,hf0⟩:=h0
 obtain ⟨A0,l0,c0,rfl⟩:=okWide_slice Tryz.underlying22 (hval 0 22 v0 rfl rfl)
 obtain ⟨x0,rx0,ok0⟩:=(Zwn) enc W 0 _ _ _ _ _ hf0
 obtain ⟨fuel1,hf1⟩:=h1
 obtain ⟨A1,l1,c1,rfl⟩:=okWide_slice Tryz.underlying22 (hval 1 22 v1 rfl rfl)
 obtain ⟨x1,rx1,ok1⟩:=(Zwn) enc W 0 _ _ _ _ _ hf1
 refine (walk_of0 (Yfa x0 x1 ok0 ok1) (fun w _=>WX_free w) (RelTL.cons (Zwp rx0) (RelTL.cons (Zwp rx1) RelTL.nil))).mono fun e W1 ⟨he,hb⟩=> ?_
 subst he
 exact ⟨_,rfl,law_post Tryz.laidOut rfl Tryz.underlying4 (of_decide_eq_true (by kernel_rfl)) rfl hW' hb rfl⟩
theorem jf0:(Rows.fnTopRow.inPlace==Tryz.pinned.checked.prog.inPlace 3)=true:=by kernel_rfl
theorem jf1:(Rows.fnTopRow.unfollowed==Tryz.pinned.checked.prog.unfollowed 3)=true:=by kernel_rfl
theorem jf2:(Rows.fnTopRow.recurses==Tryz.pinned.checked.prog.recurses 3)=true:=by kernel_rfl
theorem jf3:(Rows.fnTopRow.named==Tryz.pinned.checked.prog.varsNamed 3)=true:=by kernel_rfl
theorem jf:joinedFacts Tryz.pinned.checked.prog 3 Tryz.f3 Rows.fnTopSpec Rows.fnTopRow=true:=by
 unfold joinedFacts
 rw [jf0,jf1,jf2,jf3]
 kernel_rfl
theorem over:Rows.fnTopRow.holds Tryz.pinned (OpenSpec.ofChange Rows.fnTopSpec):=
 OpenClaim.holds_of_wide 3 Tryz.f3 rfl rfl rfl rfl rfl rfl rfl ⟨rfl,rfl,rfl,rfl,rfl⟩ rfl rfl rfl rfl rfl (by kernel_rfl) Tryz.func3 jf
  (of_decide_eq_true (by kernel_rfl)) (by unfold Func.isWrapper;first|(rw [if_pos (by decide+kernel)];kernel_rfl)|(rw [if_neg (by decide+kernel)];exact ⟨rfl,rfl⟩))
  (fun os started H enc _=>lifted os started H enc)
theorem proved:Rows.FnTopCardSaid:=
 Claim7.holds_tied_plain_at .later [] [.data,.pinned] true (true, "04435f0892acf6ada2b0dc1887dd77c5447f44cd2564a86d1f1111f92d694557") false over (fun _ h=>by cases h) (by kernel_rfl) (fun _ h=>by cases h) fnTop_row_tie rfl ⟨rfl,rfl⟩ (by kernel_rfl) rfl
  (fun f fn hf hfn=>by
   obtain rfl:f=3:=Option.some.inj ((show Tryz.prog.funcNamed "loop.example/g00918/laws.FnTop" =some 3 by kernel_rfl).symm.trans hf)|>.symm
   obtain rfl:fn=Tryz.f3:=(Option.some.inj (Tryz.func3.symm.trans hfn)).symm
   exact ⟨by kernel_rfl,fun j t ht=>by
    rw [Tryz.params3] at ht
    have hm:t∈ [22,22]:=by simpa using Array.mem_of_getElem? ht
    have hall:([22,22].all fun u=> !Tryz.prog.wantsStandIn u)=true:=by kernel_rfl
    exact (show Tryz.prog.wantsStandIn t=false by simpa using List.all_eq_true.1 hall t hm)⟩)
  (by kernel_rfl)
#print axioms proved
end fnTop
end Go.Proofs.YtomafbpfgpkolaaGreatDoor.Ax
