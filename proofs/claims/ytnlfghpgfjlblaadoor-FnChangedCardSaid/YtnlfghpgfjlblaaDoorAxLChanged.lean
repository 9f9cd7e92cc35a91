/- The statement FnChanged: contracts of what it reaches, and its proof. No conditions. -/
import Derived.Test.YtnlfghpgfjlblaaDoorAxLChanged2
import Derived.LaidMore
import Derived.Lay
import Derived.Lib.Repeat
import Derived.OpenShut
import Derived.SevenTiedAt
import Derived.Shelf.Strings.SlTrimAscii
import Derived.Stop.Joined
import Derived.Test.YtnlfghpgfjlblaaDoorAxBd
namespace Go.Proofs.YtnlfghpgfjlblaaDoor.Ax
open Go.RowKit Go.ChangeShapes Go.WideShapes
set_option linter.unusedVariables false
set_option linter.unusedSimpArgs false
theorem rdStk_ok (rd:reader) (hok:Zdn rd.bits=true) (hp:0≤rd.atx∧rd.atx≤(rd.bits.size:Int)):∃(v:Stroke) (rd':reader),(rd'.bits=rd.bits)∧(0≤rd'.atx∧rd'.atx≤(rd.bits.size:Int))∧Zao Tryd.prog 19 [.ref 7003 0] (Zac [(7003,Zag rd)]) true (.agg [Zaq true v.Points]) (Zac [(7003,Zag rd')]):=by
  have hsz:=(Zcy.1 hok).1
  have hh:∃r:Stroke×reader,((r.2.bits=rd.bits)∧(0≤r.2.atx∧r.2.atx≤(rd.bits.size:Int))∧(True))∧Zao Tryd.prog 19 [.ref 7003 0] (Zac [(7003,Zag rd)]) true (.agg [Zaq true r.1.Points]) (Zac [(7003,Zag r.2)]):=by
    refine Zdt (Φ:=fun r:Stroke×reader=>(r.2.bits=rd.bits)∧(0≤r.2.atx∧r.2.atx≤(rd.bits.size:Int))∧(True)) [(7003,Zag rd)] (fun r=>[(7003,Zag r.2)]) (fn:=Tryd.f19) (nt:=50) Tryd.func19 rfl rfl (args:=[.ref 7003 0]) rfl (Zca (.inr trivial) Zdu) (res:=fun r=> .agg [Zaq true r.1.Points]) ?_
    refine xQ [(0,.new 2)] [0,2] [2,7003] [] trivial (Zal ?_)
    obtain ⟨v_1,rd'_1,hx1_0,hx1_1,hx1_2,hx1_3,hx1_4,hc1⟩:=Zmo rd 8 hok hp om
    have hcb:=hx1_0
    have hb0_:rd'_1.bits=rd.bits:=hx1_2
    have hok0:Zdn rd'_1.bits=true:=by rw [hb0_];exact hok
    have hp0_:0≤rd'_1.atx∧rd'_1.atx≤(rd'_1.bits.size:Int):=by rw [hb0_];exact hx1_3
    refine x_q [(1,.lend [(7003,Zag rd,Zag rd'_1)] [] [(true,.any),(true,.any)] true (I v_1))] [0,2,3] [2,7003] [Zao Tryd.prog 18 [.ref 7003 0,I 8] (Zac [(7003,Zag rd)]) true (I v_1) (Zac [(7003,Zag rd'_1)])∧(((Zag rd:Ob)=Zag rd∨Zed Zdl true (Zag rd) (Zag rd))∧Zai false (Zag rd))∧True] ⟨⟨hc1,⟨.inl rfl,(by simp [Zai,Zae,Zah])⟩,trivial⟩,trivial⟩ (Zab (Zal ?_))
    obtain ⟨v_2,rd'_2,hx2_0,hx2_1,hx2_2,hx2_3,hc2⟩:=Zmp rd'_1 v_1 hok0 hp0_ om
    have hl0_:=hx2_0
    have hb1_:rd'_2.bits=rd.bits:=(hx2_1).trans hb0_
    have hok1:Zdn rd'_2.bits=true:=by rw [hb1_];exact hok
    have hp1_:0≤rd'_2.atx∧rd'_2.atx≤(rd'_2.bits.size:Int):=by rw [hx2_1];exact hx2_2
    have hq0_:=hx2_3
    obtain ⟨v_3,rd'_3,hx3_0,hx3_1,hx3_2,hx3_3,hc3⟩:=Zmp rd'_2 v_1 hok1 hp1_ om
    have hl1_:=hx3_0
    have hb2_:rd'_3.bits=rd.bits:=(hx3_1).trans hb1_
    have hok2:Zdn rd'_3.bits=true:=by rw [hb2_];exact hok
    have hp2_:0≤rd'_3.atx∧rd'_3.atx≤(rd'_3.bits.size:Int):=by rw [hx3_1];exact hx3_2
    have hq1_:=hx3_3
    obtain ⟨v_4,rd'_4,hx4_0,hx4_1,hx4_2,hx4_3,hc4⟩:=Zmp rd'_3 v_1 hok2 hp2_ om
    have hl2_:=hx4_0
    have hb3_:rd'_4.bits=rd.bits:=(hx4_1).trans hb2_
    have hok3:Zdn rd'_4.bits=true:=by rw [hb3_];exact hok
    have hp3_:0≤rd'_4.atx∧rd'_4.atx≤(rd'_4.bits.size:Int):=by rw [hx4_1];exact hx4_2
    have hq2_:=hx4_3
    refine x_q [(2,.lend [(7003,Zag rd'_1,Zag rd'_2)] [] [(true,.any),(true,.any)] true (slI true v_2)),(5,.lend [(7003,Zag rd'_2,Zag rd'_3)] [] [(true,.any),(true,.any)] true (slI true v_3)),(8,.lend [(7003,Zag rd'_3,Zag rd'_4)] [] [(true,.any),(true,.any)] true (slI true v_4))] [0,2,4,5,6] [2,7003] [Zao Tryd.prog 36 [.ref 7003 0,I v_1] (Zac [(7003,Zag rd'_1)]) true (slI true v_2) (Zac [(7003,Zag rd'_2)])∧(((Zag rd'_1:Ob)=Zag rd'_1∨Zed Zdl true (Zag rd'_1) (Zag rd'_1))∧Zai false (Zag rd'_1))∧True,Zao Tryd.prog 36 [.ref 7003 0,I v_1] (Zac [(7003,Zag rd'_2)]) true (slI true v_3) (Zac [(7003,Zag rd'_3)])∧(((Zag rd'_2:Ob)=Zag rd'_2∨Zed Zdl true (Zag rd'_2) (Zag rd'_2))∧Zai false (Zag rd'_2))∧True,Zao Tryd.prog 36 [.ref 7003 0,I v_1] (Zac [(7003,Zag rd'_3)]) true (slI true v_4) (Zac [(7003,Zag rd'_4)])∧(((Zag rd'_3:Ob)=Zag rd'_3∨Zed Zdl true (Zag rd'_3) (Zag rd'_3))∧Zai false (Zag rd'_3))∧True] ⟨⟨hc2,⟨.inl rfl,(by simp [Zai,Zae,Zah])⟩,trivial⟩,⟨hc3,⟨.inl rfl,(by simp [Zai,Zae,Zah])⟩,trivial⟩,⟨hc4,⟨.inl rfl,(by simp [Zai,Zae,Zah])⟩,trivial⟩,trivial⟩ (Zab (Zal (Zal ?_)))
    by_cases h1:rd'_4.broken=true
    ·refine x_r [(3,.as (Bv true))] [2,4,5,6,23] [2,7003] [.ref 2 0,slI true v_2,slI true v_3,slI true v_4,Bv true] [some (.box [Zcb]),some (Zag rd'_4)] [[Bv rd'_4.broken]=[Bv true]] ⟨(show [Bv rd'_4.broken]=[Bv true] from by rw [show rd'_4.broken=true from h1]),trivial⟩ (Zab (Zux rfl ?_))
     refine xR [] [2] [2,7003] [.ref 2 0] [some (.box [Zcb]),some (Zag rd'_4)] [] trivial (Zcw (Zar ?_))
     refine Zbw ((Stroke.mk ([]:List Point)),rd'_4) (show (rd'_4.bits=rd.bits)∧(0≤rd'_4.atx∧rd'_4.atx≤(rd.bits.size:Int))∧(True) from ⟨(by exact hb3_),(by (rw [←hb3_];exact hp3_)),trivial⟩) (⟨.inl rfl,trivial⟩) (.agg [Zcb]) (by kernel_rfl) (.inr ⟨⟨rfl,rfl⟩,rfl⟩) (fun _=>rfl) (fun _=>(by simp [Zah,Zae,Zfm]))
    have hz2:=hq2_ (Bool.eq_false_iff.2 h1)
    have hz1:=hq1_ hz2.1
    have hz0:=hq0_ hz1.1
    refine x_q [(3,.as (Bv false))] [2,4,5,6,23] [2,7003] [[Bv rd'_4.broken]=[Bv false]] ⟨(show [Bv rd'_4.broken]=[Bv false] from by rw [show rd'_4.broken=false from Bool.eq_false_iff.2 h1]),trivial⟩ (Zab (Zjn (Zbr (Zab ?_))))
    refine xQ [(0,.new 7)] [2,4,5,6,7] [2,7,7003] [] trivial (Zal ?_)
    refine xR [] [2,4,5,6,7,26,27] [2,7,7003] [.ref 2 0,slI true v_2,slI true v_3,slI true v_4,.ref 7 0,I (v_2.length:Int),I 0] [some (.box [Zcb]),some (.box [Zcb]),some (Zag rd'_4)] [] trivial (Zbl ?_)
    refine Zje 7 0 770 3 (fun _=>[]) rfl (by kernel_rfl) ?_
    refine Zhq [] (T:=[(2,.ref 2 0),(4,slI true v_2),(5,slI true v_3),(6,slI true v_4),(7,.ref 7 0),(26,I (v_2.length:Int)),(27,I 0)]) (O:=[(2,.box [Zcb]),(7,.box [.arr 770]),(770,Zcl ([]:List Point)),(7003,Zag rd'_4)]) rfl (⟨.inl rfl,.inl rfl,.inl rfl,.inl rfl,.inl rfl,.inl rfl,.inl rfl,trivial⟩) (⟨.inl rfl,.inl rfl,.inr ⟨rfl,(by first|rfl|(simp;done)|(simp;omega)|omega),fun i_ hi_=>absurd hi_ (Nat.not_lt_zero _)⟩,.inl rfl,trivial⟩) ?_
    refine Zee (X:=Int×(List Point)) (fun x=>mkS [(2,.ref 2 0),(4,slI true v_2),(5,slI true v_3),(6,slI true v_4),(7,.ref 7 0),(26,I (v_2.length:Int)),(27,I x.1)] [(2,.box [Zcb]),(7,.box [.arr 770]),(770,Zcl x.2),(7003,Zag rd'_4)]) (fun x=>(0≤x.1∧x.1≤(v_2.length:Int))∧((x.2.length:Int)=x.1)∧True) (fun x=>((v_2.length:Int)-x.1).toNat) (0,([]:List Point)) rfl (show (0≤(0:Int)∧(0:Int)≤(v_2.length:Int))∧((([]:List Point).length:Int)=(0:Int))∧True from ⟨om,(by rfl),trivial⟩) (fun x hI=> ?_)
    obtain ⟨t27,pts⟩:=x
    obtain ⟨hi0,hpl,_⟩:(0≤t27∧t27≤(v_2.length:Int))∧((pts.length:Int)=t27)∧True:=hI
    show XW _ _ _ _ (mkS [(2,.ref 2 0),(4,slI true v_2),(5,slI true v_3),(6,slI true v_4),(7,.ref 7 0),(26,I (v_2.length:Int)),(27,I t27)] [(2,.box [Zcb]),(7,.box [.arr 770]),(770,Zcl pts),(7003,Zag rd'_4)]) _ _
    refine Zal ?_
    by_cases h2:t27<(v_2.length:Int)
    ·have hi:t27.toNat<v_2.length:=by omega
     refine x_q [(0,.dec true)] [2,4,5,6,7,26,27,28] [2,7,770,7003] [_] ⟨h2,trivial⟩ (Zab (Zal (Zfk (Zbr (Zab (Zal (Zbl ?_)))))))
     refine xQ [] [2,4,5,6,7,8,26,27] [2,7,770,7003] [] trivial ?_
     refine x_q [(15,.new 45),(16,.new 46)] [2,4,5,6,7,26,27] [2,7,46,7003] [(0:Int)≤t27∧t27<(v_2.length:Int),(0:Int)≤t27∧t27<(v_3.length:Int),(0:Int)≤t27∧t27<(v_4.length:Int),(pts.length+1)*24≤140737488355328] ⟨⟨om,om⟩,⟨om,om⟩,⟨om,om⟩,om,trivial⟩ (Zbs 1 (Zab ?_))
     refine x_r [] [2,4,5,6,7,26,27] [2,7,46,7003] [.ref 2 0,slI true v_2,slI true v_3,slI true v_4,.ref 7 0,I (v_2.length:Int),I (t27+1)] [some (.box [Zcb]),some (.box [.arr 46]),some (.arr 3 (pts.length+1) (Zhi pts.length (Zcp pts) (Ziq [I (at_ v_2 t27.toNat),I (at_ v_3 t27.toNat),I (at_ v_4 t27.toNat)] 3))),some (Zag rd'_4)] [inR .i64 (t27+1)] ⟨(Zad om om),trivial⟩ ?_
     refine Zcm [(770,46)] (T:=[(2,.ref 2 0),(4,slI true v_2),(5,slI true v_3),(6,slI true v_4),(7,.ref 7 0),(26,I (v_2.length:Int)),(27,I (t27+1))]) (O:=[(2,.box [Zcb]),(7,.box [.arr 770]),(770,Zcl (pts++[(Point.mk (at_ v_2 t27.toNat) (at_ v_3 t27.toNat) (at_ v_4 t27.toNat))])),(7003,Zag rd'_4)]) rfl (⟨.inl rfl,.inl rfl,.inl rfl,.inl rfl,.inl rfl,.inl rfl,.inl rfl,trivial⟩) (⟨.inl rfl,.inl rfl,.inr ⟨rfl,(by first|rfl|(simp;done)|(simp;omega)|omega),fun i_ hi_=> .inl (Zen (enc:=Zgu) (xs:=pts) rfl i_ hi_)⟩,.inl rfl,trivial⟩) (Zbt ((t27+1),(pts++[(Point.mk (at_ v_2 t27.toNat) (at_ v_3 t27.toNat) (at_ v_4 t27.toNat))])) rfl (show (0≤(t27+1)∧(t27+1)≤(v_2.length:Int))∧(((pts++[(Point.mk (at_ v_2 t27.toNat) (at_ v_3 t27.toNat) (at_ v_4 t27.toNat))]).length:Int)=(t27+1))∧True from ⟨om,(by (simp;omega)),trivial⟩) (by first|(show (((v_2.length:Int)-(t27+1)).toNat:Nat)<((v_2.length:Int)-t27).toNat;omega)|(dsimp only;omega)))
    refine x_r [(0,.dec false)] [2,4,5,6,7,26,27,28] [2,7,770,7003] [.ref 2 0,slI true v_2,slI true v_3,slI true v_4,.ref 7 0,I (v_2.length:Int),I t27,Bv false] [some (.box [Zcb]),some (.box [.arr 770]),some (Zcl pts),some (Zag rd'_4)] [_] ⟨h2,trivial⟩ (Zab (Zal (Zcu rfl (Zdz (Zba ?_)))))
    refine Zbb ?_
    refine Zbc (Zab ?_)
    refine xR [] [2] [2,770,7003] [.ref 2 0] [some (.box [.arr 770]),some (Zcl pts),some (Zag rd'_4)] [] trivial (Zcw ?_)
    refine Zbw ((Stroke.mk pts),rd'_4) (show (rd'_4.bits=rd.bits)∧(0≤rd'_4.atx∧rd'_4.atx≤(rd.bits.size:Int))∧(True) from ⟨(by exact hb3_),(by (rw [←hb3_];exact hp3_)),trivial⟩) (⟨.inl rfl,trivial⟩) (.agg [.arr 770]) (by kernel_rfl) (.inr ⟨⟨(fun _=>rfl),rfl,rfl,fun i _=> .inl rfl⟩,rfl⟩) (fun _=>rfl) (fun _=>(by simp [Zah,Zae,Zfm]))
  obtain ⟨⟨v,rd'⟩,⟨hh0,hh1,_⟩,hc⟩:=hh
  exact ⟨v,rd',hh0,hh1,hc⟩
theorem unp_ok {s:ByteArray} (h:s.size≤12500):Zdn (Zir s s.size)=true:=Zcy.2 ⟨by rw [Zde];omega,fun j hj=>by
 rw [Zde] at hj
 have w:=Zis (s:=s) (k:=s.size) (j:=j/8) (i:=j % 8) om om
 rw [show 8*(j/8)+j % 8=j from by omega] at w
 rw [w]
 have v:Zor (bAt s (j/8)) (j % 8)=0∨Zor (bAt s (j/8)) (j % 8)=1:=by unfold Zor;omega
 omega⟩
def badS (s:ByteArray):Prop:=Ztp s hdI=false∨¬ bAt s (s.size-2)*256+bAt s (s.size-1)=ckA (s.extract 0 (s.size-2))
def Zos (s:ByteArray):ByteArray:=(s.extract 0 (s.size-2)).extract 2 (s.extract 0 (s.size-2)).size
def fstN (s:ByteArray):Int:=rdN ((Zir (Zos s) (Zos s).size).extract 0 (Zir (Zos s) (Zos s).size).size) 8
theorem Zka {s:ByteArray} :(Zos s).size=s.size-4:=by unfold Zos;rw [ByteArray.size_extract,ByteArray.size_extract];omega
theorem Zjf (s:ByteArray) (hz:s.size≤12500) (hd:s.size<5∨badS s∨fstN s≤6):∃(v:Ink) (c:Int),(c=0→∃y_:Ink,Zbg y_=true∧(y_.Strokes.length:Int)≤6∧Zlk y_ s)∧Con Tryd.prog 8 [Sv s] true (.tup [.agg [Zaj true v.Strokes],I c]):=by
  have ex1:((s.size:Int)-2).toNat=s.size-2:=by omega
  have ex2:((s.size:Int)-1).toNat=s.size-1:=by omega
  have hbz:(s.extract 0 ((s.size:Int)-2).toNat).size=s.size-2:=by rw [ByteArray.size_extract];omega
  have hb1:=Zew s ((s.size:Int)-2).toNat
  have hb2:=Zew s ((s.size:Int)-1).toNat
  have hmid:(s.extract 0 ((s.size:Int)-2).toNat).extract 2 (((s.extract 0 ((s.size:Int)-2).toNat).size:Nat):Int).toNat=Zos s:=by rw [Int.toNat_natCast,ex1];rfl
  have hmz:=congrArg ByteArray.size hmid
  rw [Zka] at hmz
  have h73:(⟨#[73,75]⟩:ByteArray).size=2:=rfl
  have hh:∃r:Ink×Int,((r.2=0→∃y_:Ink,Zbg y_=true∧(y_.Strokes.length:Int)≤6∧Zlk y_ s)∧(True))∧Zao Tryd.prog 8 [Sv s] (Zac []) true (.tup [.agg [Zaj true r.1.Strokes],I r.2]) (Zac []):=by
    refine Zdt (Φ:=fun r:Ink×Int=>(r.2=0→∃y_:Ink,Zbg y_=true∧(y_.Strokes.length:Int)≤6∧Zlk y_ s)∧(True)) [] (fun r=>[]) (fn:=Tryd.f8) (nt:=92) Tryd.func8 rfl rfl (args:=[Sv s]) rfl (Zca (.inl ⟨rfl,trivial⟩) Zdu) (res:=fun r=> .tup [.agg [Zaj true r.1.Strokes],I r.2]) ?_
    refine xQ [(0,.new 2)] [0,2] [2] [] trivial (Zal (Zal ?_))
    by_cases h1:(s.size:Int)<5
    ·refine x_q [(2,.dec true)] [0,2,13] [2] [_] ⟨h1,trivial⟩ (Zab (Zfk ?_))
     refine xR [] [2,3] [2] [.ref 2 0,I 9] [some (.box [Zcb])] [] trivial (Zcw (Zar ?_))
     refine Zbw ((Ink.mk ([]:List Stroke)),9) (show (9=0→∃y_:Ink,Zbg y_=true∧(y_.Strokes.length:Int)≤6∧Zlk y_ s)∧(True) from ⟨(by first|exact fun q=>absurd q (by decide)|exact fun _=>⟨_,hok_,by show (ss.length:Int)≤6;omega,by rw [←hes_];exact hen⟩),trivial⟩) (trivial) (.tup [.agg [Zcb],I 9]) (by kernel_rfl) (.inr ⟨⟨⟨rfl,rfl⟩,rfl⟩,⟨rfl,rfl⟩⟩) (fun _=>rfl) (fun _=>(by simp [Zah,Zae,Zcz]))
    refine x_q [(2,.dec false)] [0,2,13] [2] [_] ⟨h1,trivial⟩ (Zab (Zjn (Zbr (Zab (Zal (Zal ?_))))))
    rcases Bool.eq_false_or_eq_true (Ztp s (⟨#[73,75]⟩:ByteArray)) with h2|h2
    ·have hpre:Ztp s hdI=true:=h2
     refine x_q [(1,.call [(true,.any),(true,.any)] true (Bv true))] [0,2,17] [2] [Con Tryd.prog 15 [Sv s,Sv (⟨#[73,75]⟩:ByteArray)] true (Bv true)∧True] ⟨⟨(Zbd h2 (Zox s (⟨#[73,75]⟩:ByteArray) om)),trivial⟩,trivial⟩ (Zab (Zjn (Zbr (Zab ?_))))
     refine xQ [] [0,2,4] [2] [inR .i64 ((s.size:Int)-2),(0:Int)≤0∧(0:Int)≤((s.size:Int)-2)∧((s.size:Int)-2)≤(s.size:Int)] ⟨(Zad om om),⟨om,om,om⟩,trivial⟩ (Zal ?_)
     refine xR [] [0,2,4,5] [2] [Sv s,.ref 2 0,Sv (s.extract 0 ((s.size:Int)-2).toNat),I (((bAt s ((s.size:Int)-2).toNat)*256)+(bAt s ((s.size:Int)-1).toNat))] [some (.box [Zcb])] [inR .i64 ((s.size:Int)-2),(0:Int)≤((s.size:Int)-2)∧((s.size:Int)-2)<(s.size:Int),inR .i64 (bAt s ((s.size:Int)-2).toNat),(0:Int)≤8∧(8:Int)≤((IntKind.bits .i64:Nat):Int)∧inR .i64 ((bAt s ((s.size:Int)-2).toNat)*256),inR .i64 ((s.size:Int)-1),(0:Int)≤((s.size:Int)-1)∧((s.size:Int)-1)<(s.size:Int),inR .i64 (bAt s ((s.size:Int)-1).toNat),inR .i64 (((bAt s ((s.size:Int)-2).toNat)*256)+(bAt s ((s.size:Int)-1).toNat))] ⟨(Zad om om),⟨om,om⟩,(Zad om om),⟨(by decide),(by decide),(Zad om om)⟩,(Zad om om),⟨om,om⟩,(Zad om om),(Zad om om),trivial⟩ (Zal ?_)
     by_cases h3:(((bAt s ((s.size:Int)-2).toNat)*256)+(bAt s ((s.size:Int)-1).toNat))=(ckA (s.extract 0 ((s.size:Int)-2).toNat))
     ·have hf6:fstN s≤6:=by rcases hd with q|q|q;(omega);(exfalso;rcases q with q|q;(rw [hpre] at q;cases q);(exact q (by rw [←ex1,←ex2];first|exact h3|(rw [←h3];rfl)|omega)));(exact q)
      refine x_q [(2,.call [(true,.any)] true (I (ckA (s.extract 0 ((s.size:Int)-2).toNat)))),(3,.dec false)] [0,2,4,41] [2] [_∧True,¬ ((((bAt s ((s.size:Int)-2).toNat)*256)+(bAt s ((s.size:Int)-1).toNat))≠(ckA (s.extract 0 ((s.size:Int)-2).toNat)))] ⟨⟨(Zgd (s.extract 0 ((s.size:Int)-2).toNat) om),trivial⟩,(fun hq=>hq h3),trivial⟩ (Zab (Zjn (Zbr (Zab (Zal ?_)))))
      obtain ⟨v_1,c_1,hx1_0,hx1_1,hc1⟩:=Zmq ((s.extract 0 ((s.size:Int)-2).toNat).extract 2 ((s.extract 0 ((s.size:Int)-2).toNat).size:Int).toNat) om
      have huc:=hx1_1
      have hub:v_1=Zir (Zos s) (Zos s).size:=by rw [hx1_0,hmid]
      have hbo:Zdn v_1=true:=by rw [hub];exact unp_ok (by rw [Zka];omega)
      have hbz_:=(Zcy.1 hbo).1
      refine x_q [(2,.call [(true,.any)] true (.tup [Sv v_1,I c_1]))] [0,2,6,7] [2] [(0:Int)≤2∧(2:Int)≤((s.extract 0 ((s.size:Int)-2).toNat).size:Int)∧((s.extract 0 ((s.size:Int)-2).toNat).size:Int)≤((s.extract 0 ((s.size:Int)-2).toNat).size:Int),_∧True] ⟨⟨om,om,om⟩,⟨hc1,trivial⟩,trivial⟩ (Zab (Zal ?_))
      refine xQ [(1,.dec false)] [0,2,6,50] [2] [¬ (c_1≠0)] ⟨(fun hq=>hq huc),trivial⟩ (Zjn (Zbr (Zab ?_)))
      refine xR [(2,.new 7003)] [0,2,8] [2,7003] [Sv s,.ref 2 0,.ref 7003 0] [some (.box [Zcb]),some (.box [Sv v_1,I 0,Bv false])] [] trivial ?_
      refine xQ [(0,.new 9)] [0,2,8,9] [2,9,7003] [] trivial (Zal (Zal ?_))
      obtain ⟨v_2,rd'_2,hx2_0,hx2_1,hx2_2,hx2_3,hx2_4,hc2⟩:=Zmo (reader.mk v_1 0 false) 8 (by first|exact hbo|(rw [hsb_];exact hbo)) (by first|(rw [hsb_];exact hsa_)|(dsimp only;omega)) om
      have hnb:=hx2_0
      have hn6:v_2≤6:=by rcases hx2_1 with q|q;(omega);(rw [q];dsimp only;rw [hub];exact hf6)
      have hrb:rd'_2.bits=v_1:=hx2_2
      have hra:=hx2_3
      refine x_r [(1,.lend [(7003,.box [Sv v_1,I 0,Bv false],Zag rd'_2)] [] [(true,.any),(true,.any)] true (I v_2))] [0,2,8,9,10] [2,9,7003] [Sv s,.ref 2 0,.ref 7003 0,.ref 9 0,I v_2] [some (.box [Zcb]),some (.box [Zcb]),some (Zag rd'_2)] [Zao Tryd.prog 18 [.ref 7003 0,I 8] (Zac [(7003,.box [Sv v_1,I 0,Bv false])]) true (I v_2) (Zac [(7003,Zag rd'_2)])∧(((.box [Sv v_1,I 0,Bv false]:Ob)= .box [Sv v_1,I 0,Bv false]∨Zed Zdl true (.box [Sv v_1,I 0,Bv false]) (.box [Sv v_1,I 0,Bv false]))∧Zai false (.box [Sv v_1,I 0,Bv false]))∧True] ⟨⟨hc2,⟨.inl rfl,(by simp [Zai,Zae,Zah])⟩,trivial⟩,trivial⟩ (Zab (Zbl ?_))
      refine Zje 9 0 790 1 (fun _=>[]) rfl (by kernel_rfl) ?_
      refine Zhq [] (T:=[(0,Sv s),(2,.ref 2 0),(8,.ref 7003 0),(9,.ref 9 0),(10,I v_2)]) (O:=[(2,.box [Zcb]),(9,.box [.arr 790]),(790,Zge true ([]:List Stroke)),(7003,Zag rd'_2)]) rfl (⟨.inl rfl,.inl rfl,.inl rfl,.inl rfl,.inl rfl,trivial⟩) (⟨.inl rfl,.inl rfl,.inr ⟨rfl,(by first|rfl|(simp;done)|(simp;omega)|omega),fun i_ hi_=>absurd hi_ (Nat.not_lt_zero _)⟩,.inl rfl,trivial⟩) ?_
      refine Zee (X:=Int×reader×(List Stroke)) (fun x=>mkS [(0,Sv s),(2,.ref 2 0),(8,.ref 7003 0),(9,.ref 9 0),(10,I x.1)] [(2,.box [Zcb]),(9,.box [.arr 790]),(790,Zge true x.2.2),(7003,Zag x.2.1)]) (fun x=>(0≤x.1∧x.1≤6∨x.1=0)∧((x.2.2.length:Int)+x.1≤6)∧(x.2.1.bits=v_1)∧(0≤x.2.1.atx∧x.2.1.atx≤(v_1.size:Int))∧True) (fun x=>x.1.toNat) (v_2,rd'_2,([]:List Stroke)) rfl (show (0≤v_2∧v_2≤6∨v_2=0)∧((([]:List Stroke).length:Int)+v_2≤6)∧(rd'_2.bits=v_1)∧(0≤rd'_2.atx∧rd'_2.atx≤(v_1.size:Int))∧True from ⟨om,(by (show ((0:Nat):Int)+_≤6;omega)),(by exact hrb),(by exact hra),trivial⟩) (fun x hI=> ?_)
      obtain ⟨n_,src,ss⟩:=x
      obtain ⟨hn0,hsl,hsb_,hsa_,_⟩:(0≤n_∧n_≤6∨n_=0)∧((ss.length:Int)+n_≤6)∧(src.bits=v_1)∧(0≤src.atx∧src.atx≤(v_1.size:Int))∧True:=hI
      show XW _ _ _ _ (mkS [(0,Sv s),(2,.ref 2 0),(8,.ref 7003 0),(9,.ref 9 0),(10,I n_)] [(2,.box [Zcb]),(9,.box [.arr 790]),(790,Zge true ss),(7003,Zag src)]) _ _
      refine Zal (Zal ?_)
      by_cases h4:0<n_
      ·by_cases h5:src.broken=true
       ·refine x_r [(1,.dec true),(6,.as (Bv true))] [0,2,8,9,10,65] [2,9,790,7003] [Sv s,.ref 2 0,.ref 7003 0,.ref 9 0,I n_,Bv false] [some (.box [Zcb]),some (.box [.arr 790]),some (Zge true ss),some (Zag src)] [_,[Bv src.broken]=[Bv true]] ⟨h4,(show [Bv src.broken]=[Bv true] from by rw [show src.broken=true from h5]),trivial⟩ (Zab (Zcu rfl (Zdz (Zba ?_))))
        refine Zbb ?_
        refine Zbc (Zab (Zal ?_))
        refine xQ [(3,.as (Bv true))] [2,9,89] [2,9,790] [[Bv src.broken]=[Bv true]] ⟨(show [Bv src.broken]=[Bv true] from by rw [show src.broken=true from h5]),trivial⟩ (Zfk ?_)
        refine xR [] [2,3] [2] [.ref 2 0,I 8] [some (.box [Zcb])] [] trivial (Zcw (Zar ?_))
        refine Zbw ((Ink.mk ([]:List Stroke)),8) (show (8=0→∃y_:Ink,Zbg y_=true∧(y_.Strokes.length:Int)≤6∧Zlk y_ s)∧(True) from ⟨(by first|exact fun q=>absurd q (by decide)|exact fun _=>⟨_,hok_,by show (ss.length:Int)≤6;omega,by rw [←hes_];exact hen⟩),trivial⟩) (trivial) (.tup [.agg [Zcb],I 8]) (by kernel_rfl) (.inr ⟨⟨⟨rfl,rfl⟩,rfl⟩,⟨rfl,rfl⟩⟩) (fun _=>rfl) (fun _=>(by simp [Zah,Zae,Zcz]))
       refine x_q [(1,.dec true),(6,.as (Bv false))] [0,2,8,9,10,65] [2,9,790,7003] [_,[Bv src.broken]=[Bv false]] ⟨h4,(show [Bv src.broken]=[Bv false] from by rw [show src.broken=false from Bool.eq_false_iff.2 h5]),trivial⟩ (Zab (Zfk (Zbr (Zab (Zal (Zbl ?_))))))
       obtain ⟨v_3,rd'_3,hx3_0,hx3_1,hc3⟩:=rdStk_ok src (by first|exact hbo|(rw [hsb_];exact hbo)) (by first|(rw [hsb_];exact hsa_)|(dsimp only;omega))
       have hsb2:rd'_3.bits=v_1:=(hx3_0).trans hsb_
       have hsa2:0≤rd'_3.atx∧rd'_3.atx≤(v_1.size:Int):=by rw [←hsb_];exact hx3_1
       refine x_q [(3,.lend [(7003,Zag src,Zag rd'_3)] [] [(true,.any)] true (.agg [Zaq true v_3.Points])),(4,.new 72),(5,.new 73)] [0,2,8,9,10] [2,9,73,7003] [Zao Tryd.prog 19 [.ref 7003 0] (Zac [(7003,Zag src)]) true (.agg [Zaq true v_3.Points]) (Zac [(7003,Zag rd'_3)])∧(((Zag src:Ob)=Zag src∨Zed Zdl true (Zag src) (Zag src))∧Zai false (Zag src))∧True,(ss.length+1)*24≤140737488355328] ⟨⟨hc3,⟨.inl rfl,(by simp [Zai,Zae,Zah])⟩,trivial⟩,om,trivial⟩ (Zbs 1 (Zab ?_))
       refine x_r [] [0,2,8,9,10] [2,9,73,7003] [Sv s,.ref 2 0,.ref 7003 0,.ref 9 0,I (n_-1)] [some (.box [Zcb]),some (.box [.arr 73]),some (.arr 1 (ss.length+1) (Zhi ss.length (Zbp true ss) (Ziq [Zaq true v_3.Points] 1))),some (Zag rd'_3)] [inR .i64 (n_-1)] ⟨(Zad om om),trivial⟩ ?_
       refine Zcm [(790,73)] (T:=[(0,Sv s),(2,.ref 2 0),(8,.ref 7003 0),(9,.ref 9 0),(10,I (n_-1))]) (O:=[(2,.box [Zcb]),(9,.box [.arr 790]),(790,Zge true (ss++[v_3])),(7003,Zag rd'_3)]) rfl (⟨.inl rfl,.inl rfl,.inl rfl,.inl rfl,.inl rfl,trivial⟩) (⟨.inl rfl,.inl rfl,.inr ⟨rfl,(by first|rfl|(simp;done)|(simp;omega)|omega),fun i_ hi_=> .inl (Zen (enc:=(Zgv true)) (xs:=ss) rfl i_ hi_)⟩,.inl rfl,trivial⟩) (Zbt ((n_-1),rd'_3,(ss++[v_3])) rfl (show (0≤(n_-1)∧(n_-1)≤6∨(n_-1)=0)∧(((ss++[v_3]).length:Int)+(n_-1)≤6)∧(rd'_3.bits=v_1)∧(0≤rd'_3.atx∧rd'_3.atx≤(v_1.size:Int))∧True from ⟨om,(by (simp;omega)),(by exact hsb2),(by exact hsa2),trivial⟩) (by first|(show ((n_-1).toNat:Nat)<n_.toNat;omega)|(dsimp only;omega)))
      refine x_r [(1,.dec false)] [0,2,8,9,10,65] [2,9,790,7003] [Sv s,.ref 2 0,.ref 7003 0,.ref 9 0,I n_,Bv false] [some (.box [Zcb]),some (.box [.arr 790]),some (Zge true ss),some (Zag src)] [_] ⟨h4,trivial⟩ (Zab (Zcu rfl (Zdz (Zba ?_))))
      refine Zbb ?_
      refine Zbc (Zab (Zal (Zal ?_)))
      by_cases h6:src.broken=true
      ·refine x_q [(3,.as (Bv true))] [2,9,89] [2,9,790] [[Bv src.broken]=[Bv true]] ⟨(show [Bv src.broken]=[Bv true] from by rw [show src.broken=true from h6]),trivial⟩ (Zab (Zfk ?_))
       refine xR [] [2,3] [2] [.ref 2 0,I 8] [some (.box [Zcb])] [] trivial (Zcw (Zar ?_))
       refine Zbw ((Ink.mk ([]:List Stroke)),8) (show (8=0→∃y_:Ink,Zbg y_=true∧(y_.Strokes.length:Int)≤6∧Zlk y_ s)∧(True) from ⟨(by first|exact fun q=>absurd q (by decide)|exact fun _=>⟨_,hok_,by show (ss.length:Int)≤6;omega,by rw [←hes_];exact hen⟩),trivial⟩) (trivial) (.tup [.agg [Zcb],I 8]) (by kernel_rfl) (.inr ⟨⟨⟨rfl,rfl⟩,rfl⟩,⟨rfl,rfl⟩⟩) (fun _=>rfl) (fun _=>(by simp [Zah,Zae,Zcz]))
      rcases Bool.eq_false_or_eq_true (Zbg (Ink.mk ss)) with h7|h7
      ·have hok_:=h7
       obtain ⟨v_4,hx4_0,hx4_1,hc4⟩:=Zjg (Ink.mk ss) hok_ (by show (ss.length:Int)≤6;omega)
       have hen:=hx4_0
       by_cases h8:v_4=s
       ·have hes_:=h8
        refine x_q [(3,.as (Bv false)),(6,.call [(false,.agg [Zaj false ss])] true (Bv true)),(11,.call [(false,.agg [Zaj false ss])] true (Sv v_4)),(13,.dec false)] [2,9,89] [2,9,790] [[Bv src.broken]=[Bv false],Con Tryd.prog 13 [.agg [Zaj false ss]] true (Bv true)∧(((false=true→true=true)∧1=1∧ss.length=ss.length∧∀i_,i_<ss.length→(Zbp true ss) i_=(Zbp false ss) i_∨(AV.idsL ((Zbp false ss) i_)=[]∧leL (fun _=>none) false ((Zbp true ss) i_) ((Zbp false ss) i_)))∧([]:List AV)=[])∧True,_∧(((false=true→true=true)∧1=1∧ss.length=ss.length∧∀i_,i_<ss.length→(Zbp true ss) i_=(Zbp false ss) i_∨(AV.idsL ((Zbp false ss) i_)=[]∧leL (fun _=>none) false ((Zbp true ss) i_) ((Zbp false ss) i_)))∧([]:List AV)=[])∧True,¬ (v_4≠s)] ⟨(show [Bv src.broken]=[Bv false] from by rw [show src.broken=false from Bool.eq_false_iff.2 h6]),⟨(Zbd h7 (Zgf (Ink.mk ss))),⟨⟨(fun h=>by cases h),rfl,rfl,fun i _=> .inr ⟨Zfw _ _,Zhj _ _ _⟩⟩,rfl⟩,trivial⟩,⟨hc4,⟨⟨(fun h=>by cases h),rfl,rfl,fun i _=> .inr ⟨Zfw _ _,Zhj _ _ _⟩⟩,rfl⟩,trivial⟩,(fun hq=>hq h8),trivial⟩ (Zab (Zjn (Zbr (Zab ?_))))
        refine xR [] [2,3] [2,790] [.ref 2 0,I 0] [some (.box [.arr 790]),some (Zge true ss)] [] trivial (Zcw ?_)
        refine Zbw ((Ink.mk ss),0) (show (0=0→∃y_:Ink,Zbg y_=true∧(y_.Strokes.length:Int)≤6∧Zlk y_ s)∧(True) from ⟨(by first|exact fun q=>absurd q (by decide)|exact fun _=>⟨_,hok_,by show (ss.length:Int)≤6;omega,by rw [←hes_];exact hen⟩),trivial⟩) (trivial) (.tup [.agg [.arr 790],I 0]) (by kernel_rfl) (.inr ⟨⟨⟨(fun _=>rfl),rfl,rfl,fun i _=> .inl rfl⟩,rfl⟩,⟨rfl,rfl⟩⟩) (fun _=>rfl) (fun _=>(by simp [Zah,Zae,Zcz]))
       refine x_q [(3,.as (Bv false)),(6,.call [(false,.agg [Zaj false ss])] true (Bv true)),(11,.call [(false,.agg [Zaj false ss])] true (Sv v_4)),(13,.dec true)] [2,9,89] [2,9,790] [[Bv src.broken]=[Bv false],Con Tryd.prog 13 [.agg [Zaj false ss]] true (Bv true)∧(((false=true→true=true)∧1=1∧ss.length=ss.length∧∀i_,i_<ss.length→(Zbp true ss) i_=(Zbp false ss) i_∨(AV.idsL ((Zbp false ss) i_)=[]∧leL (fun _=>none) false ((Zbp true ss) i_) ((Zbp false ss) i_)))∧([]:List AV)=[])∧True,_∧(((false=true→true=true)∧1=1∧ss.length=ss.length∧∀i_,i_<ss.length→(Zbp true ss) i_=(Zbp false ss) i_∨(AV.idsL ((Zbp false ss) i_)=[]∧leL (fun _=>none) false ((Zbp true ss) i_) ((Zbp false ss) i_)))∧([]:List AV)=[])∧True,_] ⟨(show [Bv src.broken]=[Bv false] from by rw [show src.broken=false from Bool.eq_false_iff.2 h6]),⟨(Zbd h7 (Zgf (Ink.mk ss))),⟨⟨(fun h=>by cases h),rfl,rfl,fun i _=> .inr ⟨Zfw _ _,Zhj _ _ _⟩⟩,rfl⟩,trivial⟩,⟨hc4,⟨⟨(fun h=>by cases h),rfl,rfl,fun i _=> .inr ⟨Zfw _ _,Zhj _ _ _⟩⟩,rfl⟩,trivial⟩,h8,trivial⟩ (Zab (Zfk ?_))
       refine xR [] [2,3] [2] [.ref 2 0,I 8] [some (.box [Zcb])] [] trivial (Zcw (Zar ?_))
       refine Zbw ((Ink.mk ([]:List Stroke)),8) (show (8=0→∃y_:Ink,Zbg y_=true∧(y_.Strokes.length:Int)≤6∧Zlk y_ s)∧(True) from ⟨(by first|exact fun q=>absurd q (by decide)|exact fun _=>⟨_,hok_,by show (ss.length:Int)≤6;omega,by rw [←hes_];exact hen⟩),trivial⟩) (trivial) (.tup [.agg [Zcb],I 8]) (by kernel_rfl) (.inr ⟨⟨⟨rfl,rfl⟩,rfl⟩,⟨rfl,rfl⟩⟩) (fun _=>rfl) (fun _=>(by simp [Zah,Zae,Zcz]))
      refine x_q [(3,.as (Bv false)),(6,.call [(false,.agg [Zaj false ss])] true (Bv false))] [2,9,89] [2,9,790] [[Bv src.broken]=[Bv false],Con Tryd.prog 13 [.agg [Zaj false ss]] true (Bv false)∧(((false=true→true=true)∧1=1∧ss.length=ss.length∧∀i_,i_<ss.length→(Zbp true ss) i_=(Zbp false ss) i_∨(AV.idsL ((Zbp false ss) i_)=[]∧leL (fun _=>none) false ((Zbp true ss) i_) ((Zbp false ss) i_)))∧([]:List AV)=[])∧True] ⟨(show [Bv src.broken]=[Bv false] from by rw [show src.broken=false from Bool.eq_false_iff.2 h6]),⟨(Zbd h7 (Zgf (Ink.mk ss))),⟨⟨(fun h=>by cases h),rfl,rfl,fun i _=> .inr ⟨Zfw _ _,Zhj _ _ _⟩⟩,rfl⟩,trivial⟩,trivial⟩ (Zab (Zfk ?_))
      refine xR [] [2,3] [2] [.ref 2 0,I 8] [some (.box [Zcb])] [] trivial (Zcw (Zar ?_))
      refine Zbw ((Ink.mk ([]:List Stroke)),8) (show (8=0→∃y_:Ink,Zbg y_=true∧(y_.Strokes.length:Int)≤6∧Zlk y_ s)∧(True) from ⟨(by first|exact fun q=>absurd q (by decide)|exact fun _=>⟨_,hok_,by show (ss.length:Int)≤6;omega,by rw [←hes_];exact hen⟩),trivial⟩) (trivial) (.tup [.agg [Zcb],I 8]) (by kernel_rfl) (.inr ⟨⟨⟨rfl,rfl⟩,rfl⟩,⟨rfl,rfl⟩⟩) (fun _=>rfl) (fun _=>(by simp [Zah,Zae,Zcz]))
     refine x_q [(2,.call [(true,.any)] true (I (ckA (s.extract 0 ((s.size:Int)-2).toNat)))),(3,.dec true)] [0,2,4,41] [2] [_∧True,_] ⟨⟨(Zgd (s.extract 0 ((s.size:Int)-2).toNat) om),trivial⟩,h3,trivial⟩ (Zab (Zfk ?_))
     refine xR [] [2,3] [2] [.ref 2 0,I 10] [some (.box [Zcb])] [] trivial (Zcw (Zar ?_))
     refine Zbw ((Ink.mk ([]:List Stroke)),10) (show (10=0→∃y_:Ink,Zbg y_=true∧(y_.Strokes.length:Int)≤6∧Zlk y_ s)∧(True) from ⟨(by first|exact fun q=>absurd q (by decide)|exact fun _=>⟨_,hok_,by show (ss.length:Int)≤6;omega,by rw [←hes_];exact hen⟩),trivial⟩) (trivial) (.tup [.agg [Zcb],I 10]) (by kernel_rfl) (.inr ⟨⟨⟨rfl,rfl⟩,rfl⟩,⟨rfl,rfl⟩⟩) (fun _=>rfl) (fun _=>(by simp [Zah,Zae,Zcz]))
    refine x_q [(1,.call [(true,.any),(true,.any)] true (Bv false))] [0,2,17] [2] [Con Tryd.prog 15 [Sv s,Sv (⟨#[73,75]⟩:ByteArray)] true (Bv false)∧True] ⟨⟨(Zbd h2 (Zox s (⟨#[73,75]⟩:ByteArray) om)),trivial⟩,trivial⟩ (Zab (Zfk ?_))
    refine xR [] [2,3] [2] [.ref 2 0,I 8] [some (.box [Zcb])] [] trivial (Zcw (Zar ?_))
    refine Zbw ((Ink.mk ([]:List Stroke)),8) (show (8=0→∃y_:Ink,Zbg y_=true∧(y_.Strokes.length:Int)≤6∧Zlk y_ s)∧(True) from ⟨(by first|exact fun q=>absurd q (by decide)|exact fun _=>⟨_,hok_,by show (ss.length:Int)≤6;omega,by rw [←hes_];exact hen⟩),trivial⟩) (trivial) (.tup [.agg [Zcb],I 8]) (by kernel_rfl) (.inr ⟨⟨⟨rfl,rfl⟩,rfl⟩,⟨rfl,rfl⟩⟩) (fun _=>rfl) (fun _=>(by simp [Zah,Zae,Zcz]))
  obtain ⟨⟨v,c⟩,⟨hh0,_⟩,hc⟩:=hh
  exact ⟨v,c,hh0,hc⟩
theorem Zuy {p:ByteArray} {j:Nat} (h:j<p.size):bAt (Zez p) (2+j)=bAt p j:=by
 have e:(hdI++p).size=2+p.size:=by rw [ByteArray.size_append];rfl
 unfold Zez
 rw [Zcx om,Zda (by show 2≤_;omega)]
 congr 1
 show 2+j-2=j
 omega
theorem Zuz {q p:ByteArray} (hz:q.size≤p.size) (h:∀j,j<q.size→bAt q j=bAt p j) {j:Nat} (hj:j<8*q.size):bAt (Zir q q.size) j=bAt (Zir p p.size) j:=by
 have a:=Zis (s:=q) (k:=q.size) (j:=j/8) (i:=j % 8) om om
 have b:=Zis (s:=p) (k:=p.size) (j:=j/8) (i:=j % 8) om om
 rw [show 8*(j/8)+j % 8=j from by omega] at a b
 rw [a,b,h (j/8) om]
theorem Zoy {a b:ByteArray} {i:Nat} (hi:∀j,j≠i→bAt a j=bAt b j) (hd:bAt a i≠bAt b i):∀k,(k≤i→ckS a k=ckS b k)∧(i<k→ckS a k≠ckS b k)
 |0=>⟨fun _=>rfl,fun h=>absurd h (Nat.not_lt_zero _)⟩
 |k+1=>by
  have ih:=Zoy hi hd k
  have ba:=Zew a k
  have bb:=Zew b k
  have ca:=Zoz a k
  have cb:=Zoz b k
  refine ⟨fun h=> ?_,fun h=> ?_⟩
  ·show (ckS a k*257+bAt a k) % 65521=(ckS b k*257+bAt b k) % 65521
   rw [ih.1 om,hi k om]
  ·show (ckS a k*257+bAt a k) % 65521≠(ckS b k*257+bAt b k) % 65521
   by_cases e:k=i
   ·subst e
    have e1:=ih.1 (Nat.le_refl _)
    rw [e1]
    omega
   ·have e1:=ih.2 om
    rw [hi k e]
    omega
theorem chg_bad {p u:ByteArray} {a:Nat} (hz:u.size=(Zez p).size) (ha:a<(Zez p).size) (hs:∀j,j≠a→bAt u j=bAt (Zez p) j) (hd:bAt u a≠bAt (Zez p) a):badS u:=by
 have es:=Zeq p
 have eb:=Zsc p
 have esum:=Zva p
 have e2:(hdI++p).size=p.size+2:=by rw [ByteArray.size_append];show 2+_=_;omega
 have eu:(u.extract 0 (u.size-2)).size=p.size+2:=by rw [ByteArray.size_extract];omega
 have un:u.size-2=p.size+2:=by omega
 have un1:u.size-1=p.size+3:=by omega
 have ex:∀j,j<p.size+2→bAt (u.extract 0 (u.size-2)) j=bAt u j:=fun j hj=>Zpa om om
 have et:∀j,j<p.size+2→bAt (hdI++p) j=bAt (Zez p) j:=fun j hj=>by rw [←eb,Zpa hj om]
 unfold badS
 by_cases h1:a<2
 ·left
  refine Bool.eq_false_iff.2 fun q=> ?_
  obtain ⟨r,hr⟩:=Zmr.1 q
  obtain ⟨r2,hr2⟩:=Zmr.1 (Zvb p)
  refine hd ?_
  rw [hr,hr2,Zcx (show a<hdI.size from h1),Zcx (show a<hdI.size from h1)]
 ·right
  by_cases h2:a<p.size+2
  ·rw [un,un1,hs _ om,hs _ om,esum]
   have q:=(Zoy (a:=u) (b:=Zez p) (i:=a) hs hd (p.size+2)).2 h2
   have g:∀(x y:ByteArray) (k:Nat),(∀j,j<k→bAt x j=bAt y j)→ckS x k=ckS y k:=fun x y k=>by
    induction k with
    |zero=>exact fun _=>rfl
    |succ k ih=>intro h;rw [ckS,ckS,ih (fun j hj=>h j om),h k om]
   intro w
   refine q ?_
   unfold ckA at w
   rw [e2,show u.extract 0 (p.size+2)=u.extract 0 (u.size-2) from by rw [un],eu] at w
   rw [←g _ _ _ ex,←w,g _ _ _ et]
  ·have eq:u.extract 0 (u.size-2)=hdI++p:=Zms (by rw [eu,e2]) fun j hj=>by
    rw [e2] at hj
    rw [ex j hj,et j hj,hs j om]
   rw [eq,←esum,un,un1]
   have b1:=Zew u (p.size+2)
   have b2:=Zew u (p.size+3)
   have b3:=Zew (Zez p) (p.size+2)
   have b4:=Zew (Zez p) (p.size+3)
   have c:=hs
   by_cases h3:a=p.size+2
   ·subst h3
    have:=hs (p.size+3) om
    omega
   ·have h4:a=p.size+3:=by omega
    subst h4
    have:=hs (p.size+2) om
    omega
theorem bad_no {u:ByteArray} (h:badS u):¬ ∃y_:Ink,Zbg y_=true∧(y_.Strokes.length:Int)≤6∧Zlk y_ u:=by
 rintro ⟨y,_,_,q,_,rfl⟩
 have es:=Zeq q
 rcases h with h|h
 ·rw [Zvb] at h;cases h
 ·refine h ?_
  rw [show (Zez q).size-2=q.size+2 from by omega,show (Zez q).size-1=q.size+3 from by omega,Zsc]
  exact Zva q
theorem Zvc (a b:Int):0≤Zck .xor .u8 a b∧Zck .xor .u8 a b≤255:=Zvd _
theorem xor_ne {a y:Int} (ha:0≤a∧a≤255) (hy:1≤y∧y≤255):Zck .xor .u8 a y≠a:=by
 intro h
 have e:Zck .xor .u8 a y=IntKind.u8.wrap ((BitVec.ofInt 8 a^^^BitVec.ofInt 8 y).toNat:Int):=rfl
 have hl:=(BitVec.ofInt 8 a^^^BitVec.ofInt 8 y).isLt
 rw [e,u8_is om] at h
 have ea:(BitVec.ofInt 8 a).toNat=a.toNat:=by rw [BitVec.toNat_ofInt];omega
 have ex:BitVec.ofInt 8 a^^^BitVec.ofInt 8 y=BitVec.ofInt 8 a:=BitVec.eq_of_toNat_eq om
 have ey:BitVec.ofInt 8 y=(0:BitVec 8):=by
  have w:=congrArg (fun q=>BitVec.ofInt 8 a^^^q) ex
  simp only [←BitVec.xor_assoc,BitVec.xor_self,BitVec.zero_xor] at w
  exact w
 have ez:=congrArg BitVec.toNat ey
 rw [BitVec.toNat_ofInt] at ez
 simp at ez
 omega
theorem chg_b2 {p t:ByteArray} (hs:t=Zez p) {k:Nat} {y:Int} (hk:k<t.size) (hy:1≤y∧y≤255):badS (setB t k (Zck .xor .u8 (bAt t k) y)):=by
 subst hs
 exact chg_bad (a:=k) (Zfx _ _ _) hk (fun j hj=>by rw [Zqs hk (Zvc _ _),if_neg hj]) (by rw [Zqs hk (Zvc _ _),if_pos rfl];exact xor_ne (Zew _ _) hy)
theorem cut_mid {p:ByteArray} {m:Nat} (hm:m<(Zez p).size) (h5:5≤m):(Zos ((Zez p).extract 0 m)).size=m-4∧∀j,j<m-4→bAt (Zos ((Zez p).extract 0 m)) j=bAt p j:=by
 have es:=Zeq p
 have ez:((Zez p).extract 0 m).size=m:=by rw [ByteArray.size_extract];omega
 have z:=Zka (s:=(Zez p).extract 0 m)
 refine ⟨by omega,fun j hj=> ?_⟩
 unfold Zos
 have e1:(((Zez p).extract 0 m).extract 0 (((Zez p).extract 0 m).size-2)).size=m-2:=by rw [ByteArray.size_extract];omega
 rw [Zkb (by rw [e1];omega),Zpa om om,Zpa om om,Zuy om]
theorem cut_fst {x:Ink} (hok:Zbg x=true) (h6:(x.Strokes.length:Int)≤6) {p:ByteArray} (hp:Zsd (Zgs x.Strokes x.Strokes.length) p) {m:Nat} (hm:m<(Zez p).size):((Zez p).extract 0 m).size<5∨badS ((Zez p).extract 0 m)∨fstN ((Zez p).extract 0 m)≤6:=by
 have es:=Zeq p
 have ez:((Zez p).extract 0 m).size=m:=by rw [ByteArray.size_extract];omega
 by_cases h5:5≤m
 ·right;right
  have c:=cut_mid hm h5
  have hb:=(Zjs hok h6 hp).1
  have h0:=Zmt (i:=0) x.Strokes.length (Nat.zero_le _) hb
  have hz:=Zbe (x.Strokes.length:Int) 8
  have e8:(8:Int).toNat=8:=rfl
  have q:sAt (Zir (Zos ((Zez p).extract 0 m)) (Zos ((Zez p).extract 0 m)).size) 0 (Zci (x.Strokes.length:Int) 8):=by
   refine ⟨by rw [Zde];omega,fun j hj=> ?_⟩
   have w:=h0.2 j hj
   rw [Nat.zero_add] at w⊢
   rw [Zuz (p:=p) om (fun j hj=>c.2 j om) om]
   exact w
  have w:=Zmu q om (by rw [p28];omega)
  unfold fstN
  have w2:rdN ((Zir (Zos ((Zez p).extract 0 m)) (Zos ((Zez p).extract 0 m)).size).extract 0 (Zir (Zos ((Zez p).extract 0 m)) (Zos ((Zez p).extract 0 m)).size).size) 8=(x.Strokes.length:Int):=w
  rw [w2];exact h6
 ·left;omega
theorem cut_no {x:Ink} (hok:Zbg x=true) (h6:(x.Strokes.length:Int)≤6) {p:ByteArray} (hp:Zsd (Zgs x.Strokes x.Strokes.length) p) {m:Nat} (hm:m<(Zez p).size):¬ ∃y_:Ink,Zbg y_=true∧(y_.Strokes.length:Int)≤6∧Zlk y_ ((Zez p).extract 0 m):=by
 rintro ⟨y,hy,hy6,q,hq,e⟩
 have es:=Zeq p
 have ez:((Zez p).extract 0 m).size=m:=by rw [ByteArray.size_extract];omega
 have eq:=Zeq q
 rw [←e,ez] at eq
 have bx:=Zjs hok h6 hp
 have by_:=Zjs hy hy6 hq
 have hz:q.size<p.size:=by omega
 have hb:∀j,j<q.size→bAt q j=bAt p j:=fun j hj=>by rw [←Zuy hj,←e,Zpa om om,Zuy om]
 have hs:=by_.1
 have s2:sAt (Zir p p.size) 0 (Zgs y.Strokes y.Strokes.length):=by
  have h1:=hs.1
  rw [Zde] at h1
  refine ⟨by rw [Zde];omega,fun j hj=> ?_⟩
  have w:=hs.2 j hj
  rw [Nat.zero_add] at w⊢
  rw [←w,Zuz (p:=p) om hb om]
 have exy:=ink_uniq bx.1 s2 hok hy
 subst exy
 have:=pk_uniq hp hq
 subst this
 omega
theorem cut_f2 {x:Ink} (hok:Zbg x=true) (h6:(x.Strokes.length:Int)≤6) {p t:ByteArray} (hs:t=Zez p) (hp:Zsd (Zgs x.Strokes x.Strokes.length) p) {m:Nat} (hm:m<t.size):(t.extract 0 m).size<5∨badS (t.extract 0 m)∨fstN (t.extract 0 m)≤6:=by
 subst hs;exact cut_fst hok h6 hp hm
theorem cut_n2 {x:Ink} (hok:Zbg x=true) (h6:(x.Strokes.length:Int)≤6) {p t:ByteArray} (hs:t=Zez p) (hp:Zsd (Zgs x.Strokes x.Strokes.length) p) {m:Nat} (hm:m<t.size):¬ ∃y_:Ink,Zbg y_=true∧(y_.Strokes.length:Int)≤6∧Zlk y_ (t.extract 0 m):=by
 subst hs;exact cut_no hok h6 hp hm
theorem Zmv (code:List Int) (more:List Int) (ok_code:∀y∈code,inR .u8 y) (ok_more:∀y∈more,inR .u8 y):Con Tryd.prog 3 [Zgq false code,Zgq false more] true (Bv true):=by
  refine Zej (fn:=Tryd.f3) (nt:=68) Tryd.func3 rfl rfl rfl rfl (by simp [Zae,Zah,Zcv]) fun B hB=> ?_
  refine Zfe (x:=Zgq false code) 0 rfl (fun len_code=> ?_)
  simp [Zhp,Zot,cU8,fU8,Zgq] at len_code
  refine Zfe (x:=Zgq false more) 1 rfl (fun len_more=> ?_)
  simp [Zhp,Zot,cU8,fU8,Zgq] at len_more
  refine aQ [] [0,1] [] [] hB trivial (Zan (Zan ?_))
  rcases Bool.eq_false_or_eq_true (decide (3000<(code.length:Int)∨3000<(more.length:Int))) with h1|h1
  ·refine Zdk [(2,.call [(true,.any),(true,.any)] true (Bv true))] [0,1,16] [] [Con Tryd.prog 4 [Zgq false code,Zgq false more] true (Bv true)∧True] hB ⟨⟨(Zbd h1 (Zpb code more)),trivial⟩,trivial⟩ (Zaf (Zdr ?_))
   refine aR [] [4] [] [Bv true] [] [] hB trivial (Zat (Zak ?_))
   refine Zau hB (Bv true) (by kernel_rfl) (.inl rfl) rfl (fun _=>trivial)
  have hc:(∀j,j<code.length→0≤at_ code j∧at_ code j≤255)∧code.length≤4611686018427387904:=⟨fun j hj=>ok_code _ (Zdf hj),by first|omega|(simp at h1;omega)⟩
  have hmore:(∀j,j<more.length→0≤at_ more j∧at_ more j≤255)∧more.length≤4611686018427387904:=⟨fun j hj=>ok_more _ (Zdf hj),by first|omega|(simp at h1;omega)⟩
  refine Zdk [(2,.call [(true,.any),(true,.any)] true (Bv false))] [0,1,16] [] [Con Tryd.prog 4 [Zgq false code,Zgq false more] true (Bv false)∧True] hB ⟨⟨(Zbd h1 (Zpb code more)),trivial⟩,trivial⟩ (Zaf (Zdm (Zbu (Zaf (Zan ?_)))))
  obtain ⟨ik_1,hx1_0,hx1_1,hc1⟩:=A2Ink_ok code (by assumption)
  have hok:=hx1_0
  have h6:=hx1_1
  refine Zdk [(1,.call [(true,.any)] true (.agg [Zaj true ik_1.Strokes])),(2,.new 5)] [1,5] [5] [_∧True] hB ⟨⟨hc1,trivial⟩,trivial⟩ (Zaf (Zan ?_))
  obtain ⟨v_2,c_2,hx2_0,hx2_1,hx2_2,hc2⟩:=Zpc ik_1 hok h6
  obtain ⟨p0,hpk,hs⟩:=hx2_0
  have hez:=hx2_1
  have hc1_:=hx2_2
  have hbt:=Zjs hok h6 hpk
  have hsz:v_2.size=p0.size+4:=by rw [hs,Zeq]
  have hK0:=Zve more 0 (n:=251) (by decide)
  have hK1:=Zve more 1 (n:=255) (by decide)
  have hat:0≤Zdo more 0 251*7 % (v_2.size:Int)∧Zdo more 0 251*7 % (v_2.size:Int)<(v_2.size:Int):=⟨Int.emod_nonneg _ om,Int.emod_lt_of_pos _ om⟩
  have hatn:(Zdo more 0 251*7 % (v_2.size:Int)).toNat<v_2.size:=by omega
  refine Zdk [(1,.call [(false,.agg [Zaj false ik_1.Strokes])] true (.tup [Sv v_2,I c_2]))] [1,6,7] [] [_∧(((false=true→true=true)∧1=1∧ik_1.Strokes.length=ik_1.Strokes.length∧∀i_,i_<ik_1.Strokes.length→(Zbp true ik_1.Strokes) i_=(Zbp false ik_1.Strokes) i_∨(AV.idsL ((Zbp false ik_1.Strokes) i_)=[]∧leL (fun _=>none) false ((Zbp true ik_1.Strokes) i_) ((Zbp false ik_1.Strokes) i_)))∧([]:List AV)=[])∧True] hB ⟨⟨hc2,⟨⟨(fun h=>by cases h),rfl,rfl,fun i _=> .inr ⟨Zfw _ _,Zhj _ _ _⟩⟩,rfl⟩,trivial⟩,trivial⟩ (Zaf (Zan ?_))
  refine aR [(1,.dec false),(5,.dec false)] [1,6,30] [] [Zgq false more,Sv v_2,Bv false] [] [¬ (c_2≠0),¬ ((v_2.size:Int)<5)] hB ⟨(fun hq=>hq hc1_),om,trivial⟩ (Zmw rfl (Zbu (Zaf ?_)))
  refine aQ [(1,.new 32)] [1,6,8] [32] [v_2.size≤140737488355328∧0<v_2.size] hB ⟨⟨om,om⟩,trivial⟩ ?_
  refine aQ [(1,.call [(true,.any),(true,.any),(true,.any)] true (I (Zdo more 0 251))),(5,.nn)] [1,6,8,9] [32] [_∧True,inR .i64 ((Zdo more 0 251)*7),(0:Int)≤((Zdo more 0 251)*7)∧(0:Int)<(v_2.size:Int)] hB ⟨⟨(Zvf more 0 251 hmore.1 om),trivial⟩,(Zad om om),⟨om,om⟩,trivial⟩ ?_
  refine aQ [(5,.call [(true,.any),(true,.any),(true,.any)] true (I (Zdo more 1 255)))] [6,8,9] [32] [(0:Int)≤(((Zdo more 0 251)*7) % (v_2.size:Int))∧(((Zdo more 0 251)*7) % (v_2.size:Int))<(v_2.size:Int),(((Zdo more 0 251)*7) % (v_2.size:Int)).toNat<v_2.size,_∧True,inR .i64 (1+(Zdo more 1 255)),inR .u8 (1+(Zdo more 1 255)),(0:Int)≤(((Zdo more 0 251)*7) % (v_2.size:Int))∧(((Zdo more 0 251)*7) % (v_2.size:Int))<(v_2.size:Int),(((Zdo more 0 251)*7) % (v_2.size:Int)).toNat<v_2.size∧(0:Int)≤(Zck .xor .u8 (bAt v_2 ((((Zdo more 0 251)*7) % (v_2.size:Int)).toNat)) (1+(Zdo more 1 255)))∧(Zck .xor .u8 (bAt v_2 ((((Zdo more 0 251)*7) % (v_2.size:Int)).toNat)) (1+(Zdo more 1 255)))≤255] hB ⟨⟨om,om⟩,om,⟨(Zvf more 1 255 hmore.1 om),trivial⟩,(Zad om om),(Zvg om om),⟨om,om⟩,⟨hatn,Zvc _ _⟩,trivial⟩ (Zan ?_)
  obtain ⟨v_3,c_3,hx3_0,hc3⟩:=Zjf (setB v_2 ((((Zdo more 0 251)*7) % (v_2.size:Int)).toNat) (Zck .xor .u8 (bAt v_2 ((((Zdo more 0 251)*7) % (v_2.size:Int)).toNat)) (1+(Zdo more 1 255)))) (by first|omega|(rw [Zfx];omega)|(rw [ByteArray.size_extract];omega)) (.inr (.inl (chg_b2 hs hatn om)))
  have hno2:¬ c_3=0:=fun q_=>bad_no (chg_b2 hs hatn om) (hx3_0 q_)
  refine Zit [(2,.call [(true,.any)] true (.tup [.agg [Zaj true v_3.Strokes],I c_3])),(6,.new 10)] [6,9,11] [] [Sv v_2,I (((Zdo more 0 251)*7) % (v_2.size:Int)),I c_3] [] [_∧True] hB ⟨⟨hc3,trivial⟩,trivial⟩ (Zaf (Zan ?_))
  obtain ⟨v_4,c_4,hx4_0,hc4⟩:=Zjf (v_2.extract 0 (((Zdo more 0 251)*7) % (v_2.size:Int)).toNat) (by first|omega|(rw [Zfx];omega)|(rw [ByteArray.size_extract];omega)) (cut_f2 hok h6 hs hpk hatn)
  have hno3:¬ c_4=0:=fun q_=>cut_n2 hok h6 hs hpk hatn (hx4_0 q_)
  refine Zdk [(3,.call [(true,.any)] true (.tup [.agg [Zaj true v_4.Strokes],I c_4])),(7,.new 12)] [11,13] [] [(0:Int)≤0∧(0:Int)≤(((Zdo more 0 251)*7) % (v_2.size:Int))∧(((Zdo more 0 251)*7) % (v_2.size:Int))≤(v_2.size:Int),_∧True] hB ⟨⟨om,om,om⟩,⟨hc4,trivial⟩,trivial⟩ (Zaf ?_)
  refine aR [(1,.dec true),(4,.dec true)] [4] [] [Bv true] [] [_,_] hB ⟨hno2,hno3,trivial⟩ (Zat ?_)
  refine Zau hB (Bv true) (by kernel_rfl) (.inl rfl) rfl (fun _=>trivial)
theorem Zpd:Zse Tryd.prog 22 (cLU8 false) (fun xs=>∀y∈xs,inR .u8 y):=
 Zpe (c:=cU8) (sz:=1) Tryd.underlying22 (by kernel_rfl) (by decide) (fun x=>⟨rfl,by simp [Zll,cU8]⟩) (Ztq Tryd.underlying5)
namespace fnChanged
set_option maxRecDepth 100000 in
theorem lifted (os:Os) (started:os.Started) (H:Type) (enc:TypeId×Value→H):
  ReturnsInHanded {} Tryd.checked os 3 .any (fun w args=>(Rows.fnChangedSpec.pre enc Tryd.prog Tryd.f3 Rows.fnChangedRow.domain false w args∧laidMetH Tryd.prog Rows.fnChangedRow.laid w)∧sizedMet enc Tryd.prog Tryd.f3 (OpenSpec.ofChange Rows.fnChangedSpec) false w args)
   (Rows.fnChangedSpec.post enc Tryd.prog Tryd.f3 false true false false):=by
 refine returnsInHanded_of_change_and (C:=Tryd.checked) (X:=fun w _=>laidMetH Tryd.prog Rows.fnChangedRow.laid w) (fun _ _ _ hh h=>h.of_heap hh) Tryd.own started (by kernel_rfl) Tryd.func3
  (ChangeSpec.witness_shaped (enc:=enc) (C:=Tryd.checked) (os:=os) (X:=fun w _=>laidMetH Tryd.prog Rows.fnChangedRow.laid w) false (World.laidAll Tryd.prog os Rows.fnChangedRow.laid) #[.slice none 0 0,.slice none 0 0] 8 (World.laidAll_os _ _ _)
   (World.shaped_of_ZipB (by kernel_rfl) (by kernel_rfl)) (by kernel_rfl) (by kernel_rfl) (by kernel_rfl)
   (by rw [MakeChecks.laidMetH_plain _ _ _ (by kernel_rfl)];exact laidMet_laidAll _ (by kernel_rfl) (by kernel_rfl))) ?_
 intro W base args ds gs before hval0 hW hcnd hsz hL _
 have hW':=hW
 obtain ⟨p,q,hA0,hV,rfl,hfz,hnd⟩:=hW
 have hval:∀(j:Nat) t v,Tryd.f3.params[j]? =some t→args[j]? =some v→Value.okWide Tryd.prog W .any base t v:=hval0
 have hA:DataW.TrodAll enc Tryd.prog W 0 (fun _=>true) true Tryd.f3.params.toList args.toList ds p:=hA0
 rw [Tryd.params3] at hA hval
 obtain ⟨v0,vs0,d0,ds0,p0,q0,hargs,rfl,rfl,h0,r0⟩:=trodAll_cons hA
 obtain ⟨v1,vs1,d1,ds1,p1,q1,rfl,rfl,rfl,h1,r1⟩:=trodAll_cons r0
 obtain ⟨rfl,rfl,rfl⟩:=trodAll_nil r1
 obtain rfl:args=#[v0,v1]:=args_eq hargs
 obtain ⟨rfl,rfl⟩:=trodVars_none hV
 obtain ⟨fuel0,hf0⟩:=h0
 obtain ⟨A0,l0,c0,rfl⟩:=okWide_slice Tryd.underlying22 (hval 0 22 v0 rfl rfl)
 obtain ⟨x0,rx0,ok0⟩:=(Zpd) enc W 0 _ _ _ _ _ hf0
 obtain ⟨fuel1,hf1⟩:=h1
 obtain ⟨A1,l1,c1,rfl⟩:=okWide_slice Tryd.underlying22 (hval 1 22 v1 rfl rfl)
 obtain ⟨x1,rx1,ok1⟩:=(Zpd) enc W 0 _ _ _ _ _ hf1
 refine (walk_of0 (Zmv x0 x1 ok0 ok1) (fun w _=>WX_free w) (RelTL.cons (Zpf rx0) (RelTL.cons (Zpf rx1) RelTL.nil))).mono fun e W1 ⟨he,hb⟩=> ?_
 subst he
 exact ⟨_,rfl,law_post Tryd.laidOut rfl Tryd.underlying4 (of_decide_eq_true (by kernel_rfl)) rfl hW' hb rfl⟩
theorem jf0:(Rows.fnChangedRow.inPlace==Tryd.pinned.checked.prog.inPlace 3)=true:=by kernel_rfl
theorem jf1:(Rows.fnChangedRow.unfollowed==Tryd.pinned.checked.prog.unfollowed 3)=true:=by kernel_rfl
theorem jf2:(Rows.fnChangedRow.recurses==Tryd.pinned.checked.prog.recurses 3)=true:=by kernel_rfl
theorem jf3:(Rows.fnChangedRow.named==Tryd.pinned.checked.prog.varsNamed 3)=true:=by kernel_rfl
theorem jf:joinedFacts Tryd.pinned.checked.prog 3 Tryd.f3 Rows.fnChangedSpec Rows.fnChangedRow=true:=by
 unfold joinedFacts
 rw [jf0,jf1,jf2,jf3]
 kernel_rfl
theorem over:Rows.fnChangedRow.holds Tryd.pinned (OpenSpec.ofChange Rows.fnChangedSpec):=
 OpenClaim.holds_of_wide 3 Tryd.f3 rfl rfl rfl rfl rfl rfl rfl ⟨rfl,rfl,rfl,rfl,rfl⟩ rfl rfl rfl rfl rfl (by kernel_rfl) Tryd.func3 jf
  (of_decide_eq_true (by kernel_rfl)) (by unfold Func.isWrapper;first|(rw [if_pos (by decide+kernel)];kernel_rfl)|(rw [if_neg (by decide+kernel)];exact ⟨rfl,rfl⟩))
  (fun os started H enc _=>lifted os started H enc)
theorem proved:Rows.FnChangedCardSaid:=
 Claim7.holds_tied_plain_at .later [] [.data,.pinned] true (true, "86840de5e438a3413c46fcd551886935197266738e8027118ea98398dc2d3b8a") false over (fun _ h=>by cases h) (by kernel_rfl) (fun _ h=>by cases h) fnChanged_row_tie rfl ⟨rfl,rfl⟩ (by kernel_rfl) rfl
  (fun f fn hf hfn=>by
   obtain rfl:f=3:=Option.some.inj ((show Tryd.prog.funcNamed "loop.example/g00918/laws.FnChanged" =some 3 by kernel_rfl).symm.trans hf)|>.symm
   obtain rfl:fn=Tryd.f3:=(Option.some.inj (Tryd.func3.symm.trans hfn)).symm
   exact ⟨by kernel_rfl,fun j t ht=>by
    rw [Tryd.params3] at ht
    have hm:t∈ [22,22]:=by simpa using Array.mem_of_getElem? ht
    have hall:([22,22].all fun u=> !Tryd.prog.wantsStandIn u)=true:=by kernel_rfl
    exact (show Tryd.prog.wantsStandIn t=false by simpa using List.all_eq_true.1 hall t hm)⟩)
  (by kernel_rfl)
#print axioms proved
end fnChanged
end Go.Proofs.YtnlfghpgfjlblaaDoor.Ax
