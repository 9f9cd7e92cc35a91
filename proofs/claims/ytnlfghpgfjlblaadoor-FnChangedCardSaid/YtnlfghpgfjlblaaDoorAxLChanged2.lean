/- Contracts that the statement FnChanged reaches, part 2. No conditions. -/
import Derived.Test.YtnlfghpgfjlblaaDoorAxLChanged1
import Derived.LaidMore
import Derived.Lay
import Derived.Lib.Repeat
import Derived.OpenShut
import Derived.SevenTiedAt
import Derived.Shelf.Strings.SlTrimAscii
import Derived.Stop.Joined
import Derived.Test.YtnlfghpgfjlblaaDoorAxBd
namespace Go.Proofs.YtnlfghpgfjlblaaDoor.Ax
open Go.RowKit Go.ChangeShapes Go.WideShapes
set_option linter.unusedVariables false
set_option linter.unusedSimpArgs false
def sAt (s:ByteArray) (a:Nat) (t:ByteArray):Prop:=a+t.size≤s.size∧∀j,j<t.size→bAt s (a+j)=bAt t j
theorem Zhd {s x y:ByteArray} {a:Nat} :sAt s a (x++y)↔sAt s a x∧sAt s (a+x.size) y:=by
 unfold sAt
 rw [ByteArray.size_append]
 constructor
 ·rintro ⟨h1,h2⟩
  refine ⟨⟨by omega,fun j hj=> ?_⟩,by omega,fun j hj=> ?_⟩
  ·have:=h2 j om
   rw [Zcx hj] at this;exact this
  ·have:=h2 (x.size+j) om
   rw [Zda om,show x.size+j-x.size=j from by omega,←Nat.add_assoc] at this;exact this
 ·rintro ⟨⟨h1,h2⟩,h3,h4⟩
  refine ⟨by omega,fun j hj=> ?_⟩
  by_cases q:j<x.size
  ·rw [Zcx q];exact h2 j q
  ·rw [Zda om,←h4 (j-x.size) om];congr 1;omega
theorem Zmu {s:ByteArray} {a:Nat} {n w:Int} (h:sAt s a (Zci n w)) (hn:0≤n) (h2:n<((2^w.toNat:Nat):Int)):rdN (s.extract a s.size) w.toNat=n:=by
 have hz:=Zbe n w
 have h1:=h.1
 refine Zrp (fun j hj=> ?_) hn h2
 rw [Zkb om,h.2 j om,Zjb hj]
def riC (l:List Int) (k:Int):Nat→ByteArray
 |0=>⟨#[]⟩
 |m+1=>riC l k m++Zch (at_ l m) k
def kB (l:List Int):Int:=(brS (Zkv l) 13).1
def Zhe (l:List Int):ByteArray:=Zci (kB l) 4++riC (Zkv l) (kB l) (Zkv l).length
def rOk (l:List Int):Prop:=∀x∈l,-1000000000≤x∧x≤1000000000
def okL (l:List Int):Prop:=l.length≤60∧∀x∈l,0≤x∧x≤3600000
theorem okL_r {l:List Int} (h:okL l):∀x∈Zkv l,-14400000≤x∧x≤14400000:=fun x hx=>by
 have:=rsdL_bd (B:=3600000) (by decide) (fun x hx=>by have:=h.2 x hx;omega) x hx;omega
theorem Zkw {l:List Int} (h:okL l):rOk (Zkv l):=fun x hx=>by have:=okL_r h x hx;omega
theorem kB_bd {l:List Int} (h:okL l):0≤kB l∧kB l≤12:=(Zhf (Zkw h) (K:=12) (by decide)).1
theorem ri_sz {n k:Int} (hn:-1000000000≤n∧n≤1000000000) (hk:0≤k∧k≤12):1≤(Zch n k).size∧(Zch n k).size≤52:=by
 have a:=Zmk hn hk.1
 have b:=Zrq hn hk
 unfold Zuh at b
 omega
theorem Zfr {l:List Int} {k:Int} (hl:rOk l) (hk:0≤k∧k≤12):∀m:Nat,m≤l.length→(riC l k m).size≤52*m
 |0,_=>Nat.le_refl _
 |m+1,h=>by
  have ih:=Zfr hl hk m om
  have:=ri_sz (hl _ (Zdf (xs:=l) (i:=m) om)) hk
  rw [riC,ByteArray.size_append];omega
theorem Zxb {s:ByteArray} {a:Nat} {l:List Int} {k:Int} {i:Nat} :∀m:Nat,i≤m→sAt s a (riC l k m)→sAt s a (riC l k i)
  | 0, hi, h => by have : i = 0 := by omega
                   subst this;exact h
  |m+1,hi,h=>by
    by_cases e:i=m+1
    · subst e;exact h
    · exact Zxb m om (Zhd.1 h).1
theorem Ztd {s:ByteArray} {a:Nat} {l:List Int} {k:Int} {i m:Nat} (hl:rOk l) (hk:0≤k∧k≤12) (h:sAt s a (riC l k m)) (hi:i<m) (hm:m≤l.length):Zbz s ((a+(riC l k i).size:Nat):Int) k=(at_ l i,((a+(riC l k (i+1)).size:Nat):Int),0)∧a+(riC l k (i+1)).size≤s.size:=by
 have h1:=Zxb (i:=i+1) m om h
 have h2:=(Zhd.1 h1).2
 have h3:=h2.1
 have e:=Zxc (s:=s) (p:=((a+(riC l k i).size:Nat):Int)) (k:=k) (n:=at_ l i) om hk.1 (hl _ (Zdf om)) om (fun j hj=>by rw [Int.toNat_natCast];exact h2.2 j hj)
 have ez:(riC l k (i+1)).size=(riC l k i).size+(Zch (at_ l i) k).size:=by rw [riC,ByteArray.size_append]
 rw [e,ez]
 refine ⟨?_,by omega⟩
 congr 2
 omega
theorem riC_uniq {s:ByteArray} {a:Nat} {l m:List Int} {k:Int} (hl:rOk l) (hm:rOk m) (hk:0≤k∧k≤12) (he:l.length=m.length) (h1:sAt s a (riC l k l.length)) (h2:sAt s a (riC m k m.length)):l=m:=by
 have go:∀i:Nat,i≤l.length→(riC l k i).size=(riC m k i).size∧∀j,j<i→at_ l j=at_ m j:=fun i=>by
  induction i with
  |zero=>exact fun _=>⟨rfl,fun j hj=>absurd hj (Nat.not_lt_zero _)⟩
  |succ i ih=>
   intro hi
   have ih:=ih om
   have r1:=(Ztd hl hk h1 (i:=i) om (Nat.le_refl _)).1
   have r2:=(Ztd hm hk h2 (i:=i) om (Nat.le_refl _)).1
   rw [ih.1] at r1
   have r3:=r1.symm.trans r2
   simp only [Prod.mk.injEq,and_true] at r3
   refine ⟨by have:=r3.2;omega,fun j hj=> ?_⟩
   by_cases e:j=i
   ·subst e;exact r3.1
   ·exact ih.2 j om
 refine List.ext_getElem he fun j q1 q2=> ?_
 have:=(go l.length (Nat.le_refl _)).2 j q1
 rw [Zgr q1,Zgr q2] at this
 exact this
theorem rsd_inj {l m:List Int} (he:l.length=m.length) (h:Zkv l=Zkv m):l=m:=by
 have go:∀i:Nat,i≤l.length→∀j,j<i→at_ l j=at_ m j:=fun i=>by
  induction i with
  |zero=>exact fun _ j hj=>absurd hj (Nat.not_lt_zero _)
  |succ i ih=>
   intro hi j hj
   have ih:=ih om
   by_cases e:j=i
   ·subst e
    have a:=Zrr (l:=l) (i:=j) om
    have b:=Zrr (l:=m) (i:=j) om
    rw [h] at a
    have g:gsI l j=gsI m j:=by
     match j,ih with
     |0,_=>rfl
     |1,ih=>exact ih 0 om
     |n+2,ih=>
      show 2*at_ l (n+1)-at_ l n=2*at_ m (n+1)-at_ m n
      rw [ih (n+1) om,ih n om]
    omega
   ·exact ih j om
 refine List.ext_getElem he fun j q1 q2=> ?_
 have:=go l.length (Nat.le_refl _) j q1
 rw [Zgr q1,Zgr q2] at this
 exact this
theorem p24:((2^(4:Int).toNat:Nat):Int)=16:=by decide
theorem p28:((2^(8:Int).toNat:Nat):Int)=256:=by decide
theorem col_k {s:ByteArray} {a:Nat} {l:List Int} (h:sAt s a (Zhe l)) (ho:okL l):rdN (s.extract a s.size) 4=kB l∧sAt s (a+4) (riC (Zkv l) (kB l) (Zkv l).length)∧a+4≤s.size:=by
 have q:=Zhd.1 h
 have hk:=kB_bd ho
 have hz:=Zbe (kB l) 4
 have e:(4:Int).toNat=4:=rfl
 rw [e] at hz
 rw [hz] at q
 exact ⟨Zmu q.1 hk.1 (by rw [p24];omega),q.2,by have:=q.2.1;omega⟩
theorem Zoc {s:ByteArray} {a:Nat} {l m:List Int} (h1:sAt s a (Zhe l)) (h2:sAt s a (Zhe m)) (he:l.length=m.length) (hl:okL l) (hm:okL m):l=m:=by
 have a1:=col_k h1 hl
 have a2:=col_k h2 hm
 have ek:kB l=kB m:=a1.1.symm.trans a2.1
 rw [ek] at a1
 refine rsd_inj he (riC_uniq (Zkw hl) (Zkw hm) (kB_bd hm) (by rw [Zgl,Zgl];exact he) a1.2.1 a2.2.1)
def Zeo (s:Stroke) (c:Nat):List Int:=s.Points.map fun p=>if c=0 then p.X else if c=1 then p.Y else p.T
theorem Zdq (s:Stroke) (c:Nat):(Zeo s c).length=s.Points.length:=by unfold Zeo;rw [List.length_map]
def pcB (s:Stroke):Nat→ByteArray
 |0=>Zci (s.Points.length:Int) 8
 |c+1=>pcB s c++Zhe (Zeo s c)
def stkB (s:Stroke):ByteArray:=pcB s 3
def Zgs (ss:List Stroke):Nat→ByteArray
 |0=>Zci (ss.length:Int) 8
 |m+1=>Zgs ss m++stkB (at_ ss m)
theorem Zod {s:Stroke} (h:Zam s=true):(1≤s.Points.length∧s.Points.length≤60)∧∀p∈s.Points,(0≤p.X∧p.X≤4095)∧(0≤p.Y∧p.Y≤4095)∧(0≤p.T∧p.T≤3600000):=by
 simp only [Zam,Bool.and_eq_true,decide_eq_true_eq] at h
 refine ⟨by omega,fun p hp=> ?_⟩
 obtain ⟨j,hj,q⟩:=List.getElem_of_mem hp
 have a:=Zhl.1 h.2 j hj
 unfold Zrs at a
 rw [Bool.and_eq_true] at a
 have:=Zkx.1 a.1
 rw [Zgr hj,q] at this
 exact this
theorem Zfu {s:Stroke} (h:Zam s=true) (c:Nat):okL (Zeo s c):=by
 have a:=Zod h
 refine ⟨by rw [Zdq];omega,fun x hx=> ?_⟩
 obtain ⟨p,hp,rfl⟩:=List.mem_map.1 hx
 have:=a.2 p hp
 split
 ·omega
 ·split<;>omega
theorem Zxd {l:List Int} (h:okL l):4≤(Zhe l).size∧(Zhe l).size≤3124:=by
 have a:=Zfr (Zkw h) (kB_bd h) (Zkv l).length (Nat.le_refl _)
 have hz:=Zbe (kB l) 4
 have e:(4:Int).toNat=4:=rfl
 have:=h.1
 have e2:=Zgl l
 unfold Zhe
 rw [ByteArray.size_append];omega
theorem Zoe {s:Stroke} (h:Zam s=true):∀c,8≤(pcB s c).size∧(pcB s c).size≤8+3124*c
 |0=>by
  have hz:=Zbe (s.Points.length:Int) 8
  have e:(8:Int).toNat=8:=rfl
  show 8≤(Zci _ _).size∧(Zci _ _).size≤_
  omega
 |c+1=>by
  have ih:=Zoe h c
  have:=Zxd (Zfu h c)
  rw [pcB,ByteArray.size_append];omega
theorem Zhg {ss:List Stroke} (h:∀s∈ss,Zam s=true):∀m:Nat,m≤ss.length→8≤(Zgs ss m).size∧(Zgs ss m).size≤8+9380*m
 |0,_=>by
  have hz:=Zbe (ss.length:Int) 8
  have e:(8:Int).toNat=8:=rfl
  show 8≤(Zci _ _).size∧(Zci _ _).size≤_
  omega
 |m+1,hm=>by
  have ih:=Zhg h m om
  have:=Zoe (h _ (Zdf (xs:=ss) (i:=m) om)) 3
  rw [Zgs,ByteArray.size_append]
  show 8≤_+(pcB _ 3).size∧_+(pcB _ 3).size≤_
  omega
def isB (t:ByteArray):Prop:=∀j,j<t.size→bAt t j=48∨bAt t j=49
theorem Zof {x y:ByteArray} (hx:isB x) (hy:isB y):isB (x++y):=fun j hj=>by
 rw [ByteArray.size_append] at hj
 by_cases q:j<x.size
 ·rw [Zcx q];exact hx j q
 ·rw [Zda om];exact hy _ om
theorem Zrt (n w:Int):isB (Zci n w):=fun j hj=>by
 rw [Zbe] at hj
 rw [Zjb hj]
 omega
theorem Zxe (l:List Int) (k:Int):∀m,isB (riC l k m)
 |0=>fun j hj=>absurd hj (Nat.not_lt_zero _)
 |m+1=>Zof (Zxe l k m) fun j hj=>Zui hj
theorem isB_col (l:List Int):isB (Zhe l):=Zof (Zrt _ _) (Zxe _ _ _)
theorem isB_pc (s:Stroke):∀c,isB (pcB s c)
 |0=>Zrt _ _
 |c+1=>Zof (isB_pc s c) (isB_col _)
theorem Zxf (ss:List Stroke):∀m,isB (Zgs ss m)
 |0=>Zrt _ _
 |m+1=>Zof (Zxf ss m) (isB_pc _ _)
theorem Zte {x:Ink} (h:Zbg x=true) (h6:(x.Strokes.length:Int)≤6):Zdn (Zgs x.Strokes x.Strokes.length)=true:=by
 have a:=Zhg (Zky h) x.Strokes.length (Nat.le_refl _)
 exact Zcy.2 ⟨by omega,Zxf _ _⟩
theorem Zqi {s:ByteArray} {a:Nat} {x:Stroke} (h:sAt s a (stkB x)) (ho:Zam x=true):(rdN (s.extract a s.size) 8=(x.Points.length:Int)∧a+8≤s.size)∧sAt s (a+8) (Zhe (Zeo x 0))∧sAt s (a+8+(Zhe (Zeo x 0)).size) (Zhe (Zeo x 1))∧sAt s (a+8+(Zhe (Zeo x 0)).size+(Zhe (Zeo x 1)).size) (Zhe (Zeo x 2))∧(stkB x).size=8+(Zhe (Zeo x 0)).size+(Zhe (Zeo x 1)).size+(Zhe (Zeo x 2)).size:=by
 have h60:=(Zod ho).1
 have hz:=Zbe (x.Points.length:Int) 8
 have e:(8:Int).toNat=8:=rfl
 rw [e] at hz
 have ez:(stkB x).size=8+(Zhe (Zeo x 0)).size+(Zhe (Zeo x 1)).size+(Zhe (Zeo x 2)).size:=by
  show (((Zci _ 8++Zhe _)++Zhe _)++Zhe _).size=_
  rw [ByteArray.size_append,ByteArray.size_append,ByteArray.size_append,hz]
 have q3:=Zhd.1 (show sAt s a (((Zci (x.Points.length:Int) 8++Zhe (Zeo x 0))++Zhe (Zeo x 1))++Zhe (Zeo x 2)) from h)
 have q2:=Zhd.1 q3.1
 have q1:=Zhd.1 q2.1
 rw [ByteArray.size_append,ByteArray.size_append,hz] at q3
 rw [ByteArray.size_append,hz] at q2
 rw [hz] at q1
 refine ⟨⟨Zmu q1.1 om (by rw [p28];omega),by have:=q1.2.1;omega⟩,q1.2,?_,?_,ez⟩
 ·have:=q2.2;rwa [show a+(8+(Zhe (Zeo x 0)).size)=a+8+(Zhe (Zeo x 0)).size from by omega] at this
 ·have:=q3.2;rwa [show a+(8+(Zhe (Zeo x 0)).size+(Zhe (Zeo x 1)).size)=a+8+(Zhe (Zeo x 0)).size+(Zhe (Zeo x 1)).size from by omega] at this
theorem pts_ext {x y:Stroke} (h0:Zeo x 0=Zeo y 0) (h1:Zeo x 1=Zeo y 1) (h2:Zeo x 2=Zeo y 2):x=y:=by
 have he:x.Points.length=y.Points.length:=by have:=congrArg List.length h0;rwa [Zdq,Zdq] at this
 have e:x.Points=y.Points:=by
  refine List.ext_getElem he fun j q1 q2=> ?_
  have g:∀c,Zeo x c=Zeo y c→(if c=0 then x.Points[j].X else if c=1 then x.Points[j].Y else x.Points[j].T)=(if c=0 then y.Points[j].X else if c=1 then y.Points[j].Y else y.Points[j].T):=fun c hc=>by
   have w:=congrArg (fun l=>l[j]?) hc
   simp only [Zeo,List.getElem?_map,List.getElem?_eq_getElem q1,List.getElem?_eq_getElem q2,Option.map_some,Option.some.injEq] at w
   exact w
  have g0:=g 0 h0
  have g1:=g 1 h1
  have g2:=g 2 h2
  simp at g0 g1 g2
  cases hx:x.Points[j];cases hy:y.Points[j]
  rw [hx,hy] at g0 g1 g2
  simp_all
 cases x;cases y;simp_all
theorem stk_uniq {s:ByteArray} {a:Nat} {x y:Stroke} (h1:sAt s a (stkB x)) (h2:sAt s a (stkB y)) (hx:Zam x=true) (hy:Zam y=true):x=y:=by
 have a1:=Zqi h1 hx
 have a2:=Zqi h2 hy
 have el:x.Points.length=y.Points.length:=by have:=a1.1.1.symm.trans a2.1.1;omega
 have c0:=Zoc a1.2.1 a2.2.1 (by rw [Zdq,Zdq];exact el) (Zfu hx 0) (Zfu hy 0)
 have b1:=a1.2.2.1
 rw [c0] at b1
 have c1:=Zoc b1 a2.2.2.1 (by rw [Zdq,Zdq];exact el) (Zfu hx 1) (Zfu hy 1)
 have b2:=a1.2.2.2.1
 rw [c0,c1] at b2
 exact pts_ext c0 c1 (Zoc b2 a2.2.2.2.1 (by rw [Zdq,Zdq];exact el) (Zfu hx 2) (Zfu hy 2))
theorem Zmt {s:ByteArray} {a:Nat} {ss:List Stroke} {i:Nat} :∀m:Nat,i≤m→sAt s a (Zgs ss m)→sAt s a (Zgs ss i)
  | 0, hi, h => by have : i = 0 := by omega
                   subst this;exact h
  |m+1,hi,h=>by
    by_cases e:i=m+1
    · subst e;exact h
    · exact Zmt m om (Zhd.1 h).1
theorem Zxg {s:ByteArray} {ss:List Stroke} (h:sAt s 0 (Zgs ss ss.length)) (h16:ss.length≤16):rdN (s.extract 0 s.size) 8=(ss.length:Int):=Zmu (Zmt (i:=0) ss.length (Nat.zero_le _) h) om (by rw [p28];omega)
theorem ink_at {s:ByteArray} {ss:List Stroke} (h:sAt s 0 (Zgs ss ss.length)) {i:Nat} (hi:i<ss.length):sAt s (Zgs ss i).size (stkB (at_ ss i)):=by
 have:=(Zhd.1 (Zmt (i:=i+1) ss.length om h)).2
 rwa [Nat.zero_add] at this
theorem ink_uniq {s:ByteArray} {x y:Ink} (h1:sAt s 0 (Zgs x.Strokes x.Strokes.length)) (h2:sAt s 0 (Zgs y.Strokes y.Strokes.length)) (hx:Zbg x=true) (hy:Zbg y=true):x=y:=by
 have lx:=Zxh hx
 have ly:=Zxh hy
 have el:x.Strokes.length=y.Strokes.length:=by
  have:=(Zxg h1 om).symm.trans (Zxg h2 om);omega
 have go:∀i:Nat,i≤x.Strokes.length→(Zgs x.Strokes i).size=(Zgs y.Strokes i).size∧∀j,j<i→at_ x.Strokes j=at_ y.Strokes j:=fun i=>by
  induction i with
  |zero=>exact fun _=>⟨by show (Zci _ _).size=(Zci _ _).size;rw [Zbe,Zbe],fun j hj=>absurd hj (Nat.not_lt_zero _)⟩
  |succ i ih=>
   intro hi
   have ih:=ih om
   have r1:=ink_at h1 (i:=i) om
   have r2:=ink_at h2 (i:=i) om
   rw [ih.1] at r1
   have e:=stk_uniq r1 r2 (Zru hx i om) (Zru hy i om)
   refine ⟨by rw [Zgs,Zgs,ByteArray.size_append,ByteArray.size_append,ih.1,e],fun j hj=> ?_⟩
   by_cases q:j=i
   ·subst q;exact e
   ·exact ih.2 j om
 have:x.Strokes=y.Strokes:=by
  refine List.ext_getElem el fun j q1 q2=> ?_
  have:=(go x.Strokes.length (Nat.le_refl _)).2 j q1
  rw [Zgr q1,Zgr q2] at this
  exact this
 cases x;cases y;simp_all
def ckS (s:ByteArray):Nat→Int
 |0=>1
 |k+1=>(ckS s k*257+bAt s k) % 65521
theorem Zoz (s:ByteArray):∀k,0≤ckS s k∧ckS s k<65521
 |0=>by show (0:Int)≤1∧(1:Int)<65521;decide
 |k+1=>by
  show 0≤(ckS s k*257+bAt s k) % 65521∧(ckS s k*257+bAt s k) % 65521<65521
  omega
def ckA (s:ByteArray):Int:=ckS s s.size
def hdI:ByteArray:=⟨#[73,75]⟩
def Zez (p:ByteArray):ByteArray:=(hdI++p)++Zgt [IntKind.u8.wrap (ckA (hdI++p)/256),IntKind.u8.wrap (ckA (hdI++p))]
theorem Zvd (n:Int):0≤IntKind.u8.wrap n∧IntKind.u8.wrap n≤255:=by
 have e:IntKind.u8.wrap n=n % 256:=by simp [IntKind.wrap,IntKind.signed,IntKind.bits]
 omega
theorem u8_mod (n:Int):IntKind.u8.wrap n=n % 256:=by simp [IntKind.wrap,IntKind.signed,IntKind.bits]
theorem u8_is {n:Int} (h:0≤n∧n≤255):IntKind.u8.wrap n=n:=by
 have e:IntKind.u8.wrap n=n % 256:=by simp [IntKind.wrap,IntKind.signed,IntKind.bits]
 omega
theorem u8_two {a b x:Int} (h:x∈ [IntKind.u8.wrap a,IntKind.u8.wrap b]):0≤x∧x≤255:=by
 simp only [List.mem_cons,List.not_mem_nil,or_false] at h
 rcases h with rfl|rfl
 ·exact Zvd a
 ·exact Zvd b
def Zlk (x:Ink) (s:ByteArray):Prop:=∃p,Zsd (Zgs x.Strokes x.Strokes.length) p∧s=Zez p
theorem gs_take {l:List Int} {i:Nat} (h:i≤l.length):gsI (l.take i) (l.take i).length=gsI l i:=by
 have e:(l.take i).length=i:=by rw [List.length_take];omega
 have g:∀j,j<i→at_ (l.take i) j=at_ l j:=fun j hj=>by rw [Zgr om,Zgr om,List.getElem_take]
 rw [e]
 match i,e,g with
 |0,_,_=>rfl
 |1,_,g=>exact g 0 om
 |n+2,_,g=>
  show 2*at_ _ (n+1)-at_ _ n=2*at_ l (n+1)-at_ l n
  rw [g (n+1) om,g n om]
theorem nil_app_ (x:ByteArray):(⟨#[]⟩:ByteArray)++x=x:=by apply ByteArray.ext;simp
theorem Zog (x:ByteArray):x++(⟨#[]⟩:ByteArray)=x:=by apply ByteArray.ext;simp
def Zqj (s:Stroke) (c i:Nat):List Int:=(s.Points.take i).map fun p=>if c=0 then p.X else if c=1 then p.Y else p.T
theorem Zkz {s:Stroke} {c i:Nat} (h:i<s.Points.length):Zqj s c (i+1)=Zqj s c i++[if c=0 then (at_ s.Points i).X else if c=1 then (at_ s.Points i).Y else (at_ s.Points i).T]:=by
 unfold Zqj
 rw [List.take_succ_eq_append_getElem h,List.map_append,←Zgr h];rfl
theorem Zoh (s:Stroke) (c:Nat):Zqj s c s.Points.length=Zeo s c:=by unfold Zqj Zeo;rw [List.take_length]
theorem Zuj (s:Stroke) (hs:s.Points.length≤60):∃(v:Arr3LI),(v.a0=Zeo s 0)∧(v.a1=Zeo s 1)∧(v.a2=Zeo s 2)∧Con Tryd.prog 28 [.agg [Zaq false s.Points]] true (Zas v):=by
  have hh:∃r:Arr3LI,((r.a0=Zeo s 0)∧(r.a1=Zeo s 1)∧(r.a2=Zeo s 2)∧(True))∧Zao Tryd.prog 28 [.agg [Zaq false s.Points]] (Zac []) true (Zas r) (Zac []):=by
    refine Zdt (Φ:=fun r:Arr3LI=>(r.a0=Zeo s 0)∧(r.a1=Zeo s 1)∧(r.a2=Zeo s 2)∧(True)) [] (fun r=>[]) (fn:=Tryd.f28) (nt:=36) Tryd.func28 rfl rfl (args:=[.agg [Zaq false s.Points]]) rfl (Zca (.inl ⟨rfl,by simp [Zah,Zae,Zfm]⟩) Zdu) (res:=fun r=>Zas r) ?_
    refine xQ [(0,.new 1),(1,.new 2)] [1,2] [1,2] [] trivial ?_
    refine xQ [(0,.new 3)] [1,2,3] [1,2,3] [] trivial (Zal ?_)
    refine xR [] [2,3,7,8,9] [2,3] [.ref 2 0,.ref 3 0,Zaq false s.Points,I (s.Points.length:Int),I 0] [some (.box [Zcb,Zcb,Zcb]),some (.box [Zcb,Zcb,Zcb])] [] trivial (Zbl ?_)
    refine Zje 3 0 730 1 (fun _=>[]) rfl (by kernel_rfl) ?_
    refine Zje 3 1 731 1 (fun _=>[]) rfl (by kernel_rfl) ?_
    refine Zje 3 2 732 1 (fun _=>[]) rfl (by kernel_rfl) ?_
    refine Zhq [] (T:=[(2,.ref 2 0),(3,.ref 3 0),(7,Zaq false s.Points),(8,I (s.Points.length:Int)),(9,I 0)]) (O:=[(2,.box [Zcb,Zcb,Zcb]),(3,.box [.arr 730,.arr 731,.arr 732]),(730,.arr 1 (([]:List Int).length) (fI ([]:List Int))),(731,.arr 1 (([]:List Int).length) (fI ([]:List Int))),(732,.arr 1 (([]:List Int).length) (fI ([]:List Int)))]) rfl (⟨.inl rfl,.inl rfl,.inl rfl,.inl rfl,.inl rfl,trivial⟩) (⟨.inl rfl,.inl rfl,.inr ⟨rfl,(by first|rfl|(simp;done)|(simp;omega)|omega),fun i_ hi_=>absurd hi_ (Nat.not_lt_zero _)⟩,.inr ⟨rfl,(by first|rfl|(simp;done)|(simp;omega)|omega),fun i_ hi_=>absurd hi_ (Nat.not_lt_zero _)⟩,.inr ⟨rfl,(by first|rfl|(simp;done)|(simp;omega)|omega),fun i_ hi_=>absurd hi_ (Nat.not_lt_zero _)⟩,trivial⟩) ?_
    refine Zee (X:=Int×(List Int)×(List Int)×(List Int)) (fun x=>mkS [(2,.ref 2 0),(3,.ref 3 0),(7,Zaq false s.Points),(8,I (s.Points.length:Int)),(9,I x.1)] [(2,.box [Zcb,Zcb,Zcb]),(3,.box [.arr 730,.arr 731,.arr 732]),(730,.arr 1 x.2.1.length (fI x.2.1)),(731,.arr 1 x.2.2.1.length (fI x.2.2.1)),(732,.arr 1 x.2.2.2.length (fI x.2.2.2))]) (fun x=>(0≤x.1∧x.1≤(s.Points.length:Int))∧(x.2.1=Zqj s 0 x.1.toNat)∧(x.2.2.1=Zqj s 1 x.1.toNat)∧(x.2.2.2=Zqj s 2 x.1.toNat)∧((x.2.1.length:Int)=x.1∧(x.2.2.1.length:Int)=x.1∧(x.2.2.2.length:Int)=x.1)∧True) (fun x=>((s.Points.length:Int)-x.1).toNat) (0,([]:List Int),([]:List Int),([]:List Int)) rfl (show (0≤(0:Int)∧(0:Int)≤(s.Points.length:Int))∧(([]:List Int)=Zqj s 0 (0:Int).toNat)∧(([]:List Int)=Zqj s 1 (0:Int).toNat)∧(([]:List Int)=Zqj s 2 (0:Int).toNat)∧((([]:List Int).length:Int)=(0:Int)∧(([]:List Int).length:Int)=(0:Int)∧(([]:List Int).length:Int)=(0:Int))∧True from ⟨om,(by rfl),(by rfl),(by rfl),(by exact ⟨rfl,rfl,rfl⟩),trivial⟩) (fun x hI=> ?_)
    obtain ⟨t9,xs,ys,ts⟩:=x
    obtain ⟨hi0,hxs,hys,hts,hln,_⟩:(0≤t9∧t9≤(s.Points.length:Int))∧(xs=Zqj s 0 t9.toNat)∧(ys=Zqj s 1 t9.toNat)∧(ts=Zqj s 2 t9.toNat)∧((xs.length:Int)=t9∧(ys.length:Int)=t9∧(ts.length:Int)=t9)∧True:=hI
    show XW _ _ _ _ (mkS [(2,.ref 2 0),(3,.ref 3 0),(7,Zaq false s.Points),(8,I (s.Points.length:Int)),(9,I t9)] [(2,.box [Zcb,Zcb,Zcb]),(3,.box [.arr 730,.arr 731,.arr 732]),(730,.arr 1 xs.length (fI xs)),(731,.arr 1 ys.length (fI ys)),(732,.arr 1 ts.length (fI ts))]) _ _
    refine Zal ?_
    by_cases h1:t9<(s.Points.length:Int)
    ·have hi:t9.toNat<s.Points.length:=by omega
     have hii:(t9+1).toNat=t9.toNat+1:=by omega
     refine x_q [(0,.dec true)] [2,3,7,8,9,10] [2,3,730,731,732] [_] ⟨h1,trivial⟩ (Zab (Zal (Zfk (Zbr (Zab (Zal (Zbl ?_)))))))
     refine xQ [(2,.new 5)] [2,3,5,7,8,9] [2,3,5,730,731,732] [(0:Int)≤t9∧t9<(s.Points.length:Int)] ⟨⟨(by first|omega|(simp;omega)),(by first|omega|(simp;omega))⟩,trivial⟩ ?_
     refine xQ [(4,.new 17),(5,.new 18)] [2,3,5,7,8,9] [2,3,5,18,731,732] [(0:Int)≤0∧0<(3:Int),(xs.length+1)*8≤140737488355328,(0:Int)≤0∧0<(3:Int)] ⟨⟨by decide,by decide⟩,(by first|omega|(simp;omega)),⟨by decide,by decide⟩,trivial⟩ ?_
     refine xR [(4,.new 24),(5,.new 25)] [2,3,5,7,8,9] [2,3,5,18,25,732] [.ref 2 0,.ref 3 0,.ref 5 0,Zaq false s.Points,I (s.Points.length:Int),I t9] [some (.box [Zcb,Zcb,Zcb]),some (.box [.arr 18,.arr 25,.arr 732]),some (Zrv (at_ s.Points t9.toNat)),some (.arr 1 (xs.length+1) (Zhi xs.length (fI xs) (Ziq [I ((at_ s.Points t9.toNat).X)] 1))),some (.arr 1 (ys.length+1) (Zhi ys.length (fI ys) (Ziq [I ((at_ s.Points t9.toNat).Y)] 1))),some (.arr 1 ts.length (fI ts))] [(0:Int)≤1∧1<(3:Int),(ys.length+1)*8≤140737488355328,(0:Int)≤1∧1<(3:Int)] ⟨⟨by decide,by decide⟩,(by first|omega|(simp;omega)),⟨by decide,by decide⟩,trivial⟩ ?_
     refine x_q [(4,.new 31),(5,.new 32)] [2,3,7,8,9] [2,3,18,25,32] [(0:Int)≤2∧2<(3:Int),(ts.length+1)*8≤140737488355328,(0:Int)≤2∧2<(3:Int)] ⟨⟨by decide,by decide⟩,(by first|omega|(simp;omega)),⟨by decide,by decide⟩,trivial⟩ (Zbs 1 (Zab ?_))
     refine x_r [] [2,3,7,8,9] [2,3,18,25,32] [.ref 2 0,.ref 3 0,Zaq false s.Points,I (s.Points.length:Int),I (t9+1)] [some (.box [Zcb,Zcb,Zcb]),some (.box [.arr 18,.arr 25,.arr 32]),some (.arr 1 (xs.length+1) (Zhi xs.length (fI xs) (Ziq [I ((at_ s.Points t9.toNat).X)] 1))),some (.arr 1 (ys.length+1) (Zhi ys.length (fI ys) (Ziq [I ((at_ s.Points t9.toNat).Y)] 1))),some (.arr 1 (ts.length+1) (Zhi ts.length (fI ts) (Ziq [I ((at_ s.Points t9.toNat).T)] 1)))] [inR .i64 (t9+1)] ⟨(Zad (by first|omega|(simp;omega)) (by first|omega|(simp;omega))),trivial⟩ ?_
     refine Zcm [(730,18),(731,25),(732,32)] (T:=[(2,.ref 2 0),(3,.ref 3 0),(7,Zaq false s.Points),(8,I (s.Points.length:Int)),(9,I (t9+1))]) (O:=[(2,.box [Zcb,Zcb,Zcb]),(3,.box [.arr 730,.arr 731,.arr 732]),(730,.arr 1 ((xs++[(at_ s.Points t9.toNat).X]).length) (fI (xs++[(at_ s.Points t9.toNat).X]))),(731,.arr 1 ((ys++[(at_ s.Points t9.toNat).Y]).length) (fI (ys++[(at_ s.Points t9.toNat).Y]))),(732,.arr 1 ((ts++[(at_ s.Points t9.toNat).T]).length) (fI (ts++[(at_ s.Points t9.toNat).T])))]) rfl (⟨.inl rfl,.inl rfl,.inl rfl,.inl rfl,.inl rfl,trivial⟩) (⟨.inl rfl,.inl rfl,.inr ⟨rfl,(by first|rfl|(simp;done)|(simp;omega)|omega),fun i_ hi_=> .inl (Zen (enc:=cI) (xs:=xs) rfl i_ hi_)⟩,.inr ⟨rfl,(by first|rfl|(simp;done)|(simp;omega)|omega),fun i_ hi_=> .inl (Zen (enc:=cI) (xs:=ys) rfl i_ hi_)⟩,.inr ⟨rfl,(by first|rfl|(simp;done)|(simp;omega)|omega),fun i_ hi_=> .inl (Zen (enc:=cI) (xs:=ts) rfl i_ hi_)⟩,trivial⟩) (Zbt ((t9+1),(xs++[(at_ s.Points t9.toNat).X]),(ys++[(at_ s.Points t9.toNat).Y]),(ts++[(at_ s.Points t9.toNat).T])) rfl (show (0≤(t9+1)∧(t9+1)≤(s.Points.length:Int))∧((xs++[(at_ s.Points t9.toNat).X])=Zqj s 0 (t9+1).toNat)∧((ys++[(at_ s.Points t9.toNat).Y])=Zqj s 1 (t9+1).toNat)∧((ts++[(at_ s.Points t9.toNat).T])=Zqj s 2 (t9+1).toNat)∧(((xs++[(at_ s.Points t9.toNat).X]).length:Int)=(t9+1)∧((ys++[(at_ s.Points t9.toNat).Y]).length:Int)=(t9+1)∧((ts++[(at_ s.Points t9.toNat).T]).length:Int)=(t9+1))∧True from ⟨om,(by (rw [hii,Zkz hi,←hxs];rfl)),(by (rw [hii,Zkz hi,←hys];rfl)),(by (rw [hii,Zkz hi,←hts];rfl)),(by (simp;omega)),trivial⟩) (by first|(show (((s.Points.length:Int)-(t9+1)).toNat:Nat)<((s.Points.length:Int)-t9).toNat;omega)|(dsimp only;omega)))
    have hie:t9.toNat=s.Points.length:=by omega
    refine x_r [(0,.dec false)] [2,3,7,8,9,10] [2,3,730,731,732] [.ref 2 0,.ref 3 0,Zaq false s.Points,I (s.Points.length:Int),I t9,Bv false] [some (.box [Zcb,Zcb,Zcb]),some (.box [.arr 730,.arr 731,.arr 732]),some (.arr 1 xs.length (fI xs)),some (.arr 1 ys.length (fI ys)),some (.arr 1 ts.length (fI ts))] [_] ⟨h1,trivial⟩ (Zab (Zal (Zcu rfl (Zdz (Zba ?_)))))
    refine Zbb ?_
    refine Zbc (Zab ?_)
    refine xR [] [2] [2,730,731,732] [.ref 2 0] [some (.box [.arr 730,.arr 731,.arr 732]),some (.arr 1 xs.length (fI xs)),some (.arr 1 ys.length (fI ys)),some (.arr 1 ts.length (fI ts))] [] trivial (Zcw ?_)
    refine Zbw (Arr3LI.mk xs ys ts) (show ((Arr3LI.mk xs ys ts).a0=Zeo s 0)∧((Arr3LI.mk xs ys ts).a1=Zeo s 1)∧((Arr3LI.mk xs ys ts).a2=Zeo s 2)∧(True) from ⟨(by (rw [hxs,hie];exact Zoh _ _)),(by (rw [hys,hie];exact Zoh _ _)),(by (rw [hts,hie];exact Zoh _ _)),trivial⟩) (trivial) (.agg [.arr 730,.arr 731,.arr 732]) (by kernel_rfl) (.inr ⟨⟨(fun _=>rfl),rfl,rfl,fun i _=> .inl rfl⟩,⟨⟨(fun _=>rfl),rfl,rfl,fun i _=> .inl rfl⟩,⟨⟨(fun _=>rfl),rfl,rfl,fun i _=> .inl rfl⟩,rfl⟩⟩⟩) (fun _=>rfl) (fun _=>(by simp [Zah,Zae,Ztf]))
  obtain ⟨v,⟨hh0,hh1,hh2,_⟩,hc⟩:=hh
  exact ⟨v,hh0,hh1,hh2,hc⟩
theorem Zjl (list:List Int) (hx:∀x∈list,-125000000≤x∧x≤125000000) (hl:list.length≤100):Con Tryd.prog 42 [slI false list] true (I (gsI list list.length)):=by
  refine Zej (fn:=Tryd.f42) (nt:=26) Tryd.func42 rfl rfl rfl rfl (by simp [Zae,Zah,Ztf]) fun B hB=> ?_
  refine Zfe (x:=slI false list) 0 rfl (fun len_list=> ?_)
  simp [Zhp,Zot,cI,fI,slI] at len_list
  refine aQ [] [0] [] [] hB trivial ?_
  refine aQ [] [0,3] [] [] hB trivial ?_
  refine aQ [] [0,3,6] [] [] hB trivial (Zdi (Zan ?_))
  by_cases h1:(list.length:Int)=0
  ·refine Zit [(0,.dec true)] [0,3,6,19] [] [slI false list,I (list.length:Int),I (list.length:Int),Bv true] [] [_] hB ⟨h1,trivial⟩ (Zaf (Zhv rfl ?_))
   refine aR [] [2] [] [I 0] [] [] hB trivial (Zat (Zcj ?_))
   refine Zau hB (I 0) (by kernel_rfl) (.inl (by first|(rw [show list.length=0 from by omega];rfl)|(rw [show list.length=1 from by omega];rfl)|(refine congrArg I ?_;rw [e1,e2,hn_];rfl))) rfl (fun _=>trivial)
  refine Zdk [(0,.dec false)] [0,3,6,19] [] [_] hB ⟨h1,trivial⟩ (Zaf (Zdm (Zan ?_)))
  by_cases h2:(list.length:Int)=1
  ·have hl1:=hx _ (Zdf (xs:=list) (i:=0) om)
   refine Zdk [(0,.dec true)] [0,3,21] [] [_] hB ⟨h2,trivial⟩ (Zaf (Zdr ?_))
   refine aR [] [2] [] [I (at_ list 0)] [] [(0:Int)≤0∧0<(list.length:Int)] hB ⟨⟨om,om⟩,trivial⟩ (Zat (Zcj ?_))
   refine Zau hB (I (at_ list 0)) (by kernel_rfl) (.inl (by first|(rw [show list.length=0 from by omega];rfl)|(rw [show list.length=1 from by omega];rfl)|(refine congrArg I ?_;rw [e1,e2,hn_];rfl))) rfl (fun _=>trivial)
  have e1:((list.length:Int)-1).toNat=list.length-1:=by omega
  have e2:((list.length:Int)-2).toNat=list.length-2:=by omega
  have hm1:=hx _ (Zdf (xs:=list) (i:=((list.length:Int)-1).toNat) om)
  have hm2:=hx _ (Zdf (xs:=list) (i:=((list.length:Int)-2).toNat) om)
  obtain ⟨n_,hn_⟩:∃n_:Nat,list.length=n_+2:=⟨list.length-2,by omega⟩
  refine Zdk [(0,.dec false)] [0,3,21] [] [_] hB ⟨h2,trivial⟩ (Zaf (Zdm ?_))
  refine aR [] [2] [] [I ((2*(at_ list (((list.length:Int)-1).toNat)))-(at_ list (((list.length:Int)-2).toNat)))] [] [inR .i64 ((list.length:Int)-1),(0:Int)≤((list.length:Int)-1)∧((list.length:Int)-1)<(list.length:Int),inR .i64 (2*(at_ list (((list.length:Int)-1).toNat))),inR .i64 ((list.length:Int)-2),(0:Int)≤((list.length:Int)-2)∧((list.length:Int)-2)<(list.length:Int),inR .i64 ((2*(at_ list (((list.length:Int)-1).toNat)))-(at_ list (((list.length:Int)-2).toNat)))] hB ⟨(Zad om om),⟨om,om⟩,(Zad om om),(Zad om om),⟨om,om⟩,(Zad om om),trivial⟩ (Zat (Zcj ?_))
  refine Zau hB (I ((2*(at_ list (((list.length:Int)-1).toNat)))-(at_ list (((list.length:Int)-2).toNat)))) (by kernel_rfl) (.inl (by first|(rw [show list.length=0 from by omega];rfl)|(rw [show list.length=1 from by omega];rfl)|(refine congrArg I ?_;rw [e1,e2,hn_];rfl))) rfl (fun _=>trivial)
theorem Zfv (list:List Int) (hl:list.length≤60) (hx:∀x∈list,0≤x∧x≤3600000):∃(v:List Int),(v=Zkv list)∧Con Tryd.prog 29 [slI false list] true (slI true v):=by
  have hh:∃r:(List Int),((r=Zkv list)∧(True))∧Zao Tryd.prog 29 [slI false list] (Zac []) true (slI true r) (Zac []):=by
    refine Zdt (Φ:=fun r:(List Int)=>(r=Zkv list)∧(True)) [] (fun r=>[]) (fn:=Tryd.f29) (nt:=24) Tryd.func29 rfl rfl (args:=[slI false list]) rfl (Zca (.inl ⟨rfl,Ztf false _⟩) Zdu) (res:=fun r=>slI true r) ?_
    refine xQ [] [0] [] [] trivial ?_
    refine xQ [] [0,3] [] [] trivial (Zal ?_)
    refine xR [] [0,3,6,7,8] [] [slI false list,Zcb,slI false list,I (list.length:Int),I 0] [] [] trivial (Zbl ?_)
    refine x_nil 3 703 1 (fun _=>[]) (by kernel_rfl) ?_
    refine Zhq [] (T:=[(0,slI false list),(3,.arr 703),(6,slI false list),(7,I (list.length:Int)),(8,I 0)]) (O:=[(703,tAI ([]:List Int))]) rfl (⟨.inl rfl,.inl rfl,.inl rfl,.inl rfl,.inl rfl,trivial⟩) (⟨.inr ⟨rfl,(by first|rfl|(simp;done)|(simp;omega)|omega),fun i_ hi_=>absurd hi_ (Nat.not_lt_zero _)⟩,trivial⟩) ?_
    refine Zee (X:=(List Int)×Int) (fun x=>mkS [(0,slI false list),(3,.arr 703),(6,slI false list),(7,I (list.length:Int)),(8,I x.2)] [(703,tAI x.1)]) (fun x=>(0≤x.2∧x.2≤(list.length:Int))∧(x.1=rsdN list x.2.toNat)∧(x.1.length=x.2.toNat)∧True) (fun x=>((list.length:Int)-x.2).toNat) (([]:List Int),0) rfl (show (0≤(0:Int)∧(0:Int)≤(list.length:Int))∧(([]:List Int)=rsdN list (0:Int).toNat)∧(([]:List Int).length=(0:Int).toNat)∧True from ⟨om,(by rfl),(by rfl),trivial⟩) (fun x hI=> ?_)
    obtain ⟨ys,t8⟩:=x
    obtain ⟨hi0,hy0,hy1,_⟩:(0≤t8∧t8≤(list.length:Int))∧(ys=rsdN list t8.toNat)∧(ys.length=t8.toNat)∧True:=hI
    show XW _ _ _ _ (mkS [(0,slI false list),(3,.arr 703),(6,slI false list),(7,I (list.length:Int)),(8,I t8)] [(703,tAI ys)]) _ _
    refine Zal ?_
    by_cases h1:t8<(list.length:Int)
    ·have hi:t8.toNat<list.length:=by omega
     have hxi:=hx _ (Zdf hi)
     have hgi:=Zxi (B:=3600000) (by decide) (l:=list) (fun x h_=>by have:=hx x h_;omega) (i:=t8.toNat) om
     have htk:=gs_take (l:=list) (i:=t8.toNat) om
     refine x_q [(0,.dec true)] [0,3,6,7,8,9] [703] [_] ⟨h1,trivial⟩ (Zab (Zal (Zfk (Zbr (Zab (Zal (Zbl ?_)))))))
     refine xQ [] [0,3,4,5,6,7,8] [703] [(0:Int)≤t8∧t8<(list.length:Int)] ⟨⟨om,om⟩,trivial⟩ ?_
     refine x_q [(5,.call [(false,slI false (list.take t8.toNat))] true (I (gsI (list.take t8.toNat) (list.take t8.toNat).length))),(7,.new 20),(8,.new 21)] [0,3,6,7,8] [21] [(0:Int)≤0∧(0:Int)≤t8∧t8≤(list.length:Int),_∧((false=true→false=true)∧1=1∧(t8.toNat-0)=((list.take t8.toNat).length)∧∀i_,i_<((list.take t8.toNat).length)→(cutF 0 (fI list)) i_=(fI (list.take t8.toNat)) i_∨(AV.idsL ((fI (list.take t8.toNat)) i_)=[]∧leL (fun _=>none) false ((cutF 0 (fI list)) i_) ((fI (list.take t8.toNat)) i_)))∧True,inR .i64 ((at_ list t8.toNat)-(gsI (list.take t8.toNat) (list.take t8.toNat).length)),(ys.length+1)*8≤140737488355328] ⟨⟨om,om,om⟩,⟨(Zjl (list.take t8.toNat) (fun x h_=>by have:=hx x (List.mem_of_mem_take h_);omega) (by rw [List.length_take];omega)),⟨(fun h=>by cases h),rfl,(by first|rfl|(simp;done)|(simp;omega)|omega),fun i_ hi_=> .inl (cut_take (enc:=cI) hi_)⟩,trivial⟩,(Zad om om),om,trivial⟩ (Zbs 1 (Zab ?_))
     refine x_r [] [0,3,6,7,8] [21] [slI false list,.arr 21,slI false list,I (list.length:Int),I (t8+1)] [some (.arr 1 (ys.length+1) (Zhi ys.length (fI ys) (Ziq [I ((at_ list t8.toNat)-(gsI (list.take t8.toNat) (list.take t8.toNat).length))] 1)))] [inR .i64 (t8+1)] ⟨(Zad om om),trivial⟩ ?_
     refine Zcm [(703,21)] (T:=[(0,slI false list),(3,.arr 703),(6,slI false list),(7,I (list.length:Int)),(8,I (t8+1))]) (O:=[(703,tAI (ys++[((at_ list t8.toNat)-(gsI (list.take t8.toNat) (list.take t8.toNat).length))]))]) rfl (⟨.inl rfl,.inl rfl,.inl rfl,.inl rfl,.inl rfl,trivial⟩) (⟨.inr ⟨rfl,(by first|rfl|(simp;done)|(simp;omega)|omega),fun i_ hi_=> .inl (Zen (enc:=cI) (xs:=ys) rfl i_ hi_)⟩,trivial⟩) (Zbt ((ys++[((at_ list t8.toNat)-(gsI (list.take t8.toNat) (list.take t8.toNat).length))]),(t8+1)) rfl (show (0≤(t8+1)∧(t8+1)≤(list.length:Int))∧((ys++[((at_ list t8.toNat)-(gsI (list.take t8.toNat) (list.take t8.toNat).length))])=rsdN list (t8+1).toNat)∧((ys++[((at_ list t8.toNat)-(gsI (list.take t8.toNat) (list.take t8.toNat).length))]).length=(t8+1).toNat)∧True from ⟨om,(by rw [show (t8+1).toNat=t8.toNat+1 from by omega,Zxj,←hy0,←htk]),(by simp;omega),trivial⟩) (by first|(show (((list.length:Int)-(t8+1)).toNat:Nat)<((list.length:Int)-t8).toNat;omega)|(dsimp only;omega)))
    have hie:t8.toNat=list.length:=by omega
    rw [hie] at hy0
    refine x_r [(0,.dec false)] [0,3,6,7,8,9] [703] [slI false list,.arr 703,slI false list,I (list.length:Int),I t8,Bv false] [some (tAI ys)] [_] ⟨h1,trivial⟩ (Zab (Zal (Zcu rfl (Zdz (Zba ?_)))))
    refine Zbb ?_
    refine Zbc (Zab ?_)
    refine xR [] [2] [703] [.arr 703] [some (tAI ys)] [] trivial (Zcw ?_)
    refine Zbw ys (show (ys=Zkv list)∧(True) from ⟨(by exact hy0),trivial⟩) (trivial) (.arr 703) (by kernel_rfl) (.inr ⟨(fun _=>rfl),rfl,rfl,fun i _=> .inl rfl⟩) (fun _=>rfl) (fun _=>(Ztf true _))
  obtain ⟨v,⟨hh0,_⟩,hc⟩:=hh
  exact ⟨v,hh0,hc⟩
theorem Zla (n:Int) (hn:-1000000000≤n∧n≤1000000000):Con Tryd.prog 44 [I n] true (I (Zbm n)):=by
  refine Zej (fn:=Tryd.f44) (nt:=10) Tryd.func44 rfl rfl rfl rfl (by simp [Zae,Zah]) fun B hB=> ?_
  refine aQ [] [0] [] [] hB trivial (Zan (Zan ?_))
  by_cases h1:n<0
  ·refine Zdk [(1,.dec true)] [0,4] [] [_] hB ⟨h1,trivial⟩ (Zaf (Zdr ?_))
   refine aR [] [2] [] [I (((-2)*n)-1)] [] [inR .i64 ((-2)*n),inR .i64 (((-2)*n)-1)] hB ⟨(Zad om om),(Zad om om),trivial⟩ (Zat (Zak ?_))
   refine Zau hB (I (((-2)*n)-1)) (by kernel_rfl) (.inl (by refine congrArg I ?_;unfold Zbm;split<;>omega)) rfl (fun _=>trivial)
  refine Zdk [(1,.dec false)] [0,4] [] [_] hB ⟨h1,trivial⟩ (Zaf (Zdm (Zbu (Zaf ?_))))
  refine aR [] [2] [] [I (2*n)] [] [inR .i64 (2*n)] hB ⟨(Zad om om),trivial⟩ (Zat ?_)
  refine Zau hB (I (2*n)) (by kernel_rfl) (.inl (by refine congrArg I ?_;unfold Zbm;split<;>omega)) rfl (fun _=>trivial)
theorem Zoi (n:Int) (k:Int) (hn:-1000000000≤n∧n≤1000000000) (hk:0≤k∧k≤12):Con Tryd.prog 43 [I n,I k] true (I (Zuh n k)):=by
  have hf:=Zlb hn
  have hdv:=Zlc (n:=Zbm n) (r:=((2^k.toNat:Nat):Int)) hf.1 (p2 _)
  refine Zej (fn:=Tryd.f43) (nt:=16) Tryd.func43 rfl rfl rfl rfl (by simp [Zae,Zah]) fun B hB=> ?_
  refine aQ [] [0,1] [] [] hB trivial (Zan ?_)
  refine aQ [(1,.call [(true,.any)] true (I (Zbm n)))] [1,5] [] [_∧True,(0:Int)≤k∧k≤((IntKind.bits .i64:Nat):Int)] hB ⟨⟨(Zla n om),trivial⟩,⟨om,(show k≤(64:Int) from by omega)⟩,trivial⟩ (Zan ?_)
  by_cases h1:((Zbm n)/((2^k.toNat:Nat):Int))<20
  ·refine Zdk [(1,.dec true)] [1,5,11] [] [_] hB ⟨h1,trivial⟩ (Zaf (Zdr ?_))
   refine aR [] [4] [] [I ((((Zbm n)/((2^k.toNat:Nat):Int))+1)+k)] [] [inR .i64 (((Zbm n)/((2^k.toNat:Nat):Int))+1),inR .i64 ((((Zbm n)/((2^k.toNat:Nat):Int))+1)+k)] hB ⟨(Zad om om),(Zad om om),trivial⟩ (Zat (Zak ?_))
   refine Zau hB (I ((((Zbm n)/((2^k.toNat:Nat):Int))+1)+k)) (by kernel_rfl) (.inl (by refine congrArg I ?_;unfold Zuh;first|(rw [if_pos (by assumption)];done)|(rw [if_neg (by assumption)];done))) rfl (fun _=>trivial)
  refine Zdk [(1,.dec false)] [1,5,11] [] [_] hB ⟨h1,trivial⟩ (Zaf (Zdm (Zbu (Zaf ?_))))
  refine aR [] [4] [] [I 52] [] [] hB trivial (Zat ?_)
  refine Zau hB (I 52) (by kernel_rfl) (.inl (by refine congrArg I ?_;unfold Zuh;first|(rw [if_pos (by assumption)];done)|(rw [if_neg (by assumption)];done))) rfl (fun _=>trivial)
theorem Zid (list:List Int) (hl:list.length≤1000) (hx:∀x∈list,-1000000000≤x∧x≤1000000000):∃(b:Int) (s:Int),(b=(brS list 13).1)∧(s=(brS list 13).2)∧Con Tryd.prog 30 [slI false list] true (.tup [I b,I s]):=by
  have hh:∃r:Int×Int,((r.1=(brS list 13).1)∧(r.2=(brS list 13).2)∧(True))∧Zao Tryd.prog 30 [slI false list] (Zac []) true (.tup [I r.1,I r.2]) (Zac []):=by
    refine Zdt (Φ:=fun r:Int×Int=>(r.1=(brS list 13).1)∧(r.2=(brS list 13).2)∧(True)) [] (fun r=>[]) (fn:=Tryd.f30) (nt:=37) Tryd.func30 rfl rfl (args:=[slI false list]) rfl (Zca (.inl ⟨rfl,Ztf false _⟩) Zdu) (res:=fun r=> .tup [I r.1,I r.2]) ?_
    refine xQ [] [0] [] [] trivial ?_
    refine xQ [] [0,4,5] [] [] trivial (Zal ?_)
    refine xR [] [0,4,5,6] [] [slI false list,I 0,I (-1),I 0] [] [] trivial (Zbl ?_)
    refine Zee (X:=Int×Int×Int) (fun x=>mkS [(0,slI false list),(4,I x.1),(5,I x.2.1),(6,I x.2.2)] []) (fun x=>(0≤x.2.2∧x.2.2≤13)∧(brS list x.2.2.toNat=(x.1,x.2.1))∧(-1≤x.2.1∧x.2.1≤52000)∧True) (fun x=>((13:Int)-x.2.2).toNat) (0,(-1),0) rfl (show (0≤(0:Int)∧(0:Int)≤13)∧(brS list (0:Int).toNat=((0:Int),(-1)))∧(-1≤(-1)∧(-1)≤52000)∧True from ⟨om,(by rfl),om,trivial⟩) (fun x hI=> ?_)
    obtain ⟨best,least,k⟩:=x
    obtain ⟨hk0,hbr,hls,_⟩:(0≤k∧k≤13)∧(brS list k.toNat=(best,least))∧(-1≤least∧least≤52000)∧True:=hI
    show XW _ _ _ _ (mkS [(0,slI false list),(4,I best),(5,I least),(6,I k)] []) _ _
    refine Zal (Zal ?_)
    by_cases h1:k≤12
    ·have hkx:((k.toNat:Nat):Int)=k:=by omega
     have hsb:=Zld (k:=k) hx om (Nat.le_refl list.length)
     have hbs:=Zld (k:=k) hx om (Nat.zero_le list.length)
     refine x_q [(1,.dec true)] [0,4,5,6,11] [] [_] ⟨h1,trivial⟩ (Zab (Zfk (Zbr (Zab (Zal (Zbl ?_))))))
     refine xQ [] [0,4,5,6,7] [] [] trivial (Zal ?_)
     refine xR [] [0,4,5,6,7,14,15,16] [] [slI false list,I best,I least,I k,I 0,slI false list,I (list.length:Int),I 0] [] [] trivial (Zbl ?_)
     refine Zee (X:=Int×Int) (fun x=>mkS [(0,slI false list),(4,I best),(5,I least),(6,I k),(7,I x.1),(14,slI false list),(15,I (list.length:Int)),(16,I x.2)] []) (fun x=>(0≤x.2∧x.2≤(list.length:Int))∧(x.1=Zou list k x.2.toNat)∧True) (fun x=>((list.length:Int)-x.2).toNat) (0,0) rfl (show (0≤(0:Int)∧(0:Int)≤(list.length:Int))∧((0:Int)=Zou list k (0:Int).toNat)∧True from ⟨om,(by rfl),trivial⟩) (fun x hI=> ?_)
     obtain ⟨bs,t16⟩:=x
     obtain ⟨hi0,hbt,_⟩:(0≤t16∧t16≤(list.length:Int))∧(bs=Zou list k t16.toNat)∧True:=hI
     show XW _ _ _ _ (mkS [(0,slI false list),(4,I best),(5,I least),(6,I k),(7,I bs),(14,slI false list),(15,I (list.length:Int)),(16,I t16)] []) _ _
     refine Zal ?_
     by_cases h2:t16<(list.length:Int)
     ·have hi:t16.toNat<list.length:=by omega
      have hxi:=hx _ (Zdf hi)
      have hlr:=Zrq (k:=k) hxi om
      have hsm:=Zld (k:=k) hx om (m:=t16.toNat) om
      refine x_q [(0,.dec true)] [0,4,5,6,7,14,15,16,17] [] [_] ⟨h2,trivial⟩ (Zab (Zal (Zfk (Zbr (Zab (Zal (Zbl ?_)))))))
      refine xQ [] [0,4,5,6,7,9,14,15,16] [] [(0:Int)≤t16∧t16<(list.length:Int)] ⟨⟨om,om⟩,trivial⟩ ?_
      refine x_q [(3,.call [(true,.any),(true,.any)] true (I (Zuh (at_ list t16.toNat) k)))] [0,4,5,6,7,14,15,16] [] [_∧True,inR .i64 (bs+(Zuh (at_ list t16.toNat) k))] ⟨⟨(Zoi (at_ list t16.toNat) k om om),trivial⟩,(Zad om om),trivial⟩ (Zbs 3 (Zab ?_))
      refine x_r [] [0,4,5,6,7,14,15,16] [] [slI false list,I best,I least,I k,I (bs+(Zuh (at_ list t16.toNat) k)),slI false list,I (list.length:Int),I (t16+1)] [] [inR .i64 (t16+1)] ⟨(Zad om om),trivial⟩ ?_
      exact Zbt ((bs+(Zuh (at_ list t16.toNat) k)),(t16+1)) rfl (show (0≤(t16+1)∧(t16+1)≤(list.length:Int))∧((bs+(Zuh (at_ list t16.toNat) k))=Zou list k (t16+1).toNat)∧True from ⟨om,(by rw [show (t16+1).toNat=t16.toNat+1 from by omega,Zou,←hbt]),trivial⟩) (by first|(show (((list.length:Int)-(t16+1)).toNat:Nat)<((list.length:Int)-t16).toNat;omega)|(dsimp only;omega))
     have hie:t16.toNat=list.length:=by omega
     rw [hie] at hbt
     refine x_r [(0,.dec false)] [0,4,5,6,7,14,15,16,17] [] [slI false list,I best,I least,I k,I bs,slI false list,I (list.length:Int),I t16,Bv false] [] [_] ⟨h2,trivial⟩ (Zab (Zal (Zcu rfl (Zdz (Zba ?_)))))
     refine Zbb ?_
     refine Zbc (Zab (Zal ?_))
     by_cases h3:least<0
     ·refine x_q [(1,.dec true)] [0,4,5,6,7,32] [] [_] ⟨h3,trivial⟩ (Zab (Zfk ?_))
      refine x_q [] [0,4,5,6] [] [] trivial (Zbs 1 (Zab ?_))
      refine x_r [] [0,4,5,6] [] [slI false list,I k,I bs,I (k+1)] [] [inR .i64 (k+1)] ⟨(Zad om om),trivial⟩ ?_
      exact Zbt (k,bs,(k+1)) rfl (show (0≤(k+1)∧(k+1)≤13)∧(brS list (k+1).toNat=(k,bs))∧(-1≤bs∧bs≤52000)∧True from ⟨om,(by rw [show (k+1).toNat=k.toNat+1 from by omega,brS,hbr,hkx,←hbt];first|(rw [if_pos (by first|exact .inl (by assumption)|exact .inr (by assumption))];done)|(rw [if_neg (fun z=>by rcases z with z|z<;>simp only at z<;>omega)];done)),om,trivial⟩) (by first|(show (((13:Int)-(k+1)).toNat:Nat)<((13:Int)-k).toNat;omega)|(dsimp only;omega))
     by_cases h4:bs<least
     ·refine x_q [(1,.dec false),(5,.dec true)] [0,4,5,6,7,32] [] [_,_] ⟨h3,h4,trivial⟩ (Zab (Zfk ?_))
      refine x_q [] [0,4,5,6] [] [] trivial (Zbs 1 (Zab ?_))
      refine x_r [] [0,4,5,6] [] [slI false list,I k,I bs,I (k+1)] [] [inR .i64 (k+1)] ⟨(Zad om om),trivial⟩ ?_
      exact Zbt (k,bs,(k+1)) rfl (show (0≤(k+1)∧(k+1)≤13)∧(brS list (k+1).toNat=(k,bs))∧(-1≤bs∧bs≤52000)∧True from ⟨om,(by rw [show (k+1).toNat=k.toNat+1 from by omega,brS,hbr,hkx,←hbt];first|(rw [if_pos (by first|exact .inl (by assumption)|exact .inr (by assumption))];done)|(rw [if_neg (fun z=>by rcases z with z|z<;>simp only at z<;>omega)];done)),om,trivial⟩) (by first|(show (((13:Int)-(k+1)).toNat:Nat)<((13:Int)-k).toNat;omega)|(dsimp only;omega))
     refine x_q [(1,.dec false),(5,.dec false)] [0,4,5,6,7,32] [] [_,_] ⟨h3,h4,trivial⟩ (Zab (Zjn (Zbr (Zbs 1 (Zab ?_)))))
     refine x_r [] [0,4,5,6] [] [slI false list,I best,I least,I (k+1)] [] [inR .i64 (k+1)] ⟨(Zad om om),trivial⟩ ?_
     exact Zbt (best,least,(k+1)) rfl (show (0≤(k+1)∧(k+1)≤13)∧(brS list (k+1).toNat=(best,least))∧(-1≤least∧least≤52000)∧True from ⟨om,(by rw [show (k+1).toNat=k.toNat+1 from by omega,brS,hbr,hkx,←hbt];first|(rw [if_pos (by first|exact .inl (by assumption)|exact .inr (by assumption))];done)|(rw [if_neg (fun z=>by rcases z with z|z<;>simp only at z<;>omega)];done)),om,trivial⟩) (by first|(show (((13:Int)-(k+1)).toNat:Nat)<((13:Int)-k).toNat;omega)|(dsimp only;omega))
    have hke:k.toNat=13:=by omega
    rw [hke] at hbr
    refine x_r [(1,.dec false)] [0,4,5,6,11] [] [slI false list,I best,I least,I k,Bv false] [] [_] ⟨h1,trivial⟩ (Zab (Zcu rfl (Zdz (Zba ?_))))
    refine Zbb ?_
    refine Zbc (Zab ?_)
    refine xR [] [2,3] [] [I best,I least] [] [] trivial (Zcw ?_)
    refine Zbw (best,least) (show (best=(brS list 13).1)∧(least=(brS list 13).2)∧(True) from ⟨(by (rw [hbr])),(by (rw [hbr])),trivial⟩) (trivial) (.tup [I best,I least]) (by kernel_rfl) (.inl rfl) (fun _=>rfl) (fun _=>(by simp [Zah,Zae]))
  obtain ⟨⟨b,s⟩,⟨hh0,hh1,_⟩,hc⟩:=hh
  exact ⟨b,s,hh0,hh1,hc⟩
theorem Zml (s:ByteArray) (q:Int) (hs:s=⟨#[49]⟩) (hq:0≤q∧q≤100000):Con Tryd.prog 45 [Sv s,I q] true (Sv (Zle q)):=by
 subst hs
 obtain ⟨c,rfl⟩:∃c:Nat,q=c:=⟨q.toNat,by omega⟩
 refine Zjh (vals:=[.string ⟨#[49]⟩,.int .i64 c]) fun w _=> ?_
 by_cases h0:c=0
 ·subst h0
  refine (Tryd.strings_Repeat_zero ⟨#[49]⟩ w).mono ?_
  rintro e w' ⟨rfl,rfl⟩
  exact ⟨rfl,Below.refl _ _⟩
 by_cases h1:c=1
 ·subst h1
  refine (Tryd.strings_Repeat_one ⟨#[49]⟩ w).mono ?_
  rintro e w' ⟨rfl,rfl⟩
  exact ⟨rfl,Below.refl _ _⟩
 refine (Tryd.strings_Repeat_main ⟨#[49]⟩ c w om om (by show 1*c≤_;omega) (by decide)).mono ?_
 rintro e w' ⟨rfl,hb⟩
 exact ⟨by rw [Zuk],hb⟩
theorem Zie (n:Int) (k:Int) (hn:-1000000000≤n∧n≤1000000000) (hk:0≤k∧k≤12):Con Tryd.prog 31 [I n,I k] true (Sv (Zch n k)):=by
  have hf:=Zlb hn
  have hdv:=Zlc (n:=Zbm n) (r:=((2^k.toNat:Nat):Int)) hf.1 (p2 _)
  have hmk:=Ztg (u:=Zbm n) (k:=k.toNat) hf.1 om om
  have hp:=p2 k.toNat
  have hp12:((2^k.toNat:Nat):Int)≤4096:=Int.ofNat_le.2 (Nat.pow_le_pow_right (by decide) (by omega:k.toNat≤12))
  have hm1:=Int.emod_nonneg (Zbm n) (b:=((2^k.toNat:Nat):Int)) om
  have hm2:=Int.emod_lt_of_pos (Zbm n) hp
  refine Zej (fn:=Tryd.f31) (nt:=29) Tryd.func31 rfl rfl rfl rfl (by simp [Zae,Zah]) fun B hB=> ?_
  refine aQ [] [0,1] [] [] hB trivial ?_
  refine aQ [(1,.call [(true,.any)] true (I (Zbm n)))] [1,5] [] [_∧True] hB ⟨⟨(Zla n om),trivial⟩,trivial⟩ (Zan ?_)
  refine aQ [] [1,5,6] [] [(0:Int)≤k∧k≤((IntKind.bits .i64:Nat):Int)] hB ⟨⟨om,(show k≤(64:Int) from by omega)⟩,trivial⟩ (Zan ?_)
  by_cases h1:((Zbm n)/((2^k.toNat:Nat):Int))<20
  ·refine Zit [(1,.dec true)] [1,5,6,13] [] [I k,I (Zbm n),I ((Zbm n)/((2^k.toNat:Nat):Int)),Bv true] [] [_] hB ⟨h1,trivial⟩ (Zaf (Zhv rfl ?_))
   refine aR [(1,.call [(true,.any),(true,.any)] true (Sv (Zle ((Zbm n)/((2^k.toNat:Nat):Int))))),(9,.call [(true,.any),(true,.any)] true (Sv (Zci (Zck .and .i64 (Zbm n) ((1*((2^k.toNat:Nat):Int))-1)) k)))] [4] [] [Sv (((Zle ((Zbm n)/((2^k.toNat:Nat):Int)))++(⟨#[48]⟩:ByteArray))++(Zci (Zck .and .i64 (Zbm n) ((1*((2^k.toNat:Nat):Int))-1)) k))] [] [_∧True,(Zle ((Zbm n)/((2^k.toNat:Nat):Int))).size+(⟨#[48]⟩:ByteArray).size≤9223372036854775807,(0:Int)≤k∧k≤((IntKind.bits .i64:Nat):Int)∧inR .i64 (1*((2^k.toNat:Nat):Int)),inR .i64 ((1*((2^k.toNat:Nat):Int))-1),_∧True,((Zle ((Zbm n)/((2^k.toNat:Nat):Int)))++(⟨#[48]⟩:ByteArray)).size+(Zci (Zck .and .i64 (Zbm n) ((1*((2^k.toNat:Nat):Int))-1)) k).size≤9223372036854775807] hB ⟨⟨(Zml (⟨#[49]⟩:ByteArray) ((Zbm n)/((2^k.toNat:Nat):Int)) rfl om),trivial⟩,(by (try simp only [ByteArray.size_append]);have h1:=Zby (Zbm n/((2^k.toNat:Nat):Int));have h2:(⟨#[48]⟩:ByteArray).size=1:=rfl;have h3:=Zbe (Zbm n % ((2^k.toNat:Nat):Int)) k;have h4:=Zby 20;have h5:=Zbe (Zbm n) 32;have h6:=Zbe (Zck .and .i64 (Zbm n) (1*((2^k.toNat:Nat):Int)-1)) k;omega),⟨om,(show k≤(64:Int) from by omega),(Zad om om)⟩,(Zad om om),⟨(Zcs (Zck .and .i64 (Zbm n) ((1*((2^k.toNat:Nat):Int))-1)) k om om),trivial⟩,(by (try simp only [ByteArray.size_append]);have h1:=Zby (Zbm n/((2^k.toNat:Nat):Int));have h2:(⟨#[48]⟩:ByteArray).size=1:=rfl;have h3:=Zbe (Zbm n % ((2^k.toNat:Nat):Int)) k;have h4:=Zby 20;have h5:=Zbe (Zbm n) 32;have h6:=Zbe (Zck .and .i64 (Zbm n) (1*((2^k.toNat:Nat):Int)-1)) k;omega),trivial⟩ (Zat (Zak ?_))
   refine Zau hB (Sv (((Zle ((Zbm n)/((2^k.toNat:Nat):Int)))++(⟨#[48]⟩:ByteArray))++(Zci (Zck .and .i64 (Zbm n) ((1*((2^k.toNat:Nat):Int))-1)) k))) (by kernel_rfl) (.inl (by refine congrArg Sv ?_;unfold Zch;first|(rw [if_pos (by assumption),hmk];done)|(rw [if_neg (by assumption)];done))) rfl (fun _=>trivial)
  refine Zdk [(1,.dec false)] [1,5,6,13] [] [_] hB ⟨h1,trivial⟩ (Zaf (Zdm (Zbu (Zaf ?_))))
  refine aR [(0,.call [(true,.any),(true,.any)] true (Sv (Zle 20))),(2,.call [(true,.any),(true,.any)] true (Sv (Zci (Zbm n) 32)))] [4] [] [Sv ((Zle 20)++(Zci (Zbm n) 32))] [] [_∧True,_∧True,(Zle 20).size+(Zci (Zbm n) 32).size≤9223372036854775807] hB ⟨⟨(Zml (⟨#[49]⟩:ByteArray) 20 rfl om),trivial⟩,⟨(Zcs (Zbm n) 32 om om),trivial⟩,(by (try simp only [ByteArray.size_append]);have h1:=Zby (Zbm n/((2^k.toNat:Nat):Int));have h2:(⟨#[48]⟩:ByteArray).size=1:=rfl;have h3:=Zbe (Zbm n % ((2^k.toNat:Nat):Int)) k;have h4:=Zby 20;have h5:=Zbe (Zbm n) 32;have h6:=Zbe (Zck .and .i64 (Zbm n) (1*((2^k.toNat:Nat):Int)-1)) k;omega),trivial⟩ (Zat ?_)
  refine Zau hB (Sv ((Zle 20)++(Zci (Zbm n) 32))) (by kernel_rfl) (.inl (by refine congrArg Sv ?_;unfold Zch;first|(rw [if_pos (by assumption),hmk];done)|(rw [if_neg (by assumption)];done))) rfl (fun _=>trivial)
theorem trim_ok (s t:ByteArray) (hs:s.size≤9223372036854775807) (hcs:t.size<4294967281) (ha:t.data.toList.all (fun b=>decide (b.toNat<128))=true):Con Tryd.prog 55 [Sv s,Sv t] true (Sv (Zrw s t)):=by
 refine Zjh (vals:=[.string s,.string t]) fun w _=> ?_
 refine (Any.strings_Trim_laid Tryd.lays160 (by kernel_rfl) s t w hs hcs (ascii_of_all ha)).mono ?_
 rintro e w' ⟨rfl,hb⟩
 exact ⟨rfl,hb⟩
theorem Zul (bits:ByteArray) (ok:bits.size≤9223372036854775807):Con Tryd.prog 46 [Sv bits] true (Bv (Zdn bits)):=by
  refine Zej (fn:=Tryd.f46) (nt:=11) Tryd.func46 rfl rfl rfl rfl (by simp [Zae,Zah]) fun B hB=> ?_
  refine aQ [] [0] [] [] hB trivial (Zan ?_)
  by_cases h1:(bits.size:Int)≤100000
  ·refine Zit [(2,.dec true),(5,.call [(true,.any),(true,.any)] true (Sv (Zrw bits (⟨#[48,49]⟩:ByteArray))))] [2] [] [Bv (decide ((Zrw bits (⟨#[48,49]⟩:ByteArray))=(⟨#[]⟩:ByteArray)))] [] [_,_∧True] hB ⟨h1,⟨(trim_ok bits (⟨#[48,49]⟩:ByteArray) ok (by decide) (by decide)),trivial⟩,trivial⟩ (Zaf (Zat ?_))
   refine Zau hB (Bv (decide ((Zrw bits (⟨#[48,49]⟩:ByteArray))=(⟨#[]⟩:ByteArray)))) (by kernel_rfl) (.inl (by refine congrArg Bv ?_;have ht:=Zth Zti bits;rw [Bool.eq_iff_iff];simp [Zdn,ht, *];try omega)) rfl (fun _=>trivial)
  refine Zit [(2,.dec false)] [2] [] [Bv false] [] [_] hB ⟨h1,trivial⟩ (Zaf (Zat ?_))
  refine Zau hB (Bv false) (by kernel_rfl) (.inl (by refine congrArg Bv ?_;have ht:=Zth Zti bits;rw [Bool.eq_iff_iff];simp [Zdn,ht, *];try omega)) rfl (fun _=>trivial)
theorem Zrx (bits:ByteArray) (ok:Zdn bits=true):∃(v:ByteArray) (c:Int),(Zsd bits v)∧(c=0)∧Con Tryd.prog 32 [Sv bits] true (.tup [Sv v,I c]):=by
  have hsz:=Zcy.1 ok
  have hh:∃r:ByteArray×Int,((Zsd bits r.1)∧(r.2=0)∧(True))∧Zao Tryd.prog 32 [Sv bits] (Zac []) true (.tup [Sv r.1,I r.2]) (Zac []):=by
    refine Zdt (Φ:=fun r:ByteArray×Int=>(Zsd bits r.1)∧(r.2=0)∧(True)) [] (fun r=>[]) (fn:=Tryd.f32) (nt:=35) Tryd.func32 rfl rfl (args:=[Sv bits]) rfl (Zca (.inl ⟨rfl,trivial⟩) Zdu) (res:=fun r=> .tup [Sv r.1,I r.2]) ?_
    refine xQ [] [0] [] [] trivial (Zal ?_)
    refine xQ [(1,.call [(true,.any)] true (Bv true))] [0,8] [] [Con Tryd.prog 46 [Sv bits] true (Bv true)∧True] ⟨⟨(Zbd ok (Zul bits om)),trivial⟩,trivial⟩ (Zjn (Zbr (Zab ?_)))
    refine xQ [(3,.nn),(4,.new 13)] [0,4] [13] [inR .i64 ((bits.size:Int)+7),(0:Int)≤((bits.size:Int)+7)∧(0:Int)<8∧inR .i64 ((bits.size:Int)+7),(0:Int)≤(((bits.size:Int)+7)/8)∧((((bits.size:Int)+7)/8):Int)≤(((bits.size:Int)+7)/8)∧(1:Int)*(((bits.size:Int)+7)/8)≤281474976710656∧(((bits.size:Int)+7)/8)≤9223372036854775807] ⟨(Zad om om),⟨om,om,(Zad om om)⟩,⟨om,om,om,om⟩,trivial⟩ (Zal ?_)
    refine xR [(1,.new 15)] [0,4,15] [13,15] [Sv bits,.arr 13,.ref 15 0] [some (.arr 1 ((((bits.size:Int)+7)/8).toNat) (fun _=>[.val (.int .u8 0)])),some (.sit bits (0:Nat))] [] trivial (Zbl ?_)
    refine Zhq [] (T:=[(0,Sv bits),(4,.arr 13),(15,.ref 15 0)]) (O:=[(13,tAU8 (List.replicate ((((bits.size:Int)+7)/8).toNat) 0)),(15,.sit bits (0:Nat))]) rfl (⟨.inl rfl,.inl rfl,.inl rfl,trivial⟩) (⟨.inr ⟨rfl,(by first|rfl|(simp;done)|(simp;omega)|omega),fun i_ hi_=> .inl (Zpk (enc:=cU8) rfl i_ hi_)⟩,.inl rfl,trivial⟩) ?_
    refine Zee (X:=Nat×(List Int)) (fun x=>mkS [(0,Sv bits),(4,.arr 13),(15,.ref 15 0)] [(13,tAU8 x.2),(15,.sit bits x.1)]) (fun x=>(x.1≤bits.size)∧(Zum bits x.1 x.2)∧True) (fun x=>bits.size-x.1) ((0:Nat),(List.replicate ((((bits.size:Int)+7)/8).toNat) 0)) rfl (show ((0:Nat)≤bits.size)∧(Zum bits (0:Nat) (List.replicate ((((bits.size:Int)+7)/8).toNat) 0))∧True from ⟨om,(by exact pk_start om),trivial⟩) (fun x hI=> ?_)
    obtain ⟨kk,ys⟩:=x
    obtain ⟨hq0,hpk,_⟩:(kk≤bits.size)∧(Zum bits kk ys)∧True:=hI
    show XW _ _ _ _ (mkS [(0,Sv bits),(4,.arr 13),(15,.ref 15 0)] [(13,tAU8 ys),(15,.sit bits kk)]) _ _
    refine Zal ?_
    by_cases h1:kk<bits.size
    ·have hi:kk<bits.size:=h1
     have hpa:=pk_at hpk hi
     have hbq:=hsz.2 kk hi
     refine x_q [(0,.dec true)] [0,4,15,16,17] [13,15] [kk<bits.size∧bAt bits kk<128] ⟨⟨h1,om⟩,trivial⟩ (Zab (Zal (Zfk (Zbr (Zab (Zbl ?_))))))
     refine xQ [] [0,4,5,15] [13,15] [] trivial (Zal ?_)
     by_cases h2:(bAt bits ((kk:Nat):Int).toNat)=49
     ·have hq8:(((kk:Nat):Int)/8).toNat=kk/8:=by omega
      have hq9:(((kk:Nat):Int) % 8).toNat=kk % 8:=by omega
      have hor:=or_bit hpa.2.1 (by omega:kk % 8<8) hpa.2.2
      have hlen:=hpk.1
      have hp8:0≤(128:Int)/((2^(kk % 8):Nat):Int)∧(128:Int)/((2^(kk % 8):Nat):Int)≤128:=Zlc (by decide) (p2 _)
      refine x_q [(3,.dec true)] [0,4,5,15,22] [13,15] [(0:Int)≤((kk:Nat):Int)∧((kk:Nat):Int)<(bits.size:Int),_] ⟨⟨om,om⟩,h2,trivial⟩ (Zab (Zfk ?_))
      refine x_r [(2,.nn),(6,.nn)] [0,4,15] [13,15] [Sv bits,.arr 13,.ref 15 0] [some (.arr 1 ys.length (fun q=>bif Nat.beq q ((((kk:Nat):Int)/8).toNat) then [.val (.int .u8 (Zck .or .u8 (at_ ys ((((kk:Nat):Int)/8).toNat)) (128/((2^(((kk:Nat):Int) % 8).toNat:Nat):Int))))] else (fU8 ys) q)),some (.sit bits (kk+1))] [(0:Int)≤((kk:Nat):Int)∧(0:Int)<8∧inR .i64 ((kk:Nat):Int),(0:Int)≤(((kk:Nat):Int)/8)∧(((kk:Nat):Int)/8)<(ys.length:Int),(((kk:Nat):Int)/8).toNat<ys.length,(0:Int)≤((kk:Nat):Int)∧(0:Int)<8,(0:Int)≤(((kk:Nat):Int) % 8)∧(((kk:Nat):Int) % 8)≤((IntKind.bits .u8:Nat):Int),(0:Int)≤(((kk:Nat):Int)/8)∧(((kk:Nat):Int)/8)<(ys.length:Int),(((kk:Nat):Int)/8).toNat<ys.length] ⟨⟨om,om,(Zad om om)⟩,⟨om,om⟩,om,⟨om,om⟩,⟨om,(show (((kk:Nat):Int) % 8)≤(8:Int) from by omega)⟩,⟨om,om⟩,om,trivial⟩ (Zbs 1 ?_)
      refine Zcm [] (T:=[(0,Sv bits),(4,.arr 13),(15,.ref 15 0)]) (O:=[(13,tAU8 (ys.set ((((kk:Nat):Int)/8).toNat) (Zck .or .u8 (at_ ys ((((kk:Nat):Int)/8).toNat)) (128/((2^(((kk:Nat):Int) % 8).toNat:Nat):Int))))),(15,.sit bits (kk+1))]) rfl (⟨.inl rfl,.inl rfl,.inl rfl,trivial⟩) (⟨.inr ⟨rfl,(by first|rfl|(simp;done)|(simp;omega)|omega),fun i_ hi_=> .inl (Zvl (enc:=cU8) rfl i_ hi_)⟩,.inl rfl,trivial⟩) (Zbt ((kk+1),(ys.set ((((kk:Nat):Int)/8).toNat) (Zck .or .u8 (at_ ys ((((kk:Nat):Int)/8).toNat)) (128/((2^(((kk:Nat):Int) % 8).toNat:Nat):Int))))) rfl (show ((kk+1)≤bits.size)∧(Zum bits (kk+1) (ys.set ((((kk:Nat):Int)/8).toNat) (Zck .or .u8 (at_ ys ((((kk:Nat):Int)/8).toNat)) (128/((2^(((kk:Nat):Int) % 8).toNat:Nat):Int)))))∧True from ⟨om,(by first|exact pk_no hpk (by assumption)|(rw [hq8,hq9,hor];exact pk_yes hpk hi (by assumption) rfl)),trivial⟩) (by first|(show (bits.size-(kk+1):Nat)<bits.size-kk;omega)|(dsimp only;omega)))
     refine x_r [(3,.dec false)] [0,4,5,15,22] [13,15] [Sv bits,.arr 13,I ((kk:Nat):Int),.ref 15 0,Bv false] [some (tAU8 ys),some (.sit bits (kk+1))] [(0:Int)≤((kk:Nat):Int)∧((kk:Nat):Int)<(bits.size:Int),_] ⟨⟨om,om⟩,h2,trivial⟩ (Zab (Zcu rfl (Zbr (Zbs 1 ?_))))
     refine Zcm [] (T:=[(0,Sv bits),(4,.arr 13),(15,.ref 15 0)]) (O:=[(13,tAU8 ys),(15,.sit bits (kk+1))]) rfl (⟨.inl rfl,.inl rfl,.inl rfl,trivial⟩) (⟨.inl rfl,.inl rfl,trivial⟩) (Zbt ((kk+1),ys) rfl (show ((kk+1)≤bits.size)∧(Zum bits (kk+1) ys)∧True from ⟨om,(by first|exact pk_no hpk (by assumption)|(rw [hq8,hq9,hor];exact pk_yes hpk hi (by assumption) rfl)),trivial⟩) (by first|(show (bits.size-(kk+1):Nat)<bits.size-kk;omega)|(dsimp only;omega)))
    have hqe:kk=bits.size:=by omega
    rw [hqe] at hpk
    refine x_r [(0,.dec false)] [0,4,15,16,17] [13,15] [Sv bits,.arr 13,.ref 15 0,.tup [Bv false],Bv false] [some (tAU8 ys),some (.sit bits kk)] [_] ⟨h1,trivial⟩ (Zab (Zal (Zcu rfl (Zdz (Zba ?_)))))
    refine Zbb ?_
    refine Zbc (Zab ?_)
    refine xR [(1,.as (Sv (Zgt ys)))] [2,3] [] [Sv (Zgt ys),I 0] [] [(Zgt ys).size=ys.length∧∀i_,i_<ys.length→(fU8 ys) i_=Zfi (Zgt ys) i_] ⟨(Zxk (pk_bytes hpk)),trivial⟩ (Zcw ?_)
    refine Zbw ((Zgt ys),0) (show (Zsd bits (Zgt ys))∧(0=0)∧(True) from ⟨(by first|exact Zxl hpk|rfl),(by first|exact Zxl hpk|rfl),trivial⟩) (trivial) (.tup [Sv (Zgt ys),I 0]) (by kernel_rfl) (.inl rfl) (fun _=>rfl) (fun _=>(by simp [Zah,Zae]))
  obtain ⟨⟨v,c⟩,⟨hh0,hh1,_⟩,hc⟩:=hh
  exact ⟨v,c,hh0,hh1,hc⟩
theorem Zgd (s:ByteArray) (hz:s.size≤1000000):Con Tryd.prog 16 [Sv s] true (I (ckA s)):=by
  refine Zej (fn:=Tryd.f16) (nt:=21) Tryd.func16 rfl rfl rfl rfl (by simp [Zae,Zah]) fun B hB=> ?_
  refine aQ [] [0] [] [] hB trivial ?_
  refine aQ [] [0,3] [] [] hB trivial (Zan ?_)
  refine aR [] [3,7,8,9] [] [I 1,.sl true 1 s.size (Zfi s),I (s.size:Int),I 0] [] [s.size≤140737488355328] hB ⟨om,trivial⟩ (Zdi ?_)
  refine Zhw (fun gn gσ=>∃(sm:Int) (t9:Int),gn=((s.size:Int)-t9).toNat∧(0≤t9∧t9≤(s.size:Int))∧(sm=ckS s t9.toNat)∧gσ=mkS [(3,I sm),(7,.sl true 1 s.size (Zfi s)),(8,I (s.size:Int)),(9,I t9)] []) (((s.size:Int)-0).toNat) ⟨1,0,rfl,om,(by rfl),rfl⟩ (fun gn gσ hI=> ?_)
  obtain ⟨sm,t9,rfl,hi0,hsm,rfl⟩:=hI
  refine Zan ?_
  by_cases h1:t9<(s.size:Int)
  ·have hi:t9.toNat<s.size:=by omega
   have hcb:=Zoz s t9.toNat
   have hbb:=Zew s t9.toNat
   rw [←hsm] at hcb
   refine Zdk [(0,.dec true)] [3,7,8,9,10] [] [_] hB ⟨h1,trivial⟩ (Zaf (Zan (Zdr (Zbu (Zaf (Zan (Zdi ?_)))))))
   refine aQ [] [3,5,7,8,9] [] [(0:Int)≤t9∧t9<(s.size:Int)] hB ⟨⟨om,om⟩,trivial⟩ ?_
   refine Zdk [(5,.nn)] [3,7,8,9] [] [inR .i64 (sm*257),inR .i64 (bAt s t9.toNat),inR .i64 ((sm*257)+(bAt s t9.toNat)),(0:Int)≤((sm*257)+(bAt s t9.toNat))∧(0:Int)<65521] hB ⟨(Zad om om),(Zad om om),(Zad om om),⟨om,om⟩,trivial⟩ (Zfn 1 (Zaf ?_))
   refine Zit [] [3,7,8,9] [] [I (((sm*257)+(bAt s t9.toNat)) % 65521),.sl true 1 s.size (Zfi s),I (s.size:Int),I (t9+1)] [] [inR .i64 (t9+1)] hB ⟨(Zad om om),trivial⟩ ?_
   exact Zfo _ om ⟨(((sm*257)+(bAt s t9.toNat)) % 65521),(t9+1),rfl,om,(by (rw [show (t9+1).toNat=t9.toNat+1 from by omega,ckS,←hsm])),rfl⟩
  have hie:t9.toNat=s.size:=by omega
  refine Zdk [(0,.dec false)] [3,7,8,9,10] [] [_] hB ⟨h1,trivial⟩ (Zaf (Zan (Zdm (Zgg (Zbo (Zbo (Zcq (Zaf ?_))))))))
  refine aR [] [2] [] [I sm] [] [] hB trivial (Zat ?_)
  refine Zau hB (I sm) (by kernel_rfl) (.inl (by (rw [hsm,hie];rfl))) rfl (fun _=>trivial)
theorem Zjg (ik:Ink) (hok:Zbg ik=true) (h6:(ik.Strokes.length:Int)≤6):∃(v:ByteArray),(Zlk ik v)∧((v.size:Int)≤12500)∧Con Tryd.prog 14 [.agg [Zaj false ik.Strokes]] true (Sv v):=by
  have hn0:=Zbe (ik.Strokes.length:Int) 8
  have h80:(8:Int).toNat=8:=rfl
  have h00:(⟨#[]⟩:ByteArray).size=0:=rfl
  have hh:∃r:ByteArray,((Zlk ik r)∧((r.size:Int)≤12500)∧(True))∧Zao Tryd.prog 14 [.agg [Zaj false ik.Strokes]] (Zac []) true (Sv r) (Zac []):=by
    refine Zdt (Φ:=fun r:ByteArray=>(Zlk ik r)∧((r.size:Int)≤12500)∧(True)) [] (fun r=>[]) (fn:=Tryd.f14) (nt:=80) Tryd.func14 rfl rfl (args:=[.agg [Zaj false ik.Strokes]]) rfl (Zca (.inl ⟨rfl,by simp [Zah,Zae,Zcz]⟩) Zdu) (res:=fun r=>Sv r) ?_
    refine xQ [(0,.new 1)] [1] [1] [] trivial ?_
    refine xQ [(0,.newb 3 60006 5)] [1,3] [1,3,60006] [] trivial ?_
    refine xQ [(3,.call [(true,.any),(true,.any)] true (Sv (Zci (ik.Strokes.length:Int) 8))),(4,.bw 3 60006 60007 (.string (Zci (ik.Strokes.length:Int) 8)) false (Zci (ik.Strokes.length:Int) 8))] [1,3] [1,3,60007] [_∧True,([.ref 3 0,Sv (Zci (ik.Strokes.length:Int) 8)]:List AV)=[.ref 3 0,Sv (Zci (ik.Strokes.length:Int) 8)]∧Zuu Tryd.prog 26 63 5 (.string (Zci (ik.Strokes.length:Int) 8)) false (⟨#[]⟩:ByteArray) false (Zci (ik.Strokes.length:Int) 8)] ⟨⟨(Zcs (ik.Strokes.length:Int) 8 om om),trivial⟩,⟨rfl,Zmx (by have hs2_:=Zbk [(0:Int),0];(try simp only [ByteArray.size_append,Zbk,List.length_cons,List.length_nil]);(try (rw [ByteArray.size_append] at hcz));omega)⟩,trivial⟩ (Zal ?_)
    refine xR [] [3,23,24,25] [3,60007] [.ref 3 0,Zaj false ik.Strokes,I (ik.Strokes.length:Int),I 0] [some (.bld 63 60007),some (.buf 5 false ((⟨#[]⟩:ByteArray)++(Zci (ik.Strokes.length:Int) 8)))] [] trivial (Zbl ?_)
    refine Zee (X:=Int×ByteArray) (fun x=>mkS [(3,.ref 3 0),(23,Zaj false ik.Strokes),(24,I (ik.Strokes.length:Int)),(25,I x.1)] [(3,.bld 63 60007),(60007,.buf 5 false x.2)]) (fun x=>(0≤x.1∧x.1≤(ik.Strokes.length:Int))∧(x.2=Zgs ik.Strokes x.1.toNat)∧True) (fun x=>((ik.Strokes.length:Int)-x.1).toNat) (0,((⟨#[]⟩:ByteArray)++(Zci (ik.Strokes.length:Int) 8))) rfl (show (0≤(0:Int)∧(0:Int)≤(ik.Strokes.length:Int))∧(((⟨#[]⟩:ByteArray)++(Zci (ik.Strokes.length:Int) 8))=Zgs ik.Strokes (0:Int).toNat)∧True from ⟨om,(by exact nil_app_ _),trivial⟩) (fun x hI=> ?_)
    obtain ⟨t25,tx⟩:=x
    obtain ⟨hi0,htx,_⟩:(0≤t25∧t25≤(ik.Strokes.length:Int))∧(tx=Zgs ik.Strokes t25.toNat)∧True:=hI
    show XW _ _ _ _ (mkS [(3,.ref 3 0),(23,Zaj false ik.Strokes),(24,I (ik.Strokes.length:Int)),(25,I t25)] [(3,.bld 63 60007),(60007,.buf 5 false tx)]) _ _
    refine Zal ?_
    by_cases h1:t25<(ik.Strokes.length:Int)
    ·have hi:t25.toNat<ik.Strokes.length:=by omega
     have hii:(t25+1).toNat=t25.toNat+1:=by omega
     have hst:=Zky hok _ (Zdf hi)
     have hsl:=(Zod hst).1
     have hiz:=Zhg (Zky hok) t25.toNat om
     rw [←htx] at hiz
     have hn8:=Zbe ((at_ ik.Strokes t25.toNat).Points.length:Int) 8
     have h8:(8:Int).toNat=8:=rfl
     have hco0:=Zfu hst 0
     have hco1:=Zfu hst 1
     have hco2:=Zfu hst 2
     refine x_q [(0,.dec true)] [3,23,24,25,26] [3,60007] [_] ⟨h1,trivial⟩ (Zab (Zal (Zfk (Zbr (Zab (Zal (Zbl ?_)))))))
     refine xQ [(2,.new 5)] [3,5,23,24,25] [3,5,60007] [(0:Int)≤t25∧t25<(ik.Strokes.length:Int)] ⟨⟨om,om⟩,trivial⟩ ?_
     refine xQ [(3,.call [(true,.any),(true,.any)] true (Sv (Zci ((((at_ ik.Strokes t25.toNat).Points).length):Int) 8))),(4,.bw 3 60007 60006 (.string (Zci ((((at_ ik.Strokes t25.toNat).Points).length):Int) 8)) false (Zci ((((at_ ik.Strokes t25.toNat).Points).length):Int) 8))] [3,5,23,24,25] [3,5,60006] [_∧True,([.ref 3 0,Sv (Zci ((((at_ ik.Strokes t25.toNat).Points).length):Int) 8)]:List AV)=[.ref 3 0,Sv (Zci ((((at_ ik.Strokes t25.toNat).Points).length):Int) 8)]∧Zuu Tryd.prog 26 63 5 (.string (Zci ((((at_ ik.Strokes t25.toNat).Points).length):Int) 8)) false tx false (Zci ((((at_ ik.Strokes t25.toNat).Points).length):Int) 8)] ⟨⟨(Zcs ((((at_ ik.Strokes t25.toNat).Points).length):Int) 8 om om),trivial⟩,⟨rfl,Zmx (by have hs2_:=Zbk [(0:Int),0];(try simp only [ByteArray.size_append,Zbk,List.length_cons,List.length_nil]);(try (rw [ByteArray.size_append] at hcz));omega)⟩,trivial⟩ (Zal ?_)
     obtain ⟨v_1,hx1_0,hx1_1,hx1_2,hc1⟩:=Zuj (at_ ik.Strokes t25.toNat) om
     have hqc0:=hx1_0
     have hqc1:=hx1_1
     have hqc2:=hx1_2
     refine x_r [(1,.call [(true,.any)] true (Zas v_1))] [3,23,24,25,35,36] [3,60006] [.ref 3 0,Zaj false ik.Strokes,I (ik.Strokes.length:Int),I t25,Zas v_1,I 0] [some (.bld 63 60006),some (.buf 5 false (tx++(Zci ((((at_ ik.Strokes t25.toNat).Points).length):Int) 8)))] [_∧True] ⟨⟨hc1,trivial⟩,trivial⟩ (Zab (Zbl ?_))
     refine Zee (X:=Int×ByteArray) (fun x=>mkS [(3,.ref 3 0),(23,Zaj false ik.Strokes),(24,I (ik.Strokes.length:Int)),(25,I t25),(35,Zas v_1),(36,I x.1)] [(3,.bld 63 60006),(60006,.buf 5 false x.2)]) (fun x=>(0≤x.1∧x.1≤3)∧(x.2=Zgs ik.Strokes t25.toNat++pcB (at_ ik.Strokes t25.toNat) x.1.toNat)∧True) (fun x=>((3:Int)-x.1).toNat) (0,(tx++(Zci ((((at_ ik.Strokes t25.toNat).Points).length):Int) 8))) rfl (show (0≤(0:Int)∧(0:Int)≤3)∧((tx++(Zci ((((at_ ik.Strokes t25.toNat).Points).length):Int) 8))=Zgs ik.Strokes t25.toNat++pcB (at_ ik.Strokes t25.toNat) (0:Int).toNat)∧True from ⟨om,(by (rw [←htx];rfl)),trivial⟩) (fun x hI=> ?_)
     obtain ⟨t36,tx2⟩:=x
     obtain ⟨hk0,htx2,_⟩:(0≤t36∧t36≤3)∧(tx2=Zgs ik.Strokes t25.toNat++pcB (at_ ik.Strokes t25.toNat) t36.toNat)∧True:=hI
     show XW _ _ _ _ (mkS [(3,.ref 3 0),(23,Zaj false ik.Strokes),(24,I (ik.Strokes.length:Int)),(25,I t25),(35,Zas v_1),(36,I t36)] [(3,.bld 63 60006),(60006,.buf 5 false tx2)]) _ _
     refine Zal ?_
     by_cases h2:t36<3
     ·have hpz:=Zoe hst t36.toNat
      have htz:tx2.size≤8+9380*6+8+3124*3:=by rw [htx2,ByteArray.size_append];rw [htx] at hiz;omega
      have h012:t36=0∨t36=1∨t36=2:=by omega
      rcases h012 with rfl|rfl|rfl
      ·refine x_q [(0,.dec true)] [3,23,24,25,35,36,37] [3,60006] [_] ⟨h2,trivial⟩ (Zab (Zal (Zfk (Zbr (Zab (Zal (Zbl ?_)))))))
       refine xQ [] [3,7,23,24,25,35,36] [3,60006] [(0:Int)≤(0:Int)∧(0:Int)<(3:Int)] ⟨⟨by decide,by decide⟩,trivial⟩ (Zal ?_)
       obtain ⟨v_2,hx2_0,hc2⟩:=Zfv v_1.a0 (by first|(rw [hqc0];exact hco0.1)|(rw [hqc1];exact hco1.1)|(rw [hqc2];exact hco2.1)) (by first|(rw [hqc0];exact hco0.2)|(rw [hqc1];exact hco1.2)|(rw [hqc2];exact hco2.2))
       have hrv:v_2=Zkv (Zeo (at_ ik.Strokes t25.toNat) 0):=by rw [hx2_0,hqc0]
       have hrr:rOk v_2:=by rw [hrv];exact Zkw hco0
       have hrl:v_2.length=(at_ ik.Strokes t25.toNat).Points.length:=by rw [hrv,Zgl,Zdq]
       refine x_q [(1,.call [(false,slI false v_1.a0)] true (slI true v_2))] [3,8,23,24,25,35,36] [3,60006] [_∧((false=true→true=true)∧1=1∧v_1.a0.length=v_1.a0.length∧∀i_,i_<v_1.a0.length→(fI v_1.a0) i_=(fI v_1.a0) i_∨(AV.idsL ((fI v_1.a0) i_)=[]∧leL (fun _=>none) false ((fI v_1.a0) i_) ((fI v_1.a0) i_)))∧True] ⟨⟨hc2,⟨(fun h=>by cases h),rfl,rfl,fun i _=> .inl rfl⟩,trivial⟩,trivial⟩ (Zab (Zal ?_))
       obtain ⟨b_3,s_3,hx3_0,hx3_1,hc3⟩:=Zid v_2 om hrr
       have hbk:0≤b_3∧b_3≤12:=by rw [hx3_0];exact (Zhf hrr (K:=12) (by decide)).1
       have hcolb:Zci b_3 4++riC v_2 b_3 v_2.length=Zhe (Zeo (at_ ik.Strokes t25.toNat) 0):=by rw [hx3_0,hrv];rfl
       have hrz:=Zfr hrr hbk v_2.length (Nat.le_refl _)
       have hnz:=Zbe b_3 4
       have h4:(4:Int).toNat=4:=rfl
       refine x_r [(1,.call [(false,slI false v_2)] true (.tup [I b_3,I s_3]))] [3,8,9,23,24,25,35,36] [3,60006] [.ref 3 0,slI true v_2,I b_3,Zaj false ik.Strokes,I (ik.Strokes.length:Int),I t25,Zas v_1,I (0:Int)] [some (.bld 63 60006),some (.buf 5 false tx2)] [_∧((false=true→true=true)∧1=1∧v_2.length=v_2.length∧∀i_,i_<v_2.length→(fI v_2) i_=(fI v_2) i_∨(AV.idsL ((fI v_2) i_)=[]∧leL (fun _=>none) false ((fI v_2) i_) ((fI v_2) i_)))∧True] ⟨⟨hc3,⟨(fun h=>by cases h),rfl,rfl,fun i _=> .inl rfl⟩,trivial⟩,trivial⟩ (Zab ?_)
       refine xQ [(1,.call [(true,.any),(true,.any)] true (Sv (Zci b_3 4))),(2,.bw 3 60006 60007 (.string (Zci b_3 4)) false (Zci b_3 4))] [3,8,9,23,24,25,35,36] [3,60007] [_∧True,([.ref 3 0,Sv (Zci b_3 4)]:List AV)=[.ref 3 0,Sv (Zci b_3 4)]∧Zuu Tryd.prog 26 63 5 (.string (Zci b_3 4)) false tx2 false (Zci b_3 4)] ⟨⟨(Zcs b_3 4 om om),trivial⟩,⟨rfl,Zmx (by have hs2_:=Zbk [(0:Int),0];(try simp only [ByteArray.size_append,Zbk,List.length_cons,List.length_nil]);(try (rw [ByteArray.size_append] at hcz));omega)⟩,trivial⟩ ?_
       refine xR [] [3,9,23,24,25,35,36,49,50,51] [3,60007] [.ref 3 0,I b_3,Zaj false ik.Strokes,I (ik.Strokes.length:Int),I t25,Zas v_1,I (0:Int),slI true v_2,I (v_2.length:Int),I 0] [some (.bld 63 60007),some (.buf 5 false (tx2++(Zci b_3 4)))] [] trivial (Zbl ?_)
       refine Zee (X:=Int×ByteArray) (fun x=>mkS [(3,.ref 3 0),(9,I b_3),(23,Zaj false ik.Strokes),(24,I (ik.Strokes.length:Int)),(25,I t25),(35,Zas v_1),(36,I (0:Int)),(49,slI true v_2),(50,I (v_2.length:Int)),(51,I x.1)] [(3,.bld 63 60007),(60007,.buf 5 false x.2)]) (fun x=>(0≤x.1∧x.1≤(v_2.length:Int))∧(x.2=(tx2++Zci b_3 4)++riC v_2 b_3 x.1.toNat)∧True) (fun x=>((v_2.length:Int)-x.1).toNat) (0,(tx2++(Zci b_3 4))) rfl (show (0≤(0:Int)∧(0:Int)≤(v_2.length:Int))∧((tx2++(Zci b_3 4))=(tx2++Zci b_3 4)++riC v_2 b_3 (0:Int).toNat)∧True from ⟨om,(by exact (Zog _).symm),trivial⟩) (fun x hI=> ?_)
       obtain ⟨t51,tx3⟩:=x
       obtain ⟨hj0,htx3,_⟩:(0≤t51∧t51≤(v_2.length:Int))∧(tx3=(tx2++Zci b_3 4)++riC v_2 b_3 t51.toNat)∧True:=hI
       show XW _ _ _ _ (mkS [(3,.ref 3 0),(9,I b_3),(23,Zaj false ik.Strokes),(24,I (ik.Strokes.length:Int)),(25,I t25),(35,Zas v_1),(36,I (0:Int)),(49,slI true v_2),(50,I (v_2.length:Int)),(51,I t51)] [(3,.bld 63 60007),(60007,.buf 5 false tx3)]) _ _
       refine Zal ?_
       by_cases h3:t51<(v_2.length:Int)
       ·have hj:t51.toNat<v_2.length:=by omega
        have hjj:(t51+1).toNat=t51.toNat+1:=by omega
        have hxr:=hrr _ (Zdf hj)
        have hrs:=ri_sz hxr hbk
        have hrz2:=Zfr hrr hbk t51.toNat om
        have htz3:tx3.size≤tx2.size+4+52*t51.toNat:=by rw [htx3,ByteArray.size_append,ByteArray.size_append];omega
        refine x_q [(0,.dec true)] [3,9,23,24,25,35,36,49,50,51,52] [3,60007] [_] ⟨h3,trivial⟩ (Zab (Zal (Zfk (Zbr (Zab (Zal (Zbl ?_)))))))
        refine xQ [] [3,9,12,23,24,25,35,36,49,50,51] [3,60007] [(0:Int)≤t51∧t51<(v_2.length:Int)] ⟨⟨om,om⟩,trivial⟩ ?_
        refine x_q [(2,.call [(true,.any),(true,.any)] true (Sv (Zch (at_ v_2 t51.toNat) b_3))),(3,.bw 3 60007 60006 (.string (Zch (at_ v_2 t51.toNat) b_3)) false (Zch (at_ v_2 t51.toNat) b_3))] [3,9,23,24,25,35,36,49,50,51] [3,60006] [_∧True,([.ref 3 0,Sv (Zch (at_ v_2 t51.toNat) b_3)]:List AV)=[.ref 3 0,Sv (Zch (at_ v_2 t51.toNat) b_3)]∧Zuu Tryd.prog 26 63 5 (.string (Zch (at_ v_2 t51.toNat) b_3)) false tx3 false (Zch (at_ v_2 t51.toNat) b_3)] ⟨⟨(Zie (at_ v_2 t51.toNat) b_3 om om),trivial⟩,⟨rfl,Zmx (by have hs2_:=Zbk [(0:Int),0];(try simp only [ByteArray.size_append,Zbk,List.length_cons,List.length_nil]);(try (rw [ByteArray.size_append] at hcz));omega)⟩,trivial⟩ (Zbs 5 (Zab ?_))
        refine x_r [] [3,9,23,24,25,35,36,49,50,51] [3,60006] [.ref 3 0,I b_3,Zaj false ik.Strokes,I (ik.Strokes.length:Int),I t25,Zas v_1,I (0:Int),slI true v_2,I (v_2.length:Int),I (t51+1)] [some (.bld 63 60006),some (.buf 5 false (tx3++(Zch (at_ v_2 t51.toNat) b_3)))] [inR .i64 (t51+1)] ⟨(Zad om om),trivial⟩ ?_
        refine Zcm [(60007,60006)] (T:=[(3,.ref 3 0),(9,I b_3),(23,Zaj false ik.Strokes),(24,I (ik.Strokes.length:Int)),(25,I t25),(35,Zas v_1),(36,I (0:Int)),(49,slI true v_2),(50,I (v_2.length:Int)),(51,I (t51+1))]) (O:=[(3,.bld 63 60007),(60007,.buf 5 false (tx3++(Zch (at_ v_2 t51.toNat) b_3)))]) rfl (⟨.inl rfl,.inl rfl,.inl rfl,.inl rfl,.inl rfl,.inl rfl,.inl rfl,.inl rfl,.inl rfl,.inl rfl,trivial⟩) (⟨.inl rfl,.inl rfl,trivial⟩) (Zbt ((t51+1),(tx3++(Zch (at_ v_2 t51.toNat) b_3))) rfl (show (0≤(t51+1)∧(t51+1)≤(v_2.length:Int))∧((tx3++(Zch (at_ v_2 t51.toNat) b_3))=(tx2++Zci b_3 4)++riC v_2 b_3 (t51+1).toNat)∧True from ⟨om,(by (rw [hjj,riC,←ByteArray.append_assoc,←htx3])),trivial⟩) (by first|(show (((v_2.length:Int)-(t51+1)).toNat:Nat)<((v_2.length:Int)-t51).toNat;omega)|(dsimp only;omega)))
       have hje:t51.toNat=v_2.length:=by omega
       rw [hje] at htx3
       have htx4:=htx3
       rw [ByteArray.append_assoc,hcolb] at htx4
       have htz4:tx3.size≤tx2.size+4+52*60:=by rw [htx3,ByteArray.size_append,ByteArray.size_append];omega
       refine x_r [(0,.dec false)] [3,9,23,24,25,35,36,49,50,51,52] [3,60007] [.ref 3 0,I b_3,Zaj false ik.Strokes,I (ik.Strokes.length:Int),I t25,Zas v_1,I (0:Int),slI true v_2,I (v_2.length:Int),I t51,Bv false] [some (.bld 63 60007),some (.buf 5 false tx3)] [_] ⟨h3,trivial⟩ (Zab (Zal (Zcu rfl (Zdz (Zba ?_)))))
       refine Zbb ?_
       refine Zbc (Zbs 3 (Zab ?_))
       refine x_r [] [3,23,24,25,35,36] [3,60007] [.ref 3 0,Zaj false ik.Strokes,I (ik.Strokes.length:Int),I t25,Zas v_1,I ((0:Int)+1)] [some (.bld 63 60007),some (.buf 5 false tx3)] [inR .i64 ((0:Int)+1)] ⟨(Zad om om),trivial⟩ ?_
       refine Zcm [(60006,60007)] (T:=[(3,.ref 3 0),(23,Zaj false ik.Strokes),(24,I (ik.Strokes.length:Int)),(25,I t25),(35,Zas v_1),(36,I ((0:Int)+1))]) (O:=[(3,.bld 63 60006),(60006,.buf 5 false tx3)]) rfl (⟨.inl rfl,.inl rfl,.inl rfl,.inl rfl,.inl rfl,.inl rfl,trivial⟩) (⟨.inl rfl,.inl rfl,trivial⟩) (Zbt (((0:Int)+1),tx3) rfl (show (0≤((0:Int)+1)∧((0:Int)+1)≤3)∧(tx3=Zgs ik.Strokes t25.toNat++pcB (at_ ik.Strokes t25.toNat) ((0:Int)+1).toNat)∧True from ⟨om,(by (rw [htx4,htx2,ByteArray.append_assoc];rfl)),trivial⟩) (by first|(show (((3:Int)-((0:Int)+1)).toNat:Nat)<((3:Int)-t36).toNat;omega)|(dsimp only;omega)))
      ·refine x_q [(0,.dec true)] [3,23,24,25,35,36,37] [3,60006] [_] ⟨h2,trivial⟩ (Zab (Zal (Zfk (Zbr (Zab (Zal (Zbl ?_)))))))
       refine xQ [] [3,7,23,24,25,35,36] [3,60006] [(0:Int)≤(1:Int)∧(1:Int)<(3:Int)] ⟨⟨by decide,by decide⟩,trivial⟩ (Zal ?_)
       obtain ⟨v_4,hx4_0,hc4⟩:=Zfv v_1.a1 (by first|(rw [hqc0];exact hco0.1)|(rw [hqc1];exact hco1.1)|(rw [hqc2];exact hco2.1)) (by first|(rw [hqc0];exact hco0.2)|(rw [hqc1];exact hco1.2)|(rw [hqc2];exact hco2.2))
       have hrv:v_4=Zkv (Zeo (at_ ik.Strokes t25.toNat) 1):=by rw [hx4_0,hqc1]
       have hrr:rOk v_4:=by rw [hrv];exact Zkw hco1
       have hrl:v_4.length=(at_ ik.Strokes t25.toNat).Points.length:=by rw [hrv,Zgl,Zdq]
       refine x_q [(1,.call [(false,slI false v_1.a1)] true (slI true v_4))] [3,8,23,24,25,35,36] [3,60006] [_∧((false=true→true=true)∧1=1∧v_1.a1.length=v_1.a1.length∧∀i_,i_<v_1.a1.length→(fI v_1.a1) i_=(fI v_1.a1) i_∨(AV.idsL ((fI v_1.a1) i_)=[]∧leL (fun _=>none) false ((fI v_1.a1) i_) ((fI v_1.a1) i_)))∧True] ⟨⟨hc4,⟨(fun h=>by cases h),rfl,rfl,fun i _=> .inl rfl⟩,trivial⟩,trivial⟩ (Zab (Zal ?_))
       obtain ⟨b_5,s_5,hx5_0,hx5_1,hc5⟩:=Zid v_4 om hrr
       have hbk:0≤b_5∧b_5≤12:=by rw [hx5_0];exact (Zhf hrr (K:=12) (by decide)).1
       have hcolb:Zci b_5 4++riC v_4 b_5 v_4.length=Zhe (Zeo (at_ ik.Strokes t25.toNat) 1):=by rw [hx5_0,hrv];rfl
       have hrz:=Zfr hrr hbk v_4.length (Nat.le_refl _)
       have hnz:=Zbe b_5 4
       have h4:(4:Int).toNat=4:=rfl
       refine x_r [(1,.call [(false,slI false v_4)] true (.tup [I b_5,I s_5]))] [3,8,9,23,24,25,35,36] [3,60006] [.ref 3 0,slI true v_4,I b_5,Zaj false ik.Strokes,I (ik.Strokes.length:Int),I t25,Zas v_1,I (1:Int)] [some (.bld 63 60006),some (.buf 5 false tx2)] [_∧((false=true→true=true)∧1=1∧v_4.length=v_4.length∧∀i_,i_<v_4.length→(fI v_4) i_=(fI v_4) i_∨(AV.idsL ((fI v_4) i_)=[]∧leL (fun _=>none) false ((fI v_4) i_) ((fI v_4) i_)))∧True] ⟨⟨hc5,⟨(fun h=>by cases h),rfl,rfl,fun i _=> .inl rfl⟩,trivial⟩,trivial⟩ (Zab ?_)
       refine xQ [(1,.call [(true,.any),(true,.any)] true (Sv (Zci b_5 4))),(2,.bw 3 60006 60007 (.string (Zci b_5 4)) false (Zci b_5 4))] [3,8,9,23,24,25,35,36] [3,60007] [_∧True,([.ref 3 0,Sv (Zci b_5 4)]:List AV)=[.ref 3 0,Sv (Zci b_5 4)]∧Zuu Tryd.prog 26 63 5 (.string (Zci b_5 4)) false tx2 false (Zci b_5 4)] ⟨⟨(Zcs b_5 4 om om),trivial⟩,⟨rfl,Zmx (by have hs2_:=Zbk [(0:Int),0];(try simp only [ByteArray.size_append,Zbk,List.length_cons,List.length_nil]);(try (rw [ByteArray.size_append] at hcz));omega)⟩,trivial⟩ ?_
       refine xR [] [3,9,23,24,25,35,36,49,50,51] [3,60007] [.ref 3 0,I b_5,Zaj false ik.Strokes,I (ik.Strokes.length:Int),I t25,Zas v_1,I (1:Int),slI true v_4,I (v_4.length:Int),I 0] [some (.bld 63 60007),some (.buf 5 false (tx2++(Zci b_5 4)))] [] trivial (Zbl ?_)
       refine Zee (X:=Int×ByteArray) (fun x=>mkS [(3,.ref 3 0),(9,I b_5),(23,Zaj false ik.Strokes),(24,I (ik.Strokes.length:Int)),(25,I t25),(35,Zas v_1),(36,I (1:Int)),(49,slI true v_4),(50,I (v_4.length:Int)),(51,I x.1)] [(3,.bld 63 60007),(60007,.buf 5 false x.2)]) (fun x=>(0≤x.1∧x.1≤(v_4.length:Int))∧(x.2=(tx2++Zci b_5 4)++riC v_4 b_5 x.1.toNat)∧True) (fun x=>((v_4.length:Int)-x.1).toNat) (0,(tx2++(Zci b_5 4))) rfl (show (0≤(0:Int)∧(0:Int)≤(v_4.length:Int))∧((tx2++(Zci b_5 4))=(tx2++Zci b_5 4)++riC v_4 b_5 (0:Int).toNat)∧True from ⟨om,(by exact (Zog _).symm),trivial⟩) (fun x hI=> ?_)
       obtain ⟨t51,tx3⟩:=x
       obtain ⟨hj0,htx3,_⟩:(0≤t51∧t51≤(v_4.length:Int))∧(tx3=(tx2++Zci b_5 4)++riC v_4 b_5 t51.toNat)∧True:=hI
       show XW _ _ _ _ (mkS [(3,.ref 3 0),(9,I b_5),(23,Zaj false ik.Strokes),(24,I (ik.Strokes.length:Int)),(25,I t25),(35,Zas v_1),(36,I (1:Int)),(49,slI true v_4),(50,I (v_4.length:Int)),(51,I t51)] [(3,.bld 63 60007),(60007,.buf 5 false tx3)]) _ _
       refine Zal ?_
       by_cases h4:t51<(v_4.length:Int)
       ·have hj:t51.toNat<v_4.length:=by omega
        have hjj:(t51+1).toNat=t51.toNat+1:=by omega
        have hxr:=hrr _ (Zdf hj)
        have hrs:=ri_sz hxr hbk
        have hrz2:=Zfr hrr hbk t51.toNat om
        have htz3:tx3.size≤tx2.size+4+52*t51.toNat:=by rw [htx3,ByteArray.size_append,ByteArray.size_append];omega
        refine x_q [(0,.dec true)] [3,9,23,24,25,35,36,49,50,51,52] [3,60007] [_] ⟨h4,trivial⟩ (Zab (Zal (Zfk (Zbr (Zab (Zal (Zbl ?_)))))))
        refine xQ [] [3,9,12,23,24,25,35,36,49,50,51] [3,60007] [(0:Int)≤t51∧t51<(v_4.length:Int)] ⟨⟨om,om⟩,trivial⟩ ?_
        refine x_q [(2,.call [(true,.any),(true,.any)] true (Sv (Zch (at_ v_4 t51.toNat) b_5))),(3,.bw 3 60007 60006 (.string (Zch (at_ v_4 t51.toNat) b_5)) false (Zch (at_ v_4 t51.toNat) b_5))] [3,9,23,24,25,35,36,49,50,51] [3,60006] [_∧True,([.ref 3 0,Sv (Zch (at_ v_4 t51.toNat) b_5)]:List AV)=[.ref 3 0,Sv (Zch (at_ v_4 t51.toNat) b_5)]∧Zuu Tryd.prog 26 63 5 (.string (Zch (at_ v_4 t51.toNat) b_5)) false tx3 false (Zch (at_ v_4 t51.toNat) b_5)] ⟨⟨(Zie (at_ v_4 t51.toNat) b_5 om om),trivial⟩,⟨rfl,Zmx (by have hs2_:=Zbk [(0:Int),0];(try simp only [ByteArray.size_append,Zbk,List.length_cons,List.length_nil]);(try (rw [ByteArray.size_append] at hcz));omega)⟩,trivial⟩ (Zbs 5 (Zab ?_))
        refine x_r [] [3,9,23,24,25,35,36,49,50,51] [3,60006] [.ref 3 0,I b_5,Zaj false ik.Strokes,I (ik.Strokes.length:Int),I t25,Zas v_1,I (1:Int),slI true v_4,I (v_4.length:Int),I (t51+1)] [some (.bld 63 60006),some (.buf 5 false (tx3++(Zch (at_ v_4 t51.toNat) b_5)))] [inR .i64 (t51+1)] ⟨(Zad om om),trivial⟩ ?_
        refine Zcm [(60007,60006)] (T:=[(3,.ref 3 0),(9,I b_5),(23,Zaj false ik.Strokes),(24,I (ik.Strokes.length:Int)),(25,I t25),(35,Zas v_1),(36,I (1:Int)),(49,slI true v_4),(50,I (v_4.length:Int)),(51,I (t51+1))]) (O:=[(3,.bld 63 60007),(60007,.buf 5 false (tx3++(Zch (at_ v_4 t51.toNat) b_5)))]) rfl (⟨.inl rfl,.inl rfl,.inl rfl,.inl rfl,.inl rfl,.inl rfl,.inl rfl,.inl rfl,.inl rfl,.inl rfl,trivial⟩) (⟨.inl rfl,.inl rfl,trivial⟩) (Zbt ((t51+1),(tx3++(Zch (at_ v_4 t51.toNat) b_5))) rfl (show (0≤(t51+1)∧(t51+1)≤(v_4.length:Int))∧((tx3++(Zch (at_ v_4 t51.toNat) b_5))=(tx2++Zci b_5 4)++riC v_4 b_5 (t51+1).toNat)∧True from ⟨om,(by (rw [hjj,riC,←ByteArray.append_assoc,←htx3])),trivial⟩) (by first|(show (((v_4.length:Int)-(t51+1)).toNat:Nat)<((v_4.length:Int)-t51).toNat;omega)|(dsimp only;omega)))
       have hje:t51.toNat=v_4.length:=by omega
       rw [hje] at htx3
       have htx4:=htx3
       rw [ByteArray.append_assoc,hcolb] at htx4
       have htz4:tx3.size≤tx2.size+4+52*60:=by rw [htx3,ByteArray.size_append,ByteArray.size_append];omega
       refine x_r [(0,.dec false)] [3,9,23,24,25,35,36,49,50,51,52] [3,60007] [.ref 3 0,I b_5,Zaj false ik.Strokes,I (ik.Strokes.length:Int),I t25,Zas v_1,I (1:Int),slI true v_4,I (v_4.length:Int),I t51,Bv false] [some (.bld 63 60007),some (.buf 5 false tx3)] [_] ⟨h4,trivial⟩ (Zab (Zal (Zcu rfl (Zdz (Zba ?_)))))
       refine Zbb ?_
       refine Zbc (Zbs 3 (Zab ?_))
       refine x_r [] [3,23,24,25,35,36] [3,60007] [.ref 3 0,Zaj false ik.Strokes,I (ik.Strokes.length:Int),I t25,Zas v_1,I ((1:Int)+1)] [some (.bld 63 60007),some (.buf 5 false tx3)] [inR .i64 ((1:Int)+1)] ⟨(Zad om om),trivial⟩ ?_
       refine Zcm [(60006,60007)] (T:=[(3,.ref 3 0),(23,Zaj false ik.Strokes),(24,I (ik.Strokes.length:Int)),(25,I t25),(35,Zas v_1),(36,I ((1:Int)+1))]) (O:=[(3,.bld 63 60006),(60006,.buf 5 false tx3)]) rfl (⟨.inl rfl,.inl rfl,.inl rfl,.inl rfl,.inl rfl,.inl rfl,trivial⟩) (⟨.inl rfl,.inl rfl,trivial⟩) (Zbt (((1:Int)+1),tx3) rfl (show (0≤((1:Int)+1)∧((1:Int)+1)≤3)∧(tx3=Zgs ik.Strokes t25.toNat++pcB (at_ ik.Strokes t25.toNat) ((1:Int)+1).toNat)∧True from ⟨om,(by (rw [htx4,htx2,ByteArray.append_assoc];rfl)),trivial⟩) (by first|(show (((3:Int)-((1:Int)+1)).toNat:Nat)<((3:Int)-t36).toNat;omega)|(dsimp only;omega)))
      ·refine x_q [(0,.dec true)] [3,23,24,25,35,36,37] [3,60006] [_] ⟨h2,trivial⟩ (Zab (Zal (Zfk (Zbr (Zab (Zal (Zbl ?_)))))))
       refine xQ [] [3,7,23,24,25,35,36] [3,60006] [(0:Int)≤(2:Int)∧(2:Int)<(3:Int)] ⟨⟨by decide,by decide⟩,trivial⟩ (Zal ?_)
       obtain ⟨v_6,hx6_0,hc6⟩:=Zfv v_1.a2 (by first|(rw [hqc0];exact hco0.1)|(rw [hqc1];exact hco1.1)|(rw [hqc2];exact hco2.1)) (by first|(rw [hqc0];exact hco0.2)|(rw [hqc1];exact hco1.2)|(rw [hqc2];exact hco2.2))
       have hrv:v_6=Zkv (Zeo (at_ ik.Strokes t25.toNat) 2):=by rw [hx6_0,hqc2]
       have hrr:rOk v_6:=by rw [hrv];exact Zkw hco2
       have hrl:v_6.length=(at_ ik.Strokes t25.toNat).Points.length:=by rw [hrv,Zgl,Zdq]
       refine x_q [(1,.call [(false,slI false v_1.a2)] true (slI true v_6))] [3,8,23,24,25,35,36] [3,60006] [_∧((false=true→true=true)∧1=1∧v_1.a2.length=v_1.a2.length∧∀i_,i_<v_1.a2.length→(fI v_1.a2) i_=(fI v_1.a2) i_∨(AV.idsL ((fI v_1.a2) i_)=[]∧leL (fun _=>none) false ((fI v_1.a2) i_) ((fI v_1.a2) i_)))∧True] ⟨⟨hc6,⟨(fun h=>by cases h),rfl,rfl,fun i _=> .inl rfl⟩,trivial⟩,trivial⟩ (Zab (Zal ?_))
       obtain ⟨b_7,s_7,hx7_0,hx7_1,hc7⟩:=Zid v_6 om hrr
       have hbk:0≤b_7∧b_7≤12:=by rw [hx7_0];exact (Zhf hrr (K:=12) (by decide)).1
       have hcolb:Zci b_7 4++riC v_6 b_7 v_6.length=Zhe (Zeo (at_ ik.Strokes t25.toNat) 2):=by rw [hx7_0,hrv];rfl
       have hrz:=Zfr hrr hbk v_6.length (Nat.le_refl _)
       have hnz:=Zbe b_7 4
       have h4:(4:Int).toNat=4:=rfl
       refine x_r [(1,.call [(false,slI false v_6)] true (.tup [I b_7,I s_7]))] [3,8,9,23,24,25,35,36] [3,60006] [.ref 3 0,slI true v_6,I b_7,Zaj false ik.Strokes,I (ik.Strokes.length:Int),I t25,Zas v_1,I (2:Int)] [some (.bld 63 60006),some (.buf 5 false tx2)] [_∧((false=true→true=true)∧1=1∧v_6.length=v_6.length∧∀i_,i_<v_6.length→(fI v_6) i_=(fI v_6) i_∨(AV.idsL ((fI v_6) i_)=[]∧leL (fun _=>none) false ((fI v_6) i_) ((fI v_6) i_)))∧True] ⟨⟨hc7,⟨(fun h=>by cases h),rfl,rfl,fun i _=> .inl rfl⟩,trivial⟩,trivial⟩ (Zab ?_)
       refine xQ [(1,.call [(true,.any),(true,.any)] true (Sv (Zci b_7 4))),(2,.bw 3 60006 60007 (.string (Zci b_7 4)) false (Zci b_7 4))] [3,8,9,23,24,25,35,36] [3,60007] [_∧True,([.ref 3 0,Sv (Zci b_7 4)]:List AV)=[.ref 3 0,Sv (Zci b_7 4)]∧Zuu Tryd.prog 26 63 5 (.string (Zci b_7 4)) false tx2 false (Zci b_7 4)] ⟨⟨(Zcs b_7 4 om om),trivial⟩,⟨rfl,Zmx (by have hs2_:=Zbk [(0:Int),0];(try simp only [ByteArray.size_append,Zbk,List.length_cons,List.length_nil]);(try (rw [ByteArray.size_append] at hcz));omega)⟩,trivial⟩ ?_
       refine xR [] [3,9,23,24,25,35,36,49,50,51] [3,60007] [.ref 3 0,I b_7,Zaj false ik.Strokes,I (ik.Strokes.length:Int),I t25,Zas v_1,I (2:Int),slI true v_6,I (v_6.length:Int),I 0] [some (.bld 63 60007),some (.buf 5 false (tx2++(Zci b_7 4)))] [] trivial (Zbl ?_)
       refine Zee (X:=Int×ByteArray) (fun x=>mkS [(3,.ref 3 0),(9,I b_7),(23,Zaj false ik.Strokes),(24,I (ik.Strokes.length:Int)),(25,I t25),(35,Zas v_1),(36,I (2:Int)),(49,slI true v_6),(50,I (v_6.length:Int)),(51,I x.1)] [(3,.bld 63 60007),(60007,.buf 5 false x.2)]) (fun x=>(0≤x.1∧x.1≤(v_6.length:Int))∧(x.2=(tx2++Zci b_7 4)++riC v_6 b_7 x.1.toNat)∧True) (fun x=>((v_6.length:Int)-x.1).toNat) (0,(tx2++(Zci b_7 4))) rfl (show (0≤(0:Int)∧(0:Int)≤(v_6.length:Int))∧((tx2++(Zci b_7 4))=(tx2++Zci b_7 4)++riC v_6 b_7 (0:Int).toNat)∧True from ⟨om,(by exact (Zog _).symm),trivial⟩) (fun x hI=> ?_)
       obtain ⟨t51,tx3⟩:=x
       obtain ⟨hj0,htx3,_⟩:(0≤t51∧t51≤(v_6.length:Int))∧(tx3=(tx2++Zci b_7 4)++riC v_6 b_7 t51.toNat)∧True:=hI
       show XW _ _ _ _ (mkS [(3,.ref 3 0),(9,I b_7),(23,Zaj false ik.Strokes),(24,I (ik.Strokes.length:Int)),(25,I t25),(35,Zas v_1),(36,I (2:Int)),(49,slI true v_6),(50,I (v_6.length:Int)),(51,I t51)] [(3,.bld 63 60007),(60007,.buf 5 false tx3)]) _ _
       refine Zal ?_
       by_cases h5:t51<(v_6.length:Int)
       ·have hj:t51.toNat<v_6.length:=by omega
        have hjj:(t51+1).toNat=t51.toNat+1:=by omega
        have hxr:=hrr _ (Zdf hj)
        have hrs:=ri_sz hxr hbk
        have hrz2:=Zfr hrr hbk t51.toNat om
        have htz3:tx3.size≤tx2.size+4+52*t51.toNat:=by rw [htx3,ByteArray.size_append,ByteArray.size_append];omega
        refine x_q [(0,.dec true)] [3,9,23,24,25,35,36,49,50,51,52] [3,60007] [_] ⟨h5,trivial⟩ (Zab (Zal (Zfk (Zbr (Zab (Zal (Zbl ?_)))))))
        refine xQ [] [3,9,12,23,24,25,35,36,49,50,51] [3,60007] [(0:Int)≤t51∧t51<(v_6.length:Int)] ⟨⟨om,om⟩,trivial⟩ ?_
        refine x_q [(2,.call [(true,.any),(true,.any)] true (Sv (Zch (at_ v_6 t51.toNat) b_7))),(3,.bw 3 60007 60006 (.string (Zch (at_ v_6 t51.toNat) b_7)) false (Zch (at_ v_6 t51.toNat) b_7))] [3,9,23,24,25,35,36,49,50,51] [3,60006] [_∧True,([.ref 3 0,Sv (Zch (at_ v_6 t51.toNat) b_7)]:List AV)=[.ref 3 0,Sv (Zch (at_ v_6 t51.toNat) b_7)]∧Zuu Tryd.prog 26 63 5 (.string (Zch (at_ v_6 t51.toNat) b_7)) false tx3 false (Zch (at_ v_6 t51.toNat) b_7)] ⟨⟨(Zie (at_ v_6 t51.toNat) b_7 om om),trivial⟩,⟨rfl,Zmx (by have hs2_:=Zbk [(0:Int),0];(try simp only [ByteArray.size_append,Zbk,List.length_cons,List.length_nil]);(try (rw [ByteArray.size_append] at hcz));omega)⟩,trivial⟩ (Zbs 5 (Zab ?_))
        refine x_r [] [3,9,23,24,25,35,36,49,50,51] [3,60006] [.ref 3 0,I b_7,Zaj false ik.Strokes,I (ik.Strokes.length:Int),I t25,Zas v_1,I (2:Int),slI true v_6,I (v_6.length:Int),I (t51+1)] [some (.bld 63 60006),some (.buf 5 false (tx3++(Zch (at_ v_6 t51.toNat) b_7)))] [inR .i64 (t51+1)] ⟨(Zad om om),trivial⟩ ?_
        refine Zcm [(60007,60006)] (T:=[(3,.ref 3 0),(9,I b_7),(23,Zaj false ik.Strokes),(24,I (ik.Strokes.length:Int)),(25,I t25),(35,Zas v_1),(36,I (2:Int)),(49,slI true v_6),(50,I (v_6.length:Int)),(51,I (t51+1))]) (O:=[(3,.bld 63 60007),(60007,.buf 5 false (tx3++(Zch (at_ v_6 t51.toNat) b_7)))]) rfl (⟨.inl rfl,.inl rfl,.inl rfl,.inl rfl,.inl rfl,.inl rfl,.inl rfl,.inl rfl,.inl rfl,.inl rfl,trivial⟩) (⟨.inl rfl,.inl rfl,trivial⟩) (Zbt ((t51+1),(tx3++(Zch (at_ v_6 t51.toNat) b_7))) rfl (show (0≤(t51+1)∧(t51+1)≤(v_6.length:Int))∧((tx3++(Zch (at_ v_6 t51.toNat) b_7))=(tx2++Zci b_7 4)++riC v_6 b_7 (t51+1).toNat)∧True from ⟨om,(by (rw [hjj,riC,←ByteArray.append_assoc,←htx3])),trivial⟩) (by first|(show (((v_6.length:Int)-(t51+1)).toNat:Nat)<((v_6.length:Int)-t51).toNat;omega)|(dsimp only;omega)))
       have hje:t51.toNat=v_6.length:=by omega
       rw [hje] at htx3
       have htx4:=htx3
       rw [ByteArray.append_assoc,hcolb] at htx4
       have htz4:tx3.size≤tx2.size+4+52*60:=by rw [htx3,ByteArray.size_append,ByteArray.size_append];omega
       refine x_r [(0,.dec false)] [3,9,23,24,25,35,36,49,50,51,52] [3,60007] [.ref 3 0,I b_7,Zaj false ik.Strokes,I (ik.Strokes.length:Int),I t25,Zas v_1,I (2:Int),slI true v_6,I (v_6.length:Int),I t51,Bv false] [some (.bld 63 60007),some (.buf 5 false tx3)] [_] ⟨h5,trivial⟩ (Zab (Zal (Zcu rfl (Zdz (Zba ?_)))))
       refine Zbb ?_
       refine Zbc (Zbs 3 (Zab ?_))
       refine x_r [] [3,23,24,25,35,36] [3,60007] [.ref 3 0,Zaj false ik.Strokes,I (ik.Strokes.length:Int),I t25,Zas v_1,I ((2:Int)+1)] [some (.bld 63 60007),some (.buf 5 false tx3)] [inR .i64 ((2:Int)+1)] ⟨(Zad om om),trivial⟩ ?_
       refine Zcm [(60006,60007)] (T:=[(3,.ref 3 0),(23,Zaj false ik.Strokes),(24,I (ik.Strokes.length:Int)),(25,I t25),(35,Zas v_1),(36,I ((2:Int)+1))]) (O:=[(3,.bld 63 60006),(60006,.buf 5 false tx3)]) rfl (⟨.inl rfl,.inl rfl,.inl rfl,.inl rfl,.inl rfl,.inl rfl,trivial⟩) (⟨.inl rfl,.inl rfl,trivial⟩) (Zbt (((2:Int)+1),tx3) rfl (show (0≤((2:Int)+1)∧((2:Int)+1)≤3)∧(tx3=Zgs ik.Strokes t25.toNat++pcB (at_ ik.Strokes t25.toNat) ((2:Int)+1).toNat)∧True from ⟨om,(by (rw [htx4,htx2,ByteArray.append_assoc];rfl)),trivial⟩) (by first|(show (((3:Int)-((2:Int)+1)).toNat:Nat)<((3:Int)-t36).toNat;omega)|(dsimp only;omega)))
     have h3e:t36.toNat=3:=by omega
     refine x_r [(0,.dec false)] [3,23,24,25,35,36,37] [3,60006] [.ref 3 0,Zaj false ik.Strokes,I (ik.Strokes.length:Int),I t25,Zas v_1,I t36,Bv false] [some (.bld 63 60006),some (.buf 5 false tx2)] [_] ⟨h2,trivial⟩ (Zab (Zal (Zcu rfl (Zdz (Zba ?_)))))
     refine Zbb ?_
     refine Zbc (Zbs 1 (Zab ?_))
     refine x_r [] [3,23,24,25] [3,60006] [.ref 3 0,Zaj false ik.Strokes,I (ik.Strokes.length:Int),I (t25+1)] [some (.bld 63 60006),some (.buf 5 false tx2)] [inR .i64 (t25+1)] ⟨(Zad om om),trivial⟩ ?_
     refine Zcm [(60007,60006)] (T:=[(3,.ref 3 0),(23,Zaj false ik.Strokes),(24,I (ik.Strokes.length:Int)),(25,I (t25+1))]) (O:=[(3,.bld 63 60007),(60007,.buf 5 false tx2)]) rfl (⟨.inl rfl,.inl rfl,.inl rfl,.inl rfl,trivial⟩) (⟨.inl rfl,.inl rfl,trivial⟩) (Zbt ((t25+1),tx2) rfl (show (0≤(t25+1)∧(t25+1)≤(ik.Strokes.length:Int))∧(tx2=Zgs ik.Strokes (t25+1).toNat)∧True from ⟨om,(by (rw [hii,Zgs,htx2,h3e,←htx];rfl)),trivial⟩) (by first|(show (((ik.Strokes.length:Int)-(t25+1)).toNat:Nat)<((ik.Strokes.length:Int)-t25).toNat;omega)|(dsimp only;omega)))
    have hie:t25.toNat=ik.Strokes.length:=by omega
    rw [hie] at htx
    have hob:=Zte hok h6
    rw [←htx] at hob
    have hiz:=Zhg (Zky hok) ik.Strokes.length (Nat.le_refl _)
    rw [←htx] at hiz
    refine x_r [(0,.dec false)] [3,23,24,25,26] [3,60007] [.ref 3 0,Zaj false ik.Strokes,I (ik.Strokes.length:Int),I t25,Bv false] [some (.bld 63 60007),some (.buf 5 false tx)] [_] ⟨h1,trivial⟩ (Zab (Zal (Zcu rfl (Zdz (Zba ?_)))))
    refine Zbb ?_
    refine Zbc (Zab (Zal ?_))
    obtain ⟨v_8,c_8,hx8_0,hx8_1,hc8⟩:=Zrx tx hob
    have hpk:=hx8_0
    have hpz:=hpk.1
    have hckb:0≤ckA (⟨#[73,75]⟩++v_8)∧ckA (⟨#[73,75]⟩++v_8)<65521:=Zoz _ _
    have hcz:((⟨#[73,75]⟩:ByteArray)++v_8).size≤12000:=by rw [ByteArray.size_append];show 2+_≤_;omega
    refine x_q [(0,.bs 3 60007),(1,.call [(true,.any)] true (.tup [Sv v_8,I c_8]))] [13] [] [([.ref 3 0]:List AV)=[.ref 3 0]∧BsOK Tryd.prog 33 63 5,_∧True] ⟨⟨rfl,bs_ok⟩,⟨hc8,trivial⟩,trivial⟩ (Zab ?_)
    refine xQ [] [15] [] [(⟨#[73,75]⟩:ByteArray).size+v_8.size≤9223372036854775807] ⟨(by have hs2_:=Zbk [(0:Int),0];(try simp only [ByteArray.size_append,Zbk,List.length_cons,List.length_nil]);(try (rw [ByteArray.size_append] at hcz));omega),trivial⟩ ?_
    refine xQ [(1,.call [(true,.any)] true (I (ckA ((⟨#[73,75]⟩:ByteArray)++v_8))))] [15,16] [] [_∧True] ⟨⟨(Zgd ((⟨#[73,75]⟩:ByteArray)++v_8) om),trivial⟩,trivial⟩ ?_
    refine xR [(3,.wrap),(5,.wrap),(6,.new 77),(7,.as (Sv (Zgt ([IntKind.u8.wrap ((ckA ((⟨#[73,75]⟩:ByteArray)++v_8))/256),IntKind.u8.wrap (ckA ((⟨#[73,75]⟩:ByteArray)++v_8))]))))] [2] [] [Sv (((⟨#[73,75]⟩:ByteArray)++v_8)++(Zgt ([IntKind.u8.wrap ((ckA ((⟨#[73,75]⟩:ByteArray)++v_8))/256),IntKind.u8.wrap (ckA ((⟨#[73,75]⟩:ByteArray)++v_8))])))] [] [(0:Int)≤8∧(8:Int)≤((IntKind.bits .i64:Nat):Int),(Zgt ([IntKind.u8.wrap ((ckA ((⟨#[73,75]⟩:ByteArray)++v_8))/256),IntKind.u8.wrap (ckA ((⟨#[73,75]⟩:ByteArray)++v_8))])).size=2∧∀i_,i_<2→(Ziq [.val (.int .u8 (IntKind.u8.wrap ((ckA ((⟨#[73,75]⟩:ByteArray)++v_8))/256))),.val (.int .u8 (IntKind.u8.wrap (ckA ((⟨#[73,75]⟩:ByteArray)++v_8))))] 1) i_=Zfi (Zgt ([IntKind.u8.wrap ((ckA ((⟨#[73,75]⟩:ByteArray)++v_8))/256),IntKind.u8.wrap (ckA ((⟨#[73,75]⟩:ByteArray)++v_8))])) i_,((⟨#[73,75]⟩:ByteArray)++v_8).size+(Zgt ([IntKind.u8.wrap ((ckA ((⟨#[73,75]⟩:ByteArray)++v_8))/256),IntKind.u8.wrap (ckA ((⟨#[73,75]⟩:ByteArray)++v_8))])).size≤9223372036854775807] ⟨⟨(by decide),(by decide)⟩,(Ztj (fun x h_=>u8_two h_) (by first|rfl|(simp;done)|(simp;omega)|omega) (fun i_ hi_=> .inl (match i_,hi_ with|0,_=>rfl|1,_=>rfl|(i+2),h=>absurd h (by simp)))),(by have hs2_:=Zbk [(0:Int),0];(try simp only [ByteArray.size_append,Zbk,List.length_cons,List.length_nil]);(try (rw [ByteArray.size_append] at hcz));omega),trivial⟩ (Zcw ?_)
    refine Zbw (((⟨#[73,75]⟩:ByteArray)++v_8)++(Zgt ([IntKind.u8.wrap ((ckA ((⟨#[73,75]⟩:ByteArray)++v_8))/256),IntKind.u8.wrap (ckA ((⟨#[73,75]⟩:ByteArray)++v_8))]))) (show (Zlk ik (((⟨#[73,75]⟩:ByteArray)++v_8)++(Zgt ([IntKind.u8.wrap ((ckA ((⟨#[73,75]⟩:ByteArray)++v_8))/256),IntKind.u8.wrap (ckA ((⟨#[73,75]⟩:ByteArray)++v_8))]))))∧(((((⟨#[73,75]⟩:ByteArray)++v_8)++(Zgt ([IntKind.u8.wrap ((ckA ((⟨#[73,75]⟩:ByteArray)++v_8))/256),IntKind.u8.wrap (ckA ((⟨#[73,75]⟩:ByteArray)++v_8))]))).size:Int)≤12500)∧(True) from ⟨(by exact ⟨_,by rw [←htx];exact hpk,rfl⟩),(by (rw [ByteArray.size_append] at hcz⊢;simp only [ByteArray.size_append,Zbk,List.length_cons,List.length_nil];omega)),trivial⟩) (trivial) (Sv (((⟨#[73,75]⟩:ByteArray)++v_8)++(Zgt ([IntKind.u8.wrap ((ckA ((⟨#[73,75]⟩:ByteArray)++v_8))/256),IntKind.u8.wrap (ckA ((⟨#[73,75]⟩:ByteArray)++v_8))])))) (by kernel_rfl) (.inl rfl) (fun _=>rfl) (fun _=>trivial)
  obtain ⟨v,⟨hh0,hh1,_⟩,hc⟩:=hh
  exact ⟨v,hh0,hh1,hc⟩
theorem Zun (a b:ByteArray):(a++b).toList=a.toList++b.toList:=by
 rw [Lib.toList_data,Lib.toList_data,Lib.toList_data,ByteArray.data_append,Array.toList_append]
theorem ba_inj {a b:ByteArray} (h:a.toList=b.toList):a=b:=by
 rw [Lib.toList_data,Lib.toList_data] at h
 cases a;cases b
 simp only [ByteArray.mk.injEq]
 exact Array.toList_inj.1 h
def Ztp (w t:ByteArray):Bool:=decide (t.size≤w.size∧w.extract 0 t.size=t)
theorem Zmr {w t:ByteArray} :Ztp w t=true↔∃u:ByteArray,w=t++u:=by
 unfold Ztp
 rw [decide_eq_true_eq]
 have ex:∀a b:Nat,(w.extract a b).toList=(w.data.toList.drop a).take (b-a):=fun a b=>by rw [Lib.toList_data];simp [ByteArray.data_extract,Array.toList_extract,List.extract_eq_take_drop]
 constructor
 ·rintro ⟨h1,h2⟩
  refine ⟨w.extract t.size w.size,ba_inj ?_⟩
  rw [Zun]
  conv=>rhs;rw [←h2]
  rw [ex,ex,Lib.toList_data,h2,Nat.sub_zero,List.drop_zero]
  have:(w.data.toList.drop t.size).take (w.size-t.size)=w.data.toList.drop t.size:=List.take_of_length_le (by rw [List.length_drop];exact Nat.le_refl _)
  rw [this,List.take_append_drop]
 ·rintro ⟨u,rfl⟩
  refine ⟨by rw [ByteArray.size_append];omega,ba_inj ?_⟩
  rw [Lib.toList_data,ByteArray.data_extract,Array.toList_extract,List.extract_eq_take_drop,ByteArray.data_append,Array.toList_append,List.drop_zero,Nat.sub_zero,List.take_append_of_le_length (by exact Nat.le_refl _),List.take_of_length_le (by exact Nat.le_refl _),Lib.toList_data]
theorem Zxm {u v:Int} (hu:0≤u∧u≤255) (hv:0≤v∧v≤255) (h:∀i,i<8→Zor u i=Zor v i):u=v:=by
 have h0:=h 0 om
 have h1:=h 1 om
 have h2:=h 2 om
 have h3:=h 3 om
 have h4:=h 4 om
 have h5:=h 5 om
 have h6:=h 6 om
 have h7:=h 7 om
 unfold Zor at h0 h1 h2 h3 h4 h5 h6 h7
 simp at h0 h1 h2 h3 h4 h5 h6 h7
 omega
theorem pk_uniq {b p q:ByteArray} (hp:Zsd b p) (hq:Zsd b q):p=q:=by
 have e:p.size=q.size:=hp.1.trans hq.1.symm
 refine Zms e fun j hj=>Zxm (Zew p j) (Zew q j) fun i hi=> ?_
 rw [hp.2 j om i hi,hq.2 j hj i hi]
theorem Zeq (p:ByteArray):(Zez p).size=p.size+4:=by
 unfold Zez
 rw [ByteArray.size_append,ByteArray.size_append,Zbk]
 show 2+p.size+2=_
 omega
theorem Zpa {s:ByteArray} {n i:Nat} (h:i<n) (hn:n≤s.size):bAt (s.extract 0 n) i=bAt s i:=Ztk h hn
theorem Zsc (p:ByteArray):(Zez p).extract 0 (p.size+2)=hdI++p:=by
 have e:(hdI++p).size=p.size+2:=by rw [ByteArray.size_append];show 2+_=_;omega
 rw [←e]
 refine pre_eq (by rw [Zeq,e];omega) fun j hj=> ?_
 unfold Zez
 rw [Zcx hj]
theorem Zvb (p:ByteArray):Ztp (Zez p) hdI=true:=Zmr.2 ⟨p++Zgt [IntKind.u8.wrap (ckA (hdI++p)/256),IntKind.u8.wrap (ckA (hdI++p))],by unfold Zez;rw [ByteArray.append_assoc]⟩
theorem Zva (p:ByteArray):bAt (Zez p) (p.size+2)*256+bAt (Zez p) (p.size+3)=ckA (hdI++p):=by
 have e:(hdI++p).size=p.size+2:=by rw [ByteArray.size_append];show 2+_=_;omega
 have b:=Zoz (hdI++p) (hdI++p).size
 have b2:0≤ckA (hdI++p)∧ckA (hdI++p)<65521:=b
 have u1:=Zvd (ckA (hdI++p)/256)
 have u2:=Zvd (ckA (hdI++p))
 have e1:bAt (Zez p) (p.size+2)=IntKind.u8.wrap (ckA (hdI++p)/256):=by
  unfold Zez
  rw [Zda om,e,Nat.sub_self]
  exact Zjc (xs:=[IntKind.u8.wrap (ckA (hdI++p)/256),IntKind.u8.wrap (ckA (hdI++p))]) (i:=0) (Nat.zero_lt_succ _) u1
 have e2:bAt (Zez p) (p.size+3)=IntKind.u8.wrap (ckA (hdI++p)):=by
  unfold Zez
  rw [Zda om,e,show p.size+3-(p.size+2)=1 from by omega]
  exact Zjc (xs:=[IntKind.u8.wrap (ckA (hdI++p)/256),IntKind.u8.wrap (ckA (hdI++p))]) (i:=1) (Nat.lt_succ_self _) u2
 rw [e1,e2,u8_is om]
 have:IntKind.u8.wrap (ckA (hdI++p))=ckA (hdI++p) % 256:=u8_mod _
 omega
theorem Zjs {x:Ink} (hok:Zbg x=true) (h6:(x.Strokes.length:Int)≤6) {p:ByteArray} (hp:Zsd (Zgs x.Strokes x.Strokes.length) p):sAt (Zir p p.size) 0 (Zgs x.Strokes x.Strokes.length)∧Zdn (Zir p p.size)=true∧1≤p.size∧p.size≤8000:=by
 have ob:=Zte hok h6
 have u:=unp_pack ob hp
 have z:=Zhg (Zky hok) x.Strokes.length (Nat.le_refl _)
 have hz:=hp.1
 refine ⟨⟨by rw [u.1];omega,fun j hj=>by rw [Nat.zero_add];exact u.2 j hj⟩,Zcy.2 ⟨by rw [u.1];omega,fun j hj=> ?_⟩,by omega,by omega⟩
 rw [Zde] at hj
 have w:=Zis (s:=p) (k:=p.size) (j:=j/8) (i:=j % 8) om om
 rw [show 8*(j/8)+j % 8=j from by omega] at w
 rw [w]
 have v:Zor (bAt p (j/8)) (j % 8)=0∨Zor (bAt p (j/8)) (j % 8)=1:=by
  rw [hp.2 (j/8) om (j % 8) om]
  split
  ·exact .inr rfl
  ·exact .inl rfl
 omega
theorem Zpc (ik:Ink) (hok:Zbg ik=true) (h6:(ik.Strokes.length:Int)≤6):∃(v:ByteArray) (c:Int),(Zlk ik v)∧((v.size:Int)≤12500)∧(c=0)∧Con Tryd.prog 6 [.agg [Zaj false ik.Strokes]] true (.tup [Sv v,I c]):=by
 have hh:∃r:ByteArray×Int,((Zlk ik r.1)∧((r.1.size:Int)≤12500)∧(r.2=0)∧(True))∧Zao Tryd.prog 6 [.agg [Zaj false ik.Strokes]] (Zac []) true (.tup [Sv r.1,I r.2]) (Zac []):=by
  refine Zdt (Φ:=fun r:ByteArray×Int=>(Zlk ik r.1)∧((r.1.size:Int)≤12500)∧(r.2=0)∧(True)) [] (fun r=>[]) (fn:=Tryd.f6) (nt:=9) Tryd.func6 rfl rfl (args:=[.agg [Zaj false ik.Strokes]]) rfl (Zca (.inl ⟨rfl,by simp [Zah,Zae,Zcz]⟩) Zdu) (res:=fun r=> .tup [Sv r.1,I r.2]) ?_
  refine xQ [(0,.new 1)] [1] [1] [] trivial (Zal ?_)
  refine xQ [(1,.call [(true,.any)] true (Bv true))] [1,6] [1] [Con Tryd.prog 13 [.agg [Zaj false ik.Strokes]] true (Bv true)∧True] ⟨⟨(Zbd hok (Zgf ik)),trivial⟩,trivial⟩ (Zjn (Zbr (Zab (Zal ?_))))
  obtain ⟨v_1,hx1_0,hx1_1,hc1⟩:=Zjg ik hok h6
  have hen:=hx1_0
  have hez:=hx1_1
  refine x_r [(1,.call [(true,.any)] true (Sv v_1))] [2,3] [] [Sv v_1,I 0] [] [_∧True] ⟨⟨hc1,trivial⟩,trivial⟩ (Zab (Zcw ?_))
  refine Zbw (v_1,0) (show (Zlk ik v_1)∧((v_1.size:Int)≤12500)∧(0=0)∧(True) from ⟨(by exact hen),(by exact hez),(by rfl),trivial⟩) (trivial) (.tup [Sv v_1,I 0]) (by kernel_rfl) (.inl rfl) (fun _=>rfl) (fun _=>(by simp [Zah,Zae]))
 obtain ⟨⟨v,c⟩,⟨hh0,hh1,hh2,_⟩,hc⟩:=hh
 exact ⟨v,c,hh0,hh1,hh2,hc⟩
def Zdo (code:List Int) (i n:Int):Int:=if (code.length:Int)≤i∨n<1 then 0 else at_ code i.toNat % n
theorem Zve (code:List Int) (i:Int) {n:Int} (hn:1≤n):0≤Zdo code i n∧Zdo code i n<n:=by
 unfold Zdo
 split
 ·omega
 ·exact ⟨Int.emod_nonneg _ om,Int.emod_lt_of_pos _ om⟩
theorem Zvf (code:List Int) (i:Int) (n:Int) (hc:(∀j,j<code.length→0≤at_ code j∧at_ code j≤255)) (ha:0≤i):Con Tryd.prog 7 [Zgq false code,I i,I n] true (I (Zdo code i n)):=by
  refine Zej (fn:=Tryd.f7) (nt:=22) Tryd.func7 rfl rfl rfl rfl (by simp [Zae,Zah,Zcv]) fun B hB=> ?_
  refine Zfe (x:=Zgq false code) 0 rfl (fun len_code=> ?_)
  simp [Zhp,Zot,cU8,fU8,Zgq] at len_code
  refine aQ [] [0,1,2] [] [] hB trivial (Zan (Zan ?_))
  by_cases h1:(code.length:Int)≤i
  ·refine Zdk [(3,.dec true)] [0,1,2,14] [] [_] hB ⟨h1,trivial⟩ (Zaf (Zdr ?_))
   refine aR [] [6] [] [I 0] [] [] hB trivial (Zat (Zak ?_))
   refine Zau hB (I 0) (by kernel_rfl) (.inl (by simp [Zdo, *])) rfl (fun _=>trivial)
  have hq:=hc i.toNat om
  by_cases h2:n<1
  ·refine Zdk [(3,.dec false),(6,.dec true)] [0,1,2,14] [] [_,_] hB ⟨h1,h2,trivial⟩ (Zaf (Zdr ?_))
   refine aR [] [6] [] [I 0] [] [] hB trivial (Zat (Zak ?_))
   refine Zau hB (I 0) (by kernel_rfl) (.inl (by simp [Zdo, *])) rfl (fun _=>trivial)
  refine Zdk [(3,.dec false),(6,.dec false)] [0,1,2,14] [] [_,_] hB ⟨h1,h2,trivial⟩ (Zaf (Zdm (Zbu (Zaf ?_))))
  refine aR [(6,.nn)] [6] [] [I ((at_ code i.toNat) % n)] [] [(0:Int)≤i∧i<(code.length:Int),inR .i64 (at_ code i.toNat),(0:Int)≤(at_ code i.toNat)∧(0:Int)<n] hB ⟨⟨om,om⟩,(Zad om om),⟨om,om⟩,trivial⟩ (Zat ?_)
  refine Zau hB (I ((at_ code i.toNat) % n)) (by kernel_rfl) (.inl (by simp [Zdo, *])) rfl (fun _=>trivial)
theorem Zry (s:ByteArray) (pre:ByteArray) (hz:s.size≤1000000∧pre.size≤1000000):Con Tryd.prog 34 [Sv s,Sv pre] true (Bv (Ztp s pre)):=by
  refine Zej (fn:=Tryd.f34) (nt:=18) Tryd.func34 rfl rfl rfl rfl (by simp [Zae,Zah]) fun B hB=> ?_
  refine aQ [] [0,1] [] [] hB trivial (Zan ?_)
  by_cases h1:(pre.size:Int)≤(s.size:Int)
  ·refine Zit [(4,.dec true)] [4] [] [Bv (decide ((s.extract 0 (pre.size:Int).toNat)=pre))] [] [_,(0:Int)≤0∧(0:Int)≤(pre.size:Int)∧(pre.size:Int)≤(s.size:Int)] hB ⟨h1,⟨om,om,om⟩,trivial⟩ (Zaf (Zat ?_))
   refine Zau hB (Bv (decide ((s.extract 0 (pre.size:Int).toNat)=pre))) (by kernel_rfl) (.inl (by refine congrArg Bv ?_;unfold Ztp;first|exact decide_eq_decide.2 ⟨fun q=>⟨by omega,q⟩,fun q=>q.2⟩|(symm;exact decide_eq_false (fun q=>by have:=q.1;omega))|(symm;exact decide_eq_true (by simp_all;omega))|(symm;exact decide_eq_false (by simp_all))|(symm;exact decide_eq_false om)|(simp [*];done)|(simp_all;done))) rfl (fun _=>trivial)
  refine Zit [(4,.dec false)] [4] [] [Bv false] [] [_] hB ⟨h1,trivial⟩ (Zaf (Zat ?_))
  refine Zau hB (Bv false) (by kernel_rfl) (.inl (by refine congrArg Bv ?_;unfold Ztp;first|exact decide_eq_decide.2 ⟨fun q=>⟨by omega,q⟩,fun q=>q.2⟩|(symm;exact decide_eq_false (fun q=>by have:=q.1;omega))|(symm;exact decide_eq_true (by simp_all;omega))|(symm;exact decide_eq_false (by simp_all))|(symm;exact decide_eq_false om)|(simp [*];done)|(simp_all;done))) rfl (fun _=>trivial)
theorem Zox (s:ByteArray) (prefix_:ByteArray) (hz:s.size≤1000000∧prefix_.size≤1000000):Con Tryd.prog 15 [Sv s,Sv prefix_] true (Bv (Ztp s prefix_)):=by
 refine Zej (fn:=Tryd.f15) (nt:=8) Tryd.func15 rfl rfl rfl rfl (by simp [Zae,Zah]) fun B hB=> ?_
 refine aQ [] [0,1] [] [] hB trivial ?_
 refine aR [(2,.call [(true,.any),(true,.any)] true (Bv (Ztp s prefix_)))] [4] [] [Bv (Ztp s prefix_)] [] [_∧True] hB ⟨⟨(Zry s prefix_ om),trivial⟩,trivial⟩ (Zat ?_)
 refine Zau hB (Bv (Ztp s prefix_)) (by kernel_rfl) (.inl rfl) rfl (fun _=>trivial)
theorem Zmq (s:ByteArray) (hs:s.size≤12500):∃(v:ByteArray) (c:Int),(v=Zir s s.size)∧(c=0)∧Con Tryd.prog 17 [Sv s] true (.tup [Sv v,I c]):=by
  have hh:∃r:ByteArray×Int,((r.1=Zir s s.size)∧(r.2=0)∧(True))∧Zao Tryd.prog 17 [Sv s] (Zac []) true (.tup [Sv r.1,I r.2]) (Zac []):=by
    refine Zdt (Φ:=fun r:ByteArray×Int=>(r.1=Zir s s.size)∧(r.2=0)∧(True)) [] (fun r=>[]) (fn:=Tryd.f17) (nt:=23) Tryd.func17 rfl rfl (args:=[Sv s]) rfl (Zca (.inl ⟨rfl,trivial⟩) Zdu) (res:=fun r=> .tup [Sv r.1,I r.2]) ?_
    refine xQ [] [0] [] [] trivial (Zal ?_)
    refine xQ [(2,.dec false)] [0,9] [] [¬ (12500<(s.size:Int))] ⟨om,trivial⟩ (Zjn (Zbr (Zab ?_)))
    refine xQ [(0,.newb 4 60008 5)] [0,4] [4,60008] [] trivial (Zal ?_)
    refine xR [] [4,11,12,13] [4,60008] [.ref 4 0,.sl true 1 s.size (Zfi s),I (s.size:Int),I 0] [some (.bld 63 60008),some (.buf 5 false (⟨#[]⟩:ByteArray))] [s.size≤140737488355328] ⟨om,trivial⟩ (Zbl ?_)
    refine Zee (X:=Int×ByteArray) (fun x=>mkS [(4,.ref 4 0),(11,.sl true 1 s.size (Zfi s)),(12,I (s.size:Int)),(13,I x.1)] [(4,.bld 63 60008),(60008,.buf 5 false x.2)]) (fun x=>(0≤x.1∧x.1≤(s.size:Int))∧(x.2=Zir s x.1.toNat)∧True) (fun x=>((s.size:Int)-x.1).toNat) (0,(⟨#[]⟩:ByteArray)) rfl (show (0≤(0:Int)∧(0:Int)≤(s.size:Int))∧((⟨#[]⟩:ByteArray)=Zir s (0:Int).toNat)∧True from ⟨om,(by rfl),trivial⟩) (fun x hI=> ?_)
    obtain ⟨k,tx⟩:=x
    obtain ⟨hi0,htx,_⟩:(0≤k∧k≤(s.size:Int))∧(tx=Zir s k.toNat)∧True:=hI
    show XW _ _ _ _ (mkS [(4,.ref 4 0),(11,.sl true 1 s.size (Zfi s)),(12,I (s.size:Int)),(13,I k)] [(4,.bld 63 60008),(60008,.buf 5 false tx)]) _ _
    refine Zal ?_
    by_cases h1:k<(s.size:Int)
    ·have hi:k.toNat<s.size:=by omega
     have hbb:=bAt_bd s k.toNat
     have hus:=Zde s k.toNat
     have hns:=Zbe (bAt s k.toNat) 8
     rw [←htx] at hus
     refine x_q [(0,.dec true)] [4,11,12,13,14] [4,60008] [_] ⟨h1,trivial⟩ (Zab (Zal (Zfk (Zbr (Zab (Zal (Zbl ?_)))))))
     refine xQ [] [4,6,11,12,13] [4,60008] [(0:Int)≤k∧k<(s.size:Int)] ⟨⟨om,om⟩,trivial⟩ ?_
     refine x_q [(2,.call [(true,.any),(true,.any)] true (Sv (Zci (bAt s k.toNat) 8))),(3,.bw 4 60008 60009 (.string (Zci (bAt s k.toNat) 8)) false (Zci (bAt s k.toNat) 8))] [4,11,12,13] [4,60009] [inR .i64 (bAt s k.toNat),_∧True,([.ref 4 0,Sv (Zci (bAt s k.toNat) 8)]:List AV)=[.ref 4 0,Sv (Zci (bAt s k.toNat) 8)]∧Zuu Tryd.prog 26 63 5 (.string (Zci (bAt s k.toNat) 8)) false tx false (Zci (bAt s k.toNat) 8)] ⟨(Zad om om),⟨(Zcs (bAt s k.toNat) 8 om om),trivial⟩,⟨rfl,Zmx om⟩,trivial⟩ (Zbs 1 (Zab ?_))
     refine x_r [] [4,11,12,13] [4,60009] [.ref 4 0,.sl true 1 s.size (Zfi s),I (s.size:Int),I (k+1)] [some (.bld 63 60009),some (.buf 5 false (tx++(Zci (bAt s k.toNat) 8)))] [inR .i64 (k+1)] ⟨(Zad om om),trivial⟩ ?_
     refine Zcm [(60008,60009)] (T:=[(4,.ref 4 0),(11,.sl true 1 s.size (Zfi s)),(12,I (s.size:Int)),(13,I (k+1))]) (O:=[(4,.bld 63 60008),(60008,.buf 5 false (tx++(Zci (bAt s k.toNat) 8)))]) rfl (⟨.inl rfl,.inl rfl,.inl rfl,.inl rfl,trivial⟩) (⟨.inl rfl,.inl rfl,trivial⟩) (Zbt ((k+1),(tx++(Zci (bAt s k.toNat) 8))) rfl (show (0≤(k+1)∧(k+1)≤(s.size:Int))∧((tx++(Zci (bAt s k.toNat) 8))=Zir s (k+1).toNat)∧True from ⟨om,(by rw [show (k+1).toNat=k.toNat+1 from by omega,Zir,←htx]),trivial⟩) (by first|(show (((s.size:Int)-(k+1)).toNat:Nat)<((s.size:Int)-k).toNat;omega)|(dsimp only;omega)))
    have hie:k.toNat=s.size:=by omega
    rw [hie] at htx
    refine x_r [(0,.dec false)] [4,11,12,13,14] [4,60008] [.ref 4 0,.sl true 1 s.size (Zfi s),I (s.size:Int),I k,Bv false] [some (.bld 63 60008),some (.buf 5 false tx)] [_] ⟨h1,trivial⟩ (Zab (Zal (Zcu rfl (Zdz (Zba ?_)))))
    refine Zbb ?_
    refine Zbc (Zab ?_)
    refine xR [(0,.bs 4 60008)] [2,3] [] [Sv tx,I 0] [] [([.ref 4 0]:List AV)=[.ref 4 0]∧BsOK Tryd.prog 33 63 5] ⟨⟨rfl,bs_ok⟩,trivial⟩ (Zcw ?_)
    refine Zbw (tx,0) (show (tx=Zir s s.size)∧(0=0)∧(True) from ⟨(by first|exact htx|rfl),(by first|exact htx|rfl),trivial⟩) (trivial) (.tup [Sv tx,I 0]) (by kernel_rfl) (.inl rfl) (fun _=>rfl) (fun _=>(by simp [Zah,Zae]))
  obtain ⟨⟨v,c⟩,⟨hh0,hh1,_⟩,hc⟩:=hh
  exact ⟨v,c,hh0,hh1,hc⟩
theorem Zdb (bits:ByteArray) (width:Int) (hb:∀j,j<width.toNat→bAt bits j=48∨bAt bits j=49) (hw:0≤width∧width≤40∧width≤(bits.size:Int)) (ok:bits.size≤9223372036854775807):Con Tryd.prog 35 [Sv bits,I width] true (I (rdN bits width.toNat)):=by
  refine Zej (fn:=Tryd.f35) (nt:=21) Tryd.func35 rfl rfl rfl rfl (by simp [Zae,Zah]) fun B hB=> ?_
  refine aQ [] [0,1] [] [] hB trivial ?_
  refine aQ [] [0,1,5] [] [] hB trivial (Zan ?_)
  refine aR [] [0,1,5,6] [] [Sv bits,I width,I 0,I 0] [] [] hB trivial (Zdi ?_)
  refine Zhw (fun gn gσ=>∃(n:Int) (k:Int),gn=(width-k).toNat∧(0≤k∧k≤width)∧(n=rdN bits k.toNat)∧(0≤n∧n<((2^k.toNat:Nat):Int))∧gσ=mkS [(0,Sv bits),(1,I width),(5,I n),(6,I k)] []) ((width-0).toNat) ⟨0,0,rfl,om,(by rw [show ((0:Int)).toNat=0 from rfl,rdN]),(by simp),rfl⟩ (fun gn gσ hI=> ?_)
  obtain ⟨n,k,rfl,hi0,hn1,hn2,rfl⟩:=hI
  refine Zan (Zan ?_)
  by_cases h1:k<width
  ·have hbk:=hb k.toNat om
   have he:(k+1).toNat=k.toNat+1:=by omega
   have hp40:2^k.toNat≤2^40:=Nat.pow_le_pow_right (by decide) om
   have hp41:((2^k.toNat:Nat):Int)≤1099511627776:=Int.ofNat_le.2 hp40
   refine Zdk [(2,.dec true)] [0,1,5,6,9] [] [_] hB ⟨h1,trivial⟩ (Zaf (Zdr (Zbu (Zaf (Zan (Zdi ?_))))))
   refine Zdk [] [0,1,5,6] [] [inR .i64 (2*n),(0:Int)≤k∧k<(bits.size:Int),inR .u8 ((bAt bits k.toNat)-48),inR .i64 ((bAt bits k.toNat)-48),inR .i64 ((2*n)+((bAt bits k.toNat)-48))] hB ⟨(Zad om om),⟨om,om⟩,(Zvg om om),(Zad om om),(Zad om om),trivial⟩ (Zfn 1 (Zaf ?_))
   refine Zit [] [0,1,5,6] [] [Sv bits,I width,I ((2*n)+((bAt bits k.toNat)-48)),I (k+1)] [] [inR .i64 (k+1)] hB ⟨(Zad om om),trivial⟩ ?_
   exact Zfo _ om ⟨((2*n)+((bAt bits k.toNat)-48)),(k+1),rfl,om,(by rw [he,rdN,←hn1]),(by rw [he,Nat.pow_succ];omega),rfl⟩
  have hie:k.toNat=width.toNat:=by omega
  refine Zdk [(2,.dec false)] [0,1,5,6,9] [] [_] hB ⟨h1,trivial⟩ (Zaf (Zdm (Zgg (Zbo (Zbo (Zcq (Zaf ?_)))))))
  refine aR [] [4] [] [I n] [] [] hB trivial (Zat ?_)
  refine Zau hB (I n) (by kernel_rfl) (.inl (by rw [hn1,hie])) rfl (fun _=>trivial)
theorem Zxn {s:ByteArray} {p k:Int} (hp:0≤p∧p≤(s.size:Int)) (hk:0≤k∧k≤12) (h:(Zbz s p k).2.2=0):p≤(Zbz s p k).2.1∧(Zbz s p k).2.1≤(s.size:Int):=by
 have o:0≤(Zdp s p.toNat 20:Int):=Int.natCast_nonneg _
 unfold Zbz at h⊢
 split at h
 ·split at h
  ·cases h
  ·split at h
   ·rename_i h1 h2 h3
    rw [if_pos h1,if_neg h2,if_pos h3]
    dsimp only
    omega
   ·cases h
 ·split at h
  ·cases h
  ·rename_i h1 h2
   rw [if_neg h1,if_neg h2]
   dsimp only
   omega
theorem rdN_w {s:ByteArray} (hok:Zdn s=true) {a w:Int} (hw:0≤w∧w≤8) (ha:0≤a∧a+w≤(s.size:Int)):0≤rdN (s.extract a.toNat s.size) w.toNat∧rdN (s.extract a.toNat s.size) w.toNat≤255:=by
 have q:=Zjm (s:=s.extract a.toNat s.size) (k:=w.toNat) fun j hj=>Zfs hok (a:=a.toNat) (w:=w.toNat) om j hj
 have e:((2^w.toNat:Nat):Int)≤256:=Int.ofNat_le.2 (Nat.pow_le_pow_right (n:=2) (by decide) (by omega:w.toNat≤8))
 omega
theorem Zmo (rd:reader) (width:Int) (hok:Zdn rd.bits=true) (hp:0≤rd.atx∧rd.atx≤(rd.bits.size:Int)) (hw:0≤width∧width≤8):∃(v:Int) (rd':reader),(0≤v∧v≤255)∧(v=0∨v=rdN (rd.bits.extract rd.atx.toNat rd.bits.size) width.toNat)∧(rd'.bits=rd.bits)∧(0≤rd'.atx∧rd'.atx≤(rd.bits.size:Int))∧(rd'.broken=false→rd.broken=false)∧Zao Tryd.prog 18 [.ref 7003 0,I width] (Zac [(7003,Zag rd)]) true (I v) (Zac [(7003,Zag rd')]):=by
  have hsz:=(Zcy.1 hok).1
  have hbx:=@Zfs rd.bits hok
  have hh:∃r:Int×reader,((0≤r.1∧r.1≤255)∧(r.1=0∨r.1=rdN (rd.bits.extract rd.atx.toNat rd.bits.size) width.toNat)∧(r.2.bits=rd.bits)∧(0≤r.2.atx∧r.2.atx≤(rd.bits.size:Int))∧(r.2.broken=false→rd.broken=false)∧(True))∧Zao Tryd.prog 18 [.ref 7003 0,I width] (Zac [(7003,Zag rd)]) true (I r.1) (Zac [(7003,Zag r.2)]):=by
    refine Zdt (Φ:=fun r:Int×reader=>(0≤r.1∧r.1≤255)∧(r.1=0∨r.1=rdN (rd.bits.extract rd.atx.toNat rd.bits.size) width.toNat)∧(r.2.bits=rd.bits)∧(0≤r.2.atx∧r.2.atx≤(rd.bits.size:Int))∧(r.2.broken=false→rd.broken=false)∧(True)) [(7003,Zag rd)] (fun r=>[(7003,Zag r.2)]) (fn:=Tryd.f18) (nt:=47) Tryd.func18 rfl rfl (args:=[.ref 7003 0,I width]) rfl (Zca (.inr trivial) (Zca (.inl ⟨rfl,trivial⟩) Zdu)) (res:=fun r=>I r.1) ?_
    refine xQ [] [0,1] [7003] [] trivial (Zal (Zal ?_))
    by_cases h1:rd.broken=true
    ·refine x_q [(3,.as (Bv true))] [0,1,23] [7003] [[Bv rd.broken]=[Bv true]] ⟨(show [Bv rd.broken]=[Bv true] from by rw [show rd.broken=true from h1]),trivial⟩ (Zab (Zfk ?_))
     refine xQ [] [] [7003] [] trivial ?_
     refine xR [] [4] [7003] [I 0] [some (.box [Sv rd.bits,I rd.atx,Bv true])] [] trivial (Zcw (Zar ?_))
     refine Zbw (0,(reader.mk rd.bits rd.atx true)) (show (0≤0∧0≤255)∧(0=0∨0=rdN (rd.bits.extract rd.atx.toNat rd.bits.size) width.toNat)∧((reader.mk rd.bits rd.atx true).bits=rd.bits)∧(0≤(reader.mk rd.bits rd.atx true).atx∧(reader.mk rd.bits rd.atx true).atx≤(rd.bits.size:Int))∧((reader.mk rd.bits rd.atx true).broken=false→rd.broken=false)∧(True) from ⟨(by first|exact ⟨Int.le_refl _,by decide⟩|exact hnb|(simp at*;exact hnb)),(by first|exact .inl rfl|exact .inr rfl|(right;simp;done)),(by rfl),(by (dsimp only;omega)),(by first|(intro q;have q2:true=false:=q;cases q2;done)|exact fun q=>q),trivial⟩) (⟨.inl rfl,trivial⟩) (I 0) (by kernel_rfl) (.inl rfl) (fun _=>rfl) (fun _=>trivial)
    by_cases h2:((rd.bits.size:Int)-rd.atx)<width
    ·refine x_q [(3,.as (Bv false)),(16,.dec true)] [0,1,23] [7003] [[Bv rd.broken]=[Bv false],inR .i64 ((rd.bits.size:Int)-rd.atx),_] ⟨(show [Bv rd.broken]=[Bv false] from by rw [show rd.broken=false from Bool.eq_false_iff.2 h1]),(Zad om om),h2,trivial⟩ (Zab (Zfk ?_))
     refine xQ [] [] [7003] [] trivial ?_
     refine xR [] [4] [7003] [I 0] [some (.box [Sv rd.bits,I rd.atx,Bv true])] [] trivial (Zcw (Zar ?_))
     refine Zbw (0,(reader.mk rd.bits rd.atx true)) (show (0≤0∧0≤255)∧(0=0∨0=rdN (rd.bits.extract rd.atx.toNat rd.bits.size) width.toNat)∧((reader.mk rd.bits rd.atx true).bits=rd.bits)∧(0≤(reader.mk rd.bits rd.atx true).atx∧(reader.mk rd.bits rd.atx true).atx≤(rd.bits.size:Int))∧((reader.mk rd.bits rd.atx true).broken=false→rd.broken=false)∧(True) from ⟨(by first|exact ⟨Int.le_refl _,by decide⟩|exact hnb|(simp at*;exact hnb)),(by first|exact .inl rfl|exact .inr rfl|(right;simp;done)),(by rfl),(by (dsimp only;omega)),(by first|(intro q;have q2:true=false:=q;cases q2;done)|exact fun q=>q),trivial⟩) (⟨.inl rfl,trivial⟩) (I 0) (by kernel_rfl) (.inl rfl) (fun _=>rfl) (fun _=>trivial)
    have hnb:=rdN_w hok hw (show 0≤rd.atx∧rd.atx+width≤(rd.bits.size:Int) by omega)
    refine x_q [(3,.as (Bv false)),(16,.dec false)] [0,1,23] [7003] [[Bv rd.broken]=[Bv false],inR .i64 ((rd.bits.size:Int)-rd.atx),_] ⟨(show [Bv rd.broken]=[Bv false] from by rw [show rd.broken=false from Bool.eq_false_iff.2 h1]),(Zad om om),h2,trivial⟩ (Zab (Zjn (Zbr (Zab ?_))))
    refine xQ [(10,.call [(true,.any),(true,.any)] true (I (rdN (rd.bits.extract rd.atx.toNat (rd.bits.size:Int).toNat) width.toNat)))] [0,1,5] [7003] [(0:Int)≤rd.atx∧rd.atx≤(rd.bits.size:Int)∧(rd.bits.size:Int)≤(rd.bits.size:Int),_∧True] ⟨⟨om,om,om⟩,⟨(Zdb (rd.bits.extract rd.atx.toNat (rd.bits.size:Int).toNat) width (hbx om) (by rw [Zct];omega) (by rw [Zct];omega)),trivial⟩,trivial⟩ ?_
    refine xQ [] [5] [7003] [inR .i64 (rd.atx+width)] ⟨(Zad om om),trivial⟩ ?_
    refine xR [] [4] [7003] [I (rdN (rd.bits.extract rd.atx.toNat (rd.bits.size:Int).toNat) width.toNat)] [some (.box [Sv rd.bits,I (rd.atx+width),Bv rd.broken])] [] trivial (Zcw ?_)
    refine Zbw ((rdN (rd.bits.extract rd.atx.toNat (rd.bits.size:Int).toNat) width.toNat),(reader.mk rd.bits (rd.atx+width) rd.broken)) (show (0≤(rdN (rd.bits.extract rd.atx.toNat (rd.bits.size:Int).toNat) width.toNat)∧(rdN (rd.bits.extract rd.atx.toNat (rd.bits.size:Int).toNat) width.toNat)≤255)∧((rdN (rd.bits.extract rd.atx.toNat (rd.bits.size:Int).toNat) width.toNat)=0∨(rdN (rd.bits.extract rd.atx.toNat (rd.bits.size:Int).toNat) width.toNat)=rdN (rd.bits.extract rd.atx.toNat rd.bits.size) width.toNat)∧((reader.mk rd.bits (rd.atx+width) rd.broken).bits=rd.bits)∧(0≤(reader.mk rd.bits (rd.atx+width) rd.broken).atx∧(reader.mk rd.bits (rd.atx+width) rd.broken).atx≤(rd.bits.size:Int))∧((reader.mk rd.bits (rd.atx+width) rd.broken).broken=false→rd.broken=false)∧(True) from ⟨(by first|exact ⟨Int.le_refl _,by decide⟩|exact hnb|(simp at*;exact hnb)),(by first|exact .inl rfl|exact .inr rfl|(right;simp;done)),(by rfl),(by (dsimp only;omega)),(by first|(intro q;have q2:true=false:=q;cases q2;done)|exact fun q=>q),trivial⟩) (⟨.inl rfl,trivial⟩) (I (rdN (rd.bits.extract rd.atx.toNat (rd.bits.size:Int).toNat) width.toNat)) (by kernel_rfl) (.inl rfl) (fun _=>rfl) (fun _=>trivial)
  obtain ⟨⟨v,rd'⟩,⟨hh0,hh1,hh2,hh3,hh4,_⟩,hc⟩:=hh
  exact ⟨v,rd',hh0,hh1,hh2,hh3,hh4,hc⟩
theorem Zdc (u:Int) (hu:0≤u∧u≤4294967296000):Con Tryd.prog 56 [I u] true (I (Zap u)):=by
  have htb:=Zxo (-(u+1)) 2
  refine Zej (fn:=Tryd.f56) (nt:=12) Tryd.func56 rfl rfl rfl rfl (by simp [Zae,Zah]) fun B hB=> ?_
  refine aQ [] [0] [] [] hB trivial (Zan (Zan ?_))
  by_cases h1:(u % 2)=1
  ·refine Zdk [(1,.nn),(2,.dec true)] [0,5] [] [(0:Int)≤u∧(0:Int)<2,_] hB ⟨⟨om,om⟩,h1,trivial⟩ (Zaf (Zdr ?_))
   refine aR [] [2] [] [I (Int.tdiv (-(u+1)) 2)] [] [inR .i64 (u+1),inR .i64 (-(u+1)),(2:Int)≠0∧inR .i64 (Int.tdiv (-(u+1)) 2)] hB ⟨(Zad om om),(Zad om om),⟨by omega,(Zad om om)⟩,trivial⟩ (Zat (Zak ?_))
   refine Zau hB (I (Int.tdiv (-(u+1)) 2)) (by kernel_rfl) (.inl (by simp [Zap, *])) rfl (fun _=>trivial)
  refine Zdk [(1,.nn),(2,.dec false)] [0,5] [] [(0:Int)≤u∧(0:Int)<2,_] hB ⟨⟨om,om⟩,h1,trivial⟩ (Zaf (Zdm (Zbu (Zaf ?_))))
  refine aR [(1,.nn)] [2] [] [I (u/2)] [] [(0:Int)≤u∧(0:Int)<2∧inR .i64 u] hB ⟨⟨om,om,(Zad om om)⟩,trivial⟩ (Zat ?_)
  refine Zau hB (I (u/2)) (by kernel_rfl) (.inl (by simp [Zap, *])) rfl (fun _=>trivial)
theorem Zcd (n:Int):Con Tryd.prog 57 [I n] true (Bv (Zjq n)):=by
 refine Zej (fn:=Tryd.f57) (nt:=5) Tryd.func57 rfl rfl rfl rfl (by simp [Zae,Zah]) fun B hB=> ?_
 refine aQ [] [0] [] [] hB trivial ?_
 refine aR [(1,.call [(true,.any),(true,.any),(true,.any)] true (Bv (inB n (-1000000000) 1000000000)))] [2] [] [Bv (inB n (-1000000000) 1000000000)] [] [_∧True] hB ⟨⟨(Zip n (-1000000000) 1000000000),trivial⟩,trivial⟩ (Zat ?_)
 refine Zau hB (Bv (inB n (-1000000000) 1000000000)) (by kernel_rfl) (.inl (by refine congrArg Bv ?_;simp [Zjq,inB])) rfl (fun _=>trivial)
set_option maxHeartbeats 2000000 in
theorem Zrz (bits:ByteArray) (p:Int) (k:Int) (ok:Zdn bits=true) (hp:0≤p∧p≤(bits.size:Int)) (hk:0≤k∧k≤12):Con Tryd.prog 47 [Sv bits,I p,I k] true (.tup [I ((Zbz bits p k).1),I ((Zbz bits p k).2.1),I ((Zbz bits p k).2.2)]):=by
  have hsz:=(Zcy.1 ok).1
  refine Zej (fn:=Tryd.f47) (nt:=78) Tryd.func47 rfl rfl rfl rfl (by simp [Zae,Zah]) fun B hB=> ?_
  refine aQ [] [0,1,2] [] [] hB trivial ?_
  refine aQ [] [0,1,2,9] [] [] hB trivial ?_
  refine aR [] [0,1,2,9,10] [] [Sv bits,I p,I k,I (bits.size:Int),I 0] [] [] hB trivial (Zan (Zdi ?_))
  refine Zhw (fun gn gσ=>∃(p_:Int) (ones:Int),gn=((20:Int)-ones).toNat∧(0≤ones∧ones≤20)∧(p_=p+ones)∧(p_≤(bits.size:Int))∧(Zdp bits p.toNat 20=(ones:Int).toNat+Zdp bits p_.toNat (20-(ones:Int).toNat))∧gσ=mkS [(0,Sv bits),(1,I p_),(2,I k),(9,I (bits.size:Int)),(10,I ones)] []) (((20:Int)-0).toNat) ⟨p,0,rfl,om,om,om,(by simp),rfl⟩ (fun gn gσ hI=> ?_)
  obtain ⟨p_,ones,rfl,hon,hp_,hps,ho0,rfl⟩:=hI
  refine Zan (Zan ?_)
  by_cases h1:p_<(bits.size:Int)
  ·have hi:p_.toNat<bits.size:=by omega
   by_cases h2:(bAt bits p_.toNat)=49
   ·by_cases h3:ones<20
    ·have hst:=Zuo (s:=bits) (p:=p_.toNat) (f:=20-ones.toNat-1) hi h2
     rw [show 20-ones.toNat-1+1=20-ones.toNat from by omega] at hst
     refine Zdk [(2,.dec true),(7,.dec true),(11,.dec true)] [0,1,2,9,10,27] [] [_,(0:Int)≤p_∧p_<(bits.size:Int),_,_] hB ⟨h1,⟨om,om⟩,h2,h3,trivial⟩ (Zaf (Zdr (Zbu (Zaf (Zdi ?_)))))
     refine aQ [] [0,1,2,9,10] [] [inR .i64 (p_+1)] hB ⟨(Zad om om),trivial⟩ ?_
     refine Zit [] [0,1,2,9,10] [] [Sv bits,I (p_+1),I k,I (bits.size:Int),I (ones+1)] [] [inR .i64 (ones+1)] hB ⟨(Zad om om),trivial⟩ (Zfn 1 ?_)
     exact Zfo _ om ⟨(p_+1),(ones+1),rfl,om,om,om,(by rw [ho0,hst,show (p_+1).toNat=p_.toNat+1 from by omega,show 20-(ones+1).toNat=20-ones.toNat-1 from by omega];omega),rfl⟩
    have ho:Zdp bits p.toNat 20=ones.toNat:=by rw [ho0,show 20-ones.toNat=0 from by omega,Zdp];rfl
    refine Zdk [(2,.dec true),(7,.dec true),(11,.dec false)] [0,1,2,9,10,27] [] [_,(0:Int)≤p_∧p_<(bits.size:Int),_,_] hB ⟨h1,⟨om,om⟩,h2,h3,trivial⟩ (Zaf (Zdm (Zgg (Zbo (Zbo (Zcq (Zaf (Zan (Zan ?_)))))))))
    by_cases h4:ones=20
    ·subst hp_
     subst h4
     have ho2:Zdp bits p.toNat 20=20:=ho
     have hbx:=@Zfs bits ok
     have hrb:(bits.size:Int)-(p+20)<32∨(0≤rdN (bits.extract (p+20).toNat (bits.size:Int).toNat) 32∧rdN (bits.extract (p+20).toNat (bits.size:Int).toNat) 32<4294967296):=by by_cases hq:(bits.size:Int)-(p+20)<32;(exact .inl hq);(exact .inr (Zjm (hbx om)))
     have hqb:=fun hh=>Zlc (n:=rdN (bits.extract (p+20).toNat (bits.size:Int).toNat) 32) (r:=((2^k.toNat:Nat):Int)) hh (p2 _)
     have hub:=@Zlf (rdN (bits.extract (p+20).toNat (bits.size:Int).toNat) 32)
     refine Zdk [(1,.dec true)] [0,1,2,9,10,33] [] [(20:Int)=20] hB ⟨(by decide),trivial⟩ (Zaf (Zdr (Zan (Zan ?_))))
     by_cases h5:((bits.size:Int)-(p+20))<32
     ·refine Zdk [(3,.dec true)] [0,1,2,37] [] [inR .i64 ((bits.size:Int)-(p+20)),_] hB ⟨(Zad om om),h5,trivial⟩ (Zaf (Zdr ?_))
      refine aR [] [6,7,8] [] [I 0,I 0,I 9] [] [] hB trivial (Zat ?_)
      refine Zak (Zak ?_)
      refine Zau hB (.tup [I 0,I 0,I 9]) (by kernel_rfl) (.inl (by first|(rw [Zov (o:=ones) ho hon (by assumption) (by assumption)];done)|(rw [Zow (o:=ones) ho hon (by assumption) (by assumption)];rfl)|(rw [Zeg ho2 (by assumption)];done)|(rw [Zeh ho2 (by assumption) (by assumption) (by assumption)];rfl)|(rw [Zei ho2 (by assumption) (by simp_all)];done))) rfl (fun _=>(by simp [Zah,Zae]))
     refine Zdk [(3,.dec false)] [0,1,2,37] [] [inR .i64 ((bits.size:Int)-(p+20)),_] hB ⟨(Zad om om),h5,trivial⟩ (Zaf (Zdm (Zbu (Zaf ?_))))
     refine aQ [(3,.call [(true,.any),(true,.any)] true (I (rdN (bits.extract (p+20).toNat (bits.size:Int).toNat) 32)))] [1,2,11] [] [(0:Int)≤(p+20)∧(p+20)≤(bits.size:Int)∧(bits.size:Int)≤(bits.size:Int),_∧True] hB ⟨⟨om,om,om⟩,⟨(Zdb (bits.extract (p+20).toNat (bits.size:Int).toNat) 32 (hbx om) (by rw [Zct];omega) (by rw [Zct];omega)),trivial⟩,trivial⟩ (Zan ?_)
     refine aQ [(1,.call [(true,.any)] true (I (Zap (rdN (bits.extract (p+20).toNat (bits.size:Int).toNat) 32))))] [1,2,11,12] [] [_∧True] hB ⟨⟨(Zdc (rdN (bits.extract (p+20).toNat (bits.size:Int).toNat) 32) om),trivial⟩,trivial⟩ (Zan ?_)
     rcases Bool.eq_false_or_eq_true (Zjq (Zap (rdN (bits.extract (p+20).toNat (bits.size:Int).toNat) 32))) with h6|h6
     ·by_cases h7:((rdN (bits.extract (p+20).toNat (bits.size:Int).toNat) 32)/((2^k.toNat:Nat):Int))<20
      ·refine Zit [(1,.call [(true,.any)] true (Bv true)),(7,.dec true)] [1,11,52] [] [I (p+20),I (rdN (bits.extract (p+20).toNat (bits.size:Int).toNat) 32),Bv true] [] [Con Tryd.prog 57 [I (Zap (rdN (bits.extract (p+20).toNat (bits.size:Int).toNat) 32))] true (Bv true)∧True,(0:Int)≤k∧k≤((IntKind.bits .i64:Nat):Int),_] hB ⟨⟨(Zbd h6 (Zcd (Zap (rdN (bits.extract (p+20).toNat (bits.size:Int).toNat) 32)))),trivial⟩,⟨om,(show k≤(64:Int) from by omega)⟩,h7,trivial⟩ (Zaf (Zhv rfl ?_))
       refine aR [] [6,7,8] [] [I 0,I 0,I 8] [] [] hB trivial (Zat ?_)
       refine Zak (Zak ?_)
       refine Zau hB (.tup [I 0,I 0,I 8]) (by kernel_rfl) (.inl (by first|(rw [Zov (o:=ones) ho hon (by assumption) (by assumption)];done)|(rw [Zow (o:=ones) ho hon (by assumption) (by assumption)];rfl)|(rw [Zeg ho2 (by assumption)];done)|(rw [Zeh ho2 (by assumption) (by assumption) (by assumption)];rfl)|(rw [Zei ho2 (by assumption) (by simp_all)];done))) rfl (fun _=>(by simp [Zah,Zae]))
      refine Zdk [(1,.call [(true,.any)] true (Bv true)),(7,.dec false)] [1,11,52] [] [Con Tryd.prog 57 [I (Zap (rdN (bits.extract (p+20).toNat (bits.size:Int).toNat) 32))] true (Bv true)∧True,(0:Int)≤k∧k≤((IntKind.bits .i64:Nat):Int),_] hB ⟨⟨(Zbd h6 (Zcd (Zap (rdN (bits.extract (p+20).toNat (bits.size:Int).toNat) 32)))),trivial⟩,⟨om,(show k≤(64:Int) from by omega)⟩,h7,trivial⟩ (Zaf (Zdm (Zbu (Zaf ?_))))
      refine aR [(1,.call [(true,.any)] true (I (Zap (rdN (bits.extract (p+20).toNat (bits.size:Int).toNat) 32))))] [6,7,8] [] [I (Zap (rdN (bits.extract (p+20).toNat (bits.size:Int).toNat) 32)),I ((p+20)+32),I 0] [] [_∧True,inR .i64 ((p+20)+32)] hB ⟨⟨(Zdc (rdN (bits.extract (p+20).toNat (bits.size:Int).toNat) 32) om),trivial⟩,(Zad om om),trivial⟩ (Zat (Zak ?_))
      refine Zau hB (.tup [I (Zap (rdN (bits.extract (p+20).toNat (bits.size:Int).toNat) 32)),I ((p+20)+32),I 0]) (by kernel_rfl) (.inl (by first|(rw [Zov (o:=ones) ho hon (by assumption) (by assumption)];done)|(rw [Zow (o:=ones) ho hon (by assumption) (by assumption)];rfl)|(rw [Zeg ho2 (by assumption)];done)|(rw [Zeh ho2 (by assumption) (by assumption) (by assumption)];rfl)|(rw [Zei ho2 (by assumption) (by simp_all)];done))) rfl (fun _=>(by simp [Zah,Zae]))
     refine Zdk [(1,.call [(true,.any)] true (Bv false))] [1,11,52] [] [Con Tryd.prog 57 [I (Zap (rdN (bits.extract (p+20).toNat (bits.size:Int).toNat) 32))] true (Bv false)∧True] hB ⟨⟨(Zbd h6 (Zcd (Zap (rdN (bits.extract (p+20).toNat (bits.size:Int).toNat) 32)))),trivial⟩,trivial⟩ (Zaf (Zdr ?_))
     refine aR [] [6,7,8] [] [I 0,I 0,I 8] [] [] hB trivial (Zat ?_)
     refine Zak (Zak ?_)
     refine Zau hB (.tup [I 0,I 0,I 8]) (by kernel_rfl) (.inl (by first|(rw [Zov (o:=ones) ho hon (by assumption) (by assumption)];done)|(rw [Zow (o:=ones) ho hon (by assumption) (by assumption)];rfl)|(rw [Zeg ho2 (by assumption)];done)|(rw [Zeh ho2 (by assumption) (by assumption) (by assumption)];rfl)|(rw [Zei ho2 (by assumption) (by simp_all)];done))) rfl (fun _=>(by simp [Zah,Zae]))
    subst hp_
    have hsh:=Zoj hon hk
    have hbx:=@Zfs bits ok
    have hrb:(bits.size:Int)-(p+ones)<1+k∨(0≤rdN (bits.extract (p+ones+1).toNat (bits.size:Int).toNat) k.toNat∧rdN (bits.extract (p+ones+1).toNat (bits.size:Int).toNat) k.toNat<((2^k.toNat:Nat):Int)):=by by_cases hq:(bits.size:Int)-(p+ones)<1+k;(exact .inl hq);(exact .inr (Zjm (hbx om)))
    have hp12:((2^k.toNat:Nat):Int)≤4096:=Int.ofNat_le.2 (Nat.pow_le_pow_right (by decide) (by omega:k.toNat≤12))
    refine Zdk [(1,.dec false)] [0,1,2,9,10,33] [] [_] hB ⟨h4,trivial⟩ (Zaf (Zdm (Zbu (Zaf (Zan (Zan ?_))))))
    by_cases h8:((bits.size:Int)-(p+ones))<(1+k)
    ·refine Zdk [(5,.dec true)] [0,1,2,10,62] [] [inR .i64 ((bits.size:Int)-(p+ones)),inR .i64 (1+k),_] hB ⟨(Zad om om),(Zad om om),h8,trivial⟩ (Zaf (Zdr ?_))
     refine aR [] [6,7,8] [] [I 0,I 0,I 9] [] [] hB trivial (Zat (Zak ?_))
     refine Zau hB (.tup [I 0,I 0,I 9]) (by kernel_rfl) (.inl (by first|(rw [Zov (o:=ones) ho hon (by assumption) (by assumption)];done)|(rw [Zow (o:=ones) ho hon (by assumption) (by assumption)];rfl)|(rw [Zeg ho2 (by assumption)];done)|(rw [Zeh ho2 (by assumption) (by assumption) (by assumption)];rfl)|(rw [Zei ho2 (by assumption) (by simp_all)];done))) rfl (fun _=>(by simp [Zah,Zae]))
    refine Zdk [(5,.dec false)] [0,1,2,10,62] [] [inR .i64 ((bits.size:Int)-(p+ones)),inR .i64 (1+k),_] hB ⟨(Zad om om),(Zad om om),h8,trivial⟩ (Zaf (Zdm (Zbu (Zaf ?_))))
    refine aR [(8,.call [(true,.any),(true,.any)] true (I (rdN (bits.extract ((p+ones)+1).toNat (bits.size:Int).toNat) k.toNat))),(10,.call [(true,.any)] true (I (Zap ((ones*((2^k.toNat:Nat):Int))+(rdN (bits.extract ((p+ones)+1).toNat (bits.size:Int).toNat) k.toNat)))))] [6,7,8] [] [I (Zap ((ones*((2^k.toNat:Nat):Int))+(rdN (bits.extract ((p+ones)+1).toNat (bits.size:Int).toNat) k.toNat))),I (((p+ones)+1)+k),I 0] [] [(0:Int)≤k∧k≤((IntKind.bits .i64:Nat):Int)∧inR .i64 (ones*((2^k.toNat:Nat):Int)),inR .i64 ((p+ones)+1),(0:Int)≤((p+ones)+1)∧((p+ones)+1)≤(bits.size:Int)∧(bits.size:Int)≤(bits.size:Int),_∧True,inR .i64 ((ones*((2^k.toNat:Nat):Int))+(rdN (bits.extract ((p+ones)+1).toNat (bits.size:Int).toNat) k.toNat)),_∧True,inR .i64 ((p+ones)+1),inR .i64 (((p+ones)+1)+k)] hB ⟨⟨om,(show k≤(64:Int) from by omega),(Zad om om)⟩,(Zad om om),⟨om,om,om⟩,⟨(Zdb (bits.extract ((p+ones)+1).toNat (bits.size:Int).toNat) k (hbx om) (by rw [Zct];omega) (by rw [Zct];omega)),trivial⟩,(Zad om om),⟨(Zdc ((ones*((2^k.toNat:Nat):Int))+(rdN (bits.extract ((p+ones)+1).toNat (bits.size:Int).toNat) k.toNat)) om),trivial⟩,(Zad om om),(Zad om om),trivial⟩ (Zat ?_)
    refine Zau hB (.tup [I (Zap ((ones*((2^k.toNat:Nat):Int))+(rdN (bits.extract ((p+ones)+1).toNat (bits.size:Int).toNat) k.toNat))),I (((p+ones)+1)+k),I 0]) (by kernel_rfl) (.inl (by first|(rw [Zov (o:=ones) ho hon (by assumption) (by assumption)];done)|(rw [Zow (o:=ones) ho hon (by assumption) (by assumption)];rfl)|(rw [Zeg ho2 (by assumption)];done)|(rw [Zeh ho2 (by assumption) (by assumption) (by assumption)];rfl)|(rw [Zei ho2 (by assumption) (by simp_all)];done))) rfl (fun _=>(by simp [Zah,Zae]))
   have ho:Zdp bits p.toNat 20=ones.toNat:=by rw [ho0,Zmm (fun hq=>h2 hq.2)];omega
   refine Zdk [(2,.dec true),(7,.dec false)] [0,1,2,9,10,27] [] [_,(0:Int)≤p_∧p_<(bits.size:Int),_] hB ⟨h1,⟨om,om⟩,h2,trivial⟩ (Zaf (Zdm (Zgg (Zbo (Zbo (Zcq (Zaf (Zan (Zan ?_)))))))))
   by_cases h9:ones=20
   ·subst hp_
    subst h9
    have ho2:Zdp bits p.toNat 20=20:=ho
    have hbx:=@Zfs bits ok
    have hrb:(bits.size:Int)-(p+20)<32∨(0≤rdN (bits.extract (p+20).toNat (bits.size:Int).toNat) 32∧rdN (bits.extract (p+20).toNat (bits.size:Int).toNat) 32<4294967296):=by by_cases hq:(bits.size:Int)-(p+20)<32;(exact .inl hq);(exact .inr (Zjm (hbx om)))
    have hqb:=fun hh=>Zlc (n:=rdN (bits.extract (p+20).toNat (bits.size:Int).toNat) 32) (r:=((2^k.toNat:Nat):Int)) hh (p2 _)
    have hub:=@Zlf (rdN (bits.extract (p+20).toNat (bits.size:Int).toNat) 32)
    refine Zdk [(1,.dec true)] [0,1,2,9,10,33] [] [(20:Int)=20] hB ⟨(by decide),trivial⟩ (Zaf (Zdr (Zan (Zan ?_))))
    by_cases h10:((bits.size:Int)-(p+20))<32
    ·refine Zdk [(3,.dec true)] [0,1,2,37] [] [inR .i64 ((bits.size:Int)-(p+20)),_] hB ⟨(Zad om om),h10,trivial⟩ (Zaf (Zdr ?_))
     refine aR [] [6,7,8] [] [I 0,I 0,I 9] [] [] hB trivial (Zat ?_)
     refine Zak (Zak ?_)
     refine Zau hB (.tup [I 0,I 0,I 9]) (by kernel_rfl) (.inl (by first|(rw [Zov (o:=ones) ho hon (by assumption) (by assumption)];done)|(rw [Zow (o:=ones) ho hon (by assumption) (by assumption)];rfl)|(rw [Zeg ho2 (by assumption)];done)|(rw [Zeh ho2 (by assumption) (by assumption) (by assumption)];rfl)|(rw [Zei ho2 (by assumption) (by simp_all)];done))) rfl (fun _=>(by simp [Zah,Zae]))
    refine Zdk [(3,.dec false)] [0,1,2,37] [] [inR .i64 ((bits.size:Int)-(p+20)),_] hB ⟨(Zad om om),h10,trivial⟩ (Zaf (Zdm (Zbu (Zaf ?_))))
    refine aQ [(3,.call [(true,.any),(true,.any)] true (I (rdN (bits.extract (p+20).toNat (bits.size:Int).toNat) 32)))] [1,2,11] [] [(0:Int)≤(p+20)∧(p+20)≤(bits.size:Int)∧(bits.size:Int)≤(bits.size:Int),_∧True] hB ⟨⟨om,om,om⟩,⟨(Zdb (bits.extract (p+20).toNat (bits.size:Int).toNat) 32 (hbx om) (by rw [Zct];omega) (by rw [Zct];omega)),trivial⟩,trivial⟩ (Zan ?_)
    refine aQ [(1,.call [(true,.any)] true (I (Zap (rdN (bits.extract (p+20).toNat (bits.size:Int).toNat) 32))))] [1,2,11,12] [] [_∧True] hB ⟨⟨(Zdc (rdN (bits.extract (p+20).toNat (bits.size:Int).toNat) 32) om),trivial⟩,trivial⟩ (Zan ?_)
    rcases Bool.eq_false_or_eq_true (Zjq (Zap (rdN (bits.extract (p+20).toNat (bits.size:Int).toNat) 32))) with h11|h11
    ·by_cases h12:((rdN (bits.extract (p+20).toNat (bits.size:Int).toNat) 32)/((2^k.toNat:Nat):Int))<20
     ·refine Zit [(1,.call [(true,.any)] true (Bv true)),(7,.dec true)] [1,11,52] [] [I (p+20),I (rdN (bits.extract (p+20).toNat (bits.size:Int).toNat) 32),Bv true] [] [Con Tryd.prog 57 [I (Zap (rdN (bits.extract (p+20).toNat (bits.size:Int).toNat) 32))] true (Bv true)∧True,(0:Int)≤k∧k≤((IntKind.bits .i64:Nat):Int),_] hB ⟨⟨(Zbd h11 (Zcd (Zap (rdN (bits.extract (p+20).toNat (bits.size:Int).toNat) 32)))),trivial⟩,⟨om,(show k≤(64:Int) from by omega)⟩,h12,trivial⟩ (Zaf (Zhv rfl ?_))
      refine aR [] [6,7,8] [] [I 0,I 0,I 8] [] [] hB trivial (Zat ?_)
      refine Zak (Zak ?_)
      refine Zau hB (.tup [I 0,I 0,I 8]) (by kernel_rfl) (.inl (by first|(rw [Zov (o:=ones) ho hon (by assumption) (by assumption)];done)|(rw [Zow (o:=ones) ho hon (by assumption) (by assumption)];rfl)|(rw [Zeg ho2 (by assumption)];done)|(rw [Zeh ho2 (by assumption) (by assumption) (by assumption)];rfl)|(rw [Zei ho2 (by assumption) (by simp_all)];done))) rfl (fun _=>(by simp [Zah,Zae]))
     refine Zdk [(1,.call [(true,.any)] true (Bv true)),(7,.dec false)] [1,11,52] [] [Con Tryd.prog 57 [I (Zap (rdN (bits.extract (p+20).toNat (bits.size:Int).toNat) 32))] true (Bv true)∧True,(0:Int)≤k∧k≤((IntKind.bits .i64:Nat):Int),_] hB ⟨⟨(Zbd h11 (Zcd (Zap (rdN (bits.extract (p+20).toNat (bits.size:Int).toNat) 32)))),trivial⟩,⟨om,(show k≤(64:Int) from by omega)⟩,h12,trivial⟩ (Zaf (Zdm (Zbu (Zaf ?_))))
     refine aR [(1,.call [(true,.any)] true (I (Zap (rdN (bits.extract (p+20).toNat (bits.size:Int).toNat) 32))))] [6,7,8] [] [I (Zap (rdN (bits.extract (p+20).toNat (bits.size:Int).toNat) 32)),I ((p+20)+32),I 0] [] [_∧True,inR .i64 ((p+20)+32)] hB ⟨⟨(Zdc (rdN (bits.extract (p+20).toNat (bits.size:Int).toNat) 32) om),trivial⟩,(Zad om om),trivial⟩ (Zat (Zak ?_))
     refine Zau hB (.tup [I (Zap (rdN (bits.extract (p+20).toNat (bits.size:Int).toNat) 32)),I ((p+20)+32),I 0]) (by kernel_rfl) (.inl (by first|(rw [Zov (o:=ones) ho hon (by assumption) (by assumption)];done)|(rw [Zow (o:=ones) ho hon (by assumption) (by assumption)];rfl)|(rw [Zeg ho2 (by assumption)];done)|(rw [Zeh ho2 (by assumption) (by assumption) (by assumption)];rfl)|(rw [Zei ho2 (by assumption) (by simp_all)];done))) rfl (fun _=>(by simp [Zah,Zae]))
    refine Zdk [(1,.call [(true,.any)] true (Bv false))] [1,11,52] [] [Con Tryd.prog 57 [I (Zap (rdN (bits.extract (p+20).toNat (bits.size:Int).toNat) 32))] true (Bv false)∧True] hB ⟨⟨(Zbd h11 (Zcd (Zap (rdN (bits.extract (p+20).toNat (bits.size:Int).toNat) 32)))),trivial⟩,trivial⟩ (Zaf (Zdr ?_))
    refine aR [] [6,7,8] [] [I 0,I 0,I 8] [] [] hB trivial (Zat ?_)
    refine Zak (Zak ?_)
    refine Zau hB (.tup [I 0,I 0,I 8]) (by kernel_rfl) (.inl (by first|(rw [Zov (o:=ones) ho hon (by assumption) (by assumption)];done)|(rw [Zow (o:=ones) ho hon (by assumption) (by assumption)];rfl)|(rw [Zeg ho2 (by assumption)];done)|(rw [Zeh ho2 (by assumption) (by assumption) (by assumption)];rfl)|(rw [Zei ho2 (by assumption) (by simp_all)];done))) rfl (fun _=>(by simp [Zah,Zae]))
   subst hp_
   have hsh:=Zoj hon hk
   have hbx:=@Zfs bits ok
   have hrb:(bits.size:Int)-(p+ones)<1+k∨(0≤rdN (bits.extract (p+ones+1).toNat (bits.size:Int).toNat) k.toNat∧rdN (bits.extract (p+ones+1).toNat (bits.size:Int).toNat) k.toNat<((2^k.toNat:Nat):Int)):=by by_cases hq:(bits.size:Int)-(p+ones)<1+k;(exact .inl hq);(exact .inr (Zjm (hbx om)))
   have hp12:((2^k.toNat:Nat):Int)≤4096:=Int.ofNat_le.2 (Nat.pow_le_pow_right (by decide) (by omega:k.toNat≤12))
   refine Zdk [(1,.dec false)] [0,1,2,9,10,33] [] [_] hB ⟨h9,trivial⟩ (Zaf (Zdm (Zbu (Zaf (Zan (Zan ?_))))))
   by_cases h13:((bits.size:Int)-(p+ones))<(1+k)
   ·refine Zdk [(5,.dec true)] [0,1,2,10,62] [] [inR .i64 ((bits.size:Int)-(p+ones)),inR .i64 (1+k),_] hB ⟨(Zad om om),(Zad om om),h13,trivial⟩ (Zaf (Zdr ?_))
    refine aR [] [6,7,8] [] [I 0,I 0,I 9] [] [] hB trivial (Zat (Zak ?_))
    refine Zau hB (.tup [I 0,I 0,I 9]) (by kernel_rfl) (.inl (by first|(rw [Zov (o:=ones) ho hon (by assumption) (by assumption)];done)|(rw [Zow (o:=ones) ho hon (by assumption) (by assumption)];rfl)|(rw [Zeg ho2 (by assumption)];done)|(rw [Zeh ho2 (by assumption) (by assumption) (by assumption)];rfl)|(rw [Zei ho2 (by assumption) (by simp_all)];done))) rfl (fun _=>(by simp [Zah,Zae]))
   refine Zdk [(5,.dec false)] [0,1,2,10,62] [] [inR .i64 ((bits.size:Int)-(p+ones)),inR .i64 (1+k),_] hB ⟨(Zad om om),(Zad om om),h13,trivial⟩ (Zaf (Zdm (Zbu (Zaf ?_))))
   refine aR [(8,.call [(true,.any),(true,.any)] true (I (rdN (bits.extract ((p+ones)+1).toNat (bits.size:Int).toNat) k.toNat))),(10,.call [(true,.any)] true (I (Zap ((ones*((2^k.toNat:Nat):Int))+(rdN (bits.extract ((p+ones)+1).toNat (bits.size:Int).toNat) k.toNat)))))] [6,7,8] [] [I (Zap ((ones*((2^k.toNat:Nat):Int))+(rdN (bits.extract ((p+ones)+1).toNat (bits.size:Int).toNat) k.toNat))),I (((p+ones)+1)+k),I 0] [] [(0:Int)≤k∧k≤((IntKind.bits .i64:Nat):Int)∧inR .i64 (ones*((2^k.toNat:Nat):Int)),inR .i64 ((p+ones)+1),(0:Int)≤((p+ones)+1)∧((p+ones)+1)≤(bits.size:Int)∧(bits.size:Int)≤(bits.size:Int),_∧True,inR .i64 ((ones*((2^k.toNat:Nat):Int))+(rdN (bits.extract ((p+ones)+1).toNat (bits.size:Int).toNat) k.toNat)),_∧True,inR .i64 ((p+ones)+1),inR .i64 (((p+ones)+1)+k)] hB ⟨⟨om,(show k≤(64:Int) from by omega),(Zad om om)⟩,(Zad om om),⟨om,om,om⟩,⟨(Zdb (bits.extract ((p+ones)+1).toNat (bits.size:Int).toNat) k (hbx om) (by rw [Zct];omega) (by rw [Zct];omega)),trivial⟩,(Zad om om),⟨(Zdc ((ones*((2^k.toNat:Nat):Int))+(rdN (bits.extract ((p+ones)+1).toNat (bits.size:Int).toNat) k.toNat)) om),trivial⟩,(Zad om om),(Zad om om),trivial⟩ (Zat ?_)
   refine Zau hB (.tup [I (Zap ((ones*((2^k.toNat:Nat):Int))+(rdN (bits.extract ((p+ones)+1).toNat (bits.size:Int).toNat) k.toNat))),I (((p+ones)+1)+k),I 0]) (by kernel_rfl) (.inl (by first|(rw [Zov (o:=ones) ho hon (by assumption) (by assumption)];done)|(rw [Zow (o:=ones) ho hon (by assumption) (by assumption)];rfl)|(rw [Zeg ho2 (by assumption)];done)|(rw [Zeh ho2 (by assumption) (by assumption) (by assumption)];rfl)|(rw [Zei ho2 (by assumption) (by simp_all)];done))) rfl (fun _=>(by simp [Zah,Zae]))
  have ho:Zdp bits p.toNat 20=ones.toNat:=by rw [ho0,Zmm om];omega
  refine Zdk [(2,.dec false)] [0,1,2,9,10,27] [] [_] hB ⟨h1,trivial⟩ (Zaf (Zdm (Zgg (Zbo (Zbo (Zcq (Zaf (Zan (Zan ?_)))))))))
  by_cases h14:ones=20
  ·subst hp_
   subst h14
   have ho2:Zdp bits p.toNat 20=20:=ho
   have hbx:=@Zfs bits ok
   have hrb:(bits.size:Int)-(p+20)<32∨(0≤rdN (bits.extract (p+20).toNat (bits.size:Int).toNat) 32∧rdN (bits.extract (p+20).toNat (bits.size:Int).toNat) 32<4294967296):=by by_cases hq:(bits.size:Int)-(p+20)<32;(exact .inl hq);(exact .inr (Zjm (hbx om)))
   have hqb:=fun hh=>Zlc (n:=rdN (bits.extract (p+20).toNat (bits.size:Int).toNat) 32) (r:=((2^k.toNat:Nat):Int)) hh (p2 _)
   have hub:=@Zlf (rdN (bits.extract (p+20).toNat (bits.size:Int).toNat) 32)
   refine Zdk [(1,.dec true)] [0,1,2,9,10,33] [] [(20:Int)=20] hB ⟨(by decide),trivial⟩ (Zaf (Zdr (Zan (Zan ?_))))
   by_cases h15:((bits.size:Int)-(p+20))<32
   ·refine Zdk [(3,.dec true)] [0,1,2,37] [] [inR .i64 ((bits.size:Int)-(p+20)),_] hB ⟨(Zad om om),h15,trivial⟩ (Zaf (Zdr ?_))
    refine aR [] [6,7,8] [] [I 0,I 0,I 9] [] [] hB trivial (Zat ?_)
    refine Zak (Zak ?_)
    refine Zau hB (.tup [I 0,I 0,I 9]) (by kernel_rfl) (.inl (by first|(rw [Zov (o:=ones) ho hon (by assumption) (by assumption)];done)|(rw [Zow (o:=ones) ho hon (by assumption) (by assumption)];rfl)|(rw [Zeg ho2 (by assumption)];done)|(rw [Zeh ho2 (by assumption) (by assumption) (by assumption)];rfl)|(rw [Zei ho2 (by assumption) (by simp_all)];done))) rfl (fun _=>(by simp [Zah,Zae]))
   refine Zdk [(3,.dec false)] [0,1,2,37] [] [inR .i64 ((bits.size:Int)-(p+20)),_] hB ⟨(Zad om om),h15,trivial⟩ (Zaf (Zdm (Zbu (Zaf ?_))))
   refine aQ [(3,.call [(true,.any),(true,.any)] true (I (rdN (bits.extract (p+20).toNat (bits.size:Int).toNat) 32)))] [1,2,11] [] [(0:Int)≤(p+20)∧(p+20)≤(bits.size:Int)∧(bits.size:Int)≤(bits.size:Int),_∧True] hB ⟨⟨om,om,om⟩,⟨(Zdb (bits.extract (p+20).toNat (bits.size:Int).toNat) 32 (hbx om) (by rw [Zct];omega) (by rw [Zct];omega)),trivial⟩,trivial⟩ (Zan ?_)
   refine aQ [(1,.call [(true,.any)] true (I (Zap (rdN (bits.extract (p+20).toNat (bits.size:Int).toNat) 32))))] [1,2,11,12] [] [_∧True] hB ⟨⟨(Zdc (rdN (bits.extract (p+20).toNat (bits.size:Int).toNat) 32) om),trivial⟩,trivial⟩ (Zan ?_)
   rcases Bool.eq_false_or_eq_true (Zjq (Zap (rdN (bits.extract (p+20).toNat (bits.size:Int).toNat) 32))) with h16|h16
   ·by_cases h17:((rdN (bits.extract (p+20).toNat (bits.size:Int).toNat) 32)/((2^k.toNat:Nat):Int))<20
    ·refine Zit [(1,.call [(true,.any)] true (Bv true)),(7,.dec true)] [1,11,52] [] [I (p+20),I (rdN (bits.extract (p+20).toNat (bits.size:Int).toNat) 32),Bv true] [] [Con Tryd.prog 57 [I (Zap (rdN (bits.extract (p+20).toNat (bits.size:Int).toNat) 32))] true (Bv true)∧True,(0:Int)≤k∧k≤((IntKind.bits .i64:Nat):Int),_] hB ⟨⟨(Zbd h16 (Zcd (Zap (rdN (bits.extract (p+20).toNat (bits.size:Int).toNat) 32)))),trivial⟩,⟨om,(show k≤(64:Int) from by omega)⟩,h17,trivial⟩ (Zaf (Zhv rfl ?_))
     refine aR [] [6,7,8] [] [I 0,I 0,I 8] [] [] hB trivial (Zat ?_)
     refine Zak (Zak ?_)
     refine Zau hB (.tup [I 0,I 0,I 8]) (by kernel_rfl) (.inl (by first|(rw [Zov (o:=ones) ho hon (by assumption) (by assumption)];done)|(rw [Zow (o:=ones) ho hon (by assumption) (by assumption)];rfl)|(rw [Zeg ho2 (by assumption)];done)|(rw [Zeh ho2 (by assumption) (by assumption) (by assumption)];rfl)|(rw [Zei ho2 (by assumption) (by simp_all)];done))) rfl (fun _=>(by simp [Zah,Zae]))
    refine Zdk [(1,.call [(true,.any)] true (Bv true)),(7,.dec false)] [1,11,52] [] [Con Tryd.prog 57 [I (Zap (rdN (bits.extract (p+20).toNat (bits.size:Int).toNat) 32))] true (Bv true)∧True,(0:Int)≤k∧k≤((IntKind.bits .i64:Nat):Int),_] hB ⟨⟨(Zbd h16 (Zcd (Zap (rdN (bits.extract (p+20).toNat (bits.size:Int).toNat) 32)))),trivial⟩,⟨om,(show k≤(64:Int) from by omega)⟩,h17,trivial⟩ (Zaf (Zdm (Zbu (Zaf ?_))))
    refine aR [(1,.call [(true,.any)] true (I (Zap (rdN (bits.extract (p+20).toNat (bits.size:Int).toNat) 32))))] [6,7,8] [] [I (Zap (rdN (bits.extract (p+20).toNat (bits.size:Int).toNat) 32)),I ((p+20)+32),I 0] [] [_∧True,inR .i64 ((p+20)+32)] hB ⟨⟨(Zdc (rdN (bits.extract (p+20).toNat (bits.size:Int).toNat) 32) om),trivial⟩,(Zad om om),trivial⟩ (Zat (Zak ?_))
    refine Zau hB (.tup [I (Zap (rdN (bits.extract (p+20).toNat (bits.size:Int).toNat) 32)),I ((p+20)+32),I 0]) (by kernel_rfl) (.inl (by first|(rw [Zov (o:=ones) ho hon (by assumption) (by assumption)];done)|(rw [Zow (o:=ones) ho hon (by assumption) (by assumption)];rfl)|(rw [Zeg ho2 (by assumption)];done)|(rw [Zeh ho2 (by assumption) (by assumption) (by assumption)];rfl)|(rw [Zei ho2 (by assumption) (by simp_all)];done))) rfl (fun _=>(by simp [Zah,Zae]))
   refine Zdk [(1,.call [(true,.any)] true (Bv false))] [1,11,52] [] [Con Tryd.prog 57 [I (Zap (rdN (bits.extract (p+20).toNat (bits.size:Int).toNat) 32))] true (Bv false)∧True] hB ⟨⟨(Zbd h16 (Zcd (Zap (rdN (bits.extract (p+20).toNat (bits.size:Int).toNat) 32)))),trivial⟩,trivial⟩ (Zaf (Zdr ?_))
   refine aR [] [6,7,8] [] [I 0,I 0,I 8] [] [] hB trivial (Zat ?_)
   refine Zak (Zak ?_)
   refine Zau hB (.tup [I 0,I 0,I 8]) (by kernel_rfl) (.inl (by first|(rw [Zov (o:=ones) ho hon (by assumption) (by assumption)];done)|(rw [Zow (o:=ones) ho hon (by assumption) (by assumption)];rfl)|(rw [Zeg ho2 (by assumption)];done)|(rw [Zeh ho2 (by assumption) (by assumption) (by assumption)];rfl)|(rw [Zei ho2 (by assumption) (by simp_all)];done))) rfl (fun _=>(by simp [Zah,Zae]))
  subst hp_
  have hsh:=Zoj hon hk
  have hbx:=@Zfs bits ok
  have hrb:(bits.size:Int)-(p+ones)<1+k∨(0≤rdN (bits.extract (p+ones+1).toNat (bits.size:Int).toNat) k.toNat∧rdN (bits.extract (p+ones+1).toNat (bits.size:Int).toNat) k.toNat<((2^k.toNat:Nat):Int)):=by by_cases hq:(bits.size:Int)-(p+ones)<1+k;(exact .inl hq);(exact .inr (Zjm (hbx om)))
  have hp12:((2^k.toNat:Nat):Int)≤4096:=Int.ofNat_le.2 (Nat.pow_le_pow_right (by decide) (by omega:k.toNat≤12))
  refine Zdk [(1,.dec false)] [0,1,2,9,10,33] [] [_] hB ⟨h14,trivial⟩ (Zaf (Zdm (Zbu (Zaf (Zan (Zan ?_))))))
  by_cases h18:((bits.size:Int)-(p+ones))<(1+k)
  ·refine Zdk [(5,.dec true)] [0,1,2,10,62] [] [inR .i64 ((bits.size:Int)-(p+ones)),inR .i64 (1+k),_] hB ⟨(Zad om om),(Zad om om),h18,trivial⟩ (Zaf (Zdr ?_))
   refine aR [] [6,7,8] [] [I 0,I 0,I 9] [] [] hB trivial (Zat (Zak ?_))
   refine Zau hB (.tup [I 0,I 0,I 9]) (by kernel_rfl) (.inl (by first|(rw [Zov (o:=ones) ho hon (by assumption) (by assumption)];done)|(rw [Zow (o:=ones) ho hon (by assumption) (by assumption)];rfl)|(rw [Zeg ho2 (by assumption)];done)|(rw [Zeh ho2 (by assumption) (by assumption) (by assumption)];rfl)|(rw [Zei ho2 (by assumption) (by simp_all)];done))) rfl (fun _=>(by simp [Zah,Zae]))
  refine Zdk [(5,.dec false)] [0,1,2,10,62] [] [inR .i64 ((bits.size:Int)-(p+ones)),inR .i64 (1+k),_] hB ⟨(Zad om om),(Zad om om),h18,trivial⟩ (Zaf (Zdm (Zbu (Zaf ?_))))
  refine aR [(8,.call [(true,.any),(true,.any)] true (I (rdN (bits.extract ((p+ones)+1).toNat (bits.size:Int).toNat) k.toNat))),(10,.call [(true,.any)] true (I (Zap ((ones*((2^k.toNat:Nat):Int))+(rdN (bits.extract ((p+ones)+1).toNat (bits.size:Int).toNat) k.toNat)))))] [6,7,8] [] [I (Zap ((ones*((2^k.toNat:Nat):Int))+(rdN (bits.extract ((p+ones)+1).toNat (bits.size:Int).toNat) k.toNat))),I (((p+ones)+1)+k),I 0] [] [(0:Int)≤k∧k≤((IntKind.bits .i64:Nat):Int)∧inR .i64 (ones*((2^k.toNat:Nat):Int)),inR .i64 ((p+ones)+1),(0:Int)≤((p+ones)+1)∧((p+ones)+1)≤(bits.size:Int)∧(bits.size:Int)≤(bits.size:Int),_∧True,inR .i64 ((ones*((2^k.toNat:Nat):Int))+(rdN (bits.extract ((p+ones)+1).toNat (bits.size:Int).toNat) k.toNat)),_∧True,inR .i64 ((p+ones)+1),inR .i64 (((p+ones)+1)+k)] hB ⟨⟨om,(show k≤(64:Int) from by omega),(Zad om om)⟩,(Zad om om),⟨om,om,om⟩,⟨(Zdb (bits.extract ((p+ones)+1).toNat (bits.size:Int).toNat) k (hbx om) (by rw [Zct];omega) (by rw [Zct];omega)),trivial⟩,(Zad om om),⟨(Zdc ((ones*((2^k.toNat:Nat):Int))+(rdN (bits.extract ((p+ones)+1).toNat (bits.size:Int).toNat) k.toNat)) om),trivial⟩,(Zad om om),(Zad om om),trivial⟩ (Zat ?_)
  refine Zau hB (.tup [I (Zap ((ones*((2^k.toNat:Nat):Int))+(rdN (bits.extract ((p+ones)+1).toNat (bits.size:Int).toNat) k.toNat))),I (((p+ones)+1)+k),I 0]) (by kernel_rfl) (.inl (by first|(rw [Zov (o:=ones) ho hon (by assumption) (by assumption)];done)|(rw [Zow (o:=ones) ho hon (by assumption) (by assumption)];rfl)|(rw [Zeg ho2 (by assumption)];done)|(rw [Zeh ho2 (by assumption) (by assumption) (by assumption)];rfl)|(rw [Zei ho2 (by assumption) (by simp_all)];done))) rfl (fun _=>(by simp [Zah,Zae]))
theorem Zht (n:Int):Con Tryd.prog 58 [I n] true (Bv (inB n (-125000000) 125000000)):=by
 refine Zej (fn:=Tryd.f58) (nt:=5) Tryd.func58 rfl rfl rfl rfl (by simp [Zae,Zah]) fun B hB=> ?_
 refine aQ [] [0] [] [] hB trivial ?_
 refine aR [(1,.call [(true,.any),(true,.any),(true,.any)] true (Bv (inB n (-125000000) 125000000)))] [2] [] [Bv (inB n (-125000000) 125000000)] [] [_∧True] hB ⟨⟨(Zip n (-125000000) 125000000),trivial⟩,trivial⟩ (Zat ?_)
 refine Zau hB (Bv (inB n (-125000000) 125000000)) (by kernel_rfl) (.inl rfl) rfl (fun _=>trivial)
theorem Zjr (list:List Int) (hl:list.length≤255):∃(v:List Int) (c:Int),(v.length≤60)∧(c=0→v.length=list.length)∧Con Tryd.prog 48 [slI false list] true (.tup [slI true v,I c]):=by
  have hh:∃r:(List Int)×Int,((r.1.length≤60)∧(r.2=0→r.1.length=list.length)∧(True))∧Zao Tryd.prog 48 [slI false list] (Zac []) true (.tup [slI true r.1,I r.2]) (Zac []):=by
    refine Zdt (Φ:=fun r:(List Int)×Int=>(r.1.length≤60)∧(r.2=0→r.1.length=list.length)∧(True)) [] (fun r=>[]) (fn:=Tryd.f48) (nt:=33) Tryd.func48 rfl rfl (args:=[slI false list]) rfl (Zca (.inl ⟨rfl,Ztf false _⟩) Zdu) (res:=fun r=> .tup [slI true r.1,I r.2]) ?_
    refine xQ [] [0] [] [] trivial (Zal (Zal ?_))
    by_cases h1:60<(list.length:Int)
    ·refine x_q [(2,.dec true)] [0,10] [] [_] ⟨h1,trivial⟩ (Zab (Zfk ?_))
     refine xR [] [2,3] [] [Zcb,I 2] [] [] trivial (Zcw (Zar ?_))
     refine Zbw (([]:List Int),2) (show (([]:List Int).length≤60)∧(2=0→([]:List Int).length=list.length)∧(True) from ⟨(by first|omega|(simp;done)),(by first|exact fun q=>absurd q (by decide)|exact fun _=>by omega),trivial⟩) (trivial) (.tup [Zcb,I 2]) (by kernel_rfl) (.inr ⟨⟨rfl,rfl⟩,⟨rfl,rfl⟩⟩) (fun _=>rfl) (fun _=>(by simp [Zah,Zae,Ztf]))
    refine x_q [(2,.dec false)] [0,10] [] [_] ⟨h1,trivial⟩ (Zab (Zjn (Zbr (Zab ?_))))
    refine xQ [] [0,4] [] [] trivial (Zal ?_)
    refine xR [] [4,11,12,13] [] [Zcb,slI false list,I (list.length:Int),I 0] [] [] trivial (Zbl ?_)
    refine x_nil 4 704 1 (fun _=>[]) (by kernel_rfl) ?_
    refine Zhq [] (T:=[(4,.arr 704),(11,slI false list),(12,I (list.length:Int)),(13,I 0)]) (O:=[(704,tAI ([]:List Int))]) rfl (⟨.inl rfl,.inl rfl,.inl rfl,.inl rfl,trivial⟩) (⟨.inr ⟨rfl,(by first|rfl|(simp;done)|(simp;omega)|omega),fun i_ hi_=>absurd hi_ (Nat.not_lt_zero _)⟩,trivial⟩) ?_
    refine Zee (X:=(List Int)×Int) (fun x=>mkS [(4,.arr 704),(11,slI false list),(12,I (list.length:Int)),(13,I x.2)] [(704,tAI x.1)]) (fun x=>(0≤x.2∧x.2≤(list.length:Int))∧(∀y_∈x.1,-125000000≤y_∧y_≤125000000)∧((x.1.length:Int)=x.2)∧True) (fun x=>((list.length:Int)-x.2).toNat) (([]:List Int),0) rfl (show (0≤(0:Int)∧(0:Int)≤(list.length:Int))∧(∀y_∈([]:List Int),-125000000≤y_∧y_≤125000000)∧((([]:List Int).length:Int)=(0:Int))∧True from ⟨om,(by (intro y_ h_;cases h_)),(by rfl),trivial⟩) (fun x hI=> ?_)
    obtain ⟨out,t13⟩:=x
    obtain ⟨hi0,hou,hol,_⟩:(0≤t13∧t13≤(list.length:Int))∧(∀y_∈out,-125000000≤y_∧y_≤125000000)∧((out.length:Int)=t13)∧True:=hI
    show XW _ _ _ _ (mkS [(4,.arr 704),(11,slI false list),(12,I (list.length:Int)),(13,I t13)] [(704,tAI out)]) _ _
    refine Zal ?_
    by_cases h2:t13<(list.length:Int)
    ·have hi:t13.toNat<list.length:=by omega
     have hgi:=Zxi (B:=125000000) (by decide) (l:=out) hou (i:=out.length) (Nat.le_refl _)
     refine x_q [(0,.dec true)] [4,11,12,13,14] [704] [_] ⟨h2,trivial⟩ (Zab (Zal (Zfk (Zbr (Zab (Zal (Zbl ?_)))))))
     refine xQ [] [4,6,11,12,13] [704] [(0:Int)≤t13∧t13<(list.length:Int)] ⟨⟨om,om⟩,trivial⟩ (Zal (Zal ?_))
     rcases Bool.eq_false_or_eq_true (Zjq (at_ list t13.toNat)) with h3|h3
     ·have hrs:=Zxp.1 h3
      refine x_q [(1,.call [(true,.any)] true (Bv true))] [4,6,11,12,13,19] [704] [Con Tryd.prog 57 [I (at_ list t13.toNat)] true (Bv true)∧True] ⟨⟨(Zbd h3 (Zcd (at_ list t13.toNat))),trivial⟩,trivial⟩ (Zab (Zjn (Zbr (Zab ?_))))
      refine xR [(1,.call [(false,slI false out)] true (I (gsI out out.length)))] [4,7,11,12,13] [704] [.arr 704,I ((gsI out out.length)+(at_ list t13.toNat)),slI false list,I (list.length:Int),I t13] [some (tAI out)] [_∧((false=true→true=true)∧1=1∧out.length=out.length∧∀i_,i_<out.length→(fI out) i_=(fI out) i_∨(AV.idsL ((fI out) i_)=[]∧leL (fun _=>none) false ((fI out) i_) ((fI out) i_)))∧True,inR .i64 ((gsI out out.length)+(at_ list t13.toNat))] ⟨⟨(Zjl out (fun x h_=>hou x h_) om),⟨(fun h=>by cases h),rfl,rfl,fun i _=> .inl rfl⟩,trivial⟩,(Zad om om),trivial⟩ (Zal (Zal ?_))
      rcases Bool.eq_false_or_eq_true (inB ((gsI out out.length)+(at_ list t13.toNat)) (-125000000) 125000000) with h4|h4
      ·have hib:=inB_iff.1 h4
       refine x_q [(1,.call [(true,.any)] true (Bv true))] [4,7,11,12,13,26] [704] [Con Tryd.prog 58 [I ((gsI out out.length)+(at_ list t13.toNat))] true (Bv true)∧True] ⟨⟨(Zbd h4 (Zht ((gsI out out.length)+(at_ list t13.toNat)))),trivial⟩,trivial⟩ (Zab (Zjn (Zbr (Zab ?_))))
       refine x_q [(2,.new 29),(3,.new 30)] [4,11,12,13] [30] [(out.length+1)*8≤140737488355328] ⟨om,trivial⟩ (Zbs 1 (Zab ?_))
       refine x_r [] [4,11,12,13] [30] [.arr 30,slI false list,I (list.length:Int),I (t13+1)] [some (.arr 1 (out.length+1) (Zhi out.length (fI out) (Ziq [I ((gsI out out.length)+(at_ list t13.toNat))] 1)))] [inR .i64 (t13+1)] ⟨(Zad om om),trivial⟩ ?_
       refine Zcm [(704,30)] (T:=[(4,.arr 704),(11,slI false list),(12,I (list.length:Int)),(13,I (t13+1))]) (O:=[(704,tAI (out++[((gsI out out.length)+(at_ list t13.toNat))]))]) rfl (⟨.inl rfl,.inl rfl,.inl rfl,.inl rfl,trivial⟩) (⟨.inr ⟨rfl,(by first|rfl|(simp;done)|(simp;omega)|omega),fun i_ hi_=> .inl (Zen (enc:=cI) (xs:=out) rfl i_ hi_)⟩,trivial⟩) (Zbt ((out++[((gsI out out.length)+(at_ list t13.toNat))]),(t13+1)) rfl (show (0≤(t13+1)∧(t13+1)≤(list.length:Int))∧(∀y_∈(out++[((gsI out out.length)+(at_ list t13.toNat))]),-125000000≤y_∧y_≤125000000)∧(((out++[((gsI out out.length)+(at_ list t13.toNat))]).length:Int)=(t13+1))∧True from ⟨om,(by (intro y_ h_;rcases List.mem_append.1 h_ with q|q;(exact hou y_ q);(rw [List.mem_singleton] at q;subst q;omega))),(by (simp;omega)),trivial⟩) (by first|(show (((list.length:Int)-(t13+1)).toNat:Nat)<((list.length:Int)-t13).toNat;omega)|(dsimp only;omega)))
      refine x_q [(1,.call [(true,.any)] true (Bv false))] [4,7,11,12,13,26] [704] [Con Tryd.prog 58 [I ((gsI out out.length)+(at_ list t13.toNat))] true (Bv false)∧True] ⟨⟨(Zbd h4 (Zht ((gsI out out.length)+(at_ list t13.toNat)))),trivial⟩,trivial⟩ (Zab (Zfk ?_))
      refine xR [] [2,3] [] [Zcb,I 2] [] [] trivial (Zcw ?_)
      refine Zar (Zdv (Zar (Zhx (Zdv (Zar ?_)))))
      refine Zbw (([]:List Int),2) (show (([]:List Int).length≤60)∧(2=0→([]:List Int).length=list.length)∧(True) from ⟨(by first|omega|(simp;done)),(by first|exact fun q=>absurd q (by decide)|exact fun _=>by omega),trivial⟩) (trivial) (.tup [Zcb,I 2]) (by kernel_rfl) (.inr ⟨⟨rfl,rfl⟩,⟨rfl,rfl⟩⟩) (fun _=>rfl) (fun _=>(by simp [Zah,Zae,Ztf]))
     refine x_q [(1,.call [(true,.any)] true (Bv false))] [4,6,11,12,13,19] [704] [Con Tryd.prog 57 [I (at_ list t13.toNat)] true (Bv false)∧True] ⟨⟨(Zbd h3 (Zcd (at_ list t13.toNat))),trivial⟩,trivial⟩ (Zab (Zfk ?_))
     refine xR [] [2,3] [] [Zcb,I 2] [] [] trivial (Zcw ?_)
     refine Zar (Zdv (Zar (Zhx (Zdv (Zar ?_)))))
     refine Zbw (([]:List Int),2) (show (([]:List Int).length≤60)∧(2=0→([]:List Int).length=list.length)∧(True) from ⟨(by first|omega|(simp;done)),(by first|exact fun q=>absurd q (by decide)|exact fun _=>by omega),trivial⟩) (trivial) (.tup [Zcb,I 2]) (by kernel_rfl) (.inr ⟨⟨rfl,rfl⟩,⟨rfl,rfl⟩⟩) (fun _=>rfl) (fun _=>(by simp [Zah,Zae,Ztf]))
    refine x_r [(0,.dec false)] [4,11,12,13,14] [704] [.arr 704,slI false list,I (list.length:Int),I t13,Bv false] [some (tAI out)] [_] ⟨h2,trivial⟩ (Zab (Zal (Zcu rfl (Zdz (Zba ?_)))))
    refine Zbb ?_
    refine Zbc (Zab ?_)
    refine xR [] [2,3] [704] [.arr 704,I 0] [some (tAI out)] [] trivial (Zcw ?_)
    refine Zbw (out,0) (show (out.length≤60)∧(0=0→out.length=list.length)∧(True) from ⟨(by first|omega|(simp;done)),(by first|exact fun q=>absurd q (by decide)|exact fun _=>by omega),trivial⟩) (trivial) (.tup [.arr 704,I 0]) (by kernel_rfl) (.inr ⟨⟨(fun _=>rfl),rfl,rfl,fun i _=> .inl rfl⟩,⟨rfl,rfl⟩⟩) (fun _=>rfl) (fun _=>(by simp [Zah,Zae,Ztf]))
  obtain ⟨⟨v,c⟩,⟨hh0,hh1,_⟩,hc⟩:=hh
  exact ⟨v,c,hh0,hh1,hc⟩
theorem Zmp (rd:reader) (count:Int) (hok:Zdn rd.bits=true) (hp:0≤rd.atx∧rd.atx≤(rd.bits.size:Int)) (hc:0≤count∧count≤255):∃(v:List Int) (rd':reader),(v.length≤60)∧(rd'.bits=rd.bits)∧(0≤rd'.atx∧rd'.atx≤(rd.bits.size:Int))∧(rd'.broken=false→rd.broken=false∧(v.length:Int)=count)∧Zao Tryd.prog 36 [.ref 7003 0,I count] (Zac [(7003,Zag rd)]) true (slI true v) (Zac [(7003,Zag rd')]):=by
  have hsz:=(Zcy.1 hok).1
  have hh:∃r:(List Int)×reader,((r.1.length≤60)∧(r.2.bits=rd.bits)∧(0≤r.2.atx∧r.2.atx≤(rd.bits.size:Int))∧(r.2.broken=false→rd.broken=false∧(r.1.length:Int)=count)∧(True))∧Zao Tryd.prog 36 [.ref 7003 0,I count] (Zac [(7003,Zag rd)]) true (slI true r.1) (Zac [(7003,Zag r.2)]):=by
    refine Zdt (Φ:=fun r:(List Int)×reader=>(r.1.length≤60)∧(r.2.bits=rd.bits)∧(0≤r.2.atx∧r.2.atx≤(rd.bits.size:Int))∧(r.2.broken=false→rd.broken=false∧(r.1.length:Int)=count)∧(True)) [(7003,Zag rd)] (fun r=>[(7003,Zag r.2)]) (fn:=Tryd.f36) (nt:=67) Tryd.func36 rfl rfl (args:=[.ref 7003 0,I count]) rfl (Zca (.inr trivial) (Zca (.inl ⟨rfl,trivial⟩) Zdu)) (res:=fun r=>slI true r.1) ?_
    refine xQ [] [0,1] [7003] [] trivial (Zal ?_)
    obtain ⟨v_1,rd'_1,hx1_0,hx1_1,hx1_2,hx1_3,hx1_4,hc1⟩:=Zmo rd 4 hok hp om
    have hkb:=hx1_0
    have hrb:rd'_1.bits=rd.bits:=hx1_2
    have hra:=hx1_3
    have hrk:=hx1_4
    refine x_q [(1,.lend [(7003,Zag rd,Zag rd'_1)] [] [(true,.any),(true,.any)] true (I v_1))] [0,1,5] [7003] [Zao Tryd.prog 18 [.ref 7003 0,I 4] (Zac [(7003,Zag rd)]) true (I v_1) (Zac [(7003,Zag rd'_1)])∧(((Zag rd:Ob)=Zag rd∨Zed Zdl true (Zag rd) (Zag rd))∧Zai false (Zag rd))∧True] ⟨⟨hc1,⟨.inl rfl,(by simp [Zai,Zae,Zah])⟩,trivial⟩,trivial⟩ (Zab (Zal (Zal ?_)))
    by_cases h1:rd'_1.broken=true
    ·refine x_q [(3,.as (Bv true))] [0,1,5,21] [7003] [[Bv rd'_1.broken]=[Bv true]] ⟨(show [Bv rd'_1.broken]=[Bv true] from by rw [show rd'_1.broken=true from h1]),trivial⟩ (Zab (Zfk ?_))
     refine xR [] [] [7003] [] [some (.box [Sv rd'_1.bits,I rd'_1.atx,Bv true])] [] trivial ?_
     refine xR [] [4] [7003] [Zcb] [some (.box [Sv rd'_1.bits,I rd'_1.atx,Bv true])] [] trivial (Zcw (Zar ?_))
     refine Zbw (([]:List Int),(reader.mk rd'_1.bits rd'_1.atx true)) (show (([]:List Int).length≤60)∧((reader.mk rd'_1.bits rd'_1.atx true).bits=rd.bits)∧(0≤(reader.mk rd'_1.bits rd'_1.atx true).atx∧(reader.mk rd'_1.bits rd'_1.atx true).atx≤(rd.bits.size:Int))∧((reader.mk rd'_1.bits rd'_1.atx true).broken=false→rd.broken=false∧(([]:List Int).length:Int)=count)∧(True) from ⟨(by first|exact Nat.zero_le _|exact hfo|(simp;done)),(by first|exact hsb|exact hrb),(by first|(dsimp only;omega)),(by first|(intro q;have q2:true=false:=q;cases q2;done)|(intro q;refine ⟨hbr,?_⟩;have q2:=hfe (by simpa using q);omega)),trivial⟩) (⟨.inl rfl,trivial⟩) (Zcb) (by kernel_rfl) (.inr ⟨rfl,rfl⟩) (fun _=>rfl) (fun _=>(Ztf true _))
    have hbf:=Bool.eq_false_iff.2 h1
    by_cases h2:12<v_1
    ·refine x_q [(3,.as (Bv false)),(6,.dec true)] [0,1,5,21] [7003] [[Bv rd'_1.broken]=[Bv false],_] ⟨(show [Bv rd'_1.broken]=[Bv false] from by rw [show rd'_1.broken=false from Bool.eq_false_iff.2 h1]),h2,trivial⟩ (Zab (Zfk ?_))
     refine xQ [] [] [7003] [] trivial ?_
     refine xR [] [4] [7003] [Zcb] [some (.box [Sv rd'_1.bits,I rd'_1.atx,Bv true])] [] trivial (Zcw (Zar ?_))
     refine Zbw (([]:List Int),(reader.mk rd'_1.bits rd'_1.atx true)) (show (([]:List Int).length≤60)∧((reader.mk rd'_1.bits rd'_1.atx true).bits=rd.bits)∧(0≤(reader.mk rd'_1.bits rd'_1.atx true).atx∧(reader.mk rd'_1.bits rd'_1.atx true).atx≤(rd.bits.size:Int))∧((reader.mk rd'_1.bits rd'_1.atx true).broken=false→rd.broken=false∧(([]:List Int).length:Int)=count)∧(True) from ⟨(by first|exact Nat.zero_le _|exact hfo|(simp;done)),(by first|exact hsb|exact hrb),(by first|(dsimp only;omega)),(by first|(intro q;have q2:true=false:=q;cases q2;done)|(intro q;refine ⟨hbr,?_⟩;have q2:=hfe (by simpa using q);omega)),trivial⟩) (⟨.inl rfl,trivial⟩) (Zcb) (by kernel_rfl) (.inr ⟨rfl,rfl⟩) (fun _=>rfl) (fun _=>(Ztf true _))
    refine x_q [(3,.as (Bv false)),(6,.dec false)] [0,1,5,21] [7003] [[Bv rd'_1.broken]=[Bv false],_] ⟨(show [Bv rd'_1.broken]=[Bv false] from by rw [show rd'_1.broken=false from Bool.eq_false_iff.2 h1]),h2,trivial⟩ (Zab (Zjn (Zbr (Zab ?_))))
    refine xR [] [0,1,5,6] [7003] [.ref 7003 0,I count,I v_1,Zcb] [some (Zag rd'_1)] [] trivial (Zal (Zbl ?_))
    refine x_nil 6 706 1 (fun _=>[]) (by kernel_rfl) ?_
    refine Zhq [] (T:=[(0,.ref 7003 0),(1,I count),(5,I v_1),(6,.arr 706)]) (O:=[(706,tAI ([]:List Int)),(7003,Zag rd'_1)]) rfl (⟨.inl rfl,.inl rfl,.inl rfl,.inl rfl,trivial⟩) (⟨.inr ⟨rfl,(by first|rfl|(simp;done)|(simp;omega)|omega),fun i_ hi_=>absurd hi_ (Nat.not_lt_zero _)⟩,.inl rfl,trivial⟩) ?_
    refine Zee (X:=Int×(List Int)×reader) (fun x=>mkS [(0,.ref 7003 0),(1,I x.1),(5,I v_1),(6,.arr 706)] [(706,tAI x.2.1),(7003,Zag x.2.2)]) (fun x=>(0≤x.1∧x.1≤count)∧(x.2.2.bits=rd.bits)∧(0≤x.2.2.atx∧x.2.2.atx≤(rd.bits.size:Int))∧((x.2.1.length:Int)=count-x.1)∧(rd.broken=false)∧True) (fun x=>x.1.toNat) (count,([]:List Int),rd'_1) rfl (show (0≤count∧count≤count)∧(rd'_1.bits=rd.bits)∧(0≤rd'_1.atx∧rd'_1.atx≤(rd.bits.size:Int))∧((([]:List Int).length:Int)=count-count)∧(rd.broken=false)∧True from ⟨om,(by exact hrb),(by exact hra),(by (show ((0:Nat):Int)=_;omega)),(by exact hrk hbf),trivial⟩) (fun x hI=> ?_)
    obtain ⟨n_,rest,src⟩:=x
    obtain ⟨hn0,hsb,hsa,hrl,hbr,_⟩:(0≤n_∧n_≤count)∧(src.bits=rd.bits)∧(0≤src.atx∧src.atx≤(rd.bits.size:Int))∧((rest.length:Int)=count-n_)∧(rd.broken=false)∧True:=hI
    show XW _ _ _ _ (mkS [(0,.ref 7003 0),(1,I n_),(5,I v_1),(6,.arr 706)] [(706,tAI rest),(7003,Zag src)]) _ _
    refine Zal (Zal ?_)
    by_cases h3:0<n_
    ·have hokb:Zdn src.bits=true:=by rw [hsb];exact hok
     have hszb:src.bits.size=rd.bits.size:=by rw [hsb]
     refine x_q [(1,.dec true)] [0,1,5,6,26] [706,7003] [_] ⟨h3,trivial⟩ (Zab (Zfk (Zbr (Zab (Zal (Zbl ?_))))))
     refine xQ [(9,.call [(true,.any),(true,.any),(true,.any)] true (.tup [I ((Zbz src.bits src.atx v_1).1),I ((Zbz src.bits src.atx v_1).2.1),I ((Zbz src.bits src.atx v_1).2.2)]))] [0,1,5,6,7,8,9] [706,7003] [_∧True] ⟨⟨(Zrz src.bits src.atx v_1 (by assumption) om om),trivial⟩,trivial⟩ (Zal (Zal ?_))
     by_cases h4:((Zbz src.bits src.atx v_1).2.2)=0
     ·have hrn:=Zxn (s:=src.bits) (p:=src.atx) (k:=v_1) om om h4
      refine x_q [(1,.dec false)] [0,1,5,6,7,8,44] [706,7003] [¬ (((Zbz src.bits src.atx v_1).2.2)≠0)] ⟨(fun hq=>hq h4),trivial⟩ (Zab (Zjn (Zbr (Zab ?_))))
      refine xR [(2,.new 50),(3,.new 51)] [0,1,5,6,8] [51,7003] [.ref 7003 0,I n_,I v_1,.arr 51,I ((Zbz src.bits src.atx v_1).2.1)] [some (.arr 1 (rest.length+1) (Zhi rest.length (fI rest) (Ziq [I ((Zbz src.bits src.atx v_1).1)] 1))),some (Zag src)] [(rest.length+1)*8≤140737488355328] ⟨om,trivial⟩ ?_
      refine x_q [] [0,1,5,6] [51,7003] [] trivial (Zbs 1 (Zab ?_))
      refine x_r [] [0,1,5,6] [51,7003] [.ref 7003 0,I (n_-1),I v_1,.arr 51] [some (.arr 1 (rest.length+1) (Zhi rest.length (fI rest) (Ziq [I ((Zbz src.bits src.atx v_1).1)] 1))),some (.box [Sv src.bits,I ((Zbz src.bits src.atx v_1).2.1),Bv src.broken])] [inR .i64 (n_-1)] ⟨(Zad om om),trivial⟩ ?_
      refine Zcm [(706,51)] (T:=[(0,.ref 7003 0),(1,I (n_-1)),(5,I v_1),(6,.arr 706)]) (O:=[(706,tAI (rest++[(Zbz src.bits src.atx v_1).1])),(7003,.box [Sv ((reader.mk src.bits ((Zbz src.bits src.atx v_1).2.1) src.broken).bits),I ((reader.mk src.bits ((Zbz src.bits src.atx v_1).2.1) src.broken).atx),Bv ((reader.mk src.bits ((Zbz src.bits src.atx v_1).2.1) src.broken).broken)])]) rfl (⟨.inl rfl,.inl rfl,.inl rfl,.inl rfl,trivial⟩) (⟨.inr ⟨rfl,(by first|rfl|(simp;done)|(simp;omega)|omega),fun i_ hi_=> .inl (Zen (enc:=cI) (xs:=rest) rfl i_ hi_)⟩,.inr ⟨(by first|rfl|(simp [Ztu];done)|(simp [Ztu];omega)),⟨(by first|rfl|(simp [Ztu];done)|(simp [Ztu];omega)),⟨(by first|rfl|(simp [Ztu];done)|(simp [Ztu];omega)),rfl⟩⟩⟩,trivial⟩) (Zbt ((n_-1),(rest++[(Zbz src.bits src.atx v_1).1]),(reader.mk src.bits ((Zbz src.bits src.atx v_1).2.1) src.broken)) rfl (show (0≤(n_-1)∧(n_-1)≤count)∧((reader.mk src.bits ((Zbz src.bits src.atx v_1).2.1) src.broken).bits=rd.bits)∧(0≤(reader.mk src.bits ((Zbz src.bits src.atx v_1).2.1) src.broken).atx∧(reader.mk src.bits ((Zbz src.bits src.atx v_1).2.1) src.broken).atx≤(rd.bits.size:Int))∧(((rest++[(Zbz src.bits src.atx v_1).1]).length:Int)=count-(n_-1))∧(rd.broken=false)∧True from ⟨om,(by first|exact hsb|rfl),(by (dsimp only;omega)),(by (simp;omega)),(by exact hbr),trivial⟩) (by first|(show ((n_-1).toNat:Nat)<n_.toNat;omega)|(dsimp only;omega)))
     refine x_q [(1,.dec true)] [0,1,5,6,7,8,44] [706,7003] [_] ⟨h4,trivial⟩ (Zab (Zfk ?_))
     refine xQ [] [] [7003] [] trivial ?_
     refine xR [] [4] [7003] [Zcb] [some (.box [Sv src.bits,I src.atx,Bv true])] [] trivial (Zcw ?_)
     refine Zar (Zdv (Zar (Zhx (Zdv (Zar ?_)))))
     refine Zbw (([]:List Int),(reader.mk src.bits src.atx true)) (show (([]:List Int).length≤60)∧((reader.mk src.bits src.atx true).bits=rd.bits)∧(0≤(reader.mk src.bits src.atx true).atx∧(reader.mk src.bits src.atx true).atx≤(rd.bits.size:Int))∧((reader.mk src.bits src.atx true).broken=false→rd.broken=false∧(([]:List Int).length:Int)=count)∧(True) from ⟨(by first|exact Nat.zero_le _|exact hfo|(simp;done)),(by first|exact hsb|exact hrb),(by first|(dsimp only;omega)),(by first|(intro q;have q2:true=false:=q;cases q2;done)|(intro q;refine ⟨hbr,?_⟩;have q2:=hfe (by simpa using q);omega)),trivial⟩) (⟨.inl rfl,trivial⟩) (Zcb) (by kernel_rfl) (.inr ⟨rfl,rfl⟩) (fun _=>rfl) (fun _=>(Ztf true _))
    refine x_r [(1,.dec false)] [0,1,5,6,26] [706,7003] [.ref 7003 0,I n_,I v_1,.arr 706,Bv false] [some (tAI rest),some (Zag src)] [_] ⟨h3,trivial⟩ (Zab (Zcu rfl (Zdz (Zba ?_))))
    refine Zbb ?_
    refine Zbc (Zab (Zal ?_))
    obtain ⟨v_2,c_2,hx2_0,hx2_1,hc2⟩:=Zjr rest om
    have hfo:=hx2_0
    have hfe:=hx2_1
    refine x_q [(1,.call [(false,slI false rest)] true (.tup [slI true v_2,I c_2]))] [0,10,11] [7003] [_∧((false=true→true=true)∧1=1∧rest.length=rest.length∧∀i_,i_<rest.length→(fI rest) i_=(fI rest) i_∨(AV.idsL ((fI rest) i_)=[]∧leL (fun _=>none) false ((fI rest) i_) ((fI rest) i_)))∧True] ⟨⟨hc2,⟨(fun h=>by cases h),rfl,rfl,fun i _=> .inl rfl⟩,trivial⟩,trivial⟩ (Zab ?_)
    refine xQ [] [10] [7003] [] trivial ?_
    refine xR [] [4] [7003] [slI true v_2] [some (.box [Sv src.bits,I src.atx,Bv (decide (c_2≠0))])] [] trivial (Zcw ?_)
    refine Zbw (v_2,(reader.mk src.bits src.atx (decide (c_2≠0)))) (show (v_2.length≤60)∧((reader.mk src.bits src.atx (decide (c_2≠0))).bits=rd.bits)∧(0≤(reader.mk src.bits src.atx (decide (c_2≠0))).atx∧(reader.mk src.bits src.atx (decide (c_2≠0))).atx≤(rd.bits.size:Int))∧((reader.mk src.bits src.atx (decide (c_2≠0))).broken=false→rd.broken=false∧(v_2.length:Int)=count)∧(True) from ⟨(by first|exact Nat.zero_le _|exact hfo|(simp;done)),(by first|exact hsb|exact hrb),(by first|(dsimp only;omega)),(by first|(intro q;have q2:true=false:=q;cases q2;done)|(intro q;refine ⟨hbr,?_⟩;have q2:=hfe (by simpa using q);omega)),trivial⟩) (⟨.inl rfl,trivial⟩) (slI true v_2) (by kernel_rfl) (.inl rfl) (fun _=>rfl) (fun _=>(Ztf true _))
  obtain ⟨⟨v,rd'⟩,⟨hh0,hh1,hh2,hh3,_⟩,hc⟩:=hh
  exact ⟨v,rd',hh0,hh1,hh2,hh3,hc⟩
end Go.Proofs.YtnlfghpgfjlblaaDoor.Ax
