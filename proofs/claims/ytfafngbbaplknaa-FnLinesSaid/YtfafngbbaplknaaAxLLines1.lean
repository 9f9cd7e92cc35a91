/- Contracts that the statement FnLines reaches, part 1. No conditions. -/
import Derived.Test.YtfafngbbaplknaaAxO
import Derived.Test.YtfafngbbaplknaaShelf
import Derived.Test.YtfafngbbaplknaaAxR
import Derived.Test.YtfafngbbaplknaaAxRS
import Derived.Test.YtfafngbbaplknaaAxS
import Derived.Test.YtfafngbbaplknaaAxY
namespace Go.Proofs.Ytfafngbbaplknaa.Ax
open Go.RowKit Go.ChangeShapes Go.WideShapes
set_option linter.unusedVariables false
set_option linter.unusedSimpArgs false
def cU8 (x:Int):List AV:=[.val (.int .u8 x)]
def fU8 (xs:List Int) (i:Nat):List AV:=cU8 (at_ xs i)
def Zcu (fr:Bool) (xs:List Int):AV:= .sl fr 1 xs.length (fU8 xs)
theorem tagcU8 (t:Bool) (x:Int):Zaf t (cU8 x):=by simp [cU8,Zaf,Zaj]
theorem Zcc (t:Bool) (xs:List Int):Zaj t (Zcu t xs):=by simp only [Zcu,Zaj];exact ⟨trivial,fun i _=>tagcU8 t _⟩
def cI (x:Int):List AV:=[I x]
def fI (xs:List Int) (i:Nat):List AV:=cI (at_ xs i)
def slI (fr:Bool) (xs:List Int):AV:= .sl fr 1 xs.length (fI xs)
theorem Zro (t:Bool) (x:Int):Zaf t (cI x):=by simp [cI,Zaf,Zaj]
theorem Zje (t:Bool) (xs:List Int):Zaj t (slI t xs):=by simp only [slI,Zaj];exact ⟨trivial,fun i _=>Zro t _⟩
abbrev tAI (xs:List Int):Ob:= .arr 1 xs.length (fI xs)
structure Box where
 X1:Int
 Y1:Int
 X2:Int
 Y2:Int
deriving DecidableEq,Inhabited
def Zmo (x:Box):List AV:=[I x.X1,I x.Y1,I x.X2,I x.Y2]
def Zdi (xs:List Box) (i:Nat):List AV:=Zmo (at_ xs i)
def Zag (fr:Bool) (xs:List Box):AV:= .sl fr 4 xs.length (Zdi xs)
theorem tagcBox (t:Bool) (x:Box):Zaf t (Zmo x):=by simp [Zmo,Zaf,Zaj]
theorem Zbz (t:Bool) (xs:List Box):Zaj t (Zag t xs):=by simp only [Zag,Zaj];exact ⟨trivial,fun i _=>tagcBox t _⟩
abbrev Zgu (x:Box):Ob:= .box [I x.X1,I x.Y1,I x.X2,I x.Y2]
abbrev Zga (x:Box):AV:= .agg [I x.X1,I x.Y1,I x.X2,I x.Y2]
abbrev Zfd (xs:List Box):Ob:= .arr 4 xs.length (Zdi xs)
def cLU8 (fr:Bool) (x:List Int):List AV:=[Zcu fr x]
structure l00Src where
 code:List Int
 atx:Int
 seed:Int
deriving DecidableEq,Inhabited
abbrev Zaa (x:l00Src):Ob:= .box [Zcu false x.code,I x.atx,.val (.int .u64 x.seed)]
structure Line where
 Top:Int
 Bottom:Int
 Items:List Int
deriving DecidableEq,Inhabited
def Zfg (fr:Bool) (x:Line):List AV:=[I x.Top,I x.Bottom,slI fr x.Items]
def Zcd (fr:Bool) (xs:List Line) (i:Nat):List AV:=Zfg fr (at_ xs i)
def Zan (fr:Bool) (xs:List Line):AV:= .sl fr 3 xs.length (Zcd fr xs)
theorem tagcLine (t:Bool) (x:Line):Zaf t (Zfg t x):=by simp [Zfg,Zaf,Zaj,Zje]
theorem Zdw (t:Bool) (xs:List Line):Zaj t (Zan t xs):=by simp only [Zan,Zaj];exact ⟨trivial,fun i _=>tagcLine t _⟩
theorem Zjr (fr:Bool) (x:Line):AV.idsL (Zfg fr x)=[]:=rfl
theorem Znf (fr:Bool) (x:Line) (ob:Nat→Option Ob):leL ob false (Zfg fr x) (Zfg false x):=(And.intro rfl (And.intro rfl (And.intro (And.intro (fun h=>by cases h) (And.intro rfl (And.intro rfl (fun i _=> .inl rfl)))) rfl)))
abbrev bxLine (x:Line):Ob:= .box [I x.Top,I x.Bottom,slI false x.Items]
abbrev Zdj (x:Line):AV:= .agg [I x.Top,I x.Bottom,slI false x.Items]
abbrev Zgm (x:Line):Ob:= .box [I x.Top,I x.Bottom,slI true x.Items]
abbrev Zex (x:Line):AV:= .agg [I x.Top,I x.Bottom,slI true x.Items]
abbrev Zct (fr:Bool) (xs:List Line):Ob:= .arr 3 xs.length (Zcd fr xs)
structure f6dice where
 b:List Int
 i:Int
 h:Int
deriving DecidableEq,Inhabited
abbrev Zaw (x:f6dice):Ob:= .box [Zcu false x.b,I x.i,.val (.int .u64 x.h)]
def cB (x:Bool):List AV:=[Bv x]
def fB (xs:List Bool) (i:Nat):List AV:=cB (at_ xs i)
abbrev tAB (xs:List Bool):Ob:= .arr 1 xs.length (fB xs)
theorem Zte (code:List Int):Con Try.prog 5 [Zcu false code] true (Bv (decide (4096<(code.length:Int)))):=by
 refine Zcn (fn:=Try.f5) (nt:=6) Try.func5 rfl rfl rfl rfl (by simp [Zaf,Zaj,Zcc]) fun B hB=> ?_
 refine Zbk (x:=Zcu false code) 0 rfl (fun len_code=> ?_)
 simp [Zco,Zfb,cU8,fU8,Zcu] at len_code
 refine aQ [] [0] [] [] hB trivial ?_
 refine aR [] [2] [] [Bv (decide (4096<(code.length:Int)))] [] [] hB trivial (Zav ?_)
 refine Zat hB (Bv (decide (4096<(code.length:Int)))) (by kernel_rfl) (.inl rfl) rfl (fun _=>trivial)
def same {α:Type} [DecidableEq α] (x y:α):Bool:=decide (x=y)
theorem ext_at {α:Type} [Inhabited α] {xs ys:List α} (hl:xs.length=ys.length) (h:∀j:Nat,j<xs.length→at_ xs j=at_ ys j):xs=ys:=by
 apply List.ext_getElem hl
 intro i h1 h2
 rw [←Zem h1,←Zem h2]
 exact h i h1
theorem Zbf {α:Type} [Inhabited α] {xs:List α} {i:Nat} (h:i<xs.length):at_ xs i∈xs:=by rw [Zem h];exact List.getElem_mem h
def Zlb (n:Nat) (p:Nat→Bool):Bool:=(List.range n).all p
def Zsu (n:Nat) (p:Nat→Bool):Bool:= !(Zlb n fun j=> !(p j))
theorem Zlc {n:Nat} {p:Nat→Bool} :Zlb n p=true↔∀j,j<n→p j=true:=by simp [Zlb,List.all_eq_true]
theorem Zgx {n:Nat} {p:Nat→Bool} (h:∀j,j<n→p j=true):Zlb n p=true:=Zlc.2 h
theorem Zhu {n:Nat} {p:Nat→Bool} (h:Zlb n p=true) {k:Nat} (hk:k<n):p k=true:=Zlc.1 h k hk
theorem Zhw {n:Nat} {p:Nat→Bool} {k:Nat} (hk:k<n) (h:p k=false):Zlb n p=false:=by
 rw [←Bool.not_eq_true,Zlc];intro h';rw [h' k hk] at h;cases h
theorem Zpo (n:Nat) (p:Nat→Bool):Zsu n (fun j=> !(p j))= !(Zlb n p):=by simp [Zsu]
theorem anyN_at {n:Nat} {p:Nat→Bool} {k:Nat} (hk:k<n) (h:p k=true):Zsu n p=true:=by
 unfold Zsu;rw [Zhw hk (by simp [h])];rfl
theorem Zyx {n:Nat} {p:Nat→Bool} (h:∀j,j<n→p j=false):Zsu n p=false:=by
 unfold Zsu;rw [Zgx (fun j hj=>by simp [h j hj])];rfl
def Zbb (s:l00Src):Prop:=(∀j,j<s.code.length→0≤at_ s.code j∧at_ s.code j≤255)∧0≤s.atx∧s.code.length≤4611686018427387904
theorem Zyy (a:Int):0≤Zdn .and .u64 a 255∧Zdn .and .u64 a 255≤255:=by
 obtain ⟨n,hn⟩:∃n:Nat,n=(BitVec.ofInt 64 a&&&BitVec.ofInt 64 255).toNat:=⟨_,rfl⟩
 have h:n≤255:=by rw [hn,BitVec.toNat_and];exact Nat.and_le_right
 have e:Zdn .and .u64 a 255=IntKind.u64.wrap (n:Int):=by rw [hn];rfl
 have w:IntKind.u64.wrap (n:Int)=n:=Zgb (Zeo om om)
 rw [e,w];omega
theorem Zka (code:List Int):∃(s':l00Src),(s'.code=code∧s'.atx=0)∧Zap Try.prog 29 [Zcu false code] (Zac []) false (.ref 7001 0) (Zac [(7001,Zaa s')]):=by
 have hh:∃r:l00Src,((r.code=code∧r.atx=0)∧(True))∧Zap Try.prog 29 [Zcu false code] (Zac []) false (.ref 7001 0) (Zac [(7001,Zaa r)]):=by
  refine Zda (Φ:=fun r:l00Src=>(r.code=code∧r.atx=0)∧(True)) [] (fun r=>[(7001,Zaa r)]) (fn:=Try.f29) (nt:=6) Try.func29 rfl rfl (args:=[Zcu false code]) rfl (Zax (.inl ⟨rfl,Zcc false _⟩) Zcz) (res:=fun r=> .ref 7001 0) ?_
  refine xQ [] [0] [] [] trivial ?_
  refine xR [(2,.new 7001)] [2] [7001] [.ref 7001 0] [some (.box [Zcu false code,I 0,.val (.int .u64 0)])] [] trivial (Zcl ?_)
  refine Zbs (l00Src.mk code 0 0) (show ((l00Src.mk code 0 0).code=code∧(l00Src.mk code 0 0).atx=0)∧(True) from ⟨(by first|rfl|(exact ⟨rfl,rfl⟩)),trivial⟩) (⟨.inl rfl,trivial⟩) (.ref 7001 0) (by kernel_rfl) (.inl rfl) (fun h=>by cases h) (fun h=>by cases h)
 obtain ⟨s',⟨hh0,_⟩,hc⟩:=hh
 exact ⟨s',hh0,hc⟩
theorem Zyz (s:l00Src) (hs:Zbb s) (ha:s.atx≤4000000000000000000):∃(v:Int) (s':l00Src),(0≤v∧v≤255)∧(Zbb s')∧(s'.code=s.code)∧(s.atx+1≤s'.atx∧s'.atx≤s.atx+1)∧Zap Try.prog 71 [.ref 7001 0] (Zac [(7001,Zaa s)]) true (I v) (Zac [(7001,Zaa s')]):=by
  have hs0:=hs.2.1
  have hs1:=hs.2.2
  have hh:∃r:Int×l00Src,((0≤r.1∧r.1≤255)∧(Zbb r.2)∧(r.2.code=s.code)∧(s.atx+1≤r.2.atx∧r.2.atx≤s.atx+1)∧(True))∧Zap Try.prog 71 [.ref 7001 0] (Zac [(7001,Zaa s)]) true (I r.1) (Zac [(7001,Zaa r.2)]):=by
    refine Zda (Φ:=fun r:Int×l00Src=>(0≤r.1∧r.1≤255)∧(Zbb r.2)∧(r.2.code=s.code)∧(s.atx+1≤r.2.atx∧r.2.atx≤s.atx+1)∧(True)) [(7001,Zaa s)] (fun r=>[(7001,Zaa r.2)]) (fn:=Try.f71) (nt:=62) Try.func71 rfl rfl (args:=[.ref 7001 0]) rfl (Zax (.inr trivial) Zcz) (res:=fun r=>I r.1) ?_
    refine xQ [] [0] [7001] [] trivial ?_
    refine xQ [] [0,3] [7001] [] trivial (Zau (Zau ?_))
    by_cases h1:s.atx<(s.code.length:Int)
    ·have hbt:=hs.1 s.atx.toNat om
     refine x_q [(9,.dec true)] [0,3,13] [7001] [_] ⟨h1,trivial⟩ (Zad (Zib ?_))
     refine x_r [] [0,3] [7001] [.ref 7001 0,I (at_ s.code s.atx.toNat)] [some (Zaa s)] [(0:Int)≤s.atx∧s.atx<(s.code.length:Int),inR .i64 (at_ s.code s.atx.toNat)] ⟨⟨om,om⟩,(Zah om om),trivial⟩ (Zad ?_)
     refine xQ [] [0,3] [7001] [inR .i64 (s.atx+1)] ⟨(Zah om om),trivial⟩ ?_
     refine xQ [(5,.wrap),(8,.wrap),(9,.wrap)] [0,3] [7001] [inR .u64 (at_ s.code s.atx.toNat)] ⟨(Zeo om om),trivial⟩ (Zau (Zau ?_))
     by_cases h2:(s.atx+1)≤(s.code.length:Int)
     ·refine x_q [(9,.dec true)] [0,3,53] [7001] [_] ⟨h2,trivial⟩ (Zad (Zib ?_))
      refine xR [] [2] [7001] [I (at_ s.code s.atx.toNat)] [some (.box [Zcu false s.code,I (s.atx+1),.val (.int .u64 (IntKind.u64.wrap ((IntKind.u64.wrap ((IntKind.u64.wrap (s.seed*6364136223846793005))+(at_ s.code s.atx.toNat)))+1442695040888963407)))])] [] trivial (Zcl (Zcy ?_))
      refine Zbs ((at_ s.code s.atx.toNat),(l00Src.mk s.code (s.atx+1) (IntKind.u64.wrap ((IntKind.u64.wrap ((IntKind.u64.wrap (s.seed*6364136223846793005))+(at_ s.code s.atx.toNat)))+1442695040888963407)))) (show (0≤(at_ s.code s.atx.toNat)∧(at_ s.code s.atx.toNat)≤255)∧(Zbb (l00Src.mk s.code (s.atx+1) (IntKind.u64.wrap ((IntKind.u64.wrap ((IntKind.u64.wrap (s.seed*6364136223846793005))+(at_ s.code s.atx.toNat)))+1442695040888963407))))∧((l00Src.mk s.code (s.atx+1) (IntKind.u64.wrap ((IntKind.u64.wrap ((IntKind.u64.wrap (s.seed*6364136223846793005))+(at_ s.code s.atx.toNat)))+1442695040888963407))).code=s.code)∧(s.atx+1≤(l00Src.mk s.code (s.atx+1) (IntKind.u64.wrap ((IntKind.u64.wrap ((IntKind.u64.wrap (s.seed*6364136223846793005))+(at_ s.code s.atx.toNat)))+1442695040888963407))).atx∧(l00Src.mk s.code (s.atx+1) (IntKind.u64.wrap ((IntKind.u64.wrap ((IntKind.u64.wrap (s.seed*6364136223846793005))+(at_ s.code s.atx.toNat)))+1442695040888963407))).atx≤s.atx+1)∧(True) from ⟨(by first|omega|rfl|assumption|(dsimp only;first|omega|rfl|assumption)|(simp only [*];done)|exact ⟨hs.1,(by dsimp only;omega),hs1⟩),(by first|omega|rfl|assumption|(dsimp only;first|omega|rfl|assumption)|(simp only [*];done)|exact ⟨hs.1,(by dsimp only;omega),hs1⟩),(by first|omega|rfl|assumption|(dsimp only;first|omega|rfl|assumption)|(simp only [*];done)|exact ⟨hs.1,(by dsimp only;omega),hs1⟩),(by first|omega|rfl|assumption|(dsimp only;first|omega|rfl|assumption)|(simp only [*];done)|exact ⟨hs.1,(by dsimp only;omega),hs1⟩),trivial⟩) (⟨.inl rfl,trivial⟩) (I (at_ s.code s.atx.toNat)) (by kernel_rfl) (.inl rfl) (fun _=>rfl) (fun _=>trivial)
     refine x_q [(9,.dec false)] [0,3,53] [7001] [_] ⟨h2,trivial⟩ (Zad (Ziv (Zca (Zad (Zau ?_)))))
     have hb1:=Zyy ((IntKind.u64.wrap ((IntKind.u64.wrap ((IntKind.u64.wrap (s.seed*6364136223846793005))+(at_ s.code s.atx.toNat)))+1442695040888963407))/1099511627776)
     refine x_r [] [2] [7001] [I (Zdn .and .u64 ((IntKind.u64.wrap ((IntKind.u64.wrap ((IntKind.u64.wrap (s.seed*6364136223846793005))+(at_ s.code s.atx.toNat)))+1442695040888963407))/1099511627776) 255)] [some (.box [Zcu false s.code,I (s.atx+1),.val (.int .u64 (IntKind.u64.wrap ((IntKind.u64.wrap ((IntKind.u64.wrap (s.seed*6364136223846793005))+(at_ s.code s.atx.toNat)))+1442695040888963407)))])] [(0:Int)≤40∧(40:Int)≤((IntKind.bits .u64:Nat):Int),inR .i64 (Zdn .and .u64 ((IntKind.u64.wrap ((IntKind.u64.wrap ((IntKind.u64.wrap (s.seed*6364136223846793005))+(at_ s.code s.atx.toNat)))+1442695040888963407))/1099511627776) 255)] ⟨⟨(by decide),(by decide)⟩,(Zah om om),trivial⟩ (Zad (Zcl ?_))
     refine Zbs ((Zdn .and .u64 ((IntKind.u64.wrap ((IntKind.u64.wrap ((IntKind.u64.wrap (s.seed*6364136223846793005))+(at_ s.code s.atx.toNat)))+1442695040888963407))/1099511627776) 255),(l00Src.mk s.code (s.atx+1) (IntKind.u64.wrap ((IntKind.u64.wrap ((IntKind.u64.wrap (s.seed*6364136223846793005))+(at_ s.code s.atx.toNat)))+1442695040888963407)))) (show (0≤(Zdn .and .u64 ((IntKind.u64.wrap ((IntKind.u64.wrap ((IntKind.u64.wrap (s.seed*6364136223846793005))+(at_ s.code s.atx.toNat)))+1442695040888963407))/1099511627776) 255)∧(Zdn .and .u64 ((IntKind.u64.wrap ((IntKind.u64.wrap ((IntKind.u64.wrap (s.seed*6364136223846793005))+(at_ s.code s.atx.toNat)))+1442695040888963407))/1099511627776) 255)≤255)∧(Zbb (l00Src.mk s.code (s.atx+1) (IntKind.u64.wrap ((IntKind.u64.wrap ((IntKind.u64.wrap (s.seed*6364136223846793005))+(at_ s.code s.atx.toNat)))+1442695040888963407))))∧((l00Src.mk s.code (s.atx+1) (IntKind.u64.wrap ((IntKind.u64.wrap ((IntKind.u64.wrap (s.seed*6364136223846793005))+(at_ s.code s.atx.toNat)))+1442695040888963407))).code=s.code)∧(s.atx+1≤(l00Src.mk s.code (s.atx+1) (IntKind.u64.wrap ((IntKind.u64.wrap ((IntKind.u64.wrap (s.seed*6364136223846793005))+(at_ s.code s.atx.toNat)))+1442695040888963407))).atx∧(l00Src.mk s.code (s.atx+1) (IntKind.u64.wrap ((IntKind.u64.wrap ((IntKind.u64.wrap (s.seed*6364136223846793005))+(at_ s.code s.atx.toNat)))+1442695040888963407))).atx≤s.atx+1)∧(True) from ⟨(by first|omega|rfl|assumption|(dsimp only;first|omega|rfl|assumption)|(simp only [*];done)|exact ⟨hs.1,(by dsimp only;omega),hs1⟩),(by first|omega|rfl|assumption|(dsimp only;first|omega|rfl|assumption)|(simp only [*];done)|exact ⟨hs.1,(by dsimp only;omega),hs1⟩),(by first|omega|rfl|assumption|(dsimp only;first|omega|rfl|assumption)|(simp only [*];done)|exact ⟨hs.1,(by dsimp only;omega),hs1⟩),(by first|omega|rfl|assumption|(dsimp only;first|omega|rfl|assumption)|(simp only [*];done)|exact ⟨hs.1,(by dsimp only;omega),hs1⟩),trivial⟩) (⟨.inl rfl,trivial⟩) (I (Zdn .and .u64 ((IntKind.u64.wrap ((IntKind.u64.wrap ((IntKind.u64.wrap (s.seed*6364136223846793005))+(at_ s.code s.atx.toNat)))+1442695040888963407))/1099511627776) 255)) (by kernel_rfl) (.inl rfl) (fun _=>rfl) (fun _=>trivial)
    refine x_q [(9,.dec false)] [0,3,13] [7001] [_] ⟨h1,trivial⟩ (Zad (Ziv (Zca (Zad ?_))))
    refine xQ [] [0,3] [7001] [inR .i64 (s.atx+1)] ⟨(Zah om om),trivial⟩ ?_
    refine xQ [(5,.wrap),(8,.wrap),(9,.wrap)] [0,3] [7001] [inR .u64 0] ⟨(Zeo om om),trivial⟩ (Zau (Zau ?_))
    by_cases h3:(s.atx+1)≤(s.code.length:Int)
    ·refine x_r [(9,.dec true)] [0,3,53] [7001] [.ref 7001 0,I 0,Bv true] [some (.box [Zcu false s.code,I (s.atx+1),.val (.int .u64 (IntKind.u64.wrap ((IntKind.u64.wrap ((IntKind.u64.wrap (s.seed*6364136223846793005))+0))+1442695040888963407)))])] [_] ⟨h3,trivial⟩ (Zad (Zfv rfl ?_))
     refine xR [] [2] [7001] [I 0] [some (.box [Zcu false s.code,I (s.atx+1),.val (.int .u64 (IntKind.u64.wrap ((IntKind.u64.wrap ((IntKind.u64.wrap (s.seed*6364136223846793005))+0))+1442695040888963407)))])] [] trivial (Zcl (Zcy ?_))
     refine Zbs (0,(l00Src.mk s.code (s.atx+1) (IntKind.u64.wrap ((IntKind.u64.wrap ((IntKind.u64.wrap (s.seed*6364136223846793005))+0))+1442695040888963407)))) (show (0≤0∧0≤255)∧(Zbb (l00Src.mk s.code (s.atx+1) (IntKind.u64.wrap ((IntKind.u64.wrap ((IntKind.u64.wrap (s.seed*6364136223846793005))+0))+1442695040888963407))))∧((l00Src.mk s.code (s.atx+1) (IntKind.u64.wrap ((IntKind.u64.wrap ((IntKind.u64.wrap (s.seed*6364136223846793005))+0))+1442695040888963407))).code=s.code)∧(s.atx+1≤(l00Src.mk s.code (s.atx+1) (IntKind.u64.wrap ((IntKind.u64.wrap ((IntKind.u64.wrap (s.seed*6364136223846793005))+0))+1442695040888963407))).atx∧(l00Src.mk s.code (s.atx+1) (IntKind.u64.wrap ((IntKind.u64.wrap ((IntKind.u64.wrap (s.seed*6364136223846793005))+0))+1442695040888963407))).atx≤s.atx+1)∧(True) from ⟨(by first|omega|rfl|assumption|(dsimp only;first|omega|rfl|assumption)|(simp only [*];done)|exact ⟨hs.1,(by dsimp only;omega),hs1⟩),(by first|omega|rfl|assumption|(dsimp only;first|omega|rfl|assumption)|(simp only [*];done)|exact ⟨hs.1,(by dsimp only;omega),hs1⟩),(by first|omega|rfl|assumption|(dsimp only;first|omega|rfl|assumption)|(simp only [*];done)|exact ⟨hs.1,(by dsimp only;omega),hs1⟩),(by first|omega|rfl|assumption|(dsimp only;first|omega|rfl|assumption)|(simp only [*];done)|exact ⟨hs.1,(by dsimp only;omega),hs1⟩),trivial⟩) (⟨.inl rfl,trivial⟩) (I 0) (by kernel_rfl) (.inl rfl) (fun _=>rfl) (fun _=>trivial)
    refine x_q [(9,.dec false)] [0,3,53] [7001] [_] ⟨h3,trivial⟩ (Zad (Ziv (Zca (Zad (Zau ?_)))))
    have hb2:=Zyy ((IntKind.u64.wrap ((IntKind.u64.wrap ((IntKind.u64.wrap (s.seed*6364136223846793005))+0))+1442695040888963407))/1099511627776)
    refine x_r [] [2] [7001] [I (Zdn .and .u64 ((IntKind.u64.wrap ((IntKind.u64.wrap ((IntKind.u64.wrap (s.seed*6364136223846793005))+0))+1442695040888963407))/1099511627776) 255)] [some (.box [Zcu false s.code,I (s.atx+1),.val (.int .u64 (IntKind.u64.wrap ((IntKind.u64.wrap ((IntKind.u64.wrap (s.seed*6364136223846793005))+0))+1442695040888963407)))])] [(0:Int)≤40∧(40:Int)≤((IntKind.bits .u64:Nat):Int),inR .i64 (Zdn .and .u64 ((IntKind.u64.wrap ((IntKind.u64.wrap ((IntKind.u64.wrap (s.seed*6364136223846793005))+0))+1442695040888963407))/1099511627776) 255)] ⟨⟨(by decide),(by decide)⟩,(Zah om om),trivial⟩ (Zad (Zcl ?_))
    refine Zbs ((Zdn .and .u64 ((IntKind.u64.wrap ((IntKind.u64.wrap ((IntKind.u64.wrap (s.seed*6364136223846793005))+0))+1442695040888963407))/1099511627776) 255),(l00Src.mk s.code (s.atx+1) (IntKind.u64.wrap ((IntKind.u64.wrap ((IntKind.u64.wrap (s.seed*6364136223846793005))+0))+1442695040888963407)))) (show (0≤(Zdn .and .u64 ((IntKind.u64.wrap ((IntKind.u64.wrap ((IntKind.u64.wrap (s.seed*6364136223846793005))+0))+1442695040888963407))/1099511627776) 255)∧(Zdn .and .u64 ((IntKind.u64.wrap ((IntKind.u64.wrap ((IntKind.u64.wrap (s.seed*6364136223846793005))+0))+1442695040888963407))/1099511627776) 255)≤255)∧(Zbb (l00Src.mk s.code (s.atx+1) (IntKind.u64.wrap ((IntKind.u64.wrap ((IntKind.u64.wrap (s.seed*6364136223846793005))+0))+1442695040888963407))))∧((l00Src.mk s.code (s.atx+1) (IntKind.u64.wrap ((IntKind.u64.wrap ((IntKind.u64.wrap (s.seed*6364136223846793005))+0))+1442695040888963407))).code=s.code)∧(s.atx+1≤(l00Src.mk s.code (s.atx+1) (IntKind.u64.wrap ((IntKind.u64.wrap ((IntKind.u64.wrap (s.seed*6364136223846793005))+0))+1442695040888963407))).atx∧(l00Src.mk s.code (s.atx+1) (IntKind.u64.wrap ((IntKind.u64.wrap ((IntKind.u64.wrap (s.seed*6364136223846793005))+0))+1442695040888963407))).atx≤s.atx+1)∧(True) from ⟨(by first|omega|rfl|assumption|(dsimp only;first|omega|rfl|assumption)|(simp only [*];done)|exact ⟨hs.1,(by dsimp only;omega),hs1⟩),(by first|omega|rfl|assumption|(dsimp only;first|omega|rfl|assumption)|(simp only [*];done)|exact ⟨hs.1,(by dsimp only;omega),hs1⟩),(by first|omega|rfl|assumption|(dsimp only;first|omega|rfl|assumption)|(simp only [*];done)|exact ⟨hs.1,(by dsimp only;omega),hs1⟩),(by first|omega|rfl|assumption|(dsimp only;first|omega|rfl|assumption)|(simp only [*];done)|exact ⟨hs.1,(by dsimp only;omega),hs1⟩),trivial⟩) (⟨.inl rfl,trivial⟩) (I (Zdn .and .u64 ((IntKind.u64.wrap ((IntKind.u64.wrap ((IntKind.u64.wrap (s.seed*6364136223846793005))+0))+1442695040888963407))/1099511627776) 255)) (by kernel_rfl) (.inl rfl) (fun _=>rfl) (fun _=>trivial)
  obtain ⟨⟨v,s'⟩,⟨hh0,hh1,hh2,hh3,_⟩,hc⟩:=hh
  exact ⟨v,s',hh0,hh1,hh2,hh3,hc⟩
theorem Zcv (s:l00Src) (n:Int) (hs:Zbb s) (ha:s.atx≤3999999999999999990):∃(v:Int) (s':l00Src),(0≤v∧(v<n∨v=0))∧(Zbb s')∧(s'.code=s.code)∧(s.atx+0≤s'.atx∧s'.atx≤s.atx+2)∧Zap Try.prog 39 [.ref 7001 0,I n] (Zac [(7001,Zaa s)]) true (I v) (Zac [(7001,Zaa s')]):=by
  have hs0:=hs.2.1
  have hs1:=hs.2.2
  have hh:∃r:Int×l00Src,((0≤r.1∧(r.1<n∨r.1=0))∧(Zbb r.2)∧(r.2.code=s.code)∧(s.atx+0≤r.2.atx∧r.2.atx≤s.atx+2)∧(True))∧Zap Try.prog 39 [.ref 7001 0,I n] (Zac [(7001,Zaa s)]) true (I r.1) (Zac [(7001,Zaa r.2)]):=by
    refine Zda (Φ:=fun r:Int×l00Src=>(0≤r.1∧(r.1<n∨r.1=0))∧(Zbb r.2)∧(r.2.code=s.code)∧(s.atx+0≤r.2.atx∧r.2.atx≤s.atx+2)∧(True)) [(7001,Zaa s)] (fun r=>[(7001,Zaa r.2)]) (fn:=Try.f39) (nt:=20) Try.func39 rfl rfl (args:=[.ref 7001 0,I n]) rfl (Zax (.inr trivial) (Zax (.inl ⟨rfl,trivial⟩) Zcz)) (res:=fun r=>I r.1) ?_
    refine xQ [] [0,1] [7001] [] trivial (Zau (Zau ?_))
    by_cases h1:n≤1
    ·refine x_q [(1,.dec true)] [0,1,7] [7001] [_] ⟨h1,trivial⟩ (Zad (Zib ?_))
     refine xR [] [4] [7001] [I 0] [some (Zaa s)] [] trivial (Zcl (Zcy ?_))
     refine Zbs (0,s) (show (0≤0∧(0<n∨0=0))∧(Zbb s)∧(s.code=s.code)∧(s.atx+0≤s.atx∧s.atx≤s.atx+2)∧(True) from ⟨(by first|omega|rfl|assumption|(dsimp only;first|omega|rfl|assumption)|(simp only [*];done)|exact ⟨Int.emod_nonneg _ om,.inl (Int.emod_lt_of_pos _ om)⟩),(by first|omega|rfl|assumption|(dsimp only;first|omega|rfl|assumption)|(simp only [*];done)|exact ⟨Int.emod_nonneg _ om,.inl (Int.emod_lt_of_pos _ om)⟩),(by first|omega|rfl|assumption|(dsimp only;first|omega|rfl|assumption)|(simp only [*];done)|exact ⟨Int.emod_nonneg _ om,.inl (Int.emod_lt_of_pos _ om)⟩),(by first|omega|rfl|assumption|(dsimp only;first|omega|rfl|assumption)|(simp only [*];done)|exact ⟨Int.emod_nonneg _ om,.inl (Int.emod_lt_of_pos _ om)⟩),trivial⟩) (⟨.inl rfl,trivial⟩) (I 0) (by kernel_rfl) (.inl rfl) (fun _=>rfl) (fun _=>trivial)
    refine x_q [(1,.dec false)] [0,1,7] [7001] [_] ⟨h1,trivial⟩ (Zad (Ziv (Zca (Zad (Zau ?_)))))
    obtain ⟨v_1,s'_1,hx1_0,hx1_1,hx1_2,hx1_3,hc1⟩:=Zyz s (by first|assumption|(simp only [Zbb] at*;simp_all;done)) om
    refine x_q [(1,.lend [(7001,Zaa s,Zaa s'_1)] [] [(true,.any)] true (I v_1))] [0,1,5] [7001] [Zap Try.prog 71 [.ref 7001 0] (Zac [(7001,Zaa s)]) true (I v_1) (Zac [(7001,Zaa s'_1)])∧(((Zaa s:Ob)=Zaa s∨Zdt Zdh true (Zaa s) (Zaa s))∧Zal false (Zaa s))∧True] ⟨⟨hc1,⟨.inl rfl,(by simp [Zal,Zaf,Zaj,Zcc])⟩,trivial⟩,trivial⟩ (Zad (Zau (Zau ?_)))
    by_cases h2:200<n
    ·refine x_q [(1,.dec true)] [0,1,5,11] [7001] [_] ⟨h2,trivial⟩ (Zad (Zib ?_))
     obtain ⟨v_2,s'_2,hx2_0,hx2_1,hx2_2,hx2_3,hc2⟩:=Zyz s'_1 (by first|assumption|(simp only [Zbb] at*;simp_all;done)) om
     refine x_r [(3,.lend [(7001,Zaa s'_1,Zaa s'_2)] [] [(true,.any)] true (I v_2))] [1,5] [7001] [I n,I ((v_1*256)+v_2)] [some (Zaa s'_2)] [inR .i64 (v_1*256),Zap Try.prog 71 [.ref 7001 0] (Zac [(7001,Zaa s'_1)]) true (I v_2) (Zac [(7001,Zaa s'_2)])∧(((Zaa s'_1:Ob)=Zaa s'_1∨Zdt Zdh true (Zaa s'_1) (Zaa s'_1))∧Zal false (Zaa s'_1))∧True,inR .i64 ((v_1*256)+v_2)] ⟨(Zah om om),⟨hc2,⟨.inl rfl,(by simp [Zal,Zaf,Zaj,Zcc])⟩,trivial⟩,(Zah om om),trivial⟩ (Zad ?_)
     refine xR [(2,.nn)] [4] [7001] [I (((v_1*256)+v_2) % n)] [some (Zaa s'_2)] [(0:Int)≤((v_1*256)+v_2)∧(0:Int)<n] ⟨⟨om,om⟩,trivial⟩ (Zcl ?_)
     refine Zbs ((((v_1*256)+v_2) % n),s'_2) (show (0≤(((v_1*256)+v_2) % n)∧((((v_1*256)+v_2) % n)<n∨(((v_1*256)+v_2) % n)=0))∧(Zbb s'_2)∧(s'_2.code=s.code)∧(s.atx+0≤s'_2.atx∧s'_2.atx≤s.atx+2)∧(True) from ⟨(by first|omega|rfl|assumption|(dsimp only;first|omega|rfl|assumption)|(simp only [*];done)|exact ⟨Int.emod_nonneg _ om,.inl (Int.emod_lt_of_pos _ om)⟩),(by first|omega|rfl|assumption|(dsimp only;first|omega|rfl|assumption)|(simp only [*];done)|exact ⟨Int.emod_nonneg _ om,.inl (Int.emod_lt_of_pos _ om)⟩),(by first|omega|rfl|assumption|(dsimp only;first|omega|rfl|assumption)|(simp only [*];done)|exact ⟨Int.emod_nonneg _ om,.inl (Int.emod_lt_of_pos _ om)⟩),(by first|omega|rfl|assumption|(dsimp only;first|omega|rfl|assumption)|(simp only [*];done)|exact ⟨Int.emod_nonneg _ om,.inl (Int.emod_lt_of_pos _ om)⟩),trivial⟩) (⟨.inl rfl,trivial⟩) (I (((v_1*256)+v_2) % n)) (by kernel_rfl) (.inl rfl) (fun _=>rfl) (fun _=>trivial)
    refine x_q [(1,.dec false)] [0,1,5,11] [7001] [_] ⟨h2,trivial⟩ (Zad (Ziv (Zca (Zad ?_))))
    refine xR [(2,.nn)] [4] [7001] [I (v_1 % n)] [some (Zaa s'_1)] [(0:Int)≤v_1∧(0:Int)<n] ⟨⟨om,om⟩,trivial⟩ (Zcl ?_)
    refine Zbs ((v_1 % n),s'_1) (show (0≤(v_1 % n)∧((v_1 % n)<n∨(v_1 % n)=0))∧(Zbb s'_1)∧(s'_1.code=s.code)∧(s.atx+0≤s'_1.atx∧s'_1.atx≤s.atx+2)∧(True) from ⟨(by first|omega|rfl|assumption|(dsimp only;first|omega|rfl|assumption)|(simp only [*];done)|exact ⟨Int.emod_nonneg _ om,.inl (Int.emod_lt_of_pos _ om)⟩),(by first|omega|rfl|assumption|(dsimp only;first|omega|rfl|assumption)|(simp only [*];done)|exact ⟨Int.emod_nonneg _ om,.inl (Int.emod_lt_of_pos _ om)⟩),(by first|omega|rfl|assumption|(dsimp only;first|omega|rfl|assumption)|(simp only [*];done)|exact ⟨Int.emod_nonneg _ om,.inl (Int.emod_lt_of_pos _ om)⟩),(by first|omega|rfl|assumption|(dsimp only;first|omega|rfl|assumption)|(simp only [*];done)|exact ⟨Int.emod_nonneg _ om,.inl (Int.emod_lt_of_pos _ om)⟩),trivial⟩) (⟨.inl rfl,trivial⟩) (I (v_1 % n)) (by kernel_rfl) (.inl rfl) (fun _=>rfl) (fun _=>trivial)
  obtain ⟨⟨v,s'⟩,⟨hh0,hh1,hh2,hh3,_⟩,hc⟩:=hh
  exact ⟨v,s',hh0,hh1,hh2,hh3,hc⟩
def Zjg (a b:Box):Box:=⟨min a.X1 b.X1,min a.Y1 b.Y1,max a.X2 b.X2,max a.Y2 b.Y2⟩
def orL:List Int→Int
 | []=>0
 |x::r=>if x=0 then orL r else x
theorem Zuu [Inhabited Int] {xs:List Int} :∀ {k:Nat},k<xs.length→(∀j,j<k→at_ xs j=0)→at_ xs k≠0→orL xs=at_ xs k:=by
 induction xs with
 |nil=>intro k h;simp at h
 |cons x r ih=>
  intro k h h0 hk
  cases k with
  |zero=>have e:at_ (x::r) 0=x:=rfl;rw [e] at hk⊢;exact if_neg hk
  |succ k=>
   have e:at_ (x::r) (k+1)=at_ r k:=by simp [at_]
   have e0:x=0:=h0 0 om
   rw [e] at hk⊢
   unfold orL;rw [if_pos e0]
   refine ih (by simpa using h) (fun j hj=> ?_) hk
   have:=h0 (j+1) om
   simpa [at_] using this
theorem Zuv [Inhabited Int] {xs:List Int} :(∀j,j<xs.length→at_ xs j=0)→orL xs=0:=by
 induction xs with
 |nil=>intro _;rfl
 |cons x r ih=>
  intro h
  have e0:x=0:=h 0 (by simp)
  unfold orL;rw [if_pos e0]
  refine ih fun j hj=> ?_
  have:=h (j+1) (by simp;omega)
  simpa [at_] using this
theorem Zgy {α:Type} [Inhabited α] {xs:List α} {i:Nat} {x:α} (h:i<xs.length):at_ (xs.set i x) i=x:=by simp [at_,h]
theorem Zhy {α:Type} [Inhabited α] {xs:List α} {i j:Nat} {x:α} (h:i≠j):at_ (xs.set j x) i=at_ xs i:=by
 have h':¬ j=i:=fun e=>h e.symm
 simp [at_,List.getElem?_set,h']
def Zel (a b:Int):Int:=if a<b then-1 else if b<a then 1 else 0
theorem Zjj {a b:Int} :Zel a b<0↔a<b:=by unfold Zel;split<;>(try split)<;>omega
theorem Zme {a b:Int} :Zel a b=0↔a=b:=by unfold Zel;split<;>(try split)<;>omega
def Zhz {α:Type} (p:List α) (x:α) (j:Nat):List α:=p.take j++x::p.drop j
theorem Zgz {α:Type} {p:List α} {x:α} {j:Nat} (h:j≤p.length):(Zhz p x j).length=p.length+1:=by
 simp [Zhz];omega
theorem Zza {α:Type} (p:List α) (x:α):Zhz p x p.length=p++[x]:=by simp [Zhz]
theorem Zym {α:Type} [Inhabited α] {p r:List α} {x:α} {j:Nat} (h:j≤p.length):at_ (Zhz p x j++r) j=x:=by
 have hl:(p.take j).length=j:=by simp;omega
 rw [Zhz,List.append_assoc,Zdm om,hl,Nat.sub_self];simp [at_]
theorem Zjm {α:Type} [Inhabited α] {p r:List α} {x:α} {j k:Nat} (h:j≤p.length) (hk:k<j):at_ (Zhz p x j++r) k=at_ p k:=by
 have hl:(p.take j).length=j:=by simp;omega
 rw [Zhz,List.append_assoc,Zdr om,Zem om,Zem om,List.getElem_take]
theorem at_cons {α:Type} [Inhabited α] (x:α) (l:List α) (k:Nat):at_ (x::l) (k+1)=at_ l k:=by simp [at_]
theorem Zta {α:Type} [Inhabited α] (l:List α) (j k:Nat):at_ (l.drop j) k=at_ l (j+k):=by simp [at_,List.getElem?_drop]
theorem Zmk {α:Type} [Inhabited α] {p r:List α} {x:α} {j k:Nat} (h:j≤p.length) (hk:j<k):at_ (Zhz p x j++r) k=at_ (p++r) (k-1):=by
 have hl:(p.take j).length=j:=by simp;omega
 have e:k-j=(k-1-j)+1:=by omega
 rw [Zhz,List.append_assoc,Zdm om,hl,e,List.cons_append,at_cons]
 by_cases c:k-1<p.length
 ·rw [Zdr (by simp;omega),Zdr c,Zta];congr 1;omega
 ·rw [Zdm (by simp;omega),Zdm om];congr 1;simp;omega
theorem Zup {α:Type} [Inhabited α] {p r:List α} {x:α} {j:Nat} (h:j+1≤p.length):((Zhz p x (j+1)++r).set (j+1) (at_ p j)).set j x=Zhz p x j++r:=by
 refine ext_at (by simp [Zgz h,Zgz (show j≤p.length by omega)]) fun k hk=> ?_
 have hl:(Zhz p x (j+1)++r).length=p.length+1+r.length:=by rw [List.length_append,Zgz h]
 rw [List.length_set,List.length_set,hl] at hk
 by_cases e1:k=j
 ·rw [e1,Zgy (by rw [List.length_set,hl];omega),Zym om]
 ·rw [Zhy e1]
  by_cases e2:k=j+1
  ·rw [e2,Zgy (by rw [hl];omega),Zmk om om,Zdr om];rfl
  ·rw [Zhy e2]
   by_cases c:k<j
   ·rw [Zjm h om,Zjm om c]
   ·rw [Zmk h om,Zmk om om]
def Zrv {α:Type} [Inhabited α] (c:α→α→Int) (x:α) (p:List α):Nat→Nat
 |0=>0
 |j+1=>if c x (at_ p j)<0 then Zrv c x p j else j+1
theorem Zpw {α:Type} [Inhabited α] (c:α→α→Int) (x:α) (p:List α):∀j:Nat,Zrv c x p j≤j
 |0=>Nat.le_refl _
 |j+1=>by unfold Zrv;split;exact Nat.le_succ_of_le (Zpw c x p j);exact Nat.le_refl _
def Znd {α:Type} [Inhabited α] (c:α→α→Int) (p:List α) (x:α):List α:=Zhz p x (Zrv c x p p.length)
def Zce {α:Type} [Inhabited α] (c:α→α→Int) (xs:List α):Nat→List α
 |0=>[]
 |k+1=>Znd c (Zce c xs k) (at_ xs k)
theorem Zer {α:Type} [Inhabited α] (c:α→α→Int) (xs:List α):∀k:Nat,(Zce c xs k).length=k
 |0=>rfl
 |k+1=>by unfold Zce Znd;rw [Zgz (Zpw _ _ _ _),Zer c xs k]
theorem isoL_one {α:Type} [Inhabited α] (c:α→α→Int) (xs:List α):Zce c xs 1=[at_ xs 0]:=rfl
theorem Zkf {α:Type} [Inhabited α] {c:α→α→Int} {x:α} {p:List α} {j:Nat} (h:∀k:Nat,j≤k→k<p.length→c x (at_ p k)<0) (hj:j≤p.length) (h2:j=0∨¬ c x (at_ p (j-1))<0):Zrv c x p p.length=j:=by
 have:∀m:Nat,m+j≤p.length→Zrv c x p (j+m)=j:=fun m=>by
  induction m with
  |zero=>
   intro _
   rcases h2 with e|e
   ·subst e;rfl
   ·cases j with
    |zero=>rfl
    |succ j=>exact if_neg e
  |succ m ih=>intro hm;exact (if_pos (h (j+m) om om)).trans (ih om)
 have:=this (p.length-j) om
 rwa [show j+(p.length-j)=p.length from by omega] at this
theorem shf_perm {α:Type} (p:List α) (x:α) (j:Nat):List.Perm (Zhz p x j) (p++[x]):=by
 unfold Zhz
 refine List.perm_middle.trans ?_
 rw [List.take_append_drop]
 exact (List.perm_append_singleton x p).symm
theorem Zew {α:Type} [Inhabited α] (c:α→α→Int) (xs:List α):∀k:Nat,k≤xs.length→List.Perm (Zce c xs k) (xs.take k)
 |0,_=>by simp [Zce]
 |k+1,h=>by
  rw [List.take_succ_eq_append_getElem om,←Zem om]
  exact (shf_perm _ _ _).trans ((Zew c xs k om).append_right _)
def ordR {α:Type} (c:α→α→Int) (B:α→α→Prop) (x y:α):Prop:=c x y<0∨c x y=0∧B x y
structure CmpW {α:Type} (c:α→α→Int):Prop where
 anti:∀x y,c x y<0↔0<c y x
 trans:∀x y z,c x y≤0→c y z<0→c x z<0
theorem CmpW.refl {α:Type} {c:α→α→Int} (h:CmpW c) (x:α):c x x=0:=by have:=h.anti x x;omega
theorem CmpW.zero {α:Type} {c:α→α→Int} (h:CmpW c) {x y:α} (e:c x y=0):c y x=0:=by have h1:=h.anti x y;have h2:=h.anti y x;omega
theorem CmpW.le {α:Type} {c:α→α→Int} (h:CmpW c) {x y z:α} (h1:c x y≤0) (h2:c y z≤0):c x z≤0:=by
 rcases Int.lt_or_le 0 (c x z) with g|g
 ·have q:=(h.anti z x).2 g
  have q2:c y x<0:=h.trans y z x h2 q
  have:=(h.anti y x).1 q2;omega
 ·exact g
theorem pos_lo {α:Type} [Inhabited α] {c:α→α→Int} {x:α} {p:List α} :∀(n k:Nat),Zrv c x p n≤k→k<n→c x (at_ p k)<0
 |0,k,_,h=>absurd h (Nat.not_lt_zero _)
 |n+1,k,h1,h2=>by
  unfold Zrv at h1
  split at h1
  ·rename_i g
   by_cases e:k=n
   ·subst e;exact g
   ·exact pos_lo n k h1 om
  ·omega
theorem pos_at {α:Type} [Inhabited α] {c:α→α→Int} {x:α} {p:List α} :∀n:Nat,Zrv c x p n=0∨¬ c x (at_ p (Zrv c x p n-1))<0
 |0=> .inl rfl
 |n+1=>by
  unfold Zrv
  split
  ·exact pos_at n
  ·right;assumption
theorem Zun {α:Type} [Inhabited α] {c:α→α→Int} (hc:CmpW c) {B:α→α→Prop} {xs:List α} (hB:xs.Pairwise B):∀k:Nat,k≤xs.length→(Zce c xs k).Pairwise (ordR c B)
 |0,_=>by simp [Zce]
 |k+1,h=>by
  have ih:=Zun hc hB k om
  have hp:=Zew c xs k om
  have hl:=Zer c xs k
  obtain ⟨p,hpe⟩:∃p,p=Zce c xs k:=⟨_,rfl⟩
  obtain ⟨x,hx⟩:∃x,x=at_ xs k:=⟨_,rfl⟩
  rw [Zce,←hpe,←hx]
  rw [←hpe] at ih hp hl
  have hbx:∀y∈p,B y x:=fun y hy=>by
   have hm:=hp.mem_iff.1 hy
   obtain ⟨i,hi,e⟩:=List.getElem_of_mem hm
   rw [List.length_take] at hi
   rw [List.getElem_take] at e
   rw [←e,hx,Zem om]
   exact (List.pairwise_iff_getElem.1 hB) i k om om om
  unfold Znd Zhz
  have hj:=Zpw c x p p.length
  have lo:=fun k hk hk2=>pos_lo (c:=c) (x:=x) (p:=p) p.length k hk hk2
  have hi:=pos_at (c:=c) (x:=x) (p:=p) p.length
  generalize Zrv c x p p.length=j at hj lo hi⊢
  have hle:∀y∈p.take j,c y x≤0:=fun y hy=>by
   obtain ⟨i,hi2,e⟩:=List.getElem_of_mem hy
   rw [List.length_take] at hi2
   rw [List.getElem_take] at e
   rcases hi with e0|e0
   ·omega
   ·have h3:c (at_ p (j-1)) x≤0:=by
     rcases Int.lt_or_le 0 (c (at_ p (j-1)) x) with g|g
     ·exact absurd ((hc.anti _ _).2 g) e0
     ·exact g
    rw [←e]
    by_cases ei:i=j-1
    ·have:p[i]=at_ p (j-1):=by rw [Zem om];congr 1
     rw [this];exact h3
    ·have q:=(List.pairwise_iff_getElem.1 ih) i (j-1) om om om
     rw [←Zem (show j-1<p.length by omega)] at q
     refine hc.le ?_ h3
     rcases q with q|q
     ·omega
     ·omega
  have hgt:∀y∈p.drop j,c x y<0:=fun y hy=>by
   obtain ⟨i,hi2,e⟩:=List.getElem_of_mem hy
   rw [List.length_drop] at hi2
   rw [List.getElem_drop] at e
   rw [←e,←Zem om]
   exact lo _ om om
  rw [List.pairwise_append]
  refine ⟨ih.sublist (List.take_sublist _ _),List.pairwise_cons.2 ⟨fun y hy=> .inl (hgt y hy),ih.sublist (List.drop_sublist _ _)⟩,fun a ha b hb=> ?_⟩
  rcases List.mem_cons.1 hb with e|e
  ·subst e
   have:=hle a ha
   by_cases z:c a b=0
   ·exact .inr ⟨z,hbx a (List.mem_of_mem_take ha)⟩
   ·exact .inl om
  ·exact .inl (hc.trans a x b (hle a ha) (hgt b e))
theorem Zjl {α:Type} [Inhabited α] (c:α→α→Int) (xs:List α):xs=Zce c xs (min 1 xs.length)++xs.drop 1:=by
 cases xs with
 |nil=>rfl
 |cons x r=>show x::r=Zce c (x::r) (min 1 (r.length+1))++r;rw [show min 1 (r.length+1)=1 from by omega,isoL_one];rfl
theorem iso_in {α:Type} [Inhabited α] {c:α→α→Int} {xs:List α} {i:Nat} (hi:i<xs.length):Zce c xs i++xs.drop i=Zhz (Zce c xs i) (at_ xs i) i++xs.drop (i+1):=by
 have hl:=Zer c xs i
 have e:Zhz (Zce c xs i) (at_ xs i) i=Zce c xs i++[at_ xs i]:=by
  have:=Zza (Zce c xs i) (at_ xs i);rwa [hl] at this
 rw [e,List.append_assoc,Zem hi,List.singleton_append,←List.drop_eq_getElem_cons hi]
theorem Zps {α:Type} [Inhabited α] {c:α→α→Int} {xs:List α} {i j:Nat} (hj:j≤i) (h:∀k:Nat,j≤k→k<i→c (at_ xs i) (at_ (Zce c xs i) k)<0) (h2:j=0∨¬ c (at_ xs i) (at_ (Zce c xs i) (j-1))<0):
  Zhz (Zce c xs i) (at_ xs i) j=Zce c xs (i+1):=by
 have hl:=Zer c xs i
 have:=Zkf (c:=c) (x:=at_ xs i) (p:=Zce c xs i) (j:=j) (fun k h3 h4=>h k h3 om) om h2
 show _=Znd c (Zce c xs i) (at_ xs i)
 unfold Znd;rw [this]
def Zed (n:Nat) (p:Nat→Bool):Int:=match (List.range n).find? p with
 |some i=>i
 |none=>-1
theorem Znx {n:Nat} {p:Nat→Bool} {k:Nat} (hk:k<n) (hp:p k=true) (hn:∀i,i<k→p i=false):Zed n p=k:=by
 have h:(List.range n).find? p=some k:=by
  rw [List.find?_range_eq_some]
  exact ⟨hp,List.mem_range.2 hk,fun j hj=>by simpa using hn j hj⟩
 simp [Zed,h]
theorem Ziq {n:Nat} {p:Nat→Bool} (hn:∀i,i<n→p i=false):Zed n p=-1:=by
 have h:(List.range n).find? p=none:=by
  rw [List.find?_range_eq_none]
  intro i hi;simpa using hn i hi
 simp [Zed,h]
theorem Zrq (n:Nat) (p:Nat→Bool):(Zed n p=-1∧∀i,i<n→p i=false)∨∃k:Nat,Zed n p=k∧k<n∧p k=true∧∀i,i<k→p i=false:=by
 by_cases h:∃k,k<n∧p k=true
 ·right
  obtain ⟨k,hk,hp⟩:=h
  cases e:(List.range n).find? p with
  |none=>rw [List.find?_range_eq_none] at e;exact absurd hp (by simpa using e k hk)
  |some i=>
   have e':=e
   rw [List.find?_range_eq_some] at e
   exact ⟨i,by simp [Zed,e'],List.mem_range.1 e.2.1,e.1,fun j hj=>by simpa using e.2.2 j hj⟩
 ·left
  have h':∀i,i<n→p i=false:=fun i hi=>by rw [←Bool.not_eq_true];exact fun hp=>h ⟨i,hi,hp⟩
  exact ⟨Ziq h',h'⟩
theorem Zny (n:Nat) (p:Nat→Bool):decide (0≤Zed n p)=Zsu n p:=by
 rcases Zrq n p with ⟨h1,h2⟩|⟨k,h1,h2,h3,_⟩
 ·rw [h1,Zyx h2];decide
 ·rw [h1,anyN_at h2 h3];simp
def inB (a l h:Int):Bool:=decide (l≤a∧a≤h)
theorem Zfz {a l h:Int} :inB a l h=true↔l≤a∧a≤h:=by simp [inB]
def Zdx (b:Box):Bool:=inB b.X1 0 b.X2&&(inB b.Y1 0 b.Y2&&(decide (b.X2≤4095)&&decide (b.Y2≤4095)))
def Zbx (bs:List Box):Bool:=decide ((bs.length:Int)≤60)&&Zlb bs.length (fun j=>Zdx (at_ bs j))
def itB (bs:List Box) (xs:List Int):Nat→Box
 |0=>at_ bs (at_ xs 0).toNat
 |k+1=>Zjg (itB bs xs k) (at_ bs (at_ xs k).toNat)
theorem Zum {bs:List Box} {xs:List Int} {i:Int} (h:0≤i):itB bs xs (i+1).toNat=Zjg (itB bs xs i.toNat) (at_ bs (at_ xs i.toNat).toNat):=by
 have:(i+1).toNat=i.toNat+1:=by omega
 rw [this];rfl
theorem Zyi (bs:List Box) (xs:List Int):itB bs xs 1=at_ bs (at_ xs 0).toNat:=by simp [itB,Zjg]
def inIx (bs:List Box) (xs:List Int):Bool:=Zlb xs.length (fun j=>inB (at_ xs j) 0 ((bs.length:Int)-1))
def Zia (bs:List Box) (xs:List Int):Box×Int:=if Zbx bs=true then (if inIx bs xs=true then (if (xs.length:Int)=0 then (⟨0,0,0,0⟩,6) else (itB bs xs xs.length,0)) else (⟨0,0,0,0⟩,2)) else (⟨0,0,0,0⟩,1)
theorem boi_inv {bs:List Box} {xs:List Int} (h:Zbx bs=false):Zia bs xs=(⟨0,0,0,0⟩,1):=by simp [Zia,h]
theorem boi_rng {bs:List Box} {xs:List Int} (h:Zbx bs=true) (h2:inIx bs xs=false):Zia bs xs=(⟨0,0,0,0⟩,2):=by simp [Zia,h,h2]
theorem boi_st {bs:List Box} {xs:List Int} (h:Zbx bs=true) (h2:inIx bs xs=true) (h3:(xs.length:Int)=0):Zia bs xs=(⟨0,0,0,0⟩,6):=by rw [Zia,if_pos h,if_pos h2,if_pos h3]
theorem Zyg {bs:List Box} {xs:List Int} (h:Zbx bs=true) (h2:inIx bs xs=true) (h3:¬ (xs.length:Int)=0):Zia bs xs=(itB bs xs xs.length,0):=by rw [Zia,if_pos h,if_pos h2,if_neg h3]
theorem Zyh {bs:List Box} {xs:List Int} (h:inIx bs xs=true) {j:Nat} (hj:j<xs.length):0≤at_ xs j∧at_ xs j≤(bs.length:Int)-1:=Zfz.1 (Zhu h hj)
def ixIn (n:Nat) (xs:List Int):Prop:=∀x∈xs,0≤x∧x<(n:Int)
theorem Zke {n:Nat} {xs:List Int} (h:ixIn n xs) {i:Nat} (hi:i<xs.length):0≤at_ xs i∧at_ xs i<(n:Int):=h _ (Zbf hi)
theorem Zgj {α:Type} [Inhabited α] {l:List α} {k:Nat} (h:k<l.length):l.take (k+1)=l.take k++[at_ l k]:=by
 rw [List.take_succ_eq_append_getElem h,Zem h]
def cY (bs:List Box) (i j:Int):Int:=Zel (at_ bs i.toNat).Y1 (at_ bs j.toNat).Y1
def cL (bs:List Box) (i j:Int):Int:=orL [Zel (at_ bs i.toNat).X1 (at_ bs j.toNat).X1,Zel (at_ bs i.toNat).X2 (at_ bs j.toNat).X2,Zel i j]
def lftB (bs:List Box) (i j:Int):Bool:=decide (cL bs i j<0)
def cH (bs:List Box) (i j:Int):Int:=orL [Zel (at_ bs i.toNat).Y1 (at_ bs j.toNat).Y1,Zel i j]
def hghB (bs:List Box) (i j:Int):Bool:=decide (cH bs i j<0)
theorem Zko {bs:List Box} {i j:Int} :cL bs i j<0↔((at_ bs i.toNat).X1<(at_ bs j.toNat).X1∨(at_ bs i.toNat).X1=(at_ bs j.toNat).X1∧((at_ bs i.toNat).X2<(at_ bs j.toNat).X2∨(at_ bs i.toNat).X2=(at_ bs j.toNat).X2∧i<j)):=by
 simp only [cL,orL,Zel]
 (repeat' split)<;>omega
theorem Zsz {bs:List Box} {i j:Int} :cH bs i j<0↔((at_ bs i.toNat).Y1<(at_ bs j.toNat).Y1∨(at_ bs i.toNat).Y1=(at_ bs j.toNat).Y1∧i<j):=by
 simp only [cH,orL,Zel]
 (repeat' split)<;>omega
theorem Zsv {bs:List Box} {i j:Int} :cY bs i j<0↔(at_ bs i.toNat).Y1<(at_ bs j.toNat).Y1:=Zjj
def Zmm {α:Type} [Inhabited α] (c:α→α→Int) (xs:List α):Prop:=∀i j:Nat,i<j→j<xs.length→¬ c (at_ xs j) (at_ xs i)<0
theorem Zmf {α:Type} [Inhabited α] {c:α→α→Int} {xs:List α} (h:Zmm c xs) {i j:Nat} (h1:i<j) (h2:j<xs.length):¬ c (at_ xs j) (at_ xs i)<0:=h i j h1 h2
theorem pos_end {α:Type} [Inhabited α] {c:α→α→Int} {x:α} {p:List α} (h:p.length=0∨¬ c x (at_ p (p.length-1))<0):Zrv c x p p.length=p.length:=Zkf (fun k h1 h2=>absurd h2 om) (Nat.le_refl _) h
theorem Zzb {α:Type} [Inhabited α] {c:α→α→Int} {xs:List α} (h:Zmm c xs):∀k:Nat,k≤xs.length→Zce c xs k=xs.take k
 |0,_=>by simp [Zce]
 |k+1,hk=>by
  rw [Zce,Zzb h k om,Znd,pos_end,Zza,Zgj om]
  rw [List.length_take,Nat.min_eq_left om]
  by_cases e:k=0
  ·exact .inl e
  ·right
   have e1:at_ (xs.take k) (k-1)=at_ xs (k-1):=by
    rw [Zem (by rw [List.length_take];omega),Zem om,List.getElem_take]
   rw [e1]
   exact h (k-1) k om om
theorem Zpt {α:Type} [Inhabited α] {c:α→α→Int} {xs:List α} (h:Zmm c xs):Zce c xs xs.length=xs:=by rw [Zzb h _ (Nat.le_refl _),List.take_length]
theorem Zlx {α:Type} [Inhabited α] {c:α→α→Int} {xs:List α} {Q:α→Prop} (h:∀x∈xs,Q x) (k:Nat) (hk:k≤xs.length):∀x∈Zce c xs k,Q x:=fun x hx=>h x (List.mem_of_mem_take ((Zew c xs k hk).mem_iff.1 hx))
theorem Znz {i k:Nat} (h:i≠k):Nat.beq i k=false:=Bool.eq_false_iff.2 fun e=>h (Nat.eq_of_beq_eq_true e)
theorem Zgk {α:Type} [Inhabited α] {xs:List α} {k:Nat} {c:α} (h:k<xs.length):at_ (xs.set k c) k=c:=by simp [at_,h]
theorem Zgl {α:Type} [Inhabited α] {xs:List α} {k i:Nat} {c:α} (h:i≠k):at_ (xs.set k c) i=at_ xs i:=by
 have:¬ k=i:=fun e=>h e.symm
 simp [at_,this]
theorem le_row {ob:Nat→Option Ob} {F N sz p n:Nat} {m:Nat→Nat} {g:Nat→Nat→List AV} {fr:Bool} {f:Nat→List AV} (h:ob F=some (.fam N sz m g)) (hp:p<N) (hn:m p=n)
  (hf:∀i,i<n→g p i=f i∨(AV.idsL (f i)=[]∧leL (fun _=>none) false (g p i) (f i))):le ob true (.row F p) (.sl fr sz n f):=by
 simp only [le,h]
 exact ⟨fun _=>trivial,hp,trivial,hn,hf⟩
def Line.withItems (x:Line) (ys:List Int):Line:=Line.mk x.Top x.Bottom ys
def Zrr (F:Nat) (x:Line) (i:Nat):List AV:=[I x.Top,I x.Bottom,.row F i]
def Zeq (F:Nat) (xs:List Line) (i:Nat):List AV:=Zrr F (at_ xs i) i
def Zic (xs:List Line) (p:Nat):Nat:=((at_ xs p).Items).length
def Zft (xs:List Line) (p:Nat):Nat→List AV:=fI ((at_ xs p).Items)
abbrev Zdu (F:Nat) (xs:List Line):Ob:= .oar [F] 3 xs.length (Zeq F xs)
abbrev Zcx (xs:List Line):Ob:= .fam xs.length 1 (Zic xs) (Zft xs)
theorem oleLine {ob:Nat→Option Ob} {F:Nat} (fr:Bool) (xs:List Line) (h:ob F=some (.fam xs.length 1 (Zic xs) (Zft xs))):∀i,i<xs.length→AV.idsL (Zcd fr xs i)=[]∧leL ob true (Zeq F xs i) (Zcd fr xs i):=
 fun i hi=>And.intro rfl (And.intro rfl (And.intro rfl (And.intro (le_row h hi rfl (fun q _=> .inl rfl)) rfl)))
theorem Zur {F j N:Nat} (hF:Nat.beq F j=false) {xs:List Line} {x:Line} {g:Nat→List AV} (hN:N=xs.length) (hx:AV.joiL j F N (g 0)=Zrr F x N):∀i,i<(xs++[x]).length→AV.joiL j F N (Zgd xs.length (Zeq F xs) g i)=Zeq F (xs++[x]) i:=by
 subst hN
 intro i hi
 by_cases h:i<xs.length
 ·rw [Zfp h]
  simp [Zeq,Zrr,Zdr h,AV.joiL,AV.joi,hF]
 ·have e:i=xs.length:=by simp at hi;omega
  subst e
  rw [Zey (Nat.le_refl _),Nat.sub_self,hx]
  simp [Zeq,Zdm (Nat.le_refl _),at_]
theorem Zus {xs:List Line} (x:Line) {n:Nat} {f:Nat→List AV} (hn:n=x.Items.length) (hf:∀i,i<n→f i=fI x.Items i):xs.length+1=(xs++[x]).length∧1=1∧∀p,p<(xs++[x]).length→Zdv xs.length n (Zic xs) p=Zic (xs++[x]) p∧∀i,i<Zic (xs++[x]) p→Zcj xs.length f (Zft xs) p i=Zft (xs++[x]) p i∨(AV.idsL (Zft (xs++[x]) p i)=[]∧leL (fun _=>none) false (Zcj xs.length f (Zft xs) p i) (Zft (xs++[x]) p i)):=by
 refine ⟨by simp,rfl,fun p hp=> ?_⟩
 by_cases h:p<xs.length
 ·have e:Nat.beq p xs.length=false:=Bool.eq_false_iff.2 fun e=>by have:=Nat.eq_of_beq_eq_true e;omega
  simp [Zdv,Zcj,e,Zic,Zft,Zdr h]
 ·have e:p=xs.length:=by simp at hp;omega
  subst e
  have e2:at_ (xs++[x]) xs.length=x:=by simp [Zdm (Nat.le_refl _),at_]
  simp only [Zdv,Zcj,Nat.beq_refl,cond_true,Zic,Zft,e2]
  exact ⟨hn,fun i hi=> .inl (hf i om)⟩
theorem Zyu {xs:List Line} {P:Nat} {x':Line} (hx:x'.Items=(at_ xs P).Items):xs.length=(xs.set P x').length∧1=1∧∀p,p<(xs.set P x').length→Zic xs p=Zic (xs.set P x') p∧∀i,i<Zic (xs.set P x') p→Zft xs p i=Zft (xs.set P x') p i∨(AV.idsL (Zft (xs.set P x') p i)=[]∧leL (fun _=>none) false (Zft xs p i) (Zft (xs.set P x') p i)):=by
 refine ⟨by simp,rfl,fun p hp=> ?_⟩
 have e:(at_ (xs.set P x') p).Items=(at_ xs p).Items:=by
  by_cases h:p=P
  ·subst h;rw [Zgk (by simpa using hp)];exact hx
  ·rw [Zgl h]
 simp only [Zic,Zft,e]
 first|exact ⟨trivial,fun i hi=> .inl rfl⟩|exact ⟨trivial,fun i hi=> .inl trivial⟩
theorem oputLine (F0 P:Nat) {xs:List Line} {x':Line} (i:Nat) (hi:i<(xs.set P x').length):(bif Nat.beq i P then Zrr F0 x' P else Zeq F0 xs i)=Zeq F0 (xs.set P x') i:=by
 by_cases h:i=P
 ·subst h
  have hl:i<xs.length:=by simpa using hi
  simp only [Nat.beq_refl,cond_true,Zeq,Zgk hl]
 ·simp only [Znz h,cond_false,Zeq,Zgl h]
def Zsy (xs:List Line) (q:Nat):List AV:=[I ((at_ xs q).Top),I ((at_ xs q).Bottom)]
theorem Zyv {F j P:Nat} {xs:List Line} (x':Line) (i:Nat):(bif Nat.beq i P then Zsy xs i++[.arr j] else Zsy xs i++[.row F i])=(bif Nat.beq i P then [I ((at_ xs P).Top),I ((at_ xs P).Bottom),.arr j] else Zeq F (xs.set P x') i):=by
 by_cases h:i=P
 ·subst h;simp only [Nat.beq_refl,cond_true];rfl
 ·simp only [Znz h,cond_false,Zeq,Zgl h];rfl
theorem Zyw {F P:Nat} {xs:List Line} {x':Line} {cs:List AV} (hc:cs++[.row F P]=Zrr F x' P) (i:Nat) (hi:i<(xs.set P x').length):(bif Nat.beq i P then cs else Zsy xs i)++[.row F i]=Zeq F (xs.set P x') i:=by
 by_cases h:i=P
 ·subst h
  have hl:i<xs.length:=by simpa using hi
  simp only [Nat.beq_refl,cond_true,Zeq,Zgk hl];exact hc
 ·simp only [Znz h,cond_false,Zeq,Zgl h];rfl
theorem Zjn {xs:List Line} {P m1:Nat} {x':Line} {f1:Nat→List AV} (hP:P<xs.length) (hm:m1=x'.Items.length) (hf:∀i,i<m1→f1 i=fI x'.Items i):xs.length=(xs.set P x').length∧1=1∧∀p,p<(xs.set P x').length→Zdv P m1 (Zic xs) p=Zic (xs.set P x') p∧∀i,i<Zic (xs.set P x') p→Zcj P f1 (Zft xs) p i=Zft (xs.set P x') p i∨(AV.idsL (Zft (xs.set P x') p i)=[]∧leL (fun _=>none) false (Zcj P f1 (Zft xs) p i) (Zft (xs.set P x') p i)):=by
 refine ⟨by simp,rfl,fun p hp=> ?_⟩
 by_cases h:p=P
 ·subst h
  have e:(at_ (xs.set p x') p).Items=x'.Items:=by rw [Zgk hP]
  simp only [Zic,Zft,famUp_at,Zxy,e]
  exact ⟨hm,fun i hi=> .inl (hf i om)⟩
 ·have e:at_ (xs.set P x') p=at_ xs p:=Zgl h
  simp only [Zic,Zft,famUp_ne _ _ h,Zxz _ _ h,e]
  first|exact ⟨trivial,fun i hi=> .inl rfl⟩|exact ⟨trivial,fun i hi=> .inl trivial⟩
def ixL (n:Nat):List Int:=(List.range n).map fun k:Nat=>(k:Int)
theorem Zea (n:Nat):(ixL n).length=n:=by simp [ixL]
theorem Zuq (n:Nat):ixL (n+1)=ixL n++[(n:Int)]:=by simp [ixL,List.range_succ]
theorem Zgi {n k:Nat} (h:k<n):at_ (ixL n) k=(k:Int):=by simp [ixL,at_,h]
theorem Zly {n:Nat} {x:Int} :x∈ixL n↔0≤x∧x<(n:Int):=by
 simp only [ixL,List.mem_map,List.mem_range]
 constructor
 ·rintro ⟨k,h,rfl⟩;omega
 ·intro h;exact ⟨x.toNat,by omega,by omega⟩
def Zdf (ls:List Line):Line:=at_ ls (ls.length-1)
def Zgv (bs:List Box) (gap:Int) (ls:List Line) (k:Int):List Line:=
 if ls.length=0∨(Zdf ls).Bottom+gap<(at_ bs k.toNat).Y1 then ls++[⟨(at_ bs k.toNat).Y1,(at_ bs k.toNat).Y2,[k]⟩]
 else ls.set (ls.length-1) ⟨(Zdf ls).Top,max (Zdf ls).Bottom (at_ bs k.toNat).Y2,(Zdf ls).Items++[k]⟩
def Zfk (bs:List Box) (gap:Int) (od:List Int):Nat→List Line
 |0=>[]
 |j+1=>Zgv bs gap (Zfk bs gap od j) (at_ od j)
def Zhr (bs:List Box) (l:Line):Line:=⟨l.Top,l.Bottom,Zce (cL bs) l.Items l.Items.length⟩
def Zff (bs:List Box):List Int:=Zce (cY bs) (ixL bs.length) bs.length
def Zkp (bs:List Box) (gap:Int):List Line:=(Zfk bs gap (Zff bs) bs.length).map (Zhr bs)
def smB (bs:List Box):Prop:=bs.length≤12∨bs.length=60∧∀i,i<bs.length→at_ bs i=at_ bs 0
theorem Zdd (bs:List Box):(Zff bs).length=bs.length:=Zer _ _ _
theorem Zes {bs:List Box} {x:Int} :x∈Zff bs↔0≤x∧x<(bs.length:Int):=by
 have p:=Zew (cY bs) (ixL bs.length) bs.length (by rw [Zea];exact Nat.le_refl _)
 rw [List.take_of_length_le (by rw [Zea];exact Nat.le_refl _)] at p
 rw [←Zly];exact p.mem_iff
theorem Zyb {bs:List Box} {j:Nat} (h:j<bs.length):0≤at_ (Zff bs) j∧at_ (Zff bs) j<(bs.length:Int):=Zes.1 (Zbf (by rw [Zdd];exact h))
theorem Zgo {bs:List Box} (h:Zbx bs=true) {j:Nat} (hj:j<bs.length):(0≤(at_ bs j).X1∧(at_ bs j).X1≤(at_ bs j).X2∧(at_ bs j).X2≤4095)∧0≤(at_ bs j).Y1∧(at_ bs j).Y1≤(at_ bs j).Y2∧(at_ bs j).Y2≤4095:=by
 simp only [Zbx,Bool.and_eq_true] at h
 have q:=Zhu h.2 hj
 simp only [Zdx,inB,Bool.and_eq_true,decide_eq_true_eq] at q
 omega
theorem Znh {bs:List Box} (h:Zbx bs=true):bs.length≤60:=by
 simp only [Zbx,Bool.and_eq_true,decide_eq_true_eq] at h;omega
theorem sm_ixY {bs:List Box} (h:smB bs):(ixL bs.length).length≤12∨(ixL bs.length).length=60∧Zmm (cY bs) (ixL bs.length):=by
 rw [Zea]
 rcases h with h|⟨h,h2⟩
 ·exact .inl h
 ·refine .inr ⟨h,fun i j hij hj q=> ?_⟩
  rw [Zea] at hj
  rw [Zgi hj,Zgi (show i<bs.length by omega),Zsv] at q
  have e1:=h2 j hj
  have e2:=h2 i om
  rw [show ((j:Int)).toNat=j from by omega,show ((i:Int)).toNat=i from by omega,e1,e2] at q
  omega
def Znb (bs:List Box) (gap:Int) (ls:List Line) (k:Int):List Line:=
 if ls.length=0∨(Zdf ls).Bottom+gap<(at_ bs k.toNat).Y1 then ls++[⟨(at_ bs k.toNat).Y1,(at_ bs k.toNat).Y2,[]⟩] else ls
theorem Zyt {bs:List Box} {gap:Int} {ls:List Line} {k:Int} (h:ls.length=0∨(Zdf ls).Bottom+gap<(at_ bs k.toNat).Y1):Znb bs gap ls k=ls++[⟨(at_ bs k.toNat).Y1,(at_ bs k.toNat).Y2,[]⟩]:=if_pos h
theorem pre_n {bs:List Box} {gap:Int} {ls:List Line} {k:Int} (h:¬ (ls.length=0∨(Zdf ls).Bottom+gap<(at_ bs k.toNat).Y1)):Znb bs gap ls k=ls:=if_neg h
theorem Zmd (ls:List Line) (x:Line):Zdf (ls++[x])=x:=by
 unfold Zdf
 rw [List.length_append,List.length_singleton,Nat.add_sub_cancel,Zdm (Nat.le_refl _),Nat.sub_self];rfl
theorem Zpp {α:Type} (ls:List α) (x y:α):(ls++[x]).set ls.length y=ls++[y]:=by simp
theorem Zpv (bs:List Box) (gap:Int) (ls:List Line) (k:Int):Zgv bs gap ls k=(Znb bs gap ls k).set ((Znb bs gap ls k).length-1) ⟨(Zdf (Znb bs gap ls k)).Top,max (Zdf (Znb bs gap ls k)).Bottom (at_ bs k.toNat).Y2,(Zdf (Znb bs gap ls k)).Items++[k]⟩:=by
 by_cases h:ls.length=0∨(Zdf ls).Bottom+gap<(at_ bs k.toNat).Y1
 ·rw [Zyt h,Zmd,List.length_append,List.length_singleton,Nat.add_sub_cancel,Zpp,Zgv,if_pos h,Int.max_self];rfl
 ·rw [pre_n h,Zgv,if_neg h]
theorem Zpu (bs:List Box) (gap:Int) (ls:List Line) (k:Int):1≤(Znb bs gap ls k).length∧ls.length≤(Znb bs gap ls k).length∧(Znb bs gap ls k).length≤ls.length+1:=by
 by_cases h:ls.length=0∨(Zdf ls).Bottom+gap<(at_ bs k.toNat).Y1
 ·rw [Zyt h];simp
 ·rw [pre_n h];omega
theorem Ztb {bs:List Box} {gap:Int} {ls:List Line} {k:Int} {l:Line} (h:l∈Znb bs gap ls k):l∈ls∨l=⟨(at_ bs k.toNat).Y1,(at_ bs k.toNat).Y2,[]⟩:=by
 unfold Znb at h
 split at h
 ·rcases List.mem_append.1 h with h|h
  ·exact .inl h
  ·exact .inr (by simpa using h)
 ·exact .inl h
theorem Zla {ls:List Line} (h:1≤ls.length):Zdf ls∈ls:=Zbf om
def lnB (bs:List Box) (j:Nat) (l:Line):Prop:=(0≤l.Bottom∧l.Bottom≤4095)∧(∀x∈l.Items,0≤x∧x<(bs.length:Int))∧l.Items.length≤j
theorem pre_bd {bs:List Box} {gap:Int} {ls:List Line} {k:Int} {j:Nat} (hp:Zbx bs=true) (hk:0≤k∧k<(bs.length:Int)) (h:∀l∈ls,lnB bs j l):∀l∈Znb bs gap ls k,lnB bs j l:=fun l hl=>by
 rcases Ztb hl with q|q
 ·exact h l q
 ·have b:=Zgo hp (j:=k.toNat) om
  rw [q];exact ⟨⟨by show 0≤(at_ bs k.toNat).Y2;omega,by show (at_ bs k.toNat).Y2≤4095;omega⟩,fun x hx=>by simp at hx,Nat.zero_le _⟩
theorem add_bd {bs:List Box} {gap:Int} {ls:List Line} {k:Int} {j:Nat} (hp:Zbx bs=true) (hk:0≤k∧k<(bs.length:Int)) (h:∀l∈ls,lnB bs j l):∀l∈Zgv bs gap ls k,lnB bs (j+1) l:=fun l hl=>by
 have hq:=pre_bd (gap:=gap) hp hk h
 have b:=Zgo hp (j:=k.toNat) om
 rw [Zpv] at hl
 rcases List.mem_or_eq_of_mem_set hl with q|q
 ·have:=hq l q;exact ⟨this.1,this.2.1,by have:=this.2.2;omega⟩
 ·have:=hq _ (Zla (Zpu bs gap ls k).1)
  have h3:=this.2.2
  have h1:=this.1
  rw [q]
  refine ⟨⟨by show 0≤max _ _;omega,by show max _ _≤4095;omega⟩,fun x hx=> ?_,by show (((Zdf (Znb bs gap ls k)).Items++[k]:List Int)).length≤j+1;rw [List.length_append,List.length_singleton];omega⟩
  rcases List.mem_append.1 hx with hx|hx
  ·exact this.2.1 x hx
  ·rw [List.mem_singleton.1 hx];exact hk
theorem Zlz {bs:List Box} {gap:Int} {od:List Int} (hp:Zbx bs=true) (ho:∀x∈od,0≤x∧x<(bs.length:Int)):∀j:Nat,j≤od.length→∀l∈Zfk bs gap od j,lnB bs j l
 |0,_=>fun l hl=>by simp [Zfk] at hl
 |j+1,h=>add_bd hp (ho _ (Zbf om)) (Zlz hp ho j om)
theorem add_len (bs:List Box) (gap:Int) (ls:List Line) (k:Int):1≤(Zgv bs gap ls k).length∧(Zgv bs gap ls k).length≤ls.length+1:=by
 have:=Zpu bs gap ls k
 rw [Zpv,List.length_set];omega
theorem Zma (bs:List Box) (gap:Int) (od:List Int):∀j:Nat,(Zfk bs gap od j).length≤j
 |0=>by simp [Zfk]
 |j+1=>by
  have h1:=Zma bs gap od j
  have h2:=(add_len bs gap (Zfk bs gap od j) (at_ od j)).2
  show (Zgv bs gap (Zfk bs gap od j) (at_ od j)).length≤j+1
  omega
theorem Zuw {bs:List Box} {gap:Int} (h:∀i,i<bs.length→at_ bs i=at_ bs 0) (hg:0≤gap) (hY:(at_ bs 0).Y1≤(at_ bs 0).Y2):∀j:Nat,j+1≤bs.length→Zfk bs gap (ixL bs.length) (j+1)=[⟨(at_ bs 0).Y1,(at_ bs 0).Y2,ixL (j+1)⟩]
 |0,hj=>by
  show Zgv bs gap [] _=_
  rw [Zgv,if_pos (.inl rfl),Zgi (show 0<bs.length by omega)];rfl
 |j+1,hj=>by
  have ih:=Zuw h hg hY j om
  show Zgv bs gap (Zfk bs gap _ (j+1)) _=_
  rw [ih,Zgi om,Zgv]
  have e:at_ bs ((j+1:Nat):Int).toNat=at_ bs 0:=h _ om
  have e2:Zdf [⟨(at_ bs 0).Y1,(at_ bs 0).Y2,ixL (j+1)⟩]=⟨(at_ bs 0).Y1,(at_ bs 0).Y2,ixL (j+1)⟩:=rfl
  rw [e,e2,if_neg (fun q=>q.elim (fun q=>by simp at q) (fun q=>by have q2:(at_ bs 0).Y2+gap<(at_ bs 0).Y1:=q;omega)),Zuq (j+1),Int.max_self];rfl
theorem Zrs {bs:List Box} (h:∀i,i<bs.length→at_ bs i=at_ bs 0):Zff bs=ixL bs.length:=by
 have hs:Zmm (cY bs) (ixL bs.length):=fun i j hij hj q=>by
  rw [Zea] at hj
  rw [Zgi hj,Zgi (show i<bs.length by omega),Zsv] at q
  have e1:=h j hj
  have e2:=h i om
  rw [show ((j:Int)).toNat=j from by omega,show ((i:Int)).toNat=i from by omega,e1,e2] at q
  omega
 have:=Zpt hs
 rwa [Zea] at this
theorem lin_sm {bs:List Box} {gap:Int} (hp:Zbx bs=true) (hs:smB bs) (hg:0≤gap):∀l∈Zfk bs gap (Zff bs) bs.length,l.Items.length≤12∨l.Items.length=60∧Zmm (cL bs) l.Items:=fun l hl=>by
 rcases hs with h|⟨h,h2⟩
 ·left
  have:=(Zlz hp (fun x hx=>Zes.1 hx) bs.length (by rw [Zdd];exact Nat.le_refl _) l hl).2.2
  omega
 ·right
  have b:=Zgo hp (j:=0) om
  have e:=Zuw h2 hg b.2.2.1 (bs.length-1) om
  rw [show bs.length-1+1=bs.length from by omega,←Zrs h2] at e
  rw [e,List.mem_singleton] at hl
  rw [hl]
  refine ⟨by show (Zff bs).length=60;rw [Zdd,h],fun i j hij hj q=> ?_⟩
  have hj:j<bs.length:=by rw [←Zdd bs];exact hj
  have e3:Zff bs=ixL bs.length:=Zrs h2
  simp only [e3,Zgi hj,Zgi (show i<bs.length by omega),Zko] at q
  rw [show ((j:Int)).toNat=j from by omega,show ((i:Int)).toNat=i from by omega,h2 j hj,h2 i om] at q
  omega
def Zpz (bs:List Box) (L:List Line) (r:Nat):List Line:=(L.take r).map (Zhr bs)++L.drop r
theorem Zjo (bs:List Box) (L:List Line) (r:Nat):(Zpz bs L r).length=L.length:=by simp [Zpz];omega
theorem srtK_0 (bs:List Box) (L:List Line):Zpz bs L 0=L:=by simp [Zpz]
theorem srtK_end (bs:List Box) (L:List Line):Zpz bs L L.length=L.map (Zhr bs):=by simp [Zpz]
theorem srtK_at {bs:List Box} {L:List Line} {r:Nat} (h:r<L.length):at_ (Zpz bs L r) r=at_ L r:=by
 have hl:((L.take r).map (Zhr bs)).length=r:=by simp;omega
 rw [Zpz,Zdm om,hl,Nat.sub_self,Zta];rfl
theorem srtK_set {bs:List Box} {L:List Line} {r:Nat} {x:Line} (h:r<L.length) (hx:x=Zhr bs (at_ L r)):(Zpz bs L r).set r x=Zpz bs L (r+1):=by
 subst hx
 refine ext_at (by rw [List.length_set,Zjo,Zjo]) fun k hk=> ?_
 rw [List.length_set,Zjo] at hk
 have lo:∀q j:Nat,j<q→q≤L.length→at_ (Zpz bs L q) j=Zhr bs (at_ L j):=fun q j hj hq=>by
  have hl:((L.take q).map (Zhr bs)).length=q:=by simp;omega
  rw [Zpz,Zdr om,Zem om,List.getElem_map,List.getElem_take,Zem om]
 have hi:∀q j:Nat,q≤j→q≤L.length→at_ (Zpz bs L q) j=at_ L j:=fun q j hj hq=>by
  have hl:((L.take q).map (Zhr bs)).length=q:=by simp;omega
  rw [Zpz,Zdm om,hl,Zta];congr 1;omega
 by_cases e:k=r
 ·rw [e,Zgy (by rw [Zjo];exact h),lo (r+1) r om om]
 ·rw [Zhy e]
  by_cases c:k<r
  ·rw [lo r k c om,lo (r+1) k om om]
  ·rw [hi r k om om,hi (r+1) k om om]
theorem ltLine (ob:Nat→Option Ob) (fv fr:Bool) (x:Line):leL ob fv (Zfg true x) (Zfg fr x):=And.intro rfl (And.intro rfl (And.intro (And.intro (fun _=>rfl) (And.intro rfl (And.intro rfl (fun i _=> .inl rfl)))) (rfl)))
theorem Zul {ob:Nat→Option Ob} {fr:Bool} (xs:List Line) (x:Line) {g:Nat→List AV} (h:leL ob true (g 0) (Zfg fr x)):∀i,i<(xs++[x]).length→AV.idsL (Zcd fr (xs++[x]) i)=[]∧leL ob true (Zgd xs.length (Zcd true xs) g i) (Zcd fr (xs++[x]) i):=by
 intro i hi
 by_cases hl:i<xs.length
 ·rw [Zfp hl]
  have e:Zcd fr (xs++[x]) i=Zfg fr (at_ xs i):=by show Zfg fr (at_ _ _)=_;rw [Zdr hl]
  rw [e];exact ⟨rfl,ltLine _ _ _ _⟩
 ·have e:i=xs.length:=by simp at hi;omega
  subst e
  rw [Zey (Nat.le_refl _),Nat.sub_self]
  have e:Zcd fr (xs++[x]) xs.length=Zfg fr x:=by show Zfg fr (at_ _ _)=_;rw [Zdm (Nat.le_refl _)];simp [at_]
  rw [e];exact ⟨rfl,h⟩
theorem oupdLine {ob:Nat→Option Ob} {fr:Bool} (xs:List Line) (k:Nat) (y:Line) {cs:List AV} (h:leL ob true cs (Zfg fr y)):∀i,i<(xs.set k y).length→AV.idsL (Zcd fr (xs.set k y) i)=[]∧leL ob true ((fun q=>bif Nat.beq q k then cs else Zcd true xs q) i) (Zcd fr (xs.set k y) i):=by
 intro i hi
 rw [List.length_set] at hi
 by_cases e:i=k
 ·subst e
  have e2:Zcd fr (xs.set i y) i=Zfg fr y:=by show Zfg fr (at_ _ _)=_;rw [Zgk hi]
  rw [e2]
  refine ⟨rfl,?_⟩
  show leL ob true (bif Nat.beq i i then cs else _) _
  rw [Nat.beq_refl,cond_true];exact h
 ·have e2:Zcd fr (xs.set k y) i=Zfg fr (at_ xs i):=by show Zfg fr (at_ _ _)=_;rw [Zgl e]
  rw [e2]
  refine ⟨rfl,?_⟩
  show leL ob true (bif Nat.beq i k then cs else Zcd true xs i) _
  rw [Znz e,cond_false]
  exact ltLine _ _ _ _
theorem Zzc {α:Type} [Inhabited α] (c:α→α→Int) (xs ys:List α):∀j:Nat,j≤xs.length→Zce c (xs++ys) j=Zce c xs j
 |0,_=>rfl
 |j+1,h=>by rw [Zce,Zce,Zzc c xs ys j om,Zdr om]
theorem iso_snoc {α:Type} [Inhabited α] (c:α→α→Int) (xs:List α) (k:α):Zce c (xs++[k]) (xs++[k]).length=Znd c (Zce c xs xs.length) k:=by
 rw [List.length_append,List.length_singleton,Zce,Zzc c xs [k] _ (Nat.le_refl _),Zdm (Nat.le_refl _),Nat.sub_self];rfl
theorem Zrt {α:Type} [Inhabited α] {c c':α→α→Int} {x:α} {p:List α} :∀n:Nat,(∀j,j<n→(c x (at_ p j)<0↔c' x (at_ p j)<0))→Zrv c x p n=Zrv c' x p n
 |0,_=>rfl
 |n+1,h=>by
  unfold Zrv
  rw [Zrt n fun j hj=>h j om]
  by_cases e:c x (at_ p n)<0
  ·rw [if_pos e,if_pos ((h n om).1 e)]
  ·rw [if_neg e,if_neg fun q=>e ((h n om).2 q)]
theorem Zjk {α:Type} [Inhabited α] {c c':α→α→Int} {xs:List α} (h:∀i j:Nat,i<j→j<xs.length→(c (at_ xs j) (at_ xs i)<0↔c' (at_ xs j) (at_ xs i)<0)):∀k:Nat,k≤xs.length→Zce c xs k=Zce c' xs k
 |0,_=>rfl
 |k+1,hk=>by
  rw [Zce,Zce,Zjk h k om]
  unfold Znd
  rw [Zrt (c:=c) (c':=c') _ fun j hj=> ?_]
  have hp:=Zew c' xs k om
  have hm:=hp.mem_iff.1 (Zbf hj)
  obtain ⟨i,hi,e⟩:=List.getElem_of_mem hm
  rw [List.length_take] at hi
  rw [List.getElem_take,←Zem om] at e
  rw [←e]
  exact h i k om om
theorem ordH_Y (bs:List Box):Zce (cH bs) (ixL bs.length) bs.length=Zff bs:=by
 refine Zjk (fun i j hij hj=> ?_) _ (by rw [Zea];exact Nat.le_refl _)
 rw [Zea] at hj
 rw [Zgi hj,Zgi (show i<bs.length by omega),Zsz,Zsv]
 omega
theorem Zid {α β:Type} [Inhabited α] [Inhabited β] {f:α→β} {xs:List α} {j:Nat} (h:j<xs.length):at_ (xs.map f) j=f (at_ xs j):=by
 rw [Zem (by rw [List.length_map];exact h),Zem h,List.getElem_map]
theorem add_y {bs:List Box} {gap:Int} {ls:List Line} {k:Int} (h:ls.length=0∨(Zdf ls).Bottom+gap<(at_ bs k.toNat).Y1):(Zgv bs gap ls k).map (Zhr bs)=ls.map (Zhr bs)++[⟨(at_ bs k.toNat).Y1,(at_ bs k.toNat).Y2,[k]⟩]:=by
 rw [Zgv,if_pos h,List.map_append];rfl
theorem add_n {bs:List Box} {gap:Int} {ls os:List Line} {k:Int} (h:¬ (ls.length=0∨(Zdf ls).Bottom+gap<(at_ bs k.toNat).Y1)) (ho:os=ls.map (Zhr bs)) {p:Nat} (hp:p=os.length-1):(Zgv bs gap ls k).map (Zhr bs)=os.set p ⟨(at_ os p).Top,max (at_ os p).Bottom (at_ bs k.toNat).Y2,Znd (cL bs) (at_ os p).Items k⟩:=by
 subst ho
 rw [List.length_map] at hp
 have hn:ls.length≠0:=fun q=>h (.inl q)
 subst hp
 rw [Zid (show ls.length-1<ls.length by omega),Zgv,if_neg h,List.map_set]
 congr 1
 show Zhr bs ⟨_,_,_⟩=_
 unfold Zhr
 simp only [iso_snoc];rfl
theorem ix_perm {bs:List Box} {xs:List Int} (h:∀x∈xs,0≤x∧x<(bs.length:Int)):ixIn bs.length (Zce (cL bs) xs xs.length):=fun x hx=>Zlx h _ (Nat.le_refl _) x hx
theorem Zya {c:Int→Int→Int} (xs:List Int) (k:Int):(Znd c xs k).length=xs.length+1:=Zgz (Zpw _ _ _ _)
def Zef {α:Type} [Inhabited α] [DecidableEq α] (a b:List α):Bool:=decide (a.length=b.length)&&Zlb a.length (fun j=>decide (at_ a j=at_ b j))
theorem Zjs {α:Type} [Inhabited α] [DecidableEq α] (a:List α):Zef a a=true:=by simp [Zef,Zlc]
def Zcm (bs:List Box) (gap:Int):List Line×Int:=if Zbx bs=true then (if inB gap 0 4095=true then (Zkp bs gap,0) else ([],2)) else ([],1)
theorem lr_inv {bs:List Box} {gap:Int} (h:Zbx bs=false):Zcm bs gap=([],1):=by unfold Zcm;rw [h];rfl
theorem lr_rng {bs:List Box} {gap:Int} (h:Zbx bs=true) (h2:inB gap 0 4095=false):Zcm bs gap=([],2):=by unfold Zcm;rw [if_pos h,h2];rfl
theorem lr_ok {bs:List Box} {gap:Int} (h:Zbx bs=true) (h2:inB gap 0 4095=true):Zcm bs gap=(Zkp bs gap,0):=by unfold Zcm;rw [if_pos h,if_pos h2]
def Zfh (n l h:Int):Int:=max 0 (max (l-n) (n-h))
def Zvn (ls:List Line) (j:Nat):Bool:=inB (at_ ls j).Top 0 (at_ ls j).Bottom&&(decide ((at_ ls j).Bottom≤4095)&&(decide (j=0)||decide ((at_ ls (j-1)).Bottom<(at_ ls j).Top)))
theorem Zht {ls:List Line} {j:Nat} :Zvn ls j=true↔(0≤(at_ ls j).Top∧(at_ ls j).Top≤(at_ ls j).Bottom)∧(at_ ls j).Bottom≤4095∧(j=0∨(at_ ls (j-1)).Bottom<(at_ ls j).Top):=by
 simp [Zvn,inB]
theorem Zpl {ls:List Line} {i:Int} (h0:0≤i) (h1:inB (at_ ls i.toNat).Top 0 (at_ ls i.toNat).Bottom=true) (h2:¬ 4095<(at_ ls i.toNat).Bottom) (h3:¬ 0<i∨¬ (at_ ls i.toNat).Top≤(at_ ls (i-1).toNat).Bottom):Zvn ls i.toNat=true:=by
 have q:=Zfz.1 h1
 rw [show (i-1).toNat=i.toNat-1 from by omega] at h3
 exact Zht.2 ⟨by omega,by omega,by omega⟩
theorem Zkc {ls:List Line} {i:Int} (h0:0≤i) (h:inB (at_ ls i.toNat).Top 0 (at_ ls i.toNat).Bottom=false∨4095<(at_ ls i.toNat).Bottom∨(0<i∧(at_ ls i.toNat).Top≤(at_ ls (i-1).toNat).Bottom)):Zvn ls i.toNat=false:=by
 rw [Bool.eq_false_iff]
 intro q
 have q2:=Zht.1 q
 rw [show (i-1).toNat=i.toNat-1 from by omega] at h
 rcases h with h|h|h
 ·rw [Zfz.2 q2.1] at h;cases h
 ·omega
 ·omega
def Zgc (ls:List Line) (y:Int):Nat→Nat
 |0=>0
 |k+1=>if Zfh y (at_ ls k).Top (at_ ls k).Bottom<Zfh y (at_ ls (Zgc ls y k)).Top (at_ ls (Zgc ls y k)).Bottom then k else Zgc ls y k
theorem Zpm (ls:List Line) (y:Int):∀k:Nat,Zgc ls y k≤k-1
 |0=>Nat.le_refl _
 |k+1=>by
  have:=Zpm ls y k
  unfold Zgc;split<;>omega
theorem Zrj (ls:List Line) (y:Int):Zgc ls y 1=0:=if_neg (by show ¬ Zfh y (at_ ls 0).Top (at_ ls 0).Bottom<Zfh y (at_ ls 0).Top (at_ ls 0).Bottom;omega)
theorem near_y {ls:List Line} {y:Int} {k:Nat} (h:Zfh y (at_ ls k).Top (at_ ls k).Bottom<Zfh y (at_ ls (Zgc ls y k)).Top (at_ ls (Zgc ls y k)).Bottom):Zgc ls y (k+1)=k:=if_pos h
theorem near_n {ls:List Line} {y:Int} {k:Nat} (h:¬ Zfh y (at_ ls k).Top (at_ ls k).Bottom<Zfh y (at_ ls (Zgc ls y k)).Top (at_ ls (Zgc ls y k)).Bottom):Zgc ls y (k+1)=Zgc ls y k:=if_neg h
def Zjq (ls:List Line) (y:Int):Int×Int:=if Zlb ls.length (Zvn ls)=true then (if inB y 0 4095=true then (if (ls.length:Int)=0 then (0,3) else ((Zgc ls y ls.length:Int),0)) else (0,2)) else (0,1)
theorem Zkb {ls:List Line} {y:Int} {j:Nat} (hj:j<ls.length) (h:Zvn ls j=false):Zjq ls y=(0,1):=by unfold Zjq;rw [Zhw hj h];rfl
theorem Zye {ls:List Line} {y:Int} (h:Zlb ls.length (Zvn ls)=true) (h2:inB y 0 4095=false):Zjq ls y=(0,2):=by unfold Zjq;rw [if_pos h,h2];rfl
theorem lop_no {ls:List Line} {y:Int} (h:Zlb ls.length (Zvn ls)=true) (h2:inB y 0 4095=true) (h3:(ls.length:Int)=0):Zjq ls y=(0,3):=by rw [Zjq,if_pos h,if_pos h2,if_pos h3]
theorem Zyd {ls:List Line} {y:Int} (h:Zlb ls.length (Zvn ls)=true) (h2:inB y 0 4095=true) (h3:¬ (ls.length:Int)=0):Zjq ls y=((Zgc ls y ls.length:Int),0):=by rw [Zjq,if_pos h,if_pos h2,if_neg h3]
def Zlf (a b:Line):Bool:=decide (a.Top=b.Top)&&(decide (a.Bottom=b.Bottom)&&Zef a.Items b.Items)
theorem Zvp (a:Line):Zlf a a=true:=by simp [Zlf,Zjs]
theorem okBx_of {b:Box} (h:(0≤b.X1∧b.X1≤b.X2∧b.X2≤4095)∧0≤b.Y1∧b.Y1≤b.Y2∧b.Y2≤4095):Zdx b=true:=by
 simp [Zdx,inB];omega
theorem Zyk {α:Type} {P:α→Prop} {xs:List α} {x:α} (h:∀y∈xs,P y) (hx:P x):∀y∈xs++[x],P y:=fun y hy=>by
 rcases List.mem_append.1 hy with q|q
 ·exact h y q
 ·rw [List.mem_singleton.1 q];exact hx
def smD (bs:List Box):Prop:=bs.length≤12∨(60≤bs.length∧bs.length≤61)∧∀i,i<bs.length→at_ bs i=at_ bs 0
theorem Zdg (n:Nat) (b:Box) (h:n=60∨n=61):smD (List.replicate n b):=by
 refine .inr ⟨by rw [List.length_replicate];omega,fun i hi=> ?_⟩
 rw [List.length_replicate] at hi
 rw [Zem (by rw [List.length_replicate];exact hi),Zem (by rw [List.length_replicate];omega),List.getElem_replicate,List.getElem_replicate]
theorem Ztf {bs:List Box} (h:smD bs) (hp:Zbx bs=true):smB bs:=by
 have:=Znh hp
 rcases h with h|⟨h,h2⟩
 ·exact .inl h
 ·exact .inr ⟨by omega,h2⟩
theorem Zyc {bs:List Box} (hl:bs.length≤60) (h:∀b∈bs,Zdx b=true):Zbx bs=true:=by
 simp only [Zbx,Bool.and_eq_true,decide_eq_true_eq]
 exact ⟨by omega,Zgx fun j hj=>h _ (Zbf hj)⟩
def lnN (n:Nat) (l:Line):Prop:=(1≤l.Items.length∧l.Items.length≤60)∧(∀x∈l.Items,0≤x∧x<(n:Int))∧(0≤l.Top∧l.Top≤4095)∧0≤l.Bottom∧l.Bottom≤4095
theorem add_top {bs:List Box} {gap:Int} {ls:List Line} {k:Int} (hp:Zbx bs=true) (hk:0≤k∧k<(bs.length:Int)) (h:∀l∈ls,(0≤l.Top∧l.Top≤4095)∧1≤l.Items.length):∀l∈Zgv bs gap ls k,(0≤l.Top∧l.Top≤4095)∧1≤l.Items.length:=fun l hl=>by
 have b:=Zgo hp (j:=k.toNat) om
 rw [Zpv] at hl
 have hq:∀l∈Znb bs gap ls k,0≤l.Top∧l.Top≤4095:=fun l hl=>by
  rcases Ztb hl with q|q
  ·exact (h l q).1
  ·rw [q];exact ⟨by show 0≤(at_ bs k.toNat).Y1;omega,by show (at_ bs k.toNat).Y1≤4095;omega⟩
 rcases List.mem_or_eq_of_mem_set hl with q|q
 ·rcases Ztb q with r|r
  ·exact h l r
  ·exfalso
   by_cases c:ls.length=0∨(Zdf ls).Bottom+gap<(at_ bs k.toNat).Y1
   ·rw [Zyt c,List.length_append,List.length_singleton,Nat.add_sub_cancel,Zpp] at hl
    rcases List.mem_append.1 hl with z|z
    ·have:=(h l z).2;rw [r] at this;simp at this
    ·have e:=congrArg (fun l=>l.Items.length) (r.symm.trans (List.mem_singleton.1 z));simp at e
   ·rw [pre_n c] at q
    have:=(h l q).2;rw [r] at this;simp at this
 ·rw [q]
  have z:=hq _ (Zla (Zpu bs gap ls k).1)
  exact ⟨z,by show 1≤((Zdf (Znb bs gap ls k)).Items++[k]).length;rw [List.length_append,List.length_singleton];omega⟩
theorem Zzd {bs:List Box} {gap:Int} {od:List Int} (hp:Zbx bs=true) (ho:∀x∈od,0≤x∧x<(bs.length:Int)):∀j:Nat,j≤od.length→∀l∈Zfk bs gap od j,(0≤l.Top∧l.Top≤4095)∧1≤l.Items.length
 |0,_=>fun l hl=>by simp [Zfk] at hl
 |j+1,h=>add_top hp (ho _ (Zbf om)) (Zzd hp ho j om)
theorem Ztg {bs:List Box} {gap:Int} (hp:Zbx bs=true):(∀l∈Zkp bs gap,lnN bs.length l)∧(Zkp bs gap).length≤bs.length:=by
 have hn:=Znh hp
 refine ⟨fun l hl=> ?_,by unfold Zkp;rw [List.length_map];exact Zma _ _ _ _⟩
 obtain ⟨m,hm,rfl⟩:=List.mem_map.1 hl
 have h1:=Zlz (gap:=gap) hp (fun x hx=>Zes.1 hx) bs.length (by rw [Zdd];exact Nat.le_refl _) m hm
 have h2:=Zzd (gap:=gap) hp (fun x hx=>Zes.1 hx) bs.length (by rw [Zdd];exact Nat.le_refl _) m hm
 have e:(Zhr bs m).Items.length=m.Items.length:=Zer _ _ _
 have h3:=h1.2.2
 exact ⟨by rw [e];exact ⟨h2.2,by omega⟩,fun x hx=>Zlx h1.2.1 _ (Nat.le_refl _) x hx,h2.1,h1.1⟩
theorem Zip (s:l00Src) (hs:Zbb s) (ha:s.atx≤3999999999999999400):∃(s':l00Src) (bs:List Box),(bs.length≤11)∧(Zbb s')∧(s'.code=s.code)∧(s.atx+0≤s'.atx∧s'.atx≤s.atx+400)∧(∀b∈bs,Zdx b=true)∧Zap Try.prog 38 [.ref 7001 0] (Zac [(7001,Zaa s)]) false (.arr 8231) (Zac [(7001,Zaa s'),(8231,Zfd bs)]):=by
  have hh:∃r:l00Src×(List Box),((r.2.length≤11)∧(Zbb r.1)∧(r.1.code=s.code)∧(s.atx+0≤r.1.atx∧r.1.atx≤s.atx+400)∧(∀b∈r.2,Zdx b=true)∧(True))∧Zap Try.prog 38 [.ref 7001 0] (Zac [(7001,Zaa s)]) false (.arr 8231) (Zac [(7001,Zaa r.1),(8231,Zfd r.2)]):=by
    refine Zda (Φ:=fun r:l00Src×(List Box)=>(r.2.length≤11)∧(Zbb r.1)∧(r.1.code=s.code)∧(s.atx+0≤r.1.atx∧r.1.atx≤s.atx+400)∧(∀b∈r.2,Zdx b=true)∧(True)) [(7001,Zaa s)] (fun r=>[(7001,Zaa r.1),(8231,Zfd r.2)]) (fn:=Try.f38) (nt:=39) Try.func38 rfl rfl (args:=[.ref 7001 0]) rfl (Zax (.inr trivial) Zcz) (res:=fun r=> .arr 8231) ?_
    refine xQ [] [0] [7001] [] trivial ?_
    refine xQ [(0,.new 7)] [0,3] [7,7001] [] trivial (Zau (Zau ?_))
    obtain ⟨v_1,s'_1,hx1_0,hx1_1,hx1_2,hx1_3,hc1⟩:=Zcv s 12 (by first|assumption|(simp only [Zbb] at*;simp_all;done)) om
    refine x_r [(1,.lend [(7001,Zaa s,Zaa s'_1)] [] [(true,.any),(true,.any)] true (I v_1))] [0,3,4] [7,7001] [.ref 7001 0,.arr 7,I v_1] [some (.arr 4 0 (Zfu [] 4)),some (Zaa s'_1)] [Zap Try.prog 39 [.ref 7001 0,I 12] (Zac [(7001,Zaa s)]) true (I v_1) (Zac [(7001,Zaa s'_1)])∧(((Zaa s:Ob)=Zaa s∨Zdt Zdh true (Zaa s) (Zaa s))∧Zal false (Zaa s))∧True] ⟨⟨hc1,⟨.inl rfl,(by simp [Zal,Zaf,Zaj,Zcc])⟩,trivial⟩,trivial⟩ (Zad (Zby ?_))
    refine Zfm [] (T:=[(0,.ref 7001 0),(3,.arr 7),(4,I v_1)]) (O:=[(7,Zfd ([]:List Box)),(7001,Zaa s'_1)]) rfl (⟨.inl rfl,.inl rfl,.inl rfl,trivial⟩) (⟨.inr ⟨rfl,(by first|rfl|(simp;done)|(simp;omega)|omega),fun i_ hi_=>absurd hi_ (Nat.not_lt_zero _)⟩,.inl rfl,trivial⟩) ?_
    refine Zfn (X:=(List Box)×Int×l00Src) (fun x=>mkS [(0,.ref 7001 0),(3,.arr 7),(4,I x.2.1)] [(7,Zfd x.1),(7001,Zaa x.2.2)]) (fun x=>(Zbb x.2.2∧x.2.2.code=s.code∧s.atx≤x.2.2.atx∧x.2.2.atx≤s.atx+2+30*(11-x.2.1))∧(0≤x.2.1∧x.2.1≤11)∧((x.1.length:Int)+x.2.1≤11)∧(∀b∈x.1,Zdx b=true)∧True) (fun x=>x.2.1.toNat) (([]:List Box),v_1,s'_1) rfl (show (Zbb s'_1∧s'_1.code=s.code∧s.atx≤s'_1.atx∧s'_1.atx≤s.atx+2+30*(11-v_1))∧(0≤v_1∧v_1≤11)∧((([]:List Box).length:Int)+v_1≤11)∧(∀b∈([]:List Box),Zdx b=true)∧True from ⟨(by exact ⟨by assumption,by first|assumption|rfl|(simp only [*];done),by omega,by omega⟩),om,(by simp;omega),(by (intro z hz;simp at hz)),trivial⟩) (fun x hI=> ?_)
    obtain ⟨out,k,src⟩:=x
    obtain ⟨hs0,hk0,hl0,hal,_⟩:(Zbb src∧src.code=s.code∧s.atx≤src.atx∧src.atx≤s.atx+2+30*(11-k))∧(0≤k∧k≤11)∧((out.length:Int)+k≤11)∧(∀b∈out,Zdx b=true)∧True:=hI
    show XW _ _ _ _ (mkS [(0,.ref 7001 0),(3,.arr 7),(4,I k)] [(7,Zfd out),(7001,Zaa src)]) _ _
    refine Zau (Zau ?_)
    by_cases h1:0<k
    ·refine x_q [(1,.dec true)] [0,3,4,11] [7,7001] [_] ⟨h1,trivial⟩ (Zad (Zib (Zca (Zad (Zau (Zby (Zau ?_)))))))
     obtain ⟨v_2,s'_2,hx2_0,hx2_1,hx2_2,hx2_3,hc2⟩:=Zcv src 30 (by first|assumption|(simp only [Zbb] at*;simp_all;done)) om
     refine x_q [(1,.lend [(7001,Zaa src,Zaa s'_2)] [] [(true,.any),(true,.any)] true (I v_2))] [0,3,4,5] [7,7001] [Zap Try.prog 39 [.ref 7001 0,I 30] (Zac [(7001,Zaa src)]) true (I v_2) (Zac [(7001,Zaa s'_2)])∧(((Zaa src:Ob)=Zaa src∨Zdt Zdh true (Zaa src) (Zaa src))∧Zal false (Zaa src))∧True,inR .i64 (v_2*20)] ⟨⟨hc2,⟨.inl rfl,(by simp [Zal,Zaf,Zaj,Zcc])⟩,trivial⟩,(Zah om om),trivial⟩ (Zad (Zau ?_))
     obtain ⟨v_3,s'_3,hx3_0,hx3_1,hx3_2,hx3_3,hc3⟩:=Zcv s'_2 4 (by first|assumption|(simp only [Zbb] at*;simp_all;done)) om
     obtain ⟨v_4,s'_4,hx4_0,hx4_1,hx4_2,hx4_3,hc4⟩:=Zcv s'_3 20 (by first|assumption|(simp only [Zbb] at*;simp_all;done)) om
     refine x_q [(1,.lend [(7001,Zaa s'_2,Zaa s'_3)] [] [(true,.any),(true,.any)] true (I v_3)),(4,.lend [(7001,Zaa s'_3,Zaa s'_4)] [] [(true,.any),(true,.any)] true (I v_4))] [0,3,4,5,6] [7,7001] [Zap Try.prog 39 [.ref 7001 0,I 4] (Zac [(7001,Zaa s'_2)]) true (I v_3) (Zac [(7001,Zaa s'_3)])∧(((Zaa s'_2:Ob)=Zaa s'_2∨Zdt Zdh true (Zaa s'_2) (Zaa s'_2))∧Zal false (Zaa s'_2))∧True,inR .i64 (v_3*100),Zap Try.prog 39 [.ref 7001 0,I 20] (Zac [(7001,Zaa s'_3)]) true (I v_4) (Zac [(7001,Zaa s'_4)])∧(((Zaa s'_3:Ob)=Zaa s'_3∨Zdt Zdh true (Zaa s'_3) (Zaa s'_3))∧Zal false (Zaa s'_3))∧True,inR .i64 ((v_3*100)+v_4)] ⟨⟨hc3,⟨.inl rfl,(by simp [Zal,Zaf,Zaj,Zcc])⟩,trivial⟩,(Zah om om),⟨hc4,⟨.inl rfl,(by simp [Zal,Zaf,Zaj,Zcc])⟩,trivial⟩,(Zah om om),trivial⟩ (Zad ?_)
     obtain ⟨v_5,s'_5,hx5_0,hx5_1,hx5_2,hx5_3,hc5⟩:=Zcv s'_4 40 (by first|assumption|(simp only [Zbb] at*;simp_all;done)) om
     obtain ⟨v_6,s'_6,hx6_0,hx6_1,hx6_2,hx6_3,hc6⟩:=Zcv s'_5 50 (by first|assumption|(simp only [Zbb] at*;simp_all;done)) om
     refine x_r [(5,.lend [(7001,Zaa s'_4,Zaa s'_5)] [] [(true,.any),(true,.any)] true (I v_5)),(10,.lend [(7001,Zaa s'_5,Zaa s'_6)] [] [(true,.any),(true,.any)] true (I v_6)),(13,.new 36),(14,.new 37)] [0,3,4] [37,7001] [.ref 7001 0,.arr 37,I k] [some (.arr 4 (out.length+1) (Zgd out.length (Zdi out) (Zfu [I (v_2*20),I ((v_3*100)+v_4),I ((v_2*20)+v_5),I ((((v_3*100)+v_4)+20)+v_6)] 4))),some (Zaa s'_6)] [Zap Try.prog 39 [.ref 7001 0,I 40] (Zac [(7001,Zaa s'_4)]) true (I v_5) (Zac [(7001,Zaa s'_5)])∧(((Zaa s'_4:Ob)=Zaa s'_4∨Zdt Zdh true (Zaa s'_4) (Zaa s'_4))∧Zal false (Zaa s'_4))∧True,inR .i64 ((v_2*20)+v_5),inR .i64 (((v_3*100)+v_4)+20),Zap Try.prog 39 [.ref 7001 0,I 50] (Zac [(7001,Zaa s'_5)]) true (I v_6) (Zac [(7001,Zaa s'_6)])∧(((Zaa s'_5:Ob)=Zaa s'_5∨Zdt Zdh true (Zaa s'_5) (Zaa s'_5))∧Zal false (Zaa s'_5))∧True,inR .i64 ((((v_3*100)+v_4)+20)+v_6),(out.length+1)*32≤140737488355328] ⟨⟨hc5,⟨.inl rfl,(by simp [Zal,Zaf,Zaj,Zcc])⟩,trivial⟩,(Zah om om),(Zah om om),⟨hc6,⟨.inl rfl,(by simp [Zal,Zaf,Zaj,Zcc])⟩,trivial⟩,(Zah om om),om,trivial⟩ (Zbt 1 (Zad ?_))
     refine x_r [] [0,3,4] [37,7001] [.ref 7001 0,.arr 37,I (k-1)] [some (.arr 4 (out.length+1) (Zgd out.length (Zdi out) (Zfu [I (v_2*20),I ((v_3*100)+v_4),I ((v_2*20)+v_5),I ((((v_3*100)+v_4)+20)+v_6)] 4))),some (Zaa s'_6)] [inR .i64 (k-1)] ⟨(Zah om om),trivial⟩ ?_
     refine Zdl [(7,37)] (T:=[(0,.ref 7001 0),(3,.arr 7),(4,I (k-1))]) (O:=[(7,Zfd (out++[(Box.mk (v_2*20) ((v_3*100)+v_4) ((v_2*20)+v_5) ((((v_3*100)+v_4)+20)+v_6))])),(7001,Zaa s'_6)]) rfl (⟨.inl rfl,.inl rfl,.inl rfl,trivial⟩) (⟨.inr ⟨rfl,(by first|rfl|(simp;done)|(simp;omega)|omega),fun i_ hi_=> .inl (Zeg (enc:=Zmo) (xs:=out) rfl i_ hi_)⟩,.inl rfl,trivial⟩) (Zcs ((out++[(Box.mk (v_2*20) ((v_3*100)+v_4) ((v_2*20)+v_5) ((((v_3*100)+v_4)+20)+v_6))]),(k-1),s'_6) rfl (show (Zbb s'_6∧s'_6.code=s.code∧s.atx≤s'_6.atx∧s'_6.atx≤s.atx+2+30*(11-(k-1)))∧(0≤(k-1)∧(k-1)≤11)∧(((out++[(Box.mk (v_2*20) ((v_3*100)+v_4) ((v_2*20)+v_5) ((((v_3*100)+v_4)+20)+v_6))]).length:Int)+(k-1)≤11)∧(∀b∈(out++[(Box.mk (v_2*20) ((v_3*100)+v_4) ((v_2*20)+v_5) ((((v_3*100)+v_4)+20)+v_6))]),Zdx b=true)∧True from ⟨(by exact ⟨by assumption,by first|assumption|rfl|(simp only [*];done),by omega,by omega⟩),om,(by simp;omega),(by exact Zyk hal (okBx_of ⟨by dsimp only;omega,by dsimp only;omega⟩)),trivial⟩) (by first|(show ((k-1).toNat:Nat)<k.toNat;omega)|(dsimp only;omega)))
    refine x_r [(1,.dec false)] [0,3,4,11] [7,7001] [.ref 7001 0,.arr 7,I k,Bv false] [some (Zfd out),some (Zaa src)] [_] ⟨h1,trivial⟩ (Zad (Zde rfl (Zdy (Zbd ?_))))
    refine Zbj ?_
    refine Zbe (Zad ?_)
    refine xR [] [2] [7,7001] [.arr 7] [some (Zfd out),some (Zaa src)] [] trivial (Zcl ?_)
    refine Zdl [(8231,7)] (T:=[(2,.arr 8231)]) (O:=[(7001,Zaa src),(8231,Zfd out)]) rfl (⟨.inl rfl,trivial⟩) (⟨.inl rfl,.inl rfl,trivial⟩) ?_
    refine Zbs (src,out) (show (out.length≤11)∧(Zbb src)∧(src.code=s.code)∧(s.atx+0≤src.atx∧src.atx≤s.atx+400)∧(∀b∈out,Zdx b=true)∧(True) from ⟨(by first|omega|assumption|rfl|(simp;done)|(simp;omega)|(simp_all;done)|assumption|exact hal),(by first|omega|assumption|rfl|(simp;done)|(simp;omega)|(simp_all;done)|assumption|exact hal),(by first|omega|assumption|rfl|(simp;done)|(simp;omega)|(simp_all;done)|assumption|exact hal),(by first|omega|assumption|rfl|(simp;done)|(simp;omega)|(simp_all;done)|assumption|exact hal),(by first|omega|assumption|rfl|(simp;done)|(simp;omega)|(simp_all;done)|assumption|exact hal),trivial⟩) (⟨.inl rfl,.inl rfl,trivial⟩) (.arr 8231) (by kernel_rfl) (.inl rfl) (fun h=>by cases h) (fun h=>by cases h)
  obtain ⟨⟨s',bs⟩,⟨hh0,hh1,hh2,hh3,hh4,_⟩,hc⟩:=hh
  exact ⟨s',bs,hh0,hh1,hh2,hh3,hh4,hc⟩
theorem Zgw (s:l00Src) (list:List Int) (hs:Zbb s) (ha:s.atx≤3999999999999999980) (hl:0<list.length∧list.length≤1000):∃(v:Int) (s':l00Src),(v∈list)∧(Zbb s')∧(s'.code=s.code)∧(s.atx+0≤s'.atx∧s'.atx≤s.atx+2)∧Zap Try.prog 42 [.ref 7001 0,slI false list] (Zac [(7001,Zaa s)]) true (I v) (Zac [(7001,Zaa s')]):=by
 have hh:∃r:Int×l00Src,((r.1∈list)∧(Zbb r.2)∧(r.2.code=s.code)∧(s.atx+0≤r.2.atx∧r.2.atx≤s.atx+2)∧(True))∧Zap Try.prog 42 [.ref 7001 0,slI false list] (Zac [(7001,Zaa s)]) true (I r.1) (Zac [(7001,Zaa r.2)]):=by
  refine Zda (Φ:=fun r:Int×l00Src=>(r.1∈list)∧(Zbb r.2)∧(r.2.code=s.code)∧(s.atx+0≤r.2.atx∧r.2.atx≤s.atx+2)∧(True)) [(7001,Zaa s)] (fun r=>[(7001,Zaa r.2)]) (fn:=Try.f42) (nt:=12) Try.func42 rfl rfl (args:=[.ref 7001 0,slI false list]) rfl (Zax (.inr trivial) (Zax (.inl ⟨rfl,Zje false _⟩) Zcz)) (res:=fun r=>I r.1) ?_
  refine xQ [] [0,1] [7001] [] trivial (Zau ?_)
  obtain ⟨v_1,s'_1,hx1_0,hx1_1,hx1_2,hx1_3,hc1⟩:=Zcv s (list.length:Int) (by first|assumption|(simp only [Zbb] at*;simp_all;done)) om
  refine x_r [(4,.lend [(7001,Zaa s,Zaa s'_1)] [] [(true,.any),(true,.any)] true (I v_1))] [4] [7001] [I (at_ list v_1.toNat)] [some (Zaa s'_1)] [Zap Try.prog 39 [.ref 7001 0,I (list.length:Int)] (Zac [(7001,Zaa s)]) true (I v_1) (Zac [(7001,Zaa s'_1)])∧(((Zaa s:Ob)=Zaa s∨Zdt Zdh true (Zaa s) (Zaa s))∧Zal false (Zaa s))∧True,(0:Int)≤v_1∧v_1<(list.length:Int)] ⟨⟨hc1,⟨.inl rfl,(by simp [Zal,Zaf,Zaj,Zcc])⟩,trivial⟩,⟨om,om⟩,trivial⟩ (Zad (Zcl ?_))
  refine Zbs ((at_ list v_1.toNat),s'_1) (show ((at_ list v_1.toNat)∈list)∧(Zbb s'_1)∧(s'_1.code=s.code)∧(s.atx+0≤s'_1.atx∧s'_1.atx≤s.atx+2)∧(True) from ⟨(by first|omega|rfl|assumption|(dsimp only;first|omega|rfl|assumption)|(simp only [*];done)|(exact Zbf om)|(simp_all;done)),(by first|omega|rfl|assumption|(dsimp only;first|omega|rfl|assumption)|(simp only [*];done)|(exact Zbf om)|(simp_all;done)),(by first|omega|rfl|assumption|(dsimp only;first|omega|rfl|assumption)|(simp only [*];done)|(exact Zbf om)|(simp_all;done)),(by first|omega|rfl|assumption|(dsimp only;first|omega|rfl|assumption)|(simp only [*];done)|(exact Zbf om)|(simp_all;done)),trivial⟩) (⟨.inl rfl,trivial⟩) (I (at_ list v_1.toNat)) (by kernel_rfl) (.inl rfl) (fun _=>rfl) (fun _=>trivial)
 obtain ⟨⟨v,s'⟩,⟨hh0,hh1,hh2,hh3,_⟩,hc⟩:=hh
 exact ⟨v,s',hh0,hh1,hh2,hh3,hc⟩
theorem Zpx (s:l00Src) (hs:Zbb s) (ha:s.atx≤3999999999999999800):∃(v:Box) (s':l00Src),(Zbb s')∧(s'.code=s.code)∧(s.atx+0≤s'.atx∧s'.atx≤s.atx+60)∧Zap Try.prog 59 [.ref 7001 0] (Zac [(7001,Zaa s)]) true (Zga v) (Zac [(7001,Zaa s')]):=by
  have hh:∃r:Box×l00Src,((Zbb r.2)∧(r.2.code=s.code)∧(s.atx+0≤r.2.atx∧r.2.atx≤s.atx+60)∧(True))∧Zap Try.prog 59 [.ref 7001 0] (Zac [(7001,Zaa s)]) true (Zga r.1) (Zac [(7001,Zaa r.2)]):=by
    refine Zda (Φ:=fun r:Box×l00Src=>(Zbb r.2)∧(r.2.code=s.code)∧(s.atx+0≤r.2.atx∧r.2.atx≤s.atx+60)∧(True)) [(7001,Zaa s)] (fun r=>[(7001,Zaa r.2)]) (fn:=Try.f59) (nt:=41) Try.func59 rfl rfl (args:=[.ref 7001 0]) rfl (Zax (.inr trivial) Zcz) (res:=fun r=>Zga r.1) ?_
    refine xQ [(0,.new 2)] [0,2] [2,7001] [] trivial (Zau ?_)
    obtain ⟨v_1,s'_1,hx1_0,hx1_1,hx1_2,hx1_3,hc1⟩:=Zcv s 900 (by first|assumption|(simp only [Zbb] at*;simp_all;done)) om
    refine x_q [(1,.lend [(7001,Zaa s,Zaa s'_1)] [] [(true,.any),(true,.any)] true (I v_1))] [0,2,3] [2,7001] [Zap Try.prog 39 [.ref 7001 0,I 900] (Zac [(7001,Zaa s)]) true (I v_1) (Zac [(7001,Zaa s'_1)])∧(((Zaa s:Ob)=Zaa s∨Zdt Zdh true (Zaa s) (Zaa s))∧Zal false (Zaa s))∧True] ⟨⟨hc1,⟨.inl rfl,(by simp [Zal,Zaf,Zaj,Zcc])⟩,trivial⟩,trivial⟩ (Zad (Zau ?_))
    obtain ⟨v_2,s'_2,hx2_0,hx2_1,hx2_2,hx2_3,hc2⟩:=Zcv s'_1 900 (by first|assumption|(simp only [Zbb] at*;simp_all;done)) om
    refine x_q [(1,.lend [(7001,Zaa s'_1,Zaa s'_2)] [] [(true,.any),(true,.any)] true (I v_2))] [0,2,3,4] [2,7001] [Zap Try.prog 39 [.ref 7001 0,I 900] (Zac [(7001,Zaa s'_1)]) true (I v_2) (Zac [(7001,Zaa s'_2)])∧(((Zaa s'_1:Ob)=Zaa s'_1∨Zdt Zdh true (Zaa s'_1) (Zaa s'_1))∧Zal false (Zaa s'_1))∧True] ⟨⟨hc2,⟨.inl rfl,(by simp [Zal,Zaf,Zaj,Zcc])⟩,trivial⟩,trivial⟩ (Zad (Zau ?_))
    obtain ⟨v_3,s'_3,hx3_0,hx3_1,hx3_2,hx3_3,hc3⟩:=Zcv s'_2 300 (by first|assumption|(simp only [Zbb] at*;simp_all;done)) om
    obtain ⟨v_4,s'_4,hx4_0,hx4_1,hx4_2,hx4_3,hc4⟩:=Zcv s'_3 300 (by first|assumption|(simp only [Zbb] at*;simp_all;done)) om
    refine x_r [(4,.lend [(7001,Zaa s'_2,Zaa s'_3)] [] [(true,.any),(true,.any)] true (I v_3)),(8,.lend [(7001,Zaa s'_3,Zaa s'_4)] [] [(true,.any),(true,.any)] true (I v_4)),(11,.new 5)] [0,2,5] [2,5,7001] [.ref 7001 0,.ref 2 0,.ref 5 0] [some (.box [I 0,I 0,I 0,I 0]),some (.box [I v_1,I v_2,I (v_1+v_3),I (v_2+v_4)]),some (Zaa s'_4)] [Zap Try.prog 39 [.ref 7001 0,I 300] (Zac [(7001,Zaa s'_2)]) true (I v_3) (Zac [(7001,Zaa s'_3)])∧(((Zaa s'_2:Ob)=Zaa s'_2∨Zdt Zdh true (Zaa s'_2) (Zaa s'_2))∧Zal false (Zaa s'_2))∧True,inR .i64 (v_1+v_3),Zap Try.prog 39 [.ref 7001 0,I 300] (Zac [(7001,Zaa s'_3)]) true (I v_4) (Zac [(7001,Zaa s'_4)])∧(((Zaa s'_3:Ob)=Zaa s'_3∨Zdt Zdh true (Zaa s'_3) (Zaa s'_3))∧Zal false (Zaa s'_3))∧True,inR .i64 (v_2+v_4)] ⟨⟨hc3,⟨.inl rfl,(by simp [Zal,Zaf,Zaj,Zcc])⟩,trivial⟩,(Zah om om),⟨hc4,⟨.inl rfl,(by simp [Zal,Zaf,Zaj,Zcc])⟩,trivial⟩,(Zah om om),trivial⟩ (Zad (Zau (Zau ?_)))
    obtain ⟨v_5,s'_5,hx5_0,hx5_1,hx5_2,hx5_3,hc5⟩:=Zcv s'_4 16 (by first|assumption|(simp only [Zbb] at*;simp_all;done)) om
    refine x_q [(1,.lend [(7001,Zaa s'_4,Zaa s'_5)] [] [(true,.any),(true,.any)] true (I v_5))] [0,2,5,22] [2,5,7001] [Zap Try.prog 39 [.ref 7001 0,I 16] (Zac [(7001,Zaa s'_4)]) true (I v_5) (Zac [(7001,Zaa s'_5)])∧(((Zaa s'_4:Ob)=Zaa s'_4∨Zdt Zdh true (Zaa s'_4) (Zaa s'_4))∧Zal false (Zaa s'_4))∧True] ⟨⟨hc5,⟨.inl rfl,(by simp [Zal,Zaf,Zaj,Zcc])⟩,trivial⟩,trivial⟩ (Zad (Zby (Zau ?_)))
    by_cases h1:v_5=0
    ·refine x_q [(0,.dec true)] [0,2,5,22,23] [2,5,7001] [_] ⟨h1,trivial⟩ (Zad (Zib ?_))
     obtain ⟨v_6,s'_6,hx6_0,hx6_1,hx6_2,hx6_3,hc6⟩:=Zgw s'_5 ([(-1),(v_1+v_3),((v_1+v_3)+1)]) (by first|assumption|(simp only [Zbb] at*;simp_all;done)) om (by simp)
     refine x_q [(6,.new 31),(7,.lend [(7001,Zaa s'_5,Zaa s'_6)] [] [(true,.any),(false,slI false ([(-1),(v_1+v_3),((v_1+v_3)+1)]))] true (I v_6))] [2,5] [2,5,7001] [inR .i64 ((v_1+v_3)+1),Zap Try.prog 42 [.ref 7001 0,slI false ([(-1),(v_1+v_3),((v_1+v_3)+1)])] (Zac [(7001,Zaa s'_5)]) true (I v_6) (Zac [(7001,Zaa s'_6)])∧((false=true→true=true)∧1=1∧3=(([(-1),(v_1+v_3),((v_1+v_3)+1)]).length)∧∀i_,i_<(([(-1),(v_1+v_3),((v_1+v_3)+1)]).length)→(Zfu [I (-1),I (v_1+v_3),I ((v_1+v_3)+1)] 1) i_=(fI ([(-1),(v_1+v_3),((v_1+v_3)+1)])) i_∨(AV.idsL ((fI ([(-1),(v_1+v_3),((v_1+v_3)+1)])) i_)=[]∧leL (fun _=>none) false ((Zfu [I (-1),I (v_1+v_3),I ((v_1+v_3)+1)] 1) i_) ((fI ([(-1),(v_1+v_3),((v_1+v_3)+1)])) i_)))∧(((Zaa s'_5:Ob)=Zaa s'_5∨Zdt Zdh true (Zaa s'_5) (Zaa s'_5))∧Zal false (Zaa s'_5))∧True] ⟨(Zah om om),⟨hc6,⟨(fun h=>by cases h),rfl,(by first|rfl|(simp;done)|(simp;omega)|omega),fun i_ hi_=> .inl (match i_,hi_ with|0,_=>rfl|1,_=>rfl|2,_=>rfl|(i+3),h=>absurd h (by simp))⟩,⟨.inl rfl,(by simp [Zal,Zaf,Zaj,Zcc])⟩,trivial⟩,trivial⟩ (Zbt 0 (Zad ?_))
     refine xR [] [2] [2,7001] [.ref 2 0] [some (.box [I v_6,I v_2,I (v_1+v_3),I (v_2+v_4)]),some (Zaa s'_6)] [] trivial (Zcl ?_)
     refine Zbs ((Box.mk v_6 v_2 (v_1+v_3) (v_2+v_4)),s'_6) (show (Zbb s'_6)∧(s'_6.code=s.code)∧(s.atx+0≤s'_6.atx∧s'_6.atx≤s.atx+60)∧(True) from ⟨(by first|omega|assumption|rfl|(simp;done)|(simp;omega)|(simp_all;done)),(by first|omega|assumption|rfl|(simp;done)|(simp;omega)|(simp_all;done)),(by first|omega|assumption|rfl|(simp;done)|(simp;omega)|(simp_all;done)),trivial⟩) (⟨.inl rfl,trivial⟩) (.agg [I v_6,I v_2,I (v_1+v_3),I (v_2+v_4)]) (by kernel_rfl) (.inl rfl) (fun _=>rfl) (fun _=>(by simp [Zaj,Zaf]))
    refine x_q [(0,.dec false)] [0,2,5,22,23] [2,5,7001] [_] ⟨h1,trivial⟩ (Zad (Ziv (Zau ?_)))
    by_cases h2:v_5=1
    ·refine x_q [(0,.dec true)] [0,2,5,34] [2,5,7001] [_] ⟨h2,trivial⟩ (Zad (Zib ?_))
     obtain ⟨v_7,s'_7,hx7_0,hx7_1,hx7_2,hx7_3,hc7⟩:=Zgw s'_5 ([4095,4096,(-1)]) (by first|assumption|(simp only [Zbb] at*;simp_all;done)) om (by simp)
     refine x_q [(1,.new 37),(2,.lend [(7001,Zaa s'_5,Zaa s'_7)] [] [(true,.any),(false,slI false ([4095,4096,(-1)]))] true (I v_7))] [2,5] [2,5,7001] [Zap Try.prog 42 [.ref 7001 0,slI false ([4095,4096,(-1)])] (Zac [(7001,Zaa s'_5)]) true (I v_7) (Zac [(7001,Zaa s'_7)])∧((false=true→true=true)∧1=1∧3=(([4095,4096,(-1)]).length)∧∀i_,i_<(([4095,4096,(-1)]).length)→(Zfu [I 4095,I 4096,I (-1)] 1) i_=(fI ([4095,4096,(-1)])) i_∨(AV.idsL ((fI ([4095,4096,(-1)])) i_)=[]∧leL (fun _=>none) false ((Zfu [I 4095,I 4096,I (-1)] 1) i_) ((fI ([4095,4096,(-1)])) i_)))∧(((Zaa s'_5:Ob)=Zaa s'_5∨Zdt Zdh true (Zaa s'_5) (Zaa s'_5))∧Zal false (Zaa s'_5))∧True] ⟨⟨hc7,⟨(fun h=>by cases h),rfl,(by first|rfl|(simp;done)|(simp;omega)|omega),fun i_ hi_=> .inl (match i_,hi_ with|0,_=>rfl|1,_=>rfl|2,_=>rfl|(i+3),h=>absurd h (by simp))⟩,⟨.inl rfl,(by simp [Zal,Zaf,Zaj,Zcc])⟩,trivial⟩,trivial⟩ (Zbt 0 (Zad ?_))
     refine xR [] [2] [2,7001] [.ref 2 0] [some (.box [I v_1,I v_2,I (v_1+v_3),I v_7]),some (Zaa s'_7)] [] trivial (Zcl ?_)
     refine Zbs ((Box.mk v_1 v_2 (v_1+v_3) v_7),s'_7) (show (Zbb s'_7)∧(s'_7.code=s.code)∧(s.atx+0≤s'_7.atx∧s'_7.atx≤s.atx+60)∧(True) from ⟨(by first|omega|assumption|rfl|(simp;done)|(simp;omega)|(simp_all;done)),(by first|omega|assumption|rfl|(simp;done)|(simp;omega)|(simp_all;done)),(by first|omega|assumption|rfl|(simp;done)|(simp;omega)|(simp_all;done)),trivial⟩) (⟨.inl rfl,trivial⟩) (.agg [I v_1,I v_2,I (v_1+v_3),I v_7]) (by kernel_rfl) (.inl rfl) (fun _=>rfl) (fun _=>(by simp [Zaj,Zaf]))
    refine x_q [(0,.dec false)] [0,2,5,34] [2,5,7001] [_] ⟨h2,trivial⟩ (Zad (Ziv (Zca (Zbt 0 (Zad ?_)))))
    refine xR [] [2] [2,7001] [.ref 2 0] [some (.box [I v_1,I v_2,I (v_1+v_3),I (v_2+v_4)]),some (Zaa s'_5)] [] trivial (Zcl ?_)
    refine Zbs ((Box.mk v_1 v_2 (v_1+v_3) (v_2+v_4)),s'_5) (show (Zbb s'_5)∧(s'_5.code=s.code)∧(s.atx+0≤s'_5.atx∧s'_5.atx≤s.atx+60)∧(True) from ⟨(by first|omega|assumption|rfl|(simp;done)|(simp;omega)|(simp_all;done)),(by first|omega|assumption|rfl|(simp;done)|(simp;omega)|(simp_all;done)),(by first|omega|assumption|rfl|(simp;done)|(simp;omega)|(simp_all;done)),trivial⟩) (⟨.inl rfl,trivial⟩) (.agg [I v_1,I v_2,I (v_1+v_3),I (v_2+v_4)]) (by kernel_rfl) (.inl rfl) (fun _=>rfl) (fun _=>(by simp [Zaj,Zaf]))
  obtain ⟨⟨v,s'⟩,⟨hh0,hh1,hh2,_⟩,hc⟩:=hh
  exact ⟨v,s',hh0,hh1,hh2,hc⟩
theorem Ztc (s:l00Src) (hs:Zbb s) (ha:s.atx≤3999999999999999000):∃(v:List Box) (s':l00Src),(v.length≤100)∧(Zbb s')∧(s'.code=s.code)∧(s.atx+0≤s'.atx∧s'.atx≤s.atx+600)∧(smD v)∧Zap Try.prog 30 [.ref 7001 0] (Zac [(7001,Zaa s)]) true (Zag true v) (Zac [(7001,Zaa s')]):=by
  have hh:∃r:(List Box)×l00Src,((r.1.length≤100)∧(Zbb r.2)∧(r.2.code=s.code)∧(s.atx+0≤r.2.atx∧r.2.atx≤s.atx+600)∧(smD r.1)∧(True))∧Zap Try.prog 30 [.ref 7001 0] (Zac [(7001,Zaa s)]) true (Zag true r.1) (Zac [(7001,Zaa r.2)]):=by
    refine Zda (Φ:=fun r:(List Box)×l00Src=>(r.1.length≤100)∧(Zbb r.2)∧(r.2.code=s.code)∧(s.atx+0≤r.2.atx∧r.2.atx≤s.atx+600)∧(smD r.1)∧(True)) [(7001,Zaa s)] (fun r=>[(7001,Zaa r.2)]) (fn:=Try.f30) (nt:=28) Try.func30 rfl rfl (args:=[.ref 7001 0]) rfl (Zax (.inr trivial) Zcz) (res:=fun r=>Zag true r.1) ?_
    refine xQ [] [0] [7001] [] trivial (Zau ?_)
    obtain ⟨s'_1,bs_1,hx1_0,hx1_1,hx1_2,hx1_3,hx1_4,hc1⟩:=Zip s (by first|assumption|(simp only [Zbb] at*;simp_all;done)) om
    refine x_q [(1,.lend [(7001,Zaa s,Zaa s'_1)] [(8231,Zfd bs_1)] [(true,.any)] false (.arr 8231))] [0,3] [7001,8231] [Zap Try.prog 38 [.ref 7001 0] (Zac [(7001,Zaa s)]) false (.arr 8231) (Zac [(7001,Zaa s'_1),(8231,Zfd bs_1)])∧(((Zaa s:Ob)=Zaa s∨Zdt Zdh true (Zaa s) (Zaa s))∧Zal false (Zaa s))∧True] ⟨⟨hc1,⟨.inl rfl,(by simp [Zal,Zaf,Zaj,Zcc])⟩,trivial⟩,trivial⟩ (Zad (Zau (Zau ?_)))
    obtain ⟨v_2,s'_2,hx2_0,hx2_1,hx2_2,hx2_3,hc2⟩:=Zcv s'_1 24 (by first|assumption|(simp only [Zbb] at*;simp_all;done)) om
    refine x_q [(1,.lend [(7001,Zaa s'_1,Zaa s'_2)] [] [(true,.any),(true,.any)] true (I v_2))] [0,3,7] [7001,8231] [Zap Try.prog 39 [.ref 7001 0,I 24] (Zac [(7001,Zaa s'_1)]) true (I v_2) (Zac [(7001,Zaa s'_2)])∧(((Zaa s'_1:Ob)=Zaa s'_1∨Zdt Zdh true (Zaa s'_1) (Zaa s'_1))∧Zal false (Zaa s'_1))∧True] ⟨⟨hc2,⟨.inl rfl,(by simp [Zal,Zaf,Zaj,Zcc])⟩,trivial⟩,trivial⟩ (Zad (Zby (Zau ?_)))
    by_cases h1:v_2=0
    ·refine x_r [(0,.dec true)] [0,3,7,8] [7001,8231] [.ref 7001 0,.arr 8231,I v_2,Bv true] [some (Zaa s'_2),some (Zfd bs_1)] [_] ⟨h1,trivial⟩ (Zad (Zfv rfl ?_))
     obtain ⟨v_3,s'_3,hx3_0,hx3_1,hx3_2,hc3⟩:=Zpx s'_2 (by first|assumption|(simp only [Zbb] at*;simp_all;done)) om
     refine x_q [(2,.lend [(7001,Zaa s'_2,Zaa s'_3)] [] [(true,.any)] true (Zga v_3)),(3,.new 13),(4,.new 14)] [3] [14,7001] [Zap Try.prog 59 [.ref 7001 0] (Zac [(7001,Zaa s'_2)]) true (Zga v_3) (Zac [(7001,Zaa s'_3)])∧(((Zaa s'_2:Ob)=Zaa s'_2∨Zdt Zdh true (Zaa s'_2) (Zaa s'_2))∧Zal false (Zaa s'_2))∧True,(bs_1.length+1)*32≤140737488355328] ⟨⟨hc3,⟨.inl rfl,(by simp [Zal,Zaf,Zaj,Zcc])⟩,trivial⟩,om,trivial⟩ (Zbt 0 (Zad ?_))
     refine xR [] [2] [14,7001] [.arr 14] [some (.arr 4 (bs_1.length+1) (Zgd bs_1.length (Zdi bs_1) (Zfu [I v_3.X1,I v_3.Y1,I v_3.X2,I v_3.Y2] 4))),some (Zaa s'_3)] [] trivial (Zcl ?_)
     refine Zbs ((bs_1++[v_3]),s'_3) (show ((bs_1++[v_3]).length≤100)∧(Zbb s'_3)∧(s'_3.code=s.code)∧(s.atx+0≤s'_3.atx∧s'_3.atx≤s.atx+600)∧(smD (bs_1++[v_3]))∧(True) from ⟨(by first|omega|assumption|rfl|(simp;done)|(simp;omega)|(simp_all;done)|exact .inl (by simp;omega)|exact .inl om|exact Zdg _ _ om),(by first|omega|assumption|rfl|(simp;done)|(simp;omega)|(simp_all;done)|exact .inl (by simp;omega)|exact .inl om|exact Zdg _ _ om),(by first|omega|assumption|rfl|(simp;done)|(simp;omega)|(simp_all;done)|exact .inl (by simp;omega)|exact .inl om|exact Zdg _ _ om),(by first|omega|assumption|rfl|(simp;done)|(simp;omega)|(simp_all;done)|exact .inl (by simp;omega)|exact .inl om|exact Zdg _ _ om),(by first|omega|assumption|rfl|(simp;done)|(simp;omega)|(simp_all;done)|exact .inl (by simp;omega)|exact .inl om|exact Zdg _ _ om),trivial⟩) (⟨.inl rfl,trivial⟩) (.arr 14) (by kernel_rfl) (.inr ⟨(fun _=>rfl),rfl,(by first|rfl|(simp;done)|(simp;omega)|omega),fun i_ hi_=> .inl (Zeg (enc:=Zmo) (xs:=bs_1) rfl i_ hi_)⟩) (fun _=>rfl) (fun _=>(Zbz true _))
    refine x_q [(0,.dec false)] [0,3,7,8] [7001,8231] [_] ⟨h1,trivial⟩ (Zad (Ziv (Zau ?_)))
    by_cases h2:v_2=1
    ·refine x_q [(0,.dec true)] [0,3,7,15] [7001,8231] [_] ⟨h2,trivial⟩ (Zad (Zib ?_))
     refine x_q [(2,.new 19),(3,.new 20)] [3] [20,7001] [(bs_1.length+1)*32≤140737488355328] ⟨om,trivial⟩ (Zbt 0 (Zad ?_))
     refine xR [] [2] [20,7001] [.arr 20] [some (.arr 4 (bs_1.length+1) (Zgd bs_1.length (Zdi bs_1) (Zfu [I 5,I 0,I 4,I 0] 4))),some (Zaa s'_2)] [] trivial (Zcl ?_)
     refine Zbs ((bs_1++[(Box.mk 5 0 4 0)]),s'_2) (show ((bs_1++[(Box.mk 5 0 4 0)]).length≤100)∧(Zbb s'_2)∧(s'_2.code=s.code)∧(s.atx+0≤s'_2.atx∧s'_2.atx≤s.atx+600)∧(smD (bs_1++[(Box.mk 5 0 4 0)]))∧(True) from ⟨(by first|omega|assumption|rfl|(simp;done)|(simp;omega)|(simp_all;done)|exact .inl (by simp;omega)|exact .inl om|exact Zdg _ _ om),(by first|omega|assumption|rfl|(simp;done)|(simp;omega)|(simp_all;done)|exact .inl (by simp;omega)|exact .inl om|exact Zdg _ _ om),(by first|omega|assumption|rfl|(simp;done)|(simp;omega)|(simp_all;done)|exact .inl (by simp;omega)|exact .inl om|exact Zdg _ _ om),(by first|omega|assumption|rfl|(simp;done)|(simp;omega)|(simp_all;done)|exact .inl (by simp;omega)|exact .inl om|exact Zdg _ _ om),(by first|omega|assumption|rfl|(simp;done)|(simp;omega)|(simp_all;done)|exact .inl (by simp;omega)|exact .inl om|exact Zdg _ _ om),trivial⟩) (⟨.inl rfl,trivial⟩) (.arr 20) (by kernel_rfl) (.inr ⟨(fun _=>rfl),rfl,(by first|rfl|(simp;done)|(simp;omega)|omega),fun i_ hi_=> .inl (Zeg (enc:=Zmo) (xs:=bs_1) rfl i_ hi_)⟩) (fun _=>rfl) (fun _=>(Zbz true _))
    refine x_q [(0,.dec false)] [0,3,7,15] [7001,8231] [_] ⟨h2,trivial⟩ (Zad (Ziv (Zau ?_)))
    by_cases h3:v_2=2
    ·refine x_q [(0,.dec true)] [0,3,21] [7001,8231] [_] ⟨h3,trivial⟩ (Zad (Zib ?_))
     obtain ⟨v_4,s'_4,hx4_0,hx4_1,hx4_2,hx4_3,hc4⟩:=Zcv s'_2 2 (by first|assumption|(simp only [Zbb] at*;simp_all;done)) om
     refine x_q [(1,.lend [(7001,Zaa s'_2,Zaa s'_4)] [] [(true,.any),(true,.any)] true (I v_4)),(3,.new 26)] [3] [26,7001] [Zap Try.prog 39 [.ref 7001 0,I 2] (Zac [(7001,Zaa s'_2)]) true (I v_4) (Zac [(7001,Zaa s'_4)])∧(((Zaa s'_2:Ob)=Zaa s'_2∨Zdt Zdh true (Zaa s'_2) (Zaa s'_2))∧Zal false (Zaa s'_2))∧True,inR .i64 (60+v_4),(0:Int)≤(60+v_4)∧((60+v_4):Int)≤(60+v_4)∧(32:Int)*(60+v_4)≤281474976710656∧(60+v_4)≤9223372036854775807] ⟨⟨hc4,⟨.inl rfl,(by simp [Zal,Zaf,Zaj,Zcc])⟩,trivial⟩,(Zah om om),⟨om,om,om,om⟩,trivial⟩ (Zbt 0 (Zad ?_))
     refine xR [] [2] [26,7001] [.arr 26] [some (.arr 4 ((60+v_4).toNat) (fun _=>[I 0,I 0,I 0,I 0])),some (Zaa s'_4)] [] trivial (Zcl ?_)
     refine Zbs ((List.replicate ((60+v_4).toNat) (Box.mk 0 0 0 0)),s'_4) (show ((List.replicate ((60+v_4).toNat) (Box.mk 0 0 0 0)).length≤100)∧(Zbb s'_4)∧(s'_4.code=s.code)∧(s.atx+0≤s'_4.atx∧s'_4.atx≤s.atx+600)∧(smD (List.replicate ((60+v_4).toNat) (Box.mk 0 0 0 0)))∧(True) from ⟨(by first|omega|assumption|rfl|(simp;done)|(simp;omega)|(simp_all;done)|exact .inl (by simp;omega)|exact .inl om|exact Zdg _ _ om),(by first|omega|assumption|rfl|(simp;done)|(simp;omega)|(simp_all;done)|exact .inl (by simp;omega)|exact .inl om|exact Zdg _ _ om),(by first|omega|assumption|rfl|(simp;done)|(simp;omega)|(simp_all;done)|exact .inl (by simp;omega)|exact .inl om|exact Zdg _ _ om),(by first|omega|assumption|rfl|(simp;done)|(simp;omega)|(simp_all;done)|exact .inl (by simp;omega)|exact .inl om|exact Zdg _ _ om),(by first|omega|assumption|rfl|(simp;done)|(simp;omega)|(simp_all;done)|exact .inl (by simp;omega)|exact .inl om|exact Zdg _ _ om),trivial⟩) (⟨.inl rfl,trivial⟩) (.arr 26) (by kernel_rfl) (.inr ⟨(fun _=>rfl),rfl,(by first|rfl|(simp;done)|(simp;omega)|omega),fun i_ hi_=> .inl (Zlg (enc:=Zmo) rfl i_ hi_)⟩) (fun _=>rfl) (fun _=>(Zbz true _))
    refine x_q [(0,.dec false)] [0,3,21] [7001,8231] [_] ⟨h3,trivial⟩ (Zad (Ziv (Zca (Zbt 0 (Zad ?_)))))
    refine xR [] [2] [7001,8231] [.arr 8231] [some (Zaa s'_2),some (Zfd bs_1)] [] trivial (Zcl ?_)
    refine Zbs (bs_1,s'_2) (show (bs_1.length≤100)∧(Zbb s'_2)∧(s'_2.code=s.code)∧(s.atx+0≤s'_2.atx∧s'_2.atx≤s.atx+600)∧(smD bs_1)∧(True) from ⟨(by first|omega|assumption|rfl|(simp;done)|(simp;omega)|(simp_all;done)|exact .inl (by simp;omega)|exact .inl om|exact Zdg _ _ om),(by first|omega|assumption|rfl|(simp;done)|(simp;omega)|(simp_all;done)|exact .inl (by simp;omega)|exact .inl om|exact Zdg _ _ om),(by first|omega|assumption|rfl|(simp;done)|(simp;omega)|(simp_all;done)|exact .inl (by simp;omega)|exact .inl om|exact Zdg _ _ om),(by first|omega|assumption|rfl|(simp;done)|(simp;omega)|(simp_all;done)|exact .inl (by simp;omega)|exact .inl om|exact Zdg _ _ om),(by first|omega|assumption|rfl|(simp;done)|(simp;omega)|(simp_all;done)|exact .inl (by simp;omega)|exact .inl om|exact Zdg _ _ om),trivial⟩) (⟨.inl rfl,trivial⟩) (.arr 8231) (by kernel_rfl) (.inr ⟨(fun _=>rfl),rfl,rfl,fun i _=> .inl rfl⟩) (fun _=>rfl) (fun _=>(Zbz true _))
  obtain ⟨⟨v,s'⟩,⟨hh0,hh1,hh2,hh3,hh4,_⟩,hc⟩:=hh
  exact ⟨v,s',hh0,hh1,hh2,hh3,hh4,hc⟩
theorem Zri (s:l00Src) (n:Int) (hs:Zbb s) (ha:s.atx≤3999999999999999980):∃(v:Bool) (s':l00Src),(Zbb s')∧(s'.code=s.code)∧(s.atx+0≤s'.atx∧s'.atx≤s.atx+2)∧Zap Try.prog 41 [.ref 7001 0,I n] (Zac [(7001,Zaa s)]) true (Bv v) (Zac [(7001,Zaa s')]):=by
 have hh:∃r:Bool×l00Src,((Zbb r.2)∧(r.2.code=s.code)∧(s.atx+0≤r.2.atx∧r.2.atx≤s.atx+2)∧(True))∧Zap Try.prog 41 [.ref 7001 0,I n] (Zac [(7001,Zaa s)]) true (Bv r.1) (Zac [(7001,Zaa r.2)]):=by
  refine Zda (Φ:=fun r:Bool×l00Src=>(Zbb r.2)∧(r.2.code=s.code)∧(s.atx+0≤r.2.atx∧r.2.atx≤s.atx+2)∧(True)) [(7001,Zaa s)] (fun r=>[(7001,Zaa r.2)]) (fn:=Try.f41) (nt:=9) Try.func41 rfl rfl (args:=[.ref 7001 0,I n]) rfl (Zax (.inr trivial) (Zax (.inl ⟨rfl,trivial⟩) Zcz)) (res:=fun r=>Bv r.1) ?_
  refine xQ [] [0,1] [7001] [] trivial (Zau ?_)
  obtain ⟨v_1,s'_1,hx1_0,hx1_1,hx1_2,hx1_3,hc1⟩:=Zcv s n (by first|assumption|(simp only [Zbb] at*;simp_all;done)) om
  refine x_r [(2,.lend [(7001,Zaa s,Zaa s'_1)] [] [(true,.any),(true,.any)] true (I v_1))] [4] [7001] [Bv (decide (v_1=0))] [some (Zaa s'_1)] [Zap Try.prog 39 [.ref 7001 0,I n] (Zac [(7001,Zaa s)]) true (I v_1) (Zac [(7001,Zaa s'_1)])∧(((Zaa s:Ob)=Zaa s∨Zdt Zdh true (Zaa s) (Zaa s))∧Zal false (Zaa s))∧True] ⟨⟨hc1,⟨.inl rfl,(by simp [Zal,Zaf,Zaj,Zcc])⟩,trivial⟩,trivial⟩ (Zad (Zcl ?_))
  refine Zbs (decide (v_1=0),s'_1) (show (Zbb s'_1)∧(s'_1.code=s.code)∧(s.atx+0≤s'_1.atx∧s'_1.atx≤s.atx+2)∧(True) from ⟨(by first|omega|rfl|assumption|(dsimp only;first|omega|rfl|assumption)|(simp only [*];done)|(simp_all;done)),(by first|omega|rfl|assumption|(dsimp only;first|omega|rfl|assumption)|(simp only [*];done)|(simp_all;done)),(by first|omega|rfl|assumption|(dsimp only;first|omega|rfl|assumption)|(simp only [*];done)|(simp_all;done)),trivial⟩) (⟨.inl rfl,trivial⟩) (Bv (decide (v_1=0))) (by kernel_rfl) (.inl rfl) (fun _=>rfl) (fun _=>trivial)
 obtain ⟨⟨v,s'⟩,⟨hh0,hh1,hh2,_⟩,hc⟩:=hh
 exact ⟨v,s',hh0,hh1,hh2,hc⟩
theorem Zpy (s:l00Src) (hs:Zbb s) (ha:s.atx≤3999999999999999940):∃(v:Int) (s':l00Src),(-1≤v∧v≤4096)∧(Zbb s')∧(s'.code=s.code)∧(s.atx+0≤s'.atx∧s'.atx≤s.atx+20)∧Zap Try.prog 31 [.ref 7001 0] (Zac [(7001,Zaa s)]) true (I v) (Zac [(7001,Zaa s')]):=by
  have hh:∃r:Int×l00Src,((-1≤r.1∧r.1≤4096)∧(Zbb r.2)∧(r.2.code=s.code)∧(s.atx+0≤r.2.atx∧r.2.atx≤s.atx+20)∧(True))∧Zap Try.prog 31 [.ref 7001 0] (Zac [(7001,Zaa s)]) true (I r.1) (Zac [(7001,Zaa r.2)]):=by
    refine Zda (Φ:=fun r:Int×l00Src=>(-1≤r.1∧r.1≤4096)∧(Zbb r.2)∧(r.2.code=s.code)∧(s.atx+0≤r.2.atx∧r.2.atx≤s.atx+20)∧(True)) [(7001,Zaa s)] (fun r=>[(7001,Zaa r.2)]) (fn:=Try.f31) (nt:=10) Try.func31 rfl rfl (args:=[.ref 7001 0]) rfl (Zax (.inr trivial) Zcz) (res:=fun r=>I r.1) ?_
    refine xQ [] [0] [7001] [] trivial (Zau (Zau ?_))
    obtain ⟨v_1,s'_1,hx1_0,hx1_1,hx1_2,hc1⟩:=Zri s 12 (by first|assumption|(simp only [Zbb] at*;simp_all;done)) om
    rcases Bool.eq_false_or_eq_true v_1 with h1|h1
    ·subst h1
     refine x_q [(1,.lend [(7001,Zaa s,Zaa s'_1)] [] [(true,.any),(true,.any)] true (Bv true))] [0,4] [7001] [Zap Try.prog 41 [.ref 7001 0,I 12] (Zac [(7001,Zaa s)]) true (Bv true) (Zac [(7001,Zaa s'_1)])∧(((Zaa s:Ob)=Zaa s∨Zdt Zdh true (Zaa s) (Zaa s))∧Zal false (Zaa s))∧True] ⟨⟨hc1,⟨.inl rfl,(by simp [Zal,Zaf,Zaj,Zcc])⟩,trivial⟩,trivial⟩ (Zad (Zib (Zau ?_)))
     obtain ⟨v_2,s'_2,hx2_0,hx2_1,hx2_2,hx2_3,hc2⟩:=Zgw s'_1 ([(-1),0,4095,4096]) (by first|assumption|(simp only [Zbb] at*;simp_all;done)) om (by simp)
     have ham_v_2:v_2=(-1)∨v_2=0∨v_2=4095∨v_2=4096:=by simpa using hx2_0
     refine x_r [(1,.new 6),(2,.lend [(7001,Zaa s'_1,Zaa s'_2)] [] [(true,.any),(false,slI false ([(-1),0,4095,4096]))] true (I v_2))] [2] [7001] [I v_2] [some (Zaa s'_2)] [Zap Try.prog 42 [.ref 7001 0,slI false ([(-1),0,4095,4096])] (Zac [(7001,Zaa s'_1)]) true (I v_2) (Zac [(7001,Zaa s'_2)])∧((false=true→true=true)∧1=1∧4=(([(-1),0,4095,4096]).length)∧∀i_,i_<(([(-1),0,4095,4096]).length)→(Zfu [I (-1),I 0,I 4095,I 4096] 1) i_=(fI ([(-1),0,4095,4096])) i_∨(AV.idsL ((fI ([(-1),0,4095,4096])) i_)=[]∧leL (fun _=>none) false ((Zfu [I (-1),I 0,I 4095,I 4096] 1) i_) ((fI ([(-1),0,4095,4096])) i_)))∧(((Zaa s'_1:Ob)=Zaa s'_1∨Zdt Zdh true (Zaa s'_1) (Zaa s'_1))∧Zal false (Zaa s'_1))∧True] ⟨⟨hc2,⟨(fun h=>by cases h),rfl,(by first|rfl|(simp;done)|(simp;omega)|omega),fun i_ hi_=> .inl (match i_,hi_ with|0,_=>rfl|1,_=>rfl|2,_=>rfl|3,_=>rfl|(i+4),h=>absurd h (by simp))⟩,⟨.inl rfl,(by simp [Zal,Zaf,Zaj,Zcc])⟩,trivial⟩,trivial⟩ (Zad (Zcl (Zcy ?_)))
     refine Zbs (v_2,s'_2) (show (-1≤v_2∧v_2≤4096)∧(Zbb s'_2)∧(s'_2.code=s.code)∧(s.atx+0≤s'_2.atx∧s'_2.atx≤s.atx+20)∧(True) from ⟨(by first|omega|assumption|rfl|(simp;done)|(simp;omega)|(simp_all;done)),(by first|omega|assumption|rfl|(simp;done)|(simp;omega)|(simp_all;done)),(by first|omega|assumption|rfl|(simp;done)|(simp;omega)|(simp_all;done)),(by first|omega|assumption|rfl|(simp;done)|(simp;omega)|(simp_all;done)),trivial⟩) (⟨.inl rfl,trivial⟩) (I v_2) (by kernel_rfl) (.inl rfl) (fun _=>rfl) (fun _=>trivial)
    subst h1
    refine x_q [(1,.lend [(7001,Zaa s,Zaa s'_1)] [] [(true,.any),(true,.any)] true (Bv false))] [0,4] [7001] [Zap Try.prog 41 [.ref 7001 0,I 12] (Zac [(7001,Zaa s)]) true (Bv false) (Zac [(7001,Zaa s'_1)])∧(((Zaa s:Ob)=Zaa s∨Zdt Zdh true (Zaa s) (Zaa s))∧Zal false (Zaa s))∧True] ⟨⟨hc1,⟨.inl rfl,(by simp [Zal,Zaf,Zaj,Zcc])⟩,trivial⟩,trivial⟩ (Zad (Ziv (Zca (Zad (Zau ?_)))))
    obtain ⟨v_3,s'_3,hx3_0,hx3_1,hx3_2,hx3_3,hc3⟩:=Zcv s'_1 40 (by first|assumption|(simp only [Zbb] at*;simp_all;done)) om
    refine x_r [(1,.lend [(7001,Zaa s'_1,Zaa s'_3)] [] [(true,.any),(true,.any)] true (I v_3))] [2] [7001] [I v_3] [some (Zaa s'_3)] [Zap Try.prog 39 [.ref 7001 0,I 40] (Zac [(7001,Zaa s'_1)]) true (I v_3) (Zac [(7001,Zaa s'_3)])∧(((Zaa s'_1:Ob)=Zaa s'_1∨Zdt Zdh true (Zaa s'_1) (Zaa s'_1))∧Zal false (Zaa s'_1))∧True] ⟨⟨hc3,⟨.inl rfl,(by simp [Zal,Zaf,Zaj,Zcc])⟩,trivial⟩,trivial⟩ (Zad (Zcl ?_))
    refine Zbs (v_3,s'_3) (show (-1≤v_3∧v_3≤4096)∧(Zbb s'_3)∧(s'_3.code=s.code)∧(s.atx+0≤s'_3.atx∧s'_3.atx≤s.atx+20)∧(True) from ⟨(by first|omega|assumption|rfl|(simp;done)|(simp;omega)|(simp_all;done)),(by first|omega|assumption|rfl|(simp;done)|(simp;omega)|(simp_all;done)),(by first|omega|assumption|rfl|(simp;done)|(simp;omega)|(simp_all;done)),(by first|omega|assumption|rfl|(simp;done)|(simp;omega)|(simp_all;done)),trivial⟩) (⟨.inl rfl,trivial⟩) (I v_3) (by kernel_rfl) (.inl rfl) (fun _=>rfl) (fun _=>trivial)
  obtain ⟨⟨v,s'⟩,⟨hh0,hh1,hh2,hh3,_⟩,hc⟩:=hh
  exact ⟨v,s',hh0,hh1,hh2,hh3,hc⟩
theorem Zld (code:List Int) (hc:(∀j,j<code.length→0≤at_ code j∧at_ code j≤255)∧code.length≤4611686018427387904):∃(boxes:List Box) (gap:Int),(boxes.length≤100)∧(smD boxes)∧Con Try.prog 6 [Zcu false code] true (.tup [Zag true boxes,I gap]):=by
 have hh:∃r:(List Box)×Int,((r.1.length≤100)∧(smD r.1)∧(True))∧Zap Try.prog 6 [Zcu false code] (Zac []) true (.tup [Zag true r.1,I r.2]) (Zac []):=by
  refine Zda (Φ:=fun r:(List Box)×Int=>(r.1.length≤100)∧(smD r.1)∧(True)) [] (fun r=>[]) (fn:=Try.f6) (nt:=13) Try.func6 rfl rfl (args:=[Zcu false code]) rfl (Zax (.inl ⟨rfl,Zcc false _⟩) Zcz) (res:=fun r=> .tup [Zag true r.1,I r.2]) ?_
  refine xQ [] [0] [] [] trivial (Zau ?_)
  obtain ⟨s'_1,hx1_0,hc1⟩:=Zka code
  have hsrc:Zbb s'_1:=⟨by rw [hx1_0.1];exact hc.1,by rw [hx1_0.2];decide,by rw [hx1_0.1];exact hc.2⟩
  have hat0:=hx1_0.2
  refine x_q [(1,.lend [] [(7001,Zaa s'_1)] [(true,.any)] false (.ref 7001 0))] [4] [7001] [Zap Try.prog 29 [Zcu false code] (Zac []) false (.ref 7001 0) (Zac [(7001,Zaa s'_1)])∧True] ⟨⟨hc1,trivial⟩,trivial⟩ (Zad (Zau ?_))
  obtain ⟨v_2,s'_2,hx2_0,hx2_1,hx2_2,hx2_3,hx2_4,hc2⟩:=Ztc s'_1 (by first|assumption|(simp only [Zbb] at*;simp_all;done)) om
  refine x_q [(1,.lend [(7001,Zaa s'_1,Zaa s'_2)] [] [(true,.any)] true (Zag true v_2))] [4,5] [7001] [Zap Try.prog 30 [.ref 7001 0] (Zac [(7001,Zaa s'_1)]) true (Zag true v_2) (Zac [(7001,Zaa s'_2)])∧(((Zaa s'_1:Ob)=Zaa s'_1∨Zdt Zdh true (Zaa s'_1) (Zaa s'_1))∧Zal false (Zaa s'_1))∧True] ⟨⟨hc2,⟨.inl rfl,(by simp [Zal,Zaf,Zaj,Zcc])⟩,trivial⟩,trivial⟩ (Zad (Zau ?_))
  obtain ⟨v_3,s'_3,hx3_0,hx3_1,hx3_2,hx3_3,hc3⟩:=Zpy s'_2 (by first|assumption|(simp only [Zbb] at*;simp_all;done)) om
  refine x_r [(2,.lend [(7001,Zaa s'_2,Zaa s'_3)] [] [(true,.any)] true (I v_3))] [2,3] [] [Zag true v_2,I v_3] [] [Zap Try.prog 31 [.ref 7001 0] (Zac [(7001,Zaa s'_2)]) true (I v_3) (Zac [(7001,Zaa s'_3)])∧(((Zaa s'_2:Ob)=Zaa s'_2∨Zdt Zdh true (Zaa s'_2) (Zaa s'_2))∧Zal false (Zaa s'_2))∧True] ⟨⟨hc3,⟨.inl rfl,(by simp [Zal,Zaf,Zaj,Zcc])⟩,trivial⟩,trivial⟩ (Zad (Zcl ?_))
  refine Zbs (v_2,v_3) (show (v_2.length≤100)∧(smD v_2)∧(True) from ⟨(by first|omega|assumption|rfl|(simp;done)|(simp;omega)|(simp_all;done)),(by first|omega|assumption|rfl|(simp;done)|(simp;omega)|(simp_all;done)),trivial⟩) (trivial) (.tup [Zag true v_2,I v_3]) (by kernel_rfl) (.inl rfl) (fun _=>rfl) (fun _=>(by simp [Zaj,Zaf,Zbz]))
 obtain ⟨⟨boxes,gap⟩,⟨hh0,hh1,_⟩,hc⟩:=hh
 exact ⟨boxes,gap,hh0,hh1,hc⟩
theorem Zcq (n:Int) (low:Int) (high:Int):Con Try.prog 43 [I n,I low,I high] true (Bv (inB n low high)):=by
  refine Zcn (fn:=Try.f43) (nt:=15) Try.func43 rfl rfl rfl rfl (by simp [Zaf,Zaj]) fun B hB=> ?_
  refine aQ [] [0,1,2] [] [] hB trivial (Zae ?_)
  by_cases h1:low≤n
  ·refine Zdk [(2,.dec true)] [6] [] [Bv (decide (n≤high))] [] [_] hB ⟨h1,trivial⟩ (Zab (Zav ?_))
   refine Zat hB (Bv (decide (n≤high))) (by kernel_rfl) (.inl (by first|rfl|(refine congrArg Bv ?_;simp [inB, *];done)|(refine congrArg Bv ?_;simp [inB, *];omega)|(refine congrArg Bv ?_;simp_all [inB];done)|(refine congrArg Bv ?_;simp_all [inB];omega))) rfl (fun _=>trivial)
  refine Zdk [(2,.dec false)] [6] [] [Bv false] [] [_] hB ⟨h1,trivial⟩ (Zab (Zav ?_))
  refine Zat hB (Bv false) (by kernel_rfl) (.inl (by first|rfl|(refine congrArg Bv ?_;simp [inB, *];done)|(refine congrArg Bv ?_;simp [inB, *];omega)|(refine congrArg Bv ?_;simp_all [inB];done)|(refine congrArg Bv ?_;simp_all [inB];omega))) rfl (fun _=>trivial)
theorem Ztd (b:Box):Con Try.prog 62 [Zga b] true (Bv (Zdx b)):=by
  refine Zcn (fn:=Try.f62) (nt:=25) Try.func62 rfl rfl rfl rfl (by simp [Zaf,Zaj]) fun B hB=> ?_
  refine aQ [(0,.new 1)] [1] [1] [] hB trivial (Zae ?_)
  rcases Bool.eq_false_or_eq_true (inB b.X1 0 b.X2) with h1|h1
  ·rcases Bool.eq_false_or_eq_true (inB b.Y1 0 b.Y2) with h2|h2
   ·by_cases h3:b.X2≤4095
    ·refine Zdk [(4,.call [(true,.any),(true,.any),(true,.any)] true (Bv true)),(10,.call [(true,.any),(true,.any),(true,.any)] true (Bv true)),(15,.dec true)] [2] [] [Bv (decide (b.Y2≤4095))] [] [Con Try.prog 43 [I b.X1,I 0,I b.X2] true (Bv true)∧True,Con Try.prog 43 [I b.Y1,I 0,I b.Y2] true (Bv true)∧True,_] hB ⟨⟨(Zas h1 (Zcq b.X1 0 b.X2)),trivial⟩,⟨(Zas h2 (Zcq b.Y1 0 b.Y2)),trivial⟩,h3,trivial⟩ (Zab (Zav ?_))
     refine Zat hB (Bv (decide (b.Y2≤4095))) (by kernel_rfl) (.inl (by first|rfl|(refine congrArg Bv ?_;simp [Zdx,inB, *];done)|(refine congrArg Bv ?_;simp [Zdx,inB, *];omega)|(refine congrArg Bv ?_;simp_all [Zdx,inB];done)|(refine congrArg Bv ?_;simp_all [Zdx,inB];omega))) rfl (fun _=>trivial)
    refine Zdk [(4,.call [(true,.any),(true,.any),(true,.any)] true (Bv true)),(10,.call [(true,.any),(true,.any),(true,.any)] true (Bv true)),(15,.dec false)] [2] [] [Bv false] [] [Con Try.prog 43 [I b.X1,I 0,I b.X2] true (Bv true)∧True,Con Try.prog 43 [I b.Y1,I 0,I b.Y2] true (Bv true)∧True,_] hB ⟨⟨(Zas h1 (Zcq b.X1 0 b.X2)),trivial⟩,⟨(Zas h2 (Zcq b.Y1 0 b.Y2)),trivial⟩,h3,trivial⟩ (Zab (Zav ?_))
    refine Zat hB (Bv false) (by kernel_rfl) (.inl (by first|rfl|(refine congrArg Bv ?_;simp [Zdx,inB, *];done)|(refine congrArg Bv ?_;simp [Zdx,inB, *];omega)|(refine congrArg Bv ?_;simp_all [Zdx,inB];done)|(refine congrArg Bv ?_;simp_all [Zdx,inB];omega))) rfl (fun _=>trivial)
   refine Zdk [(4,.call [(true,.any),(true,.any),(true,.any)] true (Bv true)),(10,.call [(true,.any),(true,.any),(true,.any)] true (Bv false))] [2] [] [Bv false] [] [Con Try.prog 43 [I b.X1,I 0,I b.X2] true (Bv true)∧True,Con Try.prog 43 [I b.Y1,I 0,I b.Y2] true (Bv false)∧True] hB ⟨⟨(Zas h1 (Zcq b.X1 0 b.X2)),trivial⟩,⟨(Zas h2 (Zcq b.Y1 0 b.Y2)),trivial⟩,trivial⟩ (Zab (Zav ?_))
   refine Zat hB (Bv false) (by kernel_rfl) (.inl (by first|rfl|(refine congrArg Bv ?_;simp [Zdx,inB, *];done)|(refine congrArg Bv ?_;simp [Zdx,inB, *];omega)|(refine congrArg Bv ?_;simp_all [Zdx,inB];done)|(refine congrArg Bv ?_;simp_all [Zdx,inB];omega))) rfl (fun _=>trivial)
  refine Zdk [(4,.call [(true,.any),(true,.any),(true,.any)] true (Bv false))] [2] [] [Bv false] [] [Con Try.prog 43 [I b.X1,I 0,I b.X2] true (Bv false)∧True] hB ⟨⟨(Zas h1 (Zcq b.X1 0 b.X2)),trivial⟩,trivial⟩ (Zab (Zav ?_))
  refine Zat hB (Bv false) (by kernel_rfl) (.inl (by first|rfl|(refine congrArg Bv ?_;simp [Zdx,inB, *];done)|(refine congrArg Bv ?_;simp [Zdx,inB, *];omega)|(refine congrArg Bv ?_;simp_all [Zdx,inB];done)|(refine congrArg Bv ?_;simp_all [Zdx,inB];omega))) rfl (fun _=>trivial)
theorem Zoa (b:Box):Con Try.prog 61 [Zga b] true (Bv (!(Zdx b))):=by
 refine Zcn (fn:=Try.f61) (nt:=6) Try.func61 rfl rfl rfl rfl (by simp [Zaf,Zaj]) fun B hB=> ?_
 refine aQ [(0,.new 1)] [1] [1] [] hB trivial ?_
 refine aR [(1,.call [(true,.any)] true (Bv (Zdx b)))] [2] [] [Bv (!(Zdx b))] [] [_∧True] hB ⟨⟨(Ztd b),trivial⟩,trivial⟩ (Zav ?_)
 refine Zat hB (Bv (!(Zdx b))) (by kernel_rfl) (.inl rfl) rfl (fun _=>trivial)
theorem Zjp (s:List Box):Con Try.prog 75 [Zag false s,.fn 61 []] true (I (Zed s.length (fun j=>(!(Zdx (at_ s j)))))):=by
  refine Zcn (fn:=Try.f75) (nt:=19) Try.func75 rfl rfl rfl rfl (by simp [Zaf,Zaj,Zbz]) fun B hB=> ?_
  refine Zbk (x:=Zag false s) 0 rfl (fun len_s=> ?_)
  simp [Zco,Zfb,Zmo,Zdi,Zag] at len_s
  refine aQ [] [0,1] [] [] hB trivial (Zae ?_)
  refine aR [] [0,1,7,8] [] [Zag false s,.fn 61 [],I (s.length:Int),I 0] [] [] hB trivial (Zao ?_)
  refine Zbq (fun gn gσ=>∃(t8:Int),gn=((s.length:Int)-t8).toNat∧(0≤t8∧t8≤(s.length:Int))∧(∀j:Nat,(j:Int)<t8→(!(Zdx (at_ s j)))=false)∧gσ=mkS [(0,Zag false s),(1,.fn 61 []),(7,I (s.length:Int)),(8,I t8)] []) (((s.length:Int)-0).toNat) ⟨0,rfl,om,(by intro j hj;omega),rfl⟩ (fun gn gσ hI=> ?_)
  obtain ⟨t8,rfl,hi0,hall0,rfl⟩:=hI
  refine Zae ?_
  by_cases h1:t8<(s.length:Int)
  ·have hi:t8.toNat<s.length:=by omega
   refine Zbm [(0,.dec true)] [0,1,7,8,9] [] [_] hB ⟨h1,trivial⟩ (Zab (Zae (Zbp (Zam (Zab (Zae (Zao ?_)))))))
   refine aQ [] [0,1,5,7,8] [] [] hB trivial (Zae ?_)
   rcases Bool.eq_false_or_eq_true (!(Zdx (at_ s t8.toNat))) with h2|h2
   ·have hfin:Zed s.length (fun j=>(!(Zdx (at_ s j))))=t8.toNat:=Znx hi h2 (fun j hj=>hall0 j om)
    refine Zbm [(5,.call [(true,.any)] true (Bv true))] [0,1,5,7,8,16] [] [(0:Int)≤t8∧t8<(s.length:Int),Con Try.prog 61 [Zga (at_ s t8.toNat)] true (Bv true)∧True] hB ⟨⟨om,om⟩,⟨(Zas h2 (Zoa (at_ s t8.toNat))),trivial⟩,trivial⟩ (Zab (Zbp ?_))
    refine aR [] [4] [] [I t8] [] [] hB trivial (Zav ?_)
    refine Zar (Zak (Zak (Zar (Zak ?_))))
    refine Zat hB (I t8) (by kernel_rfl) (.inl (by refine congrArg I ?_;first|(rw [hfin];done)|(rw [hfin];omega))) rfl (fun _=>trivial)
   refine Zbm [(5,.call [(true,.any)] true (Bv false))] [0,1,5,7,8,16] [] [(0:Int)≤t8∧t8<(s.length:Int),Con Try.prog 61 [Zga (at_ s t8.toNat)] true (Bv false)∧True] hB ⟨⟨om,om⟩,⟨(Zas h2 (Zoa (at_ s t8.toNat))),trivial⟩,trivial⟩ (Zab (Zbc (Zam (Zay 1 (Zab ?_)))))
   refine Zdk [] [0,1,7,8] [] [Zag false s,.fn 61 [],I (s.length:Int),I (t8+1)] [] [inR .i64 (t8+1)] hB ⟨(Zah om om),trivial⟩ ?_
   exact Zaz _ om ⟨(t8+1),rfl,om,(by intro j hj;by_cases ej:j=t8.toNat;(subst ej;first|assumption|rfl);exact hall0 j om),rfl⟩
  have hfin:Zed s.length (fun j=>(!(Zdx (at_ s j))))=-1:=Ziq (fun j hj=>hall0 j om)
  refine Zbm [(0,.dec false)] [0,1,7,8,9] [] [_] hB ⟨h1,trivial⟩ (Zab (Zae (Zbc (Zbr (Zai (Zai (Zaq (Zab ?_))))))))
  refine aR [] [4] [] [I (-1)] [] [] hB trivial (Zav ?_)
  refine Zat hB (I (-1)) (by kernel_rfl) (.inl (by refine congrArg I ?_;first|(rw [hfin];done)|(rw [hfin];omega))) rfl (fun _=>trivial)
theorem Zne (s:List Box):Con Try.prog 60 [Zag false s,.fn 61 []] true (Bv (Zsu s.length (fun j=>(!(Zdx (at_ s j)))))):=by
 refine Zcn (fn:=Try.f60) (nt:=9) Try.func60 rfl rfl rfl rfl (by simp [Zaf,Zaj,Zbz]) fun B hB=> ?_
 refine Zbk (x:=Zag false s) 0 rfl (fun len_s=> ?_)
 simp [Zco,Zfb,Zmo,Zdi,Zag] at len_s
 refine aQ [] [0,1] [] [] hB trivial ?_
 refine aR [(2,.call [(true,.any),(true,.any)] true (I (Zed s.length (fun j=>(!(Zdx (at_ s j)))))))] [4] [] [Bv (decide (0≤(Zed s.length (fun j=>(!(Zdx (at_ s j)))))))] [] [_∧True] hB ⟨⟨(Zjp s),trivial⟩,trivial⟩ (Zav ?_)
 refine Zat hB (Bv (decide (0≤(Zed s.length (fun j=>(!(Zdx (at_ s j)))))))) (by kernel_rfl) (.inl (by exact congrArg Bv (Zny _ _))) rfl (fun _=>trivial)
theorem Zjh (boxes:List Box):Con Try.prog 32 [Zag false boxes] true (Bv (Zbx boxes)):=by
  refine Zcn (fn:=Try.f32) (nt:=11) Try.func32 rfl rfl rfl rfl (by simp [Zaf,Zaj,Zbz]) fun B hB=> ?_
  refine Zbk (x:=Zag false boxes) 0 rfl (fun len_boxes=> ?_)
  simp [Zco,Zfb,Zmo,Zdi,Zag] at len_boxes
  refine aQ [] [0] [] [] hB trivial (Zae ?_)
  by_cases h1:(boxes.length:Int)≤60
  ·refine Zdk [(2,.dec true),(5,.call [(true,.any),(true,.any)] true (Bv (Zsu boxes.length (fun j=>(!(Zdx (at_ boxes j)))))))] [2] [] [Bv (!(Zsu boxes.length (fun j=>(!(Zdx (at_ boxes j))))))] [] [_,_∧True] hB ⟨h1,⟨(Zne boxes),trivial⟩,trivial⟩ (Zab (Zav ?_))
   refine Zat hB (Bv (!(Zsu boxes.length (fun j=>(!(Zdx (at_ boxes j))))))) (by kernel_rfl) (.inl (by refine congrArg Bv ?_;unfold Zbx;first|(rw [decide_eq_false om];rfl)|(rw [Zpo,decide_eq_true om];simp))) rfl (fun _=>trivial)
  refine Zdk [(2,.dec false)] [2] [] [Bv false] [] [_] hB ⟨h1,trivial⟩ (Zab (Zav ?_))
  refine Zat hB (Bv false) (by kernel_rfl) (.inl (by refine congrArg Bv ?_;unfold Zbx;first|(rw [decide_eq_false om];rfl)|(rw [Zpo,decide_eq_true om];simp))) rfl (fun _=>trivial)
theorem Zut (n:Int):Con Try.prog 33 [I n] true (Bv (inB n 0 4095)):=by
 refine Zcn (fn:=Try.f33) (nt:=5) Try.func33 rfl rfl rfl rfl (by simp [Zaf,Zaj]) fun B hB=> ?_
 refine aQ [] [0] [] [] hB trivial ?_
 refine aR [(1,.call [(true,.any),(true,.any),(true,.any)] true (Bv (inB n 0 4095)))] [2] [] [Bv (inB n 0 4095)] [] [_∧True] hB ⟨⟨(Zcq n 0 4095),trivial⟩,trivial⟩ (Zav ?_)
 refine Zat hB (Bv (inB n 0 4095)) (by kernel_rfl) (.inl rfl) rfl (fun _=>trivial)
theorem Zru (x:Int):Con Try.prog 77 [I x] true (Bv false):=by
 refine Zcn (fn:=Try.f77) (nt:=6) Try.func77 rfl rfl rfl rfl (by simp [Zaf,Zaj]) fun B hB=> ?_
 refine aQ [] [0] [] [] hB trivial ?_
 refine aR [(2,.dec false)] [2] [] [Bv false] [] [¬ (x≠x)] hB ⟨(fun hq=>hq rfl),trivial⟩ (Zav ?_)
 refine Zat hB (Bv false) (by kernel_rfl) (.inl rfl) rfl (fun _=>trivial)
theorem Zhb (x:Int) (y:Int):Con Try.prog 65 [I x,I y] true (I (Zel x y)):=by
  refine Zcn (fn:=Try.f65) (nt:=20) Try.func65 rfl rfl rfl rfl (by simp [Zaf,Zaj]) fun B hB=> ?_
  refine aQ [] [0,1] [] [] hB trivial ?_
  refine aQ [(1,.call [(true,.any)] true (Bv false))] [0,1,5] [] [_∧True] hB ⟨⟨(Zru x),trivial⟩,trivial⟩ ?_
  refine aQ [(1,.call [(true,.any)] true (Bv false))] [0,1,5,6] [] [_∧True] hB ⟨⟨(Zru y),trivial⟩,trivial⟩ (Zae ?_)
  refine aR [] [0,1,6,11] [] [I x,I y,Bv false,Bv false] [] [] hB trivial (Zdc rfl (Zam (Zab (Zae ?_))))
  refine aQ [] [0,1,13] [] [] hB trivial (Zbc (Zam (Zab (Zae (Zae ?_)))))
  by_cases h1:x<y
  ·refine Zbm [(2,.dec true)] [0,1,16] [] [_] hB ⟨h1,trivial⟩ (Zab (Zbp ?_))
   refine aR [] [4] [] [I (-1)] [] [] hB trivial (Zav (Zak ?_))
   refine Zat hB (I (-1)) (by kernel_rfl) (.inl (by refine congrArg I ?_;unfold Zel;first|(rw [if_pos om];done)|(rw [if_neg om,if_pos om];done)|(rw [if_neg om,if_neg om];done))) rfl (fun _=>trivial)
  refine Zbm [(2,.dec false)] [0,1,16] [] [_] hB ⟨h1,trivial⟩ (Zab (Zbc (Zam (Zab (Zae (Zae ?_))))))
  by_cases h2:y<x
  ·refine Zbm [(2,.dec true)] [19] [] [_] hB ⟨h2,trivial⟩ (Zab (Zbp ?_))
   refine aR [] [4] [] [I 1] [] [] hB trivial (Zav (Zak ?_))
   refine Zat hB (I 1) (by kernel_rfl) (.inl (by refine congrArg I ?_;unfold Zel;first|(rw [if_pos om];done)|(rw [if_neg om,if_pos om];done)|(rw [if_neg om,if_neg om];done))) rfl (fun _=>trivial)
  refine Zbm [(2,.dec false)] [19] [] [_] hB ⟨h2,trivial⟩ (Zab (Zbc (Zam (Zab ?_))))
  refine aR [] [4] [] [I 0] [] [] hB trivial (Zav ?_)
  refine Zat hB (I 0) (by kernel_rfl) (.inl (by refine congrArg I ?_;unfold Zel;first|(rw [if_pos om];done)|(rw [if_neg om,if_pos om];done)|(rw [if_neg om,if_neg om];done))) rfl (fun _=>trivial)
theorem Zcr (i:Int) (j:Int) (boxes:List Box) (ha:0≤i∧i<(boxes.length:Int)) (hb:0≤j∧j<(boxes.length:Int)):Con Try.prog 64 [I i,I j,.ptr false [Zag false boxes]] true (I (cY boxes i j)):=by
 refine Zcn (fn:=Try.f64) (nt:=17) Try.func64 rfl rfl rfl rfl (by simp [Zaf,Zaj,Zbz]) fun B hB=> ?_
 refine Zbk (x:= .ptr false [Zag false boxes]) 2 rfl (fun len_boxes=> ?_)
 simp [Zco,Zfb,Zmo,Zdi,Zag] at len_boxes
 refine aQ [] [0,1,2] [] [] hB trivial ?_
 refine aR [(10,.call [(true,.any),(true,.any)] true (I (Zel ((at_ boxes i.toNat).Y1) ((at_ boxes j.toNat).Y1))))] [5] [] [I (Zel ((at_ boxes i.toNat).Y1) ((at_ boxes j.toNat).Y1))] [] [(0:Int)≤i∧i<(boxes.length:Int),(0:Int)≤j∧j<(boxes.length:Int),_∧True] hB ⟨⟨om,om⟩,⟨om,om⟩,⟨(Zhb ((at_ boxes i.toNat).Y1) ((at_ boxes j.toNat).Y1)),trivial⟩,trivial⟩ (Zav ?_)
 refine Zat hB (I (Zel ((at_ boxes i.toNat).Y1) ((at_ boxes j.toNat).Y1))) (by kernel_rfl) (.inl (by first|rfl|(refine congrArg Bv ?_;simp [*];done)|(refine congrArg Bv ?_;simp [*];omega)|(refine congrArg Bv ?_;simp_all [];done)|(refine congrArg Bv ?_;simp_all [];omega))) rfl (fun _=>trivial)
theorem OrI_ok (vals:List Int):Con Try.prog 81 [slI false vals] true (I (orL vals)):=by
  refine Zcn (fn:=Try.f81) (nt:=18) Try.func81 rfl rfl rfl rfl (by simp [Zaf,Zaj,Zje]) fun B hB=> ?_
  refine Zbk (x:=slI false vals) 0 rfl (fun len_vals=> ?_)
  simp [Zco,Zfb,cI,fI,slI] at len_vals
  refine aQ [] [0] [] [] hB trivial ?_
  refine aQ [] [0,3] [] [] hB trivial (Zae ?_)
  refine aR [] [3,6,7,8] [] [I 0,slI false vals,I (vals.length:Int),I 0] [] [] hB trivial (Zao ?_)
  refine Zbq (fun gn gσ=>∃(t8:Int),gn=((vals.length:Int)-t8).toNat∧(0≤t8∧t8≤(vals.length:Int))∧(∀j:Nat,(j:Int)<t8→at_ vals j=0)∧gσ=mkS [(3,I 0),(6,slI false vals),(7,I (vals.length:Int)),(8,I t8)] []) (((vals.length:Int)-0).toNat) ⟨0,rfl,om,(by intro j hj;omega),rfl⟩ (fun gn gσ hI=> ?_)
  obtain ⟨t8,rfl,hi0,hz0,rfl⟩:=hI
  refine Zae ?_
  by_cases h1:t8<(vals.length:Int)
  ·have hi:t8.toNat<vals.length:=by omega
   refine Zbm [(0,.dec true)] [3,6,7,8,9] [] [_] hB ⟨h1,trivial⟩ (Zab (Zae (Zbp (Zam (Zab (Zae (Zao ?_)))))))
   refine aQ [] [3,5,6,7,8] [] [(0:Int)≤t8∧t8<(vals.length:Int)] hB ⟨⟨om,om⟩,trivial⟩ (Zae ?_)
   by_cases h2:(at_ vals t8.toNat)=0
   ·refine Zbm [(2,.dec false)] [3,5,6,7,8,14] [] [¬ ((at_ vals t8.toNat)≠0)] hB ⟨(fun hq=>hq h2),trivial⟩ (Zab (Zbc (Zam (Zay 1 (Zab ?_)))))
    refine Zdk [] [3,6,7,8] [] [I 0,slI false vals,I (vals.length:Int),I (t8+1)] [] [inR .i64 (t8+1)] hB ⟨(Zah om om),trivial⟩ ?_
    exact Zaz _ om ⟨(t8+1),rfl,om,(by intro j hj;by_cases ej:j=t8.toNat;(subst ej;assumption);exact hz0 j om),rfl⟩
   refine Zbm [(2,.dec true)] [3,5,6,7,8,14] [] [_] hB ⟨h2,trivial⟩ (Zab (Zbp ?_))
   refine aR [] [2] [] [I (at_ vals t8.toNat)] [] [] hB trivial (Zav ?_)
   refine Zar (Zak (Zak (Zar (Zak ?_))))
   refine Zat hB (I (at_ vals t8.toNat)) (by kernel_rfl) (.inl (by refine congrArg I ?_;first|(rw [Zuv (fun j hj=>hz0 j om)];done)|(rw [Zuu hi (fun j hj=>hz0 j om) (by assumption)];done)|(rw [Zuu hi (fun j hj=>hz0 j om) (by assumption)]))) rfl (fun _=>trivial)
  refine Zbm [(0,.dec false)] [3,6,7,8,9] [] [_] hB ⟨h1,trivial⟩ (Zab (Zae (Zbc (Zbr (Zai (Zai (Zaq (Zab ?_))))))))
  refine aR [] [2] [] [I 0] [] [] hB trivial (Zav ?_)
  refine Zat hB (I 0) (by kernel_rfl) (.inl (by refine congrArg I ?_;first|(rw [Zuv (fun j hj=>hz0 j om)];done)|(rw [Zuu hi (fun j hj=>hz0 j om) (by assumption)];done)|(rw [Zuu hi (fun j hj=>hz0 j om) (by assumption)]))) rfl (fun _=>trivial)
theorem Zek (i:Int) (j:Int) (boxes:List Box) (ha:0≤i∧i<(boxes.length:Int)) (hb:0≤j∧j<(boxes.length:Int)):Con Try.prog 80 [I i,I j,.ptr false [Zag false boxes]] true (I (cL boxes i j)):=by
 refine Zcn (fn:=Try.f80) (nt:=33) Try.func80 rfl rfl rfl rfl (by simp [Zaf,Zaj,Zbz]) fun B hB=> ?_
 refine Zbk (x:= .ptr false [Zag false boxes]) 2 rfl (fun len_boxes=> ?_)
 simp [Zco,Zfb,Zmo,Zdi,Zag] at len_boxes
 refine aQ [] [0,1,2] [] [] hB trivial ?_
 refine aR [(10,.call [(true,.any),(true,.any)] true (I (Zel ((at_ boxes i.toNat).X1) ((at_ boxes j.toNat).X1)))),(21,.call [(true,.any),(true,.any)] true (I (Zel ((at_ boxes i.toNat).X2) ((at_ boxes j.toNat).X2)))),(24,.call [(true,.any),(true,.any)] true (I (Zel i j))),(25,.new 31),(26,.call [(false,slI false ([(Zel ((at_ boxes i.toNat).X1) ((at_ boxes j.toNat).X1)),(Zel ((at_ boxes i.toNat).X2) ((at_ boxes j.toNat).X2)),(Zel i j)]))] true (I (orL ([(Zel ((at_ boxes i.toNat).X1) ((at_ boxes j.toNat).X1)),(Zel ((at_ boxes i.toNat).X2) ((at_ boxes j.toNat).X2)),(Zel i j)]))))] [5] [] [I (orL ([(Zel ((at_ boxes i.toNat).X1) ((at_ boxes j.toNat).X1)),(Zel ((at_ boxes i.toNat).X2) ((at_ boxes j.toNat).X2)),(Zel i j)]))] [] [(0:Int)≤i∧i<(boxes.length:Int),(0:Int)≤j∧j<(boxes.length:Int),_∧True,(0:Int)≤i∧i<(boxes.length:Int),(0:Int)≤j∧j<(boxes.length:Int),_∧True,_∧True,_∧((false=true→true=true)∧1=1∧3=(([(Zel ((at_ boxes i.toNat).X1) ((at_ boxes j.toNat).X1)),(Zel ((at_ boxes i.toNat).X2) ((at_ boxes j.toNat).X2)),(Zel i j)]).length)∧∀i_,i_<(([(Zel ((at_ boxes i.toNat).X1) ((at_ boxes j.toNat).X1)),(Zel ((at_ boxes i.toNat).X2) ((at_ boxes j.toNat).X2)),(Zel i j)]).length)→(Zfu [I (Zel ((at_ boxes i.toNat).X1) ((at_ boxes j.toNat).X1)),I (Zel ((at_ boxes i.toNat).X2) ((at_ boxes j.toNat).X2)),I (Zel i j)] 1) i_=(fI ([(Zel ((at_ boxes i.toNat).X1) ((at_ boxes j.toNat).X1)),(Zel ((at_ boxes i.toNat).X2) ((at_ boxes j.toNat).X2)),(Zel i j)])) i_∨(AV.idsL ((fI ([(Zel ((at_ boxes i.toNat).X1) ((at_ boxes j.toNat).X1)),(Zel ((at_ boxes i.toNat).X2) ((at_ boxes j.toNat).X2)),(Zel i j)])) i_)=[]∧leL (fun _=>none) false ((Zfu [I (Zel ((at_ boxes i.toNat).X1) ((at_ boxes j.toNat).X1)),I (Zel ((at_ boxes i.toNat).X2) ((at_ boxes j.toNat).X2)),I (Zel i j)] 1) i_) ((fI ([(Zel ((at_ boxes i.toNat).X1) ((at_ boxes j.toNat).X1)),(Zel ((at_ boxes i.toNat).X2) ((at_ boxes j.toNat).X2)),(Zel i j)])) i_)))∧True] hB ⟨⟨om,om⟩,⟨om,om⟩,⟨(Zhb ((at_ boxes i.toNat).X1) ((at_ boxes j.toNat).X1)),trivial⟩,⟨om,om⟩,⟨om,om⟩,⟨(Zhb ((at_ boxes i.toNat).X2) ((at_ boxes j.toNat).X2)),trivial⟩,⟨(Zhb i j),trivial⟩,⟨(OrI_ok ([(Zel ((at_ boxes i.toNat).X1) ((at_ boxes j.toNat).X1)),(Zel ((at_ boxes i.toNat).X2) ((at_ boxes j.toNat).X2)),(Zel i j)])),⟨(fun h=>by cases h),rfl,(by first|rfl|(simp;done)|(simp;omega)|omega),fun i_ hi_=> .inl (match i_,hi_ with|0,_=>rfl|1,_=>rfl|2,_=>rfl|(i+3),h=>absurd h (by simp))⟩,trivial⟩,trivial⟩ (Zav ?_)
 refine Zat hB (I (orL ([(Zel ((at_ boxes i.toNat).X1) ((at_ boxes j.toNat).X1)),(Zel ((at_ boxes i.toNat).X2) ((at_ boxes j.toNat).X2)),(Zel i j)]))) (by kernel_rfl) (.inl (by first|rfl|(refine congrArg Bv ?_;simp [*];done)|(refine congrArg Bv ?_;simp [*];omega)|(refine congrArg Bv ?_;simp_all [];done)|(refine congrArg Bv ?_;simp_all [];omega))) rfl (fun _=>trivial)
theorem Znc (boxes:List Box):Con Try.prog 67 [Zag false boxes] false (.fn 80 [.ptr false [Zag false boxes]]):=by
 refine Zcn (fn:=Try.f67) (nt:=4) Try.func67 rfl rfl rfl rfl (by simp [Zaf,Zaj,Zbz]) fun B hB=> ?_
 refine Zbk (x:=Zag false boxes) 0 rfl (fun len_boxes=> ?_)
 simp [Zco,Zfb,Zmo,Zdi,Zag] at len_boxes
 refine aQ [(0,.new 1)] [1] [1] [] hB trivial ?_
 refine aR [] [2] [1] [.fn 80 [.ref 1 0]] [some (.box [Zag false boxes])] [] hB trivial (Zav ?_)
 refine Zat hB (.fn 80 [.ref 1 0]) (by kernel_rfl) (.inr ⟨rfl,⟨⟨(fun h=>by cases h),rfl,⟨⟨(fun h=>by cases h),rfl,rfl,fun i _=> .inl rfl⟩,rfl⟩⟩,rfl⟩⟩) rfl (fun h=>by cases h)
theorem Zyr (x:Int) (h:0≤x∧x≤18446744073709551615):Con Try.prog 79 [.val (.int .u64 x)] true (I ((Lib.bitLen x.toNat:Nat):Int)):=by
 refine Zqg (vals:=[.int .u64 x]) fun w _=> ?_
 refine (Try.bits_Len x w h.1 h.2).mono ?_
 rintro e w' ⟨rfl,rfl⟩
 exact ⟨rfl,Below.refl _ _⟩
end Go.Proofs.Ytfafngbbaplknaa.Ax
